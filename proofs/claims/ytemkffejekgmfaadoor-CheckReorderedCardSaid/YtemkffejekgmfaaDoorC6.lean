/- check.typeError, ruleError, quorumError. -/
import Derived.Test.YtemkffejekgmfaaDoorC4
import Derived.Test.YtemkffejekgmfaaDoorC5
import Derived.Test.YtemkffejekgmfaaDoorS1
namespace Go.Proofs.YtemkffejekgmfaaDoor
open Go.RowKit Go.Shelf Go.Lib

theorem RS.take {α : Type} [Inhabited α] {enc : α → List Value} {k : Nat} {w : World} {A : Option Addr} {xs : List α} (h : RS enc k w A xs) (m : Nat) (_hm : m ≤ xs.length) : RS enc k w A (xs.take m) := by
  refine ⟨Nat.le_trans (List.length_take_le' _ _) h.1, fun h0 => ?_⟩
  rw [List.length_take] at h0
  obtain ⟨b, off, rfl, hb, hr⟩ := h.2 (by omega)
  refine ⟨b, off, rfl, hb, fun j hj i u hu => ?_⟩
  rw [List.length_take] at hj
  rw [getElem!_pos _ j (by rw [List.length_take]; omega), List.getElem_take] at hu
  exact hr j (by omega) i u (by rw [getElem!_pos xs j (by omega)]; exact hu)

/-- A literal's cells. -/
theorem RS_lit {α : Type} [Inhabited α] {enc : α → List Value} {k : Nat} {w : World} {b : Nat} {xs : List α} (hk : ∀ x, (enc x).length = k) (hl : xs.length ≤ 140737488355328) (hb : b < w.heap.size)
    (h : ∀ i u, (xs.flatMap enc)[i]? = some u → w.cell? ⟨b, i, none⟩ = some u) : RS enc k w (some ⟨b, 0, none⟩) xs :=
  ⟨hl, fun _ => ⟨b, 0, rfl, hb, fun j hj i u hu => by
    have hi : i < k := by have := (List.getElem?_eq_some_iff.1 hu).1; rwa [hk] at this
    rw [Nat.zero_add]
    exact h _ _ (by rw [flat_get hk xs j i hj hi]; exact hu)⟩⟩

theorem wrong_lit (n : Nat) (xs : List Wn) (hn : xs.length = n) (b : Nat) (w : World) (hb : b < w.heap.size) (hl : n ≤ 140737488355328) (h : ∀ i u, (xs.flatMap encWn)[i]? = some u → w.cell? ⟨b, i, none⟩ = some u) (R : Bool) (hR : xs.any wrongB = R) :
    Calls Tryd.prog 43 #[.slice (some ⟨b, 0, none⟩) n n] w fun e w' => e = .returned (.bool R) ∧ Below w.heap.size w w' := by
  subst hn hR
  exact wrong_any (some ⟨b, 0, none⟩) xs.length xs w (RS_lit (fun _ => rfl) hl hb h)

def errP (lim arg nm dup : Bool) : Int := if lim then 2 else if nm || dup then 4 else if arg then 1 else 0
def typeErr (l : List Ty) (k : Nat) : Int :=
  errP (decide (32 ≤ k)) ([(⟨l[k]!.flags, 0, 127⟩ : Wn), ⟨l[k]!.life, 0, 1099511627776⟩].any wrongB) (!nameB l[k]!.name) ((l.take k).any (fun o => decide (o.name = l[k]!.name)))

theorem enters_typeName : ∀ args w, (callFunc 42 args).run Tryd.prog w = .ok (.enter 42 args) w := enters_of Tryd.func42 (by kernel_rfl) rfl

theorem alloc_lit (w : World) (cs : List Value) (T : TypeId) (i : Nat) (u : Value) (h : cs[i]? = some u) : (w.alloc (.cells cs.toArray T)).cell? ⟨w.heap.size, i, none⟩ = some u := by
  rw [World.cell?_alloc_mark w cs.toArray T (0, 0) i]; simpa using h

theorem alloc_at (w : World) (b : Nat) (hb : b = w.heap.size) (cs : List Value) (T : TypeId) (i : Nat) (u : Value) (h : cs[i]? = some u) : (w.alloc (.cells cs.toArray T)).cell? ⟨b, i, none⟩ = some u := by
  subst hb; exact alloc_lit w cs T i u h

set_option maxRecDepth 100000 in
set_option maxHeartbeats 2000000 in
theorem typeError_any (A : Option Addr) (c : Nat) (l : List Ty) (k : Nat) (w : World) (hk : k < l.length) (hc : l.length ≤ c) (hx : RS encTy 3 w A l) (hn : ∀ t ∈ l, t.name.size ≤ 140737488355328) :
    Calls Tryd.prog 24 #[.slice A l.length c, .int .i64 k] w fun e w' => e = .returned (.int .i64 (typeErr l k)) ∧ Below w.heap.size w w' := by
  have hl := hx.1
  obtain ⟨b, off, rfl, hb, hcell⟩ := hx.at (Below.refl _ w) k hk
  have hnk : l[k]!.name.size ≤ 140737488355328 := by
    rw [getElem!_pos l k hk]; exact hn _ (List.getElem_mem hk)
  have cN := fun W => name_any l[k]!.name W hnk
  have cC := fun W (hW : Below w.heap.size w W) (hcW : W.cell? ⟨w.heap.size, 0, none⟩ = some (.string l[k]!.name)) (hsW : w.heap.size < W.heap.size) => containsFunc_Type (fun o => decide (o.name = l[k]!.name)) 42 #[.pointer (some ⟨w.heap.size, 0, none⟩)] enters_typeName (some ⟨b, off, none⟩) c (l.take k) W (pred_typeName l[k]! w.heap.size W hsW hcW) ((hx.below hW).take k (by omega))
  have cW := fun B W hB h => wrong_lit 2 [(⟨l[k]!.flags, 0, 127⟩ : Wn), ⟨l[k]!.life, 0, 1099511627776⟩] rfl B W hB (by omega) h _ rfl
  rw [List.length_take, Nat.min_eq_left (by omega)] at cC
  unfold typeErr
  clear hx hn
  generalize ht : l[k]! = t at *
  clear ht
  generalize nameB t.name = nm at *
  generalize (l.take k).any _ = dup at *
  generalize List.any _ wrongB = wr at *
  have d0 := hcell 0 _ rfl
  have d1 := hcell 1 _ rfl
  have d2 := hcell 2 _ rfl
  simp only [Nat.add_zero] at d0
  clear hcell hnk
  have hA : Below w.heap.size w (w.alloc (.cells #[.string t.name, .int .i64 t.flags, .int .i64 t.life] 46)) := (Below.refl _ _).alloc (Nat.le_refl _) _
  generalize hln : l.length = n at *
  have hkn : (k : Int) < (n : Int) := by omega
  have hk0 : (0 : Int) ≤ (k : Int) := by omega
  have hkc : (k : Int) ≤ (c : Int) := by omega
  clear hln
  by_cases h1 : 32 ≤ k
  · have h1' : (32 : Int) ≤ (k : Int) := by omega
    go_enter Tryd.func24, Tryd.ntmps24
    go_wp2
    go_ret
    refine ⟨?_, hA⟩
    simp [errP, h1]
  · have h1' : ¬ (32 : Int) ≤ (k : Int) := by omega
    cases nm with
    | false =>
      go_enter Tryd.func24, Tryd.ntmps24
      go_wp2_with (go_at_call 15; refine (cN _).mono ?_; rintro e w1 ⟨rfl, hb1⟩)
      go_ret
      refine ⟨?_, hA.trans (hb1.mono (by simp))⟩
      simp [errP, h1]
    | true =>
      have CC := Lib.hid cC
      have CW := Lib.hid cW
      clear cC cW
      go_enter Tryd.func24, Tryd.ntmps24
      go_wp2_with fail
      refine (cN _).mono ?_
      rintro e w1 ⟨rfl, hb1⟩
      have hs1 : w.heap.size < w1.heap.size := by have := hb1.size; simp at this; omega
      have hB1 : Below w.heap.size w w1 := hA.trans (hb1.mono (by simp))
      have e0 : w1.cell? ⟨w.heap.size, 0, none⟩ = some (.string t.name) := (hb1.cell (p := ⟨w.heap.size, 0, none⟩) (by simp)).trans (by simp [go_sem])
      have e1 : w1.cell? ⟨w.heap.size, 1, none⟩ = some (.int .i64 t.flags) := (hb1.cell (p := ⟨w.heap.size, 1, none⟩) (by simp)).trans (by simp [go_sem])
      have e2 : w1.cell? ⟨w.heap.size, 2, none⟩ = some (.int .i64 t.life) := (hb1.cell (p := ⟨w.heap.size, 2, none⟩) (by simp)).trans (by simp [go_sem])
      have HB1 := Lib.hid hb1
      clear hb1
      cases dup with
      | true =>
        go_wp2_with fail
        refine (CC.out _ hB1 e0 hs1).mono ?_
        rintro e w2 ⟨rfl, hb2⟩
        go_wp2
        go_ret
        refine ⟨?_, hB1.trans (hb2.mono (by omega))⟩
        simp [errP, h1]
      | false =>
        go_wp2_with fail
        refine (CC.out _ hB1 e0 hs1).mono ?_
        rintro e w2 ⟨rfl, hb2⟩
        have hs2 := hb2.size
        have hB2 : Below w.heap.size w w2 := hB1.trans (hb2.mono (by omega))
        have f0 := (hb2.cell (p := ⟨w.heap.size, 0, none⟩) hs1).trans e0
        have f1 := (hb2.cell (p := ⟨w.heap.size, 1, none⟩) hs1).trans e1
        have f2 := (hb2.cell (p := ⟨w.heap.size, 2, none⟩) hs1).trans e2
        have HB2 := Lib.hid hb2
        clear hb2 e0 e1 e2
        go_wp2_with fail
        refine (CW.out _ _ (by simp) (fun i u hu => alloc_lit _ _ _ i u hu)).mono ?_
        rintro e w3 ⟨rfl, hb3⟩
        have hB3 : Below w.heap.size w w3 := (hB2.alloc (by omega) _).trans (hb3.mono (by simp; omega))
        have HB3 := Lib.hid hb3
        clear hb3
        cases wr with
        | true =>
          go_wp2
          go_ret
          exact ⟨by simp [errP, h1], hB3⟩
        | false =>
          go_wp2
          go_ret
          exact ⟨by simp [errP, h1], hB3⟩
end Go.Proofs.YtemkffejekgmfaaDoor
