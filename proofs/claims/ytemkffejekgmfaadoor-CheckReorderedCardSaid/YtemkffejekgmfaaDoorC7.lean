/- check.ruleError, quorumError. -/
import Derived.Test.YtemkffejekgmfaaDoorC6
import Derived.Test.YtemkffejekgmfaaDoorQ0
namespace Go.Proofs.YtemkffejekgmfaaDoor
open Go.RowKit Go.Shelf Go.Lib

def errR (lim arg dup : Bool) (d : Int) : Int := if lim then 2 else if arg then 1 else if dup then d else 0
def ruleErr (l : List Rl) (k : Nat) (types : Int) : Int :=
  errR (decide (256 ≤ k)) ([(⟨l[k]!.kind, 1, 5⟩ : Wn), ⟨l[k]!.a, 0, types - 1⟩, ⟨l[k]!.b, 0, types - 1⟩].any wrongB) (decide (l[k]! ∈ l.take k)) 12

set_option maxRecDepth 100000 in
set_option maxHeartbeats 2000000 in
theorem ruleError_any (A : Option Addr) (c : Nat) (l : List Rl) (k : Nat) (types : Int) (w : World) (hk : k < l.length) (hc : l.length ≤ c) (hx : RS encRl 3 w A l) (ht0 : 0 ≤ types) (ht1 : types ≤ 140737488355328) :
    Calls Tryd.prog 25 #[.slice A l.length c, .int .i64 k, .int .i64 types] w fun e w' => e = .returned (.int .i64 (ruleErr l k types)) ∧ Below w.heap.size w w' := by
  have hl := hx.1
  obtain ⟨b, off, rfl, hb, hcell⟩ := hx.at (Below.refl _ w) k hk
  have cC := fun W (hW : Below w.heap.size w W) => contains_Rule (some ⟨b, off, none⟩) c (l.take k) l[k]! W ((hx.below hW).take k (by omega))
  have cW := fun B W hB h => wrong_lit 3 [(⟨l[k]!.kind, 1, 5⟩ : Wn), ⟨l[k]!.a, 0, types - 1⟩, ⟨l[k]!.b, 0, types - 1⟩] rfl B W hB (by omega) h _ rfl
  rw [List.length_take, Nat.min_eq_left (by omega)] at cC
  unfold ruleErr
  clear hx
  generalize ht : l[k]! = t at *
  clear ht
  generalize decide (t ∈ l.take k) = dup at *
  generalize List.any _ wrongB = wr at *
  have d0 := hcell 0 _ rfl
  have d1 := hcell 1 _ rfl
  have d2 := hcell 2 _ rfl
  simp only [Nat.add_zero] at d0
  clear hcell
  have hA : Below w.heap.size w (w.alloc (.cells #[.int .i64 t.kind, .int .i64 t.a, .int .i64 t.b] 40)) := (Below.refl _ _).alloc (Nat.le_refl _) _
  generalize hln : l.length = n at *
  have hkn : (k : Int) < (n : Int) := by omega
  have hk0 : (0 : Int) ≤ (k : Int) := by omega
  have hkc : (k : Int) ≤ (c : Int) := by omega
  clear hln
  by_cases h1 : 256 ≤ k
  · have h1' : (256 : Int) ≤ (k : Int) := by omega
    go_enter Tryd.func25, Tryd.ntmps25
    go_wp2
    go_ret
    exact ⟨by simp [errR, h1], hA⟩
  · have h1' : ¬ (256 : Int) ≤ (k : Int) := by omega
    have CC := Lib.hid cC
    have CW := Lib.hid cW
    clear cC cW
    go_enter Tryd.func25, Tryd.ntmps25
    go_wp2_with fail
    refine (CW.out _ _ (by simp) (fun i u hu => alloc_at _ _ (by simp) _ _ i u hu)).mono ?_
    rintro e w1 ⟨rfl, hb1⟩
    have hs1 : w.heap.size < w1.heap.size := by have := hb1.size; simp at this; omega
    have hB1 : Below w.heap.size w w1 := (hA.alloc (by simp) _).trans (hb1.mono (by simp; omega))
    have e0 : w1.cell? ⟨w.heap.size, 0, none⟩ = some (.int .i64 t.kind) := (hb1.cell (p := ⟨w.heap.size, 0, none⟩) (by simp; omega)).trans (by simp [go_sem])
    have e1 : w1.cell? ⟨w.heap.size, 1, none⟩ = some (.int .i64 t.a) := (hb1.cell (p := ⟨w.heap.size, 1, none⟩) (by simp; omega)).trans (by simp [go_sem])
    have e2 : w1.cell? ⟨w.heap.size, 2, none⟩ = some (.int .i64 t.b) := (hb1.cell (p := ⟨w.heap.size, 2, none⟩) (by simp; omega)).trans (by simp [go_sem])
    have HB1 := Lib.hid hb1
    clear hb1 hA
    cases wr with
    | true =>
      go_wp2
      go_ret
      exact ⟨by simp [errR, h1], hB1⟩
    | false =>
      go_wp2_with fail
      have g0 := fun p : Grows w1 => Grows.cell e0 p
      have g1 := fun p : Grows w1 => Grows.cell e1 p
      have g2 := fun p : Grows w1 => Grows.cell e2 p
      clear e0 e1 e2
      (refine wp_region_grows (by kernel_rfl) (by kernel_rfl) ?_; (repeat quiet_step ((go_at_call 44; exact Grows.call _ (CC.out _ (hB1.trans ((Grows.h _).mono (by omega))))))); refine wpQuiet_nil ?_; intro _ hw'; obtain ⟨gw, hw''⟩ := hw'; subst hw'')
      have hB2 : Below w.heap.size w gw.w := hB1.trans (gw.h.mono (by omega))
      cases dup with
      | true =>
        go_wp2
        go_ret
        exact ⟨by simp [errR, h1], hB2⟩
      | false =>
        go_wp2
        go_ret
        exact ⟨by simp [errR, h1], hB2⟩

def errQ (arg own dup : Bool) : Int := if arg then 1 else if own then 10 else if dup then 12 else 0
def quorumErr (l : List Qm) (k : Nat) : Int :=
  errQ ([(⟨l[k]!.cmd, 1, 27⟩ : Wn), ⟨l[k]!.cnt, 1, 16⟩, ⟨l[k]!.delay, 0, 1099511627776⟩, ⟨l[k]!.valid, l[k]!.delay, 1099511627776⟩, ⟨l[k]!.uses, 1, 1048576⟩].any wrongB)
    (decide (l[k]!.cmd ∈ ([23, 24, 25] : List Int))) ((l.take k).any (fun o => decide (o.cmd = l[k]!.cmd)))

theorem enters_quorumCmd : ∀ args w, (callFunc 47 args).run Tryd.prog w = .ok (.enter 47 args) w := enters_of Tryd.func47 (by kernel_rfl) rfl

/-- The variable 'own', as its initialiser lays it. -/
def OwnLaid (w : World) : Prop := RS encI 1 w (some ⟨0, 0, none⟩) [23, 24, 25]

set_option maxRecDepth 100000 in
set_option maxHeartbeats 2000000 in
theorem quorumError_any (A : Option Addr) (c : Nat) (l : List Qm) (k : Nat) (w : World) (hk : k < l.length) (hc : l.length ≤ c) (hx : RS encQm 5 w A l) (hown : OwnLaid w) :
    Calls Tryd.prog 26 #[.slice A l.length c, .int .i64 k] w fun e w' => e = .returned (.int .i64 (quorumErr l k)) ∧ Below w.heap.size w w' := by
  have hl := hx.1
  obtain ⟨b, off, rfl, hb, hcell⟩ := hx.at (Below.refl _ w) k hk
  have cO := fun W (hW : Below w.heap.size w W) => contains_int (some ⟨0, 0, none⟩) 3 [23, 24, 25] l[k]!.cmd W (RS.below hown hW)
  have cC := fun W (hW : Below w.heap.size w W) (hcW : W.cell? ⟨w.heap.size, 0, none⟩ = some (.int .i64 l[k]!.cmd)) (hsW : w.heap.size < W.heap.size) => containsFunc_Quorum (fun o => decide (o.cmd = l[k]!.cmd)) 47 #[.pointer (some ⟨w.heap.size, 0, none⟩)] enters_quorumCmd (some ⟨b, off, none⟩) c (l.take k) W (pred_quorumCmd l[k]! w.heap.size W hsW hcW) ((hx.below hW).take k (by omega))
  have cW := fun B W hB h => wrong_lit 5 [(⟨l[k]!.cmd, 1, 27⟩ : Wn), ⟨l[k]!.cnt, 1, 16⟩, ⟨l[k]!.delay, 0, 1099511627776⟩, ⟨l[k]!.valid, l[k]!.delay, 1099511627776⟩, ⟨l[k]!.uses, 1, 1048576⟩] rfl B W hB (by omega) h _ rfl
  rw [List.length_take, Nat.min_eq_left (by omega)] at cC
  rw [show ([23, 24, 25] : List Int).length = 3 from rfl] at cO
  unfold quorumErr
  clear hx
  generalize ht : l[k]! = t at *
  clear ht
  generalize (l.take k).any _ = dup at *
  generalize List.any _ wrongB = wr at *
  generalize decide (t.cmd ∈ ([23, 24, 25] : List Int)) = ow at *
  have d0 := hcell 0 _ rfl
  have d1 := hcell 1 _ rfl
  have d2 := hcell 2 _ rfl
  have d3 := hcell 3 _ rfl
  have d4 := hcell 4 _ rfl
  simp only [Nat.add_zero] at d0
  clear hcell
  have hA : Below w.heap.size w (w.alloc (.cells #[.int .i64 t.cmd, .int .i64 t.cnt, .int .i64 t.delay, .int .i64 t.valid, .int .i64 t.uses] 42)) := (Below.refl _ _).alloc (Nat.le_refl _) _
  generalize hln : l.length = n at *
  have hkn : (k : Int) < (n : Int) := by omega
  have hk0 : (0 : Int) ≤ (k : Int) := by omega
  have hkc : (k : Int) ≤ (c : Int) := by omega
  clear hln
  have HOW : Hid (OwnLaid w) := hown
  have CC := Lib.hid cC
  have CW := Lib.hid cW
  have CO := Lib.hid cO
  clear cC cW cO hown
  go_enter Tryd.func26, Tryd.ntmps26
  go_wp2_with fail
  refine (CW.out _ _ (by simp) (fun i u hu => alloc_at _ _ (by simp) _ _ i u hu)).mono ?_
  rintro e w1 ⟨rfl, hb1⟩
  have hs1 : w.heap.size < w1.heap.size := by have := hb1.size; simp at this; omega
  have hB1 : Below w.heap.size w w1 := (hA.alloc (by simp) _).trans (hb1.mono (by simp; omega))
  have e0 : w1.cell? ⟨w.heap.size, 0, none⟩ = some (.int .i64 t.cmd) := (hb1.cell (p := ⟨w.heap.size, 0, none⟩) (by simp; omega)).trans (by simp [go_sem])
  have HB1 := Lib.hid hb1
  clear hb1 hA
  cases wr with
  | true =>
    go_wp2
    go_ret
    exact ⟨by simp [errQ], hB1⟩
  | false =>
    go_wp2_with fail
    have g0 := fun p : Grows w1 => Grows.cell e0 p
    have E0 := Lib.hid e0
    clear e0
    (refine wp_region_grows (by kernel_rfl) (by kernel_rfl) ?_; (repeat quiet_step ((go_at_call 45; exact Grows.call_same _ (CO.out _ (hB1.trans ((Grows.h _).mono (by omega))))))); refine wpQuiet_nil ?_; intro _ hw'; obtain ⟨gw, hw''⟩ := hw'; subst hw'')
    have hB2 : Below w.heap.size w gw.w := hB1.trans (gw.h.mono (by omega))
    have e0 := g0 gw
    have hs2 : w.heap.size < gw.w.heap.size := by have := gw.h.size; omega
    clear g0 E0
    cases ow with
    | true =>
      go_wp2
      go_ret
      exact ⟨by simp [errQ], hB2⟩
    | false =>
      generalize gw.w = w2 at *
      go_wp2_with fail
      refine (CC.out _ hB2 e0 hs2).mono ?_
      rintro e w3 ⟨rfl, hb3⟩
      have hB3 : Below w.heap.size w w3 := hB2.trans (hb3.mono (by omega))
      have HB3 := Lib.hid hb3
      clear hb3
      cases dup with
      | true =>
        go_wp2
        go_ret
        exact ⟨by simp [errQ], hB3⟩
      | false =>
        go_wp2
        go_ret
        exact ⟨by simp [errQ], hB3⟩
end Go.Proofs.YtemkffejekgmfaaDoor
