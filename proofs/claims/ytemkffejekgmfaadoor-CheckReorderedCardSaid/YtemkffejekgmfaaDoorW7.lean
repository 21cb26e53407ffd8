/- For every valid policy with at most 40 types, 300 rules and 40 quorums: if two of its rules, and two of its quorums, are exchanged, it is still valid, and has the same normal form (every input; the package variable check.own as the program's text lays it). -/
import Derived.Test.YtemkffejekgmfaaDoorW3
import Derived.Test.YtemkffejekgmfaaDoorH6
import Derived.Test.YtemkffejekgmfaaDoorK1
import Derived.Deep.DeepCutAuto
import Derived.DataShut
namespace Go.Proofs.YtemkffejekgmfaaDoor
open Go.RowKit Go.ChangeShapes Go.WideShapes

theorem swapL_perm {α : Type} [Inhabited α] (l : List α) (i j : Nat) (hi : i < l.length) (hj : j < l.length) : (swapL l i j).Perm l := by
  have h := Array.swap_perm (xs := l.toArray) (i := i) (j := j) (by simpa using hi) (by simpa using hj)
  have e : (l.toArray.swap i j (by simpa using hi) (by simpa using hj)).toList = swapL l i j := by
    unfold swapL
    rw [getElem!_pos l i hi, getElem!_pos l j hj]
    simp
  rw [← e]
  simpa using h.toList
/-- Two items exchanged, if there are any. -/
def exch {α : Type} [Inhabited α] (l : List α) (i j : Nat) : List α := if l.length = 0 then l else swapL l (i % l.length) (j % l.length)
theorem exch_perm {α : Type} [Inhabited α] (l : List α) (i j : Nat) : (exch l i j).Perm l := by
  unfold exch
  split
  · exact List.Perm.refl _
  · exact swapL_perm l _ _ (Nat.mod_lt _ (by omega)) (Nat.mod_lt _ (by omega))
def reordP (p : Pol) (i j k l : Nat) : Pol := ⟨p.name, p.types, exch p.rules i j, exch p.quorums k l⟩

theorem grown_setCell {W0 W : World} {g : Nat} (h : W0.grownBy W (some g)) (o : Nat) (u : Value) : W0.grownBy (W.setCell ⟨g, o, none⟩ u) (some g) :=
  ⟨h.os, h.tape, h.output, by simpa [World.setCell] using h.size, fun i hi hne => (Below.heap_setCell W ⟨g, o, none⟩ u i (fun e => hne (by rw [e]))).trans (h.block i hi hne)⟩
theorem grown_setCells {W0 : World} {g : Nat} (vs : List Value) : ∀ (o : Nat) (W : World), W0.grownBy W (some g) → W0.grownBy (W.setCells g o vs) (some g) := by
  induction vs with
  | nil => intro o W h; exact h
  | cons v vs ih => intro o W h; exact ih (o + 1) _ (grown_setCell h o v)
theorem gen_world {I : World → Prop} {W : World} (h : I W) : ∃ W', W = W' ∧ I W' := ⟨W, rfl, h⟩
theorem grown_self (W : World) (row : Option Nat) : W.grownBy W row := ⟨rfl, rfl, rfl, Nat.le_refl _, fun _ _ _ => rfl⟩

/-- The copy that is being turned: its box, and its two rows of the call's own. -/
structure RQ (w W : World) (b1 b2 : Nat) (p : Pol) (A1 : Option Addr) (c1 : Nat) (A2 : Option Addr) (c2 : Nat) (A3 : Option Addr) (c3 : Nat) (v2 v3 : Value) (L2 : List Rl) (L3 : List Qm) : Prop where
  x1 : BoxP W b1 (.string p.name) (.slice A1 p.types.length c1) (.slice A2 p.rules.length c2) (.slice A3 p.quorums.length c3)
  x2 : BoxP W b2 (.string p.name) (.slice A1 p.types.length c1) v2 v3
  fz : ∀ j, W.frozen? ⟨b2, j, none⟩ = false
  lt : b1 < b2
  hw : w.heap.size ≤ b2
  o2 : W.ownsRow (b2 + 1) 40 3 v2 L2.length (L2.flatMap encRl)
  o3 : W.ownsRow (b2 + 1) 42 5 v3 L3.length (L3.flatMap encQm)
  pr : PolR W p A1 c1 A2 c2 A3 c3
  bel : Below w.heap.size w W
section
variable {w W W' : World} {b1 b2 : Nat} {p : Pol} {A1 : Option Addr} {c1 : Nat} {A2 : Option Addr} {c2 : Nat} {A3 : Option Addr} {c3 : Nat} {v2 v3 : Value} {L2 : List Rl} {L3 : List Qm}
theorem BoxP.low {B b : Nat} {v0 v1 v2 v3 : Value} (h : BoxP W b v0 v1 v2 v3) (hb : Below B W W') (hlt : b < B) : BoxP W' b v0 v1 v2 v3 :=
  ⟨Nat.lt_of_lt_of_le h.lt hb.size, keep_cell h.c0 hb hlt, keep_cell h.c1 hb hlt, keep_cell h.c2 hb hlt, keep_cell h.c3 hb hlt⟩
theorem RQ.low {L2' : List Rl} {L3' : List Qm} (hp : PolR w p A1 c1 A2 c2 A3 c3) (h : RQ w W b1 b2 p A1 c1 A2 c2 A3 c3 v2 v3 L2 L3) (hb : Below (b2 + 1) W W') (h2 : W'.ownsRow (b2 + 1) 40 3 v2 L2'.length (L2'.flatMap encRl)) (h3 : W'.ownsRow (b2 + 1) 42 5 v3 L3'.length (L3'.flatMap encQm)) : RQ w W' b1 b2 p A1 c1 A2 c2 A3 c3 v2 v3 L2' L3' := by
  have hbel := h.bel.trans (hb.mono (by have := h.hw; omega))
  exact ⟨h.x1.low hb (by have := h.lt; omega), h.x2.low hb (by omega), fun j => (hb.frozen (p := ⟨b2, j, none⟩) (by simp)).trans (h.fz j), h.lt, h.hw, h2, h3, hp.below hbel, hbel⟩
theorem own_row_ne {B T T' k n g : Nat} {v : Value} {xs : List Value} {cur : Array Value} {fr : Nat × Nat} (h : W.ownsRow B T k v n xs) (hg : W.heap[g]? = some (.cells cur T' fr)) (hT : T ≠ T') : v.ownBlock = none ∨ v.ownBlock ≠ some g := by
  rcases h.2 with ⟨rfl, _⟩ | ⟨g', cap, cur', rfl, _, h1, _⟩
  · exact .inl rfl
  · refine .inr (fun e => ?_)
    cases Option.some.inj e
    rw [hg] at h1
    simp only [Option.some.injEq, Obj.cells.injEq] at h1
    exact hT h1.2.1.symm
theorem RQ.swap2 {A : Option Addr} {n d : Nat} (hp : PolR w p A1 c1 A2 c2 A3 c3) (h : RQ w W b1 b2 p A1 c1 A2 c2 A3 c3 (.slice A n d) v3 L2 L3) (h0 : 0 < L2.length) :
    ∃ g, A = some ⟨g, 0, none⟩ ∧ n = L2.length ∧ b2 < g ∧ SO encRl 3 40 W (b2 + 1) g d L2 W ∧ ∀ a b, a < L2.length → b < L2.length → RQ w ((W.setCells g (a * 3) (encRl L2[b]!)).setCells g (b * 3) (encRl L2[a]!)) b1 b2 p A1 c1 A2 c2 A3 c3 (.slice A n d) v3 (swapL L2 a b) L3 := by
  cases A with
  | none => rcases h.o2.2 with ⟨_, e⟩ | ⟨_, _, _, e, _⟩ <;> first | omega | cases e
  | some A =>
    obtain ⟨g, rfl, e, hS⟩ := SO.of_own len_Rl h.o2
    refine ⟨g, rfl, e, hS.hB, hS, fun a b ha hb => ?_⟩
    have hs := hS.swapped len_Rl a b ha hb
    have ho := hs.own len_Rl (by omega)
    subst e
    rw [swapL_length] at ho
    obtain ⟨cur, hc, _⟩ := hS.shape
    refine RQ.low hp h hs.bel (by rw [swapL_length]; exact ho) (World.ownsRow.kept h.o3 (grown_setCells _ _ _ (grown_setCells _ _ _ (grown_self W (some g)))) (own_row_ne h.o3 hc (by decide)))
theorem RQ.swap3 {A : Option Addr} {n d : Nat} (hp : PolR w p A1 c1 A2 c2 A3 c3) (h : RQ w W b1 b2 p A1 c1 A2 c2 A3 c3 v2 (.slice A n d) L2 L3) (h0 : 0 < L3.length) :
    ∃ g, A = some ⟨g, 0, none⟩ ∧ n = L3.length ∧ b2 < g ∧ SO encQm 5 42 W (b2 + 1) g d L3 W ∧ ∀ a b, a < L3.length → b < L3.length → RQ w ((W.setCells g (a * 5) (encQm L3[b]!)).setCells g (b * 5) (encQm L3[a]!)) b1 b2 p A1 c1 A2 c2 A3 c3 v2 (.slice A n d) L2 (swapL L3 a b) := by
  cases A with
  | none => rcases h.o3.2 with ⟨_, e⟩ | ⟨_, _, _, e, _⟩ <;> first | omega | cases e
  | some A =>
    obtain ⟨g, rfl, e, hS⟩ := SO.of_own len_Qm h.o3
    refine ⟨g, rfl, e, hS.hB, hS, fun a b ha hb => ?_⟩
    have hs := hS.swapped len_Qm a b ha hb
    have ho := hs.own len_Qm (by omega)
    subst e
    rw [swapL_length] at ho
    obtain ⟨cur, hc, _⟩ := hS.shape
    refine RQ.low hp h hs.bel (World.ownsRow.kept h.o2 (grown_setCells _ _ _ (grown_setCells _ _ _ (grown_self W (some g)))) (own_row_ne h.o2 hc (by decide))) (by rw [swapL_length]; exact ho)
theorem RQ.grow (h : RQ w W b1 b2 p A1 c1 A2 c2 A3 c3 v2 v3 L2 L3) (hb : Below W.heap.size W W') : RQ w W' b1 b2 p A1 c1 A2 c2 A3 c3 v2 v3 L2 L3 :=
  ⟨h.x1.below hb, h.x2.below hb, fun j => (hb.frozen (p := ⟨b2, j, none⟩) h.x2.lt).trans (h.fz j), h.lt, h.hw, own_below h.o2 hb, own_below h.o3 hb, h.pr.below hb, h.bel.trans (hb.mono h.bel.size)⟩
theorem RQ.pol {q : Pol} {A B : Option Addr} {n d m e : Nat} (h : RQ w W b1 b2 p A1 c1 A2 c2 A3 c3 (.slice A n d) (.slice B m e) q.rules q.quorums) (hn : q.name = p.name) (ht : q.types = p.types) (h2 : q.rules.length ≤ 140737488355328) (h3 : q.quorums.length ≤ 140737488355328) : PolR W q A1 c1 A d B e := by
  obtain ⟨A', d', e1, l2, r2⟩ := RS_own len_Rl (by omega) h2 h.o2
  obtain ⟨B', e', e2, l3, r3⟩ := RS_own len_Qm (by omega) h3 h.o3
  cases e1; cases e2
  exact ⟨by rw [ht]; exact h.pr.r1, by rw [ht]; exact h.pr.l1, r2, l2, r3, l3, by rw [hn]; exact h.pr.nm, by rw [ht]; exact h.pr.tn⟩
end
theorem reord_facts (p : Pol) (i j k l : Nat) (hf : fewB p = true) (hv : (checkS p).2 = 0) : (reordP p i j k l).name = p.name ∧ (reordP p i j k l).types = p.types ∧ (reordP p i j k l).rules.length = p.rules.length ∧ (reordP p i j k l).quorums.length = p.quorums.length ∧ fewB (reordP p i j k l) = true ∧ (checkS (reordP p i j k l)).2 = 0 ∧ normS p = normS (reordP p i j k l) := by
  have e2 := (exch_perm p.rules i j)
  have e3 := (exch_perm p.quorums k l)
  refine ⟨rfl, rfl, e2.length_eq, e3.length_eq, ?_, (valid_perm (p := p) (q := reordP p i j k l) rfl rfl e2 e3).2 hv, norm_perm hv rfl rfl e2 e3⟩
  unfold fewB at hf ⊢
  simp only [reordP, e2.length_eq, e3.length_eq]
  exact hf
set_option maxRecDepth 100000 in
set_option maxHeartbeats 8000000 in
theorem lawReord_any (p : Pol) (i j k l : Nat) (hi : i ≤ 255) (hj : j ≤ 255) (hk : k ≤ 255) (hl : l ≤ 255) (A1 : Option Addr) (c1 : Nat) (A2 : Option Addr) (c2 : Nat) (A3 : Option Addr) (c3 : Nat) (w : World) (hp : PolR w p A1 c1 A2 c2 A3 c3) (ho : OwnLaid w) :
    Calls Tryd.prog 7 #[.agg #[.string p.name, .slice A1 p.types.length c1, .slice A2 p.rules.length c2, .slice A3 p.quorums.length c3], .int .u8 (i : Nat), .int .u8 (j : Nat), .int .u8 (k : Nat), .int .u8 (l : Nat)] w fun e w' => e = .returned (.bool true) ∧ Below w.heap.size w w' := by
  have CS : Hid (∀ W, Below w.heap.size w W → Calls Tryd.prog 10 #[] W fun e w' => e = .returned (.bool true) ∧ Below W.heap.size W w') := fun W h => sanity_any W (RS.below ho h)
  have F1 : Hid (∀ W, Calls Tryd.prog 9 #[.agg #[.string p.name, .slice A1 p.types.length c1, .slice A2 p.rules.length c2, .slice A3 p.quorums.length c3]] W fun e w' => e = .returned (.bool (fewB p)) ∧ Below W.heap.size W w') := fun W => few_any p A1 c1 A2 c2 A3 c3 W
  have V1 : Hid (∀ W, PolR W p A1 c1 A2 c2 A3 c3 → Below w.heap.size w W → Calls Tryd.prog 13 #[.agg #[.string p.name, .slice A1 p.types.length c1, .slice A2 p.rules.length c2, .slice A3 p.quorums.length c3]] W fun e w' => e = .returned (.bool ((checkS p).2 == 0)) ∧ Below W.heap.size W w') := fun W h h' => valid_any p A1 c1 A2 c2 A3 c3 W h (RS.below ho h')
  have HP := Lib.hid hp
  have HO : Hid (∀ W, Below w.heap.size w W → OwnLaid W) := fun W h => RS.below ho h
  clear hp ho
  obtain ⟨f1, hf1⟩ : ∃ f, fewB p = f := ⟨_, rfl⟩
  have HFEW : Hid (f1 = true → p.types.length ≤ 40 ∧ p.rules.length ≤ 300 ∧ p.quorums.length ≤ 40) := fun h => by
    rw [← hf1] at h
    unfold fewB at h
    simpa using h
  rw [hf1] at F1
  have HF1 := Lib.hid hf1
  clear hf1
  obtain ⟨v1, hv1⟩ : ∃ v, ((checkS p).2 == 0) = v := ⟨_, rfl⟩
  rw [hv1] at V1
  have HV1 := Lib.hid hv1
  clear hv1
  obtain ⟨b1, hb1⟩ : ∃ b, b = w.heap.size := ⟨_, rfl⟩
  have HX : Hid ((BoxP (w.alloc (.cells #[.string p.name, .slice A1 p.types.length c1, .slice A2 p.rules.length c2, .slice A3 p.quorums.length c3] 26)) b1 (.string p.name) (.slice A1 p.types.length c1) (.slice A2 p.rules.length c2) (.slice A3 p.quorums.length c3) ∧ PolR (w.alloc (.cells #[.string p.name, .slice A1 p.types.length c1, .slice A2 p.rules.length c2, .slice A3 p.quorums.length c3] 26)) p A1 c1 A2 c2 A3 c3 ∧ Below w.heap.size w (w.alloc (.cells #[.string p.name, .slice A1 p.types.length c1, .slice A2 p.rules.length c2, .slice A3 p.quorums.length c3] 26)))) := by
    subst hb1
    have hb : Below w.heap.size w (w.alloc (.cells #[.string p.name, .slice A1 p.types.length c1, .slice A2 p.rules.length c2, .slice A3 p.quorums.length c3] 26)) := (Below.refl _ _).alloc (Nat.le_refl _) _
    exact ⟨BoxP.new w _ _ _ _ _, HP.out.below hb, hb⟩
  have KEEP : Hid (∀ W W', (BoxP W b1 (.string p.name) (.slice A1 p.types.length c1) (.slice A2 p.rules.length c2) (.slice A3 p.quorums.length c3) ∧ PolR W p A1 c1 A2 c2 A3 c3 ∧ Below w.heap.size w W) → Below W.heap.size W W' → (BoxP W' b1 (.string p.name) (.slice A1 p.types.length c1) (.slice A2 p.rules.length c2) (.slice A3 p.quorums.length c3) ∧ PolR W' p A1 c1 A2 c2 A3 c3 ∧ Below w.heap.size w W')) := by
    rintro W W' ⟨h1, h2, h3⟩ hb
    exact ⟨h1.below hb, h2.below hb, h3.trans (hb.mono h3.size)⟩
  have HB1 := Lib.hid hb1
  clear hb1
  obtain ⟨iR, hiR, hzR, hkR, hbR⟩ := info_parts info_Rl
  obtain ⟨iQ, hiQ, hzQ, hkQ, hbQ⟩ := info_parts info_Qm
  go_enter Tryd.func7, Tryd.ntmps7
  go_wp2_with fail
  rw [← HB1.out]
  clear HB1
  generalize (w.alloc (.cells #[.string p.name, .slice A1 p.types.length c1, .slice A2 p.rules.length c2, .slice A3 p.quorums.length c3] 26)) = w0 at *
  refine (F1.out _).mono ?_
  rintro e w1 ⟨rfl, hb⟩
  have HE1 := Lib.hid (KEEP.out _ _ HX.out hb)
  clear hb HX F1
  cases f1 with
  | false =>
    go_wp2_with fail
    refine (CS.out _ HE1.out.2.2).mono ?_
    rintro e wl ⟨rfl, hb⟩
    have HB := Lib.hid (KEEP.out _ _ HE1.out hb).2.2
    clear hb
    go_wp2
    go_ret
    exact ⟨rfl, HB.out⟩
  | true =>
    obtain ⟨z1, z2, z3⟩ := HFEW.out rfl
    have a0 := HE1.out.1.c0; have a1 := HE1.out.1.c1; have a2 := HE1.out.1.c2; have a3 := HE1.out.1.c3
    go_wp2_with fail
    refine (V1.out _ HE1.out.2.1 HE1.out.2.2).mono ?_
    rintro e w2 ⟨rfl, hb⟩
    have HE2 := Lib.hid (KEEP.out _ _ HE1.out hb)
    clear hb HE1 V1 a0 a1 a2 a3 HFEW
    cases v1 with
    | false =>
      go_wp2_with fail
      refine (CS.out _ HE2.out.2.2).mono ?_
      rintro e wl ⟨rfl, hb⟩
      have HB := Lib.hid (KEEP.out _ _ HE2.out hb).2.2
      clear hb
      go_wp2
      go_ret
      exact ⟨rfl, HB.out⟩
    | true =>
      have a0 := HE2.out.1.c0; have a1 := HE2.out.1.c1; have a2 := HE2.out.1.c2; have a3 := HE2.out.1.c3
      have lt1 := HE2.out.1.lt
      obtain ⟨n2, hn2⟩ : ∃ n, p.rules.length = n := ⟨_, rfl⟩
      obtain ⟨n3, hn3⟩ : ∃ n, p.quorums.length = n := ⟨_, rfl⟩
      rw [hn2] at a2 z2
      rw [hn3] at a3 z3
      rw [hn2, hn3]
      have HN2 := Lib.hid hn2
      have HN3 := Lib.hid hn3
      clear hn2 hn3
      obtain ⟨b2, hb2⟩ : ∃ b, w2.heap.size = b := ⟨_, rfl⟩
      have T1 : Hid (∀ v0 v1 v2 v3 v' w', w'.ownsRow (b2 + 1) 40 3 v' ([] ++ p.rules).length (([] ++ p.rules).flatMap encRl) → Below (b2 + 1) ((w2.alloc (.cells #[v0, v1, v2, v3] 26)).alloc (.cells #[] 40)) w' →
          (∃ V d, v' = .slice V n2 d) ∧ w'.cell? ⟨b2, 2, none⟩ = some v2 ∧ w'.frozen? ⟨b2, 2, none⟩ = false ∧ w'.cell? ⟨b1, 3, none⟩ = some (.slice A3 n3 c3) ∧ b2 < w'.heap.size ∧ b1 < w'.heap.size ∧ Hid (w'.ownsRow (b2 + 1) 40 3 v' p.rules.length (p.rules.flatMap encRl)) ∧ Hid (BoxP w' b2 v0 v1 v2 v3 ∧ (∀ j, w'.frozen? ⟨b2, j, none⟩ = false) ∧ Below w2.heap.size w2 w' ∧ b2 + 1 ≤ w'.heap.size)) := by
        intro v0 v1 v2 v3 v' w' ho hb
        rw [List.nil_append] at ho
        have hsz : b2 + 2 ≤ w'.heap.size := by have := hb.size; simp at this; omega
        have g0 : Below w2.heap.size w2 w' := (((Below.refl _ _).alloc (Nat.le_refl _) _).alloc (by simp) _).trans (hb.mono (by omega))
        have hx : BoxP w' b2 v0 v1 v2 v3 := by
          have hn := BoxP.new w2 v0 v1 v2 v3 26
          rw [hb2] at hn
          have h1 := hn.below ((Below.refl _ _).alloc (Nat.le_refl _) (.cells #[] 40))
          exact ⟨by omega, keep_cell h1.c0 hb (by omega), keep_cell h1.c1 hb (by omega), keep_cell h1.c2 hb (by omega), keep_cell h1.c3 hb (by omega)⟩
        have hf : ∀ j, w'.frozen? ⟨b2, j, none⟩ = false := fun j => by
          rw [hb.frozen (p := ⟨b2, j, none⟩) (by simp)]
          subst hb2; simp [go_sem]
        have he := KEEP.out _ _ HE2.out g0
        have h3 := he.1.c3
        rw [HN3.out] at h3
        have hlen := ho
        rw [HN2.out] at hlen
        exact ⟨own_slice hlen, hx.c2, hf 2, h3, by omega, he.1.lt, ho, hx, hf, g0, by omega⟩
      have HOWN : Hid (∀ v0 v1 v2 v3, ((w2.alloc (.cells #[v0, v1, v2, v3] 26)).alloc (.cells #[] 40)).ownsRow (b2 + 1) 40 3 (.slice (some ⟨b2 + 1, 0, none⟩) 0 0) 0 []) := fun v0 v1 v2 v3 => by
        have h := World.ownsRow_made (base := b2 + 1) (size := 3) (e := 40) (w2.alloc (.cells #[v0, v1, v2, v3] 26)) #[] 0 (by simp; omega) (by simp) (by simp)
        rw [World.size_alloc, hb2] at h
        exact h
      have HOWN3 : Hid (∀ (w3 : World) (u : Value), b2 + 1 ≤ w3.heap.size → ((w3.setCell ⟨b2, 2, none⟩ u).alloc (.cells #[] 42)).ownsRow (b2 + 1) 42 5 (.slice (some ⟨w3.heap.size, 0, none⟩) 0 0) 0 []) := fun w3 u h => by
        have h := World.ownsRow_made (base := b2 + 1) (size := 5) (e := 42) (w3.setCell ⟨b2, 2, none⟩ u) #[] 0 (by simpa using h) (by simp) (by simp)
        rw [World.size_setCell] at h
        exact h
      have HRS3 : Hid (∀ (w3 : World) (u : Value), Below w2.heap.size w2 w3 → RS encQm 5 ((w3.setCell ⟨b2, 2, none⟩ u).alloc (.cells #[] 42)) A3 p.quorums) := fun w3 u h => (HE2.out.2.1.below ((h.setCell (by simp; omega) _).alloc (by simpa using h.size) _)).r3
      have T3 : Hid (∀ (w3 : World) (V2 : Option Addr) (d2 : Nat) (v' : Value) (w' : World), (BoxP w3 b2 (.string p.name) (.slice A1 p.types.length c1) (.slice A2 n2 c2) (.slice A3 n3 c3) ∧ (∀ j, w3.frozen? ⟨b2, j, none⟩ = false) ∧ Below w2.heap.size w2 w3 ∧ b2 + 1 ≤ w3.heap.size) → w3.ownsRow (b2 + 1) 40 3 (.slice V2 n2 d2) p.rules.length (p.rules.flatMap encRl) →
          w'.ownsRow (b2 + 1) 42 5 v' ([] ++ p.quorums).length (([] ++ p.quorums).flatMap encQm) → ((w3.setCell ⟨b2, 2, none⟩ (.slice V2 n2 d2)).alloc (.cells #[] 42)).grownBy w' (Value.slice (some ⟨w3.heap.size, 0, none⟩) 0 0).ownBlock →
          (∃ V d, v' = .slice V n3 d) ∧ w'.cell? ⟨b2, 2, none⟩ = some (.slice V2 n2 d2) ∧ w'.cell? ⟨b2, 3, none⟩ = some (.slice A3 n3 c3) ∧ w'.frozen? ⟨b2, 3, none⟩ = false ∧ Hid (RQ w (w'.setCell ⟨b2, 3, none⟩ v') b1 b2 p A1 c1 A2 c2 A3 c3 (.slice V2 n2 d2) v' p.rules p.quorums)) := by
        rintro w3 V2 d2 v' w' ⟨hx, hf, hb3, hsz⟩ ho2 ho3 hg
        rw [List.nil_append] at ho3
        have hbelow : Below (b2 + 1) ((w3.setCell ⟨b2, 2, none⟩ (.slice V2 n2 d2)).alloc (.cells #[] 42)) w' := (Below.refl _ _).grown hg (by simp; omega) (fun j hj => by have : w3.heap.size = j := Option.some.inj hj; omega)
        have hx4 : BoxP ((w3.setCell ⟨b2, 2, none⟩ (.slice V2 n2 d2)).alloc (.cells #[] 42)) b2 (.string p.name) (.slice A1 p.types.length c1) (.slice V2 n2 d2) (.slice A3 n3 c3) := by
          have o : ∀ j, j ≠ 2 → (w3.setCell ⟨b2, 2, none⟩ (.slice V2 n2 d2)).cell? ⟨b2, j, none⟩ = w3.cell? ⟨b2, j, none⟩ := fun j h => World.cell?_setCell_other _ _ _ _ (fun e => by cases e; exact h rfl)
          have hy : BoxP (w3.setCell ⟨b2, 2, none⟩ (.slice V2 n2 d2)) b2 (.string p.name) (.slice A1 p.types.length c1) (.slice V2 n2 d2) (.slice A3 n3 c3) :=
            ⟨by simpa using hx.lt, (o 0 (by omega)).trans hx.c0, (o 1 (by omega)).trans hx.c1, World.cell?_setCell_same _ _ _ hx.c2, (o 3 (by omega)).trans hx.c3⟩
          exact hy.below ((Below.refl _ _).alloc (Nat.le_refl _) _)
        have hx5 : BoxP w' b2 (.string p.name) (.slice A1 p.types.length c1) (.slice V2 n2 d2) (.slice A3 n3 c3) := ⟨by have := hbelow.size; simp at this; omega, keep_cell hx4.c0 hbelow (by omega), keep_cell hx4.c1 hbelow (by omega), keep_cell hx4.c2 hbelow (by omega), keep_cell hx4.c3 hbelow (by omega)⟩
        have hf5 : ∀ j, w'.frozen? ⟨b2, j, none⟩ = false := fun j => by
          rw [hbelow.frozen (p := ⟨b2, j, none⟩) (by simp)]
          have hb : b2 < (w3.setCell ⟨b2, 2, none⟩ (.slice V2 n2 d2)).heap.size := by simp; omega
          rw [((Below.refl (w3.setCell ⟨b2, 2, none⟩ (.slice V2 n2 d2)).heap.size (w3.setCell ⟨b2, 2, none⟩ (.slice V2 n2 d2))).alloc (Nat.le_refl _) (.cells #[] 42)).frozen (p := ⟨b2, j, none⟩) hb, World.frozen?_setCell]
          exact hf j
        have hbl : Below w2.heap.size w2 (w'.setCell ⟨b2, 3, none⟩ v') := (((hb3.setCell (by simp; omega) _).alloc (by simpa using hb3.size) _).trans (hbelow.mono (by omega))).setCell (by simp; omega) _
        have he := KEEP.out _ _ HE2.out hbl
        have hx6 : BoxP (w'.setCell ⟨b2, 3, none⟩ v') b2 (.string p.name) (.slice A1 p.types.length c1) (.slice V2 n2 d2) v' := by
          have o : ∀ j, j ≠ 3 → (w'.setCell ⟨b2, 3, none⟩ v').cell? ⟨b2, j, none⟩ = w'.cell? ⟨b2, j, none⟩ := fun j h => World.cell?_setCell_other _ _ _ _ (fun e => by cases e; exact h rfl)
          exact ⟨by simpa using hx5.lt, (o 0 (by omega)).trans hx5.c0, (o 1 (by omega)).trans hx5.c1, (o 2 (by omega)).trans hx5.c2, World.cell?_setCell_same _ _ _ hx5.c3⟩
        have ho2' : w'.ownsRow (b2 + 1) 40 3 (.slice V2 n2 d2) p.rules.length (p.rules.flatMap encRl) := by
          refine World.ownsRow.kept (row := (Value.slice (some ⟨w3.heap.size, 0, none⟩) 0 0).ownBlock) ((ownsRow_setCell_below ho2 (by simp) _).alloc _) hg ?_
          exact .inr (fun e => by have := (ho2.lt w3.heap.size e).2; omega)
        have hlen := ho3
        rw [HN3.out] at hlen
        exact ⟨own_slice hlen, hx5.c2, hx5.c3, hf5 3, he.1, hx6, fun j => by rw [World.frozen?_setCell]; exact hf5 j, by omega, by have := HE2.out.2.2.size; omega, ownsRow_setCell_below ho2' (by simp) _, ownsRow_setCell_below ho3 (by simp) _, he.2.1, he.2.2⟩
      have ne12 : b1 ≠ b2 := by rw [hb2] at lt1; omega

      have HRS : Hid (∀ v0 v1 v2 v3, RS encRl 3 ((w2.alloc (.cells #[v0, v1, v2, v3] 26)).alloc (.cells #[] 40)) A2 p.rules) := fun v0 v1 v2 v3 => (HE2.out.2.1.below (((Below.refl _ _).alloc (Nat.le_refl _) _).alloc (by simp) _)).r2
      have HB2 := Lib.hid hb2
      rw [hb2] at lt1

      go_upto_if 42 with (first | (at_builtin; refine wpList_append_rs len_Rl one_Rl rfl _ _ 23 rfl (b2 + 1) 40 iR _ 24 Tryd.underlying23 hiR hzR hkR hbR rfl (by decide) _ [] rfl (HOWN.out _ _ _ _) A2 n2 c2 p.rules rfl HN2.out.symm (HRS.out _ _ _ _) (by rw [HN2.out]; simp; omega) (by decide) (by have := HB2.out; simp; omega) ?_; intro v2 w3 hown hgrow; obtain ⟨⟨V2, d2, rfl⟩, y2, y3, y4, y5, y6, HO2, HS3⟩ := T1.out _ _ _ _ _ _ hown (grown_below (HOWN.out _ _ _ _) hgrow (by have := HB2.out; simp; omega)); clear hown hgrow) | (at_builtin; refine wpList_append_rs len_Qm one_Qm rfl _ _ 24 rfl (b2 + 1) 42 iQ _ 40 Tryd.underlying24 hiQ hzQ hkQ hbQ rfl (by decide) _ [] rfl (HOWN3.out _ _ HS3.out.2.2.2) A3 n3 c3 p.quorums rfl HN3.out.symm (HRS3.out _ _ HS3.out.2.2.1) (by rw [HN3.out]; simp; omega) (by decide) (by have := HS3.out.2.2.2; simp; omega) ?_; intro v3 w4 hown hgrow; obtain ⟨⟨V3, d3, rfl⟩, y9, y7, y8, HRQ⟩ := T3.out _ _ _ _ _ HS3.out HO2.out hown hgrow; clear hown hgrow))
      clear T1 T3 HOWN HOWN3 HRS HRS3 HE2 KEEP lt1 hb2 HB2 a0 a1 a2 a3 y2 y3 y4 y5 y6 y7 y8 y9 HO2 HS3 hiR hzR hkR hbR hiQ hzQ hkQ hbQ
      generalize w4.setCell ⟨b2, 3, none⟩ (.slice V3 n3 d3) = w5 at *
      go_cut [] (fun wx => Hid (RQ w wx b1 b2 p A1 c1 A2 c2 A3 c3 (.slice V2 n2 d2) (.slice V3 n3 d3) (exch p.rules i j) p.quorums))
      case first =>
        by_cases hz : 0 < n2
        · have hzi : (n2 : Int) > 0 := by omega
          go_wp2_with fail
          clear hzi hz
          have hpos : 0 < n2 := by omega
          obtain ⟨a, ha⟩ : ∃ a, i % n2 = a := ⟨_, rfl⟩
          obtain ⟨b, hb⟩ : ∃ b, j % n2 = b := ⟨_, rfl⟩
          have la : a < n2 := by rw [← ha]; exact Nat.mod_lt _ hpos
          have lb : b < n2 := by rw [← hb]; exact Nat.mod_lt _ hpos
          have HEX : Hid (exch p.rules i j = swapL p.rules a b) := by
            unfold exch
            rw [if_neg (by rw [HN2.out]; omega), HN2.out, ha, hb]
            exact rfl
          have q1 : IntKind.i64.wrap (i : Int) = (i : Int) := by rw [IntKind.wrap_i64]; omega
          have q2 : IntKind.i64.wrap (j : Int) = (j : Int) := by rw [IntKind.wrap_i64]; omega
          have q3 : Int.tmod (i : Int) (n2 : Int) = (a : Int) := by rw [← ha]; exact (Int.ofNat_tmod _ _).symm
          have q4 : Int.tmod (j : Int) (n2 : Int) = (b : Int) := by rw [← hb]; exact (Int.ofNat_tmod _ _).symm
          have q5 : IntKind.i64.wrap (a : Int) = (a : Int) := by rw [IntKind.wrap_i64]; omega
          have q6 : IntKind.i64.wrap (b : Int) = (b : Int) := by rw [IntKind.wrap_i64]; omega
          have hnz : ¬ ((n2 : Int) = 0) := by omega
          have q7 : ((i : Int) % (n2 : Int)) = (a : Int) := by rw [← ha]; simp
          have q8 : ((j : Int) % (n2 : Int)) = (b : Int) := by rw [← hb]; simp
          clear ha hb
          have HR6 := Lib.hid (HRQ.out.grow (Below.refl _ _).drew)
          clear HRQ
          go_big_region
          go_wp2_with fail
          clear q1 q2 q3 q4 q5 q6 q7 q8 hnz
          generalize w5.drew = w6 at *
          obtain ⟨g, rfl, en, hg, hS, hSW⟩ := RQ.swap2 HP.out HR6.out (by rw [HN2.out]; exact hpos)
          have la' : a < p.rules.length := by rw [HN2.out]; exact la
          have lb' : b < p.rules.length := by rw [HN2.out]; exact lb
          have nbg : b2 ≠ g := by omega
          have hc2 := HR6.out.x2.c2
          clear en hpos hg
          have laz : (a : Int) < (n2 : Int) := by omega
          have lbz : (b : Int) < (n2 : Int) := by omega
          have hsw := hSW a b la' lb'
          have cA := fun r u => hS.cell a la' r u
          have cB := fun r u => hS.cell b lb' r u
          have fz := fun o => hS.frz o
          clear hSW
          by_cases hab : a = b
          · skip
            subst hab
            clear cB
            generalize p.rules[a]! = x at *
            obtain ⟨x1, x2, x3⟩ := x
            have cA0 := cA 0 _ rfl
            have cA1 := cA 1 _ rfl
            have cA2 := cA 2 _ rfl
            simp only [Nat.add_zero] at cA0
            clear cA
            simp only [encRl, World.setCells, Nat.add_assoc, Nat.reduceAdd] at hsw
            have HSW := Lib.hid hsw
            clear hsw hS
            go_big_region
            clear cA0 cA1 cA2
            clear la lb la' lb' laz lbz
            obtain ⟨w7, hw7, HR7⟩ := gen_world (I := fun W => RQ w W b1 b2 p A1 c1 A2 c2 A3 c3 (.slice (some ⟨g, 0, none⟩) n2 d2) (.slice V3 n3 d3) (swapL p.rules a a) p.quorums) (HSW.out.grow (Below.refl _ _).drew)
            rw [← HEX.out] at HR7
            rw [hw7]
            clear hw7 HSW HEX HR6 fz hc2 nbg
            go_wp2_with fail
            go_meet
            case rel => exact HR7
          · skip
            have n1 : a * 3 ≠ b * 3 := by omega
            generalize p.rules[a]! = x at *
            generalize p.rules[b]! = y at *
            obtain ⟨x1, x2, x3⟩ := x
            have cA0 := cA 0 _ rfl
            have cA1 := cA 1 _ rfl
            have cA2 := cA 2 _ rfl
            simp only [Nat.add_zero] at cA0
            clear cA
            obtain ⟨y1, y2, y3⟩ := y
            have cB0 := cB 0 _ rfl
            have cB1 := cB 1 _ rfl
            have cB2 := cB 2 _ rfl
            simp only [Nat.add_zero] at cB0
            clear cB
            simp only [encRl, World.setCells, Nat.add_assoc, Nat.reduceAdd] at hsw
            have HSW := Lib.hid hsw
            clear hsw hS
            go_big_region
            clear cA0 cA1 cA2
            clear cB0 cB1 cB2
            clear la lb la' lb' laz lbz n1 hab
            obtain ⟨w7, hw7, HR7⟩ := gen_world (I := fun W => RQ w W b1 b2 p A1 c1 A2 c2 A3 c3 (.slice (some ⟨g, 0, none⟩) n2 d2) (.slice V3 n3 d3) (swapL p.rules a b) p.quorums) (HSW.out.grow (Below.refl _ _).drew)
            rw [← HEX.out] at HR7
            rw [hw7]
            clear hw7 HSW HEX HR6 fz hc2 nbg
            go_wp2_with fail
            go_meet
            case rel => exact HR7
        · have hzi : ¬ (n2 : Int) > 0 := by omega
          go_wp2_with fail
          go_meet
          case rel =>
            unfold exch
            rw [if_pos (by rw [HN2.out]; omega)]
            exact HRQ.out
      case rest =>
        clear HRQ
        have HRQ := hcut
        clear hcut
        have hc3 := HRQ.out.x2.c3
        go_upto_if 73 with fail
        clear hc3
        go_cut [] (fun wx => Hid (RQ w wx b1 b2 p A1 c1 A2 c2 A3 c3 (.slice V2 n2 d2) (.slice V3 n3 d3) (exch p.rules i j) (exch p.quorums k l)))
        case first =>
          by_cases hz : 0 < n3
          · have hzi : (n3 : Int) > 0 := by omega
            go_wp2_with fail
            clear hzi hz
            have hpos : 0 < n3 := by omega
            obtain ⟨a, ha⟩ : ∃ a, k % n3 = a := ⟨_, rfl⟩
            obtain ⟨b, hb⟩ : ∃ b, l % n3 = b := ⟨_, rfl⟩
            have la : a < n3 := by rw [← ha]; exact Nat.mod_lt _ hpos
            have lb : b < n3 := by rw [← hb]; exact Nat.mod_lt _ hpos
            have HEX : Hid (exch p.quorums k l = swapL p.quorums a b) := by
              unfold exch
              rw [if_neg (by rw [HN3.out]; omega), HN3.out, ha, hb]
              exact rfl
            have q1 : IntKind.i64.wrap (k : Int) = (k : Int) := by rw [IntKind.wrap_i64]; omega
            have q2 : IntKind.i64.wrap (l : Int) = (l : Int) := by rw [IntKind.wrap_i64]; omega
            have q3 : Int.tmod (k : Int) (n3 : Int) = (a : Int) := by rw [← ha]; exact (Int.ofNat_tmod _ _).symm
            have q4 : Int.tmod (l : Int) (n3 : Int) = (b : Int) := by rw [← hb]; exact (Int.ofNat_tmod _ _).symm
            have q5 : IntKind.i64.wrap (a : Int) = (a : Int) := by rw [IntKind.wrap_i64]; omega
            have q6 : IntKind.i64.wrap (b : Int) = (b : Int) := by rw [IntKind.wrap_i64]; omega
            have hnz : ¬ ((n3 : Int) = 0) := by omega
            have q7 : ((k : Int) % (n3 : Int)) = (a : Int) := by rw [← ha]; simp
            have q8 : ((l : Int) % (n3 : Int)) = (b : Int) := by rw [← hb]; simp
            clear ha hb
            have HR6 := Lib.hid (HRQ.out.grow (Below.refl _ _).drew)
            clear HRQ
            go_big_region
            go_wp2_with fail
            clear q1 q2 q3 q4 q5 q6 q7 q8 hnz
            generalize wc.drew = w6 at *
            obtain ⟨g, rfl, en, hg, hS, hSW⟩ := RQ.swap3 HP.out HR6.out (by rw [HN3.out]; exact hpos)
            have la' : a < p.quorums.length := by rw [HN3.out]; exact la
            have lb' : b < p.quorums.length := by rw [HN3.out]; exact lb
            have nbg : b2 ≠ g := by omega
            have hc2 := HR6.out.x2.c3
            clear en hpos hg
            have laz : (a : Int) < (n3 : Int) := by omega
            have lbz : (b : Int) < (n3 : Int) := by omega
            have hsw := hSW a b la' lb'
            have cA := fun r u => hS.cell a la' r u
            have cB := fun r u => hS.cell b lb' r u
            have fz := fun o => hS.frz o
            clear hSW
            by_cases hab : a = b
            · skip
              subst hab
              clear cB
              generalize p.quorums[a]! = x at *
              obtain ⟨x1, x2, x3, x4, x5⟩ := x
              have cA0 := cA 0 _ rfl
              have cA1 := cA 1 _ rfl
              have cA2 := cA 2 _ rfl
              have cA3 := cA 3 _ rfl
              have cA4 := cA 4 _ rfl
              simp only [Nat.add_zero] at cA0
              clear cA
              simp only [encQm, World.setCells, Nat.add_assoc, Nat.reduceAdd] at hsw
              have HSW := Lib.hid hsw
              clear hsw hS
              go_big_region
              clear cA0 cA1 cA2 cA3 cA4
              clear la lb la' lb' laz lbz
              obtain ⟨w8, hw8, HR8⟩ := gen_world (I := fun W => RQ w W b1 b2 p A1 c1 A2 c2 A3 c3 (.slice V2 n2 d2) (.slice (some ⟨g, 0, none⟩) n3 d3) (exch p.rules i j) (swapL p.quorums a a)) (HSW.out.grow (Below.refl _ _).drew)
              rw [← HEX.out] at HR8
              rw [hw8]
              clear hw8 HSW HEX HR6 fz hc2 nbg
              go_wp2_with fail
              go_meet
              case rel => exact HR8
            · skip
              have n1 : a * 5 ≠ b * 5 := by omega
              generalize p.quorums[a]! = x at *
              generalize p.quorums[b]! = y at *
              obtain ⟨x1, x2, x3, x4, x5⟩ := x
              have cA0 := cA 0 _ rfl
              have cA1 := cA 1 _ rfl
              have cA2 := cA 2 _ rfl
              have cA3 := cA 3 _ rfl
              have cA4 := cA 4 _ rfl
              simp only [Nat.add_zero] at cA0
              clear cA
              obtain ⟨y1, y2, y3, y4, y5⟩ := y
              have cB0 := cB 0 _ rfl
              have cB1 := cB 1 _ rfl
              have cB2 := cB 2 _ rfl
              have cB3 := cB 3 _ rfl
              have cB4 := cB 4 _ rfl
              simp only [Nat.add_zero] at cB0
              clear cB
              simp only [encQm, World.setCells, Nat.add_assoc, Nat.reduceAdd] at hsw
              have HSW := Lib.hid hsw
              clear hsw hS
              go_big_region
              clear cA0 cA1 cA2 cA3 cA4
              clear cB0 cB1 cB2 cB3 cB4
              clear la lb la' lb' laz lbz n1 hab
              obtain ⟨w8, hw8, HR8⟩ := gen_world (I := fun W => RQ w W b1 b2 p A1 c1 A2 c2 A3 c3 (.slice V2 n2 d2) (.slice (some ⟨g, 0, none⟩) n3 d3) (exch p.rules i j) (swapL p.quorums a b)) (HSW.out.grow (Below.refl _ _).drew)
              rw [← HEX.out] at HR8
              rw [hw8]
              clear hw8 HSW HEX HR6 fz hc2 nbg
              go_wp2_with fail
              go_meet
              case rel => exact HR8
          · have hzi : ¬ (n3 : Int) > 0 := by omega
            go_wp2_with fail
            go_meet
            case rel =>
              show RQ _ _ _ _ _ _ _ _ _ _ _ _ _ _ (exch p.quorums k l)
              unfold exch
              rw [if_pos (show p.quorums.length = 0 by rw [HN3.out]; omega)]
              exact HRQ.out
        case rest =>
          clear HRQ
          have HRQ := hcut
          clear hcut
          have HQF := Lib.hid (reord_facts p i j k l HF1.out (by have := HV1.out; simpa using this))
          obtain ⟨q, hq⟩ : ∃ q, reordP p i j k l = q := ⟨_, rfl⟩
          have eR : exch p.rules i j = q.rules := by rw [← hq]; rfl
          have eQ : exch p.quorums k l = q.quorums := by rw [← hq]; rfl
          rw [eR, eQ] at HRQ
          rw [hq, HN2.out, HN3.out] at HQF
          clear hq eR eQ
          obtain ⟨qn, qt, q2, q3, qf, qv, qe⟩ := HQF.out
          have VQ : Hid (∀ W, PolR W q A1 c1 V2 d2 V3 d3 → Below w.heap.size w W → Calls Tryd.prog 13 #[.agg #[.string q.name, .slice A1 q.types.length c1, .slice V2 q.rules.length d2, .slice V3 q.quorums.length d3]] W fun e w' => e = .returned (.bool true) ∧ Below W.heap.size W w') := fun W h h' => by
            have := valid_any q A1 c1 V2 d2 V3 d3 W h (HO.out W h')
            rw [qv] at this
            exact this
          have M1 : Hid (∀ W, PolR W p A1 c1 A2 c2 A3 c3 → Calls Tryd.prog 18 #[.agg #[.string p.name, .slice A1 p.types.length c1, .slice A2 p.rules.length c2, .slice A3 p.quorums.length c3]] W (NormPost p W)) := fun W h => normal_post p A1 c1 A2 c2 A3 c3 W h HF1.out
          have M2 : Hid (∀ W, PolR W q A1 c1 V2 d2 V3 d3 → Calls Tryd.prog 18 #[.agg #[.string q.name, .slice A1 q.types.length c1, .slice V2 q.rules.length d2, .slice V3 q.quorums.length d3]] W (NormPost q W)) := fun W h => normal_post q A1 c1 V2 d2 V3 d3 W h qf
          have SM : Hid (∀ O1 g1 O2 g2 O3 g3 R1 h1 R2 h2 R3 h3 W, PolR W (normS p) O1 g1 O2 g2 O3 g3 → PolR W (normS q) R1 h1 R2 h2 R3 h3 → Calls Tryd.prog 20 #[.agg #[.string p.name, .slice O1 p.types.length g1, .slice O2 p.rules.length g2, .slice O3 p.quorums.length g3], .agg #[.string q.name, .slice R1 q.types.length h1, .slice R2 q.rules.length h2, .slice R3 q.quorums.length h3]] W fun e w' => e = .returned (.bool true) ∧ Below W.heap.size W w') := fun O1 g1 O2 g2 O3 g3 R1 h1 R2 h2 R3 h3 W h h' => by
            have := same_any (normS p) (normS q) O1 g1 O2 g2 O3 g3 R1 h1 R2 h2 R3 h3 W h h'
            obtain ⟨k1, k2, k3, k4⟩ := normS_len p
            obtain ⟨m1, m2, m3, m4⟩ := normS_len q
            rw [k1, k2, k3, k4, m1, m2, m3, m4, decide_eq_true qe] at this
            exact this
          have HFD : Hid ((((wc.drew.cell? ⟨b1, 0, none⟩ = some (.string p.name) ∧ wc.drew.cell? ⟨b1, 1, none⟩ = some (.slice A1 p.types.length c1) ∧ wc.drew.cell? ⟨b1, 2, none⟩ = some (.slice A2 n2 c2) ∧ wc.drew.cell? ⟨b1, 3, none⟩ = some (.slice A3 n3 c3)) ∧ (wc.drew.cell? ⟨b2, 0, none⟩ = some (.string p.name) ∧ wc.drew.cell? ⟨b2, 1, none⟩ = some (.slice A1 p.types.length c1) ∧ wc.drew.cell? ⟨b2, 2, none⟩ = some (.slice V2 n2 d2) ∧ wc.drew.cell? ⟨b2, 3, none⟩ = some (.slice V3 n3 d3))) ∧ BoxP wc.drew b1 (.string p.name) (.slice A1 p.types.length c1) (.slice A2 n2 c2) (.slice A3 n3 c3) ∧ BoxP wc.drew b2 (.string p.name) (.slice A1 p.types.length c1) (.slice V2 n2 d2) (.slice V3 n3 d3) ∧ PolR wc.drew p A1 c1 A2 c2 A3 c3 ∧ PolR wc.drew q A1 c1 V2 d2 V3 d3 ∧ Below w.heap.size w wc.drew)) := by
            have h := HRQ.out.grow (Below.refl _ _).drew
            have hx := h.x1
            rw [HN2.out, HN3.out] at hx
            exact ⟨⟨⟨hx.c0, hx.c1, hx.c2, hx.c3⟩, ⟨h.x2.c0, h.x2.c1, h.x2.c2, h.x2.c3⟩⟩, hx, h.x2, h.pr, h.pol qn qt (by omega) (by omega), h.bel⟩
          have KEQ : Hid (∀ W W', (((W.cell? ⟨b1, 0, none⟩ = some (.string p.name) ∧ W.cell? ⟨b1, 1, none⟩ = some (.slice A1 p.types.length c1) ∧ W.cell? ⟨b1, 2, none⟩ = some (.slice A2 n2 c2) ∧ W.cell? ⟨b1, 3, none⟩ = some (.slice A3 n3 c3)) ∧ (W.cell? ⟨b2, 0, none⟩ = some (.string p.name) ∧ W.cell? ⟨b2, 1, none⟩ = some (.slice A1 p.types.length c1) ∧ W.cell? ⟨b2, 2, none⟩ = some (.slice V2 n2 d2) ∧ W.cell? ⟨b2, 3, none⟩ = some (.slice V3 n3 d3))) ∧ BoxP W b1 (.string p.name) (.slice A1 p.types.length c1) (.slice A2 n2 c2) (.slice A3 n3 c3) ∧ BoxP W b2 (.string p.name) (.slice A1 p.types.length c1) (.slice V2 n2 d2) (.slice V3 n3 d3) ∧ PolR W p A1 c1 A2 c2 A3 c3 ∧ PolR W q A1 c1 V2 d2 V3 d3 ∧ Below w.heap.size w W) → Below W.heap.size W W' → (((W'.cell? ⟨b1, 0, none⟩ = some (.string p.name) ∧ W'.cell? ⟨b1, 1, none⟩ = some (.slice A1 p.types.length c1) ∧ W'.cell? ⟨b1, 2, none⟩ = some (.slice A2 n2 c2) ∧ W'.cell? ⟨b1, 3, none⟩ = some (.slice A3 n3 c3)) ∧ (W'.cell? ⟨b2, 0, none⟩ = some (.string p.name) ∧ W'.cell? ⟨b2, 1, none⟩ = some (.slice A1 p.types.length c1) ∧ W'.cell? ⟨b2, 2, none⟩ = some (.slice V2 n2 d2) ∧ W'.cell? ⟨b2, 3, none⟩ = some (.slice V3 n3 d3))) ∧ BoxP W' b1 (.string p.name) (.slice A1 p.types.length c1) (.slice A2 n2 c2) (.slice A3 n3 c3) ∧ BoxP W' b2 (.string p.name) (.slice A1 p.types.length c1) (.slice V2 n2 d2) (.slice V3 n3 d3) ∧ PolR W' p A1 c1 A2 c2 A3 c3 ∧ PolR W' q A1 c1 V2 d2 V3 d3 ∧ Below w.heap.size w W')) := by
            rintro W W' ⟨_, h1, h2, h3, h4, h5⟩ hb
            have g1 := h1.below hb
            have g2 := h2.below hb
            exact ⟨⟨⟨g1.c0, g1.c1, g1.c2, g1.c3⟩, ⟨g2.c0, g2.c1, g2.c2, g2.c3⟩⟩, g1, g2, h3.below hb, h4.below hb, h5.trans (hb.mono h5.size)⟩
          unfold NormPost at M1 M2
          rw [HN2.out, HN3.out] at M1
          rw [qn, qt, q2, q3] at M2 VQ
          rw [qn, qt, q2, q3, HN2.out, HN3.out] at SM
          clear HRQ HQF qn qt q2 q3 qf qv qe HN2 HN3 HF1 HV1 HP HO
          obtain ⟨⟨a0, a1, a2, a3⟩, ⟨e0, e1, e2, e3⟩⟩ := HFD.out.1
          go_wp2_with fail
          go_region_held3 (fun W => ((W.cell? ⟨b1, 0, none⟩ = some (.string p.name) ∧ W.cell? ⟨b1, 1, none⟩ = some (.slice A1 p.types.length c1) ∧ W.cell? ⟨b1, 2, none⟩ = some (.slice A2 n2 c2) ∧ W.cell? ⟨b1, 3, none⟩ = some (.slice A3 n3 c3)) ∧ (W.cell? ⟨b2, 0, none⟩ = some (.string p.name) ∧ W.cell? ⟨b2, 1, none⟩ = some (.slice A1 p.types.length c1) ∧ W.cell? ⟨b2, 2, none⟩ = some (.slice V2 n2 d2) ∧ W.cell? ⟨b2, 3, none⟩ = some (.slice V3 n3 d3)))) (exact ⟨⟨a0, a1, a2, a3⟩, ⟨e0, e1, e2, e3⟩⟩) (first | (go_at_call 10; (with_reducible refine (CS.out _ HFD.out.2.2.2.2.2).mono ?_); rintro e v1 ⟨rfl, hb1⟩; have HG1 := Lib.hid (KEQ.out _ _ HFD.out hb1); obtain ⟨⟨a0, a1, a2, a3⟩, ⟨e0, e1, e2, e3⟩⟩ := HG1.out.1) | (go_at_call 13; (with_reducible refine (VQ.out _ HG1.out.2.2.2.2.1 HG1.out.2.2.2.2.2).mono ?_); rintro e v2 ⟨rfl, hb2⟩; have HG2 := Lib.hid (KEQ.out _ _ HG1.out hb2); obtain ⟨⟨a0, a1, a2, a3⟩, ⟨e0, e1, e2, e3⟩⟩ := HG2.out.1) | (go_at_call 18; (with_reducible refine (M1.out _ HG2.out.2.2.2.1).mono ?_); rintro e v3 ⟨O1, g21, O2, g22, O3, g23, rfl, hO2, hb3⟩; have HG3 := Lib.hid (KEQ.out _ _ HG2.out hb3); have HO2 := Lib.hid hO2; obtain ⟨⟨a0, a1, a2, a3⟩, ⟨e0, e1, e2, e3⟩⟩ := HG3.out.1) | (go_at_call 18; (with_reducible refine (M2.out _ HG3.out.2.2.2.2.1).mono ?_); rintro e v4 ⟨R1, g31, R2, g32, R3, g33, rfl, hO3, hb4⟩; have HG4 := Lib.hid (KEQ.out _ _ HG3.out hb4); have HO3 := Lib.hid hO3; obtain ⟨⟨a0, a1, a2, a3⟩, ⟨e0, e1, e2, e3⟩⟩ := HG4.out.1) | (go_at_call 20; (with_reducible refine (SM.out _ _ _ _ _ _ _ _ _ _ _ _ _ (HO2.out.below hb4) HO3.out).mono ?_); rintro e v5 ⟨rfl, hb5⟩; have HG5 := Lib.hid (KEQ.out _ _ HG4.out hb5); obtain ⟨⟨a0, a1, a2, a3⟩, ⟨e0, e1, e2, e3⟩⟩ := HG5.out.1))
          go_wp2
          go_ret
          exact ⟨rfl, HG5.out.2.2.2.2.2⟩

theorem read_u8 : Tryd.prog.readableRec 5 = true ∧ 5 < Tryd.prog.types.size := ⟨by kernel_rfl, of_decide_eq_true (by kernel_rfl)⟩
theorem fin7 : ∀ t ∈ Tryd.f7.params.toList, Tryd.prog.readableRec t = true ∧ t < Tryd.prog.types.size := by
  rw [Tryd.params7]
  intro t ht
  simp at ht
  rcases ht with rfl | rfl
  · exact reads_Pol
  · exact read_u8
theorem u8_nat {n : Int} (h : (Lit.int .u8 n).wf = true) : ∃ i : Nat, n = (i : Int) ∧ i ≤ 255 := by
  have h' := (Lit.wf_int_iff .u8 n).1 h
  have h1 : 0 ≤ n ∧ n ≤ 255 := h'
  exact ⟨n.toNat, by omega, by omega⟩
set_option maxRecDepth 100000 in
theorem checkReordered_lifted (os : Os) (started : os.Started) (H : Type) (enc : TypeId × Value → H) :
    ReturnsInHanded {} Tryd.checked os 7 .any (fun w args => (Rows.checkReorderedSpec.pre enc Tryd.prog Tryd.f7 [] false w args ∧ laidMetH Tryd.prog laidL w) ∧ sizedMet enc Tryd.prog Tryd.f7 (OpenSpec.ofChange Rows.checkReorderedSpec) false w args)
      (Rows.checkReorderedSpec.post enc Tryd.prog Tryd.f7 false true false false) := by
  refine returnsInHanded_of_change_and (C := Tryd.checked) (X := fun w _ => laidMetH Tryd.prog laidL w) (fun _ _ _ hh h => h.of_heap hh) own_knob started (by kernel_rfl) Tryd.func7
    (ChangeSpec.witness_shaped (enc := enc) (C := Tryd.checked) (os := os) (X := fun w _ => laidMetH Tryd.prog laidL w) false (World.doorLaid Tryd.prog 400 os) #[.agg #[.string { data := #[] }, .slice none 0 0, .slice none 0 0, .slice none 0 0], .int .u8 0, .int .u8 0, .int .u8 0, .int .u8 0] 8 rfl (World.shaped_of_RefB (by kernel_rfl) (by kernel_rfl)) (by kernel_rfl) (by kernel_rfl) (by kernel_rfl) (door_met os _)) ?_
  intro W base args ds gs before hval0 hW _ hsz hL _
  have hval : ∀ (j : Nat) t v, Tryd.f7.params[j]? = some t → args[j]? = some v → Value.okWide Tryd.prog W .any base t v := hval0
  have hW' := hW
  obtain ⟨p0, q0, hA0, hV, rfl, hfz, hnd⟩ := hW
  have hA : DataW.TrodAll enc Tryd.prog W 0 (fun _ => true) true Tryd.f7.params.toList args.toList ds p0 := hA0
  obtain ⟨rfl, rfl⟩ := trodVars_none hV
  have hO := own_of_laid hL
  have hwt := reach_all hsz
  rw [Tryd.params7] at hA hval
  obtain ⟨v0, vs0, dd0, ds0, p0', q0', ev, rfl, rfl, r0, hA⟩ := trodAll_cons hA
  obtain ⟨v1, vs1, dd1, ds1, p1', q1', rfl, rfl, rfl, r1, hA⟩ := trodAll_cons hA
  obtain ⟨v2, vs2, dd2, ds2, p2', q2', rfl, rfl, rfl, r2, hA⟩ := trodAll_cons hA
  obtain ⟨v3, vs3, dd3, ds3, p3', q3', rfl, rfl, rfl, r3, hA⟩ := trodAll_cons hA
  obtain ⟨v4, vs4, dd4, ds4, p4', q4', rfl, rfl, rfl, r4, hA⟩ := trodAll_cons hA
  obtain ⟨rfl, rfl, rfl⟩ := trodAll_nil hA
  obtain rfl : args = #[v0, v1, v2, v3, v4] := by cases args; simp_all
  obtain ⟨p, A1, c1, A2, c2, A3, c3, rfl, hp, _⟩ := open_pol (hval 0 _ v0 rfl rfl) r0 (fun m hm => hwt m (DataW.weights_mem_each (j := 0) rfl rfl _ hm))
  obtain ⟨n1, rfl, rfl, rfl, w1⟩ := open_int Tryd.underlying5 (hval 1 _ v1 rfl rfl) r1
  obtain ⟨n2, rfl, rfl, rfl, w2⟩ := open_int Tryd.underlying5 (hval 2 _ v2 rfl rfl) r2
  obtain ⟨n3, rfl, rfl, rfl, w3⟩ := open_int Tryd.underlying5 (hval 3 _ v3 rfl rfl) r3
  obtain ⟨n4, rfl, rfl, rfl, w4⟩ := open_int Tryd.underlying5 (hval 4 _ v4 rfl rfl) r4
  obtain ⟨i, rfl, hi⟩ := u8_nat w1
  obtain ⟨j, rfl, hj⟩ := u8_nat w2
  obtain ⟨k, rfl, hk⟩ := u8_nat w3
  obtain ⟨l, rfl, hl⟩ := u8_nat w4
  refine (lawReord_any p i j k l hi hj hk hl A1 c1 A2 c2 A3 c3 W hp hO).mono fun e W' ⟨he, hb⟩ => ?_
  subst he
  exact ⟨_, rfl, law_post (by kernel_rfl) fin7 hW' rfl rfl hb⟩
theorem checkReordered_said : Rows.CheckReorderedSaid :=
  OpenClaim.holds_of_wide 7 Tryd.f7 rfl rfl rfl rfl rfl rfl rfl ⟨rfl, rfl, rfl, rfl, rfl⟩ rfl rfl rfl rfl rfl (by kernel_rfl) Tryd.func7 (by kernel_rfl)
    (of_decide_eq_true (by kernel_rfl)) (by unfold Func.isWrapper; first | (rw [if_pos (by decide +kernel)]; kernel_rfl) | (rw [if_neg (by decide +kernel)]; exact ⟨rfl, rfl⟩))
    (fun os started H enc _ => checkReordered_lifted os started H enc)
theorem checkReordered_card : Rows.CheckReorderedCardSaid :=
  Claim7.holds_tied_plain_at .later [] [.widerDeep] true Rows.checkReorderedCard.stood.harness false
    checkReordered_said (fun _ h => by cases h) (by kernel_rfl) (fun _ h => by cases h) checkReordered_row_tie rfl ⟨rfl, rfl⟩ (by kernel_rfl) rfl
    (fun f fn hf hfn => by
      obtain rfl : f = 7 := Option.some.inj ((show Tryd.prog.funcNamed "custody/custodylaw13.CheckReordered" = some 7 by kernel_rfl).symm.trans hf) |>.symm
      obtain rfl : fn = Tryd.f7 := (Option.some.inj (Tryd.func7.symm.trans hfn)).symm
      exact ⟨by kernel_rfl, fun j t ht => by
        rw [Tryd.params7] at ht
        have hm := Array.mem_of_getElem? ht
        have hall : ((Tryd.f7.params.toList).all fun u => !Tryd.prog.wantsStandIn u) = true := by kernel_rfl
        rw [Tryd.params7] at hall
        have := List.all_eq_true.1 hall t (by simpa using hm)
        exact (show Tryd.prog.wantsStandIn t = false by simpa using this)⟩)
    (by kernel_rfl)
#print axioms checkReordered_card
end Go.Proofs.YtemkffejekgmfaaDoor
