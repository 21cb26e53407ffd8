/- For any two policies with at most 40 types, 300 rules and 40 quorums, Same reports whether they are equal (every input; the package variable check.own as the program's text lays it). -/
import Derived.Test.YtemkffejekgmfaaDoorF2
import Derived.Test.YtemkffejekgmfaaDoorG0
namespace Go.Proofs.YtemkffejekgmfaaDoor
open Go.RowKit Go.ChangeShapes Go.WideShapes
theorem BoxP.cls {W : World} {b : Nat} {v0 v1 v2 v3 : Value} (h : BoxP W b v0 v1 v2 v3) : W.cell? ⟨b, 0, none⟩ = some v0 ∧ W.cell? ⟨b, 1, none⟩ = some v1 ∧ W.cell? ⟨b, 2, none⟩ = some v2 ∧ W.cell? ⟨b, 3, none⟩ = some v3 := ⟨h.c0, h.c1, h.c2, h.c3⟩

set_option maxRecDepth 100000 in
set_option maxHeartbeats 4000000 in
theorem lawSame_any (p q : Pol) (A1 : Option Addr) (c1 : Nat) (A2 : Option Addr) (c2 : Nat) (A3 : Option Addr) (c3 : Nat) (B1 : Option Addr) (d1 : Nat) (B2 : Option Addr) (d2 : Nat) (B3 : Option Addr) (d3 : Nat) (w : World) (hp : PolR w p A1 c1 A2 c2 A3 c3) (hq : PolR w q B1 d1 B2 d2 B3 d3) (ho : OwnLaid w) :
    Calls Tryd.prog 4 #[.agg #[.string p.name, .slice A1 p.types.length c1, .slice A2 p.rules.length c2, .slice A3 p.quorums.length c3], .agg #[.string q.name, .slice B1 q.types.length d1, .slice B2 q.rules.length d2, .slice B3 q.quorums.length d3]] w fun e w' => e = .returned (.bool true) ∧ Below w.heap.size w w' := by
  have CS : Hid (∀ W, Below w.heap.size w W → Calls Tryd.prog 10 #[] W fun e w' => e = .returned (.bool true) ∧ Below W.heap.size W w') := fun W h => sanity_any W (RS.below ho h)
  have F1 : Hid (∀ W, Calls Tryd.prog 9 #[.agg #[.string p.name, .slice A1 p.types.length c1, .slice A2 p.rules.length c2, .slice A3 p.quorums.length c3]] W fun e w' => e = .returned (.bool (fewB p)) ∧ Below W.heap.size W w') := fun W => few_any p A1 c1 A2 c2 A3 c3 W
  have F2 : Hid (∀ W, Calls Tryd.prog 9 #[.agg #[.string q.name, .slice B1 q.types.length d1, .slice B2 q.rules.length d2, .slice B3 q.quorums.length d3]] W fun e w' => e = .returned (.bool (fewB q)) ∧ Below W.heap.size W w') := fun W => few_any q B1 d1 B2 d2 B3 d3 W
  have S1 : Hid (∀ W, PolR W p A1 c1 A2 c2 A3 c3 → PolR W q B1 d1 B2 d2 B3 d3 → Calls Tryd.prog 20 #[.agg #[.string p.name, .slice A1 p.types.length c1, .slice A2 p.rules.length c2, .slice A3 p.quorums.length c3], .agg #[.string q.name, .slice B1 q.types.length d1, .slice B2 q.rules.length d2, .slice B3 q.quorums.length d3]] W fun e w' => e = .returned (.bool (decide (p = q))) ∧ Below W.heap.size W w') := fun W h h' => same_any p q A1 c1 A2 c2 A3 c3 B1 d1 B2 d2 B3 d3 W h h'
  have S2 : Hid (∀ W, PolR W p A1 c1 A2 c2 A3 c3 → PolR W q B1 d1 B2 d2 B3 d3 → Calls Tryd.prog 17 #[.agg #[.string p.name, .slice A1 p.types.length c1, .slice A2 p.rules.length c2, .slice A3 p.quorums.length c3], .agg #[.string q.name, .slice B1 q.types.length d1, .slice B2 q.rules.length d2, .slice B3 q.quorums.length d3]] W fun e w' => e = .returned (.bool (decide (p = q))) ∧ Below W.heap.size W w') := fun W h h' => refSame_any p q A1 c1 A2 c2 A3 c3 B1 d1 B2 d2 B3 d3 W h h'
  have S3 : Hid (∀ W, PolR W p A1 c1 A2 c2 A3 c3 → Calls Tryd.prog 20 #[.agg #[.string p.name, .slice A1 p.types.length c1, .slice A2 p.rules.length c2, .slice A3 p.quorums.length c3], .agg #[.string p.name, .slice A1 p.types.length c1, .slice A2 p.rules.length c2, .slice A3 p.quorums.length c3]] W fun e w' => e = .returned (.bool true) ∧ Below W.heap.size W w') := fun W h => by
    have := same_any p p A1 c1 A2 c2 A3 c3 A1 c1 A2 c2 A3 c3 W h h
    rw [decide_eq_true rfl] at this; exact this
  have HST : Hid (∀ t, PolR ((w.alloc (.cells #[.string p.name, .slice A1 p.types.length c1, .slice A2 p.rules.length c2, .slice A3 p.quorums.length c3] t)).alloc (.cells #[.string q.name, .slice B1 q.types.length d1, .slice B2 q.rules.length d2, .slice B3 q.quorums.length d3] t)) p A1 c1 A2 c2 A3 c3 ∧ PolR ((w.alloc (.cells #[.string p.name, .slice A1 p.types.length c1, .slice A2 p.rules.length c2, .slice A3 p.quorums.length c3] t)).alloc (.cells #[.string q.name, .slice B1 q.types.length d1, .slice B2 q.rules.length d2, .slice B3 q.quorums.length d3] t)) q B1 d1 B2 d2 B3 d3) := fun t => by
    have hb : Below w.heap.size w ((w.alloc (.cells #[.string p.name, .slice A1 p.types.length c1, .slice A2 p.rules.length c2, .slice A3 p.quorums.length c3] t)).alloc (.cells #[.string q.name, .slice B1 q.types.length d1, .slice B2 q.rules.length d2, .slice B3 q.quorums.length d3] t)) := ((Below.refl _ _).alloc (Nat.le_refl _) _).alloc (by simp) _
    exact ⟨hp.below hb, hq.below hb⟩
  clear hp hq ho
  generalize hr : decide (p = q) = r at *
  clear hr
  obtain ⟨f1, hf1⟩ : ∃ f, fewB p = f := ⟨_, rfl⟩
  obtain ⟨f2, hf2⟩ : ∃ f, fewB q = f := ⟨_, rfl⟩
  rw [hf1] at F1
  rw [hf2] at F2
  clear hf1 hf2
  go_enter Tryd.func4, Tryd.ntmps4
  go_wp2_with fail
  have HF0 : Hid (∀ b1 b2, b1 = w.heap.size → b2 = w.heap.size + 1 → (((((w.alloc (.cells #[.string p.name, .slice A1 p.types.length c1, .slice A2 p.rules.length c2, .slice A3 p.quorums.length c3] 26)).alloc (.cells #[.string q.name, .slice B1 q.types.length d1, .slice B2 q.rules.length d2, .slice B3 q.quorums.length d3] 26)).cell? ⟨b1, 0, none⟩ = some (.string p.name) ∧ ((w.alloc (.cells #[.string p.name, .slice A1 p.types.length c1, .slice A2 p.rules.length c2, .slice A3 p.quorums.length c3] 26)).alloc (.cells #[.string q.name, .slice B1 q.types.length d1, .slice B2 q.rules.length d2, .slice B3 q.quorums.length d3] 26)).cell? ⟨b1, 1, none⟩ = some (.slice A1 p.types.length c1) ∧ ((w.alloc (.cells #[.string p.name, .slice A1 p.types.length c1, .slice A2 p.rules.length c2, .slice A3 p.quorums.length c3] 26)).alloc (.cells #[.string q.name, .slice B1 q.types.length d1, .slice B2 q.rules.length d2, .slice B3 q.quorums.length d3] 26)).cell? ⟨b1, 2, none⟩ = some (.slice A2 p.rules.length c2) ∧ ((w.alloc (.cells #[.string p.name, .slice A1 p.types.length c1, .slice A2 p.rules.length c2, .slice A3 p.quorums.length c3] 26)).alloc (.cells #[.string q.name, .slice B1 q.types.length d1, .slice B2 q.rules.length d2, .slice B3 q.quorums.length d3] 26)).cell? ⟨b1, 3, none⟩ = some (.slice A3 p.quorums.length c3)) ∧ (((w.alloc (.cells #[.string p.name, .slice A1 p.types.length c1, .slice A2 p.rules.length c2, .slice A3 p.quorums.length c3] 26)).alloc (.cells #[.string q.name, .slice B1 q.types.length d1, .slice B2 q.rules.length d2, .slice B3 q.quorums.length d3] 26)).cell? ⟨b2, 0, none⟩ = some (.string q.name) ∧ ((w.alloc (.cells #[.string p.name, .slice A1 p.types.length c1, .slice A2 p.rules.length c2, .slice A3 p.quorums.length c3] 26)).alloc (.cells #[.string q.name, .slice B1 q.types.length d1, .slice B2 q.rules.length d2, .slice B3 q.quorums.length d3] 26)).cell? ⟨b2, 1, none⟩ = some (.slice B1 q.types.length d1) ∧ ((w.alloc (.cells #[.string p.name, .slice A1 p.types.length c1, .slice A2 p.rules.length c2, .slice A3 p.quorums.length c3] 26)).alloc (.cells #[.string q.name, .slice B1 q.types.length d1, .slice B2 q.rules.length d2, .slice B3 q.quorums.length d3] 26)).cell? ⟨b2, 2, none⟩ = some (.slice B2 q.rules.length d2) ∧ ((w.alloc (.cells #[.string p.name, .slice A1 p.types.length c1, .slice A2 p.rules.length c2, .slice A3 p.quorums.length c3] 26)).alloc (.cells #[.string q.name, .slice B1 q.types.length d1, .slice B2 q.rules.length d2, .slice B3 q.quorums.length d3] 26)).cell? ⟨b2, 3, none⟩ = some (.slice B3 q.quorums.length d3))) ∧ BoxP ((w.alloc (.cells #[.string p.name, .slice A1 p.types.length c1, .slice A2 p.rules.length c2, .slice A3 p.quorums.length c3] 26)).alloc (.cells #[.string q.name, .slice B1 q.types.length d1, .slice B2 q.rules.length d2, .slice B3 q.quorums.length d3] 26)) b1 (.string p.name) (.slice A1 p.types.length c1) (.slice A2 p.rules.length c2) (.slice A3 p.quorums.length c3) ∧ BoxP ((w.alloc (.cells #[.string p.name, .slice A1 p.types.length c1, .slice A2 p.rules.length c2, .slice A3 p.quorums.length c3] 26)).alloc (.cells #[.string q.name, .slice B1 q.types.length d1, .slice B2 q.rules.length d2, .slice B3 q.quorums.length d3] 26)) b2 (.string q.name) (.slice B1 q.types.length d1) (.slice B2 q.rules.length d2) (.slice B3 q.quorums.length d3) ∧ PolR ((w.alloc (.cells #[.string p.name, .slice A1 p.types.length c1, .slice A2 p.rules.length c2, .slice A3 p.quorums.length c3] 26)).alloc (.cells #[.string q.name, .slice B1 q.types.length d1, .slice B2 q.rules.length d2, .slice B3 q.quorums.length d3] 26)) p A1 c1 A2 c2 A3 c3 ∧ PolR ((w.alloc (.cells #[.string p.name, .slice A1 p.types.length c1, .slice A2 p.rules.length c2, .slice A3 p.quorums.length c3] 26)).alloc (.cells #[.string q.name, .slice B1 q.types.length d1, .slice B2 q.rules.length d2, .slice B3 q.quorums.length d3] 26)) q B1 d1 B2 d2 B3 d3 ∧ Below w.heap.size w ((w.alloc (.cells #[.string p.name, .slice A1 p.types.length c1, .slice A2 p.rules.length c2, .slice A3 p.quorums.length c3] 26)).alloc (.cells #[.string q.name, .slice B1 q.types.length d1, .slice B2 q.rules.length d2, .slice B3 q.quorums.length d3] 26)))) := by
    rintro b1 b2 rfl rfl
    have x1 := (BoxP.new w (.string p.name) (.slice A1 p.types.length c1) (.slice A2 p.rules.length c2) (.slice A3 p.quorums.length c3) 26).below ((Below.refl _ _).alloc (Nat.le_refl _) (.cells #[.string q.name, .slice B1 q.types.length d1, .slice B2 q.rules.length d2, .slice B3 q.quorums.length d3] 26))
    have x2 := BoxP.new (w.alloc (.cells #[.string p.name, .slice A1 p.types.length c1, .slice A2 p.rules.length c2, .slice A3 p.quorums.length c3] 26)) (.string q.name) (.slice B1 q.types.length d1) (.slice B2 q.rules.length d2) (.slice B3 q.quorums.length d3) 26
    rw [World.size_alloc] at x2
    exact ⟨⟨x1.cls, x2.cls⟩, x1, x2, (HST.out _).1, (HST.out _).2, ((Below.refl _ _).alloc (Nat.le_refl _) _).alloc (by simp) _⟩
  clear HST
  obtain ⟨b1, hb1⟩ : ∃ b, b = w.heap.size := ⟨_, rfl⟩
  obtain ⟨b2, hb2⟩ : ∃ b, b = w.heap.size + 1 := ⟨_, rfl⟩
  have HF := Lib.hid (HF0.out b1 b2 hb1 hb2)
  rw [← hb2, ← hb1]
  clear HF0 hb1 hb2
  generalize ((w.alloc (.cells #[.string p.name, .slice A1 p.types.length c1, .slice A2 p.rules.length c2, .slice A3 p.quorums.length c3] 26)).alloc (.cells #[.string q.name, .slice B1 q.types.length d1, .slice B2 q.rules.length d2, .slice B3 q.quorums.length d3] 26)) = w0 at *
  have KEEP : Hid (∀ W W', (((W.cell? ⟨b1, 0, none⟩ = some (.string p.name) ∧ W.cell? ⟨b1, 1, none⟩ = some (.slice A1 p.types.length c1) ∧ W.cell? ⟨b1, 2, none⟩ = some (.slice A2 p.rules.length c2) ∧ W.cell? ⟨b1, 3, none⟩ = some (.slice A3 p.quorums.length c3)) ∧ (W.cell? ⟨b2, 0, none⟩ = some (.string q.name) ∧ W.cell? ⟨b2, 1, none⟩ = some (.slice B1 q.types.length d1) ∧ W.cell? ⟨b2, 2, none⟩ = some (.slice B2 q.rules.length d2) ∧ W.cell? ⟨b2, 3, none⟩ = some (.slice B3 q.quorums.length d3))) ∧ BoxP W b1 (.string p.name) (.slice A1 p.types.length c1) (.slice A2 p.rules.length c2) (.slice A3 p.quorums.length c3) ∧ BoxP W b2 (.string q.name) (.slice B1 q.types.length d1) (.slice B2 q.rules.length d2) (.slice B3 q.quorums.length d3) ∧ PolR W p A1 c1 A2 c2 A3 c3 ∧ PolR W q B1 d1 B2 d2 B3 d3 ∧ Below w.heap.size w W) → Below W.heap.size W W' → (((W'.cell? ⟨b1, 0, none⟩ = some (.string p.name) ∧ W'.cell? ⟨b1, 1, none⟩ = some (.slice A1 p.types.length c1) ∧ W'.cell? ⟨b1, 2, none⟩ = some (.slice A2 p.rules.length c2) ∧ W'.cell? ⟨b1, 3, none⟩ = some (.slice A3 p.quorums.length c3)) ∧ (W'.cell? ⟨b2, 0, none⟩ = some (.string q.name) ∧ W'.cell? ⟨b2, 1, none⟩ = some (.slice B1 q.types.length d1) ∧ W'.cell? ⟨b2, 2, none⟩ = some (.slice B2 q.rules.length d2) ∧ W'.cell? ⟨b2, 3, none⟩ = some (.slice B3 q.quorums.length d3))) ∧ BoxP W' b1 (.string p.name) (.slice A1 p.types.length c1) (.slice A2 p.rules.length c2) (.slice A3 p.quorums.length c3) ∧ BoxP W' b2 (.string q.name) (.slice B1 q.types.length d1) (.slice B2 q.rules.length d2) (.slice B3 q.quorums.length d3) ∧ PolR W' p A1 c1 A2 c2 A3 c3 ∧ PolR W' q B1 d1 B2 d2 B3 d3 ∧ Below w.heap.size w W')) := by
    rintro W W' ⟨_, h1, h2, h3, h4, h5⟩ hb
    exact ⟨⟨(h1.below hb).cls, (h2.below hb).cls⟩, h1.below hb, h2.below hb, h3.below hb, h4.below hb, h5.trans (hb.mono h5.size)⟩
  refine (F1.out _).mono ?_
  rintro e w1 ⟨rfl, hb⟩
  have HF1 := Lib.hid (KEEP.out _ _ HF.out hb)
  clear hb HF
  cases f1 with
  | false =>
    go_wp2_with fail
    refine (CS.out _ HF1.out.2.2.2.2.2).mono ?_
    rintro e w2 ⟨rfl, hb⟩
    have HB := Lib.hid (KEEP.out _ _ HF1.out hb).2.2.2.2.2
    clear hb
    go_wp2
    go_ret
    exact ⟨rfl, HB.out⟩
  | true =>
    obtain ⟨⟨a0, a1, a2, a3⟩, ⟨e0, e1, e2, e3⟩⟩ := HF1.out.1
    go_wp2_with fail
    refine (F2.out _).mono ?_
    rintro e w2 ⟨rfl, hb⟩
    have HF2 := Lib.hid (KEEP.out _ _ HF1.out hb)
    clear hb HF1 a0 a1 a2 a3 e0 e1 e2 e3
    cases f2 with
    | false =>
      go_wp2_with fail
      refine (CS.out _ HF2.out.2.2.2.2.2).mono ?_
      rintro e w3 ⟨rfl, hb⟩
      have HB := Lib.hid (KEEP.out _ _ HF2.out hb).2.2.2.2.2
      clear hb
      go_wp2
      go_ret
      exact ⟨rfl, HB.out⟩
    | true =>
      have HG0 := Lib.hid (KEEP.out _ _ HF2.out (Below.refl _ _).drew)
      obtain ⟨⟨a0, a1, a2, a3⟩, ⟨e0, e1, e2, e3⟩⟩ := HF2.out.1
      go_wp2_with fail
      go_region_held3 (fun W => ((W.cell? ⟨b1, 0, none⟩ = some (.string p.name) ∧ W.cell? ⟨b1, 1, none⟩ = some (.slice A1 p.types.length c1) ∧ W.cell? ⟨b1, 2, none⟩ = some (.slice A2 p.rules.length c2) ∧ W.cell? ⟨b1, 3, none⟩ = some (.slice A3 p.quorums.length c3)) ∧ (W.cell? ⟨b2, 0, none⟩ = some (.string q.name) ∧ W.cell? ⟨b2, 1, none⟩ = some (.slice B1 q.types.length d1) ∧ W.cell? ⟨b2, 2, none⟩ = some (.slice B2 q.rules.length d2) ∧ W.cell? ⟨b2, 3, none⟩ = some (.slice B3 q.quorums.length d3)))) (go_keep) (first | (go_at_call 10; (with_reducible refine (CS.out _ HG0.out.2.2.2.2.2).mono ?_); rintro e v1 ⟨rfl, hb1⟩; have HG1 := Lib.hid (KEEP.out _ _ HG0.out hb1); obtain ⟨⟨a0, a1, a2, a3⟩, ⟨e0, e1, e2, e3⟩⟩ := HG1.out.1) | (go_at_call 20; (with_reducible refine (S1.out _ HG1.out.2.2.2.1 HG1.out.2.2.2.2.1).mono ?_); rintro e v2 ⟨rfl, hb2⟩; have HG2 := Lib.hid (KEEP.out _ _ HG1.out hb2); obtain ⟨⟨a0, a1, a2, a3⟩, ⟨e0, e1, e2, e3⟩⟩ := HG2.out.1) | (go_at_call 17; (with_reducible refine (S2.out _ HG2.out.2.2.2.1 HG2.out.2.2.2.2.1).mono ?_); rintro e v3 ⟨rfl, hb3⟩; have HG3 := Lib.hid (KEEP.out _ _ HG2.out hb3); obtain ⟨⟨a0, a1, a2, a3⟩, ⟨e0, e1, e2, e3⟩⟩ := HG3.out.1) | (go_at_call 20; (with_reducible refine (S3.out _ HG3.out.2.2.2.1).mono ?_); rintro e v4 ⟨rfl, hb4⟩; have HG4 := Lib.hid (KEEP.out _ _ HG3.out hb4); obtain ⟨⟨a0, a1, a2, a3⟩, ⟨e0, e1, e2, e3⟩⟩ := HG4.out.1))
      go_wp2
      go_ret
      exact ⟨by cases r <;> rfl, HG4.out.2.2.2.2.2⟩

theorem reads_Pol : Tryd.prog.readableRec 26 = true ∧ 26 < Tryd.prog.types.size := ⟨by kernel_rfl, of_decide_eq_true (by kernel_rfl)⟩
theorem fin4 : ∀ t ∈ Tryd.f4.params.toList, Tryd.prog.readableRec t = true ∧ t < Tryd.prog.types.size := by
  rw [Tryd.params4]
  intro t ht
  simp at ht
  subst ht
  exact reads_Pol
set_option maxRecDepth 100000 in
theorem checkSameMatchesSpec_lifted (os : Os) (started : os.Started) (H : Type) (enc : TypeId × Value → H) :
    ReturnsInHanded {} Tryd.checked os 4 .any (fun w args => (Rows.checkSameMatchesSpecSpec.pre enc Tryd.prog Tryd.f4 [] false w args ∧ laidMetH Tryd.prog laidL w) ∧ sizedMet enc Tryd.prog Tryd.f4 (OpenSpec.ofChange Rows.checkSameMatchesSpecSpec) false w args)
      (Rows.checkSameMatchesSpecSpec.post enc Tryd.prog Tryd.f4 false true false false) := by
  refine returnsInHanded_of_change_and (C := Tryd.checked) (X := fun w _ => laidMetH Tryd.prog laidL w) (fun _ _ _ hh h => h.of_heap hh) own_knob started (by kernel_rfl) Tryd.func4
    (ChangeSpec.witness_shaped (enc := enc) (C := Tryd.checked) (os := os) (X := fun w _ => laidMetH Tryd.prog laidL w) false (World.doorLaid Tryd.prog 400 os) #[.agg #[.string { data := #[] }, .slice none 0 0, .slice none 0 0, .slice none 0 0], .agg #[.string { data := #[] }, .slice none 0 0, .slice none 0 0, .slice none 0 0]] 8 rfl (World.shaped_of_RefB (by kernel_rfl) (by kernel_rfl)) (by kernel_rfl) (by kernel_rfl) (by kernel_rfl) (door_met os _)) ?_
  intro W base args ds gs before hval0 hW _ hsz hL _
  have hval : ∀ (j : Nat) t v, Tryd.f4.params[j]? = some t → args[j]? = some v → Value.okWide Tryd.prog W .any base t v := hval0
  have hW' := hW
  obtain ⟨p0, q0, hA0, hV, rfl, hfz, hnd⟩ := hW
  have hA : DataW.TrodAll enc Tryd.prog W 0 (fun _ => true) true Tryd.f4.params.toList args.toList ds p0 := hA0
  obtain ⟨rfl, rfl⟩ := trodVars_none hV
  have hO := own_of_laid hL
  have hwt := reach_all hsz
  rw [Tryd.params4] at hA hval
  obtain ⟨v0, v1, dd0, dd1, u0, u1, rfl, rfl, rfl, r0, r1⟩ := trodAll_two hA
  obtain ⟨p, A1, c1, A2, c2, A3, c3, rfl, hp, _⟩ := open_pol (hval 0 _ v0 rfl rfl) r0 (fun m hm => hwt m (DataW.weights_mem_each (j := 0) rfl rfl _ hm))
  obtain ⟨q, B1, d1, B2, d2, B3, d3, rfl, hq, _⟩ := open_pol (hval 1 _ v1 rfl rfl) r1 (fun m hm => hwt m (DataW.weights_mem_each (j := 1) rfl rfl _ hm))
  refine (lawSame_any p q A1 c1 A2 c2 A3 c3 B1 d1 B2 d2 B3 d3 W hp hq hO).mono fun e W' ⟨he, hb⟩ => ?_
  subst he
  exact ⟨_, rfl, law_post (by kernel_rfl) fin4 hW' rfl rfl hb⟩
theorem checkSameMatchesSpec_said : Rows.CheckSameMatchesSpecSaid :=
  OpenClaim.holds_of_wide 4 Tryd.f4 rfl rfl rfl rfl rfl rfl rfl ⟨rfl, rfl, rfl, rfl, rfl⟩ rfl rfl rfl rfl rfl (by kernel_rfl) Tryd.func4 (by kernel_rfl)
    (of_decide_eq_true (by kernel_rfl)) (by unfold Func.isWrapper; first | (rw [if_pos (by decide +kernel)]; kernel_rfl) | (rw [if_neg (by decide +kernel)]; exact ⟨rfl, rfl⟩))
    (fun os started H enc _ => checkSameMatchesSpec_lifted os started H enc)
theorem checkSameMatchesSpec_card : Rows.CheckSameMatchesSpecCardSaid :=
  Claim7.holds_tied_plain_at .later [] [.widerDeep] true Rows.checkSameMatchesSpecCard.stood.harness false
    checkSameMatchesSpec_said (fun _ h => by cases h) (by kernel_rfl) (fun _ h => by cases h) checkSameMatchesSpec_row_tie rfl ⟨rfl, rfl⟩ (by kernel_rfl) rfl
    (fun f fn hf hfn => by
      obtain rfl : f = 4 := Option.some.inj ((show Tryd.prog.funcNamed "custody/custodylaw13.CheckSameMatchesSpec" = some 4 by kernel_rfl).symm.trans hf) |>.symm
      obtain rfl : fn = Tryd.f4 := (Option.some.inj (Tryd.func4.symm.trans hfn)).symm
      exact ⟨by kernel_rfl, fun j t ht => by
        rw [Tryd.params4] at ht
        have hm := Array.mem_of_getElem? ht
        have hall : ((Tryd.f4.params.toList).all fun u => !Tryd.prog.wantsStandIn u) = true := by kernel_rfl
        rw [Tryd.params4] at hall
        have := List.all_eq_true.1 hall t (by simpa using hm)
        exact (show Tryd.prog.wantsStandIn t = false by simpa using this)⟩)
    (by kernel_rfl)
#print axioms checkSameMatchesSpec_card
end Go.Proofs.YtemkffejekgmfaaDoor
