/- For any two valid policies with at most 40 types, 300 rules and 40 quorums, with the same Name and types: they have the same normal form if and only if every rule and quorum of one of them is one of the other (every input; the package variable check.own as the program's text lays it). -/
import Derived.Test.YtemkffejekgmfaaDoorW3
import Derived.Test.YtemkffejekgmfaaDoorH6
namespace Go.Proofs.YtemkffejekgmfaaDoor
open Go.RowKit Go.ChangeShapes Go.WideShapes

/-- The second policy with the first one's name and types. -/
def likeP (a b : Pol) : Pol := ⟨a.name, a.types, b.rules, b.quorums⟩
theorem norm_inside {a b : Pol} (ha : (checkS a).2 = 0) (hb : (checkS (likeP a b)).2 = 0) : decide (normS a = normS (likeP a b)) = (insideS a (likeP a b) && insideS (likeP a b) a) := by
  have va := (valid_iff a).1 ha
  have vb := (valid_iff _).1 hb
  rw [Bool.eq_iff_iff, decide_eq_true_iff]
  unfold insideS
  simp only [Bool.and_eq_true, decide_eq_true_iff]
  constructor
  · intro h
    have e1 : sortR ltRl a.rules = sortR ltRl b.rules := congrArg Pol.rules h
    have e2 : sortR ltQm a.quorums = sortR ltQm b.quorums := congrArg Pol.quorums h
    have p1 : a.rules.Perm b.rules := (sortR_perm ltRl a.rules).symm.trans (e1 ▸ sortR_perm ltRl b.rules)
    have p2 : a.quorums.Perm b.quorums := (sortR_perm ltQm a.quorums).symm.trans (e2 ▸ sortR_perm ltQm b.quorums)
    exact ⟨⟨fun r hr => p1.mem_iff.1 hr, fun r hr => p2.mem_iff.1 hr⟩, fun r hr => p1.mem_iff.2 hr, fun r hr => p2.mem_iff.2 hr⟩
  · rintro ⟨⟨h1, h2⟩, h3, h4⟩
    have nodupQ : ∀ l : List Qm, (l.map (·.cmd)).Nodup → l.Nodup := fun l h => by
      rw [List.Nodup, List.pairwise_map] at h
      exact h.imp (fun hxy e => hxy (by rw [e]))
    have p1 : a.rules.Perm b.rules := (List.perm_ext_iff_of_nodup va.2.2.1.2.2 vb.2.2.1.2.2).2 (fun r => ⟨h1 r, h3 r⟩)
    have p2 : a.quorums.Perm b.quorums := (List.perm_ext_iff_of_nodup (nodupQ _ va.2.2.2.2) (nodupQ _ vb.2.2.2.2)).2 (fun r => ⟨h2 r, h4 r⟩)
    exact norm_perm ha rfl rfl p1.symm p2.symm

set_option maxRecDepth 100000 in
set_option maxHeartbeats 8000000 in
theorem lawDiff_any (p q0 q : Pol) (hq0 : q = likeP p q0) (A1 : Option Addr) (c1 : Nat) (A2 : Option Addr) (c2 : Nat) (A3 : Option Addr) (c3 : Nat) (B1 : Option Addr) (d1 : Nat) (B2 : Option Addr) (d2 : Nat) (B3 : Option Addr) (d3 : Nat) (w : World) (hp : PolR w p A1 c1 A2 c2 A3 c3) (hq : PolR w q0 B1 d1 B2 d2 B3 d3) (ho : OwnLaid w)
    (ok1 : ∀ r ∈ p.rules, okRl r) (ok2 : ∀ x ∈ p.quorums, okQm x) (ok3 : ∀ r ∈ q0.rules, okRl r) (ok4 : ∀ x ∈ q0.quorums, okQm x) :
    Calls Tryd.prog 8 #[.agg #[.string p.name, .slice A1 p.types.length c1, .slice A2 p.rules.length c2, .slice A3 p.quorums.length c3], .agg #[.string q0.name, .slice B1 q0.types.length d1, .slice B2 q0.rules.length d2, .slice B3 q0.quorums.length d3]] w fun e w' => e = .returned (.bool true) ∧ Below w.heap.size w w' := by
  have hqr : PolR w q A1 c1 B2 d2 B3 d3 := by rw [hq0]; exact ⟨hp.r1, hp.l1, hq.r2, hq.l2, hq.r3, hq.l3, hp.nm, hp.tn⟩
  have hok3 : ∀ r ∈ q.rules, okRl r := by rw [hq0]; exact ok3
  have hok4 : ∀ x ∈ q.quorums, okQm x := by rw [hq0]; exact ok4
  have qn : q.name = p.name := by rw [hq0]; rfl
  have qt : q.types = p.types := by rw [hq0]; rfl
  have r0 : q0.rules.length = q.rules.length := by rw [hq0]; rfl
  have r1 : q0.quorums.length = q.quorums.length := by rw [hq0]; rfl
  have HLAW : Hid ((checkS p).2 = 0 → (checkS q).2 = 0 → decide (normS p = normS q) = (insideS p q && insideS q p)) := by rw [hq0]; exact norm_inside
  clear hq0
  have CS : Hid (∀ W, Below w.heap.size w W → Calls Tryd.prog 10 #[] W fun e w' => e = .returned (.bool true) ∧ Below W.heap.size W w') := fun W h => sanity_any W (RS.below ho h)
  have F1 : Hid (∀ W, Calls Tryd.prog 9 #[.agg #[.string p.name, .slice A1 p.types.length c1, .slice A2 p.rules.length c2, .slice A3 p.quorums.length c3]] W fun e w' => e = .returned (.bool (fewB p)) ∧ Below W.heap.size W w') := fun W => few_any p A1 c1 A2 c2 A3 c3 W
  have F2 : Hid (∀ W, Calls Tryd.prog 9 #[.agg #[.string q.name, .slice A1 q.types.length c1, .slice B2 q.rules.length d2, .slice B3 q.quorums.length d3]] W fun e w' => e = .returned (.bool (fewB q)) ∧ Below W.heap.size W w') := fun W => few_any q A1 c1 B2 d2 B3 d3 W
  have V1 : Hid (∀ W, PolR W p A1 c1 A2 c2 A3 c3 → Below w.heap.size w W → Calls Tryd.prog 13 #[.agg #[.string p.name, .slice A1 p.types.length c1, .slice A2 p.rules.length c2, .slice A3 p.quorums.length c3]] W fun e w' => e = .returned (.bool ((checkS p).2 == 0)) ∧ Below W.heap.size W w') := fun W h h' => valid_any p A1 c1 A2 c2 A3 c3 W h (RS.below ho h')
  have V2 : Hid (∀ W, PolR W q A1 c1 B2 d2 B3 d3 → Below w.heap.size w W → Calls Tryd.prog 13 #[.agg #[.string q.name, .slice A1 q.types.length c1, .slice B2 q.rules.length d2, .slice B3 q.quorums.length d3]] W fun e w' => e = .returned (.bool ((checkS q).2 == 0)) ∧ Below W.heap.size W w') := fun W h h' => valid_any q A1 c1 B2 d2 B3 d3 W h (RS.below ho h')
  have M1 : Hid (fewB p = true → ∀ W, PolR W p A1 c1 A2 c2 A3 c3 → Calls Tryd.prog 18 #[.agg #[.string p.name, .slice A1 p.types.length c1, .slice A2 p.rules.length c2, .slice A3 p.quorums.length c3]] W (NormPost p W)) := fun hf W h => normal_post p A1 c1 A2 c2 A3 c3 W h hf
  have M2 : Hid (fewB q = true → ∀ W, PolR W q A1 c1 B2 d2 B3 d3 → Calls Tryd.prog 18 #[.agg #[.string q.name, .slice A1 q.types.length c1, .slice B2 q.rules.length d2, .slice B3 q.quorums.length d3]] W (NormPost q W)) := fun hf W h => normal_post q A1 c1 B2 d2 B3 d3 W h hf
  have SM : Hid (∀ O1 g1 O2 g2 O3 g3 R1 h1 R2 h2 R3 h3 W, PolR W (normS p) O1 g1 O2 g2 O3 g3 → PolR W (normS q) R1 h1 R2 h2 R3 h3 → Calls Tryd.prog 20 #[.agg #[.string p.name, .slice O1 p.types.length g1, .slice O2 p.rules.length g2, .slice O3 p.quorums.length g3], .agg #[.string q.name, .slice R1 q.types.length h1, .slice R2 q.rules.length h2, .slice R3 q.quorums.length h3]] W fun e w' => e = .returned (.bool (decide (normS p = normS q))) ∧ Below W.heap.size W w') := fun O1 g1 O2 g2 O3 g3 R1 h1 R2 h2 R3 h3 W h h' => by
    have := same_any (normS p) (normS q) O1 g1 O2 g2 O3 g3 R1 h1 R2 h2 R3 h3 W h h'
    obtain ⟨k1, k2, k3, k4⟩ := normS_len p
    obtain ⟨m1, m2, m3, m4⟩ := normS_len q
    rw [k1, k2, k3, k4, m1, m2, m3, m4] at this
    exact this
  have I1 : Hid (∀ W, PolR W p A1 c1 A2 c2 A3 c3 → PolR W q A1 c1 B2 d2 B3 d3 → Calls Tryd.prog 22 #[.agg #[.string p.name, .slice A1 p.types.length c1, .slice A2 p.rules.length c2, .slice A3 p.quorums.length c3], .agg #[.string q.name, .slice A1 q.types.length c1, .slice B2 q.rules.length d2, .slice B3 q.quorums.length d3]] W fun e w' => e = .returned (.bool (insideS p q)) ∧ Below W.heap.size W w') := fun W h h' => inside_any p q A1 c1 A2 c2 A3 c3 A1 c1 B2 d2 B3 d3 W h h' ok1 ok2 hok3 hok4
  have I2 : Hid (∀ W, PolR W p A1 c1 A2 c2 A3 c3 → PolR W q A1 c1 B2 d2 B3 d3 → Calls Tryd.prog 22 #[.agg #[.string q.name, .slice A1 q.types.length c1, .slice B2 q.rules.length d2, .slice B3 q.quorums.length d3], .agg #[.string p.name, .slice A1 p.types.length c1, .slice A2 p.rules.length c2, .slice A3 p.quorums.length c3]] W fun e w' => e = .returned (.bool (insideS q p)) ∧ Below W.heap.size W w') := fun W h h' => inside_any q p A1 c1 B2 d2 B3 d3 A1 c1 A2 c2 A3 c3 W h' h hok3 hok4 ok1 ok2
  have HP := Lib.hid hp
  have HQ := Lib.hid hqr
  clear hp hq hqr ho ok1 ok2 ok3 ok4 hok3 hok4
  rw [r0, r1]
  clear r0 r1
  unfold NormPost at M1 M2
  rw [qn, qt] at F2 V2 M2 SM I1 I2
  obtain ⟨f1, hf1⟩ : ∃ f, fewB p = f := ⟨_, rfl⟩
  obtain ⟨f2, hf2⟩ : ∃ f, fewB q = f := ⟨_, rfl⟩
  rw [hf1] at F1 M1
  rw [hf2] at F2 M2
  clear hf1 hf2
  obtain ⟨b1, hb1⟩ : ∃ b, b = w.heap.size := ⟨_, rfl⟩
  obtain ⟨b2, hb2⟩ : ∃ b, b = w.heap.size + 1 := ⟨_, rfl⟩
  have HB1 := Lib.hid hb1
  have HB2 := Lib.hid hb2
  have QN := Lib.hid qn
  have QT := Lib.hid qt
  clear hb1 hb2 qn qt
  go_enter Tryd.func8, Tryd.ntmps8
  go_wp2_with fail
  have HS : Hid (∀ (W0 : World), W0 = ((w.alloc (.cells #[.string p.name, .slice A1 p.types.length c1, .slice A2 p.rules.length c2, .slice A3 p.quorums.length c3] 26)).alloc (.cells #[.string q0.name, .slice B1 q0.types.length d1, .slice B2 q.rules.length d2, .slice B3 q.quorums.length d3] 26)) →
      (W0.cell? ⟨w.heap.size, 0, none⟩ = some (.string p.name) ∧ W0.cell? ⟨w.heap.size, 1, none⟩ = some (.slice A1 p.types.length c1)) ∧ W0.cell? ⟨w.heap.size + 1, 0, none⟩ = some (.string q0.name) ∧ W0.cell? ⟨w.heap.size + 1, 1, none⟩ = some (.slice B1 q0.types.length d1) ∧ (∀ j, W0.frozen? ⟨w.heap.size + 1, j, none⟩ = false) ∧
      (∀ b1 b2, b1 = w.heap.size → b2 = w.heap.size + 1 → (((((W0.setCell ⟨w.heap.size + 1, 0, none⟩ (.string p.name)).setCell ⟨w.heap.size + 1, 1, none⟩ (.slice A1 p.types.length c1)).drew.cell? ⟨b1, 0, none⟩ = some (.string p.name) ∧ ((W0.setCell ⟨w.heap.size + 1, 0, none⟩ (.string p.name)).setCell ⟨w.heap.size + 1, 1, none⟩ (.slice A1 p.types.length c1)).drew.cell? ⟨b1, 1, none⟩ = some (.slice A1 p.types.length c1) ∧ ((W0.setCell ⟨w.heap.size + 1, 0, none⟩ (.string p.name)).setCell ⟨w.heap.size + 1, 1, none⟩ (.slice A1 p.types.length c1)).drew.cell? ⟨b1, 2, none⟩ = some (.slice A2 p.rules.length c2) ∧ ((W0.setCell ⟨w.heap.size + 1, 0, none⟩ (.string p.name)).setCell ⟨w.heap.size + 1, 1, none⟩ (.slice A1 p.types.length c1)).drew.cell? ⟨b1, 3, none⟩ = some (.slice A3 p.quorums.length c3)) ∧ (((W0.setCell ⟨w.heap.size + 1, 0, none⟩ (.string p.name)).setCell ⟨w.heap.size + 1, 1, none⟩ (.slice A1 p.types.length c1)).drew.cell? ⟨b2, 0, none⟩ = some (.string p.name) ∧ ((W0.setCell ⟨w.heap.size + 1, 0, none⟩ (.string p.name)).setCell ⟨w.heap.size + 1, 1, none⟩ (.slice A1 p.types.length c1)).drew.cell? ⟨b2, 1, none⟩ = some (.slice A1 p.types.length c1) ∧ ((W0.setCell ⟨w.heap.size + 1, 0, none⟩ (.string p.name)).setCell ⟨w.heap.size + 1, 1, none⟩ (.slice A1 p.types.length c1)).drew.cell? ⟨b2, 2, none⟩ = some (.slice B2 q.rules.length d2) ∧ ((W0.setCell ⟨w.heap.size + 1, 0, none⟩ (.string p.name)).setCell ⟨w.heap.size + 1, 1, none⟩ (.slice A1 p.types.length c1)).drew.cell? ⟨b2, 3, none⟩ = some (.slice B3 q.quorums.length d3))) ∧ BoxP ((W0.setCell ⟨w.heap.size + 1, 0, none⟩ (.string p.name)).setCell ⟨w.heap.size + 1, 1, none⟩ (.slice A1 p.types.length c1)).drew b1 (.string p.name) (.slice A1 p.types.length c1) (.slice A2 p.rules.length c2) (.slice A3 p.quorums.length c3) ∧ BoxP ((W0.setCell ⟨w.heap.size + 1, 0, none⟩ (.string p.name)).setCell ⟨w.heap.size + 1, 1, none⟩ (.slice A1 p.types.length c1)).drew b2 (.string p.name) (.slice A1 p.types.length c1) (.slice B2 q.rules.length d2) (.slice B3 q.quorums.length d3) ∧ PolR ((W0.setCell ⟨w.heap.size + 1, 0, none⟩ (.string p.name)).setCell ⟨w.heap.size + 1, 1, none⟩ (.slice A1 p.types.length c1)).drew p A1 c1 A2 c2 A3 c3 ∧ PolR ((W0.setCell ⟨w.heap.size + 1, 0, none⟩ (.string p.name)).setCell ⟨w.heap.size + 1, 1, none⟩ (.slice A1 p.types.length c1)).drew q A1 c1 B2 d2 B3 d3 ∧ Below w.heap.size w ((W0.setCell ⟨w.heap.size + 1, 0, none⟩ (.string p.name)).setCell ⟨w.heap.size + 1, 1, none⟩ (.slice A1 p.types.length c1)).drew))) := by
    rintro W0 rfl
    refine ⟨⟨by simp [go_sem], by simp [go_sem]⟩, by simp [go_sem], by simp [go_sem], fun j => by simp [go_sem], ?_⟩
    rintro b1 b2 rfl rfl
    have hb : Below w.heap.size w ((((w.alloc (.cells #[.string p.name, .slice A1 p.types.length c1, .slice A2 p.rules.length c2, .slice A3 p.quorums.length c3] 26)).alloc (.cells #[.string q0.name, .slice B1 q0.types.length d1, .slice B2 q.rules.length d2, .slice B3 q.quorums.length d3] 26)).setCell ⟨w.heap.size + 1, 0, none⟩ (.string p.name)).setCell ⟨w.heap.size + 1, 1, none⟩ (.slice A1 p.types.length c1)).drew := (((((Below.refl _ _).alloc (Nat.le_refl _) _).alloc (by simp) _).setCell (by simp) _).setCell (by simp) _).drew
    have x1 : BoxP ((((w.alloc (.cells #[.string p.name, .slice A1 p.types.length c1, .slice A2 p.rules.length c2, .slice A3 p.quorums.length c3] 26)).alloc (.cells #[.string q0.name, .slice B1 q0.types.length d1, .slice B2 q.rules.length d2, .slice B3 q.quorums.length d3] 26)).setCell ⟨w.heap.size + 1, 0, none⟩ (.string p.name)).setCell ⟨w.heap.size + 1, 1, none⟩ (.slice A1 p.types.length c1)).drew w.heap.size (.string p.name) (.slice A1 p.types.length c1) (.slice A2 p.rules.length c2) (.slice A3 p.quorums.length c3) := ⟨by simp; omega, by simp [go_sem], by simp [go_sem], by simp [go_sem], by simp [go_sem]⟩
    have x2 : BoxP ((((w.alloc (.cells #[.string p.name, .slice A1 p.types.length c1, .slice A2 p.rules.length c2, .slice A3 p.quorums.length c3] 26)).alloc (.cells #[.string q0.name, .slice B1 q0.types.length d1, .slice B2 q.rules.length d2, .slice B3 q.quorums.length d3] 26)).setCell ⟨w.heap.size + 1, 0, none⟩ (.string p.name)).setCell ⟨w.heap.size + 1, 1, none⟩ (.slice A1 p.types.length c1)).drew (w.heap.size + 1) (.string p.name) (.slice A1 p.types.length c1) (.slice B2 q.rules.length d2) (.slice B3 q.quorums.length d3) := ⟨by simp, by simp [go_sem], by simp [go_sem], by simp [go_sem], by simp [go_sem]⟩
    have h1 := HP.out.below hb
    have h2 := HQ.out.below hb
    exact ⟨⟨x1.cls, x2.cls⟩, x1, x2, h1, h2, hb⟩
  obtain ⟨⟨a0, a1⟩, e0, e1, ef, HFC⟩ := HS.out _ rfl
  have HFD := Lib.hid (HFC b1 b2 HB1.out HB2.out)
  clear HS HFC
  generalize ((w.alloc (.cells #[.string p.name, .slice A1 p.types.length c1, .slice A2 p.rules.length c2, .slice A3 p.quorums.length c3] 26)).alloc (.cells #[.string q0.name, .slice B1 q0.types.length d1, .slice B2 q.rules.length d2, .slice B3 q.quorums.length d3] 26)) = W0 at *
  go_big_region
  generalize ((W0.setCell ⟨w.heap.size + 1, 0, none⟩ (.string p.name)).setCell ⟨w.heap.size + 1, 1, none⟩ (.slice A1 p.types.length c1)).drew = w0 at *
  have hb2 := HB2.out
  have hb1 := HB1.out
  rw [← hb2, ← hb1]
  clear hb1 hb2 HB1 HB2 a0 a1 e0 e1 ef QN QT
  have KEEP : Hid (∀ W W', (((W.cell? ⟨b1, 0, none⟩ = some (.string p.name) ∧ W.cell? ⟨b1, 1, none⟩ = some (.slice A1 p.types.length c1) ∧ W.cell? ⟨b1, 2, none⟩ = some (.slice A2 p.rules.length c2) ∧ W.cell? ⟨b1, 3, none⟩ = some (.slice A3 p.quorums.length c3)) ∧ (W.cell? ⟨b2, 0, none⟩ = some (.string p.name) ∧ W.cell? ⟨b2, 1, none⟩ = some (.slice A1 p.types.length c1) ∧ W.cell? ⟨b2, 2, none⟩ = some (.slice B2 q.rules.length d2) ∧ W.cell? ⟨b2, 3, none⟩ = some (.slice B3 q.quorums.length d3))) ∧ BoxP W b1 (.string p.name) (.slice A1 p.types.length c1) (.slice A2 p.rules.length c2) (.slice A3 p.quorums.length c3) ∧ BoxP W b2 (.string p.name) (.slice A1 p.types.length c1) (.slice B2 q.rules.length d2) (.slice B3 q.quorums.length d3) ∧ PolR W p A1 c1 A2 c2 A3 c3 ∧ PolR W q A1 c1 B2 d2 B3 d3 ∧ Below w.heap.size w W) → Below W.heap.size W W' → (((W'.cell? ⟨b1, 0, none⟩ = some (.string p.name) ∧ W'.cell? ⟨b1, 1, none⟩ = some (.slice A1 p.types.length c1) ∧ W'.cell? ⟨b1, 2, none⟩ = some (.slice A2 p.rules.length c2) ∧ W'.cell? ⟨b1, 3, none⟩ = some (.slice A3 p.quorums.length c3)) ∧ (W'.cell? ⟨b2, 0, none⟩ = some (.string p.name) ∧ W'.cell? ⟨b2, 1, none⟩ = some (.slice A1 p.types.length c1) ∧ W'.cell? ⟨b2, 2, none⟩ = some (.slice B2 q.rules.length d2) ∧ W'.cell? ⟨b2, 3, none⟩ = some (.slice B3 q.quorums.length d3))) ∧ BoxP W' b1 (.string p.name) (.slice A1 p.types.length c1) (.slice A2 p.rules.length c2) (.slice A3 p.quorums.length c3) ∧ BoxP W' b2 (.string p.name) (.slice A1 p.types.length c1) (.slice B2 q.rules.length d2) (.slice B3 q.quorums.length d3) ∧ PolR W' p A1 c1 A2 c2 A3 c3 ∧ PolR W' q A1 c1 B2 d2 B3 d3 ∧ Below w.heap.size w W')) := by
    rintro W W' ⟨_, h1, h2, h3, h4, h5⟩ hb
    exact ⟨⟨(h1.below hb).cls, (h2.below hb).cls⟩, h1.below hb, h2.below hb, h3.below hb, h4.below hb, h5.trans (hb.mono h5.size)⟩
  obtain ⟨⟨a0, a1, a2, a3⟩, ⟨e0, e1, e2, e3⟩⟩ := HFD.out.1
  go_wp2_with fail
  refine (F1.out _).mono ?_
  rintro e w1 ⟨rfl, hb⟩
  have HE1 := Lib.hid (KEEP.out _ _ HFD.out hb)
  clear hb HFD a0 a1 a2 a3 e0 e1 e2 e3
  cases f1 with
  | false =>
    go_wp2_with fail
    refine (CS.out _ HE1.out.2.2.2.2.2).mono ?_
    rintro e wl ⟨rfl, hb⟩
    have HB := Lib.hid (KEEP.out _ _ HE1.out hb).2.2.2.2.2
    clear hb
    go_wp2
    go_ret
    exact ⟨rfl, HB.out⟩
  | true =>
    have M1' := Lib.hid (M1.out rfl)
    clear M1
    obtain ⟨⟨a0, a1, a2, a3⟩, ⟨e0, e1, e2, e3⟩⟩ := HE1.out.1
    go_wp2_with fail
    refine (F2.out _).mono ?_
    rintro e w2 ⟨rfl, hb⟩
    have HE2 := Lib.hid (KEEP.out _ _ HE1.out hb)
    clear hb HE1 a0 a1 a2 a3 e0 e1 e2 e3
    cases f2 with
    | false =>
      go_wp2_with fail
      refine (CS.out _ HE2.out.2.2.2.2.2).mono ?_
      rintro e wl ⟨rfl, hb⟩
      have HB := Lib.hid (KEEP.out _ _ HE2.out hb).2.2.2.2.2
      clear hb
      go_wp2
      go_ret
      exact ⟨rfl, HB.out⟩
    | true =>
      have M2' := Lib.hid (M2.out rfl)
      clear M2
      obtain ⟨⟨a0, a1, a2, a3⟩, ⟨e0, e1, e2, e3⟩⟩ := HE2.out.1
      obtain ⟨v1, hv1⟩ : ∃ v, ((checkS p).2 == 0) = v := ⟨_, rfl⟩
      obtain ⟨v2, hv2⟩ : ∃ v, ((checkS q).2 == 0) = v := ⟨_, rfl⟩
      rw [hv1] at V1
      rw [hv2] at V2
      have HV1 := Lib.hid hv1
      have HV2 := Lib.hid hv2
      clear hv1 hv2
      go_wp2_with fail
      refine (V1.out _ HE2.out.2.2.2.1 HE2.out.2.2.2.2.2).mono ?_
      rintro e w3 ⟨rfl, hb⟩
      have HE3 := Lib.hid (KEEP.out _ _ HE2.out hb)
      clear hb HE2 a0 a1 a2 a3 e0 e1 e2 e3
      cases v1 with
      | false =>
        go_wp2_with fail
        refine (CS.out _ HE3.out.2.2.2.2.2).mono ?_
        rintro e wl ⟨rfl, hb⟩
        have HB := Lib.hid (KEEP.out _ _ HE3.out hb).2.2.2.2.2
        clear hb
        go_wp2
        go_ret
        exact ⟨rfl, HB.out⟩
      | true =>
        obtain ⟨⟨a0, a1, a2, a3⟩, ⟨e0, e1, e2, e3⟩⟩ := HE3.out.1
        go_wp2_with fail
        refine (V2.out _ HE3.out.2.2.2.2.1 HE3.out.2.2.2.2.2).mono ?_
        rintro e w4 ⟨rfl, hb⟩
        have HE4 := Lib.hid (KEEP.out _ _ HE3.out hb)
        clear hb HE3 a0 a1 a2 a3 e0 e1 e2 e3
        cases v2 with
        | false =>
          go_wp2_with fail
          refine (CS.out _ HE4.out.2.2.2.2.2).mono ?_
          rintro e wl ⟨rfl, hb⟩
          have HB := Lib.hid (KEEP.out _ _ HE4.out hb).2.2.2.2.2
          clear hb
          go_wp2
          go_ret
          exact ⟨rfl, HB.out⟩
        | true =>
          have HL := Lib.hid (HLAW.out (by have := HV1.out; simpa using this) (by have := HV2.out; simpa using this))
          obtain ⟨i1, hi1⟩ : ∃ v, insideS p q = v := ⟨_, rfl⟩
          obtain ⟨i2, hi2⟩ : ∃ v, insideS q p = v := ⟨_, rfl⟩
          rw [HL.out, hi1, hi2] at SM
          rw [hi1] at I1
          rw [hi2] at I2
          clear hi1 hi2 HL HLAW HV1 HV2
          have HG0 := Lib.hid (KEEP.out _ _ HE4.out (Below.refl _ _).drew)
          obtain ⟨⟨a0, a1, a2, a3⟩, ⟨e0, e1, e2, e3⟩⟩ := HE4.out.1
          cases i1 with
          | true =>
            go_wp2_with fail
            go_region_held3 (fun W => ((W.cell? ⟨b1, 0, none⟩ = some (.string p.name) ∧ W.cell? ⟨b1, 1, none⟩ = some (.slice A1 p.types.length c1) ∧ W.cell? ⟨b1, 2, none⟩ = some (.slice A2 p.rules.length c2) ∧ W.cell? ⟨b1, 3, none⟩ = some (.slice A3 p.quorums.length c3)) ∧ (W.cell? ⟨b2, 0, none⟩ = some (.string p.name) ∧ W.cell? ⟨b2, 1, none⟩ = some (.slice A1 p.types.length c1) ∧ W.cell? ⟨b2, 2, none⟩ = some (.slice B2 q.rules.length d2) ∧ W.cell? ⟨b2, 3, none⟩ = some (.slice B3 q.quorums.length d3)))) (go_keep) (first | (go_at_call 10; (with_reducible refine (CS.out _ HG0.out.2.2.2.2.2).mono ?_); rintro e v1 ⟨rfl, hb1⟩; have HG1 := Lib.hid (KEEP.out _ _ HG0.out hb1); obtain ⟨⟨a0, a1, a2, a3⟩, ⟨e0, e1, e2, e3⟩⟩ := HG1.out.1) | (go_at_call 18; (with_reducible refine (M1'.out _ HG1.out.2.2.2.1).mono ?_); rintro e v2 ⟨O1, g21, O2, g22, O3, g23, rfl, hO2, hb2⟩; have HG2 := Lib.hid (KEEP.out _ _ HG1.out hb2); have HO2 := Lib.hid hO2; obtain ⟨⟨a0, a1, a2, a3⟩, ⟨e0, e1, e2, e3⟩⟩ := HG2.out.1) | (go_at_call 18; (with_reducible refine (M2'.out _ HG2.out.2.2.2.2.1).mono ?_); rintro e v3 ⟨R1, g31, R2, g32, R3, g33, rfl, hO3, hb3⟩; have HG3 := Lib.hid (KEEP.out _ _ HG2.out hb3); have HO3 := Lib.hid hO3; obtain ⟨⟨a0, a1, a2, a3⟩, ⟨e0, e1, e2, e3⟩⟩ := HG3.out.1) | (go_at_call 20; (with_reducible refine (SM.out _ _ _ _ _ _ _ _ _ _ _ _ _ (HO2.out.below hb3) HO3.out).mono ?_); rintro e v4 ⟨rfl, hb4⟩; have HG4 := Lib.hid (KEEP.out _ _ HG3.out hb4); obtain ⟨⟨a0, a1, a2, a3⟩, ⟨e0, e1, e2, e3⟩⟩ := HG4.out.1) | (go_at_call 22; (with_reducible refine (I1.out _ HG4.out.2.2.2.1 HG4.out.2.2.2.2.1).mono ?_); rintro e v5 ⟨rfl, hb5⟩; have HG5 := Lib.hid (KEEP.out _ _ HG4.out hb5); obtain ⟨⟨a0, a1, a2, a3⟩, ⟨e0, e1, e2, e3⟩⟩ := HG5.out.1) | (go_at_call 22; (with_reducible refine (I2.out _ HG5.out.2.2.2.1 HG5.out.2.2.2.2.1).mono ?_); rintro e v6 ⟨rfl, hb6⟩; have HG6 := Lib.hid (KEEP.out _ _ HG5.out hb6); obtain ⟨⟨a0, a1, a2, a3⟩, ⟨e0, e1, e2, e3⟩⟩ := HG6.out.1))
            go_wp2
            go_ret
            exact ⟨by cases i2 <;> simp, HG6.out.2.2.2.2.2⟩
          | false =>
            go_wp2_with fail
            refine wp_region_held_drew (S := fun W => ((W.cell? ⟨b1, 0, none⟩ = some (.string p.name) ∧ W.cell? ⟨b1, 1, none⟩ = some (.slice A1 p.types.length c1) ∧ W.cell? ⟨b1, 2, none⟩ = some (.slice A2 p.rules.length c2) ∧ W.cell? ⟨b1, 3, none⟩ = some (.slice A3 p.quorums.length c3)) ∧ (W.cell? ⟨b2, 0, none⟩ = some (.string p.name) ∧ W.cell? ⟨b2, 1, none⟩ = some (.slice A1 p.types.length c1) ∧ W.cell? ⟨b2, 2, none⟩ = some (.slice B2 q.rules.length d2) ∧ W.cell? ⟨b2, 3, none⟩ = some (.slice B3 q.quorums.length d3)))) (by kernel_rfl) ?_ (fun hHeld => ?_)
            · go_keep
            refine wpAnyH_ready (rs := [0]) (by kernel_rfl) (by simp) ?_; refine AllReadyH.cons rfl (fun K hK => ?_) AllReadyH.nil; go_simp
            ((go_at_call 10; (with_reducible refine (CS.out _ HG0.out.2.2.2.2.2).mono ?_); rintro e v1 ⟨rfl, hb1⟩; have HG1 := Lib.hid (KEEP.out _ _ HG0.out hb1); obtain ⟨⟨a0, a1, a2, a3⟩, ⟨e0, e1, e2, e3⟩⟩ := HG1.out.1))
            refine hK.out _ _ ?_ (fun hHeld => ?_); exact HG1.out.1; clear hK K; try simp only [Act.put, List.setIfInBounds_toArray, List.set_cons_zero, List.set_cons_succ]
            refine wpAnyH_take (i := 1) (oi := _) (v := ?_) rfl (by kernel_rfl) (by kernel_rfl) (by kernel_rfl) (fun _ _ _ h => h) (Or.inl ⟨by rfl, ?_⟩) (by assumption) ?_; rotate_left; focus ((intro w hSw; (try dsimp only at hSw); go_simp); all_goals with_reducible rfl); try simp only [Act.put, List.setIfInBounds_toArray, List.set_cons_zero, List.set_cons_succ]
            refine wpAnyH_take (i := 2) (oi := _) (v := ?_) rfl (by kernel_rfl) (by kernel_rfl) (by kernel_rfl) (fun _ _ _ h => h) (Or.inl ⟨by rfl, ?_⟩) (by assumption) ?_; rotate_left; focus ((intro w hSw; (try dsimp only at hSw); go_simp); all_goals with_reducible rfl); try simp only [Act.put, List.setIfInBounds_toArray, List.set_cons_zero, List.set_cons_succ]
            refine wpAnyH_take (i := 4) (oi := _) (v := ?_) rfl (by kernel_rfl) (by kernel_rfl) (by kernel_rfl) (fun _ _ _ h => h) (Or.inl ⟨by rfl, ?_⟩) (by assumption) ?_; rotate_left; focus ((intro w hSw; (try dsimp only at hSw); go_simp); all_goals with_reducible rfl); try simp only [Act.put, List.setIfInBounds_toArray, List.set_cons_zero, List.set_cons_succ]
            refine wpAnyH_take (i := 7) (oi := _) (v := ?_) rfl (by kernel_rfl) (by kernel_rfl) (by kernel_rfl) (fun _ _ _ h => h) (Or.inl ⟨by rfl, ?_⟩) (by assumption) ?_; rotate_left; focus ((intro w hSw; (try dsimp only at hSw); go_simp); all_goals with_reducible rfl); try simp only [Act.put, List.setIfInBounds_toArray, List.set_cons_zero, List.set_cons_succ]
            refine wpAnyH_take (i := 8) (oi := _) (v := ?_) rfl (by kernel_rfl) (by kernel_rfl) (by kernel_rfl) (fun _ _ _ h => h) (Or.inl ⟨by rfl, ?_⟩) (by assumption) ?_; rotate_left; focus ((intro w hSw; (try dsimp only at hSw); go_simp); all_goals with_reducible rfl); try simp only [Act.put, List.setIfInBounds_toArray, List.set_cons_zero, List.set_cons_succ]
            refine wpAnyH_ready (rs := [3]) (by kernel_rfl) (by simp) ?_; refine AllReadyH.cons rfl (fun K hK => ?_) AllReadyH.nil; go_simp
            (first | (go_at_call 18; (with_reducible refine (M1'.out _ HG1.out.2.2.2.1).mono ?_); rintro e v2 ⟨O1, g21, O2, g22, O3, g23, rfl, hO2, hb2⟩; have HG2 := Lib.hid (KEEP.out _ _ HG1.out hb2); have HO2 := Lib.hid hO2; obtain ⟨⟨a0, a1, a2, a3⟩, ⟨e0, e1, e2, e3⟩⟩ := HG2.out.1) | (go_at_call 18; (with_reducible refine (M2'.out _ HG2.out.2.2.2.2.1).mono ?_); rintro e v3 ⟨R1, g31, R2, g32, R3, g33, rfl, hO3, hb3⟩; have HG3 := Lib.hid (KEEP.out _ _ HG2.out hb3); have HO3 := Lib.hid hO3; obtain ⟨⟨a0, a1, a2, a3⟩, ⟨e0, e1, e2, e3⟩⟩ := HG3.out.1) | (go_at_call 20; (with_reducible refine (SM.out _ _ _ _ _ _ _ _ _ _ _ _ _ (HO2.out.below hb3) HO3.out).mono ?_); rintro e v4 ⟨rfl, hb4⟩; have HG4 := Lib.hid (KEEP.out _ _ HG3.out hb4); obtain ⟨⟨a0, a1, a2, a3⟩, ⟨e0, e1, e2, e3⟩⟩ := HG4.out.1))
            refine hK.out _ _ ?_ (fun hHeld => ?_); exact HG2.out.1; clear hK K; try simp only [Act.put, List.setIfInBounds_toArray, List.set_cons_zero, List.set_cons_succ]
            refine wpAnyH_ready (rs := [5]) (by kernel_rfl) (by simp) ?_; refine AllReadyH.cons rfl (fun K hK => ?_) AllReadyH.nil; go_simp
            (first | (go_at_call 18; (with_reducible refine (M1'.out _ HG1.out.2.2.2.1).mono ?_); rintro e v2 ⟨O1, g21, O2, g22, O3, g23, rfl, hO2, hb2⟩; have HG2 := Lib.hid (KEEP.out _ _ HG1.out hb2); have HO2 := Lib.hid hO2; obtain ⟨⟨a0, a1, a2, a3⟩, ⟨e0, e1, e2, e3⟩⟩ := HG2.out.1) | (go_at_call 18; (with_reducible refine (M2'.out _ HG2.out.2.2.2.2.1).mono ?_); rintro e v3 ⟨R1, g31, R2, g32, R3, g33, rfl, hO3, hb3⟩; have HG3 := Lib.hid (KEEP.out _ _ HG2.out hb3); have HO3 := Lib.hid hO3; obtain ⟨⟨a0, a1, a2, a3⟩, ⟨e0, e1, e2, e3⟩⟩ := HG3.out.1) | (go_at_call 20; (with_reducible refine (SM.out _ _ _ _ _ _ _ _ _ _ _ _ _ (HO2.out.below hb3) HO3.out).mono ?_); rintro e v4 ⟨rfl, hb4⟩; have HG4 := Lib.hid (KEEP.out _ _ HG3.out hb4); obtain ⟨⟨a0, a1, a2, a3⟩, ⟨e0, e1, e2, e3⟩⟩ := HG4.out.1))
            refine hK.out _ _ ?_ (fun hHeld => ?_); exact HG3.out.1; clear hK K; try simp only [Act.put, List.setIfInBounds_toArray, List.set_cons_zero, List.set_cons_succ]
            refine wpAnyH_ready (rs := [6]) (by kernel_rfl) (by simp) ?_; refine AllReadyH.cons rfl (fun K hK => ?_) AllReadyH.nil; go_simp
            (first | (go_at_call 18; (with_reducible refine (M1'.out _ HG1.out.2.2.2.1).mono ?_); rintro e v2 ⟨O1, g21, O2, g22, O3, g23, rfl, hO2, hb2⟩; have HG2 := Lib.hid (KEEP.out _ _ HG1.out hb2); have HO2 := Lib.hid hO2; obtain ⟨⟨a0, a1, a2, a3⟩, ⟨e0, e1, e2, e3⟩⟩ := HG2.out.1) | (go_at_call 18; (with_reducible refine (M2'.out _ HG2.out.2.2.2.2.1).mono ?_); rintro e v3 ⟨R1, g31, R2, g32, R3, g33, rfl, hO3, hb3⟩; have HG3 := Lib.hid (KEEP.out _ _ HG2.out hb3); have HO3 := Lib.hid hO3; obtain ⟨⟨a0, a1, a2, a3⟩, ⟨e0, e1, e2, e3⟩⟩ := HG3.out.1) | (go_at_call 20; (with_reducible refine (SM.out _ _ _ _ _ _ _ _ _ _ _ _ _ (HO2.out.below hb3) HO3.out).mono ?_); rintro e v4 ⟨rfl, hb4⟩; have HG4 := Lib.hid (KEEP.out _ _ HG3.out hb4); obtain ⟨⟨a0, a1, a2, a3⟩, ⟨e0, e1, e2, e3⟩⟩ := HG4.out.1))
            refine hK.out _ _ ?_ (fun hHeld => ?_); exact HG4.out.1; clear hK K; try simp only [Act.put, List.setIfInBounds_toArray, List.set_cons_zero, List.set_cons_succ]
            refine wpAnyH_ready (rs := [9]) (by kernel_rfl) (by simp) ?_; refine AllReadyH.cons rfl (fun K hK => ?_) AllReadyH.nil; go_simp
            (first | (go_at_call 22; (with_reducible refine (I1.out _ HG4.out.2.2.2.1 HG4.out.2.2.2.2.1).mono ?_); rintro e v5 ⟨rfl, hb5⟩; have HG5 := Lib.hid (KEEP.out _ _ HG4.out hb5); obtain ⟨⟨a0, a1, a2, a3⟩, ⟨e0, e1, e2, e3⟩⟩ := HG5.out.1))
            refine hK.out _ _ ?_ (fun hHeld => ?_); exact HG5.out.1; clear hK K; try simp only [Act.put, List.setIfInBounds_toArray, List.set_cons_zero, List.set_cons_succ]
            refine wpAnyH_take (i := 10) (oi := _) (v := ?_) rfl (by kernel_rfl) (by kernel_rfl) (by kernel_rfl) (fun _ _ _ h => h) (Or.inl ⟨by rfl, ?_⟩) (by assumption) ?_; rotate_left; focus ((intro w hSw; (try dsimp only at hSw); go_simp); all_goals with_reducible rfl); try simp only [Act.put, List.setIfInBounds_toArray, List.set_cons_zero, List.set_cons_succ]
            refine wpAnyH_take (i := 11) (oi := _) (v := _) rfl (by kernel_rfl) (by kernel_rfl) (by kernel_rfl) (fun _ _ _ h => h) (Or.inr ⟨by rfl, rfl⟩) (by assumption) ?_; try simp only [Act.put, List.setIfInBounds_toArray]
            refine wpAnyH_take (i := 12) (oi := _) (v := _) rfl (by kernel_rfl) (by kernel_rfl) (by kernel_rfl) (fun _ _ _ h => h) (Or.inr ⟨by rfl, rfl⟩) (by assumption) ?_; try simp only [Act.put]
            refine wpAnyH_take (i := 13) (oi := _) (v := _) rfl (by kernel_rfl) (by kernel_rfl) (by kernel_rfl) (fun _ _ _ h => h) (Or.inr ⟨by rfl, rfl⟩) (by assumption) ?_; try simp only [Act.put]
            refine wpAnyH_take (i := 14) (oi := _) (v := ?_) rfl (by kernel_rfl) (by kernel_rfl) (by kernel_rfl) (fun _ _ _ h => h) (Or.inl ⟨by rfl, ?_⟩) (by assumption) ?_; rotate_left; focus ((intro w hSw; (try dsimp only at hSw); go_simp); all_goals with_reducible rfl); try simp only [Act.put, List.setIfInBounds_toArray, List.set_cons_zero, List.set_cons_succ]
            refine wpAnyH_take (i := 15) (oi := _) (v := ?_) rfl (by kernel_rfl) (by kernel_rfl) (by kernel_rfl) (fun _ _ _ h => h) (Or.inl ⟨by rfl, ?_⟩) (by assumption) ?_; rotate_left; focus ((intro w hSw; (try dsimp only at hSw); go_simp); all_goals with_reducible rfl); try simp only [Act.put, List.setIfInBounds_toArray, List.set_cons_zero, List.set_cons_succ]
            refine wpAnyH_take (i := 16) (oi := _) (v := ?_) rfl (by kernel_rfl) (by kernel_rfl) (by kernel_rfl) (fun _ _ _ h => h) (Or.inl ⟨by rfl, ?_⟩) (by assumption) ?_; rotate_left; focus ((intro w hSw; (try dsimp only at hSw); go_simp); all_goals with_reducible rfl); try simp only [Act.put, List.setIfInBounds_toArray, List.set_cons_zero, List.set_cons_succ]
            refine wpAnyH_take (i := 17) (oi := _) (v := ?_) rfl (by kernel_rfl) (by kernel_rfl) (by kernel_rfl) (fun _ _ _ h => h) (Or.inl ⟨by rfl, ?_⟩) (by assumption) ?_; rotate_left; focus ((intro w hSw; (try dsimp only at hSw); go_simp); all_goals with_reducible rfl); try simp only [Act.put, List.setIfInBounds_toArray, List.set_cons_zero, List.set_cons_succ]
            refine wpAnyH_done (by kernel_rfl) ?_ _
            all_goals
              go_wp2
              go_ret
              exact ⟨by simp, HG5.out.2.2.2.2.2⟩

theorem fin8 : ∀ t ∈ Tryd.f8.params.toList, Tryd.prog.readableRec t = true ∧ t < Tryd.prog.types.size := by
  rw [Tryd.params8]
  intro t ht
  simp at ht
  subst ht
  exact reads_Pol
set_option maxRecDepth 100000 in
theorem checkDifferent_lifted (os : Os) (started : os.Started) (H : Type) (enc : TypeId × Value → H) :
    ReturnsInHanded {} Tryd.checked os 8 .any (fun w args => (Rows.checkDifferentSpec.pre enc Tryd.prog Tryd.f8 [] false w args ∧ laidMetH Tryd.prog laidL w) ∧ sizedMet enc Tryd.prog Tryd.f8 (OpenSpec.ofChange Rows.checkDifferentSpec) false w args)
      (Rows.checkDifferentSpec.post enc Tryd.prog Tryd.f8 false true false false) := by
  refine returnsInHanded_of_change_and (C := Tryd.checked) (X := fun w _ => laidMetH Tryd.prog laidL w) (fun _ _ _ hh h => h.of_heap hh) own_knob started (by kernel_rfl) Tryd.func8
    (ChangeSpec.witness_shaped (enc := enc) (C := Tryd.checked) (os := os) (X := fun w _ => laidMetH Tryd.prog laidL w) false (World.doorLaid Tryd.prog 400 os) #[.agg #[.string { data := #[] }, .slice none 0 0, .slice none 0 0, .slice none 0 0], .agg #[.string { data := #[] }, .slice none 0 0, .slice none 0 0, .slice none 0 0]] 8 rfl (World.shaped_of_RefB (by kernel_rfl) (by kernel_rfl)) (by kernel_rfl) (by kernel_rfl) (by kernel_rfl) (door_met os _)) ?_
  intro W base args ds gs before hval0 hW _ hsz hL _
  have hval : ∀ (j : Nat) t v, Tryd.f8.params[j]? = some t → args[j]? = some v → Value.okWide Tryd.prog W .any base t v := hval0
  have hW' := hW
  obtain ⟨p0, q0, hA0, hV, rfl, hfz, hnd⟩ := hW
  have hA : DataW.TrodAll enc Tryd.prog W 0 (fun _ => true) true Tryd.f8.params.toList args.toList ds p0 := hA0
  obtain ⟨rfl, rfl⟩ := trodVars_none hV
  have hO := own_of_laid hL
  have hwt := reach_all hsz
  rw [Tryd.params8] at hA hval
  obtain ⟨v0, v1, dd0, dd1, u0, u1, rfl, rfl, rfl, r0, r1⟩ := trodAll_two hA
  obtain ⟨p, A1, c1, A2, c2, A3, c3, rfl, hp, _, _, _, _, ok1, ok2⟩ := open_pol (hval 0 _ v0 rfl rfl) r0 (fun m hm => hwt m (DataW.weights_mem_each (j := 0) rfl rfl _ hm))
  obtain ⟨q, B1, d1, B2, d2, B3, d3, rfl, hq, _, _, _, _, ok3, ok4⟩ := open_pol (hval 1 _ v1 rfl rfl) r1 (fun m hm => hwt m (DataW.weights_mem_each (j := 1) rfl rfl _ hm))
  refine (lawDiff_any p q (likeP p q) rfl A1 c1 A2 c2 A3 c3 B1 d1 B2 d2 B3 d3 W hp hq hO ok1 ok2 ok3 ok4).mono fun e W' ⟨he, hb⟩ => ?_
  subst he
  exact ⟨_, rfl, law_post (by kernel_rfl) fin8 hW' rfl rfl hb⟩
theorem checkDifferent_said : Rows.CheckDifferentSaid :=
  OpenClaim.holds_of_wide 8 Tryd.f8 rfl rfl rfl rfl rfl rfl rfl ⟨rfl, rfl, rfl, rfl, rfl⟩ rfl rfl rfl rfl rfl (by kernel_rfl) Tryd.func8 (by kernel_rfl)
    (of_decide_eq_true (by kernel_rfl)) (by unfold Func.isWrapper; first | (rw [if_pos (by decide +kernel)]; kernel_rfl) | (rw [if_neg (by decide +kernel)]; exact ⟨rfl, rfl⟩))
    (fun os started H enc _ => checkDifferent_lifted os started H enc)
theorem checkDifferent_card : Rows.CheckDifferentCardSaid :=
  Claim7.holds_tied_plain_at .later [] [.widerDeep] true Rows.checkDifferentCard.stood.harness false
    checkDifferent_said (fun _ h => by cases h) (by kernel_rfl) (fun _ h => by cases h) checkDifferent_row_tie rfl ⟨rfl, rfl⟩ (by kernel_rfl) rfl
    (fun f fn hf hfn => by
      obtain rfl : f = 8 := Option.some.inj ((show Tryd.prog.funcNamed "custody/custodylaw13.CheckDifferent" = some 8 by kernel_rfl).symm.trans hf) |>.symm
      obtain rfl : fn = Tryd.f8 := (Option.some.inj (Tryd.func8.symm.trans hfn)).symm
      exact ⟨by kernel_rfl, fun j t ht => by
        rw [Tryd.params8] at ht
        have hm := Array.mem_of_getElem? ht
        have hall : ((Tryd.f8.params.toList).all fun u => !Tryd.prog.wantsStandIn u) = true := by kernel_rfl
        rw [Tryd.params8] at hall
        have := List.all_eq_true.1 hall t (by simpa using hm)
        exact (show Tryd.prog.wantsStandIn t = false by simpa using this)⟩)
    (by kernel_rfl)
#print axioms checkDifferent_card
end Go.Proofs.YtemkffejekgmfaaDoor
