/- check.Same. -/
import Derived.Test.YtemkffejekgmfaaDoorC8
namespace Go.Proofs.YtemkffejekgmfaaDoor
open Go.RowKit Go.Shelf Go.Lib

theorem pol_eq (p q : Pol) : decide (p = q) = (decide (p.name = q.name) && (decide (p.types = q.types) && (decide (p.rules = q.rules) && decide (p.quorums = q.quorums)))) := by
  obtain ⟨a, b, c, d⟩ := p
  obtain ⟨a', b', c', d'⟩ := q
  rw [Bool.eq_iff_iff]
  simp

set_option maxRecDepth 100000 in
set_option maxHeartbeats 4000000 in
theorem same_any (p q : Pol) (A1 : Option Addr) (c1 : Nat) (A2 : Option Addr) (c2 : Nat) (A3 : Option Addr) (c3 : Nat) (B1 : Option Addr) (d1 : Nat) (B2 : Option Addr) (d2 : Nat) (B3 : Option Addr) (d3 : Nat) (w : World) (hp : PolR w p A1 c1 A2 c2 A3 c3) (hq : PolR w q B1 d1 B2 d2 B3 d3) :
    Calls Tryd.prog 20 #[.agg #[.string p.name, .slice A1 p.types.length c1, .slice A2 p.rules.length c2, .slice A3 p.quorums.length c3], .agg #[.string q.name, .slice B1 q.types.length d1, .slice B2 q.rules.length d2, .slice B3 q.quorums.length d3]] w fun e w' => e = .returned (.bool (decide (p = q))) ∧ Below w.heap.size w w' := by
  have e1 := fun W (hW : Below w.heap.size w W) => equal_Type A1 c1 p.types B1 d1 q.types W (hp.r1.below hW) (hq.r1.below hW)
  have e2 := fun W (hW : Below w.heap.size w W) => equal_Rule A2 c2 p.rules B2 d2 q.rules W (hp.r2.below hW) (hq.r2.below hW)
  have e3 := fun W (hW : Below w.heap.size w W) => equal_Quorum A3 c3 p.quorums B3 d3 q.quorums W (hp.r3.below hW) (hq.r3.below hW)
  have hs : decide (p.name = q.name) = (p.name.toList == q.name.toList) := by rw [Bool.eq_iff_iff]; simp [bytes_toList_inj]
  rw [pol_eq]
  clear hp hq
  generalize decide (p.types = q.types) = r1 at *
  generalize decide (p.rules = q.rules) = r2 at *
  generalize decide (p.quorums = q.quorums) = r3 at *
  generalize decide (p.name = q.name) = r0 at *
  generalize p.name = pn at *
  generalize q.name = qn at *
  generalize p.types.length = n1 at *
  generalize p.rules.length = n2 at *
  generalize p.quorums.length = n3 at *
  generalize q.types.length = m1 at *
  generalize q.rules.length = m2 at *
  generalize q.quorums.length = m3 at *
  have E1 := Lib.hid e1
  have E2 := Lib.hid e2
  have E3 := Lib.hid e3
  clear e1 e2 e3
  have hA : Below w.heap.size w ((w.alloc (.cells #[.string pn, .slice A1 n1 c1, .slice A2 n2 c2, .slice A3 n3 c3] 26)).alloc (.cells #[.string qn, .slice B1 m1 d1, .slice B2 m2 d2, .slice B3 m3 d3] 26)) := ((Below.refl _ _).alloc (Nat.le_refl _) _).alloc (by simp) _
  cases r0 with
  | false =>
    have hsb : (pn.toList == qn.toList) = false := hs.symm
    clear hs
    go_enter Tryd.func20, Tryd.ntmps20
    go_wp2
    go_ret
    exact ⟨rfl, hA⟩
  | true =>
    have hsb : (pn.toList == qn.toList) = true := hs.symm
    clear hs
    cases r1 with
    | false =>
      go_enter Tryd.func20, Tryd.ntmps20
      go_wp2_with fail
      refine (E1.out _ hA).mono ?_
      rintro e w1 ⟨rfl, hb1⟩
      go_wp2
      go_ret
      exact ⟨rfl, hA.trans (hb1.mono (by simp; omega))⟩
    | true =>
      go_enter Tryd.func20, Tryd.ntmps20
      go_wp2_with fail
      refine (E1.out _ hA).mono ?_
      rintro e w1 ⟨rfl, hb1⟩
      have hB1 : Below w.heap.size w w1 := hA.trans (hb1.mono (by simp; omega))
      have a2 : w1.cell? ⟨w.heap.size, 2, none⟩ = some (.slice A2 n2 c2) := (hb1.cell (p := ⟨w.heap.size, 2, none⟩) (by simp; omega)).trans (by simp [go_sem])
      have a3 : w1.cell? ⟨w.heap.size, 3, none⟩ = some (.slice A3 n3 c3) := (hb1.cell (p := ⟨w.heap.size, 3, none⟩) (by simp; omega)).trans (by simp [go_sem])
      have b2 : w1.cell? ⟨w.heap.size + 1, 2, none⟩ = some (.slice B2 m2 d2) := (hb1.cell (p := ⟨w.heap.size + 1, 2, none⟩) (by simp)).trans (by simp [go_sem])
      have b3 : w1.cell? ⟨w.heap.size + 1, 3, none⟩ = some (.slice B3 m3 d3) := (hb1.cell (p := ⟨w.heap.size + 1, 3, none⟩) (by simp)).trans (by simp [go_sem])
      have hs1 : w.heap.size + 1 < w1.heap.size := by have := hb1.size; simp at this; omega
      clear hb1 hA
      cases r2 with
      | false =>
        go_wp2_with fail
        refine (E2.out _ hB1).mono ?_
        rintro e w2 ⟨rfl, hb2⟩
        go_wp2
        go_ret
        exact ⟨rfl, hB1.trans (hb2.mono hB1.size)⟩
      | true =>
        go_wp2_with fail
        refine (E2.out _ hB1).mono ?_
        rintro e w2 ⟨rfl, hb2⟩
        have hB2 : Below w.heap.size w w2 := hB1.trans (hb2.mono hB1.size)
        have a3' := (hb2.cell (p := ⟨w.heap.size, 3, none⟩) (by simp; omega)).trans a3
        have b3' := (hb2.cell (p := ⟨w.heap.size + 1, 3, none⟩) (by simp; omega)).trans b3
        clear hb2 a2 a3 b2 b3
        go_wp2_with fail
        refine (E3.out _ hB2).mono ?_
        rintro e w3 ⟨rfl, hb3⟩
        go_wp2
        go_ret
        exact ⟨by cases r3 <;> rfl, hB2.trans (hb3.mono hB2.size)⟩
end Go.Proofs.YtemkffejekgmfaaDoor
