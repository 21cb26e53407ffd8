/- The reference of layer 13: Same. -/
import Derived.Test.YtemkffejekgmfaaDoorC9
namespace Go.Proofs.YtemkffejekgmfaaDoor
open Go.RowKit Go.Shelf Go.Lib

set_option maxRecDepth 100000 in
set_option maxHeartbeats 8000000 in
theorem refSame_any (p q : Pol) (A1 : Option Addr) (c1 : Nat) (A2 : Option Addr) (c2 : Nat) (A3 : Option Addr) (c3 : Nat) (B1 : Option Addr) (d1 : Nat) (B2 : Option Addr) (d2 : Nat) (B3 : Option Addr) (d3 : Nat) (w : World) (hp : PolR w p A1 c1 A2 c2 A3 c3) (hq : PolR w q B1 d1 B2 d2 B3 d3) :
    Calls Tryd.prog 17 #[.agg #[.string p.name, .slice A1 p.types.length c1, .slice A2 p.rules.length c2, .slice A3 p.quorums.length c3], .agg #[.string q.name, .slice B1 q.types.length d1, .slice B2 q.rules.length d2, .slice B3 q.quorums.length d3]] w fun e w' => e = .returned (.bool (decide (p = q))) ∧ Below w.heap.size w w' := by
  have R1 := Lib.hid hp.r1
  have R2 := Lib.hid hp.r2
  have R3 := Lib.hid hp.r3
  have S1 := Lib.hid hq.r1
  have S2 := Lib.hid hq.r2
  have S3 := Lib.hid hq.r3
  have q1 := hp.r1.1
  have q2 := hp.r2.1
  have q3 := hp.r3.1
  rw [pol_eq]
  clear hp hq
  obtain ⟨pn, xs1, xs2, xs3⟩ := p
  obtain ⟨qn, ys1, ys2, ys3⟩ := q
  dsimp only at *
  have hs : decide (pn = qn) = (pn.toList == qn.toList) := by rw [Bool.eq_iff_iff]; simp [bytes_toList_inj]
  have hsn : (pn.toList != qn.toList) = !decide (pn = qn) := by rw [hs]; rfl
  generalize hr0 : decide (pn = qn) = r0 at *
  generalize hr1 : decide (xs1 = ys1) = r1 at *
  generalize hr2 : decide (xs2 = ys2) = r2 at *
  generalize hr3 : decide (xs3 = ys3) = r3 at *
  have H1 : Hid ((xs1 = ys1) ↔ r1 = true) := by show _ ↔ _; rw [← hr1]; simp
  have H2 : Hid ((xs2 = ys2) ↔ r2 = true) := by show _ ↔ _; rw [← hr2]; simp
  have H3 : Hid ((xs3 = ys3) ↔ r3 = true) := by show _ ↔ _; rw [← hr3]; simp
  generalize hn1 : xs1.length = n1 at *
  generalize hn2 : xs2.length = n2 at *
  generalize hn3 : xs3.length = n3 at *
  generalize hm1 : ys1.length = m1 at *
  generalize hm2 : ys2.length = m2 at *
  generalize hm3 : ys3.length = m3 at *
  have L1 : Hid (xs1.length = n1 ∧ ys1.length = m1) := ⟨hn1, hm1⟩
  have L2 : Hid (xs2.length = n2 ∧ ys2.length = m2) := ⟨hn2, hm2⟩
  have L3 : Hid (xs3.length = n3 ∧ ys3.length = m3) := ⟨hn3, hm3⟩
  have hA : Below w.heap.size w ((w.alloc (.cells #[.string pn, .slice A1 n1 c1, .slice A2 n2 c2, .slice A3 n3 c3] 26)).alloc (.cells #[.string qn, .slice B1 m1 d1, .slice B2 m2 d2, .slice B3 m3 d3] 26)) := ((Below.refl _ _).alloc (Nat.le_refl _) _).alloc (by simp) _
  clear hs hr0 hr1 hr2 hr3 hn1 hn2 hn3 hm1 hm2 hm3
  cases r0 with
  | false =>
    have hsn' : (pn.toList != qn.toList) = true := by rw [hsn]; rfl
    have hsn2 : (pn.toList == qn.toList) = false := by simpa using hsn'
    have hsn3 : ¬ pn.toList = qn.toList := by simpa using hsn'
    clear hsn
    go_enter Tryd.func17, Tryd.ntmps17
    go_wp2
    go_ret
    exact ⟨rfl, hA⟩
  | true =>
    have hsn' : (pn.toList != qn.toList) = false := by rw [hsn]; rfl
    have hsn2 : (pn.toList == qn.toList) = true := by simpa using hsn'
    clear hsn
    by_cases k1 : ¬ n1 = m1
    · have z1 : ((n1 : Int) != (m1 : Int)) = true := by simp; omega
      have : r1 = false := by
        cases r1 with
        | false => rfl
        | true => exact absurd (by rw [← L1.out.1, ← L1.out.2, H1.out.2 rfl]) k1
      subst this
      clear k1
      go_enter Tryd.func17, Tryd.ntmps17
      go_wp2
      go_ret
      exact ⟨rfl, hA⟩
    by_cases k2 : ¬ n2 = m2
    · have k1 := Decidable.not_not.1 k1
      subst k1
      have z1 : ((n2 : Int) != (m2 : Int)) = true := by simp; omega
      have : r2 = false := by
        cases r2 with
        | false => rfl
        | true => exact absurd (by rw [← L2.out.1, ← L2.out.2, H2.out.2 rfl]) k2
      subst this
      clear k2
      go_enter Tryd.func17, Tryd.ntmps17
      go_wp2
      go_ret
      exact ⟨by cases r1 <;> rfl, hA⟩
    by_cases k3 : ¬ n3 = m3
    · have k1 := Decidable.not_not.1 k1
      have k2 := Decidable.not_not.1 k2
      subst k1 k2
      have z1 : ((n3 : Int) != (m3 : Int)) = true := by simp; omega
      have : r3 = false := by
        cases r3 with
        | false => rfl
        | true => exact absurd (by rw [← L3.out.1, ← L3.out.2, H3.out.2 rfl]) k3
      subst this
      clear k3
      go_enter Tryd.func17, Tryd.ntmps17
      go_wp2
      go_ret
      exact ⟨by cases r1 <;> cases r2 <;> rfl, hA⟩
    have k1 := Decidable.not_not.1 k1
    have k2 := Decidable.not_not.1 k2
    have k3 := Decidable.not_not.1 k3
    subst k1 k2 k3
    have a1 : ((w.alloc (.cells #[.string pn, .slice A1 n1 c1, .slice A2 n2 c2, .slice A3 n3 c3] 26)).alloc (.cells #[.string qn, .slice B1 n1 d1, .slice B2 n2 d2, .slice B3 n3 d3] 26)).cell? ⟨w.heap.size, 1, none⟩ = some (.slice A1 n1 c1) := by simp [go_sem]
    have b1 : ((w.alloc (.cells #[.string pn, .slice A1 n1 c1, .slice A2 n2 c2, .slice A3 n3 c3] 26)).alloc (.cells #[.string qn, .slice B1 n1 d1, .slice B2 n2 d2, .slice B3 n3 d3] 26)).cell? ⟨w.heap.size + 1, 1, none⟩ = some (.slice B1 n1 d1) := by simp [go_sem]
    have a2 : ((w.alloc (.cells #[.string pn, .slice A1 n1 c1, .slice A2 n2 c2, .slice A3 n3 c3] 26)).alloc (.cells #[.string qn, .slice B1 n1 d1, .slice B2 n2 d2, .slice B3 n3 d3] 26)).cell? ⟨w.heap.size, 2, none⟩ = some (.slice A2 n2 c2) := by simp [go_sem]
    have b2 : ((w.alloc (.cells #[.string pn, .slice A1 n1 c1, .slice A2 n2 c2, .slice A3 n3 c3] 26)).alloc (.cells #[.string qn, .slice B1 n1 d1, .slice B2 n2 d2, .slice B3 n3 d3] 26)).cell? ⟨w.heap.size + 1, 2, none⟩ = some (.slice B2 n2 d2) := by simp [go_sem]
    have a3 : ((w.alloc (.cells #[.string pn, .slice A1 n1 c1, .slice A2 n2 c2, .slice A3 n3 c3] 26)).alloc (.cells #[.string qn, .slice B1 n1 d1, .slice B2 n2 d2, .slice B3 n3 d3] 26)).cell? ⟨w.heap.size, 3, none⟩ = some (.slice A3 n3 c3) := by simp [go_sem]
    have b3 : ((w.alloc (.cells #[.string pn, .slice A1 n1 c1, .slice A2 n2 c2, .slice A3 n3 c3] 26)).alloc (.cells #[.string qn, .slice B1 n1 d1, .slice B2 n2 d2, .slice B3 n3 d3] 26)).cell? ⟨w.heap.size + 1, 3, none⟩ = some (.slice B3 n3 d3) := by simp [go_sem]
    have hsz : w.heap.size + 1 < ((w.alloc (.cells #[.string pn, .slice A1 n1 c1, .slice A2 n2 c2, .slice A3 n3 c3] 26)).alloc (.cells #[.string qn, .slice B1 n1 d1, .slice B2 n2 d2, .slice B3 n3 d3] 26)).heap.size := by simp
    go_enter Tryd.func17, Tryd.ntmps17
    go_wp2
    generalize ((w.alloc (.cells #[.string pn, .slice A1 n1 c1, .slice A2 n2 c2, .slice A3 n3 c3] 26)).alloc (.cells #[.string qn, .slice B1 n1 d1, .slice B2 n2 d2, .slice B3 n3 d3] 26)) = W1 at *
    go_loopg [5] n1 (fun gg s5 wr => ∃ kk : Nat, kk ≤ n1 ∧ n1 - kk ≤ gg ∧ s5 = .int .i64 kk ∧ Hid (Below W1.heap.size W1 wr) ∧ Hid (∀ j, j < kk → xs1[j]! = ys1[j]!))
    case atStart => exact ⟨0, Nat.zero_le _, by omega, rfl, Below.refl _ _, fun j hj => absurd hj (Nat.not_lt_zero _)⟩
    case round =>
      obtain ⟨kk1, hkk1, hg1, rfl, BW1, HA1⟩ := hrel
      have hBr1 : Below w.heap.size w wr := hA.trans (BW1.out.mono (by omega))
      have a1_1 := (BW1.out.cell (p := ⟨w.heap.size, 1, none⟩) (by simp; omega)).trans a1
      have b1_1 := (BW1.out.cell (p := ⟨w.heap.size + 1, 1, none⟩) (by simp; omega)).trans b1
      have a2_1 := (BW1.out.cell (p := ⟨w.heap.size, 2, none⟩) (by simp; omega)).trans a2
      have b2_1 := (BW1.out.cell (p := ⟨w.heap.size + 1, 2, none⟩) (by simp; omega)).trans b2
      have a3_1 := (BW1.out.cell (p := ⟨w.heap.size, 3, none⟩) (by simp; omega)).trans a3
      have b3_1 := (BW1.out.cell (p := ⟨w.heap.size + 1, 3, none⟩) (by simp; omega)).trans b3
      clear a1 b1 a2 b2 a3 b3
      by_cases hlt1 : kk1 < n1
      · have hltz1 : (kk1 : Int) < (n1 : Int) := by omega
        have hkz : (0 : Int) ≤ (kk1 : Int) := by omega
        obtain ⟨bx, ox, rfl, hbx, hcx⟩ := R1.out.at hBr1 kk1 (by have := L1.out.1; omega)
        obtain ⟨by_, oy, rfl, hby, hcy⟩ := S1.out.at hBr1 kk1 (by have := L1.out.2; omega)
        generalize hx : xs1[kk1]! = x at hcx
        generalize hy : ys1[kk1]! = y at hcy
        have HX := Lib.hid hx
        have HY := Lib.hid hy
        clear hx hy
        have hneq := neq_Ty x y
        have hgd := guard_Ty .neq
        simp only [avTy] at hneq hgd
        have cx0 := hcx 0 _ rfl
        have cy0 := hcy 0 _ rfl
        have cx1 := hcx 1 _ rfl
        have cy1 := hcy 1 _ rfl
        have cx2 := hcx 2 _ rfl
        have cy2 := hcy 2 _ rfl
        simp only [Nat.add_zero] at cx0 cy0
        clear hcx hcy
        by_cases hq : x = y
        · have HQ := Lib.hid hq
          rw [decide_eq_true hq] at hneq
          clear hq
          go_wp2_with fail
          go_quiet (fail)
          go_wp2
          go_roundg (n1 - (kk1 + 1))
          case measure => omega
          case rel =>
            refine ⟨kk1 + 1, by omega, by omega, by go_num, below_drewN BW1.out _, (show Hid _ from fun j hj => ?_)⟩
            by_cases e : j = kk1
            · subst e; rw [HX.out, HY.out]; exact HQ.out
            · exact HA1.out j (by omega)
        · have HQ := Lib.hid hq
          rw [decide_eq_false hq] at hneq
          have : r1 = false := by
            cases hr : r1 with
            | false => rfl
            | true => exact absurd (by rw [← HX.out, ← HY.out, H1.out.2 hr]) hq
          subst this
          clear hq
          go_wp2_with fail
          go_quiet (fail)
          go_wp2
          go_ret
          exact ⟨by simp, below_drewN hBr1 _⟩
      · have hltz1 : ¬ (kk1 : Int) < (n1 : Int) := by omega
        have : r1 = true := H1.out.1 (list_ext_getElem! (by rw [L1.out.1, L1.out.2]) (fun j hj => HA1.out j (by have := L1.out.1; omega)))
        subst this
        go_wp2
        have hszr1 : w.heap.size + 1 < wr.heap.size := Nat.lt_of_lt_of_le hsz BW1.out.size
        generalize wr = V1 at *
        go_loopg [6] n2 (fun gg s5 wr => ∃ kk : Nat, kk ≤ n2 ∧ n2 - kk ≤ gg ∧ s5 = .int .i64 kk ∧ Hid (Below V1.heap.size V1 wr) ∧ Hid (∀ j, j < kk → xs2[j]! = ys2[j]!))
        case atStart => exact ⟨0, Nat.zero_le _, by omega, rfl, Below.refl _ _, fun j hj => absurd hj (Nat.not_lt_zero _)⟩
        case round =>
          obtain ⟨kk2, hkk2, hg2, rfl, BW2, HA2⟩ := hrel
          have hBr2 : Below w.heap.size w wr := hBr1.trans (BW2.out.mono (by omega))
          have a1_2 := (BW2.out.cell (p := ⟨w.heap.size, 1, none⟩) (by simp; omega)).trans a1_1
          have b1_2 := (BW2.out.cell (p := ⟨w.heap.size + 1, 1, none⟩) (by simp; omega)).trans b1_1
          have a2_2 := (BW2.out.cell (p := ⟨w.heap.size, 2, none⟩) (by simp; omega)).trans a2_1
          have b2_2 := (BW2.out.cell (p := ⟨w.heap.size + 1, 2, none⟩) (by simp; omega)).trans b2_1
          have a3_2 := (BW2.out.cell (p := ⟨w.heap.size, 3, none⟩) (by simp; omega)).trans a3_1
          have b3_2 := (BW2.out.cell (p := ⟨w.heap.size + 1, 3, none⟩) (by simp; omega)).trans b3_1
          clear a1_1 b1_1 a2_1 b2_1 a3_1 b3_1
          by_cases hlt2 : kk2 < n2
          · have hltz2 : (kk2 : Int) < (n2 : Int) := by omega
            have hkz : (0 : Int) ≤ (kk2 : Int) := by omega
            obtain ⟨bx, ox, rfl, hbx, hcx⟩ := R2.out.at hBr2 kk2 (by have := L2.out.1; omega)
            obtain ⟨by_, oy, rfl, hby, hcy⟩ := S2.out.at hBr2 kk2 (by have := L2.out.2; omega)
            generalize hx : xs2[kk2]! = x at hcx
            generalize hy : ys2[kk2]! = y at hcy
            have HX := Lib.hid hx
            have HY := Lib.hid hy
            clear hx hy
            have hneq := neq_Rl x y
            have hgd := guard_Rl .neq
            simp only [avRl] at hneq hgd
            have cx0 := hcx 0 _ rfl
            have cy0 := hcy 0 _ rfl
            have cx1 := hcx 1 _ rfl
            have cy1 := hcy 1 _ rfl
            have cx2 := hcx 2 _ rfl
            have cy2 := hcy 2 _ rfl
            simp only [Nat.add_zero] at cx0 cy0
            clear hcx hcy
            by_cases hq : x = y
            · have HQ := Lib.hid hq
              rw [decide_eq_true hq] at hneq
              clear hq
              go_wp2_with fail
              go_quiet (fail)
              go_wp2
              go_roundg (n2 - (kk2 + 1))
              case measure => omega
              case rel =>
                refine ⟨kk2 + 1, by omega, by omega, by go_num, below_drewN BW2.out _, (show Hid _ from fun j hj => ?_)⟩
                by_cases e : j = kk2
                · subst e; rw [HX.out, HY.out]; exact HQ.out
                · exact HA2.out j (by omega)
            · have HQ := Lib.hid hq
              rw [decide_eq_false hq] at hneq
              have : r2 = false := by
                cases hr : r2 with
                | false => rfl
                | true => exact absurd (by rw [← HX.out, ← HY.out, H2.out.2 hr]) hq
              subst this
              clear hq
              go_wp2_with fail
              go_quiet (fail)
              go_wp2
              go_ret
              exact ⟨by simp, below_drewN hBr2 _⟩
          · have hltz2 : ¬ (kk2 : Int) < (n2 : Int) := by omega
            have : r2 = true := H2.out.1 (list_ext_getElem! (by rw [L2.out.1, L2.out.2]) (fun j hj => HA2.out j (by have := L2.out.1; omega)))
            subst this
            go_wp2
            have hszr2 : w.heap.size + 1 < wr.heap.size := Nat.lt_of_lt_of_le hszr1 BW2.out.size
            generalize wr = V2 at *
            go_loopg [7] n3 (fun gg s5 wr => ∃ kk : Nat, kk ≤ n3 ∧ n3 - kk ≤ gg ∧ s5 = .int .i64 kk ∧ Hid (Below V2.heap.size V2 wr) ∧ Hid (∀ j, j < kk → xs3[j]! = ys3[j]!))
            case atStart => exact ⟨0, Nat.zero_le _, by omega, rfl, Below.refl _ _, fun j hj => absurd hj (Nat.not_lt_zero _)⟩
            case round =>
              obtain ⟨kk3, hkk3, hg3, rfl, BW3, HA3⟩ := hrel
              have hBr3 : Below w.heap.size w wr := hBr2.trans (BW3.out.mono (by omega))
              have a1_3 := (BW3.out.cell (p := ⟨w.heap.size, 1, none⟩) (by simp; omega)).trans a1_2
              have b1_3 := (BW3.out.cell (p := ⟨w.heap.size + 1, 1, none⟩) (by simp; omega)).trans b1_2
              have a2_3 := (BW3.out.cell (p := ⟨w.heap.size, 2, none⟩) (by simp; omega)).trans a2_2
              have b2_3 := (BW3.out.cell (p := ⟨w.heap.size + 1, 2, none⟩) (by simp; omega)).trans b2_2
              have a3_3 := (BW3.out.cell (p := ⟨w.heap.size, 3, none⟩) (by simp; omega)).trans a3_2
              have b3_3 := (BW3.out.cell (p := ⟨w.heap.size + 1, 3, none⟩) (by simp; omega)).trans b3_2
              clear a1_2 b1_2 a2_2 b2_2 a3_2 b3_2
              by_cases hlt3 : kk3 < n3
              · have hltz3 : (kk3 : Int) < (n3 : Int) := by omega
                have hkz : (0 : Int) ≤ (kk3 : Int) := by omega
                obtain ⟨bx, ox, rfl, hbx, hcx⟩ := R3.out.at hBr3 kk3 (by have := L3.out.1; omega)
                obtain ⟨by_, oy, rfl, hby, hcy⟩ := S3.out.at hBr3 kk3 (by have := L3.out.2; omega)
                generalize hx : xs3[kk3]! = x at hcx
                generalize hy : ys3[kk3]! = y at hcy
                have HX := Lib.hid hx
                have HY := Lib.hid hy
                clear hx hy
                have hneq := neq_Qm x y
                have hgd := guard_Qm .neq
                simp only [avQm] at hneq hgd
                have cx0 := hcx 0 _ rfl
                have cy0 := hcy 0 _ rfl
                have cx1 := hcx 1 _ rfl
                have cy1 := hcy 1 _ rfl
                have cx2 := hcx 2 _ rfl
                have cy2 := hcy 2 _ rfl
                have cx3 := hcx 3 _ rfl
                have cy3 := hcy 3 _ rfl
                have cx4 := hcx 4 _ rfl
                have cy4 := hcy 4 _ rfl
                simp only [Nat.add_zero] at cx0 cy0
                clear hcx hcy
                by_cases hq : x = y
                · have HQ := Lib.hid hq
                  rw [decide_eq_true hq] at hneq
                  clear hq
                  go_wp2_with fail
                  go_quiet (fail)
                  go_wp2
                  go_roundg (n3 - (kk3 + 1))
                  case measure => omega
                  case rel =>
                    refine ⟨kk3 + 1, by omega, by omega, by go_num, below_drewN BW3.out _, (show Hid _ from fun j hj => ?_)⟩
                    by_cases e : j = kk3
                    · subst e; rw [HX.out, HY.out]; exact HQ.out
                    · exact HA3.out j (by omega)
                · have HQ := Lib.hid hq
                  rw [decide_eq_false hq] at hneq
                  have : r3 = false := by
                    cases hr : r3 with
                    | false => rfl
                    | true => exact absurd (by rw [← HX.out, ← HY.out, H3.out.2 hr]) hq
                  subst this
                  clear hq
                  go_wp2_with fail
                  go_quiet (fail)
                  go_wp2
                  go_ret
                  exact ⟨by simp, below_drewN hBr3 _⟩
              · have hltz3 : ¬ (kk3 : Int) < (n3 : Int) := by omega
                have : r3 = true := H3.out.1 (list_ext_getElem! (by rw [L3.out.1, L3.out.2]) (fun j hj => HA3.out j (by have := L3.out.1; omega)))
                subst this
                go_wp2
                go_ret
                exact ⟨by simp, hBr3⟩
end Go.Proofs.YtemkffejekgmfaaDoor
