/- The reference of layer 13: Check, Valid. -/
import Derived.Test.YtemkffejekgmfaaDoorR2
namespace Go.Proofs.YtemkffejekgmfaaDoor
open Go.RowKit Go.Shelf Go.Lib

theorem firstErr_step {f : Nat → Int} {T k : Nat} (hk : k < T) (h : firstErr f (T - k) k = firstErr f T 0) : (f k = 0 → firstErr f (T - (k + 1)) (k + 1) = firstErr f T 0) ∧ (¬ f k = 0 → firstErr f T 0 = ((k : Int), f k)) := by
  obtain ⟨m, hm⟩ : ∃ m, T - k = m + 1 := ⟨T - k - 1, by omega⟩
  rw [hm] at h
  rw [show T - (k + 1) = m by omega, ← h, firstErr]
  exact ⟨fun hz => by rw [if_pos hz], fun hz => by rw [if_neg hz]⟩
theorem firstErr_end {f : Nat → Int} {T : Nat} (h : firstErr f (T - T) T = firstErr f T 0) : firstErr f T 0 = (0, 0) := by
  rw [← h, Nat.sub_self, firstErr]

set_option maxRecDepth 100000 in
set_option maxHeartbeats 8000000 in
theorem refCheck_any (p : Pol) (A1 : Option Addr) (c1 : Nat) (A2 : Option Addr) (c2 : Nat) (A3 : Option Addr) (c3 : Nat) (w : World) (hp : PolR w p A1 c1 A2 c2 A3 c3) :
    Calls Tryd.prog 12 #[.agg #[.string p.name, .slice A1 p.types.length c1, .slice A2 p.rules.length c2, .slice A3 p.quorums.length c3]] w fun e w' => e = .returned (.tuple #[.int .i64 (checkS p).1, .int .i64 (checkS p).2]) ∧ Below w.heap.size w w' := by
  have cN := fun W => refName_any p.name W hp.nm
  have cT := fun W (hW : Below w.heap.size w W) k hk => refIsType_any A1 c1 p.types k W hk hp.l1 (hp.r1.below hW) hp.tn
  have cR := fun W (hW : Below w.heap.size w W) k hk => refIsRule_any A2 c2 p.rules k p.types.length W hk (hp.r2.below hW) (by omega) (by have := hp.r1.1; omega)
  have cQ := fun W (hW : Below w.heap.size w W) k hk => refIsQuorum_any A3 c3 p.quorums k W hk (hp.r3.below hW)
  have b1 := hp.r1.1
  have b2 := hp.r2.1
  have b3 := hp.r3.1
  have hI1 : ∀ k, k < p.types.length → itemErr p k = typeErr p.types k := fun k hk => by unfold itemErr; rw [if_pos hk]
  have hI2 : ∀ k, k < p.rules.length → itemErr p (p.types.length + k) = ruleErr p.rules k p.types.length := fun k hk => by
    unfold itemErr; rw [if_neg (by omega), if_pos (by omega), Nat.add_sub_cancel_left]
  have hI3 : ∀ k, itemErr p (p.types.length + p.rules.length + k) = quorumErr p.quorums k := fun k => by
    unfold itemErr; rw [if_neg (by omega), if_neg (by omega)]; congr 1; omega
  unfold checkS total
  clear hp
  generalize itemErr p = f at *
  generalize nameB p.name = nm at *
  generalize p.name = pn at *
  generalize hn1 : p.types.length = n1 at *
  generalize hn2 : p.rules.length = n2 at *
  generalize hn3 : p.quorums.length = n3 at *
  have CT := Lib.hid cT
  have CR := Lib.hid cR
  have CQ := Lib.hid cQ
  have HI1 := Lib.hid hI1
  have HI2 := Lib.hid hI2
  have HI3 := Lib.hid hI3
  clear cT cR cQ hI1 hI2 hI3 hn1 hn2 hn3
  have hA : Below w.heap.size w (w.alloc (.cells #[.string pn, .slice A1 n1 c1, .slice A2 n2 c2, .slice A3 n3 c3] 26)) := (Below.refl _ _).alloc (Nat.le_refl _) _
  cases nm with
  | false =>
    go_enter Tryd.func12, Tryd.ntmps12
    go_wp2_with (go_at_call 16; refine (cN _).mono ?_; rintro e w1 ⟨rfl, rfl⟩)
    go_ret2
    exact ⟨rfl, hA⟩
  | true =>
    have e1 : (w.alloc (.cells #[.string pn, .slice A1 n1 c1, .slice A2 n2 c2, .slice A3 n3 c3] 26)).cell? ⟨w.heap.size, 1, none⟩ = some (.slice A1 n1 c1) := by simp [go_sem]
    have e2 : (w.alloc (.cells #[.string pn, .slice A1 n1 c1, .slice A2 n2 c2, .slice A3 n3 c3] 26)).cell? ⟨w.heap.size, 2, none⟩ = some (.slice A2 n2 c2) := by simp [go_sem]
    have e3 : (w.alloc (.cells #[.string pn, .slice A1 n1 c1, .slice A2 n2 c2, .slice A3 n3 c3] 26)).cell? ⟨w.heap.size, 3, none⟩ = some (.slice A3 n3 c3) := by simp [go_sem]
    have hsz : w.heap.size < (w.alloc (.cells #[.string pn, .slice A1 n1 c1, .slice A2 n2 c2, .slice A3 n3 c3] 26)).heap.size := by simp
    go_enter Tryd.func12, Tryd.ntmps12
    go_wp2_with (go_at_call 16; refine (cN _).mono ?_; rintro e w1 ⟨rfl, rfl⟩)
    generalize w.alloc (.cells #[.string pn, .slice A1 n1 c1, .slice A2 n2 c2, .slice A3 n3 c3] 26) = W1 at *
    go_loopg [5, 6] n1 (fun gg s5 _ wr => ∃ kk : Nat, kk ≤ n1 ∧ n1 - kk ≤ gg ∧ s5 = .int .i64 kk ∧ Hid (Below W1.heap.size W1 wr) ∧ Hid (firstErr f (n1 + n2 + n3 - kk) kk = firstErr f (n1 + n2 + n3) 0))
    case atStart => exact ⟨0, Nat.zero_le _, by omega, rfl, Below.refl _ _, rfl⟩
    case round =>
      obtain ⟨kk, hkk, hg, rfl, BW, HF⟩ := hrel
      have hBr : Below w.heap.size w wr := hA.trans (BW.out.mono (by omega))
      have g1 := (BW.out.cell (p := ⟨w.heap.size, 1, none⟩) hsz).trans e1
      have g2 := (BW.out.cell (p := ⟨w.heap.size, 2, none⟩) hsz).trans e2
      have g3 := (BW.out.cell (p := ⟨w.heap.size, 3, none⟩) hsz).trans e3
      by_cases hlt : kk < n1
      · have hltz : (kk : Int) < (n1 : Int) := by omega
        clear e1 e2 e3
        obtain ⟨st1, st2⟩ := firstErr_step (f := f) (by omega) HF.out
        have c := CT.out wr hBr kk hlt
        rw [← HI1.out kk hlt] at c
        by_cases hz : f kk = 0
        · have HN := Lib.hid (st1 hz)
          rw [hz] at c
          clear hz st1 st2
          go_wp2_with (go_at_call 27; refine c.mono ?_; rintro e w2 ⟨rfl, hb2⟩)
          go_roundg (n1 - (kk + 1))
          case measure => omega
          case rel => exact ⟨kk + 1, by omega, by omega, by go_num, BW.out.trans (hb2.mono BW.out.size), HN⟩
        · have HN := Lib.hid (st2 hz)
          have hzb : (f kk != 0) = true := by simpa using hz
          clear hz st1 st2
          generalize f kk = E at *
          go_wp2_with (go_at_call 27; refine c.mono ?_; rintro e w2 ⟨rfl, hb2⟩)
          go_ret2
          exact ⟨by rw [HN.out]; rfl, hBr.trans (hb2.mono hBr.size)⟩
      · have hltz : ¬ (kk : Int) < (n1 : Int) := by omega
        obtain rfl : kk = n1 := by omega
        have HF1 := HF
        have BW1 := BW
        clear HF BW
        go_wp2
        have hszr : w.heap.size < wr.heap.size := Nat.lt_of_lt_of_le hsz BW1.out.size
        clear e1 e2 e3
        generalize wr = W2 at *
        go_loopg [7, 8] n2 (fun gg s5 _ wr => ∃ q : Nat, q ≤ n2 ∧ n2 - q ≤ gg ∧ s5 = .int .i64 q ∧ Hid (Below W2.heap.size W2 wr) ∧ Hid (firstErr f (kk + n2 + n3 - (kk + q)) (kk + q) = firstErr f (kk + n2 + n3) 0))
        case atStart => exact ⟨0, Nat.zero_le _, by omega, rfl, Below.refl _ _, HF1.out⟩
        case round =>
          obtain ⟨q, hkk2, hg2, rfl, BW, HF⟩ := hrel
          have hBr2 : Below w.heap.size w wr := hBr.trans (BW.out.mono (by omega))
          have k1 := (BW.out.cell (p := ⟨w.heap.size, 1, none⟩) hszr).trans g1
          have k2 := (BW.out.cell (p := ⟨w.heap.size, 2, none⟩) hszr).trans g2
          have k3 := (BW.out.cell (p := ⟨w.heap.size, 3, none⟩) hszr).trans g3
          by_cases hlt : q < n2
          · have hltz : (q : Int) < (n2 : Int) := by omega
            clear g1 g2 g3
            obtain ⟨st1, st2⟩ := firstErr_step (f := f) (by omega) HF.out
            have c := CR.out wr hBr2 q hlt
            rw [← HI2.out q hlt] at c
            by_cases hz : f (kk + q) = 0
            · have HN := Lib.hid (st1 hz)
              rw [hz] at c
              clear hz st1 st2
              go_wp2_with (go_at_call 28; refine c.mono ?_; rintro e w2 ⟨rfl, hb2⟩)
              go_roundg (n2 - (q + 1))
              case measure => omega
              case rel => exact ⟨q + 1, by omega, by omega, by go_num, BW.out.trans (hb2.mono BW.out.size), HN⟩
            · have HN := Lib.hid (st2 hz)
              have hzb : (f (kk + q) != 0) = true := by simpa using hz
              clear hz st1 st2
              generalize f (kk + q) = E at *
              go_wp2_with fail
              refine c.mono ?_
              rintro e w2 ⟨rfl, hb2⟩
              have z1 := (hb2.cell (p := ⟨w.heap.size, 1, none⟩) (by have := BW.out.size; simp; omega)).trans k1
              go_wp2
              go_ret2
              exact ⟨by rw [HN.out]; simp, hBr2.trans (hb2.mono hBr2.size)⟩
          · have hltz : ¬ (q : Int) < (n2 : Int) := by omega
            obtain rfl : q = n2 := by omega
            have HF2 := HF
            have BW2 := BW
            clear HF BW
            go_wp2
            have hszr2 : w.heap.size < wr.heap.size := Nat.lt_of_lt_of_le hszr BW2.out.size
            clear g1 g2 g3
            generalize wr = W3 at *
            go_loopg [9, 10] n3 (fun gg s5 _ wr => ∃ r : Nat, r ≤ n3 ∧ n3 - r ≤ gg ∧ s5 = .int .i64 r ∧ Hid (Below W3.heap.size W3 wr) ∧ Hid (firstErr f (kk + q + n3 - (kk + q + r)) (kk + q + r) = firstErr f (kk + q + n3) 0))
            case atStart => exact ⟨0, Nat.zero_le _, by omega, rfl, Below.refl _ _, HF2.out⟩
            case round =>
              obtain ⟨r, hkk3, hg3, rfl, BW, HF⟩ := hrel
              have hBr3 : Below w.heap.size w wr := hBr2.trans (BW.out.mono (by omega))
              have l1 := (BW.out.cell (p := ⟨w.heap.size, 1, none⟩) hszr2).trans k1
              have l2 := (BW.out.cell (p := ⟨w.heap.size, 2, none⟩) hszr2).trans k2
              have l3 := (BW.out.cell (p := ⟨w.heap.size, 3, none⟩) hszr2).trans k3
              clear k1 k2 k3
              by_cases hlt : r < n3
              · have hltz : (r : Int) < (n3 : Int) := by omega
                obtain ⟨st1, st2⟩ := firstErr_step (f := f) (by omega) HF.out
                have c := CQ.out wr hBr3 r hlt
                rw [← HI3.out r] at c
                by_cases hz : f (kk + q + r) = 0
                · have HN := Lib.hid (st1 hz)
                  rw [hz] at c
                  clear hz st1 st2
                  go_wp2_with (go_at_call 29; refine c.mono ?_; rintro e w2 ⟨rfl, hb2⟩)
                  go_roundg (n3 - (r + 1))
                  case measure => omega
                  case rel => exact ⟨r + 1, by omega, by omega, by go_num, BW.out.trans (hb2.mono BW.out.size), HN⟩
                · have HN := Lib.hid (st2 hz)
                  have hzb : (f (kk + q + r) != 0) = true := by simpa using hz
                  clear hz st1 st2
                  generalize f (kk + q + r) = E at *
                  go_wp2_with fail
                  refine c.mono ?_
                  rintro e w2 ⟨rfl, hb2⟩
                  have z1 := (hb2.cell (p := ⟨w.heap.size, 1, none⟩) (by have := BW.out.size; simp; omega)).trans l1
                  have z2 := (hb2.cell (p := ⟨w.heap.size, 2, none⟩) (by have := BW.out.size; simp; omega)).trans l2
                  go_wp2
                  go_ret2
                  exact ⟨by rw [HN.out]; simp, hBr3.trans (hb2.mono hBr3.size)⟩
              · have hltz : ¬ (r : Int) < (n3 : Int) := by omega
                obtain rfl : r = n3 := by omega
                have HE := Lib.hid (firstErr_end HF.out)
                clear HF
                go_wp2
                go_ret2
                exact ⟨by rw [HE.out]; rfl, hBr3⟩

set_option maxHeartbeats 400000 in
theorem refValid_any (p : Pol) (A1 : Option Addr) (c1 : Nat) (A2 : Option Addr) (c2 : Nat) (A3 : Option Addr) (c3 : Nat) (w : World) (hp : PolR w p A1 c1 A2 c2 A3 c3) :
    Calls Tryd.prog 14 #[.agg #[.string p.name, .slice A1 p.types.length c1, .slice A2 p.rules.length c2, .slice A3 p.quorums.length c3]] w fun e w' => e = .returned (.bool ((checkS p).2 == 0)) ∧ Below w.heap.size w w' := by
  have cC := fun W (hW : Below w.heap.size w W) => refCheck_any p A1 c1 A2 c2 A3 c3 W (hp.below hW)
  clear hp
  generalize checkS p = r at *
  obtain ⟨n, E⟩ := r
  dsimp only at cC ⊢
  have CC := Lib.hid cC
  clear cC
  go_enter Tryd.func14, Tryd.ntmps14
  go_wp2_with fail
  refine (CC.out _ (by first | exact Below.refl _ _ | exact (Below.refl _ _).alloc (Nat.le_refl _) _)).mono ?_
  rintro e w2 ⟨rfl, hb2⟩
  go_wp2
  go_ret
  exact ⟨rfl, ((Below.refl _ _).alloc (Nat.le_refl _) _).trans (hb2.mono (by simp))⟩
end Go.Proofs.YtemkffejekgmfaaDoor
