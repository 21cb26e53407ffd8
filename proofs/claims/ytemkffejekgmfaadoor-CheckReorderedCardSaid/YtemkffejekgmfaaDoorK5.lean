/- slices.symMergeCmpFunc at the structs, where the right stretch is one element. -/
import Derived.Test.YtemkffejekgmfaaDoorK4
namespace Go.Proofs.YtemkffejekgmfaaDoor
open Go.RowKit Go.Shelf Go.Lib

set_option maxRecDepth 100000 in
set_option maxHeartbeats 4000000 in
theorem symMergeR_Rule (hO : Ord (ltC cfRl)) (T : TypeId) (W0 : World) (B blk cap len : Nat) (hc : len ≤ 140737488355328) (a m b : Nat) (P U Q : List Rl) (z : Rl) (W : World) (hso : SO encRl 3 T W0 B blk cap (P ++ (U ++ z :: Q)) W)
    (hlen : (P ++ (U ++ z :: Q)).length = len) (hP : P.length = a) (hU : a + U.length = m) (hm : m + 1 = b) (ham : a + 1 < m) (sU : Srt (ltC cfRl) U) :
    Calls Tryd.prog 64 #[.slice (some ⟨blk, 0, none⟩) len cap, .int .i64 a, .int .i64 m, .int .i64 b, .func (.func 32) #[] #[]] W fun e w' => e = .returned (.tuple #[]) ∧ SO encRl 3 T W0 B blk cap (P ++ (sortR (ltC cfRl) (U ++ [z]) ++ Q)) w' := by
  have hbl : b ≤ len := by rw [← hlen]; simp; omega
  have z0 : (m : Int) - (a : Int) = ((m - a : Nat) : Int) := by omega
  have z2 : IntKind.i64.wrap ((m - a : Nat) : Int) = ((m - a : Nat) : Int) := by rw [IntKind.wrap_i64]; omega
  have z3 : ¬ ((m - a : Nat) : Int) = 1 := by omega
  have z4 : (((m - a : Nat) : Int) == 1) = false := by simp; omega
  have z1 : (b : Int) - (m : Int) = 1 := by omega
  have hlm : ∀ n, (midL P U Q z n).length = len := fun n => by rw [midL_length, ← hlen]; simp; omega
  have hua : U.length = m - a := by omega
  have hso0 : SO encRl 3 T W0 B blk cap (midL P U Q z (m - a)) W := by unfold midL; rw [← hua, List.take_length, List.drop_length]; simpa using hso
  have gm : (midL P U Q z (m - a))[m]! = z := midL_at _ _ _ _ _ _ (by omega) (by omega)
  have gh : ∀ h, a ≤ h → h < m → (midL P U Q z (m - a))[h]! = U[h - a]! := by
    intro h h1 h2
    unfold midL
    rw [← hua, List.take_length, List.drop_length, List.nil_append, get_app2 _ _ _ _ (by omega) (by omega), hP]
  have HFIN : Hid (∀ i, a ≤ i → i ≤ m → (i = a ∨ ltC cfRl z U[i - 1 - a]! = false) → (i = m ∨ ltC cfRl z U[i - a]! = true) → midL P U Q z (i - a) = P ++ (sortR (ltC cfRl) (U ++ [z]) ++ Q)) := by
    intro i hi hib h1 h2
    have hcut : U.take (i - a) ++ U.drop (i - a) = U := List.take_append_drop _ _
    have hm := merge_right hO z (U.take (i - a)) (U.drop (i - a)) (by rw [hcut]; exact sU) (fun v hv => by
      obtain ⟨q, q1, q2, rfl⟩ := mem_drop_get hv
      rcases h2 with h2 | h2
      · omega
      · exact hO.lt_le h2 (sU.le hO (i - a) q q1 q2)) (fun v hv => by
      obtain ⟨q, q1, q2, rfl⟩ := mem_take_get hv
      rcases h1 with h1 | h1
      · omega
      · exact hO.neg _ _ _ (sU.le hO q (i - 1 - a) (by omega) (by omega)) h1)
    rw [hcut] at hm
    rw [hm]; unfold midL; simp
  have HL := Lib.hid hlm
  have HS := Lib.hid hso0
  have HGM := Lib.hid gm
  have HGH := Lib.hid gh
  have HP := Lib.hid hP
  have HUL := Lib.hid hua
  clear hso hlen hso0 gm gh sU hP hU hlm hua
  go_enter Tryd.func64, Tryd.ntmps64
  go_wp2
  go_loopg [14, 15, 16] (m - a) (fun gg s t u wr => ∃ i j, a ≤ i ∧ i ≤ j ∧ j ≤ m ∧ j - i ≤ gg ∧ s = .int .i64 (i : Nat) ∧ t = .int .i64 (j : Nat) ∧ Hid (SO encRl 3 T W0 B blk cap (midL P U Q z (m - a)) wr) ∧ Hid (i = a ∨ ltC cfRl z U[i - 1 - a]! = false) ∧ Hid (j = m ∨ ltC cfRl z U[j - a]! = true))
  case atStart => exact ⟨a, m, Nat.le_refl _, by omega, Nat.le_refl _, Nat.le_refl _, rfl, rfl, HS, Or.inl rfl, Or.inl rfl⟩
  case round =>
    obtain ⟨i, j, hmi, hij, hjb, hg, rfl, rfl, hS, hI1, hJ1⟩ := hrel
    by_cases hlt : i < j
    · have hltz : (i : Int) < (j : Int) := by omega
      obtain ⟨h, hh⟩ : ∃ h, (i + j) / 2 = h := ⟨_, rfl⟩
      have hhz : ((i : Int) + (j : Int)) / 2 = (h : Int) := by omega
      have hih : i ≤ h := by omega
      have hhj : h < j := by omega
      have hhl : (h : Int) < (len : Int) := by omega
      have haz : (m : Int) < (len : Int) := by omega
      obtain ⟨y, hy⟩ : ∃ y, U[h - a]! = y := ⟨_, rfl⟩
      have gx : (midL P U Q z (m - a))[h]! = y := (HGH.out h (by omega) (by omega)).trans hy
      have gy : (midL P U Q z (m - a))[m]! = z := HGM.out
      have HY := Lib.hid hy
      clear hh hy
      obtain ⟨v, hv⟩ : ∃ v, cfRl z y = v := ⟨_, rfl⟩
      have hcmp := fun w' => cmp_Rule z y w'
      rw [hv] at hcmp
      have HV := Lib.hid hv
      clear hv
      obtain ⟨x1, x2, x3⟩ := z
      obtain ⟨y1, y2, y3⟩ := y
      simp only [avRl] at hcmp
      obtain ⟨cA, cB⟩ : (∀ r u, (encRl (midL P U Q _ (m - a))[h]!)[r]? = some u → World.cell? _ ⟨blk, (h) * 3 + r, none⟩ = some u) ∧ (∀ r u, (encRl (midL P U Q _ (m - a))[m]!)[r]? = some u → World.cell? _ ⟨blk, (m) * 3 + r, none⟩ = some u) := ⟨fun r u hu => (hS.out).cell (h) (by rw [HL.out]; omega) r u hu, fun r u hu => (hS.out).cell (m) (by rw [HL.out]; omega) r u hu⟩
      rw [gx] at cA
      rw [gy] at cB
      have cA0 := cA 0 _ rfl; have cA1 := cA 1 _ rfl; have cA2 := cA 2 _ rfl
      have cB0 := cB 0 _ rfl; have cB1 := cB 1 _ rfl; have cB2 := cB 2 _ rfl
      try have cA3 := cA 3 _ rfl; have cB3 := cB 3 _ rfl; have cA4 := cA 4 _ rfl; have cB4 := cB 4 _ rfl
      simp only [Nat.add_zero] at cA0 cB0
      clear cA cB
      have dA0 := fun p : Grows wr => Grows.cell cA0 p; have dA1 := fun p : Grows wr => Grows.cell cA1 p; have dA2 := fun p : Grows wr => Grows.cell cA2 p
      have dB0 := fun p : Grows wr => Grows.cell cB0 p; have dB1 := fun p : Grows wr => Grows.cell cB1 p; have dB2 := fun p : Grows wr => Grows.cell cB2 p
      try have dA3 := fun p : Grows wr => Grows.cell cA3 p; have dB3 := fun p : Grows wr => Grows.cell cB3 p; have dA4 := fun p : Grows wr => Grows.cell cA4 p; have dB4 := fun p : Grows wr => Grows.cell cB4 p
      clear cA0 cA1 cA2 cB0 cB1 cB2
      try clear cA3 cB3 cA4 cB4
      have HC := Lib.hid hcmp
      clear hcmp gx gy
      by_cases hlv : v < 0
      · go_wp2_with fail
        (refine wp_region_grows (by kernel_rfl) (by kernel_rfl) ?_; (repeat quiet_step ((go_at_call 32; exact Grows.call _ (HC.out _)))); refine wpQuiet_nil ?_; intro _ hw'; obtain ⟨gw, hw''⟩ := hw'; subst hw'')
        have hS2 := Lib.hid (hS.out.grow gw.h)
        generalize gw.w = w3 at *
        go_wp2
        go_roundg (h - i)
        case measure => omega
        case rel =>
          refine ⟨i, h, by omega, by omega, by omega, by omega, rfl, rfl, hS2, hI1, Or.inr ?_⟩
          rw [HY.out]; unfold ltC; rw [HV.out]; exact decide_eq_true hlv
      · go_wp2_with fail
        (refine wp_region_grows (by kernel_rfl) (by kernel_rfl) ?_; (repeat quiet_step ((go_at_call 32; exact Grows.call _ (HC.out _)))); refine wpQuiet_nil ?_; intro _ hw'; obtain ⟨gw, hw''⟩ := hw'; subst hw'')
        have hS2 := Lib.hid (hS.out.grow gw.h)
        generalize gw.w = w3 at *
        go_wp2
        go_roundg (j - (h + 1))
        case measure => omega
        case rel =>
          refine ⟨h + 1, j, by omega, by omega, by omega, by omega, by go_num, rfl, hS2, Or.inr ?_, hJ1⟩
          rw [show h + 1 - 1 - a = h - a by omega, HY.out]; unfold ltC; rw [HV.out]; simpa using hlv
        rename_i hbad
        exfalso; simp at hbad; omega
    · have hltz : ¬ (i : Int) < (j : Int) := by omega
      obtain rfl : i = j := by omega
      have HF : Hid (midL P U Q z (i - a) = P ++ (sortR (ltC cfRl) (U ++ [z]) ++ Q)) := HFIN.out i hmi hjb hI1.out hJ1.out
      have HS2 := hS
      clear hI1 hJ1 hS HFIN
      generalize wr = W2 at *
      go_wp2
      go_loopg [17] (m - i) (fun gg s wr => ∃ k, i ≤ k ∧ k ≤ m ∧ k - i ≤ gg ∧ s = .int .i64 (k : Nat) ∧ Hid (SO encRl 3 T W0 B blk cap (midL P U Q z (k - a)) wr))
      case atStart => exact ⟨m, hjb, Nat.le_refl _, Nat.le_refl _, rfl, HS2⟩
      case round =>
        clear HS2
        obtain ⟨k, hak, hki, hgk, rfl, hK⟩ := hrel
        by_cases hlt2 : i < k
        · obtain ⟨kp, rfl⟩ : ∃ kp, k = kp + 1 := ⟨k - 1, by omega⟩
          have hltz2 : (i : Int) < (kp : Int) + 1 := by omega
          have k1 : IntKind.i64.wrap (kp : Int) = (kp : Int) := by rw [IntKind.wrap_i64]; omega
          have k2 : (0 : Int) ≤ (kp : Int) + 1 := by omega
          have k3 : (kp : Int) + 1 < (len : Int) := by omega
          have k4 : (kp : Int) < (len : Int) := by omega
          have k5 : ((kp : Int) + 1).toNat = kp + 1 := by omega
          have hkV : kp - a < U.length := by have := HUL.out; omega
          have hK1 := hK.out
          rw [show kp + 1 - a = kp - a + 1 by omega] at hK1
          have hl1 : (midL P U Q z (kp - a + 1)).length = len := HL.out _
          have hsw := hK1.swapped len_Rl (kp + 1) kp (by rw [hl1]; omega) (by rw [hl1]; omega)
          have gx : (midL P U Q z (kp - a + 1))[kp + 1]! = z := midL_at _ _ _ _ _ _ (by omega) (by have := HP.out; omega)
          have gy : (midL P U Q z (kp - a + 1))[kp]! = U[kp - a]! := midL_before _ _ _ _ _ _ hkV (by have := HP.out; omega)
          have gs : swapL (midL P U Q z (kp - a + 1)) (kp + 1) kp = midL P U Q z (kp - a) := midL_step _ _ _ _ _ _ _ hkV (by have := HP.out; omega) (by have := HP.out; omega)
          rw [gs, gx, gy] at hsw
          have fz := fun o => hK1.frz o
          generalize hz' : midL P U Q z (kp - a) = lst2 at hsw
          have HZ := Lib.hid hz'
          clear hz' gs hK
          generalize U[kp - a]! = y at *
          generalize hl0 : midL P U Q z (kp - a + 1) = lst1 at *
          clear hl0 HGM HGH HF HL
          obtain ⟨x1, x2, x3⟩ := z
          obtain ⟨y1, y2, y3⟩ := y
          obtain ⟨cA, cB⟩ : (∀ r u, (encRl (lst1)[kp + 1]!)[r]? = some u → World.cell? _ ⟨blk, (kp + 1) * 3 + r, none⟩ = some u) ∧ (∀ r u, (encRl (lst1)[kp]!)[r]? = some u → World.cell? _ ⟨blk, (kp) * 3 + r, none⟩ = some u) := ⟨fun r u hu => (hK1).cell (kp + 1) (by omega) r u hu, fun r u hu => (hK1).cell (kp) (by omega) r u hu⟩
          rw [gx] at cA
          rw [gy] at cB
          have cA0 := cA 0 _ rfl; have cA1 := cA 1 _ rfl; have cA2 := cA 2 _ rfl
          have cB0 := cB 0 _ rfl; have cB1 := cB 1 _ rfl; have cB2 := cB 2 _ rfl
          try have cA3 := cA 3 _ rfl; have cB3 := cB 3 _ rfl; have cA4 := cA 4 _ rfl; have cB4 := cB 4 _ rfl
          simp only [Nat.add_zero] at cA0 cB0
          clear cA cB
          simp only [encRl, World.setCells] at hsw
          have HSW := Lib.hid hsw
          clear hsw gx gy hK1
          have n1 : (kp + 1) * 3 ≠ kp * 3 := by omega
          go_wp2_with fail
          go_big_region
          all_goals go_wp2
          go_roundg (kp - i)
          case measure => omega
          case rel =>
            refine ⟨kp, by omega, by omega, by omega, by go_num, ?_⟩
            rw [HZ.out]
            exact HSW.out.drew
        · obtain rfl : i = k := by omega
          have hltz2 : ¬ (i : Int) < (i : Int) := by omega
          have hfin := hK.out
          rw [HF.out] at hfin
          have HFI := Lib.hid hfin
          clear hfin hK
          go_wp2
          (try simp only [Exit.inBlock, Exit.then]); refine bodyPost_ret (results_none rfl _ _ _) rfl ?_
          exact ⟨rfl, HFI.out⟩
set_option maxRecDepth 100000 in
set_option maxHeartbeats 4000000 in
theorem symMergeR_Quorum (hO : Ord (ltC cfQm)) (T : TypeId) (W0 : World) (B blk cap len : Nat) (hc : len ≤ 140737488355328) (a m b : Nat) (P U Q : List Qm) (z : Qm) (W : World) (hso : SO encQm 5 T W0 B blk cap (P ++ (U ++ z :: Q)) W)
    (hlen : (P ++ (U ++ z :: Q)).length = len) (hP : P.length = a) (hU : a + U.length = m) (hm : m + 1 = b) (ham : a + 1 < m) (sU : Srt (ltC cfQm) U) :
    Calls Tryd.prog 66 #[.slice (some ⟨blk, 0, none⟩) len cap, .int .i64 a, .int .i64 m, .int .i64 b, .func (.func 36) #[] #[]] W fun e w' => e = .returned (.tuple #[]) ∧ SO encQm 5 T W0 B blk cap (P ++ (sortR (ltC cfQm) (U ++ [z]) ++ Q)) w' := by
  have hbl : b ≤ len := by rw [← hlen]; simp; omega
  have z0 : (m : Int) - (a : Int) = ((m - a : Nat) : Int) := by omega
  have z2 : IntKind.i64.wrap ((m - a : Nat) : Int) = ((m - a : Nat) : Int) := by rw [IntKind.wrap_i64]; omega
  have z3 : ¬ ((m - a : Nat) : Int) = 1 := by omega
  have z4 : (((m - a : Nat) : Int) == 1) = false := by simp; omega
  have z1 : (b : Int) - (m : Int) = 1 := by omega
  have hlm : ∀ n, (midL P U Q z n).length = len := fun n => by rw [midL_length, ← hlen]; simp; omega
  have hua : U.length = m - a := by omega
  have hso0 : SO encQm 5 T W0 B blk cap (midL P U Q z (m - a)) W := by unfold midL; rw [← hua, List.take_length, List.drop_length]; simpa using hso
  have gm : (midL P U Q z (m - a))[m]! = z := midL_at _ _ _ _ _ _ (by omega) (by omega)
  have gh : ∀ h, a ≤ h → h < m → (midL P U Q z (m - a))[h]! = U[h - a]! := by
    intro h h1 h2
    unfold midL
    rw [← hua, List.take_length, List.drop_length, List.nil_append, get_app2 _ _ _ _ (by omega) (by omega), hP]
  have HFIN : Hid (∀ i, a ≤ i → i ≤ m → (i = a ∨ ltC cfQm z U[i - 1 - a]! = false) → (i = m ∨ ltC cfQm z U[i - a]! = true) → midL P U Q z (i - a) = P ++ (sortR (ltC cfQm) (U ++ [z]) ++ Q)) := by
    intro i hi hib h1 h2
    have hcut : U.take (i - a) ++ U.drop (i - a) = U := List.take_append_drop _ _
    have hm := merge_right hO z (U.take (i - a)) (U.drop (i - a)) (by rw [hcut]; exact sU) (fun v hv => by
      obtain ⟨q, q1, q2, rfl⟩ := mem_drop_get hv
      rcases h2 with h2 | h2
      · omega
      · exact hO.lt_le h2 (sU.le hO (i - a) q q1 q2)) (fun v hv => by
      obtain ⟨q, q1, q2, rfl⟩ := mem_take_get hv
      rcases h1 with h1 | h1
      · omega
      · exact hO.neg _ _ _ (sU.le hO q (i - 1 - a) (by omega) (by omega)) h1)
    rw [hcut] at hm
    rw [hm]; unfold midL; simp
  have HL := Lib.hid hlm
  have HS := Lib.hid hso0
  have HGM := Lib.hid gm
  have HGH := Lib.hid gh
  have HP := Lib.hid hP
  have HUL := Lib.hid hua
  clear hso hlen hso0 gm gh sU hP hU hlm hua
  go_enter Tryd.func66, Tryd.ntmps66
  go_wp2
  go_loopg [14, 15, 16] (m - a) (fun gg s t u wr => ∃ i j, a ≤ i ∧ i ≤ j ∧ j ≤ m ∧ j - i ≤ gg ∧ s = .int .i64 (i : Nat) ∧ t = .int .i64 (j : Nat) ∧ Hid (SO encQm 5 T W0 B blk cap (midL P U Q z (m - a)) wr) ∧ Hid (i = a ∨ ltC cfQm z U[i - 1 - a]! = false) ∧ Hid (j = m ∨ ltC cfQm z U[j - a]! = true))
  case atStart => exact ⟨a, m, Nat.le_refl _, by omega, Nat.le_refl _, Nat.le_refl _, rfl, rfl, HS, Or.inl rfl, Or.inl rfl⟩
  case round =>
    obtain ⟨i, j, hmi, hij, hjb, hg, rfl, rfl, hS, hI1, hJ1⟩ := hrel
    by_cases hlt : i < j
    · have hltz : (i : Int) < (j : Int) := by omega
      obtain ⟨h, hh⟩ : ∃ h, (i + j) / 2 = h := ⟨_, rfl⟩
      have hhz : ((i : Int) + (j : Int)) / 2 = (h : Int) := by omega
      have hih : i ≤ h := by omega
      have hhj : h < j := by omega
      have hhl : (h : Int) < (len : Int) := by omega
      have haz : (m : Int) < (len : Int) := by omega
      obtain ⟨y, hy⟩ : ∃ y, U[h - a]! = y := ⟨_, rfl⟩
      have gx : (midL P U Q z (m - a))[h]! = y := (HGH.out h (by omega) (by omega)).trans hy
      have gy : (midL P U Q z (m - a))[m]! = z := HGM.out
      have HY := Lib.hid hy
      clear hh hy
      obtain ⟨v, hv⟩ : ∃ v, cfQm z y = v := ⟨_, rfl⟩
      have hcmp := fun w' => cmp_Quorum z y w'
      rw [hv] at hcmp
      have HV := Lib.hid hv
      clear hv
      obtain ⟨x1, x2, x3, x4, x5⟩ := z
      obtain ⟨y1, y2, y3, y4, y5⟩ := y
      simp only [avQm] at hcmp
      obtain ⟨cA, cB⟩ : (∀ r u, (encQm (midL P U Q _ (m - a))[h]!)[r]? = some u → World.cell? _ ⟨blk, (h) * 5 + r, none⟩ = some u) ∧ (∀ r u, (encQm (midL P U Q _ (m - a))[m]!)[r]? = some u → World.cell? _ ⟨blk, (m) * 5 + r, none⟩ = some u) := ⟨fun r u hu => (hS.out).cell (h) (by rw [HL.out]; omega) r u hu, fun r u hu => (hS.out).cell (m) (by rw [HL.out]; omega) r u hu⟩
      rw [gx] at cA
      rw [gy] at cB
      have cA0 := cA 0 _ rfl; have cA1 := cA 1 _ rfl; have cA2 := cA 2 _ rfl
      have cB0 := cB 0 _ rfl; have cB1 := cB 1 _ rfl; have cB2 := cB 2 _ rfl
      try have cA3 := cA 3 _ rfl; have cB3 := cB 3 _ rfl; have cA4 := cA 4 _ rfl; have cB4 := cB 4 _ rfl
      simp only [Nat.add_zero] at cA0 cB0
      clear cA cB
      have dA0 := fun p : Grows wr => Grows.cell cA0 p; have dA1 := fun p : Grows wr => Grows.cell cA1 p; have dA2 := fun p : Grows wr => Grows.cell cA2 p
      have dB0 := fun p : Grows wr => Grows.cell cB0 p; have dB1 := fun p : Grows wr => Grows.cell cB1 p; have dB2 := fun p : Grows wr => Grows.cell cB2 p
      try have dA3 := fun p : Grows wr => Grows.cell cA3 p; have dB3 := fun p : Grows wr => Grows.cell cB3 p; have dA4 := fun p : Grows wr => Grows.cell cA4 p; have dB4 := fun p : Grows wr => Grows.cell cB4 p
      clear cA0 cA1 cA2 cB0 cB1 cB2
      try clear cA3 cB3 cA4 cB4
      have HC := Lib.hid hcmp
      clear hcmp gx gy
      by_cases hlv : v < 0
      · go_wp2_with fail
        (refine wp_region_grows (by kernel_rfl) (by kernel_rfl) ?_; (repeat quiet_step ((go_at_call 36; exact Grows.call _ (HC.out _)))); refine wpQuiet_nil ?_; intro _ hw'; obtain ⟨gw, hw''⟩ := hw'; subst hw'')
        have hS2 := Lib.hid (hS.out.grow gw.h)
        generalize gw.w = w3 at *
        go_wp2
        go_roundg (h - i)
        case measure => omega
        case rel =>
          refine ⟨i, h, by omega, by omega, by omega, by omega, rfl, rfl, hS2, hI1, Or.inr ?_⟩
          rw [HY.out]; unfold ltC; rw [HV.out]; exact decide_eq_true hlv
      · go_wp2_with fail
        (refine wp_region_grows (by kernel_rfl) (by kernel_rfl) ?_; (repeat quiet_step ((go_at_call 36; exact Grows.call _ (HC.out _)))); refine wpQuiet_nil ?_; intro _ hw'; obtain ⟨gw, hw''⟩ := hw'; subst hw'')
        have hS2 := Lib.hid (hS.out.grow gw.h)
        generalize gw.w = w3 at *
        go_wp2
        go_roundg (j - (h + 1))
        case measure => omega
        case rel =>
          refine ⟨h + 1, j, by omega, by omega, by omega, by omega, by go_num, rfl, hS2, Or.inr ?_, hJ1⟩
          rw [show h + 1 - 1 - a = h - a by omega, HY.out]; unfold ltC; rw [HV.out]; simpa using hlv
        rename_i hbad
        exfalso; simp at hbad; omega
    · have hltz : ¬ (i : Int) < (j : Int) := by omega
      obtain rfl : i = j := by omega
      have HF : Hid (midL P U Q z (i - a) = P ++ (sortR (ltC cfQm) (U ++ [z]) ++ Q)) := HFIN.out i hmi hjb hI1.out hJ1.out
      have HS2 := hS
      clear hI1 hJ1 hS HFIN
      generalize wr = W2 at *
      go_wp2
      go_loopg [17] (m - i) (fun gg s wr => ∃ k, i ≤ k ∧ k ≤ m ∧ k - i ≤ gg ∧ s = .int .i64 (k : Nat) ∧ Hid (SO encQm 5 T W0 B blk cap (midL P U Q z (k - a)) wr))
      case atStart => exact ⟨m, hjb, Nat.le_refl _, Nat.le_refl _, rfl, HS2⟩
      case round =>
        clear HS2
        obtain ⟨k, hak, hki, hgk, rfl, hK⟩ := hrel
        by_cases hlt2 : i < k
        · obtain ⟨kp, rfl⟩ : ∃ kp, k = kp + 1 := ⟨k - 1, by omega⟩
          have hltz2 : (i : Int) < (kp : Int) + 1 := by omega
          have k1 : IntKind.i64.wrap (kp : Int) = (kp : Int) := by rw [IntKind.wrap_i64]; omega
          have k2 : (0 : Int) ≤ (kp : Int) + 1 := by omega
          have k3 : (kp : Int) + 1 < (len : Int) := by omega
          have k4 : (kp : Int) < (len : Int) := by omega
          have k5 : ((kp : Int) + 1).toNat = kp + 1 := by omega
          have hkV : kp - a < U.length := by have := HUL.out; omega
          have hK1 := hK.out
          rw [show kp + 1 - a = kp - a + 1 by omega] at hK1
          have hl1 : (midL P U Q z (kp - a + 1)).length = len := HL.out _
          have hsw := hK1.swapped len_Qm (kp + 1) kp (by rw [hl1]; omega) (by rw [hl1]; omega)
          have gx : (midL P U Q z (kp - a + 1))[kp + 1]! = z := midL_at _ _ _ _ _ _ (by omega) (by have := HP.out; omega)
          have gy : (midL P U Q z (kp - a + 1))[kp]! = U[kp - a]! := midL_before _ _ _ _ _ _ hkV (by have := HP.out; omega)
          have gs : swapL (midL P U Q z (kp - a + 1)) (kp + 1) kp = midL P U Q z (kp - a) := midL_step _ _ _ _ _ _ _ hkV (by have := HP.out; omega) (by have := HP.out; omega)
          rw [gs, gx, gy] at hsw
          have fz := fun o => hK1.frz o
          generalize hz' : midL P U Q z (kp - a) = lst2 at hsw
          have HZ := Lib.hid hz'
          clear hz' gs hK
          generalize U[kp - a]! = y at *
          generalize hl0 : midL P U Q z (kp - a + 1) = lst1 at *
          clear hl0 HGM HGH HF HL
          obtain ⟨x1, x2, x3, x4, x5⟩ := z
          obtain ⟨y1, y2, y3, y4, y5⟩ := y
          obtain ⟨cA, cB⟩ : (∀ r u, (encQm (lst1)[kp + 1]!)[r]? = some u → World.cell? _ ⟨blk, (kp + 1) * 5 + r, none⟩ = some u) ∧ (∀ r u, (encQm (lst1)[kp]!)[r]? = some u → World.cell? _ ⟨blk, (kp) * 5 + r, none⟩ = some u) := ⟨fun r u hu => (hK1).cell (kp + 1) (by omega) r u hu, fun r u hu => (hK1).cell (kp) (by omega) r u hu⟩
          rw [gx] at cA
          rw [gy] at cB
          have cA0 := cA 0 _ rfl; have cA1 := cA 1 _ rfl; have cA2 := cA 2 _ rfl
          have cB0 := cB 0 _ rfl; have cB1 := cB 1 _ rfl; have cB2 := cB 2 _ rfl
          try have cA3 := cA 3 _ rfl; have cB3 := cB 3 _ rfl; have cA4 := cA 4 _ rfl; have cB4 := cB 4 _ rfl
          simp only [Nat.add_zero] at cA0 cB0
          clear cA cB
          simp only [encQm, World.setCells] at hsw
          have HSW := Lib.hid hsw
          clear hsw gx gy hK1
          have n1 : (kp + 1) * 5 ≠ kp * 5 := by omega
          go_wp2_with fail
          go_big_region
          all_goals go_wp2
          go_roundg (kp - i)
          case measure => omega
          case rel =>
            refine ⟨kp, by omega, by omega, by omega, by go_num, ?_⟩
            rw [HZ.out]
            exact HSW.out.drew
        · obtain rfl : i = k := by omega
          have hltz2 : ¬ (i : Int) < (i : Int) := by omega
          have hfin := hK.out
          rw [HF.out] at hfin
          have HFI := Lib.hid hfin
          clear hfin hK
          go_wp2
          (try simp only [Exit.inBlock, Exit.then]); refine bodyPost_ret (results_none rfl _ _ _) rfl ?_
          exact ⟨rfl, HFI.out⟩
end Go.Proofs.YtemkffejekgmfaaDoor
