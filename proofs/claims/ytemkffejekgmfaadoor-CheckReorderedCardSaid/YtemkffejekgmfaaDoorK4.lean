/- slices.symMergeCmpFunc at the structs, where the left stretch is one element. -/
import Derived.Test.YtemkffejekgmfaaDoorL1
namespace Go.Proofs.YtemkffejekgmfaaDoor
open Go.RowKit Go.Shelf Go.Lib

theorem midL_up {α : Type} [Inhabited α] (P S R : List α) (x : α) (n i j : Nat) (h : n < S.length) (hi : i = P.length + n) (hj : j = P.length + n + 1) : swapL (midL P S R x n) i j = midL P S R x (n + 1) := by
  have e := midL_step P S R x n j i h hj hi
  have hc : ∀ (l : List α) (i j : Nat), i ≠ j → swapL l i j = swapL l j i := fun l i j hne => by
    unfold swapL; exact List.set_comm _ _ hne
  have h2 : ∀ l : List α, swapL (swapL l j i) i j = l ∨ ¬ (i < l.length ∧ j < l.length) := by
    intro l
    by_cases hl : i < l.length ∧ j < l.length
    · left
      refine List.ext_getElem (by simp [swapL_length]) fun q h1 h3 => ?_
      have := swapL_get (swapL l j i) i j q (by rw [swapL_length]; exact hl.1) (by rw [swapL_length]; exact hl.2)
      rw [swapL_get l j i i hl.2 hl.1, swapL_get l j i j hl.2 hl.1, swapL_get l j i q hl.2 hl.1] at this
      have a1 : (swapL (swapL l j i) i j)[q] = (swapL (swapL l j i) i j)[q]! := by simp [h1]
      have a2 : l[q] = l[q]! := by simp [h3]
      rw [a1, a2, this]
      have hne : i ≠ j := by omega
      by_cases q1 : q = j
      · subst q1; simp
      · by_cases q2 : q = i
        · subst q2; simp [q1, Ne.symm q1]
        · simp [q1, q2]
    · right; exact hl
  rcases h2 (midL P S R x (n + 1)) with h3 | h3
  · rw [← e]; exact h3
  · exfalso; apply h3; rw [midL_length]; omega
theorem midL_next {α : Type} [Inhabited α] (P S R : List α) (x : α) (n j : Nat) (h : n < S.length) (hj : j = P.length + n + 1) : (midL P S R x n)[j]! = S[n]! := by
  unfold midL
  rw [drop_cons S n h]
  have : P ++ (List.take n S ++ x :: (S[n]! :: List.drop (n + 1) S ++ R)) = (P ++ (List.take n S ++ [x])) ++ S[n]! :: (List.drop (n + 1) S ++ R) := by simp
  rw [this]
  exact get_mid _ _ _ _ (by simp; omega)
theorem get_app2 {α : Type} [Inhabited α] (P V Q : List α) (n : Nat) (h1 : P.length ≤ n) (h2 : n - P.length < V.length) : (P ++ (V ++ Q))[n]! = V[n - P.length]! := by
  simp only [List.getElem!_eq_getElem?_getD]
  rw [List.getElem?_append_right h1, List.getElem?_append_left h2]

set_option maxRecDepth 100000 in
set_option maxHeartbeats 4000000 in
theorem symMergeL_Rule (hO : Ord (ltC cfRl)) (T : TypeId) (W0 : World) (B blk cap len : Nat) (hc : len ≤ 140737488355328) (a m b : Nat) (P V Q : List Rl) (z : Rl) (W : World) (hso : SO encRl 3 T W0 B blk cap (P ++ (z :: V ++ Q)) W)
    (hlen : (P ++ (z :: V ++ Q)).length = len) (hP : P.length = a) (hm : a + 1 = m) (hV : m + V.length = b) (hmb : m < b) (sV : Srt (ltC cfRl) V) :
    Calls Tryd.prog 64 #[.slice (some ⟨blk, 0, none⟩) len cap, .int .i64 a, .int .i64 m, .int .i64 b, .func (.func 32) #[] #[]] W fun e w' => e = .returned (.tuple #[]) ∧ SO encRl 3 T W0 B blk cap (P ++ (sortR (ltC cfRl) (z :: V) ++ Q)) w' := by
  have hbl : b ≤ len := by rw [← hlen]; simp; omega
  have z1 : (m : Int) - (a : Int) = 1 := by omega
  have hlm : ∀ n, (midL P V Q z n).length = len := fun n => by rw [midL_length, ← hlen]; simp; omega
  have hso0 : SO encRl 3 T W0 B blk cap (midL P V Q z 0) W := by unfold midL; simpa using hso
  have ga : (midL P V Q z 0)[a]! = z := midL_at _ _ _ _ _ _ (Nat.zero_le _) (by omega)
  have gh : ∀ h, m ≤ h → h < b → (midL P V Q z 0)[h]! = V[h - m]! := by
    intro h h1 h2
    unfold midL
    rw [List.take_zero, List.nil_append, List.drop_zero, show P ++ z :: (V ++ Q) = (P ++ [z]) ++ (V ++ Q) by simp, get_app2 _ _ _ _ (by simp; omega) (by simp; omega)]
    simp [show h - (P.length + 1) = h - m by omega]
  have HFIN : Hid (∀ i, m ≤ i → i ≤ b → (i = m ∨ ltC cfRl V[i - 1 - m]! z = true) → (i = b ∨ ltC cfRl V[i - m]! z = false) → midL P V Q z (i - m) = P ++ (sortR (ltC cfRl) (z :: V) ++ Q)) := by
    intro i hi hib h1 h2
    have hcut : V.take (i - m) ++ V.drop (i - m) = V := List.take_append_drop _ _
    have hm := merge_left hO z (V.take (i - m)) (V.drop (i - m)) (by rw [hcut]; exact sV) (fun v hv => by
      obtain ⟨q, q1, q2, rfl⟩ := mem_take_get hv
      rcases h1 with h1 | h1
      · omega
      · exact hO.le_lt (sV.le hO q (i - 1 - m) (by omega) (by omega)) h1) (fun v hv => by
      obtain ⟨q, q1, q2, rfl⟩ := mem_drop_get hv
      rcases h2 with h2 | h2
      · omega
      · exact hO.neg _ _ _ h2 (sV.le hO (i - m) q q1 q2))
    rw [hcut] at hm
    rw [hm]; unfold midL; simp
  have HL := Lib.hid hlm
  have HS := Lib.hid hso0
  have HGA := Lib.hid ga
  have HGH := Lib.hid gh
  have SV := Lib.hid sV
  have HP := Lib.hid hP
  have HVL := Lib.hid hV
  clear hso hlen hso0 ga gh sV hP hV hlm
  go_enter Tryd.func64, Tryd.ntmps64
  go_wp2
  go_loopg [10, 11, 12] (b - m) (fun gg s t u wr => ∃ i j, m ≤ i ∧ i ≤ j ∧ j ≤ b ∧ j - i ≤ gg ∧ s = .int .i64 (i : Nat) ∧ t = .int .i64 (j : Nat) ∧ Hid (SO encRl 3 T W0 B blk cap (midL P V Q z 0) wr) ∧ Hid (i = m ∨ ltC cfRl V[i - 1 - m]! z = true) ∧ Hid (j = b ∨ ltC cfRl V[j - m]! z = false))
  case atStart => exact ⟨m, b, Nat.le_refl _, by omega, Nat.le_refl _, Nat.le_refl _, rfl, rfl, HS, Or.inl rfl, Or.inl rfl⟩
  case round =>
    obtain ⟨i, j, hmi, hij, hjb, hg, rfl, rfl, hS, hI1, hJ1⟩ := hrel
    by_cases hlt : i < j
    · have hltz : (i : Int) < (j : Int) := by omega
      obtain ⟨h, hh⟩ : ∃ h, (i + j) / 2 = h := ⟨_, rfl⟩
      have hhz : ((i : Int) + (j : Int)) / 2 = (h : Int) := by omega
      have hih : i ≤ h := by omega
      have hhj : h < j := by omega
      have hhl : (h : Int) < (len : Int) := by omega
      have haz : (a : Int) < (len : Int) := by omega
      obtain ⟨y, hy⟩ : ∃ y, V[h - m]! = y := ⟨_, rfl⟩
      have gx : (midL P V Q z 0)[h]! = y := (HGH.out h (by omega) (by omega)).trans hy
      have gy : (midL P V Q z 0)[a]! = z := HGA.out
      have HY := Lib.hid hy
      clear hh hy
      obtain ⟨v, hv⟩ : ∃ v, cfRl y z = v := ⟨_, rfl⟩
      have hcmp := fun w' => cmp_Rule y z w'
      rw [hv] at hcmp
      have HV := Lib.hid hv
      clear hv
      obtain ⟨x1, x2, x3⟩ := z
      obtain ⟨y1, y2, y3⟩ := y
      simp only [avRl] at hcmp
      obtain ⟨cA, cB⟩ : (∀ r u, (encRl (midL P V Q _ 0)[h]!)[r]? = some u → World.cell? _ ⟨blk, (h) * 3 + r, none⟩ = some u) ∧ (∀ r u, (encRl (midL P V Q _ 0)[a]!)[r]? = some u → World.cell? _ ⟨blk, (a) * 3 + r, none⟩ = some u) := ⟨fun r u hu => (hS.out).cell (h) (by rw [HL.out]; omega) r u hu, fun r u hu => (hS.out).cell (a) (by rw [HL.out]; omega) r u hu⟩
      rw [gx] at cA
      rw [gy] at cB
      have cA0 := cA 0 _ rfl; have cA1 := cA 1 _ rfl; have cA2 := cA 2 _ rfl
      have cB0 := cB 0 _ rfl; have cB1 := cB 1 _ rfl; have cB2 := cB 2 _ rfl
      try have cA3 := cA 3 _ rfl; have cB3 := cB 3 _ rfl; have cA4 := cA 4 _ rfl; have cB4 := cB 4 _ rfl
      simp only [Nat.add_zero] at cA0 cB0
      clear cA cB
      have dA0 := fun p : Grows wr => Grows.cell cA0 p; have dA1 := fun p : Grows wr => Grows.cell cA1 p; have dA2 := fun p : Grows wr => Grows.cell cA2 p
      have dB0 := fun p : Grows wr => Grows.cell cB0 p; have dB1 := fun p : Grows wr => Grows.cell cB1 p; have dB2 := fun p : Grows wr => Grows.cell cB2 p
      try have dA3 := fun p : Grows wr => Grows.cell cA3 p; have dB3 := fun p : Grows wr => Grows.cell cB3 p; have dA4 := fun p : Grows wr => Grows.cell cA4 p; have dB4 := fun p : Grows wr => Grows.cell cB4 p
      clear cA0 cA1 cA2 cB0 cB1 cB2
      try clear cA3 cB3 cA4 cB4
      have HC := Lib.hid hcmp
      clear hcmp gx gy
      by_cases hlv : v < 0
      · go_wp2_with fail
        (refine wp_region_grows (by kernel_rfl) (by kernel_rfl) ?_; (repeat quiet_step ((go_at_call 32; exact Grows.call _ (HC.out _)))); refine wpQuiet_nil ?_; intro _ hw'; obtain ⟨gw, hw''⟩ := hw'; subst hw'')
        have hS2 := Lib.hid (hS.out.grow gw.h)
        generalize gw.w = w3 at *
        go_wp2
        go_roundg (j - (h + 1))
        case measure => omega
        case rel =>
          refine ⟨h + 1, j, by omega, by omega, by omega, by omega, by go_num, rfl, hS2, Or.inr ?_, hJ1⟩
          rw [show h + 1 - 1 - m = h - m by omega, HY.out]; unfold ltC; rw [HV.out]; exact decide_eq_true hlv
      · go_wp2_with fail
        (refine wp_region_grows (by kernel_rfl) (by kernel_rfl) ?_; (repeat quiet_step ((go_at_call 32; exact Grows.call _ (HC.out _)))); refine wpQuiet_nil ?_; intro _ hw'; obtain ⟨gw, hw''⟩ := hw'; subst hw'')
        have hS2 := Lib.hid (hS.out.grow gw.h)
        generalize gw.w = w3 at *
        go_wp2
        go_roundg (h - i)
        case measure => omega
        case rel =>
          refine ⟨i, h, by omega, by omega, by omega, by omega, rfl, rfl, hS2, hI1, Or.inr ?_⟩
          rw [HY.out]; unfold ltC; rw [HV.out]; simpa using hlv
    · have hltz : ¬ (i : Int) < (j : Int) := by omega
      obtain rfl : i = j := by omega
      have HF : Hid (midL P V Q z (i - m) = P ++ (sortR (ltC cfRl) (z :: V) ++ Q)) := HFIN.out i hmi hjb hI1.out hJ1.out
      have HS2 := hS
      clear hI1 hJ1 hS HFIN
      generalize wr = W2 at *
      go_wp2
      go_loopg [13] (i - m) (fun gg s wr => ∃ k, a ≤ k ∧ k + 1 ≤ i ∧ i - 1 - k ≤ gg ∧ s = .int .i64 (k : Nat) ∧ Hid (SO encRl 3 T W0 B blk cap (midL P V Q z (k - a)) wr))
      case atStart => exact ⟨a, Nat.le_refl _, by omega, by omega, rfl, by rw [Nat.sub_self]; exact HS2⟩
      case round =>
        clear HS2
        obtain ⟨k, hak, hki, hgk, rfl, hK⟩ := hrel
        have i1 : IntKind.i64.wrap ((i : Int) - 1) = (i : Int) - 1 := by rw [IntKind.wrap_i64]; omega
        by_cases hlt2 : k + 1 < i
        · have hltz2 : (k : Int) < (i : Int) - 1 := by omega
          have k1 : IntKind.i64.wrap ((k : Int) + 1) = (k : Int) + 1 := by rw [IntKind.wrap_i64]; omega
          have k2 : (0 : Int) ≤ (k : Int) + 1 := by omega
          have k3 : (k : Int) + 1 < (len : Int) := by omega
          have k4 : (k : Int) < (len : Int) := by omega
          have k5 : ((k : Int) + 1).toNat = k + 1 := by omega
          have hkV : k - a < V.length := by have := HVL.out; omega
          have hsw := hK.out.swapped len_Rl k (k + 1) (by rw [HL.out]; omega) (by rw [HL.out]; omega)
          have gx : (midL P V Q z (k - a))[k]! = z := midL_at _ _ _ _ _ _ (by omega) (by have := HP.out; omega)
          have gy : (midL P V Q z (k - a))[k + 1]! = V[k - a]! := midL_next _ _ _ _ _ _ hkV (by have := HP.out; omega)
          have gs : swapL (midL P V Q z (k - a)) k (k + 1) = midL P V Q z (k + 1 - a) := by
            rw [show k + 1 - a = k - a + 1 by omega]
            exact midL_up _ _ _ _ _ _ _ hkV (by have := HP.out; omega) (by have := HP.out; omega)
          rw [gs, gx, gy] at hsw
          have fz := fun o => hK.out.frz o
          have HQ : Hid (∀ w', SO encRl 3 T W0 B blk cap (midL P V Q z (k + 1 - a)) w' → Hid (SO encRl 3 T W0 B blk cap (midL P V Q z (k + 1 - a)) w')) := fun _ h => h
          generalize hz' : midL P V Q z (k + 1 - a) = lst2 at hsw HQ
          have HZ := Lib.hid hz'
          clear hz' gs
          generalize V[k - a]! = y at *
          have hK' := hK.out
          generalize hl1 : midL P V Q z (k - a) = lst1 at *
          have hlen1 : lst1.length = len := by rw [← hl1]; exact HL.out _
          clear hl1 HGA HGH HF HL
          obtain ⟨x1, x2, x3⟩ := z
          obtain ⟨y1, y2, y3⟩ := y
          obtain ⟨cA, cB⟩ : (∀ r u, (encRl (lst1)[k]!)[r]? = some u → World.cell? _ ⟨blk, (k) * 3 + r, none⟩ = some u) ∧ (∀ r u, (encRl (lst1)[k + 1]!)[r]? = some u → World.cell? _ ⟨blk, (k + 1) * 3 + r, none⟩ = some u) := ⟨fun r u hu => (hK').cell (k) (by omega) r u hu, fun r u hu => (hK').cell (k + 1) (by omega) r u hu⟩
          rw [gx] at cA
          rw [gy] at cB
          have cA0 := cA 0 _ rfl; have cA1 := cA 1 _ rfl; have cA2 := cA 2 _ rfl
          have cB0 := cB 0 _ rfl; have cB1 := cB 1 _ rfl; have cB2 := cB 2 _ rfl
          try have cA3 := cA 3 _ rfl; have cB3 := cB 3 _ rfl; have cA4 := cA 4 _ rfl; have cB4 := cB 4 _ rfl
          simp only [Nat.add_zero] at cA0 cB0
          clear cA cB
          simp only [encRl, World.setCells] at hsw
          have HSW := Lib.hid hsw
          clear hsw gx gy hK hK'
          have n1 : k * 3 ≠ (k + 1) * 3 := by omega
          go_wp2_with fail
          go_big_region
          all_goals go_wp2
          go_roundg (i - 1 - (k + 1))
          case measure => omega
          case rel =>
            refine ⟨k + 1, by omega, by omega, by omega, by go_num, ?_⟩
            rw [HZ.out]
            exact HSW.out.drew
        · have hltz2 : ¬ (k : Int) < (i : Int) - 1 := by omega
          have hfin := hK.out
          rw [show k - a = i - m by omega, HF.out] at hfin
          have HFI := Lib.hid hfin
          clear hfin hK
          go_wp2
          (try simp only [Exit.inBlock, Exit.then]); refine bodyPost_ret (results_none rfl _ _ _) rfl ?_
          exact ⟨rfl, HFI.out⟩
set_option maxRecDepth 100000 in
set_option maxHeartbeats 4000000 in
theorem symMergeL_Quorum (hO : Ord (ltC cfQm)) (T : TypeId) (W0 : World) (B blk cap len : Nat) (hc : len ≤ 140737488355328) (a m b : Nat) (P V Q : List Qm) (z : Qm) (W : World) (hso : SO encQm 5 T W0 B blk cap (P ++ (z :: V ++ Q)) W)
    (hlen : (P ++ (z :: V ++ Q)).length = len) (hP : P.length = a) (hm : a + 1 = m) (hV : m + V.length = b) (hmb : m < b) (sV : Srt (ltC cfQm) V) :
    Calls Tryd.prog 66 #[.slice (some ⟨blk, 0, none⟩) len cap, .int .i64 a, .int .i64 m, .int .i64 b, .func (.func 36) #[] #[]] W fun e w' => e = .returned (.tuple #[]) ∧ SO encQm 5 T W0 B blk cap (P ++ (sortR (ltC cfQm) (z :: V) ++ Q)) w' := by
  have hbl : b ≤ len := by rw [← hlen]; simp; omega
  have z1 : (m : Int) - (a : Int) = 1 := by omega
  have hlm : ∀ n, (midL P V Q z n).length = len := fun n => by rw [midL_length, ← hlen]; simp; omega
  have hso0 : SO encQm 5 T W0 B blk cap (midL P V Q z 0) W := by unfold midL; simpa using hso
  have ga : (midL P V Q z 0)[a]! = z := midL_at _ _ _ _ _ _ (Nat.zero_le _) (by omega)
  have gh : ∀ h, m ≤ h → h < b → (midL P V Q z 0)[h]! = V[h - m]! := by
    intro h h1 h2
    unfold midL
    rw [List.take_zero, List.nil_append, List.drop_zero, show P ++ z :: (V ++ Q) = (P ++ [z]) ++ (V ++ Q) by simp, get_app2 _ _ _ _ (by simp; omega) (by simp; omega)]
    simp [show h - (P.length + 1) = h - m by omega]
  have HFIN : Hid (∀ i, m ≤ i → i ≤ b → (i = m ∨ ltC cfQm V[i - 1 - m]! z = true) → (i = b ∨ ltC cfQm V[i - m]! z = false) → midL P V Q z (i - m) = P ++ (sortR (ltC cfQm) (z :: V) ++ Q)) := by
    intro i hi hib h1 h2
    have hcut : V.take (i - m) ++ V.drop (i - m) = V := List.take_append_drop _ _
    have hm := merge_left hO z (V.take (i - m)) (V.drop (i - m)) (by rw [hcut]; exact sV) (fun v hv => by
      obtain ⟨q, q1, q2, rfl⟩ := mem_take_get hv
      rcases h1 with h1 | h1
      · omega
      · exact hO.le_lt (sV.le hO q (i - 1 - m) (by omega) (by omega)) h1) (fun v hv => by
      obtain ⟨q, q1, q2, rfl⟩ := mem_drop_get hv
      rcases h2 with h2 | h2
      · omega
      · exact hO.neg _ _ _ h2 (sV.le hO (i - m) q q1 q2))
    rw [hcut] at hm
    rw [hm]; unfold midL; simp
  have HL := Lib.hid hlm
  have HS := Lib.hid hso0
  have HGA := Lib.hid ga
  have HGH := Lib.hid gh
  have SV := Lib.hid sV
  have HP := Lib.hid hP
  have HVL := Lib.hid hV
  clear hso hlen hso0 ga gh sV hP hV hlm
  go_enter Tryd.func66, Tryd.ntmps66
  go_wp2
  go_loopg [10, 11, 12] (b - m) (fun gg s t u wr => ∃ i j, m ≤ i ∧ i ≤ j ∧ j ≤ b ∧ j - i ≤ gg ∧ s = .int .i64 (i : Nat) ∧ t = .int .i64 (j : Nat) ∧ Hid (SO encQm 5 T W0 B blk cap (midL P V Q z 0) wr) ∧ Hid (i = m ∨ ltC cfQm V[i - 1 - m]! z = true) ∧ Hid (j = b ∨ ltC cfQm V[j - m]! z = false))
  case atStart => exact ⟨m, b, Nat.le_refl _, by omega, Nat.le_refl _, Nat.le_refl _, rfl, rfl, HS, Or.inl rfl, Or.inl rfl⟩
  case round =>
    obtain ⟨i, j, hmi, hij, hjb, hg, rfl, rfl, hS, hI1, hJ1⟩ := hrel
    by_cases hlt : i < j
    · have hltz : (i : Int) < (j : Int) := by omega
      obtain ⟨h, hh⟩ : ∃ h, (i + j) / 2 = h := ⟨_, rfl⟩
      have hhz : ((i : Int) + (j : Int)) / 2 = (h : Int) := by omega
      have hih : i ≤ h := by omega
      have hhj : h < j := by omega
      have hhl : (h : Int) < (len : Int) := by omega
      have haz : (a : Int) < (len : Int) := by omega
      obtain ⟨y, hy⟩ : ∃ y, V[h - m]! = y := ⟨_, rfl⟩
      have gx : (midL P V Q z 0)[h]! = y := (HGH.out h (by omega) (by omega)).trans hy
      have gy : (midL P V Q z 0)[a]! = z := HGA.out
      have HY := Lib.hid hy
      clear hh hy
      obtain ⟨v, hv⟩ : ∃ v, cfQm y z = v := ⟨_, rfl⟩
      have hcmp := fun w' => cmp_Quorum y z w'
      rw [hv] at hcmp
      have HV := Lib.hid hv
      clear hv
      obtain ⟨x1, x2, x3, x4, x5⟩ := z
      obtain ⟨y1, y2, y3, y4, y5⟩ := y
      simp only [avQm] at hcmp
      obtain ⟨cA, cB⟩ : (∀ r u, (encQm (midL P V Q _ 0)[h]!)[r]? = some u → World.cell? _ ⟨blk, (h) * 5 + r, none⟩ = some u) ∧ (∀ r u, (encQm (midL P V Q _ 0)[a]!)[r]? = some u → World.cell? _ ⟨blk, (a) * 5 + r, none⟩ = some u) := ⟨fun r u hu => (hS.out).cell (h) (by rw [HL.out]; omega) r u hu, fun r u hu => (hS.out).cell (a) (by rw [HL.out]; omega) r u hu⟩
      rw [gx] at cA
      rw [gy] at cB
      have cA0 := cA 0 _ rfl; have cA1 := cA 1 _ rfl; have cA2 := cA 2 _ rfl
      have cB0 := cB 0 _ rfl; have cB1 := cB 1 _ rfl; have cB2 := cB 2 _ rfl
      try have cA3 := cA 3 _ rfl; have cB3 := cB 3 _ rfl; have cA4 := cA 4 _ rfl; have cB4 := cB 4 _ rfl
      simp only [Nat.add_zero] at cA0 cB0
      clear cA cB
      have dA0 := fun p : Grows wr => Grows.cell cA0 p; have dA1 := fun p : Grows wr => Grows.cell cA1 p; have dA2 := fun p : Grows wr => Grows.cell cA2 p
      have dB0 := fun p : Grows wr => Grows.cell cB0 p; have dB1 := fun p : Grows wr => Grows.cell cB1 p; have dB2 := fun p : Grows wr => Grows.cell cB2 p
      try have dA3 := fun p : Grows wr => Grows.cell cA3 p; have dB3 := fun p : Grows wr => Grows.cell cB3 p; have dA4 := fun p : Grows wr => Grows.cell cA4 p; have dB4 := fun p : Grows wr => Grows.cell cB4 p
      clear cA0 cA1 cA2 cB0 cB1 cB2
      try clear cA3 cB3 cA4 cB4
      have HC := Lib.hid hcmp
      clear hcmp gx gy
      by_cases hlv : v < 0
      · go_wp2_with fail
        (refine wp_region_grows (by kernel_rfl) (by kernel_rfl) ?_; (repeat quiet_step ((go_at_call 36; exact Grows.call _ (HC.out _)))); refine wpQuiet_nil ?_; intro _ hw'; obtain ⟨gw, hw''⟩ := hw'; subst hw'')
        have hS2 := Lib.hid (hS.out.grow gw.h)
        generalize gw.w = w3 at *
        go_wp2
        go_roundg (j - (h + 1))
        case measure => omega
        case rel =>
          refine ⟨h + 1, j, by omega, by omega, by omega, by omega, by go_num, rfl, hS2, Or.inr ?_, hJ1⟩
          rw [show h + 1 - 1 - m = h - m by omega, HY.out]; unfold ltC; rw [HV.out]; exact decide_eq_true hlv
      · go_wp2_with fail
        (refine wp_region_grows (by kernel_rfl) (by kernel_rfl) ?_; (repeat quiet_step ((go_at_call 36; exact Grows.call _ (HC.out _)))); refine wpQuiet_nil ?_; intro _ hw'; obtain ⟨gw, hw''⟩ := hw'; subst hw'')
        have hS2 := Lib.hid (hS.out.grow gw.h)
        generalize gw.w = w3 at *
        go_wp2
        go_roundg (h - i)
        case measure => omega
        case rel =>
          refine ⟨i, h, by omega, by omega, by omega, by omega, rfl, rfl, hS2, hI1, Or.inr ?_⟩
          rw [HY.out]; unfold ltC; rw [HV.out]; simpa using hlv
    · have hltz : ¬ (i : Int) < (j : Int) := by omega
      obtain rfl : i = j := by omega
      have HF : Hid (midL P V Q z (i - m) = P ++ (sortR (ltC cfQm) (z :: V) ++ Q)) := HFIN.out i hmi hjb hI1.out hJ1.out
      have HS2 := hS
      clear hI1 hJ1 hS HFIN
      generalize wr = W2 at *
      go_wp2
      go_loopg [13] (i - m) (fun gg s wr => ∃ k, a ≤ k ∧ k + 1 ≤ i ∧ i - 1 - k ≤ gg ∧ s = .int .i64 (k : Nat) ∧ Hid (SO encQm 5 T W0 B blk cap (midL P V Q z (k - a)) wr))
      case atStart => exact ⟨a, Nat.le_refl _, by omega, by omega, rfl, by rw [Nat.sub_self]; exact HS2⟩
      case round =>
        clear HS2
        obtain ⟨k, hak, hki, hgk, rfl, hK⟩ := hrel
        have i1 : IntKind.i64.wrap ((i : Int) - 1) = (i : Int) - 1 := by rw [IntKind.wrap_i64]; omega
        by_cases hlt2 : k + 1 < i
        · have hltz2 : (k : Int) < (i : Int) - 1 := by omega
          have k1 : IntKind.i64.wrap ((k : Int) + 1) = (k : Int) + 1 := by rw [IntKind.wrap_i64]; omega
          have k2 : (0 : Int) ≤ (k : Int) + 1 := by omega
          have k3 : (k : Int) + 1 < (len : Int) := by omega
          have k4 : (k : Int) < (len : Int) := by omega
          have k5 : ((k : Int) + 1).toNat = k + 1 := by omega
          have hkV : k - a < V.length := by have := HVL.out; omega
          have hsw := hK.out.swapped len_Qm k (k + 1) (by rw [HL.out]; omega) (by rw [HL.out]; omega)
          have gx : (midL P V Q z (k - a))[k]! = z := midL_at _ _ _ _ _ _ (by omega) (by have := HP.out; omega)
          have gy : (midL P V Q z (k - a))[k + 1]! = V[k - a]! := midL_next _ _ _ _ _ _ hkV (by have := HP.out; omega)
          have gs : swapL (midL P V Q z (k - a)) k (k + 1) = midL P V Q z (k + 1 - a) := by
            rw [show k + 1 - a = k - a + 1 by omega]
            exact midL_up _ _ _ _ _ _ _ hkV (by have := HP.out; omega) (by have := HP.out; omega)
          rw [gs, gx, gy] at hsw
          have fz := fun o => hK.out.frz o
          have HQ : Hid (∀ w', SO encQm 5 T W0 B blk cap (midL P V Q z (k + 1 - a)) w' → Hid (SO encQm 5 T W0 B blk cap (midL P V Q z (k + 1 - a)) w')) := fun _ h => h
          generalize hz' : midL P V Q z (k + 1 - a) = lst2 at hsw HQ
          have HZ := Lib.hid hz'
          clear hz' gs
          generalize V[k - a]! = y at *
          have hK' := hK.out
          generalize hl1 : midL P V Q z (k - a) = lst1 at *
          have hlen1 : lst1.length = len := by rw [← hl1]; exact HL.out _
          clear hl1 HGA HGH HF HL
          obtain ⟨x1, x2, x3, x4, x5⟩ := z
          obtain ⟨y1, y2, y3, y4, y5⟩ := y
          obtain ⟨cA, cB⟩ : (∀ r u, (encQm (lst1)[k]!)[r]? = some u → World.cell? _ ⟨blk, (k) * 5 + r, none⟩ = some u) ∧ (∀ r u, (encQm (lst1)[k + 1]!)[r]? = some u → World.cell? _ ⟨blk, (k + 1) * 5 + r, none⟩ = some u) := ⟨fun r u hu => (hK').cell (k) (by omega) r u hu, fun r u hu => (hK').cell (k + 1) (by omega) r u hu⟩
          rw [gx] at cA
          rw [gy] at cB
          have cA0 := cA 0 _ rfl; have cA1 := cA 1 _ rfl; have cA2 := cA 2 _ rfl
          have cB0 := cB 0 _ rfl; have cB1 := cB 1 _ rfl; have cB2 := cB 2 _ rfl
          try have cA3 := cA 3 _ rfl; have cB3 := cB 3 _ rfl; have cA4 := cA 4 _ rfl; have cB4 := cB 4 _ rfl
          simp only [Nat.add_zero] at cA0 cB0
          clear cA cB
          simp only [encQm, World.setCells] at hsw
          have HSW := Lib.hid hsw
          clear hsw gx gy hK hK'
          have n1 : k * 5 ≠ (k + 1) * 5 := by omega
          go_wp2_with fail
          go_big_region
          all_goals go_wp2
          go_roundg (i - 1 - (k + 1))
          case measure => omega
          case rel =>
            refine ⟨k + 1, by omega, by omega, by omega, by go_num, ?_⟩
            rw [HZ.out]
            exact HSW.out.drew
        · have hltz2 : ¬ (k : Int) < (i : Int) - 1 := by omega
          have hfin := hK.out
          rw [show k - a = i - m by omega, HF.out] at hfin
          have HFI := Lib.hid hfin
          clear hfin hK
          go_wp2
          (try simp only [Exit.inBlock, Exit.then]); refine bodyPost_ret (results_none rfl _ _ _) rfl ?_
          exact ⟨rfl, HFI.out⟩
end Go.Proofs.YtemkffejekgmfaaDoor
