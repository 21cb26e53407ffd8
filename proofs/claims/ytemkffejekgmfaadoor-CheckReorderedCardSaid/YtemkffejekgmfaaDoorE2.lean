/- slices.Equal at the structs; slices.Index, slices.Contains at api.Rule and at int. -/
import Derived.Test.YtemkffejekgmfaaDoorE1
namespace Go.Proofs.YtemkffejekgmfaaDoor
open Go.RowKit Go.Shelf Go.Lib

theorem list_ext_getElem! {α : Type} [Inhabited α] {xs ys : List α} (hl : xs.length = ys.length) (h : ∀ j, j < xs.length → xs[j]! = ys[j]!) : xs = ys := by
  apply List.ext_getElem hl
  intro j h1 h2
  have := h j h1
  rwa [getElem!_pos xs j h1, getElem!_pos ys j h2] at this

set_option maxHeartbeats 1000000 in
theorem equal_Type (A1 : Option Addr) (k1 : Nat) (xs : List Ty) (A2 : Option Addr) (k2 : Nat) (ys : List Ty) (w : World) (hx : RS encTy 3 w A1 xs) (hy : RS encTy 3 w A2 ys) :
    Calls Tryd.prog 38 #[.slice A1 xs.length k1, .slice A2 ys.length k2] w fun e w' => e = .returned (.bool (decide (xs = ys))) ∧ Below w.heap.size w w' := by
  have hl1 := hx.1
  have hl2 := hy.1
  by_cases hlen : xs.length = ys.length
  · have hr1 : ∀ (W : World), Below w.heap.size w W → ∀ j, j < xs.length → _ := fun W hW j hj => hx.at hW j hj
    have hr2 : ∀ (W : World), Below w.heap.size w W → ∀ j, j < xs.length → _ := fun W hW j hj => hy.at hW j (by omega)
    rw [← hlen]
    have HL : Hid (xs.length = ys.length) := hlen
    clear hx hy hlen hl2
    generalize hn : xs.length = n at *
    have Hn : Hid (xs.length = n) := hn
    clear hn
    go_enter Tryd.func38, Tryd.ntmps38
    go_wp2
    go_loopg [5, 13] n (fun gg _ s8 wr => ∃ kk : Nat, kk ≤ n ∧ n - kk ≤ gg ∧ s8 = .int .i64 kk ∧ Hid (Below w.heap.size w wr) ∧ Hid (∀ j, j < kk → xs[j]! = ys[j]!))
    case atStart => exact ⟨0, Nat.zero_le _, by omega, rfl, Below.refl _ w, fun j hj => absurd hj (Nat.not_lt_zero _)⟩
    case round =>
      obtain ⟨kk, hkk, hg, rfl, BW, HA⟩ := hrel
      by_cases hlt : kk < n
      · have hltz : (kk : Int) < (n : Int) := by omega
        have hkz : (0 : Int) ≤ (kk : Int) := by omega
        obtain ⟨b1, o1, rfl, hb1, hc1⟩ := hr1 wr BW.out kk (by omega)
        obtain ⟨b2, o2, rfl, hb2, hc2⟩ := hr2 wr BW.out kk (by omega)
        clear hr1 hr2
        generalize hxk : xs[kk]! = x at hc1
        generalize hyk : ys[kk]! = y at hc2
        have HX : Hid (xs[kk]! = x) := hxk
        have HY : Hid (ys[kk]! = y) := hyk
        clear hxk hyk
        have hneq := neq_Ty x y
        have hgd := guard_Ty .neq
        simp only [avTy] at hneq hgd
        have c0 := hc1 0 _ rfl; have c1 := hc1 1 _ rfl; have c2 := hc1 2 _ rfl; simp only [Nat.add_zero] at c0; clear hc1
        have d0 := hc2 0 _ rfl; have d1 := hc2 1 _ rfl; have d2 := hc2 2 _ rfl; simp only [Nat.add_zero] at d0; clear hc2
        by_cases hq : x = y
        · have HQ : Hid (x = y) := hq
          have hd : decide (x = y) = true := by simp [hq]
          rw [hd] at hneq
          clear hq hd
          go_wp2_with fail
          go_quiet (fail)
          go_wp2
          go_roundg (n - (kk + 1))
          case measure => omega
          case rel =>
            refine ⟨kk + 1, by omega, by omega, by go_num, below_drewN BW.out _, (show Hid _ from fun j hj => ?_)⟩
            by_cases e : j = kk
            · subst e; rw [HX.out, HY.out]; exact HQ.out
            · exact HA.out j (by omega)
        · have HQ : Hid (¬ x = y) := hq
          have hd : decide (x = y) = false := by simp [hq]
          rw [hd] at hneq
          clear hq hd
          go_wp2_with fail
          go_quiet (fail)
          go_wp2
          go_ret
          refine ⟨?_, below_drewN BW.out _⟩
          have : ¬ xs = ys := fun e => HQ.out (by rw [← HX.out, ← HY.out, e])
          simp [this]
      · have hltz : ¬ (kk : Int) < (n : Int) := by omega
        have : kk = n := by omega
        subst this
        go_wp2
        go_ret
        refine ⟨?_, BW.out⟩
        have : xs = ys := list_ext_getElem! (Hn.out.trans HL.out) (fun j hj => HA.out j (by have := Hn.out; omega))
        simp [this]
  · have hne : ¬ xs = ys := fun e => hlen (by rw [e])
    have hd : decide (xs = ys) = false := by simp [hne]
    rw [hd]
    clear hx hy hne hd
    generalize xs.length = n at *
    generalize ys.length = m at *
    have hlen' : ((n : Int) != (m : Int)) = true := by simp; omega
    go_enter Tryd.func38, Tryd.ntmps38
    go_wp2
    go_ret
    exact ⟨rfl, Below.refl _ _⟩
set_option maxHeartbeats 1000000 in
theorem equal_Rule (A1 : Option Addr) (k1 : Nat) (xs : List Rl) (A2 : Option Addr) (k2 : Nat) (ys : List Rl) (w : World) (hx : RS encRl 3 w A1 xs) (hy : RS encRl 3 w A2 ys) :
    Calls Tryd.prog 39 #[.slice A1 xs.length k1, .slice A2 ys.length k2] w fun e w' => e = .returned (.bool (decide (xs = ys))) ∧ Below w.heap.size w w' := by
  have hl1 := hx.1
  have hl2 := hy.1
  by_cases hlen : xs.length = ys.length
  · have hr1 : ∀ (W : World), Below w.heap.size w W → ∀ j, j < xs.length → _ := fun W hW j hj => hx.at hW j hj
    have hr2 : ∀ (W : World), Below w.heap.size w W → ∀ j, j < xs.length → _ := fun W hW j hj => hy.at hW j (by omega)
    rw [← hlen]
    have HL : Hid (xs.length = ys.length) := hlen
    clear hx hy hlen hl2
    generalize hn : xs.length = n at *
    have Hn : Hid (xs.length = n) := hn
    clear hn
    go_enter Tryd.func39, Tryd.ntmps39
    go_wp2
    go_loopg [5, 13] n (fun gg _ s8 wr => ∃ kk : Nat, kk ≤ n ∧ n - kk ≤ gg ∧ s8 = .int .i64 kk ∧ Hid (Below w.heap.size w wr) ∧ Hid (∀ j, j < kk → xs[j]! = ys[j]!))
    case atStart => exact ⟨0, Nat.zero_le _, by omega, rfl, Below.refl _ w, fun j hj => absurd hj (Nat.not_lt_zero _)⟩
    case round =>
      obtain ⟨kk, hkk, hg, rfl, BW, HA⟩ := hrel
      by_cases hlt : kk < n
      · have hltz : (kk : Int) < (n : Int) := by omega
        have hkz : (0 : Int) ≤ (kk : Int) := by omega
        obtain ⟨b1, o1, rfl, hb1, hc1⟩ := hr1 wr BW.out kk (by omega)
        obtain ⟨b2, o2, rfl, hb2, hc2⟩ := hr2 wr BW.out kk (by omega)
        clear hr1 hr2
        generalize hxk : xs[kk]! = x at hc1
        generalize hyk : ys[kk]! = y at hc2
        have HX : Hid (xs[kk]! = x) := hxk
        have HY : Hid (ys[kk]! = y) := hyk
        clear hxk hyk
        have hneq := neq_Rl x y
        have hgd := guard_Rl .neq
        simp only [avRl] at hneq hgd
        have c0 := hc1 0 _ rfl; have c1 := hc1 1 _ rfl; have c2 := hc1 2 _ rfl; simp only [Nat.add_zero] at c0; clear hc1
        have d0 := hc2 0 _ rfl; have d1 := hc2 1 _ rfl; have d2 := hc2 2 _ rfl; simp only [Nat.add_zero] at d0; clear hc2
        by_cases hq : x = y
        · have HQ : Hid (x = y) := hq
          have hd : decide (x = y) = true := by simp [hq]
          rw [hd] at hneq
          clear hq hd
          go_wp2_with fail
          go_quiet (fail)
          go_wp2
          go_roundg (n - (kk + 1))
          case measure => omega
          case rel =>
            refine ⟨kk + 1, by omega, by omega, by go_num, below_drewN BW.out _, (show Hid _ from fun j hj => ?_)⟩
            by_cases e : j = kk
            · subst e; rw [HX.out, HY.out]; exact HQ.out
            · exact HA.out j (by omega)
        · have HQ : Hid (¬ x = y) := hq
          have hd : decide (x = y) = false := by simp [hq]
          rw [hd] at hneq
          clear hq hd
          go_wp2_with fail
          go_quiet (fail)
          go_wp2
          go_ret
          refine ⟨?_, below_drewN BW.out _⟩
          have : ¬ xs = ys := fun e => HQ.out (by rw [← HX.out, ← HY.out, e])
          simp [this]
      · have hltz : ¬ (kk : Int) < (n : Int) := by omega
        have : kk = n := by omega
        subst this
        go_wp2
        go_ret
        refine ⟨?_, BW.out⟩
        have : xs = ys := list_ext_getElem! (Hn.out.trans HL.out) (fun j hj => HA.out j (by have := Hn.out; omega))
        simp [this]
  · have hne : ¬ xs = ys := fun e => hlen (by rw [e])
    have hd : decide (xs = ys) = false := by simp [hne]
    rw [hd]
    clear hx hy hne hd
    generalize xs.length = n at *
    generalize ys.length = m at *
    have hlen' : ((n : Int) != (m : Int)) = true := by simp; omega
    go_enter Tryd.func39, Tryd.ntmps39
    go_wp2
    go_ret
    exact ⟨rfl, Below.refl _ _⟩
set_option maxHeartbeats 1000000 in
theorem equal_Quorum (A1 : Option Addr) (k1 : Nat) (xs : List Qm) (A2 : Option Addr) (k2 : Nat) (ys : List Qm) (w : World) (hx : RS encQm 5 w A1 xs) (hy : RS encQm 5 w A2 ys) :
    Calls Tryd.prog 40 #[.slice A1 xs.length k1, .slice A2 ys.length k2] w fun e w' => e = .returned (.bool (decide (xs = ys))) ∧ Below w.heap.size w w' := by
  have hl1 := hx.1
  have hl2 := hy.1
  by_cases hlen : xs.length = ys.length
  · have hr1 : ∀ (W : World), Below w.heap.size w W → ∀ j, j < xs.length → _ := fun W hW j hj => hx.at hW j hj
    have hr2 : ∀ (W : World), Below w.heap.size w W → ∀ j, j < xs.length → _ := fun W hW j hj => hy.at hW j (by omega)
    rw [← hlen]
    have HL : Hid (xs.length = ys.length) := hlen
    clear hx hy hlen hl2
    generalize hn : xs.length = n at *
    have Hn : Hid (xs.length = n) := hn
    clear hn
    go_enter Tryd.func40, Tryd.ntmps40
    go_wp2
    go_loopg [5, 13] n (fun gg _ s8 wr => ∃ kk : Nat, kk ≤ n ∧ n - kk ≤ gg ∧ s8 = .int .i64 kk ∧ Hid (Below w.heap.size w wr) ∧ Hid (∀ j, j < kk → xs[j]! = ys[j]!))
    case atStart => exact ⟨0, Nat.zero_le _, by omega, rfl, Below.refl _ w, fun j hj => absurd hj (Nat.not_lt_zero _)⟩
    case round =>
      obtain ⟨kk, hkk, hg, rfl, BW, HA⟩ := hrel
      by_cases hlt : kk < n
      · have hltz : (kk : Int) < (n : Int) := by omega
        have hkz : (0 : Int) ≤ (kk : Int) := by omega
        obtain ⟨b1, o1, rfl, hb1, hc1⟩ := hr1 wr BW.out kk (by omega)
        obtain ⟨b2, o2, rfl, hb2, hc2⟩ := hr2 wr BW.out kk (by omega)
        clear hr1 hr2
        generalize hxk : xs[kk]! = x at hc1
        generalize hyk : ys[kk]! = y at hc2
        have HX : Hid (xs[kk]! = x) := hxk
        have HY : Hid (ys[kk]! = y) := hyk
        clear hxk hyk
        have hneq := neq_Qm x y
        have hgd := guard_Qm .neq
        simp only [avQm] at hneq hgd
        have c0 := hc1 0 _ rfl; have c1 := hc1 1 _ rfl; have c2 := hc1 2 _ rfl; have c3 := hc1 3 _ rfl; have c4 := hc1 4 _ rfl; simp only [Nat.add_zero] at c0; clear hc1
        have d0 := hc2 0 _ rfl; have d1 := hc2 1 _ rfl; have d2 := hc2 2 _ rfl; have d3 := hc2 3 _ rfl; have d4 := hc2 4 _ rfl; simp only [Nat.add_zero] at d0; clear hc2
        by_cases hq : x = y
        · have HQ : Hid (x = y) := hq
          have hd : decide (x = y) = true := by simp [hq]
          rw [hd] at hneq
          clear hq hd
          go_wp2_with fail
          go_quiet (fail)
          go_wp2
          go_roundg (n - (kk + 1))
          case measure => omega
          case rel =>
            refine ⟨kk + 1, by omega, by omega, by go_num, below_drewN BW.out _, (show Hid _ from fun j hj => ?_)⟩
            by_cases e : j = kk
            · subst e; rw [HX.out, HY.out]; exact HQ.out
            · exact HA.out j (by omega)
        · have HQ : Hid (¬ x = y) := hq
          have hd : decide (x = y) = false := by simp [hq]
          rw [hd] at hneq
          clear hq hd
          go_wp2_with fail
          go_quiet (fail)
          go_wp2
          go_ret
          refine ⟨?_, below_drewN BW.out _⟩
          have : ¬ xs = ys := fun e => HQ.out (by rw [← HX.out, ← HY.out, e])
          simp [this]
      · have hltz : ¬ (kk : Int) < (n : Int) := by omega
        have : kk = n := by omega
        subst this
        go_wp2
        go_ret
        refine ⟨?_, BW.out⟩
        have : xs = ys := list_ext_getElem! (Hn.out.trans HL.out) (fun j hj => HA.out j (by have := Hn.out; omega))
        simp [this]
  · have hne : ¬ xs = ys := fun e => hlen (by rw [e])
    have hd : decide (xs = ys) = false := by simp [hne]
    rw [hd]
    clear hx hy hne hd
    generalize xs.length = n at *
    generalize ys.length = m at *
    have hlen' : ((n : Int) != (m : Int)) = true := by simp; omega
    go_enter Tryd.func40, Tryd.ntmps40
    go_wp2
    go_ret
    exact ⟨rfl, Below.refl _ _⟩

set_option maxHeartbeats 1000000 in
theorem index_Rule (A : Option Addr) (k : Nat) (xs : List Rl) (x : Rl) (w : World) (hx : RS encRl 3 w A xs) :
    Calls Tryd.prog 57 #[.slice A xs.length k, avRl x] w fun e w' => e = .returned (.int .i64 (idxF (fun y => decide (x = y)) xs)) ∧ Below w.heap.size w w' := by
  have hl1 := hx.1
  have hr1 : ∀ (W : World), Below w.heap.size w W → ∀ j, j < xs.length → _ := fun W hW j hj => hx.at hW j hj
  clear hx
  generalize hn : xs.length = n at *
  have Hn : Hid (xs.length = n) := hn
  clear hn
  unfold avRl
  go_enter Tryd.func57, Tryd.ntmps57
  go_wp2
  have e0 : (w.alloc (.cells (encRl x).toArray 40)).cell? ⟨w.heap.size, 0, none⟩ = some (.int .i64 x.kind) := by simp [encRl, go_sem]
  have e1 : (w.alloc (.cells (encRl x).toArray 40)).cell? ⟨w.heap.size, 1, none⟩ = some (.int .i64 x.a) := by simp [encRl, go_sem]
  have e2 : (w.alloc (.cells (encRl x).toArray 40)).cell? ⟨w.heap.size, 2, none⟩ = some (.int .i64 x.b) := by simp [encRl, go_sem]
  have HB0 : Below w.heap.size w (w.alloc (.cells (encRl x).toArray 40)) := (Below.refl _ _).alloc (Nat.le_refl _) _
  have hsz : w.heap.size < (w.alloc (.cells (encRl x).toArray 40)).heap.size := by simp
  unfold encRl at *
  generalize hW1 : w.alloc (.cells _ 40) = W1 at *
  clear hW1
  have HBX : Hid (Below w.heap.size w W1) := HB0
  clear HB0
  go_loopg [5, 8] n (fun gg _ s8 wr => ∃ kk : Nat, kk ≤ n ∧ n - kk ≤ gg ∧ s8 = .int .i64 kk ∧ Hid (Below W1.heap.size W1 wr) ∧ Hid (∀ j, j < kk → decide (x = xs[j]!) = false))
  case atStart => exact ⟨0, Nat.zero_le _, by omega, rfl, Below.refl _ _, fun j hj => absurd hj (Nat.not_lt_zero _)⟩
  case round =>
    obtain ⟨kk, hkk, hg, rfl, BW, HA⟩ := hrel
    by_cases hlt : kk < n
    · have hltz : (kk : Int) < (n : Int) := by omega
      have hkz : (0 : Int) ≤ (kk : Int) := by omega
      obtain ⟨b2, o2, rfl, hb2, hc2⟩ := hr1 wr (HBX.out.trans (BW.out.mono (by omega))) kk (by omega)
      clear hr1
      generalize hyk : xs[kk]! = y at hc2
      have HY : Hid (xs[kk]! = y) := hyk
      clear hyk
      have hneq := eql_Rl x y
      have hgd := guard_Rl .eql
      simp only [avRl] at hneq hgd
      have c0 := (BW.out.cell (p := ⟨w.heap.size, 0, none⟩) hsz).trans e0
      have c1 := (BW.out.cell (p := ⟨w.heap.size, 1, none⟩) hsz).trans e1
      have c2 := (BW.out.cell (p := ⟨w.heap.size, 2, none⟩) hsz).trans e2
      clear e0 e1 e2
      have d0 := hc2 0 _ rfl; have d1 := hc2 1 _ rfl; have d2 := hc2 2 _ rfl; simp only [Nat.add_zero] at d0; clear hc2
      by_cases hq : x = y
      · have HQ : Hid (x = y) := hq
        have hd : decide (x = y) = true := by simp [hq]
        rw [hd] at hneq
        clear hq hd
        go_wp2_with fail
        go_quiet (fail)
        go_wp2
        go_ret
        refine ⟨?_, HBX.out.trans ((below_drewN BW.out _).mono (by omega))⟩
        rw [idxF_hit _ xs kk (by have := Hn.out; omega) (by simp only [HY.out]; exact decide_eq_true HQ.out) HA.out]
        rfl
      · have HQ : Hid (¬ x = y) := hq
        have hd : decide (x = y) = false := by simp [hq]
        rw [hd] at hneq
        clear hq hd
        go_wp2_with fail
        go_quiet (fail)
        go_wp2
        go_roundg (n - (kk + 1))
        case measure => omega
        case rel =>
          refine ⟨kk + 1, by omega, by omega, by go_num, below_drewN BW.out _, (show Hid _ from fun j hj => ?_)⟩
          by_cases e : j = kk
          · subst e; rw [HY.out]; exact decide_eq_false HQ.out
          · exact HA.out j (by omega)
    · have hltz : ¬ (kk : Int) < (n : Int) := by omega
      have : kk = n := by omega
      subst this
      go_wp2
      go_ret
      refine ⟨?_, HBX.out.trans (BW.out.mono (by omega))⟩
      rw [idxF_miss _ xs (fun j hj => HA.out j (by have := Hn.out; omega))]
      rfl

set_option maxHeartbeats 400000 in
theorem contains_Rule (A : Option Addr) (k : Nat) (xs : List Rl) (x : Rl) (w : World) (hx : RS encRl 3 w A xs) :
    Calls Tryd.prog 44 #[.slice A xs.length k, avRl x] w fun e w' => e = .returned (.bool (decide (x ∈ xs))) ∧ Below w.heap.size w w' := by
  have hc := fun W (hW : Below w.heap.size w W) => index_Rule A k xs x W (hx.below hW)
  have hs : decide (x ∈ xs) = decide (0 ≤ idxF (fun y => decide (x = y)) xs) := by
    rw [idxF_any, Bool.eq_iff_iff]
    simp
  rw [hs]
  have Hb := idxF_bound (fun y => decide (x = y)) xs
  have hl := hx.1
  clear hx hs
  generalize idxF (fun y => decide (x = y)) xs = r at *
  generalize xs.length = n at *
  have HB0 : Below w.heap.size w (w.alloc (.cells (encRl x).toArray 40)) := (Below.refl _ _).alloc (Nat.le_refl _) _
  have hc' := hc _ HB0
  clear hc
  unfold avRl encRl at *
  go_enter Tryd.func44, Tryd.ntmps44
  go_wp2_with (go_at_call 57; refine hc'.mono ?_; rintro e w' ⟨rfl, hb'⟩)
  go_ret
  exact ⟨rfl, HB0.trans (hb'.mono HB0.size)⟩

set_option maxHeartbeats 1000000 in
theorem index_int (A : Option Addr) (k : Nat) (xs : List Int) (x : Int) (w : World) (hx : RS encI 1 w A xs) :
    Calls Tryd.prog 58 #[.slice A xs.length k, .int .i64 x] w fun e w' => e = .returned (.int .i64 (idxF (fun y => decide (x = y)) xs)) ∧ w = w' := by
  have hl1 := hx.1
  have hr1 := fun j hj => hx.at (Below.refl _ w) j hj
  clear hx
  generalize hn : xs.length = n at *
  have Hn : Hid (xs.length = n) := hn
  clear hn
  go_enter Tryd.func58, Tryd.ntmps58
  go_wp2
  go_loopg [5, 8] n (fun gg _ s8 wr => ∃ kk : Nat, kk ≤ n ∧ n - kk ≤ gg ∧ s8 = .int .i64 kk ∧ wr = w ∧ Hid (∀ j, j < kk → decide (x = xs[j]!) = false))
  case atStart => exact ⟨0, Nat.zero_le _, by omega, rfl, rfl, fun j hj => absurd hj (Nat.not_lt_zero _)⟩
  case round =>
    obtain ⟨kk, hkk, hg, rfl, rfl, HA⟩ := hrel
    by_cases hlt : kk < n
    · have hltz : (kk : Int) < (n : Int) := by omega
      have hkz : (0 : Int) ≤ (kk : Int) := by omega
      obtain ⟨b2, o2, rfl, hb2, hc2⟩ := hr1 kk (by omega)
      clear hr1
      generalize hyk : xs[kk]! = y at hc2
      have HY : Hid (xs[kk]! = y) := hyk
      clear hyk
      have d0 := hc2 0 _ rfl
      simp only [Nat.add_zero, Nat.mul_one] at d0
      clear hc2
      by_cases hq : x = y
      · have HQ : Hid (x = y) := hq
        have hd : (x == y) = true := by simp [hq]
        clear hq
        go_wp2
        go_ret
        refine ⟨?_, rfl⟩
        rw [idxF_hit _ xs kk (by have := Hn.out; omega) (by simp only [HY.out]; exact decide_eq_true HQ.out) HA.out]
        rfl
      · have HQ : Hid (¬ x = y) := hq
        have hd : (x == y) = false := by simp [hq]
        clear hq
        go_wp2
        go_roundg (n - (kk + 1))
        case measure => omega
        case rel =>
          refine ⟨kk + 1, by omega, by omega, by go_num, rfl, (show Hid _ from fun j hj => ?_)⟩
          by_cases e : j = kk
          · subst e; rw [HY.out]; exact decide_eq_false HQ.out
          · exact HA.out j (by omega)
    · have hltz : ¬ (kk : Int) < (n : Int) := by omega
      have : kk = n := by omega
      subst this
      go_wp2
      go_ret
      refine ⟨?_, rfl⟩
      rw [idxF_miss _ xs (fun j hj => HA.out j (by have := Hn.out; omega))]
      rfl

set_option maxHeartbeats 400000 in
theorem contains_int (A : Option Addr) (k : Nat) (xs : List Int) (x : Int) (w : World) (hx : RS encI 1 w A xs) :
    Calls Tryd.prog 45 #[.slice A xs.length k, .int .i64 x] w fun e w' => e = .returned (.bool (decide (x ∈ xs))) ∧ w = w' := by
  have hc := index_int A k xs x w hx
  have hs : decide (x ∈ xs) = decide (0 ≤ idxF (fun y => decide (x = y)) xs) := by
    rw [idxF_any, Bool.eq_iff_iff]
    simp
  rw [hs]
  have Hb := idxF_bound (fun y => decide (x = y)) xs
  have hl := hx.1
  clear hx hs
  generalize idxF (fun y => decide (x = y)) xs = r at *
  generalize xs.length = n at *
  go_enter Tryd.func45, Tryd.ntmps45
  go_wp2_with (go_at_call 58; refine hc.mono ?_; rintro e w' ⟨rfl, rfl⟩)
  go_ret
  exact ⟨rfl, rfl⟩
end Go.Proofs.YtemkffejekgmfaaDoor
