/- Contracts of slices.IndexFunc and slices.ContainsFunc at structs. -/
import Derived.Test.YtemkffejekgmfaaDoorC1
namespace Go.Proofs.YtemkffejekgmfaaDoor
open Go.RowKit Go.Shelf

set_option maxHeartbeats 1000000 in
theorem indexFunc_within (p : Wn → Bool) (g : Nat) (lb : Array Value) (eg : ∀ args w, (callFunc g args).run Tryd.prog w = .ok (.enter g args) w) (A : Option Addr) (c : Nat) (xs : List Wn) (w : World)
    (hp : PredB g lb avWn p w) (hx : RS encWn 3 w A xs) :
    Calls Tryd.prog 62 #[.slice A xs.length c, .func (.func g) #[] lb] w fun e w' => e = .returned (.int .i64 (idxF p xs)) ∧ Below w.heap.size w w' := by
  have hl := hx.1
  have hrow : ∀ (W : World), Below w.heap.size w W → ∀ j, j < xs.length → _ := fun W hW j hj => hx.at hW j hj
  clear hx
  generalize hn : xs.length = n at *
  have Hn : Hid (xs.length = n) := hn
  clear hn
  go_enter Tryd.func62, Tryd.ntmps62
  go_wp2
  go_loopg [5, 8] n (fun gg _ s8 wr => ∃ kk : Nat, kk ≤ n ∧ n - kk ≤ gg ∧ s8 = .int .i64 kk ∧ Hid (Below w.heap.size w wr) ∧ Hid (∀ j, j < kk → p xs[j]! = false))
  case atStart => exact ⟨0, Nat.zero_le _, by omega, rfl, Below.refl _ w, fun j hj => absurd hj (Nat.not_lt_zero _)⟩
  case round =>
    obtain ⟨kk, hkk, hg, rfl, BW, HA⟩ := hrel
    by_cases hlt : kk < n
    · have hltz : (kk : Int) < (n : Int) := by omega
      obtain ⟨b, off, rfl, hb0, hc⟩ := hrow wr BW.out kk (by omega)
      have hcall := hp wr xs[kk]! BW.out
      clear hrow hp
      generalize hy : xs[kk]! = y at hc hcall
      have HY : Hid (xs[kk]! = y) := hy
      clear hy
      have c0 := hc 0 _ rfl; have c1 := hc 1 _ rfl; have c2 := hc 2 _ rfl; simp only [Nat.add_zero] at c0
      clear hc
      cases hq : p y with
      | true =>
        rw [hq] at hcall
        go_wp2_with (go_at_fn g; refine hcall.mono ?_; rintro e w' ⟨rfl, hb'⟩)
        go_ret
        refine ⟨?_, BW.out.trans (hb'.mono BW.out.size)⟩
        rw [idxF_hit p xs kk (by have := Hn.out; omega) (by rw [HY.out]; exact hq) HA.out]
        rfl
      | false =>
        rw [hq] at hcall
        go_wp2_with (go_at_fn g; refine hcall.mono ?_; rintro e w' ⟨rfl, hb'⟩)
        go_roundg (n - (kk + 1))
        case measure => omega
        case rel =>
          refine ⟨kk + 1, by omega, by omega, by go_num, BW.out.trans (hb'.mono BW.out.size), (show Hid _ from fun j hj => ?_)⟩
          by_cases e : j = kk
          · subst e; rw [HY.out]; exact hq
          · exact HA.out j (by omega)
    · have hltz : ¬ (kk : Int) < (n : Int) := by omega
      have : kk = n := by omega
      subst this
      go_wp2
      go_ret
      refine ⟨?_, BW.out⟩
      rw [idxF_miss p xs (fun j hj => HA.out j (by have := Hn.out; omega))]
      rfl

set_option maxHeartbeats 400000 in
theorem containsFunc_within (p : Wn → Bool) (g : Nat) (lb : Array Value) (eg : ∀ args w, (callFunc g args).run Tryd.prog w = .ok (.enter g args) w) (A : Option Addr) (c : Nat) (xs : List Wn) (w : World)
    (hp : PredB g lb avWn p w) (hx : RS encWn 3 w A xs) :
    Calls Tryd.prog 55 #[.slice A xs.length c, .func (.func g) #[] lb] w fun e w' => e = .returned (.bool (xs.any p)) ∧ Below w.heap.size w w' := by
  have hc := indexFunc_within p g lb eg A c xs w hp hx
  rw [← idxF_any]
  have Hb := idxF_bound p xs
  have hl := hx.1
  clear hp hx
  generalize idxF p xs = r at *
  generalize xs.length = n at *
  go_enter Tryd.func55, Tryd.ntmps55
  go_wp2_with (go_at_call 62; refine hc.mono ?_; rintro e w' ⟨rfl, hb'⟩)
  go_ret
  exact ⟨rfl, hb'⟩
set_option maxHeartbeats 1000000 in
theorem indexFunc_Type (p : Ty → Bool) (g : Nat) (lb : Array Value) (eg : ∀ args w, (callFunc g args).run Tryd.prog w = .ok (.enter g args) w) (A : Option Addr) (c : Nat) (xs : List Ty) (w : World)
    (hp : PredB g lb avTy p w) (hx : RS encTy 3 w A xs) :
    Calls Tryd.prog 54 #[.slice A xs.length c, .func (.func g) #[] lb] w fun e w' => e = .returned (.int .i64 (idxF p xs)) ∧ Below w.heap.size w w' := by
  have hl := hx.1
  have hrow : ∀ (W : World), Below w.heap.size w W → ∀ j, j < xs.length → _ := fun W hW j hj => hx.at hW j hj
  clear hx
  generalize hn : xs.length = n at *
  have Hn : Hid (xs.length = n) := hn
  clear hn
  go_enter Tryd.func54, Tryd.ntmps54
  go_wp2
  go_loopg [5, 8] n (fun gg _ s8 wr => ∃ kk : Nat, kk ≤ n ∧ n - kk ≤ gg ∧ s8 = .int .i64 kk ∧ Hid (Below w.heap.size w wr) ∧ Hid (∀ j, j < kk → p xs[j]! = false))
  case atStart => exact ⟨0, Nat.zero_le _, by omega, rfl, Below.refl _ w, fun j hj => absurd hj (Nat.not_lt_zero _)⟩
  case round =>
    obtain ⟨kk, hkk, hg, rfl, BW, HA⟩ := hrel
    by_cases hlt : kk < n
    · have hltz : (kk : Int) < (n : Int) := by omega
      obtain ⟨b, off, rfl, hb0, hc⟩ := hrow wr BW.out kk (by omega)
      have hcall := hp wr xs[kk]! BW.out
      clear hrow hp
      generalize hy : xs[kk]! = y at hc hcall
      have HY : Hid (xs[kk]! = y) := hy
      clear hy
      have c0 := hc 0 _ rfl; have c1 := hc 1 _ rfl; have c2 := hc 2 _ rfl; simp only [Nat.add_zero] at c0
      clear hc
      cases hq : p y with
      | true =>
        rw [hq] at hcall
        go_wp2_with (go_at_fn g; refine hcall.mono ?_; rintro e w' ⟨rfl, hb'⟩)
        go_ret
        refine ⟨?_, BW.out.trans (hb'.mono BW.out.size)⟩
        rw [idxF_hit p xs kk (by have := Hn.out; omega) (by rw [HY.out]; exact hq) HA.out]
        rfl
      | false =>
        rw [hq] at hcall
        go_wp2_with (go_at_fn g; refine hcall.mono ?_; rintro e w' ⟨rfl, hb'⟩)
        go_roundg (n - (kk + 1))
        case measure => omega
        case rel =>
          refine ⟨kk + 1, by omega, by omega, by go_num, BW.out.trans (hb'.mono BW.out.size), (show Hid _ from fun j hj => ?_)⟩
          by_cases e : j = kk
          · subst e; rw [HY.out]; exact hq
          · exact HA.out j (by omega)
    · have hltz : ¬ (kk : Int) < (n : Int) := by omega
      have : kk = n := by omega
      subst this
      go_wp2
      go_ret
      refine ⟨?_, BW.out⟩
      rw [idxF_miss p xs (fun j hj => HA.out j (by have := Hn.out; omega))]
      rfl

set_option maxHeartbeats 400000 in
theorem containsFunc_Type (p : Ty → Bool) (g : Nat) (lb : Array Value) (eg : ∀ args w, (callFunc g args).run Tryd.prog w = .ok (.enter g args) w) (A : Option Addr) (c : Nat) (xs : List Ty) (w : World)
    (hp : PredB g lb avTy p w) (hx : RS encTy 3 w A xs) :
    Calls Tryd.prog 41 #[.slice A xs.length c, .func (.func g) #[] lb] w fun e w' => e = .returned (.bool (xs.any p)) ∧ Below w.heap.size w w' := by
  have hc := indexFunc_Type p g lb eg A c xs w hp hx
  rw [← idxF_any]
  have Hb := idxF_bound p xs
  have hl := hx.1
  clear hp hx
  generalize idxF p xs = r at *
  generalize xs.length = n at *
  go_enter Tryd.func41, Tryd.ntmps41
  go_wp2_with (go_at_call 54; refine hc.mono ?_; rintro e w' ⟨rfl, hb'⟩)
  go_ret
  exact ⟨rfl, hb'⟩
set_option maxHeartbeats 1000000 in
theorem indexFunc_Quorum (p : Qm → Bool) (g : Nat) (lb : Array Value) (eg : ∀ args w, (callFunc g args).run Tryd.prog w = .ok (.enter g args) w) (A : Option Addr) (c : Nat) (xs : List Qm) (w : World)
    (hp : PredB g lb avQm p w) (hx : RS encQm 5 w A xs) :
    Calls Tryd.prog 59 #[.slice A xs.length c, .func (.func g) #[] lb] w fun e w' => e = .returned (.int .i64 (idxF p xs)) ∧ Below w.heap.size w w' := by
  have hl := hx.1
  have hrow : ∀ (W : World), Below w.heap.size w W → ∀ j, j < xs.length → _ := fun W hW j hj => hx.at hW j hj
  clear hx
  generalize hn : xs.length = n at *
  have Hn : Hid (xs.length = n) := hn
  clear hn
  go_enter Tryd.func59, Tryd.ntmps59
  go_wp2
  go_loopg [5, 8] n (fun gg _ s8 wr => ∃ kk : Nat, kk ≤ n ∧ n - kk ≤ gg ∧ s8 = .int .i64 kk ∧ Hid (Below w.heap.size w wr) ∧ Hid (∀ j, j < kk → p xs[j]! = false))
  case atStart => exact ⟨0, Nat.zero_le _, by omega, rfl, Below.refl _ w, fun j hj => absurd hj (Nat.not_lt_zero _)⟩
  case round =>
    obtain ⟨kk, hkk, hg, rfl, BW, HA⟩ := hrel
    by_cases hlt : kk < n
    · have hltz : (kk : Int) < (n : Int) := by omega
      obtain ⟨b, off, rfl, hb0, hc⟩ := hrow wr BW.out kk (by omega)
      have hcall := hp wr xs[kk]! BW.out
      clear hrow hp
      generalize hy : xs[kk]! = y at hc hcall
      have HY : Hid (xs[kk]! = y) := hy
      clear hy
      have c0 := hc 0 _ rfl; have c1 := hc 1 _ rfl; have c2 := hc 2 _ rfl; have c3 := hc 3 _ rfl; have c4 := hc 4 _ rfl; simp only [Nat.add_zero] at c0
      clear hc
      cases hq : p y with
      | true =>
        rw [hq] at hcall
        go_wp2_with (go_at_fn g; refine hcall.mono ?_; rintro e w' ⟨rfl, hb'⟩)
        go_ret
        refine ⟨?_, BW.out.trans (hb'.mono BW.out.size)⟩
        rw [idxF_hit p xs kk (by have := Hn.out; omega) (by rw [HY.out]; exact hq) HA.out]
        rfl
      | false =>
        rw [hq] at hcall
        go_wp2_with (go_at_fn g; refine hcall.mono ?_; rintro e w' ⟨rfl, hb'⟩)
        go_roundg (n - (kk + 1))
        case measure => omega
        case rel =>
          refine ⟨kk + 1, by omega, by omega, by go_num, BW.out.trans (hb'.mono BW.out.size), (show Hid _ from fun j hj => ?_)⟩
          by_cases e : j = kk
          · subst e; rw [HY.out]; exact hq
          · exact HA.out j (by omega)
    · have hltz : ¬ (kk : Int) < (n : Int) := by omega
      have : kk = n := by omega
      subst this
      go_wp2
      go_ret
      refine ⟨?_, BW.out⟩
      rw [idxF_miss p xs (fun j hj => HA.out j (by have := Hn.out; omega))]
      rfl

set_option maxHeartbeats 400000 in
theorem containsFunc_Quorum (p : Qm → Bool) (g : Nat) (lb : Array Value) (eg : ∀ args w, (callFunc g args).run Tryd.prog w = .ok (.enter g args) w) (A : Option Addr) (c : Nat) (xs : List Qm) (w : World)
    (hp : PredB g lb avQm p w) (hx : RS encQm 5 w A xs) :
    Calls Tryd.prog 46 #[.slice A xs.length c, .func (.func g) #[] lb] w fun e w' => e = .returned (.bool (xs.any p)) ∧ Below w.heap.size w w' := by
  have hc := indexFunc_Quorum p g lb eg A c xs w hp hx
  rw [← idxF_any]
  have Hb := idxF_bound p xs
  have hl := hx.1
  clear hp hx
  generalize idxF p xs = r at *
  generalize xs.length = n at *
  go_enter Tryd.func46, Tryd.ntmps46
  go_wp2_with (go_at_call 59; refine hc.mono ?_; rintro e w' ⟨rfl, hb'⟩)
  go_ret
  exact ⟨rfl, hb'⟩
end Go.Proofs.YtemkffejekgmfaaDoor
