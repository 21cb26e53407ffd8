/- slices.SortStableFunc and check.sorted at the structs. -/
import Derived.Test.YtemkffejekgmfaaDoorK7
namespace Go.Proofs.YtemkffejekgmfaaDoor
open Go.RowKit Go.Shelf Go.Lib

set_option maxRecDepth 100000 in
set_option maxHeartbeats 1000000 in
theorem insertionE_Rule (A : Option Addr) (cap : Nat) (f : Value) (W : World) :
    Calls Tryd.prog 63 #[.slice A 0 cap, .int .i64 0, .int .i64 0, f] W fun e w' => e = .returned (.tuple #[]) ∧ W = w' := by
  go_enter Tryd.func63, Tryd.ntmps63
  go_wp2
  refine wp_loop_rounds 1 ?_
  rw [rounds_succ]
  go_wp2
  go_end0
  exact ⟨rfl, rfl⟩
set_option maxRecDepth 100000 in
set_option maxHeartbeats 1000000 in
theorem stableE_Rule (A : Option Addr) (cap : Nat) (f : Value) (W : World) :
    Calls Tryd.prog 60 #[.slice A 0 cap, .int .i64 0, f] W fun e w' => e = .returned (.tuple #[]) ∧ W = w' := by
  go_enter Tryd.func60, Tryd.ntmps60
  go_wp2
  refine wp_loop_rounds 1 ?_
  rw [rounds_succ]
  go_wp2_with fail
  refine (insertionE_Rule A cap f W).mono ?_
  rintro e w' ⟨rfl, rfl⟩
  go_wp2
  refine wp_loop_rounds 1 ?_
  rw [rounds_succ]
  go_wp2
  go_end0
  exact ⟨rfl, rfl⟩
set_option maxRecDepth 100000 in
set_option maxHeartbeats 1000000 in
theorem sortStable_Rule (hO : Ord (ltC cfRl)) (T : TypeId) (B : Nat) (l : List Rl) (v : Value) (W : World) (h : W.ownsRow B T 3 v l.length (l.flatMap encRl)) (hc : l.length ≤ 140737488355328) (_hB : B ≤ W.heap.size) :
    Calls Tryd.prog 50 #[v, .func (.func 32) #[] #[]] W fun e w' => e = .returned (.tuple #[]) ∧ w'.ownsRow B T 3 v l.length ((sortR (ltC cfRl) l).flatMap encRl) ∧ Below B W w' := by
  obtain ⟨A, cap, rfl, hcap, hrs⟩ := RS_own len_Rl (by omega) hc h
  cases A with
  | none =>
    have h0 : l.length = 0 := by
      rcases Nat.eq_zero_or_pos l.length with h | h
      · exact h
      · obtain ⟨b, off, h1, _⟩ := hrs.2 h; cases h1
    obtain rfl := List.eq_nil_of_length_eq_zero h0
    have HC := Lib.hid (stableE_Rule none cap (.func (.func 32) #[] #[]) W)
    have HH : Hid (∀ W', W = W' → W'.ownsRow B T 3 (.slice none 0 cap) 0 ((sortR (ltC cfRl) []).flatMap encRl)) := fun W' e => e ▸ h
    clear h hrs
    rw [show ([] : List Rl).length = 0 from rfl] at *
    go_enter Tryd.func50, Tryd.ntmps50
    go_wp2_with fail
    refine HC.out.mono ?_
    rintro e w' ⟨rfl, rfl⟩
    go_wp2
    go_end0
    exact ⟨rfl, HH.out _ rfl, Below.refl _ _⟩
  | some ad =>
    obtain ⟨g, rfl, _, hso⟩ := SO.of_own len_Rl h
    have HC := Lib.hid (stable_Rule hO T W B g cap l W hso hc)
    clear h hrs hso
    obtain ⟨n, hn⟩ : ∃ n, l.length = n := ⟨_, rfl⟩
    rw [hn] at HC hcap ⊢
    have HN := Lib.hid hn
    clear hn
    go_enter Tryd.func50, Tryd.ntmps50
    go_wp2_with fail
    refine HC.out.mono ?_
    rintro e w' ⟨rfl, hs⟩
    have h2 := hs.own len_Rl (by omega)
    rw [sortR_length, HN.out] at h2
    have H2 := Lib.hid h2
    have H3 := Lib.hid hs.bel
    clear h2 hs
    go_wp2
    go_end0
    exact ⟨rfl, H2.out, H3.out⟩
set_option maxRecDepth 100000 in
set_option maxHeartbeats 1000000 in
theorem sorted_Rule (hO : Ord (ltC cfRl)) (A : Option Addr) (k : Nat) (xs : List Rl) (w : World) (hx : RS encRl 3 w A xs) (hs : xs.length * 24 ≤ 140737488355328) :
    Calls Tryd.prog 31 #[.slice A xs.length k, .func (.func 32) #[] #[]] w (Owns encRl 3 40 (sortR (ltC cfRl) xs) w) := by
  have HC := Lib.hid (clone_Rule A k xs w hx hs)
  have HS : Hid (∀ (v : Value) (W : World), W.ownsRow w.heap.size 40 3 v xs.length (xs.flatMap encRl) → w.heap.size ≤ W.heap.size → Calls Tryd.prog 50 #[v, .func (.func 32) #[] #[]] W fun e w' => e = .returned (.tuple #[]) ∧ w'.ownsRow w.heap.size 40 3 v xs.length ((sortR (ltC cfRl) xs).flatMap encRl) ∧ Below w.heap.size W w') :=
    fun v W h hB => sortStable_Rule hO 40 w.heap.size xs v W h hx.1 hB
  have HO : Hid (∀ v w2 w3, w2.ownsRow w.heap.size 40 3 v xs.length ((sortR (ltC cfRl) xs).flatMap encRl) → Below w.heap.size w w3 → Below w.heap.size w3 w2 → Owns encRl 3 40 (sortR (ltC cfRl) xs) w (.returned v) w2) :=
    fun v w2 w3 h1 h2 h3 => ⟨v, rfl, by rw [sortR_length]; exact h1, h2.trans h3⟩
  obtain ⟨n, hn⟩ : ∃ n, xs.length = n := ⟨_, rfl⟩
  rw [hn] at HC ⊢
  have HN := Lib.hid hn
  clear hn hx hs
  go_enter Tryd.func31, Tryd.ntmps31
  go_wp2_with fail
  refine HC.out.mono ?_
  rintro e w1 ⟨v, rfl, hown, hb⟩
  rw [HN.out] at hown
  have C2 := HS.out v w1 (by rw [HN.out]; exact hown) hb.size
  have HB := Lib.hid hb
  clear hown hb
  go_wp2_with fail
  refine C2.mono ?_
  rintro e w2 ⟨rfl, ho2, hb2⟩
  have HOW := Lib.hid (HO.out v w2 w1 ho2 HB.out hb2)
  clear ho2 hb2 C2
  go_wp2
  go_ret
  exact HOW.out
set_option maxRecDepth 100000 in
set_option maxHeartbeats 1000000 in
theorem insertionE_Quorum (A : Option Addr) (cap : Nat) (f : Value) (W : World) :
    Calls Tryd.prog 65 #[.slice A 0 cap, .int .i64 0, .int .i64 0, f] W fun e w' => e = .returned (.tuple #[]) ∧ W = w' := by
  go_enter Tryd.func65, Tryd.ntmps65
  go_wp2
  refine wp_loop_rounds 1 ?_
  rw [rounds_succ]
  go_wp2
  go_end0
  exact ⟨rfl, rfl⟩
set_option maxRecDepth 100000 in
set_option maxHeartbeats 1000000 in
theorem stableE_Quorum (A : Option Addr) (cap : Nat) (f : Value) (W : World) :
    Calls Tryd.prog 61 #[.slice A 0 cap, .int .i64 0, f] W fun e w' => e = .returned (.tuple #[]) ∧ W = w' := by
  go_enter Tryd.func61, Tryd.ntmps61
  go_wp2
  refine wp_loop_rounds 1 ?_
  rw [rounds_succ]
  go_wp2_with fail
  refine (insertionE_Quorum A cap f W).mono ?_
  rintro e w' ⟨rfl, rfl⟩
  go_wp2
  refine wp_loop_rounds 1 ?_
  rw [rounds_succ]
  go_wp2
  go_end0
  exact ⟨rfl, rfl⟩
set_option maxRecDepth 100000 in
set_option maxHeartbeats 1000000 in
theorem sortStable_Quorum (hO : Ord (ltC cfQm)) (T : TypeId) (B : Nat) (l : List Qm) (v : Value) (W : World) (h : W.ownsRow B T 5 v l.length (l.flatMap encQm)) (hc : l.length ≤ 140737488355328) (_hB : B ≤ W.heap.size) :
    Calls Tryd.prog 53 #[v, .func (.func 36) #[] #[]] W fun e w' => e = .returned (.tuple #[]) ∧ w'.ownsRow B T 5 v l.length ((sortR (ltC cfQm) l).flatMap encQm) ∧ Below B W w' := by
  obtain ⟨A, cap, rfl, hcap, hrs⟩ := RS_own len_Qm (by omega) hc h
  cases A with
  | none =>
    have h0 : l.length = 0 := by
      rcases Nat.eq_zero_or_pos l.length with h | h
      · exact h
      · obtain ⟨b, off, h1, _⟩ := hrs.2 h; cases h1
    obtain rfl := List.eq_nil_of_length_eq_zero h0
    have HC := Lib.hid (stableE_Quorum none cap (.func (.func 36) #[] #[]) W)
    have HH : Hid (∀ W', W = W' → W'.ownsRow B T 5 (.slice none 0 cap) 0 ((sortR (ltC cfQm) []).flatMap encQm)) := fun W' e => e ▸ h
    clear h hrs
    rw [show ([] : List Qm).length = 0 from rfl] at *
    go_enter Tryd.func53, Tryd.ntmps53
    go_wp2_with fail
    refine HC.out.mono ?_
    rintro e w' ⟨rfl, rfl⟩
    go_wp2
    go_end0
    exact ⟨rfl, HH.out _ rfl, Below.refl _ _⟩
  | some ad =>
    obtain ⟨g, rfl, _, hso⟩ := SO.of_own len_Qm h
    have HC := Lib.hid (stable_Quorum hO T W B g cap l W hso hc)
    clear h hrs hso
    obtain ⟨n, hn⟩ : ∃ n, l.length = n := ⟨_, rfl⟩
    rw [hn] at HC hcap ⊢
    have HN := Lib.hid hn
    clear hn
    go_enter Tryd.func53, Tryd.ntmps53
    go_wp2_with fail
    refine HC.out.mono ?_
    rintro e w' ⟨rfl, hs⟩
    have h2 := hs.own len_Qm (by omega)
    rw [sortR_length, HN.out] at h2
    have H2 := Lib.hid h2
    have H3 := Lib.hid hs.bel
    clear h2 hs
    go_wp2
    go_end0
    exact ⟨rfl, H2.out, H3.out⟩
set_option maxRecDepth 100000 in
set_option maxHeartbeats 1000000 in
theorem sorted_Quorum (hO : Ord (ltC cfQm)) (A : Option Addr) (k : Nat) (xs : List Qm) (w : World) (hx : RS encQm 5 w A xs) (hs : xs.length * 40 ≤ 140737488355328) :
    Calls Tryd.prog 35 #[.slice A xs.length k, .func (.func 36) #[] #[]] w (Owns encQm 5 42 (sortR (ltC cfQm) xs) w) := by
  have HC := Lib.hid (clone_Quorum A k xs w hx hs)
  have HS : Hid (∀ (v : Value) (W : World), W.ownsRow w.heap.size 42 5 v xs.length (xs.flatMap encQm) → w.heap.size ≤ W.heap.size → Calls Tryd.prog 53 #[v, .func (.func 36) #[] #[]] W fun e w' => e = .returned (.tuple #[]) ∧ w'.ownsRow w.heap.size 42 5 v xs.length ((sortR (ltC cfQm) xs).flatMap encQm) ∧ Below w.heap.size W w') :=
    fun v W h hB => sortStable_Quorum hO 42 w.heap.size xs v W h hx.1 hB
  have HO : Hid (∀ v w2 w3, w2.ownsRow w.heap.size 42 5 v xs.length ((sortR (ltC cfQm) xs).flatMap encQm) → Below w.heap.size w w3 → Below w.heap.size w3 w2 → Owns encQm 5 42 (sortR (ltC cfQm) xs) w (.returned v) w2) :=
    fun v w2 w3 h1 h2 h3 => ⟨v, rfl, by rw [sortR_length]; exact h1, h2.trans h3⟩
  obtain ⟨n, hn⟩ : ∃ n, xs.length = n := ⟨_, rfl⟩
  rw [hn] at HC ⊢
  have HN := Lib.hid hn
  clear hn hx hs
  go_enter Tryd.func35, Tryd.ntmps35
  go_wp2_with fail
  refine HC.out.mono ?_
  rintro e w1 ⟨v, rfl, hown, hb⟩
  rw [HN.out] at hown
  have C2 := HS.out v w1 (by rw [HN.out]; exact hown) hb.size
  have HB := Lib.hid hb
  clear hown hb
  go_wp2_with fail
  refine C2.mono ?_
  rintro e w2 ⟨rfl, ho2, hb2⟩
  have HOW := Lib.hid (HO.out v w2 w1 ho2 HB.out hb2)
  clear ho2 hb2 C2
  go_wp2
  go_ret
  exact HOW.out
end Go.Proofs.YtemkffejekgmfaaDoor
