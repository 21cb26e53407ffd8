/- The plain law of CheckFirst: what Check says of the beginnings of a policy. -/
import Derived.Test.YtemkffejekgmfaaDoorC8
namespace Go.Proofs.YtemkffejekgmfaaDoor

/-- The first n items. -/
def cutS (p : Pol) (n : Nat) : Pol := ⟨p.name, p.types.take n, p.rules.take (n - p.types.length), p.quorums.take (n - p.types.length - p.rules.length)⟩

theorem take_get {α : Type} [Inhabited α] (l : List α) (k n : Nat) (h : k < n) : (l.take n)[k]! = l[k]! := by
  rcases Nat.lt_or_ge k l.length with hl | hl
  · rw [getElem!_pos _ k (by rw [List.length_take]; omega), getElem!_pos _ k hl, List.getElem_take]
  · rw [getElem!_neg _ k (by rw [List.length_take]; omega), getElem!_neg _ k (by omega)]
theorem take_take_le {α : Type} (l : List α) (k n : Nat) (h : k ≤ n) : (l.take n).take k = l.take k := by
  rw [List.take_take, Nat.min_eq_left h]
theorem typeErr_take (l : List Ty) (k n : Nat) (h : k < n) : typeErr (l.take n) k = typeErr l k := by
  unfold typeErr
  rw [take_get l k n h, take_take_le l k n (by omega)]
theorem ruleErr_take (l : List Rl) (k n : Nat) (t : Int) (h : k < n) : ruleErr (l.take n) k t = ruleErr l k t := by
  unfold ruleErr
  rw [take_get l k n h, take_take_le l k n (by omega)]
theorem quorumErr_take (l : List Qm) (k n : Nat) (h : k < n) : quorumErr (l.take n) k = quorumErr l k := by
  unfold quorumErr
  rw [take_get l k n h, take_take_le l k n (by omega)]
theorem itemErr_cut (p : Pol) (n i : Nat) (hi : i < n) (hn : n ≤ total p) : itemErr (cutS p n) i = itemErr p i := by
  unfold total at hn
  unfold itemErr cutS
  dsimp only
  rcases Nat.lt_or_ge i p.types.length with h1 | h1
  · rw [if_pos (by rw [List.length_take]; omega), if_pos h1, typeErr_take _ _ _ hi]
  · have hT : p.types.take n = p.types := List.take_of_length_le (by omega)
    have n1 : ¬ i < p.types.length := by omega
    rw [hT]
    simp only [n1, if_false]
    rcases Nat.lt_or_ge i (p.types.length + p.rules.length) with h2 | h2
    · have a1 : i < p.types.length + (p.rules.take (n - p.types.length)).length := by rw [List.length_take]; omega
      simp only [a1, h2, if_true]
      exact ruleErr_take _ _ _ _ (by omega)
    · have hR : p.rules.take (n - p.types.length) = p.rules := List.take_of_length_le (by omega)
      have n2 : ¬ i < p.types.length + p.rules.length := by omega
      rw [hR]
      simp only [n2, if_false]
      exact quorumErr_take _ _ _ (by omega)
theorem total_cut (p : Pol) (n : Nat) (hn : n ≤ total p) : total (cutS p n) = n := by
  unfold total at hn ⊢
  unfold cutS
  simp only [List.length_take]
  omega

theorem firstErr_zero (f : Nat → Int) (m i : Nat) (h : ∀ j, i ≤ j → j < i + m → f j = 0) : firstErr f m i = (0, 0) := by
  induction m generalizing i with
  | zero => rfl
  | succ m ih =>
    rw [firstErr, if_pos (h i (Nat.le_refl _) (by omega))]
    exact ih (i + 1) (fun j h1 h2 => h j (by omega) (by omega))
theorem firstErr_spec (f : Nat → Int) (m i : Nat) : (firstErr f m i = (0, 0) ∧ ∀ j, i ≤ j → j < i + m → f j = 0) ∨ (∃ k, i ≤ k ∧ k < i + m ∧ firstErr f m i = ((k : Int), f k) ∧ f k ≠ 0 ∧ ∀ j, i ≤ j → j < k → f j = 0) := by
  induction m generalizing i with
  | zero => exact .inl ⟨rfl, fun j h1 h2 => by omega⟩
  | succ m ih =>
    by_cases h : f i = 0
    · rw [firstErr, if_pos h]
      rcases ih (i + 1) with ⟨h1, h2⟩ | ⟨k, h1, h2, h3, h4, h5⟩
      · refine .inl ⟨h1, fun j h3 h4 => ?_⟩
        by_cases e : j = i
        · subst e; exact h
        · exact h2 j (by omega) (by omega)
      · refine .inr ⟨k, by omega, by omega, h3, h4, fun j h6 h7 => ?_⟩
        by_cases e : j = i
        · subst e; exact h
        · exact h5 j (by omega) h7
    · rw [firstErr, if_neg h]
      exact .inr ⟨i, Nat.le_refl _, by omega, rfl, h, fun j h1 h2 => by omega⟩

/-- Check in three cases. -/
theorem checkS_cases (p : Pol) :
    (nameB p.name = false ∧ checkS p = (-1, 4)) ∨
    (nameB p.name = true ∧ checkS p = (0, 0) ∧ ∀ j, j < total p → itemErr p j = 0) ∨
    (nameB p.name = true ∧ ∃ k, k < total p ∧ checkS p = ((k : Int), itemErr p k) ∧ itemErr p k ≠ 0 ∧ ∀ j, j < k → itemErr p j = 0) := by
  unfold checkS
  cases h : nameB p.name with
  | false => exact .inl ⟨rfl, by simp⟩
  | true =>
    rw [if_pos rfl]
    rcases firstErr_spec (itemErr p) (total p) 0 with ⟨h1, h2⟩ | ⟨k, _, h2, h3, h4, h5⟩
    · exact .inr (.inl ⟨rfl, h1, fun j hj => h2 j (Nat.zero_le _) (by omega)⟩)
    · exact .inr (.inr ⟨rfl, k, by omega, h3, h4, fun j hj => h5 j (Nat.zero_le _) hj⟩)
theorem check_cut (p : Pol) (n : Nat) (hn : n ≤ total p) (hN : nameB p.name = true) (h : ∀ j, j < n → itemErr p j = 0) : (checkS (cutS p n)).2 = 0 := by
  have e : checkS (cutS p n) = (0, 0) := by
    unfold checkS
    rw [show (cutS p n).name = p.name from rfl, if_pos hN]
    refine firstErr_zero _ _ _ (fun j _ hj => ?_)
    rw [total_cut p n hn] at hj
    rw [itemErr_cut p n j (by omega) hn]
    exact h j (by omega)
  rw [e]
theorem check_cut_bad (p : Pol) (n k : Nat) (hn : n ≤ total p) (hk : k < n) (h : itemErr p k ≠ 0) : (checkS (cutS p n)).2 ≠ 0 := by
  rcases checkS_cases (cutS p n) with ⟨_, e⟩ | ⟨_, _, h0⟩ | ⟨_, k', _, e, h1, _⟩
  · rw [e]; decide
  · have := h0 k (by rw [total_cut p n hn]; exact hk)
    rw [itemErr_cut p n k hk hn] at this
    exact absurd this h
  · rw [e]; exact h1
theorem check_name_bad (p : Pol) (h : nameB p.name = false) : (checkS p).2 ≠ 0 := by
  rcases checkS_cases p with ⟨_, e⟩ | ⟨h', _⟩ | ⟨h', _⟩
  · rw [e]; decide
  · rw [h] at h'; cases h'
  · rw [h] at h'; cases h'
end Go.Proofs.YtemkffejekgmfaaDoor
