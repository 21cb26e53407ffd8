/- Plain law: stable sorting. -/
import Derived.Test.YtemkffejekgmfaaDoorK3
namespace Go.Proofs.YtemkffejekgmfaaDoor

structure Ord {α : Type} (lt : α → α → Bool) : Prop where
  asym : ∀ x y, lt x y = true → lt y x = false
  neg : ∀ x y z, lt y x = false → lt z y = false → lt z x = false

section
variable {α : Type} {lt : α → α → Bool}
def eqvB (lt : α → α → Bool) (k x : α) : Bool := !lt x k && !lt k x
def Srt (lt : α → α → Bool) (l : List α) : Prop := l.Pairwise (fun a b => lt b a = false)
structure Stab (lt : α → α → Bool) (xs ys : List α) : Prop where
  srt : Srt lt ys
  flt : ∀ k, ys.filter (eqvB lt k) = xs.filter (eqvB lt k)

theorem Ord.irr (H : Ord lt) (x : α) : lt x x = false := by
  cases h : lt x x with
  | false => rfl
  | true => have := H.asym x x h; rw [h] at this; exact this
theorem Ord.eqv_self (H : Ord lt) (x : α) : eqvB lt x x = true := by simp [eqvB, H.irr]
theorem filter_swap (H : Ord lt) (U V : List α) (h : ∀ u ∈ U, ∀ v ∈ V, lt v u = true) (k : α) : (V ++ U).filter (eqvB lt k) = (U ++ V).filter (eqvB lt k) := by
  rw [List.filter_append, List.filter_append]
  rcases hU : U.filter (eqvB lt k) with _ | ⟨u, U'⟩
  · simp
  · rcases hV : V.filter (eqvB lt k) with _ | ⟨v, V'⟩
    · simp
    · exfalso
      have hu : u ∈ U.filter (eqvB lt k) := by rw [hU]; simp
      have hv : v ∈ V.filter (eqvB lt k) := by rw [hV]; simp
      rw [List.mem_filter] at hu hv
      have h1 := h u hu.1 v hv.1
      simp [eqvB] at hu hv
      have := H.neg u k v hu.2.2 hv.2.1
      rw [h1] at this; cases this
theorem Stab.uniq (H : Ord lt) : ∀ (ys zs : List α), Srt lt ys → Srt lt zs → (∀ k, ys.filter (eqvB lt k) = zs.filter (eqvB lt k)) → ys = zs := by
  intro ys
  induction ys with
  | nil =>
    intro zs _ _ h
    cases zs with
    | nil => rfl
    | cons z zs => have := h z; simp [H.eqv_self] at this
  | cons y ys ih =>
    intro zs hy hz h
    cases zs with
    | nil => have := h y; simp [H.eqv_self] at this
    | cons z zs =>
      have hzy : z ∈ (y :: ys) := by
        have : z ∈ (z :: zs).filter (eqvB lt z) := by simp [H.eqv_self]
        rw [← h z] at this
        exact (List.mem_filter.1 this).1
      have hyz : y ∈ (z :: zs) := by
        have : y ∈ (y :: ys).filter (eqvB lt y) := by simp [H.eqv_self]
        rw [h y] at this
        exact (List.mem_filter.1 this).1
      have h1 : lt z y = false := by
        rcases List.mem_cons.1 hzy with e | e
        · rw [e]; exact H.irr y
        · exact (List.pairwise_cons.1 hy).1 z e
      have h2 : lt y z = false := by
        rcases List.mem_cons.1 hyz with e | e
        · rw [e]; exact H.irr z
        · exact (List.pairwise_cons.1 hz).1 y e
      have h3 := h y
      rw [List.filter_cons_of_pos (H.eqv_self y), List.filter_cons_of_pos (by simp [eqvB, h1, h2])] at h3
      injection h3 with h4 h5
      subst h4
      congr 1
      refine ih zs (List.pairwise_cons.1 hy).2 (List.pairwise_cons.1 hz).2 (fun k => ?_)
      have h6 := h k
      cases hk : eqvB lt k y with
      | true => rw [List.filter_cons_of_pos hk, List.filter_cons_of_pos hk] at h6; injection h6
      | false => rwa [List.filter_cons_of_neg (by simp [hk]), List.filter_cons_of_neg (by simp [hk])] at h6
theorem Srt.app {A B : List α} (hA : Srt lt A) (hB : Srt lt B) (h : ∀ a ∈ A, ∀ b ∈ B, lt b a = false) : Srt lt (A ++ B) := List.pairwise_append.2 ⟨hA, hB, h⟩
theorem Srt.left {A B : List α} (h : Srt lt (A ++ B)) : Srt lt A := (List.pairwise_append.1 h).1
theorem Srt.right {A B : List α} (h : Srt lt (A ++ B)) : Srt lt B := (List.pairwise_append.1 h).2.1
theorem Srt.cross {A B : List α} (h : Srt lt (A ++ B)) : ∀ a ∈ A, ∀ b ∈ B, lt b a = false := (List.pairwise_append.1 h).2.2
theorem Ord.le_lt (H : Ord lt) {x y z : α} (h1 : lt y x = false) (h2 : lt y z = true) : lt x z = true := by
  cases h : lt x z with
  | true => rfl
  | false => have := H.neg z x y h h1; rw [h2] at this; cases this
theorem Ord.lt_le (H : Ord lt) {x y z : α} (h1 : lt x y = true) (h2 : lt z y = false) : lt x z = true := by
  cases h : lt x z with
  | true => rfl
  | false => have := H.neg y z x h2 h; rw [h1] at this; cases this
end

section
variable {α : Type} [Inhabited α] {lt : α → α → Bool}
theorem scanAt_spec (x : α) (l : List α) : ∀ n, n ≤ l.length → (∀ q, scanAt lt x l n ≤ q → q < n → lt x l[q]! = true) ∧ (0 < scanAt lt x l n → lt x l[scanAt lt x l n - 1]! = false) := by
  intro n
  induction n with
  | zero => intro _; exact ⟨fun q h1 h2 => by omega, fun h => by simp [scanAt] at h⟩
  | succ n ih =>
    intro hn
    obtain ⟨h1, h2⟩ := ih (by omega)
    unfold scanAt
    cases hx : lt x l[n]! with
    | true =>
      rw [if_pos rfl]
      refine ⟨fun q ha hb => ?_, h2⟩
      by_cases hq : q = n
      · rw [hq]; exact hx
      · exact h1 q ha (by omega)
    | false =>
      rw [if_neg (by simp)]
      exact ⟨fun q ha hb => by omega, fun _ => by simpa using hx⟩
theorem mem_take_get {l : List α} {n : Nat} {x : α} (h : x ∈ l.take n) : ∃ q, q < n ∧ q < l.length ∧ l[q]! = x := by
  obtain ⟨q, hq, e⟩ := List.mem_iff_getElem.1 h
  rw [List.length_take] at hq
  exact ⟨q, by omega, by omega, by rw [← e]; simp [show q < l.length by omega]⟩
theorem mem_drop_get {l : List α} {n : Nat} {x : α} (h : x ∈ l.drop n) : ∃ q, n ≤ q ∧ q < l.length ∧ l[q]! = x := by
  obtain ⟨q, hq, e⟩ := List.mem_iff_getElem.1 h
  rw [List.length_drop] at hq
  exact ⟨n + q, by omega, by omega, by rw [← e]; simp [show n + q < l.length by omega]⟩
theorem Srt.le (H : Ord lt) {l : List α} (h : Srt lt l) (p q : Nat) (hpq : p ≤ q) (hq : q < l.length) : lt l[q]! l[p]! = false := by
  rcases Nat.eq_or_lt_of_le hpq with e | e
  · subst e; exact H.irr _
  · have := (List.pairwise_iff_getElem.1 h) p q (by omega) hq e
    simpa [show p < l.length by omega, hq] using this
theorem insR_stab (H : Ord lt) (l : List α) (x : α) (h : Srt lt l) : Stab lt (l ++ [x]) (insR lt l x) := by
  obtain ⟨h1, h2⟩ := scanAt_spec (lt := lt) x l l.length (Nat.le_refl _)
  have hs := scanAt_le lt x l l.length
  unfold insR
  generalize scanAt lt x l l.length = s at *
  have htd : l.take s ++ l.drop s = l := List.take_append_drop s l
  have hl : Srt lt (l.take s ++ l.drop s) := by rw [htd]; exact h
  have hd : ∀ u ∈ l.drop s, lt x u = true := by
    intro u hu
    obtain ⟨q, h3, h4, rfl⟩ := mem_drop_get hu
    exact h1 q h3 h4
  have ht : ∀ u ∈ l.take s, lt x u = false := by
    intro u hu
    obtain ⟨q, h3, h4, rfl⟩ := mem_take_get hu
    exact H.neg _ _ _ (h.le H q (s - 1) (by omega) (by omega)) (h2 (by omega))
  refine ⟨?_, fun k => ?_⟩
  · rw [List.append_assoc]
    refine hl.left.app ?_ ?_
    · refine List.pairwise_cons.2 ⟨fun u hu => H.asym _ _ (hd u hu), hl.right⟩
    · intro a ha b hb
      rcases List.mem_cons.1 hb with e | e
      · rw [e]; exact ht a ha
      · exact hl.cross a ha b e
  · have := filter_swap H (l.drop s) [x] (fun u hu v hv => by rw [List.mem_singleton.1 hv]; exact hd u hu) k
    rw [List.append_assoc, List.filter_append, this, ← List.filter_append, ← List.append_assoc, htd]
theorem sortR_stab (H : Ord lt) (xs : List α) : Stab lt xs (sortR lt xs) := by
  have hr : ∀ xs : List α, Stab lt xs.reverse (sortR lt xs.reverse) := by
    intro xs
    induction xs with
    | nil => exact ⟨List.Pairwise.nil, fun _ => rfl⟩
    | cons x xs ih =>
      rw [List.reverse_cons, sortR_snoc]
      have h := insR_stab H (sortR lt xs.reverse) x ih.srt
      exact ⟨h.srt, fun k => by rw [h.flt, List.filter_append, List.filter_append, ih.flt]⟩
  simpa using hr xs.reverse
theorem sortR_eq (H : Ord lt) {xs ys : List α} (h : Stab lt xs ys) : sortR lt xs = ys :=
  Stab.uniq H _ _ (sortR_stab H xs).srt h.srt (fun k => ((sortR_stab H xs).flt k).trans (h.flt k).symm)
theorem sortR_srt (H : Ord lt) {xs : List α} (h : Srt lt xs) : sortR lt xs = xs := sortR_eq H ⟨h, fun _ => rfl⟩
theorem sortR_app (H : Ord lt) (xs ys : List α) : sortR lt (sortR lt xs ++ sortR lt ys) = sortR lt (xs ++ ys) :=
  sortR_eq H ⟨(sortR_stab H _).srt, fun k => by rw [(sortR_stab H (xs ++ ys)).flt, List.filter_append, List.filter_append, (sortR_stab H xs).flt, (sortR_stab H ys).flt]⟩
/-- Two sorted rows, cut so that the left parts come first. -/
theorem merge_cut (H : Ord lt) (U1 U2 V1 V2 : List α) (hU : Srt lt (U1 ++ U2)) (hV : Srt lt (V1 ++ V2)) (h1 : ∀ u ∈ U2, ∀ v ∈ V1, lt v u = true) (h2 : ∀ u ∈ U1, ∀ v ∈ V2, lt v u = false) :
    sortR lt ((U1 ++ U2) ++ (V1 ++ V2)) = sortR lt (U1 ++ V1) ++ sortR lt (U2 ++ V2) := by
  have mem : ∀ (xs : List α) x, x ∈ sortR lt xs → x ∈ xs := fun xs x hx => by
    have : x ∈ (sortR lt xs).filter (eqvB lt x) := by rw [List.mem_filter]; exact ⟨hx, H.eqv_self x⟩
    rw [(sortR_stab H xs).flt] at this
    exact (List.mem_filter.1 this).1
  refine sortR_eq H ⟨(sortR_stab H _).srt.app (sortR_stab H _).srt ?_, fun k => ?_⟩
  · intro a ha b hb
    rcases List.mem_append.1 (mem _ _ ha) with ha | ha <;> rcases List.mem_append.1 (mem _ _ hb) with hb | hb
    · exact hU.cross a ha b hb
    · exact h2 a ha b hb
    · exact H.asym _ _ (h1 b hb a ha)
    · exact hV.cross a ha b hb
  · rw [List.filter_append, (sortR_stab H _).flt, (sortR_stab H _).flt, ← List.filter_append]
    have := filter_swap H U2 V1 h1 k
    simp only [List.append_assoc, List.filter_append] at this ⊢
    rw [← List.append_assoc (List.filter _ V1), this]; simp
/-- One element goes into a sorted row from the left. -/
theorem merge_left (H : Ord lt) (u : α) (V1 V2 : List α) (hV : Srt lt (V1 ++ V2)) (h1 : ∀ v ∈ V1, lt v u = true) (h2 : ∀ v ∈ V2, lt v u = false) : sortR lt (u :: (V1 ++ V2)) = V1 ++ u :: V2 := by
  have := merge_cut H [] [u] V1 V2 (by simp [Srt]) hV (fun x hx v hv => by rw [List.mem_singleton.1 hx]; exact h1 v hv) (fun x hx => by simp at hx)
  simp only [List.nil_append, List.singleton_append] at this
  rw [this, sortR_srt H hV.left, sortR_srt H]
  exact List.pairwise_cons.2 ⟨h2, hV.right⟩
theorem merge_right (H : Ord lt) (v : α) (U1 U2 : List α) (hU : Srt lt (U1 ++ U2)) (h1 : ∀ u ∈ U2, lt v u = true) (h2 : ∀ u ∈ U1, lt v u = false) : sortR lt ((U1 ++ U2) ++ [v]) = U1 ++ v :: U2 := by
  have := merge_cut H U1 U2 [v] [] hU (by simp [Srt]) (fun u hu x hx => by rw [List.mem_singleton.1 hx]; exact h1 u hu) (fun x _ y hy => by simp at hy)
  simp only [List.append_nil] at this
  rw [this, sortR_srt H hU.right, sortR_srt H, List.append_assoc]; rfl
  exact hU.left.app (by simp [Srt]) (fun a ha b hb => by rw [List.mem_singleton.1 hb]; exact h2 a ha)
end
end Go.Proofs.YtemkffejekgmfaaDoor
