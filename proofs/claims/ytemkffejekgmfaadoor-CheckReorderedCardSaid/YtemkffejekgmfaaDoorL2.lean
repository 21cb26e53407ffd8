/- Plain law: blocks of a row that are sorted each by itself, and merged in pairs. -/
import Derived.Test.YtemkffejekgmfaaDoorL1
namespace Go.Proofs.YtemkffejekgmfaaDoor

section
variable {α : Type} [Inhabited α] {lt : α → α → Bool}
def Blk0 (lt : α → α → Bool) (bs : Nat) (l0 l : List α) : Prop :=
  ∃ (Cs : List (List α)) (R : List α), (∀ C ∈ Cs, C.length = bs) ∧ R.length < bs ∧ l0 = Cs.flatten ++ R ∧ l = (Cs.map (sortR lt)).flatten ++ sortR lt R
def Blk (lt : α → α → Bool) (bs a : Nat) (l0 l : List α) : Prop :=
  ∃ (Ds Cs : List (List α)) (R : List α), (∀ C ∈ Cs, C.length = bs) ∧ R.length < bs ∧ (∀ D ∈ Ds, D.length = 2 * bs) ∧ Ds.flatten.length = a ∧ l0 = Ds.flatten ++ (Cs.flatten ++ R) ∧ l = (Ds.map (sortR lt)).flatten ++ ((Cs.map (sortR lt)).flatten ++ sortR lt R)
def BlkI (lt : α → α → Bool) (bs a : Nat) (l0 l : List α) : Prop :=
  ∃ (Ds : List (List α)) (X : List α), (∀ D ∈ Ds, D.length = bs) ∧ Ds.flatten.length = a ∧ l0 = Ds.flatten ++ X ∧ l = (Ds.map (sortR lt)).flatten ++ X
theorem flat_sorted_length (lt : α → α → Bool) (Ds : List (List α)) : (Ds.map (sortR lt)).flatten.length = Ds.flatten.length := by
  induction Ds with
  | nil => rfl
  | cons D Ds ih => simp only [List.map_cons, List.flatten_cons, List.length_append, sortR_length, ih]
theorem BlkI.start (lt : α → α → Bool) (bs : Nat) (l : List α) : BlkI lt bs 0 l l := ⟨[], l, by simp, rfl, rfl, rfl⟩
theorem BlkI.length {bs a : Nat} {l0 l : List α} (h : BlkI lt bs a l0 l) : l.length = l0.length ∧ a ≤ l0.length := by
  obtain ⟨Ds, X, h1, h2, rfl, rfl⟩ := h
  refine ⟨by rw [List.length_append, List.length_append, flat_sorted_length], by rw [List.length_append, h2]; exact Nat.le_add_right _ _⟩
theorem BlkI.step {bs a : Nat} {l0 l : List α} (h : BlkI lt bs a l0 l) (hn : a + bs ≤ l0.length) :
    ∃ P X Q, l = P ++ (X ++ Q) ∧ P.length = a ∧ X.length = bs ∧ BlkI lt bs (a + bs) l0 (P ++ (sortR lt X ++ Q)) := by
  obtain ⟨Ds, X, h1, h2, rfl, rfl⟩ := h
  have hX : bs ≤ X.length := by simp only [List.length_append] at hn; omega
  have e : X.take bs ++ X.drop bs = X := List.take_append_drop _ _
  refine ⟨(Ds.map (sortR lt)).flatten, X.take bs, X.drop bs, by rw [e], by rw [flat_sorted_length]; exact h2, by simp [-List.length_flatten]; omega, Ds ++ [X.take bs], X.drop bs, ?_, ?_, ?_, ?_⟩
  · intro D hD
    rcases List.mem_append.1 hD with h | h
    · exact h1 D h
    · rw [List.mem_singleton.1 h]; simp [-List.length_flatten]; omega
  · rw [List.flatten_append]; simp [-List.length_flatten]; omega
  · rw [List.flatten_append]; simp
  · rw [List.map_append, List.flatten_append]; simp
theorem BlkI.last {bs a : Nat} {l0 l : List α} (h : BlkI lt bs a l0 l) (hn : l0.length < a + bs) :
    ∃ P X, l = P ++ (X ++ []) ∧ P.length = a ∧ a + X.length = l0.length ∧ Blk0 lt bs l0 (P ++ (sortR lt X ++ [])) := by
  obtain ⟨Ds, X, h1, h2, rfl, rfl⟩ := h
  simp only [List.length_append] at hn
  exact ⟨(Ds.map (sortR lt)).flatten, X, by simp, by rw [flat_sorted_length]; exact h2, by simp only [List.length_append]; omega, Ds, X, h1, by omega, rfl, by simp⟩
theorem Blk0.start {bs : Nat} {l0 l : List α} (h : Blk0 lt bs l0 l) : Blk lt bs 0 l0 l := by
  obtain ⟨Cs, R, h1, h2, h3, h4⟩ := h
  exact ⟨[], Cs, R, h1, h2, by simp, rfl, by simpa using h3, by simpa using h4⟩
theorem Blk0.length {bs : Nat} {l0 l : List α} (h : Blk0 lt bs l0 l) : l.length = l0.length := by
  obtain ⟨Cs, R, h1, h2, rfl, rfl⟩ := h
  simp only [List.length_append, flat_sorted_length, sortR_length]
theorem Blk.length {bs a : Nat} {l0 l : List α} (h : Blk lt bs a l0 l) : l.length = l0.length ∧ a ≤ l0.length := by
  obtain ⟨Ds, Cs, R, _, _, _, h1, rfl, rfl⟩ := h
  refine ⟨by simp only [List.length_append, flat_sorted_length, sortR_length], by rw [List.length_append, h1]; exact Nat.le_add_right _ _⟩
theorem Blk.step (H : Ord lt) {bs a : Nat} {l0 l : List α} (h : Blk lt bs a l0 l) (hn : a + 2 * bs ≤ l0.length) :
    ∃ P U V Q, l = P ++ (U ++ (V ++ Q)) ∧ P.length = a ∧ U.length = bs ∧ V.length = bs ∧ Srt lt U ∧ Srt lt V ∧ Blk lt bs (a + 2 * bs) l0 (P ++ (sortR lt (U ++ V) ++ Q)) := by
  obtain ⟨Ds, Cs, R, h1, h2, h3, h4, rfl, rfl⟩ := h
  simp only [List.length_append] at hn
  match Cs with
  | [] => simp [-List.length_flatten] at hn; omega
  | [C] => have := h1 C (by simp); simp [-List.length_flatten] at hn; omega
  | C1 :: C2 :: Cs =>
    have e1 := h1 C1 (by simp)
    have e2 := h1 C2 (by simp)
    refine ⟨(Ds.map (sortR lt)).flatten, sortR lt C1, sortR lt C2, (Cs.map (sortR lt)).flatten ++ sortR lt R, by simp only [List.map_cons, List.flatten_cons, List.append_assoc], by rw [flat_sorted_length]; exact h4, by rw [sortR_length]; exact e1, by rw [sortR_length]; exact e2, (sortR_stab H C1).srt, (sortR_stab H C2).srt,
      Ds ++ [C1 ++ C2], Cs, R, fun C hC => h1 C (by simp [hC]), h2, ?_, ?_, ?_, ?_⟩
    · intro D hD
      rcases List.mem_append.1 hD with h | h
      · exact h3 D h
      · rw [List.mem_singleton.1 h]; simp [-List.length_flatten]; omega
    · rw [List.flatten_append]; simp [-List.length_flatten]; omega
    · rw [List.flatten_append]; simp
    · rw [List.map_append, List.flatten_append, sortR_app H]; simp
theorem Blk.last (H : Ord lt) {bs a : Nat} {l0 l : List α} (h : Blk lt bs a l0 l) (hn : l0.length < a + 2 * bs) :
    (a + bs < l0.length → ∃ P U V, l = P ++ (U ++ (V ++ [])) ∧ P.length = a ∧ U.length = bs ∧ a + bs + V.length = l0.length ∧ Srt lt U ∧ Srt lt V ∧ Blk0 lt (2 * bs) l0 (P ++ (sortR lt (U ++ V) ++ []))) ∧
    (l0.length ≤ a + bs → Blk0 lt (2 * bs) l0 l) := by
  obtain ⟨Ds, Cs, R, h1, h2, h3, h4, rfl, rfl⟩ := h
  simp only [List.length_append] at hn
  match Cs with
  | C1 :: C2 :: Cs => have e1 := h1 C1 (by simp); have e2 := h1 C2 (by simp); simp [-List.length_flatten] at hn; omega
  | [] =>
    refine ⟨fun h => by simp [-List.length_flatten] at h; omega, fun _ => ⟨Ds, R, h3, by omega, by simp, by simp⟩⟩
  | [C] =>
    have e1 := h1 C (by simp)
    refine ⟨fun h => ⟨(Ds.map (sortR lt)).flatten, sortR lt C, sortR lt R, by simp, by rw [flat_sorted_length]; exact h4, by rw [sortR_length]; exact e1, ?_, (sortR_stab H C).srt, (sortR_stab H R).srt, Ds, C ++ R, h3, by simp [-List.length_flatten]; omega, by simp, by rw [sortR_app H]; simp⟩, fun h => ?_⟩
    · rw [sortR_length]; simp only [List.length_append, List.flatten_cons, List.flatten_nil, List.append_nil]; omega
    · simp only [List.length_append, List.flatten_cons, List.flatten_nil, List.append_nil] at h
      have : R = [] := List.eq_nil_of_length_eq_zero (by omega)
      subst this
      exact ⟨Ds, C, h3, by omega, by simp, by simp [show sortR lt ([] : List α) = [] from rfl]⟩
theorem Blk0.fin {bs : Nat} {l0 l : List α} (h : Blk0 lt bs l0 l) (hn : l0.length ≤ bs) : l = sortR lt l0 := by
  obtain ⟨Cs, R, h1, h2, rfl, rfl⟩ := h
  simp only [List.length_append] at hn
  match Cs with
  | [] => simp
  | [C] =>
    have e1 := h1 C (by simp)
    simp only [List.flatten_cons, List.flatten_nil, List.append_nil] at hn
    have : R = [] := List.eq_nil_of_length_eq_zero (by omega)
    subst this
    simp [show sortR lt ([] : List α) = [] from rfl]
  | C1 :: C2 :: Cs => have e1 := h1 C1 (by simp); have e2 := h1 C2 (by simp); simp [-List.length_flatten] at hn; omega
end
end Go.Proofs.YtemkffejekgmfaaDoor
