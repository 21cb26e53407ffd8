/- Rows of the call's own and what they read as; lists of cells. -/
import Derived.Test.YtemkffejekgmfaaDoorS0
import Derived.Laws.AppendOwn
import Derived.Laws.OwnMore
namespace Go.Proofs.YtemkffejekgmfaaDoor
open Go.RowKit

theorem flat_length {α : Type} {enc : α → List Value} {k : Nat} (hk : ∀ x, (enc x).length = k) (xs : List α) : (xs.flatMap enc).length = xs.length * k := by
  induction xs with
  | nil => simp
  | cons x xs ih => simp [ih, hk, Nat.add_mul, Nat.add_comm]

theorem flat_get {α : Type} [Inhabited α] {enc : α → List Value} {k : Nat} (hk : ∀ x, (enc x).length = k) (xs : List α) (q r : Nat) (hq : q < xs.length) (hr : r < k) : (xs.flatMap enc)[q * k + r]? = (enc xs[q]!)[r]? := by
  induction xs generalizing q with
  | nil => simp at hq
  | cons x xs ih =>
    cases q with
    | zero => simp [List.getElem?_append_left, hk, hr]
    | succ q =>
      have hle : k ≤ (q + 1) * k + r := by rw [Nat.add_mul]; omega
      rw [List.flatMap_cons, List.getElem?_append_right (by rw [hk]; exact hle), hk, show (q + 1) * k + r - k = q * k + r by rw [Nat.add_mul]; omega, ih q (by simpa using hq)]
      simp

theorem flat_split {k j n : Nat} (hk : 0 < k) (hj : j < n * k) : ∃ q r, q < n ∧ r < k ∧ j = q * k + r := by
  refine ⟨j / k, j % k, ?_, Nat.mod_lt _ hk, ?_⟩
  · rw [Nat.div_lt_iff_lt_mul hk]; exact hj
  · rw [Nat.mul_comm]; exact (Nat.div_add_mod j k).symm

/-- The cells that an append reads. -/
theorem Row.news {α : Type} [Inhabited α] {enc : α → List Value} {k : Nat} {w : World} {b off : Nat} {xs : List α} (hk : ∀ x, (enc x).length = k) (h0 : 0 < k) (h : Row enc k w b off xs) :
    ∀ j u, (xs.flatMap enc)[j]? = some u → w.cell? ((⟨b, off, none⟩ : Addr).add j) = some u := by
  intro j u hu
  have hj := (List.getElem?_eq_some_iff.1 hu).1
  rw [flat_length hk] at hj
  obtain ⟨q, r, hq, hr, rfl⟩ := flat_split h0 hj
  rw [flat_get hk xs q r hq hr] at hu
  have := h q hq r u hu
  rw [Nat.add_assoc] at this
  unfold Addr.add
  split
  · rename_i h1; rw [h1] at this; exact this
  · exact this

theorem RS_nil {α : Type} [Inhabited α] (enc : α → List Value) (k : Nat) (w : World) (A : Option Addr) : RS enc k w A ([] : List α) := ⟨by simp, fun h => absurd h (Nat.lt_irrefl _)⟩

/-- What is owned is read. -/
theorem RS_own {α : Type} [Inhabited α] {enc : α → List Value} {k base e : Nat} {w : World} {v : Value} {xs : List α} (hk : ∀ x, (enc x).length = k) (_h0 : 0 < k) (hl : xs.length ≤ 140737488355328)
    (h : w.ownsRow base e k v xs.length (xs.flatMap enc)) : ∃ A cap, v = .slice A xs.length cap ∧ xs.length ≤ cap ∧ RS enc k w A xs := by
  rcases Nat.eq_zero_or_pos xs.length with hn | hn
  · obtain rfl := List.eq_nil_of_length_eq_zero hn
    rcases h.2 with ⟨rfl, _⟩ | ⟨g, cap, cur, rfl, _⟩
    · exact ⟨_, _, rfl, Nat.le_refl _, RS_nil _ _ _ _⟩
    · exact ⟨_, _, rfl, Nat.zero_le _, RS_nil _ _ _ _⟩
  · rcases h.2 with ⟨_, h1⟩ | ⟨g, cap, cur, rfl, hg, hh, hc, _⟩
    · omega
    · refine ⟨_, _, rfl, hc, hl, fun _ => ⟨g, 0, rfl, (Array.getElem?_eq_some_iff.1 hh).1, fun j hj i u hu => ?_⟩⟩
      have hi : i < k := by have := (List.getElem?_eq_some_iff.1 hu).1; rwa [hk] at this
      have := h.cells (g := g) rfl (j * k + i) u (by rw [flat_get hk xs j i hj hi]; exact hu)
      rw [Nat.zero_add]
      unfold Addr.add at this
      split at this
      · rename_i h1; rw [h1]; exact this
      · simpa using this

theorem own_below {w w' : World} {base e k n : Nat} {v : Value} {xs : List Value} (h : w.ownsRow base e k v n xs) (hb : Below w.heap.size w w') : w'.ownsRow base e k v n xs :=
  h.kept (row := none) ⟨hb.os, hb.tape, hb.output, hb.size, fun i hi _ => hb.block i hi⟩ (by cases v.ownBlock <;> simp)

theorem len_Ty (x : Ty) : (encTy x).length = 3 := rfl
theorem len_Rl (x : Rl) : (encRl x).length = 3 := rfl
theorem len_Qm (x : Qm) : (encQm x).length = 5 := rfl
theorem one_Ty (xs : List Ty) : ∀ u ∈ xs.flatMap encTy, u.oneCell' = true := by
  intro u hu; obtain ⟨x, _, hx⟩ := List.mem_flatMap.1 hu; simp [encTy] at hx; rcases hx with rfl | rfl | rfl <;> rfl
theorem one_Rl (xs : List Rl) : ∀ u ∈ xs.flatMap encRl, u.oneCell' = true := by
  intro u hu; obtain ⟨x, _, hx⟩ := List.mem_flatMap.1 hu; simp [encRl] at hx; rcases hx with rfl | rfl | rfl <;> rfl
theorem one_Qm (xs : List Qm) : ∀ u ∈ xs.flatMap encQm, u.oneCell' = true := by
  intro u hu; obtain ⟨x, _, hx⟩ := List.mem_flatMap.1 hu; simp [encQm] at hx; rcases hx with rfl | rfl | rfl | rfl | rfl <;> rfl
end Go.Proofs.YtemkffejekgmfaaDoor
