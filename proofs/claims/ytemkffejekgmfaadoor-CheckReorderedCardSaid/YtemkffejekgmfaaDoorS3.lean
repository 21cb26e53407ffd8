/- A row of the call's own under a sort: what holds from exchange to exchange. -/
import Derived.Test.YtemkffejekgmfaaDoorS2
import Derived.Laws.IdiomCopy
import Derived.Deep.Upon
namespace Go.Proofs.YtemkffejekgmfaaDoor
open Go.RowKit Go.Lib

def swapL {α : Type} [Inhabited α] (l : List α) (i j : Nat) : List α := (l.set i l[j]!).set j l[i]!
theorem swapL_length {α : Type} [Inhabited α] (l : List α) (i j : Nat) : (swapL l i j).length = l.length := by simp [swapL]
theorem swapL_get {α : Type} [Inhabited α] (l : List α) (i j q : Nat) (hi : i < l.length) (hj : j < l.length) : (swapL l i j)[q]! = if q = j then l[i]! else if q = i then l[j]! else l[q]! := by
  unfold swapL
  by_cases h1 : q = j
  · subst h1; rw [if_pos rfl]; simp [List.getElem!_eq_getElem?_getD, hj]
  · by_cases h2 : q = i
    · subst h2; rw [if_neg h1, if_pos rfl, List.getElem!_eq_getElem?_getD, List.getElem?_set_ne (Ne.symm h1)]; simp [List.getElem!_eq_getElem?_getD, hi]
    · rw [if_neg h1, if_neg h2]; simp [List.getElem!_eq_getElem?_getD, List.getElem?_set_ne (Ne.symm h1), List.getElem?_set_ne (Ne.symm h2)]

structure SO {α : Type} [Inhabited α] (enc : α → List Value) (k : Nat) (T : TypeId) (W0 : World) (B blk cap : Nat) (l : List α) (W : World) : Prop where
  bel : Below B W0 W
  hB : B ≤ blk
  row : Row enc k W blk 0 l
  shape : ∃ cur, W.heap[blk]? = some (.cells cur T (0, 0)) ∧ cur.size = cap * k ∧ l.length ≤ cap ∧ cap ≤ maxLen

section
variable {α : Type} [Inhabited α] {enc : α → List Value} {k : Nat} {T : TypeId} {W0 W W' : World} {B blk cap : Nat} {l : List α}
theorem SO.lt (h : SO enc k T W0 B blk cap l W) : blk < W.heap.size := by
  obtain ⟨cur, h1, _⟩ := h.shape
  exact (Array.getElem?_eq_some_iff.1 h1).1
theorem SO.low (h : SO enc k T W0 B blk cap l W) : B ≤ W.heap.size := Nat.le_trans h.hB (Nat.le_of_lt h.lt)
theorem SO.grow (h : SO enc k T W0 B blk cap l W) (hb : Below W.heap.size W W') : SO enc k T W0 B blk cap l W' := by
  refine ⟨h.bel.trans (hb.mono h.low), h.hB, h.row.below h.lt hb, ?_⟩
  obtain ⟨cur, h1, h2⟩ := h.shape
  exact ⟨cur, (hb.block _ h.lt).trans h1, h2⟩
theorem SO.drew (h : SO enc k T W0 B blk cap l W) : SO enc k T W0 B blk cap l W.drew := h.grow (Below.refl _ _).drew
theorem SO.cell (h : SO enc k T W0 B blk cap l W) (j : Nat) (hj : j < l.length) (i : Nat) (u : Value) (hu : (enc l[j]!)[i]? = some u) : W.cell? ⟨blk, j * k + i, none⟩ = some u := by
  have := h.row j hj i u hu
  rwa [Nat.zero_add] at this
theorem SO.frz (h : SO enc k T W0 B blk cap l W) (o : Nat) : W.frozen? ⟨blk, o, none⟩ = false := by
  obtain ⟨cur, h1, _⟩ := h.shape
  unfold World.frozen?
  rw [h1]; simp
theorem heap_setCells_row (g o : Nat) (vs : List Value) {w : World} {c : Array Value} {t : TypeId} {fr : Nat × Nat} (h : w.heap[g]? = some (.cells c t fr)) : ∃ c', (w.setCells g o vs).heap[g]? = some (.cells c' t fr) ∧ c'.size = c.size := by
  induction vs generalizing w o c with
  | nil => exact ⟨c, h, rfl⟩
  | cons v vs ih =>
    have hg := (Array.getElem?_eq_some_iff.1 h).1
    have : (w.setCell ⟨g, o, none⟩ v).heap[g]? = some (.cells (c.setIfInBounds o v) t fr) := by
      unfold World.setCell
      simp [Array.getElem?_modify, h]
    obtain ⟨c', h1, h2⟩ := ih (o + 1) this
    exact ⟨c', h1, by rw [h2]; simp⟩
theorem below_setCells (g : Nat) (hg : B ≤ g) (vs : List Value) : ∀ (o : Nat) (w : World), Below B W0 w → Below B W0 (w.setCells g o vs) := by
  induction vs with
  | nil => intro o w h; exact h
  | cons v vs ih => intro o w h; exact ih _ _ (h.setCell hg v)
theorem mul_gap {k i j r : Nat} (hr : r < k) (h : i ≠ j) : i * k + r < j * k ∨ j * k + k ≤ i * k + r := by
  rcases Nat.lt_or_gt_of_ne h with h | h
  · left; have := Nat.mul_le_mul_right k (show i + 1 ≤ j from h); rw [Nat.add_mul, Nat.one_mul] at this; omega
  · right; have := Nat.mul_le_mul_right k (show j + 1 ≤ i from h); rw [Nat.add_mul, Nat.one_mul] at this; omega
/-- Behind an exchange. -/
theorem SO.swapped (hk : ∀ x, (enc x).length = k) (h : SO enc k T W0 B blk cap l W) (i j : Nat) (hi : i < l.length) (hj : j < l.length) :
    SO enc k T W0 B blk cap (swapL l i j) ((W.setCells blk (i * k) (enc l[j]!)).setCells blk (j * k) (enc l[i]!)) := by
  have hrow := h.row
  have hex : ∀ q, q < l.length → ∀ r, r < k → (W.cell? ⟨blk, q * k + r, none⟩).isSome = true := fun q hq r hr => by
    obtain ⟨u, hu⟩ : ∃ u, (enc l[q]!)[r]? = some u := ⟨_, List.getElem?_eq_getElem (by rw [hk]; exact hr)⟩
    rw [h.cell q hq r u hu]; rfl
  refine ⟨below_setCells blk h.hB _ _ _ (below_setCells blk h.hB _ _ _ h.bel), h.hB, ?_, ?_⟩
  · intro q hq r u hu
    rw [swapL_length] at hq
    have hr : r < k := by have := (List.getElem?_eq_some_iff.1 hu).1; rwa [hk] at this
    rw [swapL_get l i j q hi hj] at hu
    rw [Nat.zero_add]
    have hex2 : ∀ r, r < (enc l[i]!).length → ((W.setCells blk (i * k) (enc l[j]!)).cell? ⟨blk, j * k + r, none⟩).isSome = true := fun r hr => by
      rw [hk] at hr
      by_cases hij : j = i
      · subst hij
        rw [World.cell?_setCells_in blk _ _ _ (fun r hr => hex j hj r (by rwa [hk] at hr)) r (by rw [hk]; exact hr)]; rfl
      · rw [World.cell?_setCells_out blk _ _ _ _ (fun _ _ => by rw [hk]; exact mul_gap hr hij)]
        exact hex j hj r hr
    by_cases h1 : q = j
    · subst h1
      rw [if_pos rfl] at hu
      have hr' : r < (enc l[i]!).length := by rw [hk]; exact hr
      rw [World.cell?_setCells_in blk _ _ _ hex2 r hr', ← hu, List.getElem?_eq_getElem hr']
    · rw [if_neg h1] at hu
      rw [World.cell?_setCells_out blk _ _ _ _ (fun _ _ => by rw [hk]; exact mul_gap hr h1)]
      by_cases h2 : q = i
      · subst h2
        rw [if_pos rfl] at hu
        have hr' : r < (enc l[j]!).length := by rw [hk]; exact hr
        rw [World.cell?_setCells_in blk _ _ _ (fun r hr => hex q hi r (by rwa [hk] at hr)) r hr', ← hu, List.getElem?_eq_getElem hr']
      · rw [if_neg h2] at hu
        rw [World.cell?_setCells_out blk _ _ _ _ (fun _ _ => by rw [hk]; exact mul_gap hr h2)]
        exact h.cell q hq r u hu
  · obtain ⟨cur, h1, h2, h3, h4⟩ := h.shape
    obtain ⟨c1, e1, e2⟩ := heap_setCells_row blk (i * k) (enc l[j]!) h1
    obtain ⟨c2, e3, e4⟩ := heap_setCells_row blk (j * k) (enc l[i]!) e1
    exact ⟨c2, e3, by rw [e4, e2, h2], by rw [swapL_length]; exact h3, h4⟩
theorem SO.of_own (hk : ∀ x, (enc x).length = k) {n : Nat} {A : Addr} {xs : List α} (h : W.ownsRow B T k (.slice (some A) n cap) xs.length (xs.flatMap enc)) : ∃ g, A = ⟨g, 0, none⟩ ∧ n = xs.length ∧ SO enc k T W B g cap xs W := by
  rcases h.2 with ⟨h1, _⟩ | ⟨g, cap', cur, h1, h2, h3, h4, h5, h6, h7⟩
  · cases h1
  · cases h1
    refine ⟨g, rfl, rfl, Below.refl _ _, h2, ?_, cur, h3, h6, h4, h5⟩
    intro j hj i u hu
    have hi : i < k := by have := (List.getElem?_eq_some_iff.1 hu).1; rwa [hk] at this
    have hf := flat_get hk xs j i hj hi
    rw [hu, ← h7, List.getElem?_take_of_lt (by have := Nat.mul_le_mul_right k (show j + 1 ≤ xs.length from hj); rw [Nat.add_mul, Nat.one_mul] at this; omega)] at hf
    unfold World.cell?
    rw [h3]
    simpa using hf
theorem SO.own (hk : ∀ x, (enc x).length = k) (h0 : 0 < k) (h : SO enc k T W0 B blk cap l W) : W.ownsRow B T k (.slice (some ⟨blk, 0, none⟩) l.length cap) l.length (l.flatMap enc) := by
  obtain ⟨cur, h1, h2, h3, h4⟩ := h.shape
  refine ⟨flat_length hk l, .inr ⟨blk, cap, cur, rfl, h.hB, h1, h3, h4, h2, ?_⟩⟩
  have hm : l.length * k ≤ cur.size := by rw [h2]; exact Nat.mul_le_mul_right k h3
  refine List.ext_getElem? fun n => ?_
  rcases Nat.lt_or_ge n (l.length * k) with hn | hn
  · obtain ⟨q, r, hq, hr, rfl⟩ := flat_split h0 hn
    rw [List.getElem?_take_of_lt hn, flat_get hk l q r hq hr]
    have hr' : r < (enc l[q]!).length := by rw [hk]; exact hr
    have := h.cell q hq r _ (List.getElem?_eq_getElem hr')
    unfold World.cell? at this
    rw [h1] at this
    rw [List.getElem?_eq_getElem hr', ← this]
    simp
  · rw [List.getElem?_eq_none (by rw [List.length_take]; simp; omega), List.getElem?_eq_none (by rw [flat_length hk]; exact hn)]
end
end Go.Proofs.YtemkffejekgmfaaDoor
