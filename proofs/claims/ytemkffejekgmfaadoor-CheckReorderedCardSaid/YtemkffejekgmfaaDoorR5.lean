/- The reference of layer 13: before, Normal. -/
import Derived.Test.YtemkffejekgmfaaDoorR4
import Derived.Test.YtemkffejekgmfaaDoorC3
import Derived.Test.YtemkffejekgmfaaDoorS2
namespace Go.Proofs.YtemkffejekgmfaaDoor
open Go.RowKit Go.Shelf Go.Lib

def ltRl (a b : Rl) : Bool := if a.kind = b.kind then (if a.a = b.a then decide (a.b < b.b) else decide (a.a < b.a)) else decide (a.kind < b.kind)

set_option maxHeartbeats 1000000 in
theorem before_any (x y : Rl) (w : World) : Calls Tryd.prog 37 #[avRl x, avRl y] w fun e w' => e = .returned (.bool (ltRl x y)) ∧ Below w.heap.size w w' := by
  obtain ⟨x1, x2, x3⟩ := x
  obtain ⟨y1, y2, y3⟩ := y
  have hA : Below w.heap.size w ((w.alloc (.cells #[.int .i64 x1, .int .i64 x2, .int .i64 x3] 40)).alloc (.cells #[.int .i64 y1, .int .i64 y2, .int .i64 y3] 40)) := ((Below.refl _ _).alloc (Nat.le_refl _) _).alloc (by simp) _
  unfold avRl ltRl
  dsimp only
  by_cases h1 : x1 = y1
  · rw [if_pos h1]
    have h1' : (x1 != y1) = false := by simpa using h1
    have H1 := Lib.hid h1
    by_cases h2 : x2 = y2
    · rw [if_pos h2]
      have h2' : (x2 != y2) = false := by simpa using h2
      have H2 := Lib.hid h2
      clear h1 h2
      go_enter Tryd.func37, Tryd.ntmps37
      go_wp2
      go_ret
      exact ⟨rfl, hA⟩
    · rw [if_neg h2]
      have h2' : (x2 != y2) = true := by simpa using h2
      clear h1 h2
      go_enter Tryd.func37, Tryd.ntmps37
      go_wp2
      go_ret
      exact ⟨rfl, hA⟩
  · rw [if_neg h1]
    have h1' : (x1 != y1) = true := by simpa using h1
    clear h1
    go_enter Tryd.func37, Tryd.ntmps37
    go_wp2
    go_ret
    exact ⟨rfl, hA⟩

/-- How far an element goes into a sorted row, from the right. -/
def scanAt {α : Type} [Inhabited α] (lt : α → α → Bool) (x : α) (l : List α) : Nat → Nat
  | 0 => 0
  | n + 1 => if lt x l[n]! = true then scanAt lt x l n else n + 1
def insR {α : Type} [Inhabited α] (lt : α → α → Bool) (l : List α) (x : α) : List α := l.take (scanAt lt x l l.length) ++ [x] ++ l.drop (scanAt lt x l l.length)
def sortR {α : Type} [Inhabited α] (lt : α → α → Bool) (xs : List α) : List α := xs.foldl (insR lt) []
theorem insR_length {α : Type} [Inhabited α] (lt : α → α → Bool) (l : List α) (x : α) : (insR lt l x).length = l.length + 1 := by
  unfold insR; simp; omega
theorem sortR_length {α : Type} [Inhabited α] (lt : α → α → Bool) (xs : List α) : (sortR lt xs).length = xs.length := by
  unfold sortR
  have : ∀ (ys acc : List α), (ys.foldl (insR lt) acc).length = acc.length + ys.length := by
    intro ys
    induction ys with
    | nil => intro acc; simp
    | cons y ys ih => intro acc; simp [ih, insR_length]; omega
  simpa using this xs []
theorem sortR_snoc {α : Type} [Inhabited α] (lt : α → α → Bool) (xs : List α) (x : α) : sortR lt (xs ++ [x]) = insR lt (sortR lt xs) x := by
  unfold sortR; simp
theorem scanAt_le {α : Type} [Inhabited α] (lt : α → α → Bool) (x : α) (l : List α) (n : Nat) : scanAt lt x l n ≤ n := by
  induction n with
  | zero => simp [scanAt]
  | succ n ih => unfold scanAt; split <;> omega

/-- What the loops of Normal keep: the two boxes, and the rows that out holds. -/
structure NSt (w W : World) (pn : ByteArray) (A2 : Option Addr) (n2 c2 : Nat) (A3 : Option Addr) (n3 c3 : Nat) (v1 v2 v3 : Value) (t : List Ty) (r : List Rl) (q : List Qm) : Prop where
  bel : Below w.heap.size w W
  sz : w.heap.size + 3 ≤ W.heap.size
  p2 : W.cell? ⟨w.heap.size, 2, none⟩ = some (.slice A2 n2 c2)
  p3 : W.cell? ⟨w.heap.size, 3, none⟩ = some (.slice A3 n3 c3)
  u0 : W.cell? ⟨w.heap.size + 1, 0, none⟩ = some (.string ByteArray.empty)
  u1 : W.cell? ⟨w.heap.size + 1, 1, none⟩ = some (.slice none 0 0)
  u2 : W.cell? ⟨w.heap.size + 1, 2, none⟩ = some (.slice none 0 0)
  u3 : W.cell? ⟨w.heap.size + 1, 3, none⟩ = some (.slice none 0 0)
  uf : ∀ j, W.frozen? ⟨w.heap.size + 1, j, none⟩ = false
  o0 : W.cell? ⟨w.heap.size + 2, 0, none⟩ = some (.string pn)
  o1 : W.cell? ⟨w.heap.size + 2, 1, none⟩ = some v1
  o2 : W.cell? ⟨w.heap.size + 2, 2, none⟩ = some v2
  o3 : W.cell? ⟨w.heap.size + 2, 3, none⟩ = some v3
  ff : ∀ j, W.frozen? ⟨w.heap.size + 2, j, none⟩ = false
  r1 : W.ownsRow (w.heap.size + 3) 46 3 v1 t.length (t.flatMap encTy)
  r2 : W.ownsRow (w.heap.size + 3) 40 3 v2 r.length (r.flatMap encRl)
  r3 : W.ownsRow (w.heap.size + 3) 42 5 v3 q.length (q.flatMap encQm)

section
variable {w W W' : World} {pn : ByteArray} {A2 A3 : Option Addr} {n2 c2 n3 c3 : Nat} {v1 v2 v3 v : Value} {t : List Ty} {r r' : List Rl} {q q' : List Qm}
theorem NSt.grow (h : NSt w W pn A2 n2 c2 A3 n3 c3 v1 v2 v3 t r q) (hb : Below W.heap.size W W') : NSt w W' pn A2 n2 c2 A3 n3 c3 v1 v2 v3 t r q := by
  have hs := h.sz
  have c : ∀ b o, b < w.heap.size + 3 → W'.cell? ⟨b, o, none⟩ = W.cell? ⟨b, o, none⟩ := fun b o hlt => hb.cell (p := ⟨b, o, none⟩) (by simp; omega)
  have f : ∀ b o, b < w.heap.size + 3 → W'.frozen? ⟨b, o, none⟩ = W.frozen? ⟨b, o, none⟩ := fun b o hlt => hb.frozen (p := ⟨b, o, none⟩) (by simp; omega)
  exact ⟨h.bel.trans (hb.mono h.bel.size), Nat.le_trans h.sz hb.size, (c _ _ (by omega)).trans h.p2, (c _ _ (by omega)).trans h.p3,
    (c _ _ (by omega)).trans h.u0, (c _ _ (by omega)).trans h.u1, (c _ _ (by omega)).trans h.u2, (c _ _ (by omega)).trans h.u3, fun j => (f _ _ (by omega)).trans (h.uf j),
    (c _ _ (by omega)).trans h.o0, (c _ _ (by omega)).trans h.o1, (c _ _ (by omega)).trans h.o2, (c _ _ (by omega)).trans h.o3, fun j => (f _ _ (by omega)).trans (h.ff j),
    own_below h.r1 hb, own_below h.r2 hb, own_below h.r3 hb⟩
theorem NSt.set (h : NSt w W pn A2 n2 c2 A3 n3 c3 v1 v2 v3 t r q) (j : Nat) (u : Value) :
    (∀ b o, (b ≠ w.heap.size + 2 ∨ o ≠ j) → (W.setCell ⟨w.heap.size + 2, j, none⟩ u).cell? ⟨b, o, none⟩ = W.cell? ⟨b, o, none⟩) ∧ Below w.heap.size w (W.setCell ⟨w.heap.size + 2, j, none⟩ u) :=
  ⟨fun b o hne => World.cell?_setCell_other _ _ _ _ (by intro e; cases e; omega), h.bel.setCell (by simp) _⟩
theorem NSt.store2 (h : NSt w W pn A2 n2 c2 A3 n3 c3 v1 v2 v3 t r q) (hv : W.ownsRow (w.heap.size + 3) 40 3 v r'.length (r'.flatMap encRl)) :
    NSt w (W.setCell ⟨w.heap.size + 2, 2, none⟩ v) pn A2 n2 c2 A3 n3 c3 v1 v v3 t r' q := by
  obtain ⟨c, b⟩ := h.set 2 v
  have f : ∀ a, (W.setCell ⟨w.heap.size + 2, 2, none⟩ v).frozen? a = W.frozen? a := fun a => World.frozen?_setCell _ _ _ _
  exact ⟨b, by simpa using h.sz, (c _ _ (by omega)).trans h.p2, (c _ _ (by omega)).trans h.p3,
    (c _ _ (by omega)).trans h.u0, (c _ _ (by omega)).trans h.u1, (c _ _ (by omega)).trans h.u2, (c _ _ (by omega)).trans h.u3, fun j => (f _).trans (h.uf j),
    (c _ _ (by omega)).trans h.o0, (c _ _ (by omega)).trans h.o1, World.cell?_setCell_same' _ _ _ (by rw [h.o2]; rfl), (c _ _ (by omega)).trans h.o3, fun j => (f _).trans (h.ff j),
    ownsRow_setCell_below h.r1 (by simp) _, ownsRow_setCell_below hv (by simp) _, ownsRow_setCell_below h.r3 (by simp) _⟩
theorem NSt.store3 (h : NSt w W pn A2 n2 c2 A3 n3 c3 v1 v2 v3 t r q) (hv : W.ownsRow (w.heap.size + 3) 42 5 v q'.length (q'.flatMap encQm)) :
    NSt w (W.setCell ⟨w.heap.size + 2, 3, none⟩ v) pn A2 n2 c2 A3 n3 c3 v1 v2 v t r q' := by
  obtain ⟨c, b⟩ := h.set 3 v
  have f : ∀ a, (W.setCell ⟨w.heap.size + 2, 3, none⟩ v).frozen? a = W.frozen? a := fun a => World.frozen?_setCell _ _ _ _
  exact ⟨b, by simpa using h.sz, (c _ _ (by omega)).trans h.p2, (c _ _ (by omega)).trans h.p3,
    (c _ _ (by omega)).trans h.u0, (c _ _ (by omega)).trans h.u1, (c _ _ (by omega)).trans h.u2, (c _ _ (by omega)).trans h.u3, fun j => (f _).trans (h.uf j),
    (c _ _ (by omega)).trans h.o0, (c _ _ (by omega)).trans h.o1, (c _ _ (by omega)).trans h.o2, World.cell?_setCell_same' _ _ _ (by rw [h.o3]; rfl), fun j => (f _).trans (h.ff j),
    ownsRow_setCell_below h.r1 (by simp) _, ownsRow_setCell_below h.r2 (by simp) _, ownsRow_setCell_below hv (by simp) _⟩
end
end Go.Proofs.YtemkffejekgmfaaDoor
