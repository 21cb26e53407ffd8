/- The data of the chapters as plain Lean records, how they stand in memory, and what 'a slice reads as a list' says. -/
import Derived.Below
import Derived.RowKit
import Derived.Lib.Hide
namespace Go.Proofs.YtemkffejekgmfaaDoor
open Go.RowKit

structure Ty where
  name : ByteArray
  flags : Int
  life : Int
  deriving DecidableEq, Inhabited
structure Rl where
  kind : Int
  a : Int
  b : Int
  deriving DecidableEq, Inhabited
structure Qm where
  cmd : Int
  cnt : Int
  delay : Int
  valid : Int
  uses : Int
  deriving DecidableEq, Inhabited
structure Wn where
  n : Int
  lo : Int
  hi : Int
  deriving DecidableEq, Inhabited

def encTy (t : Ty) : List Value := [.string t.name, .int .i64 t.flags, .int .i64 t.life]
def encRl (r : Rl) : List Value := [.int .i64 r.kind, .int .i64 r.a, .int .i64 r.b]
def encQm (q : Qm) : List Value := [.int .i64 q.cmd, .int .i64 q.cnt, .int .i64 q.delay, .int .i64 q.valid, .int .i64 q.uses]
def encWn (x : Wn) : List Value := [.int .i64 x.n, .int .i64 x.lo, .int .i64 x.hi]
def encI (x : Int) : List Value := [.int .i64 x]

def avTy (t : Ty) : Value := .agg #[.string t.name, .int .i64 t.flags, .int .i64 t.life]
def avRl (r : Rl) : Value := .agg #[.int .i64 r.kind, .int .i64 r.a, .int .i64 r.b]
def avQm (q : Qm) : Value := .agg #[.int .i64 q.cmd, .int .i64 q.cnt, .int .i64 q.delay, .int .i64 q.valid, .int .i64 q.uses]
def avWn (x : Wn) : Value := .agg #[.int .i64 x.n, .int .i64 x.lo, .int .i64 x.hi]

/-- Cells k by k from off on in block b hold the elements of xs. -/
def Row {α : Type} [Inhabited α] (enc : α → List Value) (k : Nat) (w : World) (b off : Nat) (xs : List α) : Prop :=
  ∀ j, j < xs.length → ∀ i u, (enc xs[j]!)[i]? = some u → w.cell? ⟨b, off + j * k + i, none⟩ = some u

/-- The slice value at A with n elements reads as xs. -/
def RS {α : Type} [Inhabited α] (enc : α → List Value) (k : Nat) (w : World) (A : Option Addr) (xs : List α) : Prop :=
  xs.length ≤ 140737488355328 ∧ (0 < xs.length → ∃ b off, A = some ⟨b, off, none⟩ ∧ b < w.heap.size ∧ Row enc k w b off xs)

theorem Row.below {α : Type} [Inhabited α] {enc : α → List Value} {k : Nat} {w w' : World} {b off : Nat} {xs : List α} (h : Row enc k w b off xs) (hb : b < w.heap.size) (hw : Below w.heap.size w w') : Row enc k w' b off xs :=
  fun j hj i u hu => (hw.cell (p := ⟨b, off + j * k + i, none⟩) hb).trans (h j hj i u hu)

theorem RS.below {α : Type} [Inhabited α] {enc : α → List Value} {k : Nat} {w w' : World} {A : Option Addr} {xs : List α} (h : RS enc k w A xs) (hw : Below w.heap.size w w') : RS enc k w' A xs :=
  ⟨h.1, fun h0 => by
    obtain ⟨b, off, rfl, hb, hr⟩ := h.2 h0
    exact ⟨b, off, rfl, Nat.lt_of_lt_of_le hb hw.size, hr.below hb hw⟩⟩

theorem RS.belowB {α : Type} [Inhabited α] {enc : α → List Value} {k B : Nat} {w w' : World} {A : Option Addr} {xs : List α} (h : RS enc k w A xs) (hw : Below B w w') (hB : w.heap.size ≤ B) : RS enc k w' A xs := h.below (hw.mono hB)

theorem RS.at {α : Type} [Inhabited α] {enc : α → List Value} {k : Nat} {w W : World} {A : Option Addr} {xs : List α} (h : RS enc k w A xs) (hW : Below w.heap.size w W) (j : Nat) (hj : j < xs.length) :
    ∃ b off, A = some ⟨b, off, none⟩ ∧ b < w.heap.size ∧ ∀ i u, (enc xs[j]!)[i]? = some u → W.cell? ⟨b, off + j * k + i, none⟩ = some u := by
  obtain ⟨b, off, rfl, hb, hr⟩ := h.2 (by omega)
  exact ⟨b, off, rfl, hb, fun i u hu => (hW.cell (p := ⟨b, off + j * k + i, none⟩) hb).trans (hr j hj i u hu)⟩
theorem lies_of_below {B : Nat} {W0 W : World} (h : Below B W0 W) : ∀ b o, b < B → W.cell? ⟨b, o, none⟩ = W0.cell? ⟨b, o, none⟩ := fun b o hb => h.cell (p := ⟨b, o, none⟩) hb
theorem frozen_of_below {B : Nat} {W0 W : World} (h : Below B W0 W) : ∀ b o, b < B → W.frozen? ⟨b, o, none⟩ = W0.frozen? ⟨b, o, none⟩ := fun b o hb => h.frozen (p := ⟨b, o, none⟩) hb
end Go.Proofs.YtemkffejekgmfaaDoor
