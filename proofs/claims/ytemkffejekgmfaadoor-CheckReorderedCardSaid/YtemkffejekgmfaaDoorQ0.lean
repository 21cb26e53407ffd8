/- A region that draws its order, whose operations read and whose callees may lay blocks: walked once, in the class of the worlds that keep what lay. -/
import Derived.WalkKit
import Derived.WalkSpells
import Derived.Below
import Derived.WalkSmall
import Derived.Deep.QuietTactic
import Derived.BigQuiet
import Derived.Test.YtemkffejekgmfaaDoorProg
import Derived.Test.YtemkffejekgmfaaDoorS1
namespace Go.Proofs.YtemkffejekgmfaaDoor
open Go.RowKit

/-- A world in which all that lay in W lies. -/
structure Grows (W : World) where
  w : World
  h : Below W.heap.size W w

instance (W : World) : Inhabited (Grows W) := ⟨⟨W, Below.refl _ _⟩⟩

theorem wp_region_grows {P : Program} {id : Nat} {Q : Exit → Act → World → Prop} {a : Act} {w : World} {l : List Oper} (hm : P.follows .mixedOrders = true) (hB : Region.lexB .any l.toArray = true)
    (h : wpQuiet P l.toArray (fun w' => ∃ p : Grows w, w' = p.w) (fun a' => ∀ w', (∃ p : Grows w, w' = p.w) → Q .normal a' w') l a) : (Code.region id l.toArray true).wp P Q a w :=
  wp_region_quiet (C := fun w' => ∃ p : Grows w, w' = p.w) hm hB ⟨⟨w.drew, (Below.refl _ _).drew⟩, rfl⟩ (by simpa using h)

theorem Grows.cell {W : World} {b o : Nat} {v : Value} (h : W.cell? ⟨b, o, none⟩ = some v) (p : Grows W) : p.w.cell? ⟨b, o, none⟩ = some v :=
  (p.h.cell (p := ⟨b, o, none⟩) (World.block_lt_of_cell? W ⟨b, o, none⟩ h)).trans h
theorem Grows.call {P : Program} {f : FuncId} {args : Array Value} {W : World} {v : Value} (p : Grows W) (h : Calls P f args p.w fun e w' => e = .returned v ∧ Below p.w.heap.size p.w w') :
    Calls P f args p.w fun e w'' => e = .returned v ∧ ∃ q : Grows W, w'' = q.w :=
  h.mono fun _ w'' ⟨he, hb⟩ => ⟨he, ⟨w'', p.h.trans (hb.mono p.h.size)⟩, rfl⟩
theorem Grows.call_same {P : Program} {f : FuncId} {args : Array Value} {W : World} {v : Value} (p : Grows W) (h : Calls P f args p.w fun e w' => e = .returned v ∧ p.w = w') :
    Calls P f args p.w fun e w'' => e = .returned v ∧ ∃ q : Grows W, w'' = q.w :=
  h.mono fun _ _ ⟨he, hb⟩ => ⟨he, p, hb.symm⟩
end Go.Proofs.YtemkffejekgmfaaDoor
