/- '==' and '!=' of the structs, and slices.Index, slices.Contains, slices.Equal at them. -/
import Derived.Test.YtemkffejekgmfaaDoorC2
import Derived.Laws.StructEq
import Derived.Shelf.SlicesE.Kit
import Derived.Shelf.SlicesE.Equal
import Derived.WalkSmall
namespace Go.Proofs.YtemkffejekgmfaaDoor
open Go.RowKit Go.Shelf Go.Lib

theorem bytes_toList_inj (a b : ByteArray) : a.toList = b.toList ↔ a = b := by
  constructor
  · intro e
    rw [ByteArray.toList_eq, ByteArray.toList_eq] at e
    obtain ⟨⟨x⟩⟩ := a
    obtain ⟨⟨y⟩⟩ := b
    simp_all
  · intro e; rw [e]

theorem guard_Ty : ∀ (op : BinOp) (a b : Operand) (x y : Ty) (w : World), Sem.run Tryd.prog (eqGuard op 46 a b (avTy x) (avTy y)) w = .ok () w := fun op a b x y w => run_eqGuard_agg w op 46 a b _ _ (by kernel_rfl)
theorem eqIn_Ty : ∀ (x y : Ty) (w : World), Sem.run Tryd.prog (Op.equalIn 10000 46 (avTy x) (avTy y)) w = .ok (decide (x = y)) w := by
  intro x y w
  have hS : Tryd.prog.underlying 46 = some (.struct (Tryd.prog.fieldsOf 46)) := by kernel_rfl
  have hp : Tryd.prog.stoodInHeld 46 = false := by kernel_rfl
  simp only [avTy]
  rw [show (10000 : Nat) = 9999 + 1 from rfl, run_equalIn_agg w 9999 46 _ _ hS hp]
  simp only [Program.fieldsOf, Tryd.underlying46]
  go_simp
  cases x; cases y
  simp only [Ty.mk.injEq]
  try simp only [bytes_toList_inj]
  repeat' split
  all_goals simp_all
theorem eql_Ty : ∀ (x y : Ty) (w : World), Sem.run Tryd.prog (binOp .eql 46 (avTy x) (avTy y)) w = .ok (.bool (decide (x = y))) w := by
  intro x y w
  have h := eqIn_Ty x y w
  simp only [avTy] at h ⊢
  rw [run_eql_struct, h]
  rfl
theorem neq_Ty : ∀ (x y : Ty) (w : World), Sem.run Tryd.prog (binOp .neq 46 (avTy x) (avTy y)) w = .ok (.bool (!decide (x = y))) w := by
  intro x y w
  have h := eqIn_Ty x y w
  simp only [avTy] at h ⊢
  rw [run_neq_struct, h]
  rfl
theorem guard_Rl : ∀ (op : BinOp) (a b : Operand) (x y : Rl) (w : World), Sem.run Tryd.prog (eqGuard op 40 a b (avRl x) (avRl y)) w = .ok () w := fun op a b x y w => run_eqGuard_agg w op 40 a b _ _ (by kernel_rfl)
theorem eqIn_Rl : ∀ (x y : Rl) (w : World), Sem.run Tryd.prog (Op.equalIn 10000 40 (avRl x) (avRl y)) w = .ok (decide (x = y)) w := by
  intro x y w
  have hS : Tryd.prog.underlying 40 = some (.struct (Tryd.prog.fieldsOf 40)) := by kernel_rfl
  have hp : Tryd.prog.stoodInHeld 40 = false := by kernel_rfl
  simp only [avRl]
  rw [show (10000 : Nat) = 9999 + 1 from rfl, run_equalIn_agg w 9999 40 _ _ hS hp]
  simp only [Program.fieldsOf, Tryd.underlying40]
  go_simp
  cases x; cases y
  simp only [Rl.mk.injEq]
  try simp only [bytes_toList_inj]
  repeat' split
  all_goals simp_all
theorem eql_Rl : ∀ (x y : Rl) (w : World), Sem.run Tryd.prog (binOp .eql 40 (avRl x) (avRl y)) w = .ok (.bool (decide (x = y))) w := by
  intro x y w
  have h := eqIn_Rl x y w
  simp only [avRl] at h ⊢
  rw [run_eql_struct, h]
  rfl
theorem neq_Rl : ∀ (x y : Rl) (w : World), Sem.run Tryd.prog (binOp .neq 40 (avRl x) (avRl y)) w = .ok (.bool (!decide (x = y))) w := by
  intro x y w
  have h := eqIn_Rl x y w
  simp only [avRl] at h ⊢
  rw [run_neq_struct, h]
  rfl
theorem guard_Qm : ∀ (op : BinOp) (a b : Operand) (x y : Qm) (w : World), Sem.run Tryd.prog (eqGuard op 42 a b (avQm x) (avQm y)) w = .ok () w := fun op a b x y w => run_eqGuard_agg w op 42 a b _ _ (by kernel_rfl)
theorem eqIn_Qm : ∀ (x y : Qm) (w : World), Sem.run Tryd.prog (Op.equalIn 10000 42 (avQm x) (avQm y)) w = .ok (decide (x = y)) w := by
  intro x y w
  have hS : Tryd.prog.underlying 42 = some (.struct (Tryd.prog.fieldsOf 42)) := by kernel_rfl
  have hp : Tryd.prog.stoodInHeld 42 = false := by kernel_rfl
  simp only [avQm]
  rw [show (10000 : Nat) = 9999 + 1 from rfl, run_equalIn_agg w 9999 42 _ _ hS hp]
  simp only [Program.fieldsOf, Tryd.underlying42]
  go_simp
  cases x; cases y
  simp only [Qm.mk.injEq]
  try simp only [bytes_toList_inj]
  repeat' split
  all_goals simp_all
theorem eql_Qm : ∀ (x y : Qm) (w : World), Sem.run Tryd.prog (binOp .eql 42 (avQm x) (avQm y)) w = .ok (.bool (decide (x = y))) w := by
  intro x y w
  have h := eqIn_Qm x y w
  simp only [avQm] at h ⊢
  rw [run_eql_struct, h]
  rfl
theorem neq_Qm : ∀ (x y : Qm) (w : World), Sem.run Tryd.prog (binOp .neq 42 (avQm x) (avQm y)) w = .ok (.bool (!decide (x = y))) w := by
  intro x y w
  have h := eqIn_Qm x y w
  simp only [avQm] at h ⊢
  rw [run_neq_struct, h]
  rfl
end Go.Proofs.YtemkffejekgmfaaDoor
