/- The two orders of Normal: the closures that the sorts take. -/
import Derived.Test.YtemkffejekgmfaaDoorC1
import Derived.Test.YtemkffejekgmfaaDoorC3
import Derived.Deep.RegionHeld3
namespace Go.Proofs.YtemkffejekgmfaaDoor
open Go.RowKit Go.Shelf Go.Lib

def cfRl (x y : Rl) : Int := orI [cmpI x.kind y.kind, cmpI x.a y.a, cmpI x.b y.b]
def cfQm (x y : Qm) : Int := cmpI x.cmd y.cmd
set_option maxRecDepth 100000 in
set_option maxHeartbeats 2000000 in
theorem cmp_Rule (x y : Rl) (w : World) :
   Calls Tryd.prog 32 #[avRl x, avRl y] w fun e w' => e = .returned (.int .i64 (cfRl x y)) ∧ Below w.heap.size w w' := by
  obtain ⟨x1, x2, x3⟩ := x
  obtain ⟨y1, y2, y3⟩ := y
  unfold avRl cfRl
  dsimp only
  go_enter Tryd.func32, Tryd.ntmps32
  go_wp2
  have HB : Below w.heap.size w ((w.alloc (.cells #[.int .i64 x1, .int .i64 x2, .int .i64 x3] 40)).alloc (.cells #[.int .i64 y1, .int .i64 y2, .int .i64 y3] 40)) := ((Below.refl _ _).alloc (Nat.le_refl _) _).alloc (by simp) _
  have A1 : ((w.alloc (.cells #[.int .i64 x1, .int .i64 x2, .int .i64 x3] 40)).alloc (.cells #[.int .i64 y1, .int .i64 y2, .int .i64 y3] 40)).cell? ⟨w.heap.size, 0, none⟩ = some (.int .i64 x1) := by simp [go_sem]
  have A2 : ((w.alloc (.cells #[.int .i64 x1, .int .i64 x2, .int .i64 x3] 40)).alloc (.cells #[.int .i64 y1, .int .i64 y2, .int .i64 y3] 40)).cell? ⟨w.heap.size, 1, none⟩ = some (.int .i64 x2) := by simp [go_sem]
  have A3 : ((w.alloc (.cells #[.int .i64 x1, .int .i64 x2, .int .i64 x3] 40)).alloc (.cells #[.int .i64 y1, .int .i64 y2, .int .i64 y3] 40)).cell? ⟨w.heap.size, 2, none⟩ = some (.int .i64 x3) := by simp [go_sem]
  have B1 : ((w.alloc (.cells #[.int .i64 x1, .int .i64 x2, .int .i64 x3] 40)).alloc (.cells #[.int .i64 y1, .int .i64 y2, .int .i64 y3] 40)).cell? ⟨w.heap.size+1, 0, none⟩ = some (.int .i64 y1) := by simp [go_sem]
  have B2 : ((w.alloc (.cells #[.int .i64 x1, .int .i64 x2, .int .i64 x3] 40)).alloc (.cells #[.int .i64 y1, .int .i64 y2, .int .i64 y3] 40)).cell? ⟨w.heap.size+1, 1, none⟩ = some (.int .i64 y2) := by simp [go_sem]
  have B3 : ((w.alloc (.cells #[.int .i64 x1, .int .i64 x2, .int .i64 x3] 40)).alloc (.cells #[.int .i64 y1, .int .i64 y2, .int .i64 y3] 40)).cell? ⟨w.heap.size+1, 2, none⟩ = some (.int .i64 y3) := by simp [go_sem]
  have HS : w.heap.size + 2 = ((w.alloc (.cells #[.int .i64 x1, .int .i64 x2, .int .i64 x3] 40)).alloc (.cells #[.int .i64 y1, .int .i64 y2, .int .i64 y3] 40)).heap.size := by simp
  have HB' := Lib.hid HB
  clear HB
  generalize ((w.alloc (.cells #[.int .i64 x1, .int .i64 x2, .int .i64 x3] 40)).alloc (.cells #[.int .i64 y1, .int .i64 y2, .int .i64 y3] 40)) = W at *
  have HS' := Lib.hid HS
  clear HS
  obtain ⟨p, hp⟩ : ∃ p, w.heap.size = p := ⟨_, rfl⟩
  rw [hp] at A1 A2 A3 B1 B2 B3 HS' ⊢
  have HP := Lib.hid hp
  clear hp
  go_region_held3 (fun W => W.cell? ⟨p, 0, none⟩ = some (.int .i64 x1) ∧ W.cell? ⟨p, 1, none⟩ = some (.int .i64 x2) ∧ W.cell? ⟨p, 2, none⟩ = some (.int .i64 x3) ∧ W.cell? ⟨p + 1, 0, none⟩ = some (.int .i64 y1) ∧ W.cell? ⟨p + 1, 1, none⟩ = some (.int .i64 y2) ∧ W.cell? ⟨p + 1, 2, none⟩ = some (.int .i64 y3)) (go_keep) (first | (go_at_call 34; (with_reducible refine (cmp_any _ _ _).mono ?_); rintro e w' ⟨rfl, rfl⟩) | (go_at_call 33; (with_reducible refine (or_three _ (cmpI x1 y1) (cmpI x2 y2) (cmpI x3 y3) _ ?_ ?_ ?_).mono ?_); (simp [go_sem]); (simp [go_sem]); (simp [go_sem]); rintro e w' ⟨rfl, rfl⟩))
  go_wp2
  go_ret
  exact ⟨rfl, (HB'.out.alloc (by have h1 := HP.out; have h2 := HS'.out; omega) _).drew⟩

set_option maxRecDepth 100000 in
set_option maxHeartbeats 2000000 in
theorem cmp_Quorum (x y : Qm) (w : World) :
   Calls Tryd.prog 36 #[avQm x, avQm y] w fun e w' => e = .returned (.int .i64 (cfQm x y)) ∧ Below w.heap.size w w' := by
  obtain ⟨x1, x2, x3, x4, x5⟩ := x
  obtain ⟨y1, y2, y3, y4, y5⟩ := y
  unfold avQm cfQm
  dsimp only
  have HB : Below w.heap.size w ((w.alloc (.cells #[.int .i64 x1, .int .i64 x2, .int .i64 x3, .int .i64 x4, .int .i64 x5] 42)).alloc (.cells #[.int .i64 y1, .int .i64 y2, .int .i64 y3, .int .i64 y4, .int .i64 y5] 42)) := ((Below.refl _ _).alloc (Nat.le_refl _) _).alloc (by simp) _
  have HB' := Lib.hid HB
  clear HB
  go_enter Tryd.func36, Tryd.ntmps36
  go_wp2_with (go_at_call 34; refine (cmp_any _ _ _).mono ?_; rintro e w' ⟨rfl, rfl⟩)
  go_ret
  exact ⟨rfl, HB'.out⟩
attribute [irreducible] cfRl cfQm
end Go.Proofs.YtemkffejekgmfaaDoor
