/- slices.swapRangeCmpFunc at the structs. -/
import Derived.Test.YtemkffejekgmfaaDoorS3
import Derived.Test.YtemkffejekgmfaaDoorE2
import Derived.BigRegion
namespace Go.Proofs.YtemkffejekgmfaaDoor
open Go.RowKit Go.Shelf Go.Lib

def swapRangeL {α : Type} [Inhabited α] (l : List α) (a b : Nat) : Nat → List α
  | 0 => l
  | n + 1 => swapL (swapRangeL l a b n) (a + n) (b + n)
theorem swapRangeL_length {α : Type} [Inhabited α] (l : List α) (a b n : Nat) : (swapRangeL l a b n).length = l.length := by
  induction n with
  | zero => rfl
  | succ n ih => simp [swapRangeL, swapL_length, ih]

set_option maxRecDepth 100000 in
set_option maxHeartbeats 2000000 in
theorem swapRange_Rule (a b n : Nat) (l : List Rl) (T : TypeId) (W0 : World) (B blk cap : Nat) (f : Value) (W : World) (h : SO encRl 3 T W0 B blk cap l W) (h1 : a + n ≤ b) (h2 : b + n ≤ l.length) (hc : l.length ≤ 140737488355328) :
    Calls Tryd.prog 69 #[.slice (some ⟨blk, 0, none⟩) l.length cap, .int .i64 a, .int .i64 b, .int .i64 n, f] W fun e w' => e = .returned (.tuple #[]) ∧ SO encRl 3 T W0 B blk cap (swapRangeL l a b n) w' := by
  generalize hm : l.length = m at h2 hc ⊢
  have HH : Hid (SO encRl 3 T W0 B blk cap l W) := h
  have HM : Hid (l.length = m) := hm
  clear h hm
  go_enter Tryd.func69, Tryd.ntmps69
  go_wp2
  go_loopg [10] n (fun gg s wr => ∃ i, i ≤ n ∧ n - i ≤ gg ∧ s = .int .i64 (i : Nat) ∧ Hid (SO encRl 3 T W0 B blk cap (swapRangeL l a b i) wr))
  case atStart => exact ⟨0, by omega, by omega, by simp, HH⟩
  case round =>
    obtain ⟨i, hi, hg, rfl, hS⟩ := hrel
    by_cases hlt : i < n
    · have hltz : (i : Int) < (n : Int) := by omega
      have p0 : (0 : Int) ≤ (a : Int) + (i : Int) := by omega
      have q0 : (0 : Int) ≤ (b : Int) + (i : Int) := by omega
      have p1 : (a : Int) + (i : Int) < (m : Int) := by omega
      have q1 : (b : Int) + (i : Int) < (m : Int) := by omega
      have p2 : IntKind.i64.wrap ((a : Int) + (i : Int)) = (a : Int) + (i : Int) := by rw [IntKind.wrap_i64]; omega
      have q2 : IntKind.i64.wrap ((b : Int) + (i : Int)) = (b : Int) + (i : Int) := by rw [IntKind.wrap_i64]; omega
      have p3 : ((a : Int) + (i : Int)).toNat = a + i := by omega
      have q3 : ((b : Int) + (i : Int)).toNat = b + i := by omega
      have hL := swapRangeL_length l a b i
      have hA : a + i < (swapRangeL l a b i).length := by rw [hL, HM.out]; omega
      have hB : b + i < (swapRangeL l a b i).length := by rw [hL, HM.out]; omega
      have hsw := hS.out.swapped len_Rl (a + i) (b + i) hA hB
      have cA := fun r u => hS.out.cell (a + i) hA r u
      have cB := fun r u => hS.out.cell (b + i) hB r u
      have fz := fun o => hS.out.frz o
      rw [show swapL (swapRangeL l a b i) (a + i) (b + i) = swapRangeL l a b (i + 1) from rfl] at hsw
      generalize (swapRangeL l a b i)[a + i]! = x at *
      generalize (swapRangeL l a b i)[b + i]! = y at *
      clear hL hA hB hS
      obtain ⟨x1, x2, x3⟩ := x
      obtain ⟨y1, y2, y3⟩ := y
      have cA0 := cA 0 _ rfl; have cA1 := cA 1 _ rfl; have cA2 := cA 2 _ rfl
      have cB0 := cB 0 _ rfl; have cB1 := cB 1 _ rfl; have cB2 := cB 2 _ rfl
      try have cA3 := cA 3 _ rfl; have cB3 := cB 3 _ rfl; have cA4 := cA 4 _ rfl; have cB4 := cB 4 _ rfl
      simp only [encRl, World.setCells] at hsw
      simp only [Nat.add_zero] at cA0 cB0
      have HSW := Lib.hid hsw
      clear cA cB hsw
      have n1 : (a + i) * 3 ≠ (b + i) * 3 := by omega
      go_wp2_with fail
      go_big_region
      all_goals go_wp2
      go_roundg (n - (i + 1))
      case measure => omega
      case rel => 
        refine ⟨i + 1, by omega, by omega, by go_num, ?_⟩
        exact HSW.out.drew
    · have hltz : ¬ (i : Int) < (n : Int) := by omega
      have : i = n := by omega
      subst this
      go_wp2
      go_end0
      exact ⟨rfl, hS.out⟩
set_option maxRecDepth 100000 in
set_option maxHeartbeats 2000000 in
theorem swapRange_Quorum (a b n : Nat) (l : List Qm) (T : TypeId) (W0 : World) (B blk cap : Nat) (f : Value) (W : World) (h : SO encQm 5 T W0 B blk cap l W) (h1 : a + n ≤ b) (h2 : b + n ≤ l.length) (hc : l.length ≤ 140737488355328) :
    Calls Tryd.prog 70 #[.slice (some ⟨blk, 0, none⟩) l.length cap, .int .i64 a, .int .i64 b, .int .i64 n, f] W fun e w' => e = .returned (.tuple #[]) ∧ SO encQm 5 T W0 B blk cap (swapRangeL l a b n) w' := by
  generalize hm : l.length = m at h2 hc ⊢
  have HH : Hid (SO encQm 5 T W0 B blk cap l W) := h
  have HM : Hid (l.length = m) := hm
  clear h hm
  go_enter Tryd.func70, Tryd.ntmps70
  go_wp2
  go_loopg [10] n (fun gg s wr => ∃ i, i ≤ n ∧ n - i ≤ gg ∧ s = .int .i64 (i : Nat) ∧ Hid (SO encQm 5 T W0 B blk cap (swapRangeL l a b i) wr))
  case atStart => exact ⟨0, by omega, by omega, by simp, HH⟩
  case round =>
    obtain ⟨i, hi, hg, rfl, hS⟩ := hrel
    by_cases hlt : i < n
    · have hltz : (i : Int) < (n : Int) := by omega
      have p0 : (0 : Int) ≤ (a : Int) + (i : Int) := by omega
      have q0 : (0 : Int) ≤ (b : Int) + (i : Int) := by omega
      have p1 : (a : Int) + (i : Int) < (m : Int) := by omega
      have q1 : (b : Int) + (i : Int) < (m : Int) := by omega
      have p2 : IntKind.i64.wrap ((a : Int) + (i : Int)) = (a : Int) + (i : Int) := by rw [IntKind.wrap_i64]; omega
      have q2 : IntKind.i64.wrap ((b : Int) + (i : Int)) = (b : Int) + (i : Int) := by rw [IntKind.wrap_i64]; omega
      have p3 : ((a : Int) + (i : Int)).toNat = a + i := by omega
      have q3 : ((b : Int) + (i : Int)).toNat = b + i := by omega
      have hL := swapRangeL_length l a b i
      have hA : a + i < (swapRangeL l a b i).length := by rw [hL, HM.out]; omega
      have hB : b + i < (swapRangeL l a b i).length := by rw [hL, HM.out]; omega
      have hsw := hS.out.swapped len_Qm (a + i) (b + i) hA hB
      have cA := fun r u => hS.out.cell (a + i) hA r u
      have cB := fun r u => hS.out.cell (b + i) hB r u
      have fz := fun o => hS.out.frz o
      rw [show swapL (swapRangeL l a b i) (a + i) (b + i) = swapRangeL l a b (i + 1) from rfl] at hsw
      generalize (swapRangeL l a b i)[a + i]! = x at *
      generalize (swapRangeL l a b i)[b + i]! = y at *
      clear hL hA hB hS
      obtain ⟨x1, x2, x3, x4, x5⟩ := x
      obtain ⟨y1, y2, y3, y4, y5⟩ := y
      have cA0 := cA 0 _ rfl; have cA1 := cA 1 _ rfl; have cA2 := cA 2 _ rfl
      have cB0 := cB 0 _ rfl; have cB1 := cB 1 _ rfl; have cB2 := cB 2 _ rfl
      try have cA3 := cA 3 _ rfl; have cB3 := cB 3 _ rfl; have cA4 := cA 4 _ rfl; have cB4 := cB 4 _ rfl
      simp only [encQm, World.setCells] at hsw
      simp only [Nat.add_zero] at cA0 cB0
      have HSW := Lib.hid hsw
      clear cA cB hsw
      have n1 : (a + i) * 5 ≠ (b + i) * 5 := by omega
      go_wp2_with fail
      go_big_region
      all_goals go_wp2
      go_roundg (n - (i + 1))
      case measure => omega
      case rel => 
        refine ⟨i + 1, by omega, by omega, by go_num, ?_⟩
        exact HSW.out.drew
    · have hltz : ¬ (i : Int) < (n : Int) := by omega
      have : i = n := by omega
      subst this
      go_wp2
      go_end0
      exact ⟨rfl, hS.out⟩
end Go.Proofs.YtemkffejekgmfaaDoor
