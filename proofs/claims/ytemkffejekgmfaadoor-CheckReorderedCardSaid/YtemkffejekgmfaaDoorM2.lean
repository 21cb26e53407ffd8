/- Rules and quorums as keys of maps. -/
import Derived.Test.YtemkffejekgmfaaDoorO1
import Derived.Test.YtemkffejekgmfaaDoorM0
namespace Go.Proofs.YtemkffejekgmfaaDoor
open Go.RowKit

theorem types_size : ∃ n, Tryd.prog.types.size = n + 1 := ⟨Tryd.prog.types.size - 1, by have : 0 < Tryd.prog.types.size := of_decide_eq_true (by kernel_rfl); omega⟩
theorem laid_out0 : laidOutB Tryd.prog = true := by kernel_rfl
noncomputable def klRl (x : Rl) : Lit := (keyOf Tryd.prog 40 (avRl x)).getD .nil
theorem keyType_Rl : Tryd.prog.keyType 40 = true := by kernel_rfl
theorem keyAt_Rl : Tryd.prog.keyTypeAt 3 40 = true := by kernel_rfl
theorem keyed_Rl : KeyRec Tryd.prog 40 avRl okRl klRl where
  law := deep_law_laid laid_out0 (m := 3) (by omega) (of_decide_eq_true (by kernel_rfl)) keyAt_Rl (by rw [under_Rl])
  key := by
    intro x hx
    have : ∃ l, keyOf Tryd.prog 40 (avRl x) = some l := by
      obtain ⟨x1, x2, x3⟩ := x
      simp only [okRl, wfI] at hx
      obtain ⟨h1, h2, h3⟩ := hx
      obtain ⟨n, hn⟩ := types_size
      unfold keyOf
      rw [under_Rl, hn]
      have hf : Value.formed Tryd.prog 40 (avRl ⟨x1, x2, x3⟩) = true := by simp [Value.formed, avRl, cellsOf_Rl]
      simp only [keyType_Rl, hf, Bool.and_self, if_true]
      have hc : Tryd.prog.cellsOf 3 = 1 := by kernel_rfl
      simp [Program.keyLits, Tryd.underlying40, cellsOf_Rl, avRl, Value.cells, hc, *]
    obtain ⟨l, hl⟩ := this
    unfold klRl
    rw [hl]; rfl
  inj := by
    intro x y h
    obtain ⟨x1, x2, x3⟩ := x
    cases y
    simp [avRl] at h
    simp [h]
noncomputable def klQm (x : Qm) : Lit := (keyOf Tryd.prog 42 (avQm x)).getD .nil
theorem keyType_Qm : Tryd.prog.keyType 42 = true := by kernel_rfl
theorem keyAt_Qm : Tryd.prog.keyTypeAt 3 42 = true := by kernel_rfl
theorem keyed_Qm : KeyRec Tryd.prog 42 avQm okQm klQm where
  law := deep_law_laid laid_out0 (m := 3) (by omega) (of_decide_eq_true (by kernel_rfl)) keyAt_Qm (by rw [under_Qm])
  key := by
    intro x hx
    have : ∃ l, keyOf Tryd.prog 42 (avQm x) = some l := by
      obtain ⟨x1, x2, x3, x4, x5⟩ := x
      simp only [okQm, wfI] at hx
      obtain ⟨h1, h2, h3, h4, h5⟩ := hx
      obtain ⟨n, hn⟩ := types_size
      unfold keyOf
      rw [under_Qm, hn]
      have hf : Value.formed Tryd.prog 42 (avQm ⟨x1, x2, x3, x4, x5⟩) = true := by simp [Value.formed, avQm, cellsOf_Qm]
      simp only [keyType_Qm, hf, Bool.and_self, if_true]
      have hc : Tryd.prog.cellsOf 3 = 1 := by kernel_rfl
      simp [Program.keyLits, Tryd.underlying42, cellsOf_Qm, avQm, Value.cells, hc, *]
    obtain ⟨l, hl⟩ := this
    unfold klQm
    rw [hl]; rfl
  inj := by
    intro x y h
    obtain ⟨x1, x2, x3, x4, x5⟩ := x
    cases y
    simp [avQm] at h
    simp [h]
end Go.Proofs.YtemkffejekgmfaaDoor
