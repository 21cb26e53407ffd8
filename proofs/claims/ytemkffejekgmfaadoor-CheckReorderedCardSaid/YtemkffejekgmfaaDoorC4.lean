/- check's predicates on numbers and names: wrong and the closures. -/
import Derived.Test.YtemkffejekgmfaaDoorE2
namespace Go.Proofs.YtemkffejekgmfaaDoor
open Go.RowKit Go.Shelf Go.Lib

def wrongB (x : Wn) : Bool := decide (x.n < x.lo) || decide (x.hi < x.n)

theorem pred_wrong (w : World) : PredB 56 #[] avWn wrongB w := fun W x hb => by
  obtain ⟨n, lo, hi⟩ := x
  unfold wrongB avWn
  dsimp only
  by_cases h1 : n < lo
  · go_enter Tryd.func56, Tryd.ntmps56
    go_wp2
    go_ret
    exact ⟨by simp [h1], (Below.refl _ _).alloc (Nat.le_refl _) _⟩
  · by_cases h2 : hi < n
    · go_enter Tryd.func56, Tryd.ntmps56
      go_wp2
      go_ret
      exact ⟨by first | (simp [h2]; done) | simp [h1, h2], (Below.refl _ _).alloc (Nat.le_refl _) _⟩
    · go_enter Tryd.func56, Tryd.ntmps56
      go_wp2
      go_ret
      exact ⟨by simp [h1, h2], (Below.refl _ _).alloc (Nat.le_refl _) _⟩

theorem enters_wrong : ∀ args w, (callFunc 56 args).run Tryd.prog w = .ok (.enter 56 args) w := enters_of Tryd.func56 (by kernel_rfl) rfl

theorem wrong_any (A : Option Addr) (c : Nat) (xs : List Wn) (w : World) (hx : RS encWn 3 w A xs) :
    Calls Tryd.prog 43 #[.slice A xs.length c] w fun e w' => e = .returned (.bool (xs.any wrongB)) ∧ Below w.heap.size w w' := by
  have hc := containsFunc_within wrongB 56 #[] enters_wrong A c xs w (pred_wrong w) hx
  clear hx
  generalize xs.any wrongB = r at *
  generalize xs.length = n at *
  go_enter Tryd.func43, Tryd.ntmps43
  go_wp2_with (go_at_call 55; refine hc.mono ?_; rintro e w' ⟨rfl, hb'⟩)
  go_ret
  exact ⟨rfl, hb'⟩

theorem pred_typeName (t : Ty) (B : Nat) (w : World) (hB : B < w.heap.size) (hc : w.cell? ⟨B, 0, none⟩ = some (.string t.name)) :
    PredB 42 #[.pointer (some ⟨B, 0, none⟩)] avTy (fun o => decide (o.name = t.name)) w := fun W x hb => by
  obtain ⟨xn, xf, xl⟩ := x
  obtain ⟨tn, tf, tl⟩ := t
  unfold avTy
  dsimp only at hc ⊢
  have hc' : W.cell? ⟨B, 0, none⟩ = some (.string tn) := (hb.cell (p := ⟨B, 0, none⟩) hB).trans hc
  have hBW : B < W.heap.size := Nat.lt_of_lt_of_le hB hb.size
  have hne : B ≠ W.heap.size := by omega
  clear hc
  have e : decide (xn = tn) = (xn.toList == tn.toList) := by rw [Bool.eq_iff_iff]; simp [bytes_toList_inj]
  rw [e]
  go_enter Tryd.func42, Tryd.ntmps42
  go_wp2
  go_ret
  exact ⟨rfl, (Below.refl _ _).alloc (Nat.le_refl _) _⟩

theorem pred_quorumCmd (q : Qm) (B : Nat) (w : World) (hB : B < w.heap.size) (hc : w.cell? ⟨B, 0, none⟩ = some (.int .i64 q.cmd)) :
    PredB 47 #[.pointer (some ⟨B, 0, none⟩)] avQm (fun o => decide (o.cmd = q.cmd)) w := fun W x hb => by
  obtain ⟨x1, x2, x3, x4, x5⟩ := x
  obtain ⟨q1, q2, q3, q4, q5⟩ := q
  unfold avQm
  dsimp only at hc ⊢
  have hc' : W.cell? ⟨B, 0, none⟩ = some (.int .i64 q1) := (hb.cell (p := ⟨B, 0, none⟩) hB).trans hc
  have hBW : B < W.heap.size := Nat.lt_of_lt_of_le hB hb.size
  have hne : B ≠ W.heap.size := by omega
  clear hc
  have e : decide (x1 = q1) = (x1 == q1) := by rw [Bool.eq_iff_iff]; simp
  rw [e]
  go_enter Tryd.func47, Tryd.ntmps47
  go_wp2
  go_ret
  exact ⟨rfl, (Below.refl _ _).alloc (Nat.le_refl _) _⟩
end Go.Proofs.YtemkffejekgmfaaDoor
