/- slices.Clone at the structs: a new slice with the same elements. -/
import Derived.Test.YtemkffejekgmfaaDoorE2
import Derived.Test.YtemkffejekgmfaaDoorS1
import Derived.OwnWalk
namespace Go.Proofs.YtemkffejekgmfaaDoor
open Go.RowKit Go.Shelf Go.Lib

/-- A result that is a slice of the call's own. -/
def Owns {α : Type} (enc : α → List Value) (k T : Nat) (xs : List α) (w : World) (e : Ending) (w' : World) : Prop :=
  ∃ v, e = .returned v ∧ w'.ownsRow w.heap.size T k v xs.length (xs.flatMap enc) ∧ Below w.heap.size w w'

theorem info_Ty : (Tryd.prog.info? 46).map (fun i => (i.zero, i.size, i.bytes)) = some (some (.agg #[.string ByteArray.empty, .int .i64 0, .int .i64 0]), 3, 32) := by kernel_rfl
set_option maxHeartbeats 1000000 in
theorem clone_Type (A : Option Addr) (k : Nat) (xs : List Ty) (w : World) (hx : RS encTy 3 w A xs) (hs : xs.length * 32 ≤ 140737488355328) :
    Calls Tryd.prog 30 #[.slice A xs.length k] w (Owns encTy 3 46 xs w) := by
  obtain ⟨i0, hi, hz0, hz1, hz2⟩ := info_parts info_Ty
  cases A with
  | none =>
    have h0 : xs.length = 0 := by
      rcases Nat.eq_zero_or_pos xs.length with h | h
      · exact h
      · obtain ⟨b, off, h1, _⟩ := hx.2 h; cases h1
    obtain rfl := List.eq_nil_of_length_eq_zero h0
    have hnil := @Lib.run_eql_slice_nil Tryd.prog
    go_enter Tryd.func30, Tryd.ntmps30
    go_wp2
    go_ret
    exact ⟨_, rfl, World.ownsRow_nil _ _ _ _, Below.refl _ _⟩
  | some ad =>
    have hnil := @Lib.run_eql_slice_nil Tryd.prog
    have hlen : (xs.flatMap encTy).length = xs.length * 3 := flat_length len_Ty xs
    have hnews : ∀ j u, (xs.flatMap encTy)[j]? = some u → (w.alloc (.cells #[] 46)).cell? (ad.add j) = some u := by
      intro j u hu
      have hj := (List.getElem?_eq_some_iff.1 hu).1
      rw [hlen] at hj
      obtain ⟨b, off, h1, hb, hr⟩ := hx.2 (by omega)
      cases h1
      have := hr.news len_Ty (by omega) j u hu
      exact Lib.cell?_alloc_some _ this
    have hl := hx.1
    have h1 := one_Ty xs
    clear hx
    generalize hxs : xs.flatMap encTy = ys at *
    have HX : Hid (xs.flatMap encTy = ys) := hxs
    clear hxs
    generalize hn : xs.length = n at *
    have Hn : Hid (xs.length = n) := hn
    clear hn
    go_enter Tryd.func30, Tryd.ntmps30
    go_wp2_with (first | (at_builtin; refine wpList_append_own _ rfl _ _ 22 rfl w.heap.size 46 i0 _ 3 32 Tryd.underlying22 hi hz0 hz1 hz2 rfl (by decide) _ 0 [] rfl (World.ownsRow_made _ #[] 0 (by simp) (by simp) (by simp)) ad n k ys rfl (by omega) hnews h1 (by unfold maxLen; omega) (by omega) (by simp) ?_; intro v' w1 hown' hgrow _))
    go_ret
    refine ⟨v', rfl, ?_, ?_⟩
    · rw [Nat.zero_add, List.nil_append] at hown'
      rw [HX.out, Hn.out]; exact hown'
    · exact ((Below.refl _ _).alloc (Nat.le_refl _) _).grown hgrow (by simp) (fun j hj => by have : w.heap.size = j := Option.some.inj hj; omega)
theorem info_Rl : (Tryd.prog.info? 40).map (fun i => (i.zero, i.size, i.bytes)) = some (some (.agg #[.int .i64 0, .int .i64 0, .int .i64 0]), 3, 24) := by kernel_rfl
set_option maxHeartbeats 1000000 in
theorem clone_Rule (A : Option Addr) (k : Nat) (xs : List Rl) (w : World) (hx : RS encRl 3 w A xs) (hs : xs.length * 24 ≤ 140737488355328) :
    Calls Tryd.prog 49 #[.slice A xs.length k] w (Owns encRl 3 40 xs w) := by
  obtain ⟨i0, hi, hz0, hz1, hz2⟩ := info_parts info_Rl
  cases A with
  | none =>
    have h0 : xs.length = 0 := by
      rcases Nat.eq_zero_or_pos xs.length with h | h
      · exact h
      · obtain ⟨b, off, h1, _⟩ := hx.2 h; cases h1
    obtain rfl := List.eq_nil_of_length_eq_zero h0
    have hnil := @Lib.run_eql_slice_nil Tryd.prog
    go_enter Tryd.func49, Tryd.ntmps49
    go_wp2
    go_ret
    exact ⟨_, rfl, World.ownsRow_nil _ _ _ _, Below.refl _ _⟩
  | some ad =>
    have hnil := @Lib.run_eql_slice_nil Tryd.prog
    have hlen : (xs.flatMap encRl).length = xs.length * 3 := flat_length len_Rl xs
    have hnews : ∀ j u, (xs.flatMap encRl)[j]? = some u → (w.alloc (.cells #[] 40)).cell? (ad.add j) = some u := by
      intro j u hu
      have hj := (List.getElem?_eq_some_iff.1 hu).1
      rw [hlen] at hj
      obtain ⟨b, off, h1, hb, hr⟩ := hx.2 (by omega)
      cases h1
      have := hr.news len_Rl (by omega) j u hu
      exact Lib.cell?_alloc_some _ this
    have hl := hx.1
    have h1 := one_Rl xs
    clear hx
    generalize hxs : xs.flatMap encRl = ys at *
    have HX : Hid (xs.flatMap encRl = ys) := hxs
    clear hxs
    generalize hn : xs.length = n at *
    have Hn : Hid (xs.length = n) := hn
    clear hn
    go_enter Tryd.func49, Tryd.ntmps49
    go_wp2_with (first | (at_builtin; refine wpList_append_own _ rfl _ _ 23 rfl w.heap.size 40 i0 _ 3 24 Tryd.underlying23 hi hz0 hz1 hz2 rfl (by decide) _ 0 [] rfl (World.ownsRow_made _ #[] 0 (by simp) (by simp) (by simp)) ad n k ys rfl (by omega) hnews h1 (by unfold maxLen; omega) (by omega) (by simp) ?_; intro v' w1 hown' hgrow _))
    go_ret
    refine ⟨v', rfl, ?_, ?_⟩
    · rw [Nat.zero_add, List.nil_append] at hown'
      rw [HX.out, Hn.out]; exact hown'
    · exact ((Below.refl _ _).alloc (Nat.le_refl _) _).grown hgrow (by simp) (fun j hj => by have : w.heap.size = j := Option.some.inj hj; omega)
theorem info_Qm : (Tryd.prog.info? 42).map (fun i => (i.zero, i.size, i.bytes)) = some (some (.agg #[.int .i64 0, .int .i64 0, .int .i64 0, .int .i64 0, .int .i64 0]), 5, 40) := by kernel_rfl
set_option maxHeartbeats 1000000 in
theorem clone_Quorum (A : Option Addr) (k : Nat) (xs : List Qm) (w : World) (hx : RS encQm 5 w A xs) (hs : xs.length * 40 ≤ 140737488355328) :
    Calls Tryd.prog 52 #[.slice A xs.length k] w (Owns encQm 5 42 xs w) := by
  obtain ⟨i0, hi, hz0, hz1, hz2⟩ := info_parts info_Qm
  cases A with
  | none =>
    have h0 : xs.length = 0 := by
      rcases Nat.eq_zero_or_pos xs.length with h | h
      · exact h
      · obtain ⟨b, off, h1, _⟩ := hx.2 h; cases h1
    obtain rfl := List.eq_nil_of_length_eq_zero h0
    have hnil := @Lib.run_eql_slice_nil Tryd.prog
    go_enter Tryd.func52, Tryd.ntmps52
    go_wp2
    go_ret
    exact ⟨_, rfl, World.ownsRow_nil _ _ _ _, Below.refl _ _⟩
  | some ad =>
    have hnil := @Lib.run_eql_slice_nil Tryd.prog
    have hlen : (xs.flatMap encQm).length = xs.length * 5 := flat_length len_Qm xs
    have hnews : ∀ j u, (xs.flatMap encQm)[j]? = some u → (w.alloc (.cells #[] 42)).cell? (ad.add j) = some u := by
      intro j u hu
      have hj := (List.getElem?_eq_some_iff.1 hu).1
      rw [hlen] at hj
      obtain ⟨b, off, h1, hb, hr⟩ := hx.2 (by omega)
      cases h1
      have := hr.news len_Qm (by omega) j u hu
      exact Lib.cell?_alloc_some _ this
    have hl := hx.1
    have h1 := one_Qm xs
    clear hx
    generalize hxs : xs.flatMap encQm = ys at *
    have HX : Hid (xs.flatMap encQm = ys) := hxs
    clear hxs
    generalize hn : xs.length = n at *
    have Hn : Hid (xs.length = n) := hn
    clear hn
    go_enter Tryd.func52, Tryd.ntmps52
    go_wp2_with (first | (at_builtin; refine wpList_append_own _ rfl _ _ 24 rfl w.heap.size 42 i0 _ 5 40 Tryd.underlying24 hi hz0 hz1 hz2 rfl (by decide) _ 0 [] rfl (World.ownsRow_made _ #[] 0 (by simp) (by simp) (by simp)) ad n k ys rfl (by omega) hnews h1 (by unfold maxLen; omega) (by omega) (by simp) ?_; intro v' w1 hown' hgrow _))
    go_ret
    refine ⟨v', rfl, ?_, ?_⟩
    · rw [Nat.zero_add, List.nil_append] at hown'
      rw [HX.out, Hn.out]; exact hown'
    · exact ((Below.refl _ _).alloc (Nat.le_refl _) _).grown hgrow (by simp) (fun j hj => by have : w.heap.size = j := Option.some.inj hj; omega)
end Go.Proofs.YtemkffejekgmfaaDoor
