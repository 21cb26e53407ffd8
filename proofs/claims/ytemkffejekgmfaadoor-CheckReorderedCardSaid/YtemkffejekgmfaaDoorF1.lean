/- few, example. -/
import Derived.Test.YtemkffejekgmfaaDoorC9
import Derived.Test.YtemkffejekgmfaaDoorR6
namespace Go.Proofs.YtemkffejekgmfaaDoor
open Go.RowKit Go.Shelf Go.Lib

def fewB (p : Pol) : Bool := decide (p.types.length ≤ 40) && (decide (p.rules.length ≤ 300) && decide (p.quorums.length ≤ 40))

set_option maxHeartbeats 1000000 in
theorem few_any (p : Pol) (A1 : Option Addr) (c1 : Nat) (A2 : Option Addr) (c2 : Nat) (A3 : Option Addr) (c3 : Nat) (w : World) :
    Calls Tryd.prog 9 #[.agg #[.string p.name, .slice A1 p.types.length c1, .slice A2 p.rules.length c2, .slice A3 p.quorums.length c3]] w fun e w' => e = .returned (.bool (fewB p)) ∧ Below w.heap.size w w' := by
  unfold fewB
  generalize p.types.length = n1
  generalize p.rules.length = n2
  generalize p.quorums.length = n3
  generalize p.name = pn
  have hA : Below w.heap.size w (w.alloc (.cells #[.string pn, .slice A1 n1 c1, .slice A2 n2 c2, .slice A3 n3 c3] 26)) := (Below.refl _ _).alloc (Nat.le_refl _) _
  by_cases h1 : n1 ≤ 40
  · have h1' : (n1 : Int) ≤ 40 := by omega
    by_cases h2 : n2 ≤ 300
    · have h2' : (n2 : Int) ≤ 300 := by omega
      by_cases h3 : n3 ≤ 40
      all_goals
        go_enter Tryd.func9, Tryd.ntmps9
        go_wp2
        go_ret
        refine ⟨?_, hA⟩
        simp [h1, h2, h3]
        try omega
    · have h2' : ¬ (n2 : Int) ≤ 300 := by omega
      go_enter Tryd.func9, Tryd.ntmps9
      go_wp2
      go_ret
      refine ⟨?_, hA⟩
      first | (simp [h2]; done) | simp [h1, h2]
  · have h1' : ¬ (n1 : Int) ≤ 40 := by omega
    go_enter Tryd.func9, Tryd.ntmps9
    go_wp2
    go_ret
    refine ⟨?_, hA⟩
    first | (simp; done) | simp [h1]

def sP : ByteArray := { data := #[112] }
def sA : ByteArray := { data := #[97] }
def sB : ByteArray := { data := #[98, 50] }
def exP : Pol := ⟨sP, [⟨sA, 1, 0⟩, ⟨sB, 127, 9⟩], [⟨2, 1, 0⟩, ⟨1, 0, 1⟩], [⟨3, 2, 0, 5, 1⟩]⟩

/-- Behind example: three new rows, and a box before them. -/
structure ExW (w w' : World) : Prop where
  bel : Below w.heap.size w w'
  sz : w'.heap.size = w.heap.size + 4
  b1 : w'.heap[w.heap.size + 1]? = some (.cells #[.string { data := #[97] }, .int .i64 1, .int .i64 0, .string { data := #[98, 50] }, .int .i64 127, .int .i64 9] 46 (0, 0))
  b2 : w'.heap[w.heap.size + 2]? = some (.cells #[.int .i64 2, .int .i64 1, .int .i64 0, .int .i64 1, .int .i64 0, .int .i64 1] 40 (0, 0))
  b3 : w'.heap[w.heap.size + 3]? = some (.cells #[.int .i64 3, .int .i64 2, .int .i64 0, .int .i64 5, .int .i64 1] 42 (0, 0))

theorem heap_here (w : World) (o : Obj) (n : Nat) (h : n = w.heap.size) : (w.alloc o).heap[n]? = some o := by subst h; exact heap_alloc_new w o
set_option maxHeartbeats 1000000 in
theorem example_any (w : World) : Calls Tryd.prog 23 #[] w fun e w' => e = .returned (.agg #[.string { data := #[112] }, .slice (some ⟨w.heap.size + 1, 0, none⟩) 2 2, .slice (some ⟨w.heap.size + 2, 0, none⟩) 2 2, .slice (some ⟨w.heap.size + 3, 0, none⟩) 1 1]) ∧ ExW w w' := by
  go_enter Tryd.func23, Tryd.ntmps23
  go_wp2
  refine bodyPost_ret (v := .agg #[.string { data := #[112] }, .slice (some ⟨w.heap.size + 1, 0, none⟩) 2 2, .slice (some ⟨w.heap.size + 2, 0, none⟩) 2 2, .slice (some ⟨w.heap.size + 3, 0, none⟩) 1 1]) (by simp [results, Tryd.results23, go_sem]) rfl ⟨rfl, ?_⟩
  refine ⟨(((((Below.refl _ _).alloc (Nat.le_refl _) _).alloc (by simp) _).alloc (by simp; omega) _).alloc (by simp; omega) _), by simp, ?_, ?_, ?_⟩
  · exact (Below.heap_alloc _ _ _ (by simp)).trans ((Below.heap_alloc _ _ _ (by simp)).trans (heap_here _ _ _ (by simp)))
  · exact (Below.heap_alloc _ _ _ (by simp)).trans (heap_here _ _ _ (by simp))
  · exact heap_here _ _ _ (by simp)

theorem RS_block {α : Type} [Inhabited α] {enc : α → List Value} {k : Nat} (hk : ∀ x, (enc x).length = k) {w : World} {b : Nat} {cs : Array Value} {t : TypeId} (xs : List α) (h : w.heap[b]? = some (.cells cs t (0, 0))) (hc : cs.toList = xs.flatMap enc) (hl : xs.length ≤ 140737488355328) : RS enc k w (some ⟨b, 0, none⟩) xs := by
  refine RS_lit hk hl (Array.getElem?_eq_some_iff.1 h).1 (fun i u hu => ?_)
  rw [cell_of_row w b i cs t (0, 0) h]
  rw [← hc] at hu
  simpa using hu
theorem pol_of_blocks {W : World} {b1 b2 b3 : Nat} {t1 t2 t3 : TypeId} {cs1 cs2 cs3 : Array Value} (p : Pol) (h1 : W.heap[b1]? = some (.cells cs1 t1 (0, 0))) (h2 : W.heap[b2]? = some (.cells cs2 t2 (0, 0))) (h3 : W.heap[b3]? = some (.cells cs3 t3 (0, 0)))
    (e1 : cs1.toList = p.types.flatMap encTy) (e2 : cs2.toList = p.rules.flatMap encRl) (e3 : cs3.toList = p.quorums.flatMap encQm) (z1 : p.types.length = 2) (z2 : p.rules.length = 2) (z3 : p.quorums.length = 1) (hn : p.name.size ≤ 140737488355328) (ht : ∀ t ∈ p.types, t.name.size ≤ 140737488355328) :
    PolR W p (some ⟨b1, 0, none⟩) 2 (some ⟨b2, 0, none⟩) 2 (some ⟨b3, 0, none⟩) 1 :=
  ⟨RS_block len_Ty _ h1 e1 (by omega), by omega, RS_block len_Rl _ h2 e2 (by omega), by omega, RS_block len_Qm _ h3 e3 (by omega), by omega, hn, ht⟩
def twP : Pol := ⟨sP, [⟨sA, 1, 0⟩, ⟨sA, 127, 9⟩], [⟨2, 1, 0⟩, ⟨1, 0, 1⟩], [⟨3, 2, 0, 5, 1⟩]⟩
def dnP : Pol := ⟨sP, [⟨sA, 1, 0⟩, ⟨sB, 127, 9⟩], [⟨2, 1, 0⟩, ⟨1, 0, 1⟩], [⟨24, 2, 0, 5, 1⟩]⟩
def noP : Pol := ⟨ByteArray.empty, [], [], []⟩
theorem names_ex : ∀ t ∈ exP.types, t.name.size ≤ 140737488355328 := by decide
theorem names_tw : ∀ t ∈ twP.types, t.name.size ≤ 140737488355328 := by decide
theorem names_dn : ∀ t ∈ dnP.types, t.name.size ≤ 140737488355328 := by decide
theorem ExW.pol {w w' : World} (h : ExW w w') : PolR w' exP (some ⟨w.heap.size + 1, 0, none⟩) 2 (some ⟨w.heap.size + 2, 0, none⟩) 2 (some ⟨w.heap.size + 3, 0, none⟩) 1 :=
  pol_of_blocks exP h.b1 h.b2 h.b3 rfl rfl rfl rfl rfl rfl (by decide) names_ex
theorem noP_pol (w : World) : PolR w noP none 0 none 0 none 0 :=
  ⟨RS_nil _ _ _ _, Nat.le_refl _, RS_nil _ _ _ _, Nat.le_refl _, RS_nil _ _ _ _, Nat.le_refl _, by decide, fun t h => by cases h⟩
theorem heap_set {w : World} {g : Nat} {t : TypeId} {cs : Array Value} (h : w.heap[g]? = some (.cells cs t (0, 0))) (i : Nat) (u : Value) : (w.setCell ⟨g, i, none⟩ u).heap[g]? = some (.cells (cs.setIfInBounds i u) t (0, 0)) := by
  simp [World.setCell, Array.getElem?_modify, h]
theorem heap_far {w : World} {g : Nat} {o : Option Obj} (h : w.heap[g]? = o) (b i : Nat) (u : Value) (hne : g ≠ b) : (w.setCell ⟨b, i, none⟩ u).heap[g]? = o :=
  (Below.heap_setCell w ⟨b, i, none⟩ u g hne).trans h
theorem check_ex : checkS exP = (0, 0) := by decide +kernel
theorem check_no : checkS noP = (-1, 4) := by decide +kernel
theorem check_tw : checkS twP = (1, 4) := by decide +kernel
theorem check_dn : checkS dnP = (4, 10) := by decide +kernel
theorem norm_ex : normS exP = ⟨sP, [⟨sA, 1, 0⟩, ⟨sB, 127, 9⟩], [⟨1, 0, 1⟩, ⟨2, 1, 0⟩], [⟨3, 2, 0, 5, 1⟩]⟩ := by decide +kernel
end Go.Proofs.YtemkffejekgmfaaDoor
