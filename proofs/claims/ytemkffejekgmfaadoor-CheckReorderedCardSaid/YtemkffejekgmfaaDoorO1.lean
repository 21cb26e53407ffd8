/- A policy that comes in: what its reading says of the cells. -/
import Derived.Test.YtemkffejekgmfaaDoorC8
import Derived.Deep.Slices
import Derived.Deep.Fields
import Derived.ChangeSame
import Derived.Lib.SmallJoins
import Derived.SizedLaws
import Derived.Carry
import Derived.OpenShut
namespace Go.Proofs.YtemkffejekgmfaaDoor
open Go.RowKit Go.ChangeShapes Go.WideShapes Go.Deep Go.Joins

section
variable {H : Type} {enc : TypeId × Value → H} {P : Program} {w : World} {base : Nat} {spare : Nat → Bool} {held : Bool}
theorem open_slice_fields {t e : TypeId} {fs : Array Field} {fuel : Nat} {cs : List Value} {x : DataW H × List MemPlace} (ht : P.underlying t = some (.slice e)) (he : P.underlying e = some (.struct fs))
    (hone : oneCellFields P fs = true) (hC : P.cellsOf e = fs.size) (h : DataW.trod enc P w base spare held fuel t cs = some x) :
    (cs = [.slice none 0 0] ∧ x = (.nil, [])) ∨
    ∃ (a : Addr) (len cap m : Nat) (D : Nat → DataW H) (Pl : Nat → List MemPlace), cs = [.slice (some a) len cap] ∧ base ≤ a.block ∧ len ≤ cap ∧ cap ≤ maxLen ∧ m = (if spare a.block then cap else len) ∧
      x = (.slice ((List.range len).map D) ((List.range (m - len)).map fun j => D (len + j)), MemPlace.row a (m * fs.size) ++ (List.range m).flatMap Pl) ∧
      ∀ i, i < m → ∃ (ys : List (DataW H × List MemPlace)) (n : Nat), D i = .agg (ys.map (·.1)) ∧ Pl i = ys.flatMap (·.2) ∧ ys.length = fs.size ∧
        ∀ (j : Nat) (f : Field), fs[j]? = some f → ∃ (v : Value) (y : DataW H × List MemPlace), w.cell? (a.add (i * fs.size + j)) = some v ∧ ys[j]? = some y ∧ DataW.trod enc P w base spare held n f.type [v] = some y := by
  rcases open_slice ht h with h0 | ⟨a, len, cap, m, n, D, Pl, hcs, hb, hl, hm, hmm, hx, hi⟩
  · exact .inl h0
  · refine .inr ⟨a, len, cap, m, D, Pl, hcs, hb, hl, hm, hmm, by rw [hC] at hx; exact hx, fun i him => ?_⟩
    obtain ⟨cs', hc, ht'⟩ := hi i him
    rw [hC] at hc
    obtain ⟨ys, n', hn', hy, hlen, hyl, hf⟩ := DataW.trod_struct he ht'
    obtain ⟨_, hcl, hat⟩ := World.cells?_some hc
    simp only [Prod.mk.injEq] at hy
    refine ⟨ys, n', hy.1, hy.2, hyl, fun j f hj => ?_⟩
    obtain ⟨ho, hk⟩ := hone_of hone j f hj
    have hjl : j < fs.size := (Array.getElem?_eq_some_iff.1 hj).1
    have hcell := hat j hjl
    have hv : cs'[j]? = some (cs'[j]'(by omega)) := List.getElem?_eq_getElem (by omega)
    have h1 := hf j f hj
    rw [ho, hk] at h1
    have hone' : (cs'.drop j).take 1 = [cs'[j]'(by omega)] := by
      rw [List.drop_eq_getElem_cons (by omega)]
      rfl
    rw [hone'] at h1
    have hys : ys[j]? = some (ys[j]'(by omega)) := List.getElem?_eq_getElem (by omega)
    refine ⟨_, _, ?_, hys, h1.trans hys⟩
    rw [← Go.Deep.add_add, hcell, hv]
end

/-- A row out of its elements. -/
theorem rows_of {α : Type} [Inhabited α] (enc : α → List Value) (k : Nat) (w : World) (a : Addr) (n : Nat) (Q : Nat → α → Prop) (h0 : ∀ x : α, 0 < (enc x).length) (hn : n ≤ 140737488355328)
    (h : ∀ i, i < n → ∃ x : α, Q i x ∧ ∀ j u, (enc x)[j]? = some u → w.cell? (a.add (i * k + j)) = some u) :
    ∃ xs : List α, xs.length = n ∧ RS enc k w (some a) xs ∧ ∀ i, i < n → Q i xs[i]! := by
  classical
  obtain ⟨f, hf⟩ : ∃ f : Nat → α, ∀ i, i < n → Q i (f i) ∧ ∀ j u, (enc (f i))[j]? = some u → w.cell? (a.add (i * k + j)) = some u := by
    refine ⟨fun i => if hi : i < n then (h i hi).choose else default, fun i hi => ?_⟩
    simp only [hi, dif_pos]
    exact (h i hi).choose_spec
  have hl : ((List.range n).map f).length = n := by simp
  have hg : ∀ i, i < n → ((List.range n).map f)[i]! = f i := fun i hi => by
    rw [getElem!_pos _ i (by simpa using hi)]; simp
  refine ⟨(List.range n).map f, hl, ⟨by rw [hl]; exact hn, fun hpos => ?_⟩, fun i hi => by rw [hg i hi]; exact (hf i hi).1⟩
  rw [hl] at hpos
  have hz : w.cell? a = some ((enc (f 0))[0]'(h0 _)) := by
    have := (hf 0 hpos).2 0 _ (List.getElem?_eq_getElem (h0 _))
    rw [Nat.zero_mul, Nat.zero_add] at this
    exact this
  obtain ⟨b, o, s⟩ := a
  cases s with
  | some s => simp [World.cell?] at hz; split at hz <;> simp at hz
  | none =>
    refine ⟨b, o, rfl, World.block_lt_of_cell? w ⟨b, o, none⟩ hz, fun j hj i u hu => ?_⟩
    rw [hl] at hj
    rw [hg j hj] at hu
    have := (hf j hj).2 i u hu
    unfold Addr.add at this
    split at this
    · rename_i he; rw [Nat.add_assoc, he]; exact this
    · rw [Nat.add_assoc]; exact this

/-- An int as it may stand in memory. -/
def wfI (x : Int) : Prop := (Lit.int .i64 x).wf = true
def okRl (x : Rl) : Prop := wfI x.kind ∧ wfI x.a ∧ wfI x.b
def okQm (x : Qm) : Prop := wfI x.cmd ∧ wfI x.cnt ∧ wfI x.delay ∧ wfI x.valid ∧ wfI x.uses
theorem reach_all {l : List Nat} (h : l.all (· ≤ reachBytes) = true) : ∀ n ∈ l, n ≤ 140737488351232 := fun n hn => by
  have := List.all_eq_true.1 h n hn
  have e : reachBytes = 140737488351232 := by decide
  rw [← e]; simpa using this
theorem field_type_at {fs : Array Field} {j : Nat} {f : Field} (h : fs[j]? = some f) : (fs.toList.map (·.type))[j]? = some f.type := by
  rw [List.getElem?_map, Array.getElem?_toList, h]; rfl
theorem weights_elem {H : Type} (P : Program) (e : TypeId) (ds : List (DataW H)) (d : DataW H) (h : d ∈ ds) : ∀ n ∈ d.weights P e, n ∈ DataW.weightsAll P e ds := by
  induction ds with
  | nil => cases h
  | cons x xs ih =>
    intro n hn
    simp only [DataW.weightsAll, List.mem_append]
    rcases List.mem_cons.1 h with rfl | h'
    · exact .inl hn
    · exact .inr (ih h' n hn)

theorem one_fields_Rl : oneCellFields Tryd.prog (Tryd.prog.fieldsOf 40) = true := by kernel_rfl
theorem cellsOf_Rl : Tryd.prog.cellsOf 40 = 3 := by kernel_rfl
theorem bytesOf_Rl : Tryd.prog.bytesOf 40 = 24 := by kernel_rfl
theorem one_fields_Qm : oneCellFields Tryd.prog (Tryd.prog.fieldsOf 42) = true := by kernel_rfl
theorem cellsOf_Qm : Tryd.prog.cellsOf 42 = 5 := by kernel_rfl
theorem bytesOf_Qm : Tryd.prog.bytesOf 42 = 40 := by kernel_rfl
theorem one_fields_Ty : oneCellFields Tryd.prog (Tryd.prog.fieldsOf 46) = true := by kernel_rfl
theorem cellsOf_Ty : Tryd.prog.cellsOf 46 = 3 := by kernel_rfl
theorem bytesOf_Ty : Tryd.prog.bytesOf 46 = 32 := by kernel_rfl
theorem field_Rl0 : ∃ f, (Tryd.prog.fieldsOf 40)[0]? = some f ∧ Tryd.prog.underlying f.type = some (.int .i64) := ⟨(Tryd.prog.fieldsOf 40)[0]!, by kernel_rfl, by kernel_rfl⟩
theorem field_Rl1 : ∃ f, (Tryd.prog.fieldsOf 40)[1]? = some f ∧ Tryd.prog.underlying f.type = some (.int .i64) := ⟨(Tryd.prog.fieldsOf 40)[1]!, by kernel_rfl, by kernel_rfl⟩
theorem field_Rl2 : ∃ f, (Tryd.prog.fieldsOf 40)[2]? = some f ∧ Tryd.prog.underlying f.type = some (.int .i64) := ⟨(Tryd.prog.fieldsOf 40)[2]!, by kernel_rfl, by kernel_rfl⟩
theorem field_Qm0 : ∃ f, (Tryd.prog.fieldsOf 42)[0]? = some f ∧ Tryd.prog.underlying f.type = some (.int .i64) := ⟨(Tryd.prog.fieldsOf 42)[0]!, by kernel_rfl, by kernel_rfl⟩
theorem field_Qm1 : ∃ f, (Tryd.prog.fieldsOf 42)[1]? = some f ∧ Tryd.prog.underlying f.type = some (.int .i64) := ⟨(Tryd.prog.fieldsOf 42)[1]!, by kernel_rfl, by kernel_rfl⟩
theorem field_Qm2 : ∃ f, (Tryd.prog.fieldsOf 42)[2]? = some f ∧ Tryd.prog.underlying f.type = some (.int .i64) := ⟨(Tryd.prog.fieldsOf 42)[2]!, by kernel_rfl, by kernel_rfl⟩
theorem field_Qm3 : ∃ f, (Tryd.prog.fieldsOf 42)[3]? = some f ∧ Tryd.prog.underlying f.type = some (.int .i64) := ⟨(Tryd.prog.fieldsOf 42)[3]!, by kernel_rfl, by kernel_rfl⟩
theorem field_Qm4 : ∃ f, (Tryd.prog.fieldsOf 42)[4]? = some f ∧ Tryd.prog.underlying f.type = some (.int .i64) := ⟨(Tryd.prog.fieldsOf 42)[4]!, by kernel_rfl, by kernel_rfl⟩
theorem field_Ty1 : ∃ f, (Tryd.prog.fieldsOf 46)[1]? = some f ∧ Tryd.prog.underlying f.type = some (.int .i64) := ⟨(Tryd.prog.fieldsOf 46)[1]!, by kernel_rfl, by kernel_rfl⟩
theorem field_Ty2 : ∃ f, (Tryd.prog.fieldsOf 46)[2]? = some f ∧ Tryd.prog.underlying f.type = some (.int .i64) := ⟨(Tryd.prog.fieldsOf 46)[2]!, by kernel_rfl, by kernel_rfl⟩
theorem field_Ty0 : ∃ f, (Tryd.prog.fieldsOf 46)[0]? = some f ∧ Tryd.prog.underlying f.type = some .string := ⟨(Tryd.prog.fieldsOf 46)[0]!, by kernel_rfl, by kernel_rfl⟩

theorem under_Rl : Tryd.prog.underlying 40 = some (.struct (Tryd.prog.fieldsOf 40)) := by kernel_rfl
theorem size_fields_Rl : (Tryd.prog.fieldsOf 40).size = 3 := by kernel_rfl
theorem read_Rl {H : Type} {enc : TypeId × Value → H} {W : World} {fuel : Nat} {A : Option Addr} {n c : Nat} {x : DataW H × List MemPlace} (h : DataW.trod enc Tryd.prog W 0 (fun _ => true) true fuel 23 [.slice A n c] = some x)
    (hw : ∀ m ∈ x.1.weights Tryd.prog 23, m ≤ 140737488351232) :
    ∃ xs : List Rl, xs.length = n ∧ n ≤ c ∧ n * 24 ≤ 140737488351232 ∧ RS encRl 3 W A xs ∧ ∀ x ∈ xs, okRl x := by
  rcases open_slice_fields Tryd.underlying23 under_Rl one_fields_Rl (by rw [cellsOf_Rl, size_fields_Rl]) h with ⟨hcs, _⟩ | ⟨a, len, cap, m, D, Pl, hcs, _, hl, _, hm, hx, hi⟩
  · cases hcs
    exact ⟨[], rfl, Nat.le_refl _, by omega, ⟨by simp, fun h => absurd h (by simp)⟩, fun x hx => by cases hx⟩
  · cases hcs
    rw [if_pos rfl] at hm
    obtain rfl : c = m := hm.symm
    subst hx
    have hw0 : n * 24 ≤ 140737488351232 := by
      have := hw ((n + (c - n)) * 24) (by simp [DataW.weights, Tryd.underlying23, bytesOf_Rl])
      exact Nat.le_trans (Nat.mul_le_mul_right _ (by omega)) this
    have hwt : ∀ i, i < n → ∀ m ∈ (D i).weights Tryd.prog 40, m ≤ 140737488351232 := fun i hi m hm => hw m (by
      simp only [DataW.weights, Tryd.underlying23, List.mem_cons, List.mem_append]
      exact .inr (.inl (weights_elem _ _ _ _ (List.mem_map.2 ⟨i, List.mem_range.2 hi, rfl⟩) _ hm)))
    obtain ⟨xs, h1, h2, h3⟩ := rows_of encRl 3 W a n (fun _ x => okRl x) (fun x => by simp [encRl]) (by omega) (fun i hin => by
      obtain ⟨ys, fu, hD, _, hlen, hf⟩ := hi i (by omega)
      rw [size_fields_Rl] at hf
      obtain ⟨f0, hf0, ht0⟩ := field_Rl0; obtain ⟨f1, hf1, ht1⟩ := field_Rl1; obtain ⟨f2, hf2, ht2⟩ := field_Rl2; obtain ⟨v0, y0, hc0, hy0, hr0⟩ := hf 0 f0 hf0; obtain ⟨v1, y1, hc1, hy1, hr1⟩ := hf 1 f1 hf1; obtain ⟨v2, y2, hc2, hy2, hr2⟩ := hf 2 f2 hf2; obtain ⟨n0, e0, hx0, hw0⟩ := DataW.trod_int ht0 hr0; obtain ⟨n1, e1, hx1, hw1⟩ := DataW.trod_int ht1 hr1; obtain ⟨n2, e2, hx2, hw2⟩ := DataW.trod_int ht2 hr2; cases e0; cases e1; cases e2
      refine ⟨⟨n0, n1, n2⟩, ⟨hw0, hw1, hw2⟩, fun j u hu => ?_⟩
      rcases j with _ | _ | _ | _ | _ | j
      all_goals first | (simp [encRl] at hu; subst hu; assumption) | (simp [encRl] at hu))
    refine ⟨xs, h1, hl, hw0, h2, fun x hx => ?_⟩
    obtain ⟨i, hi', rfl⟩ := List.getElem_of_mem hx
    have := h3 i (by omega)
    first | trivial | (rwa [getElem!_pos xs i hi'] at this)
theorem under_Qm : Tryd.prog.underlying 42 = some (.struct (Tryd.prog.fieldsOf 42)) := by kernel_rfl
theorem size_fields_Qm : (Tryd.prog.fieldsOf 42).size = 5 := by kernel_rfl
theorem read_Qm {H : Type} {enc : TypeId × Value → H} {W : World} {fuel : Nat} {A : Option Addr} {n c : Nat} {x : DataW H × List MemPlace} (h : DataW.trod enc Tryd.prog W 0 (fun _ => true) true fuel 24 [.slice A n c] = some x)
    (hw : ∀ m ∈ x.1.weights Tryd.prog 24, m ≤ 140737488351232) :
    ∃ xs : List Qm, xs.length = n ∧ n ≤ c ∧ n * 40 ≤ 140737488351232 ∧ RS encQm 5 W A xs ∧ ∀ x ∈ xs, okQm x := by
  rcases open_slice_fields Tryd.underlying24 under_Qm one_fields_Qm (by rw [cellsOf_Qm, size_fields_Qm]) h with ⟨hcs, _⟩ | ⟨a, len, cap, m, D, Pl, hcs, _, hl, _, hm, hx, hi⟩
  · cases hcs
    exact ⟨[], rfl, Nat.le_refl _, by omega, ⟨by simp, fun h => absurd h (by simp)⟩, fun x hx => by cases hx⟩
  · cases hcs
    rw [if_pos rfl] at hm
    obtain rfl : c = m := hm.symm
    subst hx
    have hw0 : n * 40 ≤ 140737488351232 := by
      have := hw ((n + (c - n)) * 40) (by simp [DataW.weights, Tryd.underlying24, bytesOf_Qm])
      exact Nat.le_trans (Nat.mul_le_mul_right _ (by omega)) this
    have hwt : ∀ i, i < n → ∀ m ∈ (D i).weights Tryd.prog 42, m ≤ 140737488351232 := fun i hi m hm => hw m (by
      simp only [DataW.weights, Tryd.underlying24, List.mem_cons, List.mem_append]
      exact .inr (.inl (weights_elem _ _ _ _ (List.mem_map.2 ⟨i, List.mem_range.2 hi, rfl⟩) _ hm)))
    obtain ⟨xs, h1, h2, h3⟩ := rows_of encQm 5 W a n (fun _ x => okQm x) (fun x => by simp [encQm]) (by omega) (fun i hin => by
      obtain ⟨ys, fu, hD, _, hlen, hf⟩ := hi i (by omega)
      rw [size_fields_Qm] at hf
      obtain ⟨f0, hf0, ht0⟩ := field_Qm0; obtain ⟨f1, hf1, ht1⟩ := field_Qm1; obtain ⟨f2, hf2, ht2⟩ := field_Qm2; obtain ⟨f3, hf3, ht3⟩ := field_Qm3; obtain ⟨f4, hf4, ht4⟩ := field_Qm4; obtain ⟨v0, y0, hc0, hy0, hr0⟩ := hf 0 f0 hf0; obtain ⟨v1, y1, hc1, hy1, hr1⟩ := hf 1 f1 hf1; obtain ⟨v2, y2, hc2, hy2, hr2⟩ := hf 2 f2 hf2; obtain ⟨v3, y3, hc3, hy3, hr3⟩ := hf 3 f3 hf3; obtain ⟨v4, y4, hc4, hy4, hr4⟩ := hf 4 f4 hf4; obtain ⟨n0, e0, hx0, hw0⟩ := DataW.trod_int ht0 hr0; obtain ⟨n1, e1, hx1, hw1⟩ := DataW.trod_int ht1 hr1; obtain ⟨n2, e2, hx2, hw2⟩ := DataW.trod_int ht2 hr2; obtain ⟨n3, e3, hx3, hw3⟩ := DataW.trod_int ht3 hr3; obtain ⟨n4, e4, hx4, hw4⟩ := DataW.trod_int ht4 hr4; cases e0; cases e1; cases e2; cases e3; cases e4
      refine ⟨⟨n0, n1, n2, n3, n4⟩, ⟨hw0, hw1, hw2, hw3, hw4⟩, fun j u hu => ?_⟩
      rcases j with _ | _ | _ | _ | _ | j
      all_goals first | (simp [encQm] at hu; subst hu; assumption) | (simp [encQm] at hu))
    refine ⟨xs, h1, hl, hw0, h2, fun x hx => ?_⟩
    obtain ⟨i, hi', rfl⟩ := List.getElem_of_mem hx
    have := h3 i (by omega)
    first | trivial | (rwa [getElem!_pos xs i hi'] at this)
theorem under_Ty : Tryd.prog.underlying 46 = some (.struct (Tryd.prog.fieldsOf 46)) := by kernel_rfl
theorem size_fields_Ty : (Tryd.prog.fieldsOf 46).size = 3 := by kernel_rfl
theorem read_Ty {H : Type} {enc : TypeId × Value → H} {W : World} {fuel : Nat} {A : Option Addr} {n c : Nat} {x : DataW H × List MemPlace} (h : DataW.trod enc Tryd.prog W 0 (fun _ => true) true fuel 22 [.slice A n c] = some x)
    (hw : ∀ m ∈ x.1.weights Tryd.prog 22, m ≤ 140737488351232) :
    ∃ xs : List Ty, xs.length = n ∧ n ≤ c ∧ n * 32 ≤ 140737488351232 ∧ RS encTy 3 W A xs ∧ ∀ x ∈ xs, x.name.size ≤ 140737488351232 := by
  rcases open_slice_fields Tryd.underlying22 under_Ty one_fields_Ty (by rw [cellsOf_Ty, size_fields_Ty]) h with ⟨hcs, _⟩ | ⟨a, len, cap, m, D, Pl, hcs, _, hl, _, hm, hx, hi⟩
  · cases hcs
    exact ⟨[], rfl, Nat.le_refl _, by omega, ⟨by simp, fun h => absurd h (by simp)⟩, fun x hx => by cases hx⟩
  · cases hcs
    rw [if_pos rfl] at hm
    obtain rfl : c = m := hm.symm
    subst hx
    have hw0 : n * 32 ≤ 140737488351232 := by
      have := hw ((n + (c - n)) * 32) (by simp [DataW.weights, Tryd.underlying22, bytesOf_Ty])
      exact Nat.le_trans (Nat.mul_le_mul_right _ (by omega)) this
    have hwt : ∀ i, i < n → ∀ m ∈ (D i).weights Tryd.prog 46, m ≤ 140737488351232 := fun i hi m hm => hw m (by
      simp only [DataW.weights, Tryd.underlying22, List.mem_cons, List.mem_append]
      exact .inr (.inl (weights_elem _ _ _ _ (List.mem_map.2 ⟨i, List.mem_range.2 hi, rfl⟩) _ hm)))
    obtain ⟨xs, h1, h2, h3⟩ := rows_of encTy 3 W a n (fun _ x => x.name.size ≤ 140737488351232) (fun x => by simp [encTy]) (by omega) (fun i hin => by
      obtain ⟨ys, fu, hD, _, hlen, hf⟩ := hi i (by omega)
      rw [size_fields_Ty] at hf
      obtain ⟨f0, hf0, ht0⟩ := field_Ty0; obtain ⟨f1, hf1, ht1⟩ := field_Ty1; obtain ⟨f2, hf2, ht2⟩ := field_Ty2; obtain ⟨v0, y0, hc0, hy0, hr0⟩ := hf 0 f0 hf0; obtain ⟨v1, y1, hc1, hy1, hr1⟩ := hf 1 f1 hf1; obtain ⟨v2, y2, hc2, hy2, hr2⟩ := hf 2 f2 hf2; obtain ⟨n0, e0, hx0, hw0⟩ := DataW.trod_string ht0 hr0; obtain ⟨n1, e1, hx1, hw1⟩ := DataW.trod_int ht1 hr1; obtain ⟨n2, e2, hx2, hw2⟩ := DataW.trod_int ht2 hr2; cases e0; cases e1; cases e2
      refine ⟨⟨n0, n1, n2⟩, by have hq := hwt i (by omega) n0.data.toList.length (by rw [hD]; simp only [DataW.weights, under_Ty]; refine DataW.weights_mem_each (j := 0) (t := f0.type) (d := y0.1) ?_ ?_ _ ?_; exact field_type_at hf0; (rw [List.getElem?_map, hy0]; rfl); (rw [hx0]; simp [DataW.weights])); simpa using hq, fun j u hu => ?_⟩
      rcases j with _ | _ | _ | _ | _ | j
      all_goals first | (simp [encTy] at hu; subst hu; assumption) | (simp [encTy] at hu))
    refine ⟨xs, h1, hl, hw0, h2, fun x hx => ?_⟩
    obtain ⟨i, hi', rfl⟩ := List.getElem_of_mem hx
    have := h3 i (by omega)
    first | trivial | (rwa [getElem!_pos xs i hi'] at this)

theorem field_Pol : ∃ f0 f1 f2 f3, Tryd.prog.underlying 26 = some (.struct #[f0, f1, f2, f3]) ∧ oneCellFields Tryd.prog #[f0, f1, f2, f3] = true ∧ Tryd.prog.underlying f0.type = some .string ∧ f1.type = 22 ∧ f2.type = 23 ∧ f3.type = 24 :=
  ⟨(Tryd.prog.fieldsOf 26)[0]!, (Tryd.prog.fieldsOf 26)[1]!, (Tryd.prog.fieldsOf 26)[2]!, (Tryd.prog.fieldsOf 26)[3]!, by kernel_rfl, by kernel_rfl, by kernel_rfl, by kernel_rfl, by kernel_rfl, by kernel_rfl⟩
theorem cells_Pol : Tryd.prog.cellsOf 26 = 4 := by kernel_rfl
theorem slice_of_trod {H : Type} {enc : TypeId × Value → H} {P : Program} {W : World} {sp : Nat → Bool} {held : Bool} {base fuel : Nat} {t e : TypeId} {v : Value} {x : DataW H × List MemPlace} (ht : P.underlying t = some (.slice e)) (h : DataW.trod enc P W base sp held fuel t [v] = some x) : ∃ A n c, v = .slice A n c := by
  rcases open_slice ht h with ⟨hcs, _⟩ | ⟨a, len, cap, m, n, D, Pl, hcs, _⟩
  · cases hcs; exact ⟨_, _, _, rfl⟩
  · cases hcs; exact ⟨_, _, _, rfl⟩

/-- A policy argument. -/
theorem open_pol {H : Type} {enc : TypeId × Value → H} {W : World} {r : Reach} {b0 : Nat} {v : Value} {d : DataW H} {ps : List MemPlace} (hv : Value.okWide Tryd.prog W r b0 26 v) (h : DataW.Trod enc Tryd.prog W 0 (fun _ => true) true 26 v d ps)
    (hw : ∀ m ∈ d.weights Tryd.prog 26, m ≤ 140737488351232) :
    ∃ (p : Pol) (A1 : Option Addr) (c1 : Nat) (A2 : Option Addr) (c2 : Nat) (A3 : Option Addr) (c3 : Nat), v = .agg #[.string p.name, .slice A1 p.types.length c1, .slice A2 p.rules.length c2, .slice A3 p.quorums.length c3] ∧ PolR W p A1 c1 A2 c2 A3 c3 ∧ p.name.size ≤ 140737488351232 ∧ p.types.length * 32 ≤ 140737488351232 ∧ p.rules.length * 24 ≤ 140737488351232 ∧ p.quorums.length * 40 ≤ 140737488351232 ∧ (∀ r ∈ p.rules, okRl r) ∧ (∀ q ∈ p.quorums, okQm q) := by
  obtain ⟨f0, f1, f2, f3, hs, hone, h0, h1, h2, h3⟩ := field_Pol
  obtain ⟨v0, v1, v2, v3, y0, y1, y2, y3, n, rfl, rfl, rfl, r0, r1, r2, r3⟩ := open_agg4 hs hone cells_Pol hv h
  have hww : ∀ (j : Nat) (t : TypeId) (y : DataW H), ([f0.type, f1.type, f2.type, f3.type] : List TypeId)[j]? = some t → [y0.1, y1.1, y2.1, y3.1][j]? = some y → ∀ m ∈ y.weights Tryd.prog t, m ≤ 140737488351232 := fun j t y h1 h2 m hm => hw m (by
    simp only [DataW.weights, hs]
    exact DataW.weights_mem_each (j := j) h1 h2 _ hm)
  obtain ⟨s, e, hy0, _⟩ := DataW.trod_string h0 r0
  cases e
  rw [h1] at r1; rw [h2] at r2; rw [h3] at r3
  obtain ⟨A1, n1, c1, rfl⟩ := slice_of_trod Tryd.underlying22 r1
  obtain ⟨A2, n2, c2, rfl⟩ := slice_of_trod Tryd.underlying23 r2
  obtain ⟨A3, n3, c3, rfl⟩ := slice_of_trod Tryd.underlying24 r3
  obtain ⟨ts, rfl, l1, z1, q1, nm⟩ := read_Ty r1 (hww 1 _ _ (by rw [h1]; rfl) rfl)
  obtain ⟨rs, rfl, l2, z2, q2, ok2⟩ := read_Rl r2 (hww 2 _ _ (by rw [h2]; rfl) rfl)
  obtain ⟨qs, rfl, l3, z3, q3, ok3⟩ := read_Qm r3 (hww 3 _ _ (by rw [h3]; rfl) rfl)
  have hn := hww 0 f0.type y0.1 rfl rfl s.data.toList.length (by rw [hy0]; simp [DataW.weights])
  refine ⟨⟨s, ts, rs, qs⟩, A1, c1, A2, c2, A3, c3, rfl, ⟨q1, l1, q2, l2, q3, l3, ?_, ?_⟩, ?_, z1, z2, z3, ok2, ok3⟩
  · simp at hn ⊢; omega
  · intro t ht; have := nm t ht; omega
  · simpa using hn
end Go.Proofs.YtemkffejekgmfaaDoor
