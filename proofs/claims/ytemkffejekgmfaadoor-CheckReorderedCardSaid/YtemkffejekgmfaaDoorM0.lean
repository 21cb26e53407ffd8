/- A map of the call's own as an association list, whatever its keys (records whose values are structs of integers) and its elements. -/
import Derived.Maps.Own
import Derived.Maps.OwnSet
import Derived.Maps.Range
import Derived.Maps.Views
import Derived.DeepKeys4
import Derived.WideKeyEntry
import Derived.Below
namespace Go.Proofs.YtemkffejekgmfaaDoor
open Go Go.Maps Go.RowKit

/-- An element read as itself. -/
def heldR (v : Value) : Option (DataW Value × List MemPlace) := some (.held v, [])

section
variable {κ : Type} [DecidableEq κ]
def getA (m : List (κ × Value)) (x : κ) : Option Value := (m.find? (fun p => decide (p.1 = x))).map (·.2)
def putA (m : List (κ × Value)) (x : κ) (v : Value) : List (κ × Value) := if (getA m x).isSome = true then m.map (fun p => if p.1 = x then (x, v) else p) else m ++ [(x, v)]

theorem getA_isSome (m : List (κ × Value)) (x : κ) : (getA m x).isSome = true ↔ x ∈ m.map (·.1) := by
  unfold getA
  rw [Option.isSome_map, List.find?_isSome]
  simp
theorem getA_none (m : List (κ × Value)) (x : κ) : getA m x = none ↔ x ∉ m.map (·.1) := by
  rw [← getA_isSome]
  cases getA m x <;> simp
theorem getA_cons (p : κ × Value) (m : List (κ × Value)) (x : κ) : getA (p :: m) x = if p.1 = x then some p.2 else getA m x := by
  unfold getA
  rw [List.find?_cons]
  by_cases h : p.1 = x <;> simp [h]
theorem getA_nil (x : κ) : getA ([] : List (κ × Value)) x = none := rfl
theorem getA_append (m l : List (κ × Value)) (x : κ) : getA (m ++ l) x = (getA m x).or (getA l x) := by
  induction m with
  | nil => simp [getA_nil]
  | cons p m ih =>
    rw [List.cons_append, getA_cons, getA_cons, ih]
    by_cases h : p.1 = x <;> simp [h]
theorem putA_keys (m : List (κ × Value)) (x : κ) (v : Value) : (putA m x v).map (·.1) = if x ∈ m.map (·.1) then m.map (·.1) else m.map (·.1) ++ [x] := by
  unfold putA
  by_cases h : (getA m x).isSome = true
  · rw [if_pos h, if_pos ((getA_isSome m x).1 h), List.map_map]
    apply List.map_congr_left
    intro p _
    by_cases e : p.1 = x <;> simp [e]
  · rw [if_neg h, if_neg (fun hm => h ((getA_isSome m x).2 hm))]
    simp
theorem getA_put_same (m : List (κ × Value)) (x : κ) (v : Value) : getA (putA m x v) x = some v := by
  unfold putA
  by_cases h : (getA m x).isSome = true
  · rw [if_pos h]
    have hm := (getA_isSome m x).1 h
    clear h
    induction m with
    | nil => simp at hm
    | cons p m ih =>
      rw [List.map_cons, getA_cons]
      by_cases e : p.1 = x
      · simp [e]
      · rw [if_neg e, if_neg e]
        apply ih
        simp at hm ⊢
        rcases hm with hm | hm
        · exact absurd hm.symm e
        · exact hm
  · rw [if_neg h, getA_append]
    have : getA m x = none := by cases hg : getA m x with
      | none => rfl
      | some u => rw [hg] at h; simp at h
    rw [this]
    simp [getA_cons]
theorem getA_put_other (m : List (κ × Value)) (x y : κ) (v : Value) (hne : y ≠ x) : getA (putA m x v) y = getA m y := by
  unfold putA
  by_cases h : (getA m x).isSome = true
  · rw [if_pos h]
    clear h
    induction m with
    | nil => rfl
    | cons p m ih =>
      rw [List.map_cons, getA_cons, getA_cons]
      by_cases e : p.1 = x
      · rw [if_pos e, if_neg (fun h => hne h.symm), if_neg (fun h => hne (h.symm.trans e))]; exact ih
      · rw [if_neg e, ih]
  · rw [if_neg h, getA_append, getA_cons, if_neg (fun h => hne h.symm), getA_nil, Option.or_none]
theorem putA_nodup (m : List (κ × Value)) (x : κ) (v : Value) (h : (m.map (·.1)).Nodup) : ((putA m x v).map (·.1)).Nodup := by
  rw [putA_keys]
  split
  · exact h
  · rename_i hx
    exact List.nodup_append.2 ⟨h, by simp, fun a ha b hb => by simp at hb; subst hb; rintro rfl; exact hx ha⟩
theorem putA_length (m : List (κ × Value)) (x : κ) (v : Value) : (putA m x v).length = if (getA m x).isSome = true then m.length else m.length + 1 := by
  unfold putA
  split <;> simp
end

/-- What the laws want of a key type whose values are those of a record. -/
structure KeyRec {κ : Type} (P : Program) (k : TypeId) (av : κ → Value) (ok : κ → Prop) (kl : κ → Lit) : Prop where
  law : WideMaps.KeyLaw P k
  key : ∀ x, ok x → keyOf P k (av x) = some (kl x)
  inj : ∀ x y, av x = av y → x = y
theorem KeyRec.K {κ : Type} {P : Program} {k : TypeId} {av : κ → Value} {ok : κ → Prop} {kl : κ → Lit} (h : KeyRec P k av ok kl) : Keyed P k := Keyed.of_law h.law
theorem KeyRec.klinj {κ : Type} {P : Program} {k : TypeId} {av : κ → Value} {ok : κ → Prop} {kl : κ → Lit} (h : KeyRec P k av ok kl) {x y : κ} (hx : ok x) (hy : ok y) (e : kl x = kl y) : x = y :=
  h.inj x y (h.K.inj (h.key x hx) (e ▸ h.key y hy))

section
variable {κ : Type} [DecidableEq κ] {P : Program} {k : TypeId} {av : κ → Value} {ok : κ → Prop} {kl : κ → Lit}

/-- A datum is this association list. -/
structure IsA (ok : κ → Prop) (kl : κ → Lit) (D : DataW Value) (m : List (κ × Value)) : Prop where
  nd : (m.map (·.1)).Nodup
  okk : ∀ p ∈ m, ok p.1
  at_ : ∀ x, ok x → ∀ z, D.atKey (kl x) z = (match getA m x with | some v => .held v | none => z)
  has_ : ∀ x, ok x → has D (kl x) = (getA m x).isSome
  back : ∀ l, has D l = true → ∃ x, x ∈ m.map (·.1) ∧ kl x = l
  size_ : size D = m.length

/-- Block b is a map that holds this association list. -/
def MapL (P : Program) (k : TypeId) (ok : κ → Prop) (kl : κ → Lit) (w : World) (b : Nat) (m : List (κ × Value)) : Prop :=
  ∃ D, w.ownsMap P k heldR b m.length D ∧ IsA ok kl D m

theorem MapL.lt {w : World} {b : Nat} {m : List (κ × Value)} (h : MapL P k ok kl w b m) : b < w.heap.size := by
  obtain ⟨D, h1, _⟩ := h; exact h1.lt
theorem MapL.kept {w w' : World} {b : Nat} {m : List (κ × Value)} {row : Option Nat} (h : MapL P k ok kl w b m) (hg : w.grownBy w' row) (hne : some b ≠ row) : MapL P k ok kl w' b m := by
  obtain ⟨D, h1, h2⟩ := h; exact ⟨D, h1.kept hg hne, h2⟩
theorem MapL.below {w w' : World} {b : Nat} {m : List (κ × Value)} (h : MapL P k ok kl w b m) (hb : Below w.heap.size w w') : MapL P k ok kl w' b m :=
  h.kept (row := none) ⟨hb.os, hb.tape, hb.output, hb.size, fun i hi _ => hb.block i hi⟩ (by simp)
theorem MapL.alloc {w : World} {b : Nat} {m : List (κ × Value)} (h : MapL P k ok kl w b m) (o : Obj) : MapL P k ok kl (w.alloc o) b m := by
  obtain ⟨D, h1, h2⟩ := h; exact ⟨D, h1.alloc o, h2⟩
theorem MapL.drew {w : World} {b : Nat} {m : List (κ × Value)} (h : MapL P k ok kl w b m) : MapL P k ok kl w.drew b m := by
  obtain ⟨D, h1, h2⟩ := h; exact ⟨D, h1.drew, h2⟩
theorem MapL.setCell {w : World} {b : Nat} {m : List (κ × Value)} (h : MapL P k ok kl w b m) {a : Addr} (ha : b ≠ a.block) (u : Value) : MapL P k ok kl (w.setCell a u) b m := by
  obtain ⟨D, h1, h2⟩ := h; exact ⟨D, h1.setCell ha u, h2⟩
theorem MapL.made (w : World) : MapL P k ok kl (w.alloc (.map #[] 0)) w.heap.size ([] : List (κ × Value)) :=
  ⟨.map [], World.ownsMap_made w P k heldR, ⟨List.nodup_nil, (fun p hp => by cases hp), fun x _ z => rfl, fun x _ => rfl, (fun l h => by cases h), rfl⟩⟩
theorem ownsMap_size {w : World} {R : Value → Option (DataW Value × List MemPlace)} {b n : Nat} {D : DataW Value} (h : w.ownsMap P k R b n D) {n' : Nat} (e : size D = n') : w.ownsMap P k R b n' D := by
  obtain ⟨es, clock, h1, h2, h3, h4⟩ := h
  refine ⟨es, clock, h1, h2, ?_, h4⟩
  subst h4
  simp [size, length_sorted] at e
  omega

theorem IsA.put {D : DataW Value} {m : List (κ × Value)} (Kr : KeyRec P k av ok kl) (hm : IsMap D) (ht : Tidy D) (h : IsA ok kl D m) (x : κ) (hx : ok x) (v : Value) : IsA ok kl (D.put (kl x) (.held v)) (putA m x v) := by
  have hkx := Kr.K.key (Kr.key x hx)
  refine ⟨putA_nodup m x v h.nd, fun p hp => ?_, fun y hy z => ?_, fun y hy => ?_, fun l hl => ?_, ?_⟩
  · have : p.1 ∈ (putA m x v).map (·.1) := List.mem_map.2 ⟨p, hp, rfl⟩
    rw [putA_keys] at this
    have hok : ∀ y ∈ m.map (·.1), ok y := fun y hy => by obtain ⟨q, hq, rfl⟩ := List.mem_map.1 hy; exact h.okk q hq
    split at this
    · exact hok _ this
    · rcases List.mem_append.1 this with h1 | h1
      · exact hok _ h1
      · simp at h1; rw [h1]; exact hx
  · by_cases e : y = x
    · subst e; rw [atKey_put_same hm hkx, getA_put_same]
    · rw [atKey_put_other (fun he => e (Kr.klinj hy hx he)), getA_put_other _ _ _ _ e]; exact h.at_ y hy z
  · by_cases e : y = x
    · subst e; rw [has_put_same hm hkx, getA_put_same]; rfl
    · rw [has_put_other (fun he => e (Kr.klinj hy hx he)), getA_put_other _ _ _ _ e]; exact h.has_ y hy
  · by_cases e : l = kl x
    · subst e; exact ⟨x, by rw [putA_keys]; split <;> simp_all, rfl⟩
    · rw [has_put_other e] at hl
      obtain ⟨y, hy, rfl⟩ := h.back l hl
      exact ⟨y, by rw [putA_keys]; split <;> simp_all, rfl⟩
  · rw [size_put ht, putA_length, h.has_ x hx, h.size_]

/-- 'm[k] = v'. -/
theorem MapL.update {w : World} {b : Nat} {m : List (κ × Value)} (h : MapL P k ok kl w b m) (Kr : KeyRec P k av ok kl) {t e : TypeId} (ht : P.underlying t = some (.map k e)) (hn : m.length < maxLen) (x : κ) (hx : ok x) (v : Value) :
    ∃ w', (Instr.mapUpdate t (.map (some b)) (av x) v).run P w = .ok () w' ∧ MapL P k ok kl w' b (putA m x v) ∧ w.grownBy w' (some b) ∧ w'.heap.size = w.heap.size := by
  obtain ⟨D, h1, h2⟩ := h
  obtain ⟨w', hr, ho, ht'⟩ := h1.store Kr.K ht hn (Kr.key x hx) (R := heldR) (d := .held v) (ps := []) (val := v) rfl
  have hA := h2.put Kr h1.isMap (h1.tidy Kr.K) x hx v
  refine ⟨w', hr, ⟨_, ownsMap_size ho hA.size_, hA⟩, ht'.grown, ?_⟩
  obtain ⟨_, _, _, _, _, rfl⟩ := ht'
  simp [Go.ChangeMaps.setBlock]
/-- 'm[k]'. -/
theorem MapL.look {w : World} {b : Nat} {m : List (κ × Value)} (h : MapL P k ok kl w b m) (Kr : KeyRec P k av ok kl) {t e : TypeId} (ht : P.underlying t = some (.map k e)) {z : Value} (hz : (zeroValue e).run P w = .ok z w) (x : κ) (hx : ok x) :
    (Instr.lookup t (.map (some b)) (av x) false).run P w = .ok ((getA m x).getD z) w := by
  obtain ⟨D, h1, h2⟩ := h
  obtain ⟨v, ps, hr, hv⟩ := h1.lookup Kr.K ht hz (R := heldR) (zd := .held z) (zp := []) rfl (Kr.key x hx)
  rw [hr]
  have e := h2.at_ x hx (.held z)
  cases hg : getA m x with
  | none => rw [hg] at e; simp only [heldR, Option.some.injEq, Prod.mk.injEq] at hv; rw [e] at hv; injection hv.1 with hv'; rw [hv']; rfl
  | some u => rw [hg] at e; simp only [heldR, Option.some.injEq, Prod.mk.injEq] at hv; rw [e] at hv; injection hv.1 with hv'; rw [hv']; rfl
/-- 'v, ok := m[k]'. -/
theorem MapL.look_ok {w : World} {b : Nat} {m : List (κ × Value)} (h : MapL P k ok kl w b m) (Kr : KeyRec P k av ok kl) {t e : TypeId} (ht : P.underlying t = some (.map k e)) {z : Value} (hz : (zeroValue e).run P w = .ok z w) (x : κ) (hx : ok x) :
    (Instr.lookup t (.map (some b)) (av x) true).run P w = .ok (.tuple #[(getA m x).getD z, .bool (getA m x).isSome]) w := by
  obtain ⟨D, h1, h2⟩ := h
  obtain ⟨v, ps, hr, hv⟩ := h1.look_ok Kr.K ht hz (R := heldR) (zd := .held z) (zp := []) rfl (Kr.key x hx)
  rw [hr, h2.has_ x hx]
  have e := h2.at_ x hx (.held z)
  cases hg : getA m x with
  | none => rw [hg] at e; simp only [heldR, Option.some.injEq, Prod.mk.injEq] at hv; rw [e] at hv; injection hv.1 with hv'; rw [hv']; rfl
  | some u => rw [hg] at e; simp only [heldR, Option.some.injEq, Prod.mk.injEq] at hv; rw [e] at hv; injection hv.1 with hv'; rw [hv']; rfl
theorem setBlock_twice (w : World) (b : Nat) (o o' : Obj) : Go.ChangeMaps.setBlock (Go.ChangeMaps.setBlock w b o) b o' = Go.ChangeMaps.setBlock w b o' := by
  simp [Go.ChangeMaps.setBlock]
/-- 'm[k] += c': the two halves of the store. -/
theorem MapL.bump {w : World} {b : Nat} {m : List (κ × Value)} (h : MapL P k ok kl w b m) (Kr : KeyRec P k av ok kl) {t e : TypeId} (ht : P.underlying t = some (.map k e)) {z : Value} (hz : ∀ u : World, (zeroValue e).run P u = .ok z u) (hn : m.length < maxLen) (x : κ) (hx : ok x) (v : Value) :
    ∃ (v0 : Value) (st : Nat) (w1 w2 : World), (Instr.mapEntry t (.map (some b)) (av x)).run P w = .ok (.tuple #[v0, .int .i64 (st : Nat)]) w1 ∧ (Instr.entryStore t (.map (some b)) (.int .i64 (st : Nat)) v).run P w1 = .ok () w2 ∧
      MapL P k ok kl w2 b (putA m x v) ∧ w.grownBy w2 (some b) ∧ w2.heap.size = w.heap.size := by
  obtain ⟨w', hr, h1, h2, h3⟩ := h.update Kr ht hn x hx v
  obtain ⟨D, ⟨es, clock, hb, F, _, _⟩, _⟩ := h
  obtain ⟨v0, st, es1, clock1, e1, _, e2⟩ := WideElems.entry_then_store Kr.law ht hz hb F (Kr.key x hx)
  obtain ⟨es', clock', e3, e4⟩ := e2 (Go.ChangeMaps.setBlock w b (.map es1 clock1)) v (Go.ChangeMaps.heap_setBlock_same hb _)
  rw [setBlock_twice] at e3
  have : w' = Go.ChangeMaps.setBlock w b (.map es' clock') := by
    rw [hr] at e4
    injection e4
  subst this
  exact ⟨v0, st, _, _, e1, e3, h1, h2, h3⟩
theorem setBlock_self {w : World} {b : Nat} {o : Obj} (h : w.heap[b]? = some o) : Go.ChangeMaps.setBlock w b o = w := by
  have hb := (Array.getElem?_eq_some_iff.1 h).1
  have this : w.heap.setIfInBounds b o = w.heap := by
    apply Array.ext_getElem?
    intro i
    rw [Array.getElem?_setIfInBounds]
    split
    · rename_i e
      subst e
      exact h.symm
    · rfl
  simp [Go.ChangeMaps.setBlock, this]
/-- Between the two halves 'm[k]' reads as it did. -/
theorem MapL.between {w : World} {b : Nat} {m : List (κ × Value)} (h : MapL P k ok kl w b m) (Kr : KeyRec P k av ok kl) {t e : TypeId} (ht : P.underlying t = some (.map k e)) {z : Value} (hz : ∀ u : World, (zeroValue e).run P u = .ok z u) (hn : m.length < maxLen) (x : κ) (hx : ok x)
    {r : Value} {w1 : World} (hrun : (Instr.mapEntry t (.map (some b)) (av x)).run P w = .ok r w1) : (Instr.lookup t (.map (some b)) (av x) false).run P w1 = .ok ((getA m x).getD z) w1 := by
  have hl := h.look Kr ht (hz w) x hx
  obtain ⟨wz, hrz, hmz, _, _⟩ := h.update Kr ht hn x hx z
  have h' := h
  obtain ⟨D, ⟨es, clock, hb, F, _, _⟩, _⟩ := h'
  have hkey := Kr.key x hx
  rcases Kr.law.find w hkey es.toList F.keys with ⟨h1, h2⟩ | ⟨j, e0, h1, h2, h3⟩
  · have e1 : (Instr.mapEntry t (.map (some b)) (av x)).run P w = .ok (.tuple #[z, goInt clock]) (Go.ChangeMaps.setBlock w b (.map (es.push ⟨av x, z, clock⟩) (clock + 1))) := by
      simp [Instr.mapEntry, run_underlying ht, MapKept.run_getObj_map hb, Kr.law.check w false hkey, h1, hz, MapKept.run_setObj_map _ hb, Result.andThen, Go.ChangeMaps.setBlock]
    have e2 : (Instr.mapUpdate t (.map (some b)) (av x) z).run P w = .ok () (Go.ChangeMaps.setBlock w b (.map (es.push ⟨av x, z, clock⟩) (clock + 1))) := by
      simp [Instr.mapUpdate, run_underlying ht, MapKept.run_getObj_map hb, Kr.law.check w false hkey, h1, MapKept.run_setObj_map _ hb, Result.andThen, Go.ChangeMaps.setBlock]
    rw [hrun] at e1
    rw [hrz] at e2
    have e1' := (Result.ok.inj e1).2
    have e2' := (Result.ok.inj e2).2
    rw [e2', ← e1'] at hmz
    clear e1 e2 e1' e2'
    have e3 := hmz.look Kr ht (hz _) x hx
    rw [getA_put_same] at e3
    have e4 : (getA m x).getD z = z := by
      have e5 : (Instr.lookup t (.map (some b)) (av x) false).run P w = .ok z w := by
        rcases Maps.fit_look false Kr.K ht (hz w) hb F hkey with ⟨hr, _⟩ | ⟨e0, y, he0, hk0, _⟩
        · exact hr
        · exact absurd hk0 (h2 e0 he0)
      rw [hl] at e5
      injection e5
    rw [e4]; exact e3
  · have hj : es[j]? = some e0 := by simpa using h2
    have hsame : es.modify j (fun e => { e with key := av x }) = es := by
      apply Array.ext'
      rw [Array.toList_modify, Go.ChangeMaps.modify_eq_set _ _ _ _ h2]
      have : ({ e0 with key := av x } : MapEntry) = e0 := by rw [← h3]
      rw [this]
      exact WideElems.set_self _ _ _ h2
    have e1 : (Instr.mapEntry t (.map (some b)) (av x)).run P w = .ok (.tuple #[e0.val, goInt e0.born]) (Go.ChangeMaps.setBlock w b (.map es clock)) := by
      simp [Instr.mapEntry, run_underlying ht, MapKept.run_getObj_map hb, Kr.law.check w false hkey, h1, hj, h3, Kr.law.stays w hkey, hsame, MapKept.run_setObj_map _ hb, Result.andThen, Go.ChangeMaps.setBlock]
    rw [setBlock_self hb, hrun] at e1
    rw [(Result.ok.inj e1).2]
    exact hl
/-- 'len(m)'. -/
theorem MapL.len {w : World} {b : Nat} {m : List (κ × Value)} (h : MapL P k ok kl w b m) {t e : TypeId} (ht : P.underlying t = some (.map k e)) (ty : TypeId) : (Builtin.len_ #[t] ty #[.map (some b)]).run P w = .ok (.int .i64 m.length) w := by
  obtain ⟨D, h1, h2⟩ := h
  rw [h1.len ht ty, h2.size_]

/-- A set, as a map to true. -/
def setM (l : List κ) : List (κ × Value) := l.foldl (fun m x => putA m x (.bool true)) []
theorem setM_snoc (l : List κ) (x : κ) : setM (l ++ [x]) = putA (setM l) x (.bool true) := by simp [setM]
theorem getA_foldTrue (l : List κ) (m : List (κ × Value)) (x : κ) : getA (l.foldl (fun m x => putA m x (.bool true)) m) x = if x ∈ l then some (.bool true) else getA m x := by
  induction l generalizing m with
  | nil => simp
  | cons y l ih =>
    rw [List.foldl_cons, ih]
    by_cases h : x ∈ l
    · simp [h]
    · by_cases e : x = y
      · subst e; simp [h, getA_put_same]
      · simp [h, e, getA_put_other _ _ _ _ e]
theorem getA_setM (l : List κ) (x : κ) : getA (setM l) x = if x ∈ l then some (.bool true) else none := by
  unfold setM; rw [getA_foldTrue]; rfl
theorem setM_look (l : List κ) (x : κ) : (getA (setM l) x).getD (.bool false) = .bool (decide (x ∈ l)) := by
  rw [getA_setM]
  by_cases h : x ∈ l <;> simp [h]
theorem setM_length (l : List κ) : (setM l).length ≤ l.length := by
  have : ∀ (l : List κ) (m : List (κ × Value)), (l.foldl (fun m x => putA m x (.bool true)) m).length ≤ m.length + l.length := by
    intro l
    induction l with
    | nil => intro m; simp
    | cons y l ih =>
      intro m
      rw [List.foldl_cons]
      refine Nat.le_trans (ih _) ?_
      rw [putA_length, List.length_cons]
      split <;> omega
  simpa [setM] using this l []

/-- 'range m' under way: these keys are still to come. -/
def RangeL (P : Program) (k : TypeId) (ok : κ → Prop) (kl : κ → Lit) (w : World) (b r : Nat) (m : List (κ × Value)) (rest : List κ) : Prop :=
  ∃ D left cnt, w.ranges P k heldR b r m.length D left cnt ∧ IsA ok kl D m ∧ rest.Nodup ∧ (∀ x ∈ rest, x ∈ m.map (·.1)) ∧ (∀ x, ok x → left (kl x) = decide (x ∈ rest)) ∧ ∀ l, left l = true → ∃ x, x ∈ rest ∧ kl x = l
theorem RangeL.mapL {w : World} {b r : Nat} {m : List (κ × Value)} {rest : List κ} (h : RangeL P k ok kl w b r m rest) : MapL P k ok kl w b m := by
  obtain ⟨D, left, cnt, h1, h2, _⟩ := h; exact ⟨D, h1.owns, h2⟩
theorem RangeL.kept {w w' : World} {b r : Nat} {m : List (κ × Value)} {rest : List κ} {row : Option Nat} (h : RangeL P k ok kl w b r m rest) (hg : w.grownBy w' row) (hb : some b ≠ row) (hr : some r ≠ row) : RangeL P k ok kl w' b r m rest := by
  obtain ⟨D, left, cnt, h1, h2⟩ := h; exact ⟨D, left, cnt, h1.kept hg hb hr, h2⟩
theorem RangeL.lt {w : World} {b r : Nat} {m : List (κ × Value)} {rest : List κ} (h : RangeL P k ok kl w b r m rest) : r < w.heap.size := by
  obtain ⟨D, left, cnt, h1, _⟩ := h; exact h1.lt
theorem MapL.range {w : World} {b : Nat} {m : List (κ × Value)} (h : MapL P k ok kl w b m) (Kr : KeyRec P k av ok kl) {t e : TypeId} (ht : P.underlying t = some (.map k e)) :
    ∃ w', (Instr.range t (.map (some b))).run P w = .ok (.pointer (some ⟨w.heap.size, 0, none⟩)) w' ∧ RangeL P k ok kl w' b w.heap.size m (m.map (·.1)) ∧ w.grownBy w' none ∧ w'.heap.size = w.heap.size + 1 := by
  obtain ⟨D, h1, h2⟩ := h
  obtain ⟨w', hr, h3, h4, h5⟩ := h1.range Kr.K ht
  refine ⟨w', hr, ⟨D, _, _, h3, h2, h2.nd, fun x hx => hx, fun x hx => ?_, fun l hl => h2.back l hl⟩, h4, h5⟩
  rw [h2.has_ x hx, Bool.eq_iff_iff, getA_isSome]
  simp
theorem RangeL.next {w : World} {b r : Nat} {m : List (κ × Value)} {rest : List κ} (h : RangeL P k ok kl w b r m rest) (Kr : KeyRec P k av ok kl) (ty : TypeId) :
    (rest = [] ∧ (Instr.next (.pointer (some ⟨r, 0, none⟩)) false ty).run P w = .ok (.tuple #[.bool false]) w) ∨
    ∃ x v w', x ∈ rest ∧ ok x ∧ getA m x = some v ∧ (Instr.next (.pointer (some ⟨r, 0, none⟩)) false ty).run P w = .ok (.tuple #[.bool true, av x, v]) w' ∧
      RangeL P k ok kl w' b r m (rest.erase x) ∧ w.grownBy w' (some r) ∧ w'.heap.size = w.heap.size ∧ (Instr.entry (.pointer (some ⟨r, 0, none⟩))).run P w' = .ok (.tuple #[av x, v]) w' := by
  obtain ⟨D, left, cnt, h1, h2, hnd, hsub, hl1, hl2⟩ := h
  have okr : ∀ x ∈ rest, ok x := fun x hx => by obtain ⟨q, hq, rfl⟩ := List.mem_map.1 (hsub x hx); exact h2.okk q hq
  rcases h1.next Kr.K ty with ⟨_, hall, hrun⟩ | ⟨key, v, l, y, w', cnt', hkey, hlk, hv, hat, hrun, hrg, _, hgr, hsz, hen⟩
  · refine .inl ⟨?_, hrun⟩
    cases rest with
    | nil => rfl
    | cons x rest =>
      have := hl1 x (okr x List.mem_cons_self)
      rw [hall] at this
      simp at this
  · obtain ⟨x, hx, rfl⟩ := hl2 l hlk
    have hok := okr x hx
    obtain rfl : key = av x := Kr.K.inj hkey (Kr.key x hok)
    have hg : getA m x = some v := by
      simp only [heldR, Option.some.injEq] at hv
      subst hv
      have e0 := h2.at_ x hok .nil
      rw [hat] at e0
      cases hg : getA m x with
      | none => rw [hg] at e0; cases e0
      | some u => rw [hg] at e0; injection e0 with e0; rw [e0]
    refine .inr ⟨x, v, w', hx, hok, hg, hrun, ⟨D, _, _, hrg, h2, hnd.erase x, fun y hy => hsub y (List.mem_of_mem_erase hy), fun y hy => ?_, fun l hl => ?_⟩, hgr, hsz, hen⟩
    · show (left (kl y) && !(kl y).sameKey (kl x)) = _
      rw [hl1 y hy, Bool.eq_iff_iff]
      by_cases e : y = x
      · subst e
        rw [WideAt.sameKey_self (Kr.K.key (Kr.key y hy))]
        simp [hnd.mem_erase_iff]
      · rw [sameKey_ne (fun he => e (Kr.klinj hy hok he))]
        simp [hnd.mem_erase_iff, e]
    · simp only [Bool.and_eq_true, Bool.not_eq_true'] at hl
      obtain ⟨y, hy, rfl⟩ := hl2 l hl.1
      refine ⟨y, ?_, rfl⟩
      rw [hnd.mem_erase_iff]
      refine ⟨?_, hy⟩
      rintro rfl
      rw [WideAt.sameKey_self (Kr.K.key (Kr.key y hok))] at hl
      simp at hl
end
end Go.Proofs.YtemkffejekgmfaaDoor
