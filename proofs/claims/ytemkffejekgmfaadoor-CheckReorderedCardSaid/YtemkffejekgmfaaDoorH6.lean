/- Counting in a map; what CheckNormal's loops keep. -/
import Derived.Test.YtemkffejekgmfaaDoorF4
import Derived.Test.YtemkffejekgmfaaDoorL6
namespace Go.Proofs.YtemkffejekgmfaaDoor
open Go.RowKit Go.Shelf Go.Lib

/-- What the map counts. -/
def CntM (m : List (Rl × Value)) (f : Rl → Int) : Prop := ∀ x, okRl x → (getA m x).getD (.int .i64 0) = .int .i64 (f x)
theorem CntM.put {m : List (Rl × Value)} {f : Rl → Int} (h : CntM m f) (x : Rl) (g : Rl → Int) (hx : ∀ y, y ≠ x → g y = f y) : CntM (putA m x (.int .i64 (g x))) g := by
  intro y hy
  by_cases e : y = x
  · subst e; rw [getA_put_same]; rfl
  · rw [getA_put_other _ _ _ _ e, hx y e]; exact h y hy
theorem CntM.nil : CntM [] (fun _ => 0) := fun _ _ => rfl
theorem zero_int : ∀ w : World, (zeroValue 3).run Tryd.prog w = .ok (.int .i64 0) w := fun _ => by kernel_rfl

structure NoSt (w2 W : World) (b1 b3 b4 : Nat) (u0 u1 u2 u3 v0 v1 v2 v3 : Value) (m : List (Rl × Value)) : Prop where
  bel : Below w2.heap.size w2 W
  x1 : BoxP W b1 u0 u1 u2 u3
  x3 : BoxP W b3 v0 v1 v2 v3
  mp : MapL Tryd.prog 40 okRl klRl W b4 m
  l1 : b1 ≠ b4
  l3 : b3 ≠ b4
  l4 : w2.heap.size ≤ b4
theorem NoSt.grow {w2 W W' : World} {b1 b3 b4 : Nat} {u0 u1 u2 u3 v0 v1 v2 v3 : Value} {m : List (Rl × Value)} (h : NoSt w2 W b1 b3 b4 u0 u1 u2 u3 v0 v1 v2 v3 m) (hb : Below W.heap.size W W') : NoSt w2 W' b1 b3 b4 u0 u1 u2 u3 v0 v1 v2 v3 m :=
  ⟨h.bel.trans (hb.mono h.bel.size), h.x1.below hb, h.x3.below hb, h.mp.below hb, h.l1, h.l3, h.l4⟩
theorem NoSt.upd {w2 W W' : World} {b1 b3 b4 : Nat} {u0 u1 u2 u3 v0 v1 v2 v3 : Value} {m m' : List (Rl × Value)} (h : NoSt w2 W b1 b3 b4 u0 u1 u2 u3 v0 v1 v2 v3 m) (hg : W.grownBy W' (some b4)) (hm : MapL Tryd.prog 40 okRl klRl W' b4 m') : NoSt w2 W' b1 b3 b4 u0 u1 u2 u3 v0 v1 v2 v3 m' :=
  ⟨h.bel.grown hg h.bel.size (fun j hj => by cases hj; exact h.l4), h.x1.far hg h.l1, h.x3.far hg h.l3, hm, h.l1, h.l3, h.l4⟩

theorem NoSt.turn {w2 W W' : World} {b1 b3 b4 r : Nat} {u0 u1 u2 u3 v0 v1 v2 v3 : Value} {m : List (Rl × Value)} (h : NoSt w2 W b1 b3 b4 u0 u1 u2 u3 v0 v1 v2 v3 m) (hg : W.grownBy W' (some r)) (h1 : b1 ≠ r) (h3 : b3 ≠ r) (h4 : b4 ≠ r) (hr : w2.heap.size ≤ r) : NoSt w2 W' b1 b3 b4 u0 u1 u2 u3 v0 v1 v2 v3 m :=
  ⟨h.bel.grown hg h.bel.size (fun j hj => by cases hj; exact hr), h.x1.far hg h1, h.x3.far hg h3, h.mp.kept hg (by simpa using h4), h.l1, h.l3, h.l4⟩
theorem count_snoc (l : List Rl) (x y : Rl) : ((l ++ [x]).count y : Int) = (l.count y : Int) + (if y = x then 1 else 0) := by
  rw [List.count_append, List.count_singleton]
  by_cases h : y = x
  · subst h; simp
  · have : (x == y) = false := by simpa using fun e : x = y => h e.symm
    simp [h, this]
/-- One step of a count. -/
theorem bump_int {W : World} {b4 : Nat} {m : List (Rl × Value)} {f : Rl → Int} (h : MapL Tryd.prog 40 okRl klRl W b4 m) (hc : CntM m f) (hn : m.length ≤ 140737488355328) (x : Rl) (hx : okRl x) (v : Int) :
    (Instr.lookup 38 (.map (some b4)) (avRl x) false).run Tryd.prog W = .ok (.int .i64 (f x)) W ∧
    ∃ (v0 : Value) (st : Nat) (w1 w2 : World), (Instr.mapEntry 38 (.map (some b4)) (avRl x)).run Tryd.prog W = .ok (.tuple #[v0, .int .i64 (st : Nat)]) w1 ∧ (Instr.entryStore 38 (.map (some b4)) (.int .i64 (st : Nat)) (.int .i64 v)).run Tryd.prog w1 = .ok () w2 ∧
      MapL Tryd.prog 40 okRl klRl w2 b4 (putA m x (.int .i64 v)) ∧ W.grownBy w2 (some b4) ∧ (Instr.lookup 38 (.map (some b4)) (avRl x) false).run Tryd.prog w1 = .ok (.int .i64 (f x)) w1 := by
  have hl := h.look keyed_Rl Tryd.underlying38 (zero_int _) x hx
  rw [hc x hx] at hl
  obtain ⟨v0, st, w1, w2, h1, h2, h3, h4, _⟩ := h.bump keyed_Rl Tryd.underlying38 zero_int (by unfold maxLen; omega) x hx (.int .i64 v)
  have hb := h.between keyed_Rl Tryd.underlying38 zero_int (by unfold maxLen; omega) x hx h1
  rw [hc x hx] at hb
  exact ⟨hl, v0, st, w1, w2, h1, h2, h3, h4, hb⟩
theorem not_lt_Rl {o r : Rl} (h : ltRl r o = false) : ¬ r.kind < o.kind ∧ (o.kind = r.kind → ¬ r.a < o.a ∧ (o.a = r.a → ¬ r.b < o.b)) := by
  unfold ltRl at h
  refine ⟨?_, fun e1 => ⟨?_, fun e2 => ?_⟩⟩
  · intro hlt
    rw [if_neg (by omega)] at h
    simp at h; omega
  · intro hlt
    rw [if_pos e1.symm, if_neg (by omega)] at h
    simp at h; omega
  · intro hlt
    rw [if_pos e1.symm, if_pos e2.symm] at h
    simp at h; omega
end Go.Proofs.YtemkffejekgmfaaDoor
