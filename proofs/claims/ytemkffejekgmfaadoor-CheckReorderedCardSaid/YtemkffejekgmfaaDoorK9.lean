/- check.Normal. -/
import Derived.Test.YtemkffejekgmfaaDoorK8
import Derived.Test.YtemkffejekgmfaaDoorR5
import Derived.Handy
namespace Go.Proofs.YtemkffejekgmfaaDoor
open Go.RowKit Go.Shelf Go.Lib

theorem orI3 (a b c : Int) : orI [a, b, c] = if a ≠ 0 then a else if b ≠ 0 then b else c := by
  unfold orI orI orI orI
  by_cases ha : a = 0 <;> by_cases hb : b = 0 <;> by_cases hc : c = 0 <;> simp [ha, hb, hc]
theorem cmpI_cases (x y : Int) : (x < y ∧ cmpI x y = -1) ∨ (x = y ∧ cmpI x y = 0) ∨ (y < x ∧ cmpI x y = 1) := by
  unfold cmpI
  rcases Int.lt_trichotomy x y with h | h | h
  · left; exact ⟨h, if_pos h⟩
  · right; left; subst h; exact ⟨rfl, by simp⟩
  · right; right; exact ⟨h, by rw [if_neg (by omega), if_pos h]⟩
theorem ltC_Rl (x y : Rl) : ltC cfRl x y = ltRl x y := by
  obtain ⟨x1, x2, x3⟩ := x
  obtain ⟨y1, y2, y3⟩ := y
  unfold ltC cfRl ltRl
  rw [orI3]
  dsimp only
  rcases cmpI_cases x1 y1 with ⟨h, e⟩ | ⟨h, e⟩ | ⟨h, e⟩ <;> rw [e]
  · simp [show x1 ≠ y1 by omega, h]
  · subst h
    rcases cmpI_cases x2 y2 with ⟨h, e⟩ | ⟨h, e⟩ | ⟨h, e⟩ <;> rw [e]
    · simp [show x2 ≠ y2 by omega, h]
    · subst h
      rcases cmpI_cases x3 y3 with ⟨h, e⟩ | ⟨h, e⟩ | ⟨h, e⟩ <;> rw [e] <;> simp <;> omega
    · simp [show x2 ≠ y2 by omega]; omega
  · simp [show x1 ≠ y1 by omega]; omega
def ltQm (x y : Qm) : Bool := decide (x.cmd < y.cmd)
theorem ltC_Qm (x y : Qm) : ltC cfQm x y = ltQm x y := by
  unfold ltC cfQm ltQm
  rcases cmpI_cases x.cmd y.cmd with ⟨h, e⟩ | ⟨h, e⟩ | ⟨h, e⟩ <;> rw [e] <;> simp <;> omega
theorem ltC_Rl_eq : ltC cfRl = ltRl := by funext x y; exact ltC_Rl x y
theorem ltC_Qm_eq : ltC cfQm = ltQm := by funext x y; exact ltC_Qm x y
theorem ord_Rl : Ord (ltC cfRl) := by
  rw [ltC_Rl_eq]
  constructor
  · rintro ⟨a, b, c⟩ ⟨a', b', c'⟩ h
    unfold ltRl at h ⊢
    dsimp only at h ⊢
    by_cases h1 : a = a'
    · subst h1
      rw [if_pos rfl] at h ⊢
      by_cases h2 : b = b'
      · subst h2
        rw [if_pos rfl] at h ⊢
        simp at h ⊢; omega
      · rw [if_neg h2] at h; rw [if_neg (Ne.symm h2)]
        simp at h ⊢; omega
    · rw [if_neg h1] at h; rw [if_neg (Ne.symm h1)]
      simp at h ⊢; omega
  · rintro ⟨a, b, c⟩ ⟨a', b', c'⟩ ⟨a'', b'', c''⟩ h g
    have key : ∀ x y : Rl, ltRl x y = false ↔ (y.kind < x.kind ∨ (y.kind = x.kind ∧ (y.a < x.a ∨ (y.a = x.a ∧ y.b ≤ x.b)))) := by
      intro x y
      unfold ltRl
      by_cases h1 : x.kind = y.kind
      · rw [if_pos h1]
        by_cases h2 : x.a = y.a
        · rw [if_pos h2]; simp; omega
        · rw [if_neg h2]; simp; omega
      · rw [if_neg h1]; simp; omega
    rw [key] at h g ⊢
    dsimp only at *
    omega
theorem ord_Qm : Ord (ltC cfQm) := by
  rw [ltC_Qm_eq]
  unfold ltQm
  constructor
  · intro x y h; simp at h ⊢; omega
  · intro x y z h g; simp at h g ⊢; omega

/-- The normal form. -/
def normS (p : Pol) : Pol := { name := p.name, types := p.types, rules := sortR ltRl p.rules, quorums := sortR ltQm p.quorums }
/-- A policy whose three rows are the call's own. -/
def OwnP (q : Pol) (w : World) (e : Ending) (w' : World) : Prop :=
  ∃ v1 v2 v3, e = .returned (.agg #[.string q.name, v1, v2, v3]) ∧ w'.ownsRow w.heap.size 46 3 v1 q.types.length (q.types.flatMap encTy) ∧ w'.ownsRow w.heap.size 40 3 v2 q.rules.length (q.rules.flatMap encRl) ∧ w'.ownsRow w.heap.size 42 5 v3 q.quorums.length (q.quorums.flatMap encQm) ∧ Below w.heap.size w w'

theorem cells_four (w : World) (b : Nat) (x0 x1 x2 x3 u0 u1 u2 u3 : Value) (h0 : w.cell? ⟨b, 0, none⟩ = some x0) (h1 : w.cell? ⟨b, 1, none⟩ = some x1) (h2 : w.cell? ⟨b, 2, none⟩ = some x2) (h3 : w.cell? ⟨b, 3, none⟩ = some x3) :
    ((((w.setCell ⟨b, 0, none⟩ u0).setCell ⟨b, 1, none⟩ u1).setCell ⟨b, 2, none⟩ u2).setCell ⟨b, 3, none⟩ u3).cell? ⟨b, 0, none⟩ = some u0 ∧ ((((w.setCell ⟨b, 0, none⟩ u0).setCell ⟨b, 1, none⟩ u1).setCell ⟨b, 2, none⟩ u2).setCell ⟨b, 3, none⟩ u3).cell? ⟨b, 1, none⟩ = some u1 ∧ ((((w.setCell ⟨b, 0, none⟩ u0).setCell ⟨b, 1, none⟩ u1).setCell ⟨b, 2, none⟩ u2).setCell ⟨b, 3, none⟩ u3).cell? ⟨b, 2, none⟩ = some u2 ∧ ((((w.setCell ⟨b, 0, none⟩ u0).setCell ⟨b, 1, none⟩ u1).setCell ⟨b, 2, none⟩ u2).setCell ⟨b, 3, none⟩ u3).cell? ⟨b, 3, none⟩ = some u3 := by
  have o : ∀ (w : World) (i j : Nat) (u : Value), i ≠ j → (w.setCell ⟨b, i, none⟩ u).cell? ⟨b, j, none⟩ = w.cell? ⟨b, j, none⟩ := fun w i j u h => World.cell?_setCell_other _ _ _ _ (fun e => by cases e; exact h rfl)
  refine ⟨?_, ?_, ?_, ?_⟩
  · rw [o _ _ _ _ (by decide), o _ _ _ _ (by decide), o _ _ _ _ (by decide)]; exact World.cell?_setCell_same _ _ _ h0
  · rw [o _ _ _ _ (by decide), o _ _ _ _ (by decide)]; exact World.cell?_setCell_same _ _ _ ((o _ _ _ _ (by decide)).trans h1)
  · rw [o _ _ _ _ (by decide)]; exact World.cell?_setCell_same _ _ _ ((o _ _ _ _ (by decide)).trans ((o _ _ _ _ (by decide)).trans h2))
  · exact World.cell?_setCell_same _ _ _ ((o _ _ _ _ (by decide)).trans ((o _ _ _ _ (by decide)).trans ((o _ _ _ _ (by decide)).trans h3)))
theorem own_base {w : World} {B B' T k : Nat} {v : Value} {n : Nat} {xs : List Value} (h : w.ownsRow B T k v n xs) (hB : B' ≤ B) : w.ownsRow B' T k v n xs :=
  ⟨h.1, h.2.imp id fun ⟨g, cap, cur, h1, h2, h3⟩ => ⟨g, cap, cur, h1, Nat.le_trans hB h2, h3⟩⟩
theorem own_slice {w : World} {B T k : Nat} {v : Value} {n : Nat} {xs : List Value} (h : w.ownsRow B T k v n xs) : ∃ A c, v = .slice A n c := by
  rcases h.2 with ⟨rfl, rfl⟩ | ⟨g, cap, cur, rfl, _⟩
  · exact ⟨_, _, rfl⟩
  · exact ⟨_, _, rfl⟩
theorem own_calls {P : Program} {f : FuncId} {args : Array Value} {W : World} {T k n : Nat} {xs : List Value} (h : Calls P f args W (fun e w' => ∃ v, e = .returned v ∧ w'.ownsRow W.heap.size T k v n xs ∧ Below W.heap.size W w')) :
    Calls P f args W (fun e w' => ∃ A c, e = .returned (.slice A n c) ∧ w'.ownsRow W.heap.size T k (.slice A n c) n xs ∧ Below W.heap.size W w') :=
  h.mono fun e w' ⟨v, he, ho, hb⟩ => by
    obtain ⟨A, c, rfl⟩ := own_slice ho
    exact ⟨A, c, he, ho, hb⟩
set_option maxRecDepth 100000 in
set_option maxHeartbeats 4000000 in
theorem normal_any (q : Pol) (A1 : Option Addr) (c1 : Nat) (A2 : Option Addr) (c2 : Nat) (A3 : Option Addr) (c3 : Nat) (w : World) (hp : PolR w q A1 c1 A2 c2 A3 c3) (h1 : q.types.length * 32 ≤ 140737488355328) (h2 : q.rules.length * 24 ≤ 140737488355328) (h3 : q.quorums.length * 40 ≤ 140737488355328) :
    Calls Tryd.prog 18 #[.agg #[.string q.name, .slice A1 q.types.length c1, .slice A2 q.rules.length c2, .slice A3 q.quorums.length c3]] w (OwnP (normS q) w) := by
  obtain ⟨p, hp0⟩ : ∃ p, w.heap.size = p := ⟨_, rfl⟩
  have C1 : Hid (∀ W, Below w.heap.size w W → Calls Tryd.prog 30 #[.slice A1 q.types.length c1] W (fun e w' => ∃ A c, e = .returned (.slice A q.types.length c) ∧ w'.ownsRow W.heap.size 46 3 (.slice A q.types.length c) q.types.length (q.types.flatMap encTy) ∧ Below W.heap.size W w')) := fun W hW => own_calls (clone_Type A1 c1 q.types W (hp.r1.below hW) h1)
  have C2 : Hid (∀ W, Below w.heap.size w W → Calls Tryd.prog 31 #[.slice A2 q.rules.length c2, .func (.func 32) #[] #[]] W (fun e w' => ∃ A c, e = .returned (.slice A (sortR ltRl q.rules).length c) ∧ w'.ownsRow W.heap.size 40 3 (.slice A (sortR ltRl q.rules).length c) (sortR ltRl q.rules).length ((sortR ltRl q.rules).flatMap encRl) ∧ Below W.heap.size W w')) := fun W hW => by
    rw [← ltC_Rl_eq]; exact own_calls (sorted_Rule ord_Rl A2 c2 q.rules W (hp.r2.below hW) h2)
  have C3 : Hid (∀ W, Below w.heap.size w W → Calls Tryd.prog 35 #[.slice A3 q.quorums.length c3, .func (.func 36) #[] #[]] W (fun e w' => ∃ A c, e = .returned (.slice A (sortR ltQm q.quorums).length c) ∧ w'.ownsRow W.heap.size 42 5 (.slice A (sortR ltQm q.quorums).length c) (sortR ltQm q.quorums).length ((sortR ltQm q.quorums).flatMap encQm) ∧ Below W.heap.size W w')) := fun W hW => by
    rw [← ltC_Qm_eq]; exact own_calls (sorted_Quorum ord_Qm A3 c3 q.quorums W (hp.r3.below hW) h3)
  have HFIN : Hid (∀ B1 d1 B2 d2 B3 d3 W0 w1 w2 w3, p + 2 ≤ W0.heap.size → Below p w W0 → w1.ownsRow W0.heap.size 46 3 (.slice B1 q.types.length d1) q.types.length (q.types.flatMap encTy) → Below W0.heap.size W0 w1 → w2.ownsRow w1.heap.size 40 3 (.slice B2 (sortR ltRl q.rules).length d2) (sortR ltRl q.rules).length ((sortR ltRl q.rules).flatMap encRl) → Below w1.heap.size w1 w2 →
      w3.ownsRow w2.heap.size 42 5 (.slice B3 (sortR ltQm q.quorums).length d3) (sortR ltQm q.quorums).length ((sortR ltQm q.quorums).flatMap encQm) → Below w2.heap.size w2 w3 → ∀ u0 u1 u2 u3, OwnP (normS q) w (.returned (.agg #[.string q.name, .slice B1 q.types.length d1, .slice B2 (sortR ltRl q.rules).length d2, .slice B3 (sortR ltQm q.quorums).length d3])) ((((w3.setCell ⟨p + 1, 0, none⟩ u0).setCell ⟨p + 1, 1, none⟩ u1).setCell ⟨p + 1, 2, none⟩ u2).setCell ⟨p + 1, 3, none⟩ u3)) := by
    intro B1 d1 B2 d2 B3 d3 W0 w1 w2 w3 hs hB ho1 hb1 ho2 hb2 ho3 hb3 u0 u1 u2 u3
    have o1 := own_base (own_below (own_below ho1 hb2) hb3) hs
    have o2 := own_base (own_below ho2 hb3) (Nat.le_trans hs hb1.size)
    have o3 := own_base ho3 (Nat.le_trans hs (Nat.le_trans hb1.size hb2.size))
    have hB3 : Below p w w3 := ((hB.trans (hb1.mono (by omega))).trans (hb2.mono (by have := hb1.size; omega))).trans (hb3.mono (by have := hb1.size; have := hb2.size; omega))
    have st : ∀ {W : World} {T k : Nat} {v : Value} {n : Nat} {xs : List Value}, W.ownsRow (p + 2) T k v n xs → ((((W.setCell ⟨p + 1, 0, none⟩ u0).setCell ⟨p + 1, 1, none⟩ u1).setCell ⟨p + 1, 2, none⟩ u2).setCell ⟨p + 1, 3, none⟩ u3).ownsRow p T k v n xs := fun h =>
      own_base (ownsRow_setCell_below (ownsRow_setCell_below (ownsRow_setCell_below (ownsRow_setCell_below h (by simp) _) (by simp) _) (by simp) _) (by simp) _) (by omega)
    subst hp0
    refine ⟨_, _, _, rfl, st o1, st o2, st o3, (((hB3.setCell ?_ _).setCell ?_ _).setCell ?_ _).setCell ?_ _⟩ <;> simp
  clear hp h1 h2 h3
  generalize (sortR ltRl q.rules).length = m2 at *
  generalize (sortR ltQm q.quorums).length = m3 at *
  generalize q.name = pn at *
  generalize q.types.length = n1 at *
  generalize q.rules.length = n2 at *
  generalize q.quorums.length = n3 at *
  go_enter Tryd.func18, Tryd.ntmps18
  go_wp2
  have HS : ((World.alloc (World.alloc w (Obj.cells #[.string pn, .slice A1 n1 c1, .slice A2 n2 c2, .slice A3 n3 c3] 26)) (Obj.cells #[.string ByteArray.empty, .slice none 0 0, .slice none 0 0, .slice none 0 0] 26)).cell? ⟨p, 0, none⟩ = some (.string pn) ∧ (World.alloc (World.alloc w (Obj.cells #[.string pn, .slice A1 n1 c1, .slice A2 n2 c2, .slice A3 n3 c3] 26)) (Obj.cells #[.string ByteArray.empty, .slice none 0 0, .slice none 0 0, .slice none 0 0] 26)).cell? ⟨p, 1, none⟩ = some (.slice A1 n1 c1) ∧ (World.alloc (World.alloc w (Obj.cells #[.string pn, .slice A1 n1 c1, .slice A2 n2 c2, .slice A3 n3 c3] 26)) (Obj.cells #[.string ByteArray.empty, .slice none 0 0, .slice none 0 0, .slice none 0 0] 26)).cell? ⟨p, 2, none⟩ = some (.slice A2 n2 c2) ∧ (World.alloc (World.alloc w (Obj.cells #[.string pn, .slice A1 n1 c1, .slice A2 n2 c2, .slice A3 n3 c3] 26)) (Obj.cells #[.string ByteArray.empty, .slice none 0 0, .slice none 0 0, .slice none 0 0] 26)).cell? ⟨p, 3, none⟩ = some (.slice A3 n3 c3) ∧ (World.alloc (World.alloc w (Obj.cells #[.string pn, .slice A1 n1 c1, .slice A2 n2 c2, .slice A3 n3 c3] 26)) (Obj.cells #[.string ByteArray.empty, .slice none 0 0, .slice none 0 0, .slice none 0 0] 26)).cell? ⟨p + 1, 0, none⟩ = some (.string ByteArray.empty) ∧ (World.alloc (World.alloc w (Obj.cells #[.string pn, .slice A1 n1 c1, .slice A2 n2 c2, .slice A3 n3 c3] 26)) (Obj.cells #[.string ByteArray.empty, .slice none 0 0, .slice none 0 0, .slice none 0 0] 26)).cell? ⟨p + 1, 1, none⟩ = some (.slice none 0 0) ∧ (World.alloc (World.alloc w (Obj.cells #[.string pn, .slice A1 n1 c1, .slice A2 n2 c2, .slice A3 n3 c3] 26)) (Obj.cells #[.string ByteArray.empty, .slice none 0 0, .slice none 0 0, .slice none 0 0] 26)).cell? ⟨p + 1, 2, none⟩ = some (.slice none 0 0) ∧ (World.alloc (World.alloc w (Obj.cells #[.string pn, .slice A1 n1 c1, .slice A2 n2 c2, .slice A3 n3 c3] 26)) (Obj.cells #[.string ByteArray.empty, .slice none 0 0, .slice none 0 0, .slice none 0 0] 26)).cell? ⟨p + 1, 3, none⟩ = some (.slice none 0 0) ∧ (∀ j, (World.alloc (World.alloc w (Obj.cells #[.string pn, .slice A1 n1 c1, .slice A2 n2 c2, .slice A3 n3 c3] 26)) (Obj.cells #[.string ByteArray.empty, .slice none 0 0, .slice none 0 0, .slice none 0 0] 26)).frozen? ⟨p + 1, j, none⟩ = false) ∧ p + 2 ≤ (World.alloc (World.alloc w (Obj.cells #[.string pn, .slice A1 n1 c1, .slice A2 n2 c2, .slice A3 n3 c3] 26)) (Obj.cells #[.string ByteArray.empty, .slice none 0 0, .slice none 0 0, .slice none 0 0] 26)).heap.size ∧ Below p w (World.alloc (World.alloc w (Obj.cells #[.string pn, .slice A1 n1 c1, .slice A2 n2 c2, .slice A3 n3 c3] 26)) (Obj.cells #[.string ByteArray.empty, .slice none 0 0, .slice none 0 0, .slice none 0 0] 26))) := by
    subst hp0
    exact ⟨by simp [go_sem], by simp [go_sem], by simp [go_sem], by simp [go_sem], by simp [go_sem], by simp [go_sem], by simp [go_sem], by simp [go_sem], fun j => by simp [go_sem], by simp, ((Below.refl _ _).alloc (Nat.le_refl _) _).alloc (by simp) _⟩
  change Code.wp _ _ _ _ (World.alloc (World.alloc w (Obj.cells #[.string pn, .slice A1 n1 c1, .slice A2 n2 c2, .slice A3 n3 c3] 26)) (Obj.cells #[.string ByteArray.empty, .slice none 0 0, .slice none 0 0, .slice none 0 0] 26))
  generalize (World.alloc (World.alloc w (Obj.cells #[.string pn, .slice A1 n1 c1, .slice A2 n2 c2, .slice A3 n3 c3] 26)) (Obj.cells #[.string ByteArray.empty, .slice none 0 0, .slice none 0 0, .slice none 0 0] 26)) = W0 at *
  obtain ⟨a0, a1, a2, a3, b0, b1, b2, b3, bf, hsz, hB⟩ := HS
  rw [hp0] at *
  have HP := Lib.hid hp0
  clear hp0
  have hdr : ∀ W, Below p w W → Below p w W.drew := fun W h => h.drew
  have KEEP : Hid (∀ W W', (W.cell? ⟨p, 0, none⟩ = some (.string pn) ∧ W.cell? ⟨p, 1, none⟩ = some (.slice A1 n1 c1) ∧ W.cell? ⟨p, 2, none⟩ = some (.slice A2 n2 c2) ∧ W.cell? ⟨p, 3, none⟩ = some (.slice A3 n3 c3) ∧ W.cell? ⟨p + 1, 0, none⟩ = some (.string ByteArray.empty) ∧ W.cell? ⟨p + 1, 1, none⟩ = some (.slice none 0 0) ∧ W.cell? ⟨p + 1, 2, none⟩ = some (.slice none 0 0) ∧ W.cell? ⟨p + 1, 3, none⟩ = some (.slice none 0 0) ∧ (∀ j, W.frozen? ⟨p + 1, j, none⟩ = false) ∧ p + 2 ≤ W.heap.size ∧ Below p w W) → Below W.heap.size W W' → (W'.cell? ⟨p, 0, none⟩ = some (.string pn) ∧ W'.cell? ⟨p, 1, none⟩ = some (.slice A1 n1 c1) ∧ W'.cell? ⟨p, 2, none⟩ = some (.slice A2 n2 c2) ∧ W'.cell? ⟨p, 3, none⟩ = some (.slice A3 n3 c3) ∧ W'.cell? ⟨p + 1, 0, none⟩ = some (.string ByteArray.empty) ∧ W'.cell? ⟨p + 1, 1, none⟩ = some (.slice none 0 0) ∧ W'.cell? ⟨p + 1, 2, none⟩ = some (.slice none 0 0) ∧ W'.cell? ⟨p + 1, 3, none⟩ = some (.slice none 0 0) ∧ (∀ j, W'.frozen? ⟨p + 1, j, none⟩ = false) ∧ p + 2 ≤ W'.heap.size ∧ Below p w W')) := by
    rintro W W' ⟨a0, a1, a2, a3, b0, b1, b2, b3, bf, hsz, hB⟩ h
    have c : ∀ b o, b < p + 2 → W'.cell? ⟨b, o, none⟩ = W.cell? ⟨b, o, none⟩ := fun b o hlt => h.cell (p := ⟨b, o, none⟩) (by simp; omega)
    have f : ∀ b o, b < p + 2 → W'.frozen? ⟨b, o, none⟩ = W.frozen? ⟨b, o, none⟩ := fun b o hlt => h.frozen (p := ⟨b, o, none⟩) (by simp; omega)
    exact ⟨(c _ _ (by omega)).trans a0, (c _ _ (by omega)).trans a1, (c _ _ (by omega)).trans a2, (c _ _ (by omega)).trans a3, (c _ _ (by omega)).trans b0, (c _ _ (by omega)).trans b1, (c _ _ (by omega)).trans b2, (c _ _ (by omega)).trans b3, fun j => (f _ _ (by omega)).trans (bf j), Nat.le_trans hsz h.size, hB.trans (h.mono (by omega))⟩
  have HS0 : Hid ((W0.drew.cell? ⟨p, 0, none⟩ = some (.string pn) ∧ W0.drew.cell? ⟨p, 1, none⟩ = some (.slice A1 n1 c1) ∧ W0.drew.cell? ⟨p, 2, none⟩ = some (.slice A2 n2 c2) ∧ W0.drew.cell? ⟨p, 3, none⟩ = some (.slice A3 n3 c3) ∧ W0.drew.cell? ⟨p + 1, 0, none⟩ = some (.string ByteArray.empty) ∧ W0.drew.cell? ⟨p + 1, 1, none⟩ = some (.slice none 0 0) ∧ W0.drew.cell? ⟨p + 1, 2, none⟩ = some (.slice none 0 0) ∧ W0.drew.cell? ⟨p + 1, 3, none⟩ = some (.slice none 0 0) ∧ (∀ j, W0.drew.frozen? ⟨p + 1, j, none⟩ = false) ∧ p + 2 ≤ W0.drew.heap.size ∧ Below p w W0.drew)) := ⟨a0, a1, a2, a3, b0, b1, b2, b3, bf, hsz, hdr _ hB⟩
  go_region_held3 (fun W => (W.cell? ⟨p, 0, none⟩ = some (.string pn) ∧ W.cell? ⟨p, 1, none⟩ = some (.slice A1 n1 c1) ∧ W.cell? ⟨p, 2, none⟩ = some (.slice A2 n2 c2) ∧ W.cell? ⟨p, 3, none⟩ = some (.slice A3 n3 c3) ∧ p + 2 ≤ W.heap.size)) (go_keep) (first | (go_at_call 30; (with_reducible refine (C1.out _ (hdr _ hB)).mono ?_); rintro e w1 ⟨B1, d1, rfl, ho1, hb1⟩; have hS1 := KEEP.out _ _ HS0.out hb1; obtain ⟨a0, a1, a2, a3, b0, b1, b2, b3, bf, hsz, hB1⟩ := hS1; have HS1 := Lib.hid (KEEP.out _ _ HS0.out hb1)) | (go_at_call 31; (with_reducible refine (C2.out _ hB1).mono ?_); rintro e w2 ⟨B2, d2, rfl, ho2, hb2⟩; have hS2 := KEEP.out _ _ HS1.out hb2; obtain ⟨a0, a1, a2, a3, b0, b1, b2, b3, bf, hsz, hB2⟩ := hS2; have HS2 := Lib.hid (KEEP.out _ _ HS1.out hb2)) | (go_at_call 35; (with_reducible refine (C3.out _ hB2).mono ?_); rintro e w3 ⟨B3, d3, rfl, ho3, hb3⟩; have hS3 := KEEP.out _ _ HS2.out hb3; obtain ⟨a0, a1, a2, a3, b0, b1, b2, b3, bf, hsz, hB3⟩ := hS3))
  go_wp2
  have hfin := HFIN.out B1 d1 B2 d2 B3 d3 W0.drew w1 w2 w3 (by have := HS0.out.2.2.2.2.2.2.2.2.2.1; exact this) HS0.out.2.2.2.2.2.2.2.2.2.2 ho1 hb1 ho2 hb2 ho3 hb3 (.string pn) (.slice B1 n1 d1) (.slice B2 m2 d2) (.slice B3 m3 d3)
  have HF := Lib.hid hfin
  obtain ⟨q0, q1, q2, q3⟩ := cells_four w3 (p + 1) _ _ _ _ (.string pn) (.slice B1 n1 d1) (.slice B2 m2 d2) (.slice B3 m3 d3) b0 b1 b2 b3
  clear hfin
  generalize ((((w3.setCell ⟨p + 1, 0, none⟩ (.string pn)).setCell ⟨p + 1, 1, none⟩ (.slice B1 n1 d1)).setCell ⟨p + 1, 2, none⟩ (.slice B2 m2 d2)).setCell ⟨p + 1, 3, none⟩ (.slice B3 m3 d3)) = w4 at *
  refine bodyPost_ret (by simp [results, Tryd.results18, go_sem, q0, q1, q2, q3]; try rfl) rfl ?_
  exact HF.out
end Go.Proofs.YtemkffejekgmfaaDoor
