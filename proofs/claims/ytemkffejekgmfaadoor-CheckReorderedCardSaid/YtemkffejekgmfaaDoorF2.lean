/- sanity. -/
import Derived.Test.YtemkffejekgmfaaDoorF1
namespace Go.Proofs.YtemkffejekgmfaaDoor
open Go.RowKit Go.Shelf Go.Lib

theorem check_exP (A B C : Option Addr) (w : World) (h : PolR w exP A 2 B 2 C 1) (ho : OwnLaid w) : Calls Tryd.prog 11 #[.agg #[.string { data := #[112] }, .slice A 2 2, .slice B 2 2, .slice C 1 1]] w fun e w' => e = .returned (.tuple #[.int .i64 0, .int .i64 0]) ∧ Below w.heap.size w w' := by
  have := check_any exP A 2 B 2 C 1 w h ho; rw [check_ex] at this; exact this
theorem check_twP (A B C : Option Addr) (w : World) (h : PolR w twP A 2 B 2 C 1) (ho : OwnLaid w) : Calls Tryd.prog 11 #[.agg #[.string { data := #[112] }, .slice A 2 2, .slice B 2 2, .slice C 1 1]] w fun e w' => e = .returned (.tuple #[.int .i64 1, .int .i64 4]) ∧ Below w.heap.size w w' := by
  have := check_any twP A 2 B 2 C 1 w h ho; rw [check_tw] at this; exact this
theorem check_dnP (A B C : Option Addr) (w : World) (h : PolR w dnP A 2 B 2 C 1) (ho : OwnLaid w) : Calls Tryd.prog 11 #[.agg #[.string { data := #[112] }, .slice A 2 2, .slice B 2 2, .slice C 1 1]] w fun e w' => e = .returned (.tuple #[.int .i64 4, .int .i64 10]) ∧ Below w.heap.size w w' := by
  have := check_any dnP A 2 B 2 C 1 w h ho; rw [check_dn] at this; exact this
theorem check_noP (w : World) (ho : OwnLaid w) : Calls Tryd.prog 11 #[.agg #[.string ByteArray.empty, .slice none 0 0, .slice none 0 0, .slice none 0 0]] w fun e w' => e = .returned (.tuple #[.int .i64 (-1), .int .i64 4]) ∧ Below w.heap.size w w' := by
  have := check_any noP none 0 none 0 none 0 w (noP_pol w) ho; rw [check_no] at this; exact this
theorem valid_exP (A B C : Option Addr) (w : World) (h : PolR w exP A 2 B 2 C 1) (ho : OwnLaid w) : Calls Tryd.prog 13 #[.agg #[.string { data := #[112] }, .slice A 2 2, .slice B 2 2, .slice C 1 1]] w fun e w' => e = .returned (.bool true) ∧ Below w.heap.size w w' := by
  have := valid_any exP A 2 B 2 C 1 w h ho; rw [check_ex] at this; exact this
theorem valid_twP (A B C : Option Addr) (w : World) (h : PolR w twP A 2 B 2 C 1) (ho : OwnLaid w) : Calls Tryd.prog 13 #[.agg #[.string { data := #[112] }, .slice A 2 2, .slice B 2 2, .slice C 1 1]] w fun e w' => e = .returned (.bool false) ∧ Below w.heap.size w w' := by
  have := valid_any twP A 2 B 2 C 1 w h ho; rw [check_tw] at this; exact this
def nxP : Pol := ⟨sP, [⟨sA, 1, 0⟩, ⟨sB, 127, 9⟩], [⟨1, 0, 1⟩, ⟨2, 1, 0⟩], [⟨3, 2, 0, 5, 1⟩]⟩
theorem normal_exP (A B C : Option Addr) (w : World) (h : PolR w exP A 2 B 2 C 1) : Calls Tryd.prog 18 #[.agg #[.string { data := #[112] }, .slice A 2 2, .slice B 2 2, .slice C 1 1]] w (OwnP nxP w) := by
  have := normal_any exP A 2 B 2 C 1 w h (by decide) (by decide) (by decide); rw [norm_ex] at this; exact this
/-- A policy of the call's own reads as what it is. -/
theorem OwnP.reads {q : Pol} {w : World} {e : Ending} {w' : World} (h : OwnP q w e w') (hn : q.name.size ≤ 140737488355328) (ht : ∀ t ∈ q.types, t.name.size ≤ 140737488355328) (h1 : q.types.length ≤ 140737488355328) (h2 : q.rules.length ≤ 140737488355328) (h3 : q.quorums.length ≤ 140737488355328) :
    ∃ A1 c1 A2 c2 A3 c3, e = .returned (.agg #[.string q.name, .slice A1 q.types.length c1, .slice A2 q.rules.length c2, .slice A3 q.quorums.length c3]) ∧ PolR w' q A1 c1 A2 c2 A3 c3 ∧ Below w.heap.size w w' := by
  obtain ⟨v1, v2, v3, rfl, o1, o2, o3, hb⟩ := h
  obtain ⟨A1, c1, rfl, l1, r1⟩ := RS_own len_Ty (by omega) h1 o1
  obtain ⟨A2, c2, rfl, l2, r2⟩ := RS_own len_Rl (by omega) h2 o2
  obtain ⟨A3, c3, rfl, l3, r3⟩ := RS_own len_Qm (by omega) h3 o3
  exact ⟨A1, c1, A2, c2, A3, c3, rfl, ⟨r1, l1, r2, l2, r3, l3, hn, ht⟩, hb⟩
theorem names_nx : ∀ t ∈ nxP.types, t.name.size ≤ 140737488355328 := by decide
theorem normal_exP' (A B C : Option Addr) (w : World) (h : PolR w exP A 2 B 2 C 1) : Calls Tryd.prog 18 #[.agg #[.string { data := #[112] }, .slice A 2 2, .slice B 2 2, .slice C 1 1]] w fun e w' => ∃ A1 c1 b o c2 A3 c3, e = .returned (.agg #[.string { data := #[112] }, .slice A1 2 c1, .slice (some ⟨b, o, none⟩) 2 c2, .slice A3 1 c3]) ∧ PolR w' nxP A1 c1 (some ⟨b, o, none⟩) c2 A3 c3 ∧ Below w.heap.size w w' :=
  (normal_exP A B C w h).mono fun e w' hh => by
    obtain ⟨A1, c1, A2, c2, A3, c3, he, hp, hb⟩ := hh.reads (by decide) names_nx (by decide) (by decide) (by decide)
    obtain ⟨b, o, rfl, _⟩ := hp.r2.2 (by decide)
    exact ⟨A1, c1, b, o, c2, A3, c3, he, hp, hb⟩
theorem same_ex (A B C A' B' C' : Option Addr) (w : World) (h : PolR w exP A 2 B 2 C 1) (h' : PolR w exP A' 2 B' 2 C' 1) : Calls Tryd.prog 20 #[.agg #[.string { data := #[112] }, .slice A 2 2, .slice B 2 2, .slice C 1 1], .agg #[.string { data := #[112] }, .slice A' 2 2, .slice B' 2 2, .slice C' 1 1]] w fun e w' => e = .returned (.bool true) ∧ Below w.heap.size w w' := by
  have := same_any exP exP A 2 B 2 C 1 A' 2 B' 2 C' 1 w h h'; rw [decide_eq_true rfl] at this; exact this
theorem same_no (A B C A' B' C' : Option Addr) (c1 c2 c3 : Nat) (w : World) (h : PolR w exP A 2 B 2 C 1) (h' : PolR w nxP A' c1 B' c2 C' c3) : Calls Tryd.prog 20 #[.agg #[.string { data := #[112] }, .slice A 2 2, .slice B 2 2, .slice C 1 1], .agg #[.string { data := #[112] }, .slice A' 2 c1, .slice B' 2 c2, .slice C' 1 c3]] w fun e w' => e = .returned (.bool false) ∧ Below w.heap.size w w' := by
  have := same_any exP nxP A 2 B 2 C 1 A' c1 B' c2 C' c3 w h h'; rw [decide_eq_false (by decide)] at this; exact this
theorem name_1 (w : World) : Calls Tryd.prog 15 #[.string { data := #[97, 57] }] w fun e w' => e = .returned (.bool true) ∧ Below w.heap.size w w' := by
  have := name_any { data := #[97, 57] } w (by decide); rw [show nameB { data := #[97, 57] } = true by decide +kernel] at this; exact this
theorem name_2 (w : World) : Calls Tryd.prog 15 #[.string { data := #[57, 97] }] w fun e w' => e = .returned (.bool false) ∧ Below w.heap.size w w' := by
  have := name_any { data := #[57, 97] } w (by decide); rw [show nameB { data := #[57, 97] } = false by decide +kernel] at this; exact this
theorem name_3 (w : World) : Calls Tryd.prog 15 #[.string { data := #[] }] w fun e w' => e = .returned (.bool false) ∧ Below w.heap.size w w' := by
  have := name_any { data := #[] } w (by decide); rw [show nameB { data := #[] } = false by decide +kernel] at this; exact this

theorem keep_cell {B : Nat} {W W' : World} {b o : Nat} {v : Value} (h : W.cell? ⟨b, o, none⟩ = some v) (hb : Below B W W') (hlt : b < B) : W'.cell? ⟨b, o, none⟩ = some v := (hb.cell (p := ⟨b, o, none⟩) hlt).trans h

/-- A box that holds a policy value. -/
structure BoxP (W : World) (b : Nat) (v0 v1 v2 v3 : Value) : Prop where
  lt : b < W.heap.size
  c0 : W.cell? ⟨b, 0, none⟩ = some v0
  c1 : W.cell? ⟨b, 1, none⟩ = some v1
  c2 : W.cell? ⟨b, 2, none⟩ = some v2
  c3 : W.cell? ⟨b, 3, none⟩ = some v3
theorem BoxP.below {W W' : World} {b : Nat} {v0 v1 v2 v3 : Value} (h : BoxP W b v0 v1 v2 v3) (hb : Below W.heap.size W W') : BoxP W' b v0 v1 v2 v3 :=
  ⟨Nat.lt_of_lt_of_le h.lt hb.size, keep_cell h.c0 hb h.lt, keep_cell h.c1 hb h.lt, keep_cell h.c2 hb h.lt, keep_cell h.c3 hb h.lt⟩
theorem BoxP.new (w : World) (v0 v1 v2 v3 : Value) (t : TypeId) : BoxP (w.alloc (.cells #[v0, v1, v2, v3] t)) w.heap.size v0 v1 v2 v3 :=
  ⟨by simp, by simp [go_sem], by simp [go_sem], by simp [go_sem], by simp [go_sem]⟩

set_option maxRecDepth 100000 in
set_option maxHeartbeats 4000000 in
theorem sanity_any (w : World) (hown : OwnLaid w) : Calls Tryd.prog 10 #[] w fun e w' => e = .returned (.bool true) ∧ Below w.heap.size w w' := by
  have HO : Hid (∀ W, Below w.heap.size w W → OwnLaid W) := fun W h => RS.below hown h
  clear hown
  go_enter Tryd.func10, Tryd.ntmps10
  go_wp2_with fail
  refine (example_any w).mono ?_
  rintro e w1 ⟨rfl, X1⟩
  have HB1 := Lib.hid X1.bel
  have HP1 := Lib.hid X1.pol
  clear X1
  generalize (some { block := w.heap.size + 1, off := 0 } : Option Addr) = a1 at *
  generalize (some { block := w.heap.size + 2, off := 0 } : Option Addr) = a2 at *
  generalize (some { block := w.heap.size + 3, off := 0 } : Option Addr) = a3 at *
  go_wp2_with fail
  have HX := BoxP.new w1 (.string { data := #[112] }) (.slice a1 2 2) (.slice a2 2 2) (.slice a3 1 1) 26
  have HQ := HP1.out.below ((Below.refl _ _).alloc (Nat.le_refl _) (.cells #[.string { data := #[112] }, .slice a1 2 2, .slice a2 2 2, .slice a3 1 1] 26))
  have HB := HB1.out.alloc HB1.out.size (.cells #[.string { data := #[112] }, .slice a1 2 2, .slice a2 2 2, .slice a3 1 1] 26)
  clear HB1 HP1
  refine (check_exP a1 a2 a3 _ HQ (HO.out _ HB)).mono ?_
  rintro e w2 ⟨rfl, hb⟩
  generalize w1.heap.size = p1 at *
  have hx2 := HX.below hb
  have HP2 := Lib.hid (HQ.below hb)
  have HB2 := Lib.hid (HB.trans (hb.mono HB.size))
  clear HX HQ HB hb
  have HX2 := Lib.hid hx2
  clear hx2
  go_wp2_with fail
  refine (check_noP w2 (HO.out _ HB2.out)).mono ?_
  rintro e w3 ⟨rfl, hb⟩
  have HX3 := Lib.hid (HX2.out.below hb)
  have HP3 := Lib.hid (HP2.out.below hb)
  have HB3 := Lib.hid (HB2.out.trans (hb.mono HB2.out.size))
  clear hb HX2 HP2 HB2 w2
  go_wp2_with fail
  refine (example_any w3).mono ?_
  rintro e w4 ⟨rfl, X4⟩
  have s1 : w3.heap.size + 1 < w4.heap.size := by rw [X4.sz]; omega
  have c4 : w4.cell? ⟨w3.heap.size + 1, 3, none⟩ = some (.string { data := #[98, 50] }) := cell_of_row w4 _ 3 _ _ (0, 0) X4.b1
  have f4 : w4.frozen? ⟨w3.heap.size + 1, 3, none⟩ = false := by have := X4.b1; simp [World.frozen?, this]
  have hst : Hid (∀ v0 v1 v2 v3, PolR ((w4.setCell ⟨w3.heap.size + 1, 3, none⟩ (.string { data := #[97] })).alloc (.cells #[v0, v1, v2, v3] 26)) twP (some ⟨w3.heap.size + 1, 0, none⟩) 2 (some ⟨w3.heap.size + 2, 0, none⟩) 2 (some ⟨w3.heap.size + 3, 0, none⟩) 1 ∧
      PolR ((w4.setCell ⟨w3.heap.size + 1, 3, none⟩ (.string { data := #[97] })).alloc (.cells #[v0, v1, v2, v3] 26)) exP a1 2 a2 2 a3 1 ∧
      BoxP ((w4.setCell ⟨w3.heap.size + 1, 3, none⟩ (.string { data := #[97] })).alloc (.cells #[v0, v1, v2, v3] 26)) p1 (.string { data := #[112] }) (.slice a1 2 2) (.slice a2 2 2) (.slice a3 1 1) ∧
      BoxP ((w4.setCell ⟨w3.heap.size + 1, 3, none⟩ (.string { data := #[97] })).alloc (.cells #[v0, v1, v2, v3] 26)) w4.heap.size v0 v1 v2 v3 ∧
      Below w.heap.size w ((w4.setCell ⟨w3.heap.size + 1, 3, none⟩ (.string { data := #[97] })).alloc (.cells #[v0, v1, v2, v3] 26))) := fun v0 v1 v2 v3 => by
    have hb : Below w3.heap.size w3 ((w4.setCell ⟨w3.heap.size + 1, 3, none⟩ (.string { data := #[97] })).alloc (.cells #[v0, v1, v2, v3] 26)) := (X4.bel.setCell (by simp) _).alloc (by have := X4.sz; simp; omega) _
    have b1 := (Below.heap_alloc (w4.setCell ⟨w3.heap.size + 1, 3, none⟩ (.string { data := #[97] })) (.cells #[v0, v1, v2, v3] 26) (w3.heap.size + 1) (by have := X4.sz; simp; omega)).trans (heap_set X4.b1 3 (.string { data := #[97] }))
    have b2 := (Below.heap_alloc (w4.setCell ⟨w3.heap.size + 1, 3, none⟩ (.string { data := #[97] })) (.cells #[v0, v1, v2, v3] 26) (w3.heap.size + 2) (by have := X4.sz; simp; omega)).trans (heap_far X4.b2 (w3.heap.size + 1) 3 (.string { data := #[97] }) (by omega))
    have b3 := (Below.heap_alloc (w4.setCell ⟨w3.heap.size + 1, 3, none⟩ (.string { data := #[97] })) (.cells #[v0, v1, v2, v3] 26) (w3.heap.size + 3) (by have := X4.sz; simp; omega)).trans (heap_far X4.b3 (w3.heap.size + 1) 3 (.string { data := #[97] }) (by omega))
    have bx := BoxP.new (w4.setCell ⟨w3.heap.size + 1, 3, none⟩ (.string { data := #[97] })) v0 v1 v2 v3 26
    rw [World.size_setCell] at bx
    exact ⟨pol_of_blocks twP b1 b2 b3 rfl rfl rfl rfl rfl rfl (by decide) names_tw, HP3.out.below hb, HX3.out.below hb, bx, HB3.out.trans (hb.mono HB3.out.size)⟩
  clear X4 HX3 HP3 HB3
  generalize w3.heap.size + 1 = g1 at *
  generalize (some { block := w3.heap.size + 2, off := 0 } : Option Addr) = d2 at *
  generalize (some { block := w3.heap.size + 3, off := 0 } : Option Addr) = d3 at *
  go_wp2_with fail
  obtain ⟨HT, HQ, HX, HY, HB⟩ := hst.out (.string { data := #[112] }) (.slice (some ⟨g1, 0, none⟩) 2 2) (.slice d2 2 2) (.slice d3 1 1)
  clear hst
  refine (check_twP _ d2 d3 _ HT (HO.out _ HB)).mono ?_
  rintro e w6 ⟨rfl, hb⟩
  generalize w4.heap.size = p6 at *
  generalize (some { block := g1, off := 0 } : Option Addr) = d1 at *
  have HX6 := Lib.hid (HX.below hb)
  have HY6 := Lib.hid (HY.below hb)
  have HP6 := Lib.hid (HQ.below hb)
  have HT6 := Lib.hid (HT.below hb)
  have HB6 := Lib.hid (HB.trans (hb.mono HB.size))
  have q0 := HX6.out.c0; have q1 := HX6.out.c1; have q2 := HX6.out.c2; have q3 := HX6.out.c3
  clear HX HY HQ HT HB hb s1 c4 f4
  go_wp2_with fail
  clear q0 q1 q2 q3
  refine (normal_exP' a1 a2 a3 w6 HP6.out).mono ?_
  rintro e w7 ⟨n1, k1, nb, no, k2, n3, k3, rfl, hN, hb⟩
  have HX7 := Lib.hid (HX6.out.below hb)
  have HY7 := Lib.hid (HY6.out.below hb)
  have HP7 := Lib.hid (HP6.out.below hb)
  have HT7 := Lib.hid (HT6.out.below hb)
  have HB7 := Lib.hid (HB6.out.trans (hb.mono HB6.out.size))
  have HN7 := Lib.hid hN
  clear hN hb HX6 HY6 HP6 HT6 HB6
  go_wp2_with fail
  have ha : Below w7.heap.size w7 (w7.alloc (.cells #[.string { data := #[112] }, .slice n1 2 k1, .slice (some ⟨nb, no, none⟩) 2 k2, .slice n3 1 k3] 26)) := (Below.refl _ _).alloc (Nat.le_refl _) _
  have HX8 := Lib.hid (HX7.out.below ha)
  have HY8 := Lib.hid (HY7.out.below ha)
  have HP8 := Lib.hid (HP7.out.below ha)
  have HT8 := Lib.hid (HT7.out.below ha)
  have HN8 := Lib.hid (HN7.out.below ha)
  have HB8 := Lib.hid (HB7.out.trans (ha.mono HB7.out.size))
  have HZ8 := Lib.hid (BoxP.new w7 (.string { data := #[112] }) (.slice n1 2 k1) (.slice (some ⟨nb, no, none⟩) 2 k2) (.slice n3 1 k3) 26)
  clear ha HX7 HY7 HP7 HT7 HB7 HN7
  generalize (w7.alloc (.cells #[.string { data := #[112] }, .slice n1 2 k1, .slice (some ⟨nb, no, none⟩) 2 k2, .slice n3 1 k3] 26)) = w8 at *
  generalize w7.heap.size = p9 at *
  refine (example_any w8).mono ?_
  rintro e w9 ⟨rfl, X9⟩
  have s1 : w8.heap.size + 3 < w9.heap.size := by rw [X9.sz]; omega
  have c4 : w9.cell? ⟨w8.heap.size + 3, 0, none⟩ = some (.int .i64 3) := cell_of_row w9 _ 0 _ _ (0, 0) X9.b3
  have f4 : w9.frozen? ⟨w8.heap.size + 3, 0, none⟩ = false := by have := X9.b3; simp [World.frozen?, this]
  have hst : Hid (∀ v0 v1 v2 v3, PolR ((w9.setCell ⟨w8.heap.size + 3, 0, none⟩ (.int .i64 24)).alloc (.cells #[v0, v1, v2, v3] 26)) dnP (some ⟨w8.heap.size + 1, 0, none⟩) 2 (some ⟨w8.heap.size + 2, 0, none⟩) 2 (some ⟨w8.heap.size + 3, 0, none⟩) 1 ∧
      Below w8.heap.size w8 ((w9.setCell ⟨w8.heap.size + 3, 0, none⟩ (.int .i64 24)).alloc (.cells #[v0, v1, v2, v3] 26))) := fun v0 v1 v2 v3 => by
    have hb : Below w8.heap.size w8 ((w9.setCell ⟨w8.heap.size + 3, 0, none⟩ (.int .i64 24)).alloc (.cells #[v0, v1, v2, v3] 26)) := (X9.bel.setCell (by simp) _).alloc (by have := X9.sz; simp; omega) _
    have b1 := (Below.heap_alloc (w9.setCell ⟨w8.heap.size + 3, 0, none⟩ (.int .i64 24)) (.cells #[v0, v1, v2, v3] 26) (w8.heap.size + 1) (by have := X9.sz; simp; omega)).trans (heap_far X9.b1 (w8.heap.size + 3) 0 (.int .i64 24) (by omega))
    have b2 := (Below.heap_alloc (w9.setCell ⟨w8.heap.size + 3, 0, none⟩ (.int .i64 24)) (.cells #[v0, v1, v2, v3] 26) (w8.heap.size + 2) (by have := X9.sz; simp; omega)).trans (heap_far X9.b2 (w8.heap.size + 3) 0 (.int .i64 24) (by omega))
    have b3 := (Below.heap_alloc (w9.setCell ⟨w8.heap.size + 3, 0, none⟩ (.int .i64 24)) (.cells #[v0, v1, v2, v3] 26) (w8.heap.size + 3) (by have := X9.sz; simp; omega)).trans (heap_set X9.b3 0 (.int .i64 24))
    exact ⟨pol_of_blocks dnP b1 b2 b3 rfl rfl rfl rfl rfl rfl (by decide) names_dn, hb⟩
  clear X9
  generalize (some { block := w8.heap.size + 1, off := 0 } : Option Addr) = e1 at *
  generalize (some { block := w8.heap.size + 2, off := 0 } : Option Addr) = e2 at *
  generalize w8.heap.size + 3 = g3 at *
  go_wp2_with fail
  obtain ⟨HT, hb0⟩ := hst.out (.string { data := #[112] }) (.slice e1 2 2) (.slice e2 2 2) (.slice (some ⟨g3, 0, none⟩) 1 1)
  clear hst s1 c4 f4
  refine (check_dnP e1 e2 _ _ HT (HO.out _ (HB8.out.trans (hb0.mono HB8.out.size)))).mono ?_
  rintro e w10 ⟨rfl, hb⟩
  have hb' := hb0.trans (hb.mono hb0.size)
  have HX := Lib.hid (HX8.out.below hb')
  have HY := Lib.hid (HY8.out.below hb')
  have HP := Lib.hid (HP8.out.below hb')
  have HT := Lib.hid (HT8.out.below hb')
  have HN := Lib.hid (HN8.out.below hb')
  have HZ := Lib.hid (HZ8.out.below hb')
  have HB := Lib.hid (HB8.out.trans (hb'.mono HB8.out.size))
  clear hb hb' hb0 HX8 HY8 HP8 HT8 HN8 HZ8 HB8 w8
  have KEEP : Hid (∀ W W', ((W.cell? ⟨p1, 0, none⟩ = some (.string { data := #[112] }) ∧ W.cell? ⟨p1, 1, none⟩ = some (.slice a1 2 2) ∧ W.cell? ⟨p1, 2, none⟩ = some (.slice a2 2 2) ∧ W.cell? ⟨p1, 3, none⟩ = some (.slice a3 1 1) ∧ W.cell? ⟨p6, 0, none⟩ = some (.string { data := #[112] }) ∧ W.cell? ⟨p6, 1, none⟩ = some (.slice d1 2 2) ∧ W.cell? ⟨p6, 2, none⟩ = some (.slice d2 2 2) ∧ W.cell? ⟨p6, 3, none⟩ = some (.slice d3 1 1) ∧ W.cell? ⟨p9, 0, none⟩ = some (.string { data := #[112] }) ∧ W.cell? ⟨p9, 1, none⟩ = some (.slice n1 2 k1) ∧ W.cell? ⟨p9, 2, none⟩ = some (.slice (some ⟨nb, no, none⟩) 2 k2) ∧ W.cell? ⟨p9, 3, none⟩ = some (.slice n3 1 k3) ∧ W.cell? ⟨nb, no, none⟩ = some (.int .i64 1)) ∧ PolR W exP a1 2 a2 2 a3 1 ∧ PolR W twP d1 2 d2 2 d3 1 ∧ PolR W nxP n1 k1 (some ⟨nb, no, none⟩) k2 n3 k3 ∧ BoxP W p1 (.string { data := #[112] }) (.slice a1 2 2) (.slice a2 2 2) (.slice a3 1 1) ∧ BoxP W p6 (.string { data := #[112] }) (.slice d1 2 2) (.slice d2 2 2) (.slice d3 1 1) ∧ BoxP W p9 (.string { data := #[112] }) (.slice n1 2 k1) (.slice (some ⟨nb, no, none⟩) 2 k2) (.slice n3 1 k3) ∧ Below w.heap.size w W) → Below W.heap.size W W' → ((W'.cell? ⟨p1, 0, none⟩ = some (.string { data := #[112] }) ∧ W'.cell? ⟨p1, 1, none⟩ = some (.slice a1 2 2) ∧ W'.cell? ⟨p1, 2, none⟩ = some (.slice a2 2 2) ∧ W'.cell? ⟨p1, 3, none⟩ = some (.slice a3 1 1) ∧ W'.cell? ⟨p6, 0, none⟩ = some (.string { data := #[112] }) ∧ W'.cell? ⟨p6, 1, none⟩ = some (.slice d1 2 2) ∧ W'.cell? ⟨p6, 2, none⟩ = some (.slice d2 2 2) ∧ W'.cell? ⟨p6, 3, none⟩ = some (.slice d3 1 1) ∧ W'.cell? ⟨p9, 0, none⟩ = some (.string { data := #[112] }) ∧ W'.cell? ⟨p9, 1, none⟩ = some (.slice n1 2 k1) ∧ W'.cell? ⟨p9, 2, none⟩ = some (.slice (some ⟨nb, no, none⟩) 2 k2) ∧ W'.cell? ⟨p9, 3, none⟩ = some (.slice n3 1 k3) ∧ W'.cell? ⟨nb, no, none⟩ = some (.int .i64 1)) ∧ PolR W' exP a1 2 a2 2 a3 1 ∧ PolR W' twP d1 2 d2 2 d3 1 ∧ PolR W' nxP n1 k1 (some ⟨nb, no, none⟩) k2 n3 k3 ∧ BoxP W' p1 (.string { data := #[112] }) (.slice a1 2 2) (.slice a2 2 2) (.slice a3 1 1) ∧ BoxP W' p6 (.string { data := #[112] }) (.slice d1 2 2) (.slice d2 2 2) (.slice d3 1 1) ∧ BoxP W' p9 (.string { data := #[112] }) (.slice n1 2 k1) (.slice (some ⟨nb, no, none⟩) 2 k2) (.slice n3 1 k3) ∧ Below w.heap.size w W')) := by
    rintro W W' ⟨hc, h1, h2, h3, h4, h5, h6, h7⟩ hb
    have g4 := h4.below hb
    have g5 := h5.below hb
    have g6 := h6.below hb
    obtain ⟨_, _, _, _, _, _, _, _, _, _, _, _, hr⟩ := hc
    exact ⟨⟨g4.c0, g4.c1, g4.c2, g4.c3, g5.c0, g5.c1, g5.c2, g5.c3, g6.c0, g6.c1, g6.c2, g6.c3, keep_cell hr hb (World.block_lt_of_cell? W ⟨nb, no, none⟩ hr)⟩, h1.below hb, h2.below hb, h3.below hb, g4, g5, g6, h7.trans (hb.mono h7.size)⟩
  have hr0 : w10.cell? ⟨nb, no, none⟩ = some (.int .i64 1) := by
    obtain ⟨b, o, e, _, hr⟩ := HN.out.r2.2 (by decide)
    cases e
    have := hr 0 (by decide) 0 (.int .i64 1) rfl
    simpa using this
  have HF : Hid (((w10.cell? ⟨p1, 0, none⟩ = some (.string { data := #[112] }) ∧ w10.cell? ⟨p1, 1, none⟩ = some (.slice a1 2 2) ∧ w10.cell? ⟨p1, 2, none⟩ = some (.slice a2 2 2) ∧ w10.cell? ⟨p1, 3, none⟩ = some (.slice a3 1 1) ∧ w10.cell? ⟨p6, 0, none⟩ = some (.string { data := #[112] }) ∧ w10.cell? ⟨p6, 1, none⟩ = some (.slice d1 2 2) ∧ w10.cell? ⟨p6, 2, none⟩ = some (.slice d2 2 2) ∧ w10.cell? ⟨p6, 3, none⟩ = some (.slice d3 1 1) ∧ w10.cell? ⟨p9, 0, none⟩ = some (.string { data := #[112] }) ∧ w10.cell? ⟨p9, 1, none⟩ = some (.slice n1 2 k1) ∧ w10.cell? ⟨p9, 2, none⟩ = some (.slice (some ⟨nb, no, none⟩) 2 k2) ∧ w10.cell? ⟨p9, 3, none⟩ = some (.slice n3 1 k3) ∧ w10.cell? ⟨nb, no, none⟩ = some (.int .i64 1)) ∧ PolR w10 exP a1 2 a2 2 a3 1 ∧ PolR w10 twP d1 2 d2 2 d3 1 ∧ PolR w10 nxP n1 k1 (some ⟨nb, no, none⟩) k2 n3 k3 ∧ BoxP w10 p1 (.string { data := #[112] }) (.slice a1 2 2) (.slice a2 2 2) (.slice a3 1 1) ∧ BoxP w10 p6 (.string { data := #[112] }) (.slice d1 2 2) (.slice d2 2 2) (.slice d3 1 1) ∧ BoxP w10 p9 (.string { data := #[112] }) (.slice n1 2 k1) (.slice (some ⟨nb, no, none⟩) 2 k2) (.slice n3 1 k3) ∧ Below w.heap.size w w10)) := ⟨⟨HX.out.c0, HX.out.c1, HX.out.c2, HX.out.c3, HY.out.c0, HY.out.c1, HY.out.c2, HY.out.c3, HZ.out.c0, HZ.out.c1, HZ.out.c2, HZ.out.c3, hr0⟩, HP.out, HT.out, HN.out, HX.out, HY.out, HZ.out, HB.out⟩
  have HF0 := Lib.hid (KEEP.out _ _ HF.out (Below.refl _ _).drew)
  obtain ⟨b0, b1, b2, b3, b4, b5, b6, b7, b8, b9, b10, b11, b12⟩ := HF.out.1
  clear hr0 HX HY HP HT HN HZ HB HF
  go_wp2_with fail
  simp only [List.append_eq, List.cons_append, List.nil_append]
  go_region_held3 (fun W => (W.cell? ⟨p1, 0, none⟩ = some (.string { data := #[112] }) ∧ W.cell? ⟨p1, 1, none⟩ = some (.slice a1 2 2) ∧ W.cell? ⟨p1, 2, none⟩ = some (.slice a2 2 2) ∧ W.cell? ⟨p1, 3, none⟩ = some (.slice a3 1 1) ∧ W.cell? ⟨p6, 0, none⟩ = some (.string { data := #[112] }) ∧ W.cell? ⟨p6, 1, none⟩ = some (.slice d1 2 2) ∧ W.cell? ⟨p6, 2, none⟩ = some (.slice d2 2 2) ∧ W.cell? ⟨p6, 3, none⟩ = some (.slice d3 1 1) ∧ W.cell? ⟨p9, 0, none⟩ = some (.string { data := #[112] }) ∧ W.cell? ⟨p9, 1, none⟩ = some (.slice n1 2 k1) ∧ W.cell? ⟨p9, 2, none⟩ = some (.slice (some ⟨nb, no, none⟩) 2 k2) ∧ W.cell? ⟨p9, 3, none⟩ = some (.slice n3 1 k3) ∧ W.cell? ⟨nb, no, none⟩ = some (.int .i64 1))) (go_keep) (first | (go_at_call 13; (with_reducible refine (valid_exP a1 a2 a3 _ HF0.out.2.1 (HO.out _ HF0.out.2.2.2.2.2.2.2)).mono ?_); rintro e v1 ⟨rfl, hb1⟩; have HF1 := Lib.hid (KEEP.out _ _ HF0.out hb1); obtain ⟨b0, b1, b2, b3, b4, b5, b6, b7, b8, b9, b10, b11, b12⟩ := HF1.out.1) | (go_at_call 13; (with_reducible refine (valid_twP d1 d2 d3 _ HF1.out.2.2.1 (HO.out _ HF1.out.2.2.2.2.2.2.2)).mono ?_); rintro e v2 ⟨rfl, hb2⟩; have HF2 := Lib.hid (KEEP.out _ _ HF1.out hb2); obtain ⟨b0, b1, b2, b3, b4, b5, b6, b7, b8, b9, b10, b11, b12⟩ := HF2.out.1) | (go_at_call 23; (with_reducible refine (example_any _).mono ?_); rintro e v3 ⟨rfl, X3⟩; have HE3 := Lib.hid X3.pol; have hb3 := X3.bel; clear X3; have HF3 := Lib.hid (KEEP.out _ _ HF2.out hb3); obtain ⟨b0, b1, b2, b3, b4, b5, b6, b7, b8, b9, b10, b11, b12⟩ := HF3.out.1) | (go_at_call 20; (with_reducible refine (same_ex a1 a2 a3 _ _ _ _ HF3.out.2.1 HE3.out).mono ?_); rintro e v4 ⟨rfl, hb4⟩; have HF4 := Lib.hid (KEEP.out _ _ HF3.out hb4); obtain ⟨b0, b1, b2, b3, b4, b5, b6, b7, b8, b9, b10, b11, b12⟩ := HF4.out.1) | (go_at_call 20; (with_reducible refine (same_no a1 a2 a3 _ _ _ _ _ _ _ HF4.out.2.1 HF4.out.2.2.2.1).mono ?_); rintro e v5 ⟨rfl, hb5⟩; have HF5 := Lib.hid (KEEP.out _ _ HF4.out hb5); obtain ⟨b0, b1, b2, b3, b4, b5, b6, b7, b8, b9, b10, b11, b12⟩ := HF5.out.1) | (go_at_call 15; (with_reducible refine (name_1 _).mono ?_); rintro e v6 ⟨rfl, hb6⟩; have HF6 := Lib.hid (KEEP.out _ _ HF5.out hb6); obtain ⟨b0, b1, b2, b3, b4, b5, b6, b7, b8, b9, b10, b11, b12⟩ := HF6.out.1) | (go_at_call 15; (with_reducible refine (name_2 _).mono ?_); rintro e v7 ⟨rfl, hb7⟩; have HF7 := Lib.hid (KEEP.out _ _ HF6.out hb7); obtain ⟨b0, b1, b2, b3, b4, b5, b6, b7, b8, b9, b10, b11, b12⟩ := HF7.out.1) | (go_at_call 15; (with_reducible refine (name_3 _).mono ?_); rintro e v8 ⟨rfl, hb8⟩; have HF8 := Lib.hid (KEEP.out _ _ HF7.out hb8); obtain ⟨b0, b1, b2, b3, b4, b5, b6, b7, b8, b9, b10, b11, b12⟩ := HF8.out.1))
  go_wp2
  go_ret
  exact ⟨rfl, HF8.out.2.2.2.2.2.2.2⟩
end Go.Proofs.YtemkffejekgmfaaDoor
