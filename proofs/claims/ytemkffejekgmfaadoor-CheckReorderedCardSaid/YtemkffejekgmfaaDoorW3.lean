/- For every policy with at most 40 types, 300 rules and 40 quorums, and every text of at most 100 bytes, Name, Check, Valid and Normal return what is specified (every input; the package variable check.own as the program's text lays it). -/
import Derived.Test.YtemkffejekgmfaaDoorW4
import Derived.Test.YtemkffejekgmfaaDoorR3
namespace Go.Proofs.YtemkffejekgmfaaDoor
open Go.RowKit Go.ChangeShapes Go.WideShapes

theorem normS_len (p : Pol) : (normS p).name = p.name ∧ (normS p).types = p.types ∧ (normS p).rules.length = p.rules.length ∧ (normS p).quorums.length = p.quorums.length :=
  ⟨rfl, rfl, sortR_length _ _, sortR_length _ _⟩
def NormPost (p : Pol) (w : World) (e : Ending) (w' : World) : Prop :=
  ∃ A1 c1 A2 c2 A3 c3, e = .returned (.agg #[.string p.name, .slice A1 p.types.length c1, .slice A2 p.rules.length c2, .slice A3 p.quorums.length c3]) ∧ PolR w' (normS p) A1 c1 A2 c2 A3 c3 ∧ Below w.heap.size w w'
theorem NormPost.of {p : Pol} {w w' : World} {e : Ending} (h : OwnP (normS p) w e w') (hn : p.name.size ≤ 140737488355328) (ht : ∀ t ∈ p.types, t.name.size ≤ 140737488355328) (h1 : p.types.length ≤ 140737488355328) (h2 : p.rules.length ≤ 140737488355328) (h3 : p.quorums.length ≤ 140737488355328) : NormPost p w e w' := by
  obtain ⟨e1, e2, e3, e4⟩ := normS_len p
  obtain ⟨A1, c1, A2, c2, A3, c3, he, hp, hb⟩ := h.reads (by rw [e1]; exact hn) (by rw [e2]; exact ht) (by rw [e2]; exact h1) (by rw [e3]; exact h2) (by rw [e4]; exact h3)
  rw [e1, e2, e3, e4] at he
  exact ⟨A1, c1, A2, c2, A3, c3, he, hp, hb⟩
theorem normal_post (p : Pol) (A1 : Option Addr) (c1 : Nat) (A2 : Option Addr) (c2 : Nat) (A3 : Option Addr) (c3 : Nat) (w : World) (hp : PolR w p A1 c1 A2 c2 A3 c3) (hf : fewB p = true) :
    Calls Tryd.prog 18 #[.agg #[.string p.name, .slice A1 p.types.length c1, .slice A2 p.rules.length c2, .slice A3 p.quorums.length c3]] w (NormPost p w) := by
  unfold fewB at hf
  simp at hf
  exact (normal_any p A1 c1 A2 c2 A3 c3 w hp (by omega) (by omega) (by omega)).mono fun e w' h => NormPost.of h hp.nm hp.tn (by omega) (by omega) (by omega)
theorem refNormal_post (p : Pol) (A1 : Option Addr) (c1 : Nat) (A2 : Option Addr) (c2 : Nat) (A3 : Option Addr) (c3 : Nat) (w : World) (hp : PolR w p A1 c1 A2 c2 A3 c3) (hf : fewB p = true) :
    Calls Tryd.prog 19 #[.agg #[.string p.name, .slice A1 p.types.length c1, .slice A2 p.rules.length c2, .slice A3 p.quorums.length c3]] w (NormPost p w) := by
  unfold fewB at hf
  simp at hf
  exact (refNormal_any p A1 c1 A2 c2 A3 c3 w hp (by omega) (by omega) (by omega)).mono fun e w' h => NormPost.of h hp.nm hp.tn (by omega) (by omega) (by omega)
theorem refSame_norm (p : Pol) (A1 : Option Addr) (c1 : Nat) (A2 : Option Addr) (c2 : Nat) (A3 : Option Addr) (c3 : Nat) (B1 : Option Addr) (d1 : Nat) (B2 : Option Addr) (d2 : Nat) (B3 : Option Addr) (d3 : Nat) (w : World) (hp : PolR w (normS p) A1 c1 A2 c2 A3 c3) (hq : PolR w (normS p) B1 d1 B2 d2 B3 d3) :
    Calls Tryd.prog 17 #[.agg #[.string p.name, .slice A1 p.types.length c1, .slice A2 p.rules.length c2, .slice A3 p.quorums.length c3], .agg #[.string p.name, .slice B1 p.types.length d1, .slice B2 p.rules.length d2, .slice B3 p.quorums.length d3]] w fun e w' => e = .returned (.bool true) ∧ Below w.heap.size w w' := by
  have := refSame_any (normS p) (normS p) A1 c1 A2 c2 A3 c3 B1 d1 B2 d2 B3 d3 w hp hq
  obtain ⟨e1, e2, e3, e4⟩ := normS_len p
  rw [decide_eq_true rfl, e1, e2, e3, e4] at this
  exact this

set_option maxRecDepth 100000 in
set_option maxHeartbeats 8000000 in
theorem lawMatches_any (p : Pol) (s : ByteArray) (A1 : Option Addr) (c1 : Nat) (A2 : Option Addr) (c2 : Nat) (A3 : Option Addr) (c3 : Nat) (w : World) (hp : PolR w p A1 c1 A2 c2 A3 c3) (ho : OwnLaid w) (hs : s.size ≤ 140737488355328) :
    Calls Tryd.prog 3 #[.agg #[.string p.name, .slice A1 p.types.length c1, .slice A2 p.rules.length c2, .slice A3 p.quorums.length c3], .string s] w fun e w' => e = .returned (.bool true) ∧ Below w.heap.size w w' := by
  have HO : Hid (∀ W, Below w.heap.size w W → OwnLaid W) := fun W h => RS.below ho h
  have CS : Hid (∀ W, Below w.heap.size w W → Calls Tryd.prog 10 #[] W fun e w' => e = .returned (.bool true) ∧ Below W.heap.size W w') := fun W h => sanity_any W (RS.below ho h)
  have F1 : Hid (∀ W, Calls Tryd.prog 9 #[.agg #[.string p.name, .slice A1 p.types.length c1, .slice A2 p.rules.length c2, .slice A3 p.quorums.length c3]] W fun e w' => e = .returned (.bool (fewB p)) ∧ Below W.heap.size W w') := fun W => few_any p A1 c1 A2 c2 A3 c3 W
  have CK : Hid (∀ W, PolR W p A1 c1 A2 c2 A3 c3 → Below w.heap.size w W → Calls Tryd.prog 11 #[.agg #[.string p.name, .slice A1 p.types.length c1, .slice A2 p.rules.length c2, .slice A3 p.quorums.length c3]] W fun e w' => e = .returned (.tuple #[.int .i64 (checkS p).1, .int .i64 (checkS p).2]) ∧ Below W.heap.size W w') := fun W h h' => check_any p A1 c1 A2 c2 A3 c3 W h (RS.below ho h')
  have RK : Hid (∀ W, PolR W p A1 c1 A2 c2 A3 c3 → Calls Tryd.prog 12 #[.agg #[.string p.name, .slice A1 p.types.length c1, .slice A2 p.rules.length c2, .slice A3 p.quorums.length c3]] W fun e w' => e = .returned (.tuple #[.int .i64 (checkS p).1, .int .i64 (checkS p).2]) ∧ Below W.heap.size W w') := fun W h => refCheck_any p A1 c1 A2 c2 A3 c3 W h
  have VK : Hid (∀ W, PolR W p A1 c1 A2 c2 A3 c3 → Below w.heap.size w W → Calls Tryd.prog 13 #[.agg #[.string p.name, .slice A1 p.types.length c1, .slice A2 p.rules.length c2, .slice A3 p.quorums.length c3]] W fun e w' => e = .returned (.bool ((checkS p).2 == 0)) ∧ Below W.heap.size W w') := fun W h h' => valid_any p A1 c1 A2 c2 A3 c3 W h (RS.below ho h')
  have VR : Hid (∀ W, PolR W p A1 c1 A2 c2 A3 c3 → Calls Tryd.prog 14 #[.agg #[.string p.name, .slice A1 p.types.length c1, .slice A2 p.rules.length c2, .slice A3 p.quorums.length c3]] W fun e w' => e = .returned (.bool ((checkS p).2 == 0)) ∧ Below W.heap.size W w') := fun W h => refValid_any p A1 c1 A2 c2 A3 c3 W h
  have N1 : Hid (∀ W, Calls Tryd.prog 15 #[.string s] W fun e w' => e = .returned (.bool (nameB s)) ∧ Below W.heap.size W w') := fun W => name_any s W hs
  have N2 : Hid (∀ W, Calls Tryd.prog 16 #[.string s] W fun e w' => e = .returned (.bool (nameB s)) ∧ Below W.heap.size W w') := fun W => (refName_any s W hs).mono fun e w' h => ⟨h.1, by rw [← h.2]; exact Below.refl _ _⟩
  have M1 : Hid (fewB p = true → ∀ W, PolR W p A1 c1 A2 c2 A3 c3 → Calls Tryd.prog 18 #[.agg #[.string p.name, .slice A1 p.types.length c1, .slice A2 p.rules.length c2, .slice A3 p.quorums.length c3]] W (NormPost p W)) := fun hf W h => normal_post p A1 c1 A2 c2 A3 c3 W h hf
  have M2 : Hid (fewB p = true → ∀ W, PolR W p A1 c1 A2 c2 A3 c3 → Calls Tryd.prog 19 #[.agg #[.string p.name, .slice A1 p.types.length c1, .slice A2 p.rules.length c2, .slice A3 p.quorums.length c3]] W (NormPost p W)) := fun hf W h => refNormal_post p A1 c1 A2 c2 A3 c3 W h hf
  have HP := Lib.hid hp
  clear hp ho
  obtain ⟨ck, hck⟩ : ∃ c, checkS p = c := ⟨_, rfl⟩
  rw [hck] at CK RK VK VR
  obtain ⟨k1, k2⟩ := ck
  obtain ⟨nm, hnm⟩ : ∃ c, nameB s = c := ⟨_, rfl⟩
  rw [hnm] at N1 N2
  obtain ⟨f1, hf1⟩ : ∃ f, fewB p = f := ⟨_, rfl⟩
  rw [hf1] at F1 M1 M2
  clear hf1 hck hnm
  dsimp only at CK RK VK VR
  obtain ⟨b1, hb1⟩ : ∃ b, b = w.heap.size := ⟨_, rfl⟩
  have HF : Hid ((((w.alloc (.cells #[.string p.name, .slice A1 p.types.length c1, .slice A2 p.rules.length c2, .slice A3 p.quorums.length c3] 26)).cell? ⟨b1, 0, none⟩ = some (.string p.name) ∧ (w.alloc (.cells #[.string p.name, .slice A1 p.types.length c1, .slice A2 p.rules.length c2, .slice A3 p.quorums.length c3] 26)).cell? ⟨b1, 1, none⟩ = some (.slice A1 p.types.length c1) ∧ (w.alloc (.cells #[.string p.name, .slice A1 p.types.length c1, .slice A2 p.rules.length c2, .slice A3 p.quorums.length c3] 26)).cell? ⟨b1, 2, none⟩ = some (.slice A2 p.rules.length c2) ∧ (w.alloc (.cells #[.string p.name, .slice A1 p.types.length c1, .slice A2 p.rules.length c2, .slice A3 p.quorums.length c3] 26)).cell? ⟨b1, 3, none⟩ = some (.slice A3 p.quorums.length c3)) ∧ BoxP (w.alloc (.cells #[.string p.name, .slice A1 p.types.length c1, .slice A2 p.rules.length c2, .slice A3 p.quorums.length c3] 26)) b1 (.string p.name) (.slice A1 p.types.length c1) (.slice A2 p.rules.length c2) (.slice A3 p.quorums.length c3) ∧ PolR (w.alloc (.cells #[.string p.name, .slice A1 p.types.length c1, .slice A2 p.rules.length c2, .slice A3 p.quorums.length c3] 26)) p A1 c1 A2 c2 A3 c3 ∧ Below w.heap.size w (w.alloc (.cells #[.string p.name, .slice A1 p.types.length c1, .slice A2 p.rules.length c2, .slice A3 p.quorums.length c3] 26)))) := by
    subst hb1
    have x1 := BoxP.new w (.string p.name) (.slice A1 p.types.length c1) (.slice A2 p.rules.length c2) (.slice A3 p.quorums.length c3) 26
    have hb : Below w.heap.size w (w.alloc (.cells #[.string p.name, .slice A1 p.types.length c1, .slice A2 p.rules.length c2, .slice A3 p.quorums.length c3] 26)) := (Below.refl _ _).alloc (Nat.le_refl _) _
    exact ⟨x1.cls, x1, HP.out.below hb, hb⟩
  have KEEP : Hid (∀ W W', ((W.cell? ⟨b1, 0, none⟩ = some (.string p.name) ∧ W.cell? ⟨b1, 1, none⟩ = some (.slice A1 p.types.length c1) ∧ W.cell? ⟨b1, 2, none⟩ = some (.slice A2 p.rules.length c2) ∧ W.cell? ⟨b1, 3, none⟩ = some (.slice A3 p.quorums.length c3)) ∧ BoxP W b1 (.string p.name) (.slice A1 p.types.length c1) (.slice A2 p.rules.length c2) (.slice A3 p.quorums.length c3) ∧ PolR W p A1 c1 A2 c2 A3 c3 ∧ Below w.heap.size w W) → Below W.heap.size W W' → ((W'.cell? ⟨b1, 0, none⟩ = some (.string p.name) ∧ W'.cell? ⟨b1, 1, none⟩ = some (.slice A1 p.types.length c1) ∧ W'.cell? ⟨b1, 2, none⟩ = some (.slice A2 p.rules.length c2) ∧ W'.cell? ⟨b1, 3, none⟩ = some (.slice A3 p.quorums.length c3)) ∧ BoxP W' b1 (.string p.name) (.slice A1 p.types.length c1) (.slice A2 p.rules.length c2) (.slice A3 p.quorums.length c3) ∧ PolR W' p A1 c1 A2 c2 A3 c3 ∧ Below w.heap.size w W')) := by
    rintro W W' ⟨_, h1, h3, h5⟩ hb
    exact ⟨(h1.below hb).cls, h1.below hb, h3.below hb, h5.trans (hb.mono h5.size)⟩
  have HB1 := Lib.hid hb1
  clear HP hb1
  go_enter Tryd.func3, Tryd.ntmps3
  go_wp2_with fail
  rw [← HB1.out]
  clear HB1
  generalize (w.alloc (.cells #[.string p.name, .slice A1 p.types.length c1, .slice A2 p.rules.length c2, .slice A3 p.quorums.length c3] 26)) = w0 at *
  refine (F1.out _).mono ?_
  rintro e w1 ⟨rfl, hb⟩
  have HF1 := Lib.hid (KEEP.out _ _ HF.out hb)
  clear hb HF
  have hout : ∀ w', Below w.heap.size w w' → True := fun _ _ => trivial
  clear hout
  cases f1 with
  | false =>
    go_wp2_with fail
    refine (CS.out _ HF1.out.2.2.2).mono ?_
    rintro e w2 ⟨rfl, hb⟩
    have HB := Lib.hid (KEEP.out _ _ HF1.out hb).2.2.2
    clear hb
    go_wp2
    go_ret
    exact ⟨rfl, HB.out⟩
  | true =>
    by_cases hl : 100 < s.size
    · have hlz : (100 : Int) < (s.size : Int) := by omega
      go_wp2_with fail
      refine (CS.out _ HF1.out.2.2.2).mono ?_
      rintro e w2 ⟨rfl, hb⟩
      have HB := Lib.hid (KEEP.out _ _ HF1.out hb).2.2.2
      clear hb
      go_wp2
      go_ret
      exact ⟨rfl, HB.out⟩
    · have hlz : ¬ (100 : Int) < (s.size : Int) := by omega
      have M1' := Lib.hid (M1.out rfl)
      have M2' := Lib.hid (M2.out rfl)
      clear M1 M2 hl
      obtain ⟨a0, a1, a2, a3⟩ := HF1.out.1
      go_wp2_with fail
      refine (CK.out _ HF1.out.2.2.1 HF1.out.2.2.2).mono ?_
      rintro e w2 ⟨rfl, hb⟩
      have HF2 := Lib.hid (KEEP.out _ _ HF1.out hb)
      clear hb HF1 a0 a1 a2 a3
      obtain ⟨a0, a1, a2, a3⟩ := HF2.out.1
      go_wp2_with fail
      refine (RK.out _ HF2.out.2.2.1).mono ?_
      rintro e w3 ⟨rfl, hb⟩
      have HF3 := Lib.hid (KEEP.out _ _ HF2.out hb)
      clear hb HF2 a0 a1 a2 a3
      have HG0 := Lib.hid (KEEP.out _ _ HF3.out (Below.refl _ _).drew)
      obtain ⟨a0, a1, a2, a3⟩ := HF3.out.1
      clear HF3
      go_wp2_with fail
      go_region_held3 (fun W => (W.cell? ⟨b1, 0, none⟩ = some (.string p.name) ∧ W.cell? ⟨b1, 1, none⟩ = some (.slice A1 p.types.length c1) ∧ W.cell? ⟨b1, 2, none⟩ = some (.slice A2 p.rules.length c2) ∧ W.cell? ⟨b1, 3, none⟩ = some (.slice A3 p.quorums.length c3))) (go_keep) (first | (go_at_call 10; (with_reducible refine (CS.out _ HG0.out.2.2.2).mono ?_); rintro e v1 ⟨rfl, hb1⟩; have HG1 := Lib.hid (KEEP.out _ _ HG0.out hb1); obtain ⟨a0, a1, a2, a3⟩ := HG1.out.1) | (go_at_call 13; (with_reducible refine (VK.out _ HG1.out.2.2.1 HG1.out.2.2.2).mono ?_); rintro e v2 ⟨rfl, hb2⟩; have HG2 := Lib.hid (KEEP.out _ _ HG1.out hb2); obtain ⟨a0, a1, a2, a3⟩ := HG2.out.1) | (go_at_call 14; (with_reducible refine (VR.out _ HG2.out.2.2.1).mono ?_); rintro e v3 ⟨rfl, hb3⟩; have HG3 := Lib.hid (KEEP.out _ _ HG2.out hb3); obtain ⟨a0, a1, a2, a3⟩ := HG3.out.1) | (go_at_call 15; (with_reducible refine (N1.out _).mono ?_); rintro e v4 ⟨rfl, hb4⟩; have HG4 := Lib.hid (KEEP.out _ _ HG3.out hb4); obtain ⟨a0, a1, a2, a3⟩ := HG4.out.1) | (go_at_call 16; (with_reducible refine (N2.out _).mono ?_); rintro e v5 ⟨rfl, hb5⟩; have HG5 := Lib.hid (KEEP.out _ _ HG4.out hb5); obtain ⟨a0, a1, a2, a3⟩ := HG5.out.1) | (go_at_call 18; (with_reducible refine (M1'.out _ HG5.out.2.2.1).mono ?_); rintro e v6 ⟨n1, m1, n2, m2, n3, m3, rfl, hN, hb6⟩; have HG6 := Lib.hid (KEEP.out _ _ HG5.out hb6); have HN := Lib.hid hN; obtain ⟨a0, a1, a2, a3⟩ := HG6.out.1) | (go_at_call 19; (with_reducible refine (M2'.out _ HG6.out.2.2.1).mono ?_); rintro e v7 ⟨o1, q1, o2, q2, o3, q3, rfl, hO, hb7⟩; have HG7 := Lib.hid (KEEP.out _ _ HG6.out hb7); have HR := Lib.hid hO; have HN7 := Lib.hid (HN.out.below hb7); obtain ⟨a0, a1, a2, a3⟩ := HG7.out.1) | (go_at_call 17; (with_reducible refine (refSame_norm p _ _ _ _ _ _ _ _ _ _ _ _ _ HN7.out HR.out).mono ?_); rintro e v8 ⟨rfl, hb8⟩; have HG8 := Lib.hid (KEEP.out _ _ HG7.out hb8); obtain ⟨a0, a1, a2, a3⟩ := HG8.out.1))
      go_wp2
      go_ret
      exact ⟨by cases nm <;> simp, HG8.out.2.2.2⟩

theorem reads_str : Tryd.prog.readableRec 9 = true ∧ 9 < Tryd.prog.types.size := ⟨by kernel_rfl, of_decide_eq_true (by kernel_rfl)⟩
theorem fin3 : ∀ t ∈ Tryd.f3.params.toList, Tryd.prog.readableRec t = true ∧ t < Tryd.prog.types.size := by
  rw [Tryd.params3]
  intro t ht
  simp at ht
  rcases ht with rfl | rfl
  · exact reads_Pol
  · exact reads_str
set_option maxRecDepth 100000 in
theorem checkMatchesSpec_lifted (os : Os) (started : os.Started) (H : Type) (enc : TypeId × Value → H) :
    ReturnsInHanded {} Tryd.checked os 3 .any (fun w args => (Rows.checkMatchesSpecSpec.pre enc Tryd.prog Tryd.f3 [] false w args ∧ laidMetH Tryd.prog laidL w) ∧ sizedMet enc Tryd.prog Tryd.f3 (OpenSpec.ofChange Rows.checkMatchesSpecSpec) false w args)
      (Rows.checkMatchesSpecSpec.post enc Tryd.prog Tryd.f3 false true false false) := by
  refine returnsInHanded_of_change_and (C := Tryd.checked) (X := fun w _ => laidMetH Tryd.prog laidL w) (fun _ _ _ hh h => h.of_heap hh) own_knob started (by kernel_rfl) Tryd.func3
    (ChangeSpec.witness_shaped (enc := enc) (C := Tryd.checked) (os := os) (X := fun w _ => laidMetH Tryd.prog laidL w) false (World.doorLaid Tryd.prog 400 os) #[.agg #[.string { data := #[] }, .slice none 0 0, .slice none 0 0, .slice none 0 0], .string { data := #[] }] 8 rfl (World.shaped_of_RefB (by kernel_rfl) (by kernel_rfl)) (by kernel_rfl) (by kernel_rfl) (by kernel_rfl) (door_met os _)) ?_
  intro W base args ds gs before hval0 hW _ hsz hL _
  have hval : ∀ (j : Nat) t v, Tryd.f3.params[j]? = some t → args[j]? = some v → Value.okWide Tryd.prog W .any base t v := hval0
  have hW' := hW
  obtain ⟨p0, q0, hA0, hV, rfl, hfz, hnd⟩ := hW
  have hA : DataW.TrodAll enc Tryd.prog W 0 (fun _ => true) true Tryd.f3.params.toList args.toList ds p0 := hA0
  obtain ⟨rfl, rfl⟩ := trodVars_none hV
  have hO := own_of_laid hL
  have hwt := reach_all hsz
  rw [Tryd.params3] at hA hval
  obtain ⟨v0, v1, dd0, dd1, u0, u1, rfl, rfl, rfl, r0, r1⟩ := trodAll_two hA
  obtain ⟨p, A1, c1, A2, c2, A3, c3, rfl, hp, _⟩ := open_pol (hval 0 _ v0 rfl rfl) r0 (fun m hm => hwt m (DataW.weights_mem_each (j := 0) rfl rfl _ hm))
  obtain ⟨s, rfl, rfl, rfl, _⟩ := Go.ChangeMaps.open_string Tryd.underlying9 (hval 1 _ v1 rfl rfl) r1
  have hs := hwt s.data.toList.length (DataW.weights_mem_each (j := 1) rfl rfl _ (by simp [DataW.weights]))
  refine (lawMatches_any p s A1 c1 A2 c2 A3 c3 W hp hO (by simp at hs; omega)).mono fun e W' ⟨he, hb⟩ => ?_
  subst he
  exact ⟨_, rfl, law_post (by kernel_rfl) fin3 hW' rfl rfl hb⟩
theorem checkMatchesSpec_said : Rows.CheckMatchesSpecSaid :=
  OpenClaim.holds_of_wide 3 Tryd.f3 rfl rfl rfl rfl rfl rfl rfl ⟨rfl, rfl, rfl, rfl, rfl⟩ rfl rfl rfl rfl rfl (by kernel_rfl) Tryd.func3 (by kernel_rfl)
    (of_decide_eq_true (by kernel_rfl)) (by unfold Func.isWrapper; first | (rw [if_pos (by decide +kernel)]; kernel_rfl) | (rw [if_neg (by decide +kernel)]; exact ⟨rfl, rfl⟩))
    (fun os started H enc _ => checkMatchesSpec_lifted os started H enc)
theorem checkMatchesSpec_card : Rows.CheckMatchesSpecCardSaid :=
  Claim7.holds_tied_plain_at .later [] [.widerDeep] true Rows.checkMatchesSpecCard.stood.harness false
    checkMatchesSpec_said (fun _ h => by cases h) (by kernel_rfl) (fun _ h => by cases h) checkMatchesSpec_row_tie rfl ⟨rfl, rfl⟩ (by kernel_rfl) rfl
    (fun f fn hf hfn => by
      obtain rfl : f = 3 := Option.some.inj ((show Tryd.prog.funcNamed "custody/custodylaw13.CheckMatchesSpec" = some 3 by kernel_rfl).symm.trans hf) |>.symm
      obtain rfl : fn = Tryd.f3 := (Option.some.inj (Tryd.func3.symm.trans hfn)).symm
      exact ⟨by kernel_rfl, fun j t ht => by
        rw [Tryd.params3] at ht
        have hm := Array.mem_of_getElem? ht
        have hall : ((Tryd.f3.params.toList).all fun u => !Tryd.prog.wantsStandIn u) = true := by kernel_rfl
        rw [Tryd.params3] at hall
        have := List.all_eq_true.1 hall t (by simpa using hm)
        exact (show Tryd.prog.wantsStandIn t = false by simpa using this)⟩)
    (by kernel_rfl)
#print axioms checkMatchesSpec_card
end Go.Proofs.YtemkffejekgmfaaDoor
