/- For every policy with at most 40 types, 300 rules and 40 quorums: if Check returns the number of a faulty item, the items before it are a valid policy, and with the faulty item they are not; otherwise every beginning of the policy is valid (every input; the package variable check.own as the program's text lays it). -/
import Derived.Test.YtemkffejekgmfaaDoorW4
import Derived.Test.YtemkffejekgmfaaDoorF3
import Derived.Test.YtemkffejekgmfaaDoorR1
namespace Go.Proofs.YtemkffejekgmfaaDoor
open Go.RowKit Go.ChangeShapes Go.WideShapes

theorem valid_name_bad (p : Pol) (w : World) (hn : p.name.size ≤ 140737488355328) (hN : nameB p.name = false) (ho : OwnLaid w) :
    Calls Tryd.prog 13 #[.agg #[.string p.name, .slice none 0 0, .slice none 0 0, .slice none 0 0]] w fun e w' => e = .returned (.bool false) ∧ Below w.heap.size w w' := by
  have := valid_any ⟨p.name, [], [], []⟩ none 0 none 0 none 0 w ⟨RS_nil _ _ _ _, Nat.le_refl _, RS_nil _ _ _ _, Nat.le_refl _, RS_nil _ _ _ _, Nat.le_refl _, hn, fun t h => by cases h⟩ ho
  have e : ((checkS ⟨p.name, [], [], []⟩).2 == 0) = false := by
    have := check_name_bad ⟨p.name, [], [], []⟩ hN
    simpa using this
  rw [e] at this
  exact this

set_option maxRecDepth 100000 in
set_option maxHeartbeats 8000000 in
theorem lawFirst_any (p : Pol) (n : Int) (A1 : Option Addr) (c1 : Nat) (A2 : Option Addr) (c2 : Nat) (A3 : Option Addr) (c3 : Nat) (w : World) (hp : PolR w p A1 c1 A2 c2 A3 c3) (ho : OwnLaid w) :
    Calls Tryd.prog 5 #[.agg #[.string p.name, .slice A1 p.types.length c1, .slice A2 p.rules.length c2, .slice A3 p.quorums.length c3], .int .i64 n] w fun e w' => e = .returned (.bool true) ∧ Below w.heap.size w w' := by
  have CS : Hid (∀ W, Below w.heap.size w W → Calls Tryd.prog 10 #[] W fun e w' => e = .returned (.bool true) ∧ Below W.heap.size W w') := fun W h => sanity_any W (RS.below ho h)
  have F1 : Hid (∀ W, Calls Tryd.prog 9 #[.agg #[.string p.name, .slice A1 p.types.length c1, .slice A2 p.rules.length c2, .slice A3 p.quorums.length c3]] W fun e w' => e = .returned (.bool (fewB p)) ∧ Below W.heap.size W w') := fun W => few_any p A1 c1 A2 c2 A3 c3 W
  have CK : Hid (∀ W, PolR W p A1 c1 A2 c2 A3 c3 → Below w.heap.size w W → Calls Tryd.prog 11 #[.agg #[.string p.name, .slice A1 p.types.length c1, .slice A2 p.rules.length c2, .slice A3 p.quorums.length c3]] W fun e w' => e = .returned (.tuple #[.int .i64 (checkS p).1, .int .i64 (checkS p).2]) ∧ Below W.heap.size W w') := fun W h h' => check_any p A1 c1 A2 c2 A3 c3 W h (RS.below ho h')
  have RN : Hid (∀ W, Calls Tryd.prog 16 #[.string p.name] W fun e w' => e = .returned (.bool (nameB p.name)) ∧ Below W.heap.size W w') := fun W => (refName_any p.name W hp.nm).mono fun e w' h => ⟨h.1, by rw [← h.2]; exact Below.refl _ _⟩
  have VB : Hid (nameB p.name = false → ∀ W, Below w.heap.size w W → Calls Tryd.prog 13 #[.agg #[.string p.name, .slice none 0 0, .slice none 0 0, .slice none 0 0]] W fun e w' => e = .returned (.bool false) ∧ Below W.heap.size W w') := fun hN W h => valid_name_bad p W hp.nm hN (RS.below ho h)
  have CU : Hid (∀ m W, m ≤ total p → PolR W p A1 c1 A2 c2 A3 c3 → Calls Tryd.prog 21 #[.agg #[.string p.name, .slice A1 p.types.length c1, .slice A2 p.rules.length c2, .slice A3 p.quorums.length c3], .int .i64 (m : Nat)] W fun e w' => e = .returned (.agg #[.string (cutS p m).name, .slice A1 (cutS p m).types.length c1, .slice A2 (cutS p m).rules.length c2, .slice A3 (cutS p m).quorums.length c3]) ∧ Below W.heap.size W w') := fun m W hm h => cut_any p m hm A1 c1 A2 c2 A3 c3 W h
  have VC : Hid (∀ m W, PolR W p A1 c1 A2 c2 A3 c3 → Below w.heap.size w W → Calls Tryd.prog 13 #[.agg #[.string (cutS p m).name, .slice A1 (cutS p m).types.length c1, .slice A2 (cutS p m).rules.length c2, .slice A3 (cutS p m).quorums.length c3]] W fun e w' => e = .returned (.bool ((checkS (cutS p m)).2 == 0)) ∧ Below W.heap.size W w') := fun m W h h' => valid_any (cutS p m) A1 c1 A2 c2 A3 c3 W (h.cut m) (RS.below ho h')
  have HP := Lib.hid hp
  have HCA := checkS_cases p
  have HGOOD : Hid (nameB p.name = true → ∀ m, m ≤ total p → (∀ j, j < m → itemErr p j = 0) → ((checkS (cutS p m)).2 == 0) = true) := fun hN m hm h => by rw [check_cut p m hm hN h]; rfl
  have HBAD : Hid (∀ m k, m ≤ total p → k < m → itemErr p k ≠ 0 → ((checkS (cutS p m)).2 == 0) = false) := fun m k hm hk h => by
    have := check_cut_bad p m k hm hk h
    simpa using this
  have HTOT : Hid (total p = p.types.length + p.rules.length + p.quorums.length) := rfl
  clear hp ho
  obtain ⟨f1, hf1⟩ : ∃ f, fewB p = f := ⟨_, rfl⟩
  have HFEW : Hid (f1 = true → p.types.length ≤ 40 ∧ p.rules.length ≤ 300 ∧ p.quorums.length ≤ 40) := fun h => by
    rw [← hf1] at h
    unfold fewB at h
    simpa using h
  rw [hf1] at F1
  clear hf1
  obtain ⟨b1, hb1⟩ : ∃ b, b = w.heap.size := ⟨_, rfl⟩
  have HF : Hid ((((w.alloc (.cells #[.string p.name, .slice A1 p.types.length c1, .slice A2 p.rules.length c2, .slice A3 p.quorums.length c3] 26)).cell? ⟨b1, 0, none⟩ = some (.string p.name) ∧ (w.alloc (.cells #[.string p.name, .slice A1 p.types.length c1, .slice A2 p.rules.length c2, .slice A3 p.quorums.length c3] 26)).cell? ⟨b1, 1, none⟩ = some (.slice A1 p.types.length c1) ∧ (w.alloc (.cells #[.string p.name, .slice A1 p.types.length c1, .slice A2 p.rules.length c2, .slice A3 p.quorums.length c3] 26)).cell? ⟨b1, 2, none⟩ = some (.slice A2 p.rules.length c2) ∧ (w.alloc (.cells #[.string p.name, .slice A1 p.types.length c1, .slice A2 p.rules.length c2, .slice A3 p.quorums.length c3] 26)).cell? ⟨b1, 3, none⟩ = some (.slice A3 p.quorums.length c3)) ∧ BoxP (w.alloc (.cells #[.string p.name, .slice A1 p.types.length c1, .slice A2 p.rules.length c2, .slice A3 p.quorums.length c3] 26)) b1 (.string p.name) (.slice A1 p.types.length c1) (.slice A2 p.rules.length c2) (.slice A3 p.quorums.length c3) ∧ PolR (w.alloc (.cells #[.string p.name, .slice A1 p.types.length c1, .slice A2 p.rules.length c2, .slice A3 p.quorums.length c3] 26)) p A1 c1 A2 c2 A3 c3 ∧ Below w.heap.size w (w.alloc (.cells #[.string p.name, .slice A1 p.types.length c1, .slice A2 p.rules.length c2, .slice A3 p.quorums.length c3] 26)))) := by
    subst hb1
    have x1 := BoxP.new w (.string p.name) (.slice A1 p.types.length c1) (.slice A2 p.rules.length c2) (.slice A3 p.quorums.length c3) 26
    have hb : Below w.heap.size w (w.alloc (.cells #[.string p.name, .slice A1 p.types.length c1, .slice A2 p.rules.length c2, .slice A3 p.quorums.length c3] 26)) := (Below.refl _ _).alloc (Nat.le_refl _) _
    exact ⟨x1.cls, x1, HP.out.below hb, hb⟩
  have KEEP : Hid (∀ W W', ((W.cell? ⟨b1, 0, none⟩ = some (.string p.name) ∧ W.cell? ⟨b1, 1, none⟩ = some (.slice A1 p.types.length c1) ∧ W.cell? ⟨b1, 2, none⟩ = some (.slice A2 p.rules.length c2) ∧ W.cell? ⟨b1, 3, none⟩ = some (.slice A3 p.quorums.length c3)) ∧ BoxP W b1 (.string p.name) (.slice A1 p.types.length c1) (.slice A2 p.rules.length c2) (.slice A3 p.quorums.length c3) ∧ PolR W p A1 c1 A2 c2 A3 c3 ∧ Below w.heap.size w W) → Below W.heap.size W W' → ((W'.cell? ⟨b1, 0, none⟩ = some (.string p.name) ∧ W'.cell? ⟨b1, 1, none⟩ = some (.slice A1 p.types.length c1) ∧ W'.cell? ⟨b1, 2, none⟩ = some (.slice A2 p.rules.length c2) ∧ W'.cell? ⟨b1, 3, none⟩ = some (.slice A3 p.quorums.length c3)) ∧ BoxP W' b1 (.string p.name) (.slice A1 p.types.length c1) (.slice A2 p.rules.length c2) (.slice A3 p.quorums.length c3) ∧ PolR W' p A1 c1 A2 c2 A3 c3 ∧ Below w.heap.size w W')) := by
    rintro W W' ⟨_, h1, h3, h5⟩ hb
    exact ⟨(h1.below hb).cls, h1.below hb, h3.below hb, h5.trans (hb.mono h5.size)⟩
  have HB1 := Lib.hid hb1
  have HCC := Lib.hid HCA
  clear HP hb1 HCA
  go_enter Tryd.func5, Tryd.ntmps5
  go_wp2_with fail
  rw [← HB1.out]
  clear HB1
  generalize (w.alloc (.cells #[.string p.name, .slice A1 p.types.length c1, .slice A2 p.rules.length c2, .slice A3 p.quorums.length c3] 26)) = w0 at *
  refine (F1.out _).mono ?_
  rintro e w1 ⟨rfl, hb⟩
  have HF1 := Lib.hid (KEEP.out _ _ HF.out hb)
  clear hb HF
  cases f1 with
  | false =>
    go_wp2_with fail
    refine (CS.out _ HF1.out.2.2.2).mono ?_
    rintro e w2 ⟨rfl, hb⟩
    have HB := Lib.hid (KEEP.out _ _ HF1.out hb).2.2.2
    clear hb
    go_wp2
    go_ret
    exact ⟨rfl, HB.out⟩
  | true =>
    obtain ⟨z1, z2, z3⟩ := HFEW.out rfl
    obtain ⟨a0, a1, a2, a3⟩ := HF1.out.1
    rcases HCC.out with ⟨hN, hck⟩ | ⟨hN, hck, hall⟩ | ⟨hN, k, hk, hck, hek, hall⟩
    · rw [hck] at CK
      rw [hN] at RN
      have VB' := Lib.hid (VB.out hN)
      clear hN hck HCC
      dsimp only at CK
      go_wp2_with fail
      refine (CK.out _ HF1.out.2.2.1 HF1.out.2.2.2).mono ?_
      rintro e w2 ⟨rfl, hb⟩
      have HF2 := Lib.hid (KEEP.out _ _ HF1.out hb)
      clear hb HF1 a0 a1 a2 a3
      obtain ⟨a0, a1, a2, a3⟩ := HF2.out.1
      go_wp2_with fail
      refine (CS.out _ HF2.out.2.2.2).mono ?_
      rintro e w3 ⟨rfl, hb⟩
      have HF3 := Lib.hid (KEEP.out _ _ HF2.out hb)
      clear hb HF2 a0 a1 a2 a3
      obtain ⟨a0, a1, a2, a3⟩ := HF3.out.1
      go_wp2_with fail
      refine (RN.out _).mono ?_
      rintro e w4 ⟨rfl, hb⟩
      have HF4 := Lib.hid (KEEP.out _ _ HF3.out hb)
      clear hb HF3 a0 a1 a2 a3
      obtain ⟨a0, a1, a2, a3⟩ := HF4.out.1
      go_wp2_with fail
      refine (VB'.out _ HF4.out.2.2.2).mono ?_
      rintro e w5 ⟨rfl, hb⟩
      have HB := Lib.hid (KEEP.out _ _ HF4.out hb).2.2.2
      clear hb
      go_wp2
      go_ret
      exact ⟨rfl, HB.out⟩
    · rw [hck] at CK
      have HG := Lib.hid (HGOOD.out hN)
      have HALL := Lib.hid hall
      clear hN hck HCC hall
      dsimp only at CK
      go_wp2_with fail
      refine (CK.out _ HF1.out.2.2.1 HF1.out.2.2.2).mono ?_
      rintro e w2 ⟨rfl, hb⟩
      have HF2 := Lib.hid (KEEP.out _ _ HF1.out hb)
      clear hb HF1 a0 a1 a2 a3
      obtain ⟨a0, a1, a2, a3⟩ := HF2.out.1
      go_wp2_with fail
      refine (CS.out _ HF2.out.2.2.2).mono ?_
      rintro e w3 ⟨rfl, hb⟩
      have HF3 := Lib.hid (KEEP.out _ _ HF2.out hb)
      clear hb HF2 a0 a1 a2 a3
      obtain ⟨a0, a1, a2, a3⟩ := HF3.out.1
      by_cases hn0 : n < 0
      · go_wp2
        go_ret
        exact ⟨rfl, HF3.out.2.2.2⟩
      · by_cases hnt : (p.types.length : Int) + (p.rules.length : Int) + (p.quorums.length : Int) < n
        · go_wp2
          go_ret
          exact ⟨rfl, HF3.out.2.2.2⟩
        · obtain ⟨m, rfl⟩ : ∃ m : Nat, n = (m : Int) := ⟨n.toNat, by omega⟩
          have hm : m ≤ total p := by rw [HTOT.out]; omega
          have HM := Lib.hid hm
          clear hm hn0
          go_wp2_with fail
          refine (CU.out m _ HM.out HF3.out.2.2.1).mono ?_
          rintro e w4 ⟨rfl, hb⟩
          have HF4 := Lib.hid (KEEP.out _ _ HF3.out hb)
          clear hb HF3 a0 a1 a2 a3
          go_wp2_with fail
          refine (VC.out m _ HF4.out.2.2.1 HF4.out.2.2.2).mono ?_
          rintro e w5 ⟨rfl, hb⟩
          rw [HG.out m HM.out (fun j hj => HALL.out j (by have := HM.out; omega))]
          have HB := Lib.hid (KEEP.out _ _ HF4.out hb).2.2.2
          clear hb
          go_wp2
          go_ret
          exact ⟨rfl, HB.out⟩
    · rw [hck] at CK
      have HG := Lib.hid (HGOOD.out hN)
      have HALL := Lib.hid hall
      have HK := Lib.hid hk
      have HEK := Lib.hid hek
      have hke : (itemErr p k == 0) = false := by simpa using hek
      have hk' : k < p.types.length + p.rules.length + p.quorums.length := hk
      clear hN hck HCC hall hk hek
      generalize hie : itemErr p k = ie at CK hke
      have HIE := Lib.hid hie
      clear hie
      dsimp only at CK
      have k0 : ¬ (k : Int) < 0 := by omega
      have k1 : (k : Int) < (p.types.length : Int) + (p.rules.length : Int) + (p.quorums.length : Int) := by omega
      clear hk'
      go_wp2_with fail
      refine (CK.out _ HF1.out.2.2.1 HF1.out.2.2.2).mono ?_
      rintro e w2 ⟨rfl, hb⟩
      have HF2 := Lib.hid (KEEP.out _ _ HF1.out hb)
      clear hb HF1 a0 a1 a2 a3
      obtain ⟨a0, a1, a2, a3⟩ := HF2.out.1
      go_wp2_with fail
      refine (CS.out _ HF2.out.2.2.2).mono ?_
      rintro e w3 ⟨rfl, hb⟩
      have HF3 := Lib.hid (KEEP.out _ _ HF2.out hb)
      clear hb HF2 a0 a1 a2 a3
      obtain ⟨a0, a1, a2, a3⟩ := HF3.out.1
      go_wp2_with fail
      refine (CU.out k _ (Nat.le_of_lt HK.out) HF3.out.2.2.1).mono ?_
      rintro e w4 ⟨rfl, hb⟩
      have HF4 := Lib.hid (KEEP.out _ _ HF3.out hb)
      clear hb HF3 a0 a1 a2 a3
      go_wp2_with fail
      refine (VC.out k _ HF4.out.2.2.1 HF4.out.2.2.2).mono ?_
      rintro e w5 ⟨rfl, hb⟩
      rw [HG.out k (Nat.le_of_lt HK.out) HALL.out]
      have HF5 := Lib.hid (KEEP.out _ _ HF4.out hb)
      clear hb HF4
      obtain ⟨a0, a1, a2, a3⟩ := HF5.out.1
      go_wp2_with fail
      refine (CU.out (k + 1) _ HK.out HF5.out.2.2.1).mono ?_
      rintro e w6 ⟨rfl, hb⟩
      have HF6 := Lib.hid (KEEP.out _ _ HF5.out hb)
      clear hb HF5 a0 a1 a2 a3
      go_wp2_with fail
      refine (VC.out (k + 1) _ HF6.out.2.2.1 HF6.out.2.2.2).mono ?_
      rintro e w7 ⟨rfl, hb⟩
      rw [HBAD.out (k + 1) k HK.out (Nat.lt_succ_self k) HEK.out]
      have HB := Lib.hid (KEEP.out _ _ HF6.out hb).2.2.2
      clear hb
      go_wp2
      go_ret
      exact ⟨rfl, HB.out⟩

theorem reads_int : Tryd.prog.readableRec 3 = true ∧ 3 < Tryd.prog.types.size := ⟨by kernel_rfl, of_decide_eq_true (by kernel_rfl)⟩
theorem fin5 : ∀ t ∈ Tryd.f5.params.toList, Tryd.prog.readableRec t = true ∧ t < Tryd.prog.types.size := by
  rw [Tryd.params5]
  intro t ht
  simp at ht
  rcases ht with rfl | rfl
  · exact reads_Pol
  · exact reads_int
set_option maxRecDepth 100000 in
theorem checkFirst_lifted (os : Os) (started : os.Started) (H : Type) (enc : TypeId × Value → H) :
    ReturnsInHanded {} Tryd.checked os 5 .any (fun w args => (Rows.checkFirstSpec.pre enc Tryd.prog Tryd.f5 [] false w args ∧ laidMetH Tryd.prog laidL w) ∧ sizedMet enc Tryd.prog Tryd.f5 (OpenSpec.ofChange Rows.checkFirstSpec) false w args)
      (Rows.checkFirstSpec.post enc Tryd.prog Tryd.f5 false true false false) := by
  refine returnsInHanded_of_change_and (C := Tryd.checked) (X := fun w _ => laidMetH Tryd.prog laidL w) (fun _ _ _ hh h => h.of_heap hh) own_knob started (by kernel_rfl) Tryd.func5
    (ChangeSpec.witness_shaped (enc := enc) (C := Tryd.checked) (os := os) (X := fun w _ => laidMetH Tryd.prog laidL w) false (World.doorLaid Tryd.prog 400 os) #[.agg #[.string { data := #[] }, .slice none 0 0, .slice none 0 0, .slice none 0 0], .int .i64 0] 8 rfl (World.shaped_of_RefB (by kernel_rfl) (by kernel_rfl)) (by kernel_rfl) (by kernel_rfl) (by kernel_rfl) (door_met os _)) ?_
  intro W base args ds gs before hval0 hW _ hsz hL _
  have hval : ∀ (j : Nat) t v, Tryd.f5.params[j]? = some t → args[j]? = some v → Value.okWide Tryd.prog W .any base t v := hval0
  have hW' := hW
  obtain ⟨p0, q0, hA0, hV, rfl, hfz, hnd⟩ := hW
  have hA : DataW.TrodAll enc Tryd.prog W 0 (fun _ => true) true Tryd.f5.params.toList args.toList ds p0 := hA0
  obtain ⟨rfl, rfl⟩ := trodVars_none hV
  have hO := own_of_laid hL
  have hwt := reach_all hsz
  rw [Tryd.params5] at hA hval
  obtain ⟨v0, v1, dd0, dd1, u0, u1, rfl, rfl, rfl, r0, r1⟩ := trodAll_two hA
  obtain ⟨p, A1, c1, A2, c2, A3, c3, rfl, hp, _⟩ := open_pol (hval 0 _ v0 rfl rfl) r0 (fun m hm => hwt m (DataW.weights_mem_each (j := 0) rfl rfl _ hm))
  obtain ⟨n, rfl, rfl, rfl, _⟩ := open_int Tryd.underlying3 (hval 1 _ v1 rfl rfl) r1
  refine (lawFirst_any p n A1 c1 A2 c2 A3 c3 W hp hO).mono fun e W' ⟨he, hb⟩ => ?_
  subst he
  exact ⟨_, rfl, law_post (by kernel_rfl) fin5 hW' rfl rfl hb⟩
theorem checkFirst_said : Rows.CheckFirstSaid :=
  OpenClaim.holds_of_wide 5 Tryd.f5 rfl rfl rfl rfl rfl rfl rfl ⟨rfl, rfl, rfl, rfl, rfl⟩ rfl rfl rfl rfl rfl (by kernel_rfl) Tryd.func5 (by kernel_rfl)
    (of_decide_eq_true (by kernel_rfl)) (by unfold Func.isWrapper; first | (rw [if_pos (by decide +kernel)]; kernel_rfl) | (rw [if_neg (by decide +kernel)]; exact ⟨rfl, rfl⟩))
    (fun os started H enc _ => checkFirst_lifted os started H enc)
theorem checkFirst_card : Rows.CheckFirstCardSaid :=
  Claim7.holds_tied_plain_at .later [] [.widerDeep] true Rows.checkFirstCard.stood.harness false
    checkFirst_said (fun _ h => by cases h) (by kernel_rfl) (fun _ h => by cases h) checkFirst_row_tie rfl ⟨rfl, rfl⟩ (by kernel_rfl) rfl
    (fun f fn hf hfn => by
      obtain rfl : f = 5 := Option.some.inj ((show Tryd.prog.funcNamed "custody/custodylaw13.CheckFirst" = some 5 by kernel_rfl).symm.trans hf) |>.symm
      obtain rfl : fn = Tryd.f5 := (Option.some.inj (Tryd.func5.symm.trans hfn)).symm
      exact ⟨by kernel_rfl, fun j t ht => by
        rw [Tryd.params5] at ht
        have hm := Array.mem_of_getElem? ht
        have hall : ((Tryd.f5.params.toList).all fun u => !Tryd.prog.wantsStandIn u) = true := by kernel_rfl
        rw [Tryd.params5] at hall
        have := List.all_eq_true.1 hall t (by simpa using hm)
        exact (show Tryd.prog.wantsStandIn t = false by simpa using this)⟩)
    (by kernel_rfl)
#print axioms checkFirst_card
end Go.Proofs.YtemkffejekgmfaaDoor
