/- For every policy with at most 40 types, 300 rules and 40 quorums: the normal form is sorted, has the same items, is its own normal form, and is valid if and only if the policy is (every input; the package variable check.own as the program's text lays it). -/
import Derived.Test.YtemkffejekgmfaaDoorW3
import Derived.Test.YtemkffejekgmfaaDoorH6
namespace Go.Proofs.YtemkffejekgmfaaDoor
open Go.RowKit Go.ChangeShapes Go.WideShapes


set_option maxRecDepth 100000 in
set_option maxHeartbeats 8000000 in
theorem normal_loops (p q : Pol) (A1 : Option Addr) (c1 : Nat) (A2 : Option Addr) (c2 : Nat) (A3 : Option Addr) (c3 : Nat) (w : World) (hp : PolR w p A1 c1 A2 c2 A3 c3) (ho : OwnLaid w) (ok1 : ∀ r ∈ p.rules, okRl r) (hq : q = normS p) :
    Calls Tryd.prog 6 #[.agg #[.string p.name, .slice A1 p.types.length c1, .slice A2 p.rules.length c2, .slice A3 p.quorums.length c3]] w fun e w' => e = .returned (.bool true) ∧ Below w.heap.size w w' := by
  have CS : Hid (∀ W, Below w.heap.size w W → Calls Tryd.prog 10 #[] W fun e w' => e = .returned (.bool true) ∧ Below W.heap.size W w') := fun W h => sanity_any W (RS.below ho h)
  have F1 : Hid (∀ W, Calls Tryd.prog 9 #[.agg #[.string p.name, .slice A1 p.types.length c1, .slice A2 p.rules.length c2, .slice A3 p.quorums.length c3]] W fun e w' => e = .returned (.bool (fewB p)) ∧ Below W.heap.size W w') := fun W => few_any p A1 c1 A2 c2 A3 c3 W
  have M1 : Hid (fewB p = true → ∀ W, PolR W p A1 c1 A2 c2 A3 c3 → Calls Tryd.prog 18 #[.agg #[.string p.name, .slice A1 p.types.length c1, .slice A2 p.rules.length c2, .slice A3 p.quorums.length c3]] W (NormPost p W)) := fun hf W h => normal_post p A1 c1 A2 c2 A3 c3 W h hf
  have VK : Hid (∀ W, PolR W p A1 c1 A2 c2 A3 c3 → Below w.heap.size w W → Calls Tryd.prog 13 #[.agg #[.string p.name, .slice A1 p.types.length c1, .slice A2 p.rules.length c2, .slice A3 p.quorums.length c3]] W fun e w' => e = .returned (.bool ((checkS p).2 == 0)) ∧ Below W.heap.size W w') := fun W h h' => valid_any p A1 c1 A2 c2 A3 c3 W h (RS.below ho h')
  have HP := Lib.hid hp
  have HO : Hid (∀ W, Below w.heap.size w W → OwnLaid W) := fun W h => RS.below ho h
  have OK1 := Lib.hid ok1
  clear hp ho ok1
  obtain ⟨f1, hf1⟩ : ∃ f, fewB p = f := ⟨_, rfl⟩
  have HFEW : Hid (f1 = true → p.types.length ≤ 40 ∧ p.rules.length ≤ 300 ∧ p.quorums.length ≤ 40) := fun h => by
    rw [← hf1] at h
    unfold fewB at h
    simpa using h
  rw [hf1] at F1 M1
  have HF1 := Lib.hid hf1
  clear hf1
  obtain ⟨b1, hb1⟩ : ∃ b, b = w.heap.size := ⟨_, rfl⟩
  have HX : Hid (BoxP (w.alloc (.cells #[.string p.name, .slice A1 p.types.length c1, .slice A2 p.rules.length c2, .slice A3 p.quorums.length c3] 26)) b1 (.string p.name) (.slice A1 p.types.length c1) (.slice A2 p.rules.length c2) (.slice A3 p.quorums.length c3) ∧ Below w.heap.size w (w.alloc (.cells #[.string p.name, .slice A1 p.types.length c1, .slice A2 p.rules.length c2, .slice A3 p.quorums.length c3] 26))) := by
    subst hb1
    exact ⟨BoxP.new w _ _ _ _ _, (Below.refl _ _).alloc (Nat.le_refl _) _⟩
  have HB1 := Lib.hid hb1
  have HQ := Lib.hid hq
  clear hb1 hq
  have hmm := @run_makeMap Tryd.prog
  go_enter Tryd.func6, Tryd.ntmps6
  go_wp2_with fail
  rw [← HB1.out]
  generalize (w.alloc (.cells #[.string p.name, .slice A1 p.types.length c1, .slice A2 p.rules.length c2, .slice A3 p.quorums.length c3] 26)) = w0 at *
  refine (F1.out _).mono ?_
  rintro e w1 ⟨rfl, hb⟩
  have X1 := Lib.hid (HX.out.1.below hb)
  have BL1 := Lib.hid (HX.out.2.trans (hb.mono HX.out.2.size))
  clear hb HX
  cases f1 with
  | false =>
    go_wp2_with fail
    refine (CS.out _ BL1.out).mono ?_
    rintro e w2 ⟨rfl, hb⟩
    have HB := Lib.hid (BL1.out.trans (hb.mono BL1.out.size))
    clear hb
    go_wp2
    go_ret
    exact ⟨rfl, HB.out⟩
  | true =>
    obtain ⟨z1, z2, z3⟩ := HFEW.out rfl
    have M1' := Lib.hid (M1.out rfl)
    clear M1
    have a0 := X1.out.c0; have a1 := X1.out.c1; have a2 := X1.out.c2; have a3 := X1.out.c3
    go_wp2_with fail
    clear a0 a1 a2 a3
    refine (M1'.out w1 (HP.out.below BL1.out)).mono ?_
    rintro e w2 ⟨N1, e1, N2, e2, N3, e3, rfl, hN, hb⟩
    have X2 := Lib.hid (X1.out.below hb)
    have BL2 := Lib.hid (BL1.out.trans (hb.mono BL1.out.size))
    have HN := Lib.hid hN
    rw [← HQ.out] at HN
    have lt1 := X2.out.lt
    have LT1 := Lib.hid lt1
    clear hb X1 BL1 hN lt1 F1 HFEW M1'
    obtain ⟨n2, hn2⟩ : ∃ n, p.rules.length = n := ⟨_, rfl⟩
    obtain ⟨n3, hn3⟩ : ∃ n, p.quorums.length = n := ⟨_, rfl⟩
    have HN2 := Lib.hid hn2; have HN3 := Lib.hid hn3
    have HST : Hid (∀ b3 b4, b3 = w2.heap.size → b4 = w2.heap.size + 1 → NoSt w2 ((w2.alloc (.cells #[.string p.name, .slice N1 p.types.length e1, .slice N2 n2 e2, .slice N3 n3 e3] 26)).alloc (.map #[] 0)) b1 b3 b4 (.string p.name) (.slice A1 p.types.length c1) (.slice A2 n2 c2) (.slice A3 n3 c3) (.string p.name) (.slice N1 p.types.length e1) (.slice N2 n2 e2) (.slice N3 n3 e3) []) := by
      rintro b3 b4 rfl rfl
      have bb : Below w2.heap.size w2 ((w2.alloc (.cells #[.string p.name, .slice N1 p.types.length e1, .slice N2 n2 e2, .slice N3 n3 e3] 26)).alloc (.map #[] 0)) := ((Below.refl _ _).alloc (Nat.le_refl _) _).alloc (by simp) _
      have xb := X2.out.below bb
      rw [hn2, hn3] at xb
      have m0 := MapL.made (P := Tryd.prog) (k := 40) (ok := okRl) (kl := klRl) (w2.alloc (.cells #[.string p.name, .slice N1 p.types.length e1, .slice N2 n2 e2, .slice N3 n3 e3] 26))
      rw [World.size_alloc] at m0
      have l1 := LT1.out
      exact ⟨bb, xb, (BoxP.new w2 _ _ _ _ _).below ((Below.refl _ _).alloc (Nat.le_refl _) _), m0, by omega, by omega, by omega⟩
    have X2' := X2
    rw [hn2, hn3] at X2'
    have a0 := X2'.out.c0; have a1 := X2'.out.c1; have a2 := X2'.out.c2; have a3 := X2'.out.c3
    have lt1 := LT1.out
    have ne1 : b1 ≠ w2.heap.size := by omega
    rw [hn2] at z2
    rw [hn3] at z3
    rw [hn2, hn3]
    clear hn2 hn3 X2
    go_wp2
    obtain ⟨b3, hb3⟩ : ∃ b, b = w2.heap.size := ⟨_, rfl⟩
    obtain ⟨b4, hb4⟩ : ∃ b, b = w2.heap.size + 1 := ⟨_, rfl⟩
    have HS := Lib.hid (HST.out b3 b4 hb3 hb4)
    rw [← hb4, ← hb3]
    clear HST hmm a0 a1 a2 a3 ne1 lt1 hb3 hb4 X2'
    generalize ((w2.alloc (.cells #[.string p.name, .slice N1 p.types.length e1, .slice N2 n2 e2, .slice N3 n3 e3] 26)).alloc (.map #[] 0)) = w3 at *
    have HQF : fewB q = true := by
      have e := HF1.out
      unfold fewB at e ⊢
      rw [HQ.out]
      simp at e ⊢
      unfold normS
      simp [sortR_length]
      exact e
    have QE : q.name = p.name ∧ q.types.length = p.types.length ∧ q.rules.length = n2 ∧ q.quorums.length = n3 := by
      obtain ⟨g1, g2, g3, g4⟩ := normS_len p
      rw [HQ.out, g1, g2, g3, g4]
      exact ⟨rfl, rfl, HN2.out, HN3.out⟩
    have HQN : normS q = q := by rw [HQ.out]; exact normS_norm p
    have NQ : Hid (∀ W, PolR W q N1 e1 N2 e2 N3 e3 → Calls Tryd.prog 18 #[.agg #[.string p.name, .slice N1 p.types.length e1, .slice N2 n2 e2, .slice N3 n3 e3]] W (fun e w' => ∃ O1 g1 O2 g2 O3 g3, e = .returned (.agg #[.string p.name, .slice O1 p.types.length g1, .slice O2 n2 g2, .slice O3 n3 g3]) ∧ PolR w' q O1 g1 O2 g2 O3 g3 ∧ Below W.heap.size W w')) := fun W h => by
      have := normal_post q N1 e1 N2 e2 N3 e3 W h HQF
      unfold NormPost at this
      rw [HQN] at this
      obtain ⟨g1, g2, g3, g4⟩ := QE
      rw [g1, g2, g3, g4] at this
      exact this
    have SQ : Hid (∀ O1 g1 O2 g2 O3 g3 W, PolR W q O1 g1 O2 g2 O3 g3 → PolR W q N1 e1 N2 e2 N3 e3 → Calls Tryd.prog 20 #[.agg #[.string p.name, .slice O1 p.types.length g1, .slice O2 n2 g2, .slice O3 n3 g3], .agg #[.string p.name, .slice N1 p.types.length e1, .slice N2 n2 e2, .slice N3 n3 e3]] W fun e w' => e = .returned (.bool true) ∧ Below W.heap.size W w') := fun O1 g1 O2 g2 O3 g3 W h h' => by
      have := same_any q q O1 g1 O2 g2 O3 g3 N1 e1 N2 e2 N3 e3 W h h'
      obtain ⟨k1, k2, k3, k4⟩ := QE
      rw [decide_eq_true rfl, k1, k2, k3, k4] at this
      exact this
    have VQ : Hid (∀ W, PolR W q N1 e1 N2 e2 N3 e3 → Below w.heap.size w W → Calls Tryd.prog 13 #[.agg #[.string p.name, .slice N1 p.types.length e1, .slice N2 n2 e2, .slice N3 n3 e3]] W fun e w' => e = .returned (.bool ((checkS p).2 == 0)) ∧ Below W.heap.size W w') := fun W h h' => by
      have := valid_any q N1 e1 N2 e2 N3 e3 W h (HO.out _ h')
      obtain ⟨k1, k2, k3, k4⟩ := QE
      rw [k1, k2, k3, k4, HQ.out, valid_norm] at this
      exact this
    clear HQF QE HQN
    rw [HN2.out, HN3.out] at VK
    have HQR := Lib.hid HN.out.r2
    have HQQ := Lib.hid HN.out.r3
    have HPR : Hid (RS encRl 3 w2 A2 p.rules) := HP.out.r2.below BL2.out
    have HPM : Hid (q.rules.Perm p.rules) := by rw [HQ.out]; exact sortR_perm _ _
    have HQL : Hid (q.rules.length = n2) := HPM.out.length_eq.trans HN2.out
    have HQL3 : Hid (q.quorums.length = n3) := by rw [HQ.out]; exact (sortR_length _ _).trans HN3.out
    have OK2 : Hid (∀ r ∈ q.rules, okRl r) := fun r hr => OK1.out r (HPM.out.mem_iff.1 hr)
    have HSR : Hid (∀ j, j + 1 < n2 → ltRl q.rules[j + 1]! q.rules[j]! = false) := fun j hj => by
      have h := (sortR_stab Ord_Rl p.rules).srt
      rw [show sortR ltRl p.rules = q.rules by rw [HQ.out]; rfl] at h
      exact h.le Ord_Rl j (j + 1) (by omega) (by rw [HQL.out]; exact hj)
    have HSQ : Hid (∀ j, j + 1 < n3 → ¬ q.quorums[j + 1]!.cmd < q.quorums[j]!.cmd) := fun j hj => by
      have h := (sortR_stab Ord_Qm p.quorums).srt
      rw [show sortR ltQm p.quorums = q.quorums by rw [HQ.out]; rfl] at h
      have := h.le Ord_Qm j (j + 1) (by omega) (by rw [HQL3.out]; exact hj)
      simpa [ltQm] using this
    go_loopg [55] n2 (fun gg ts wr => ∃ (k : Nat) (m : List (Rl × Value)), k ≤ n2 ∧ n2 - k ≤ gg ∧ ts = .int .i64 (k : Nat) ∧ Hid (NoSt w2 wr b1 b3 b4 (.string p.name) (.slice A1 p.types.length c1) (.slice A2 n2 c2) (.slice A3 n3 c3) (.string p.name) (.slice N1 p.types.length e1) (.slice N2 n2 e2) (.slice N3 n3 e3) m) ∧ Hid (m.length ≤ k ∧ CntM m (fun x => ((q.rules.take k).count x : Int))))
    case atStart => exact ⟨0, [], Nat.zero_le _, by omega, by simp, HS, ⟨Nat.zero_le _, fun x _ => by simp [getA_nil]⟩⟩
    case round =>
      clear HS
      obtain ⟨k, m, hk, hg, rfl, HS, HM⟩ := hrel
      by_cases hlt : k < n2
      · have hltz : (k : Int) < (n2 : Int) := by omega
        have hk0 : (0 : Int) ≤ (k : Int) := by omega
        have hkl : k < q.rules.length := by rw [HQL.out]; exact hlt
        obtain ⟨b, o, eA, hbb, hc⟩ := HQR.out.at HS.out.bel k hkl
        have hok := OK2.out _ (get_mem! q.rules k hkl)
        have htk := take_snoc! q.rules k hkl
        have hcnt : ((q.rules.take k).count q.rules[k]! : Int) ≤ 300 := by
          have := List.count_le_length (a := q.rules[k]!) (l := q.rules.take k)
          rw [List.length_take] at this; omega
        have HSRK : Hid (∀ j, j + 1 = k → ltRl q.rules[k]! q.rules[j]! = false) := fun j hj => by subst hj; exact HSR.out j hlt
        have HG : Hid (∀ y : Rl, ((q.rules.take (k + 1)).count y : Int) = ((q.rules.take k).count y : Int) + (if y = q.rules[k]! then 1 else 0)) := fun y => by rw [htk]; exact count_snoc _ _ _
        have HROW : Hid (∀ j, j < k → ∃ hj : j < q.rules.length, True) := fun j hj => ⟨by omega, trivial⟩
        obtain ⟨c, hcc⟩ : ∃ c, ((q.rules.take k).count q.rules[k]! : Int) = c := ⟨_, rfl⟩
        have hc0 : 0 ≤ c := by rw [← hcc]; omega
        rw [hcc] at hcnt
        have hwr : IntKind.i64.wrap (c + 1) = c + 1 := by rw [IntKind.wrap_i64]; omega
        have HCN : Hid ((putA m q.rules[k]! (.int .i64 (c + 1))).length ≤ k + 1 ∧ CntM (putA m q.rules[k]! (.int .i64 (c + 1))) (fun x => ((q.rules.take (k + 1)).count x : Int))) := by
          refine ⟨by rw [putA_length]; have := HM.out.1; split <;> omega, ?_⟩
          have h := HM.out.2.put q.rules[k]! (fun x => ((q.rules.take (k + 1)).count x : Int)) (fun y hy => by have := HG.out y; rw [if_neg hy] at this; simpa using this)
          have e : ((q.rules.take (k + 1)).count q.rules[k]! : Int) = c + 1 := by rw [HG.out, if_pos rfl, hcc]
          simpa only [e] using h
        have HCC := Lib.hid hcc
        clear hkl htk hcc
        generalize hx : q.rules[k]! = x at *
        have HXK := Lib.hid hx
        clear hx
        obtain ⟨x1, x2, x3⟩ := x
        have HOK := Lib.hid hok
        have c0 := hc 0 _ rfl; have c1' := hc 1 _ rfl; have c2' := hc 2 _ rfl
        simp only [Nat.add_zero] at c0
        subst eA
        clear hc hok
        rcases Nat.eq_zero_or_pos k with h0 | h0
        · have hj0z : decide (0 < k) = false := decide_eq_false (by omega)
          have hj0y : (0 < k) = False := eq_false (by omega)
          have hj0x : decide ((k : Int) > 0) = false := decide_eq_false (by omega)
          clear h0
          have HPK : Hid ((wr.alloc (.cells #[.int .i64 x1, .int .i64 x2, .int .i64 x3] 40)).cell? ⟨wr.heap.size, 0, none⟩ = some (.int .i64 x1) ∧ (wr.alloc (.cells #[.int .i64 x1, .int .i64 x2, .int .i64 x3] 40)).cell? ⟨wr.heap.size, 1, none⟩ = some (.int .i64 x2) ∧ (wr.alloc (.cells #[.int .i64 x1, .int .i64 x2, .int .i64 x3] 40)).cell? ⟨wr.heap.size, 2, none⟩ = some (.int .i64 x3) ∧ NoSt w2 (wr.alloc (.cells #[.int .i64 x1, .int .i64 x2, .int .i64 x3] 40)).drew b1 b3 b4 (.string p.name) (.slice A1 p.types.length c1) (.slice A2 n2 c2) (.slice A3 n3 c3) (.string p.name) (.slice N1 p.types.length e1) (.slice (some ⟨b, o, none⟩) n2 e2) (.slice N3 n3 e3) m) := ⟨by simp [go_sem], by simp [go_sem], by simp [go_sem], HS.out.grow (((Below.refl _ _).alloc (Nat.le_refl _) _).drew)⟩
          go_wp2_with fail
          generalize (wr.alloc (.cells #[.int .i64 x1, .int .i64 x2, .int .i64 x3] 40)) = W5 at *
          obtain ⟨q0, q1, q2, hS5⟩ := HPK.out
          obtain ⟨hl, v0, st, u1, u2, hm1, hm2, hM2, hg2, hl2⟩ := bump_int hS5.mp HM.out.2 (by have := HM.out.1; omega) ⟨x1, x2, x3⟩ HOK.out (c + 1)
          simp only [avRl] at hl hl2 hm1
          simp only [HCC.out] at hl hl2 hm2
          have HNEW := Lib.hid (hS5.upd hg2 hM2)
          clear hS5 hM2 hg2 HPK HS
          go_big_region
          all_goals go_wp2
          go_roundg (n2 - (k + 1))
          case measure => omega
          case rel => exact ⟨k + 1, _, by omega, by omega, by go_num, HNEW, HCN.out⟩
        · obtain ⟨kp, rfl⟩ : ∃ kp, k = kp + 1 := ⟨k - 1, by omega⟩
          clear h0
          obtain ⟨b', o', e', _, hcy⟩ := HQR.out.at HS.out.bel kp (by rw [HQL.out]; omega)
          obtain ⟨rfl, rfl⟩ : b = b' ∧ o = o' := by cases e'; exact ⟨rfl, rfl⟩
          clear e'
          have hlx := not_lt_Rl (HSRK.out kp rfl)
          clear HSRK
          generalize q.rules[kp]! = y at *
          obtain ⟨y1, y2, y3⟩ := y
          dsimp only at hlx
          have d0 := hcy 0 _ rfl; have d1 := hcy 1 _ rfl; have d2 := hcy 2 _ rfl
          simp only [Nat.add_zero] at d0
          clear hcy
          have hwp : IntKind.i64.wrap (kp : Int) = (kp : Int) := by rw [IntKind.wrap_i64]; omega
          have hws : IntKind.i64.wrap ((kp : Int) + 1 - 1) = (kp : Int) := by rw [IntKind.wrap_i64]; omega
          have hkz : (0 : Int) < (kp : Int) + 1 := by omega
          have hkp0 : (0 : Int) ≤ (kp : Int) := by omega
          have hkpn : (kp : Int) < (n2 : Int) := by omega
          have g1 : ¬ x1 < y1 := hlx.1
          by_cases ek : y1 = x1
          · have ekb : (y1 == x1) = true := by simpa using ek
            have g2 : ¬ x2 < y2 := (hlx.2 ek).1
            by_cases ea : y2 = x2
            · have eab : (y2 == x2) = true := by simpa using ea
              have g3 : ¬ x3 < y3 := (hlx.2 ek).2 ea
              clear hlx ek ea
              have HPK : Hid (((wr.alloc (.cells #[.int .i64 x1, .int .i64 x2, .int .i64 x3] 40)).alloc (.cells #[.int .i64 y1, .int .i64 y2, .int .i64 y3] 40)).cell? ⟨wr.heap.size, 0, none⟩ = some (.int .i64 x1) ∧ ((wr.alloc (.cells #[.int .i64 x1, .int .i64 x2, .int .i64 x3] 40)).alloc (.cells #[.int .i64 y1, .int .i64 y2, .int .i64 y3] 40)).cell? ⟨wr.heap.size, 1, none⟩ = some (.int .i64 x2) ∧ ((wr.alloc (.cells #[.int .i64 x1, .int .i64 x2, .int .i64 x3] 40)).alloc (.cells #[.int .i64 y1, .int .i64 y2, .int .i64 y3] 40)).cell? ⟨wr.heap.size, 2, none⟩ = some (.int .i64 x3) ∧ NoSt w2 ((wr.alloc (.cells #[.int .i64 x1, .int .i64 x2, .int .i64 x3] 40)).alloc (.cells #[.int .i64 y1, .int .i64 y2, .int .i64 y3] 40)).drew b1 b3 b4 (.string p.name) (.slice A1 p.types.length c1) (.slice A2 n2 c2) (.slice A3 n3 c3) (.string p.name) (.slice N1 p.types.length e1) (.slice (some ⟨b, o, none⟩) n2 e2) (.slice N3 n3 e3) m) := ⟨by simp [go_sem], by simp [go_sem], by simp [go_sem], HS.out.grow ((((Below.refl _ _).alloc (Nat.le_refl _) _).alloc (by simp) _).drew)⟩
              have qc2 := HS.out.x3.c2
              have qlt := HS.out.x3.lt
              have hbl : b < wr.heap.size := Nat.lt_of_lt_of_le hbb HS.out.bel.size
              go_wp2_with fail
              clear qc2 qlt hbl
              generalize ((wr.alloc (.cells #[.int .i64 x1, .int .i64 x2, .int .i64 x3] 40)).alloc (.cells #[.int .i64 y1, .int .i64 y2, .int .i64 y3] 40)) = W5 at *
              obtain ⟨q0, q1, q2, hS5⟩ := HPK.out
              obtain ⟨hl, v0, st, u1, u2, hm1, hm2, hM2, hg2, hl2⟩ := bump_int hS5.mp HM.out.2 (by have := HM.out.1; omega) ⟨x1, x2, x3⟩ HOK.out (c + 1)
              simp only [avRl] at hl hl2 hm1
              simp only [HCC.out] at hl hl2 hm2
              have HNEW := Lib.hid (hS5.upd hg2 hM2)
              clear hS5 hM2 hg2 HPK HS
              go_big_region
              all_goals go_wp2
              go_roundg (n2 - (kp + 1 + 1))
              case measure => omega
              case rel => exact ⟨kp + 1 + 1, _, by omega, by omega, by go_num, HNEW, HCN.out⟩
            · have eab : (y2 == x2) = false := by simpa using ea
              clear hlx ek ea
              have HPK : Hid (((wr.alloc (.cells #[.int .i64 x1, .int .i64 x2, .int .i64 x3] 40)).alloc (.cells #[.int .i64 y1, .int .i64 y2, .int .i64 y3] 40)).cell? ⟨wr.heap.size, 0, none⟩ = some (.int .i64 x1) ∧ ((wr.alloc (.cells #[.int .i64 x1, .int .i64 x2, .int .i64 x3] 40)).alloc (.cells #[.int .i64 y1, .int .i64 y2, .int .i64 y3] 40)).cell? ⟨wr.heap.size, 1, none⟩ = some (.int .i64 x2) ∧ ((wr.alloc (.cells #[.int .i64 x1, .int .i64 x2, .int .i64 x3] 40)).alloc (.cells #[.int .i64 y1, .int .i64 y2, .int .i64 y3] 40)).cell? ⟨wr.heap.size, 2, none⟩ = some (.int .i64 x3) ∧ NoSt w2 ((wr.alloc (.cells #[.int .i64 x1, .int .i64 x2, .int .i64 x3] 40)).alloc (.cells #[.int .i64 y1, .int .i64 y2, .int .i64 y3] 40)).drew b1 b3 b4 (.string p.name) (.slice A1 p.types.length c1) (.slice A2 n2 c2) (.slice A3 n3 c3) (.string p.name) (.slice N1 p.types.length e1) (.slice (some ⟨b, o, none⟩) n2 e2) (.slice N3 n3 e3) m) := ⟨by simp [go_sem], by simp [go_sem], by simp [go_sem], HS.out.grow ((((Below.refl _ _).alloc (Nat.le_refl _) _).alloc (by simp) _).drew)⟩
              have qc2 := HS.out.x3.c2
              have qlt := HS.out.x3.lt
              have hbl : b < wr.heap.size := Nat.lt_of_lt_of_le hbb HS.out.bel.size
              go_wp2_with fail
              clear qc2 qlt hbl
              generalize ((wr.alloc (.cells #[.int .i64 x1, .int .i64 x2, .int .i64 x3] 40)).alloc (.cells #[.int .i64 y1, .int .i64 y2, .int .i64 y3] 40)) = W5 at *
              obtain ⟨q0, q1, q2, hS5⟩ := HPK.out
              obtain ⟨hl, v0, st, u1, u2, hm1, hm2, hM2, hg2, hl2⟩ := bump_int hS5.mp HM.out.2 (by have := HM.out.1; omega) ⟨x1, x2, x3⟩ HOK.out (c + 1)
              simp only [avRl] at hl hl2 hm1
              simp only [HCC.out] at hl hl2 hm2
              have HNEW := Lib.hid (hS5.upd hg2 hM2)
              clear hS5 hM2 hg2 HPK HS
              go_big_region
              all_goals go_wp2
              go_roundg (n2 - (kp + 1 + 1))
              case measure => omega
              case rel => exact ⟨kp + 1 + 1, _, by omega, by omega, by go_num, HNEW, HCN.out⟩
          · have ekb : (y1 == x1) = false := by simpa using ek
            clear hlx ek
            have HPK : Hid (((wr.alloc (.cells #[.int .i64 x1, .int .i64 x2, .int .i64 x3] 40)).alloc (.cells #[.int .i64 y1, .int .i64 y2, .int .i64 y3] 40)).cell? ⟨wr.heap.size, 0, none⟩ = some (.int .i64 x1) ∧ ((wr.alloc (.cells #[.int .i64 x1, .int .i64 x2, .int .i64 x3] 40)).alloc (.cells #[.int .i64 y1, .int .i64 y2, .int .i64 y3] 40)).cell? ⟨wr.heap.size, 1, none⟩ = some (.int .i64 x2) ∧ ((wr.alloc (.cells #[.int .i64 x1, .int .i64 x2, .int .i64 x3] 40)).alloc (.cells #[.int .i64 y1, .int .i64 y2, .int .i64 y3] 40)).cell? ⟨wr.heap.size, 2, none⟩ = some (.int .i64 x3) ∧ NoSt w2 ((wr.alloc (.cells #[.int .i64 x1, .int .i64 x2, .int .i64 x3] 40)).alloc (.cells #[.int .i64 y1, .int .i64 y2, .int .i64 y3] 40)).drew b1 b3 b4 (.string p.name) (.slice A1 p.types.length c1) (.slice A2 n2 c2) (.slice A3 n3 c3) (.string p.name) (.slice N1 p.types.length e1) (.slice (some ⟨b, o, none⟩) n2 e2) (.slice N3 n3 e3) m) := ⟨by simp [go_sem], by simp [go_sem], by simp [go_sem], HS.out.grow ((((Below.refl _ _).alloc (Nat.le_refl _) _).alloc (by simp) _).drew)⟩
            have qc2 := HS.out.x3.c2
            have qlt := HS.out.x3.lt
            have hbl : b < wr.heap.size := Nat.lt_of_lt_of_le hbb HS.out.bel.size
            go_wp2_with fail
            clear qc2 qlt hbl
            generalize ((wr.alloc (.cells #[.int .i64 x1, .int .i64 x2, .int .i64 x3] 40)).alloc (.cells #[.int .i64 y1, .int .i64 y2, .int .i64 y3] 40)) = W5 at *
            obtain ⟨q0, q1, q2, hS5⟩ := HPK.out
            obtain ⟨hl, v0, st, u1, u2, hm1, hm2, hM2, hg2, hl2⟩ := bump_int hS5.mp HM.out.2 (by have := HM.out.1; omega) ⟨x1, x2, x3⟩ HOK.out (c + 1)
            simp only [avRl] at hl hl2 hm1
            simp only [HCC.out] at hl hl2 hm2
            have HNEW := Lib.hid (hS5.upd hg2 hM2)
            clear hS5 hM2 hg2 HPK HS
            go_big_region
            all_goals go_wp2
            go_roundg (n2 - (kp + 1 + 1))
            case measure => omega
            case rel => exact ⟨kp + 1 + 1, _, by omega, by omega, by go_num, HNEW, HCN.out⟩
      · obtain rfl : n2 = k := by omega
        have hltz : ¬ (n2 : Int) < (n2 : Int) := by omega
        rw [List.take_of_length_le (by rw [HQL.out]; exact Nat.le_refl _)] at HM
        have a2 := HS.out.x1.c2
        clear hlt hk hg HSR
        go_wp2
        clear a2 hltz
        go_loopg [111] n2 (fun gg ts wr => ∃ (k : Nat) (m : List (Rl × Value)), k ≤ n2 ∧ n2 - k ≤ gg ∧ ts = .int .i64 (k : Nat) ∧ Hid (NoSt w2 wr b1 b3 b4 (.string p.name) (.slice A1 p.types.length c1) (.slice A2 n2 c2) (.slice A3 n3 c3) (.string p.name) (.slice N1 p.types.length e1) (.slice N2 n2 e2) (.slice N3 n3 e3) m) ∧ Hid (m.length ≤ n2 + k ∧ CntM m (fun x => (q.rules.count x : Int) - ((p.rules.take k).count x : Int))))
        case atStart => exact ⟨0, m, Nat.zero_le _, by omega, by simp, HS, ⟨HM.out.1, fun x hx => by have := HM.out.2 x hx; simpa using this⟩⟩
        case round =>
          clear HS HM
          obtain ⟨k, m, hk, hg, rfl, HS, HM⟩ := hrel
          by_cases hlt : k < n2
          · have hltz : (k : Int) < (n2 : Int) := by omega
            have hk0 : (0 : Int) ≤ (k : Int) := by omega
            have hkl : k < p.rules.length := by rw [HN2.out]; exact hlt
            obtain ⟨b, o, eA, hbb, hc⟩ := HPR.out.at HS.out.bel k hkl
            have hok := OK1.out _ (get_mem! p.rules k hkl)
            have htk := take_snoc! p.rules k hkl
            obtain ⟨c, hcc⟩ : ∃ c, (q.rules.count p.rules[k]! : Int) - ((p.rules.take k).count p.rules[k]! : Int) = c := ⟨_, rfl⟩
            have hc0 : -300 ≤ c := by
              have := List.count_le_length (a := p.rules[k]!) (l := p.rules.take k)
              rw [List.length_take] at this; omega
            have hc3 : c ≤ 300 := by
              have := List.count_le_length (a := p.rules[k]!) (l := q.rules)
              rw [HQL.out] at this; omega
            have hwr : IntKind.i64.wrap (c - 1) = c - 1 := by rw [IntKind.wrap_i64]; omega
            have HCN : Hid ((putA m p.rules[k]! (.int .i64 (c - 1))).length ≤ n2 + (k + 1) ∧ CntM (putA m p.rules[k]! (.int .i64 (c - 1))) (fun x => (q.rules.count x : Int) - ((p.rules.take (k + 1)).count x : Int))) := by
              refine ⟨by rw [putA_length]; have := HM.out.1; split <;> omega, ?_⟩
              have h := HM.out.2.put p.rules[k]! (fun x => (q.rules.count x : Int) - ((p.rules.take (k + 1)).count x : Int)) (fun y hy => by have := count_snoc (p.rules.take k) p.rules[k]! y; rw [← htk, if_neg hy] at this; omega)
              have e : (q.rules.count p.rules[k]! : Int) - ((p.rules.take (k + 1)).count p.rules[k]! : Int) = c - 1 := by
                have := count_snoc (p.rules.take k) p.rules[k]! p.rules[k]!
                rw [← htk, if_pos rfl] at this; omega
              simpa only [e] using h
            have HCC := Lib.hid hcc
            clear hkl htk hcc
            generalize p.rules[k]! = x at *
            obtain ⟨x1, x2, x3⟩ := x
            have HOK := Lib.hid hok
            have c0 := hc 0 _ rfl; have c1' := hc 1 _ rfl; have c2' := hc 2 _ rfl
            simp only [Nat.add_zero] at c0
            subst eA
            clear hc hok
            have HPK : Hid ((wr.alloc (.cells #[.int .i64 x1, .int .i64 x2, .int .i64 x3] 40)).cell? ⟨wr.heap.size, 0, none⟩ = some (.int .i64 x1) ∧ (wr.alloc (.cells #[.int .i64 x1, .int .i64 x2, .int .i64 x3] 40)).cell? ⟨wr.heap.size, 1, none⟩ = some (.int .i64 x2) ∧ (wr.alloc (.cells #[.int .i64 x1, .int .i64 x2, .int .i64 x3] 40)).cell? ⟨wr.heap.size, 2, none⟩ = some (.int .i64 x3) ∧ NoSt w2 (wr.alloc (.cells #[.int .i64 x1, .int .i64 x2, .int .i64 x3] 40)).drew b1 b3 b4 (.string p.name) (.slice A1 p.types.length c1) (.slice (some ⟨b, o, none⟩) n2 c2) (.slice A3 n3 c3) (.string p.name) (.slice N1 p.types.length e1) (.slice N2 n2 e2) (.slice N3 n3 e3) m) := ⟨by simp [go_sem], by simp [go_sem], by simp [go_sem], HS.out.grow (((Below.refl _ _).alloc (Nat.le_refl _) _).drew)⟩
            go_wp2_with fail
            generalize (wr.alloc (.cells #[.int .i64 x1, .int .i64 x2, .int .i64 x3] 40)) = W5 at *
            obtain ⟨q0, q1, q2, hS5⟩ := HPK.out
            obtain ⟨hl, v0, st, u1, u2, hm1, hm2, hM2, hg2, hl2⟩ := bump_int hS5.mp HM.out.2 (by have := HM.out.1; omega) ⟨x1, x2, x3⟩ HOK.out (c - 1)
            simp only [avRl] at hl hl2 hm1
            simp only [HCC.out] at hl hl2 hm2
            have HNEW := Lib.hid (hS5.upd hg2 hM2)
            clear hS5 hM2 hg2 HPK HS
            go_big_region
            all_goals go_wp2
            go_roundg (n2 - (k + 1))
            case measure => omega
            case rel => exact ⟨k + 1, _, by omega, by omega, by go_num, HNEW, HCN.out⟩
          · obtain rfl : n2 = k := by omega
            have hltz : ¬ (n2 : Int) < (n2 : Int) := by omega
            rw [List.take_of_length_le (by rw [HN2.out]; exact Nat.le_refl _)] at HM
            have HZ : Hid (∀ x v, okRl x → getA m x = some v → v = .int .i64 0) := fun x v hx hv => by
              have h := HM.out.2 x hx
              have e := HPM.out.count_eq x
              rw [hv] at h
              simpa [e] using h
            clear hlt hk hg HM
            obtain ⟨w4, hrun, HRG, hgr, hsz⟩ := HS.out.mp.range keyed_Rl Tryd.underlying38
            obtain ⟨r0, hr0⟩ : ∃ r, r = wr.heap.size := ⟨_, rfl⟩
            rw [← hr0] at hrun HRG
            have HLT : Hid (b1 < r0 ∧ b3 < r0 ∧ b4 < r0 ∧ w2.heap.size ≤ r0) := by subst hr0; exact ⟨HS.out.x1.lt, HS.out.x3.lt, HS.out.mp.lt, HS.out.bel.size⟩
            have HS4 : Hid (NoSt w2 w4 b1 b3 b4 (.string p.name) (.slice A1 p.types.length c1) (.slice A2 n2 c2) (.slice A3 n3 c3) (.string p.name) (.slice N1 p.types.length e1) (.slice N2 n2 e2) (.slice N3 n3 e3) m) := HS.out.grow ⟨hgr.os, hgr.tape, hgr.output, hgr.size, fun i hi => hgr.block i hi (by simp)⟩
            have HRG4 := Lib.hid HRG
            clear HRG hgr hsz hr0 HS
            go_wp2
            clear hrun hltz
            go_loopg [] (m.length) (fun gg wr => ∃ rest : List Rl, rest.length ≤ gg ∧ Hid (RangeL Tryd.prog 40 okRl klRl wr b4 r0 m rest) ∧ Hid (NoSt w2 wr b1 b3 b4 (.string p.name) (.slice A1 p.types.length c1) (.slice A2 n2 c2) (.slice A3 n3 c3) (.string p.name) (.slice N1 p.types.length e1) (.slice N2 n2 e2) (.slice N3 n3 e3) m))
            case atStart => exact ⟨m.map (·.1), by simp, HRG4, HS4⟩
            case round =>
              clear HRG4 HS4
              obtain ⟨rest, hg, HRG, HS⟩ := hrel
              rcases HRG.out.next keyed_Rl 0 with ⟨hrest, hrun⟩ | ⟨x, v, w5, hxr, hxo, hxv, hrun, hnew, hgr, hsz, hen⟩
              · clear hrest HRG
                have q3 := HS.out.x3.c3
                have W8 := HLT.out.2.2.2
                clear HLT
                go_wp2
                clear q3 hrun
                go_loopg [12] n3 (fun gg ts wr => ∃ k : Nat, 1 ≤ k ∧ n3 - k ≤ gg ∧ ts = .int .i64 (k : Nat) ∧ Hid (NoSt w2 wr b1 b3 b4 (.string p.name) (.slice A1 p.types.length c1) (.slice A2 n2 c2) (.slice A3 n3 c3) (.string p.name) (.slice N1 p.types.length e1) (.slice N2 n2 e2) (.slice N3 n3 e3) m))
                case atStart => exact ⟨1, Nat.le_refl _, by omega, by simp, HS⟩
                case round =>
                  clear HS
                  obtain ⟨k, hk1, hg, rfl, HS⟩ := hrel
                  have q3 := HS.out.x3.c3
                  by_cases hlt : k < n3
                  · have hltz : (k : Int) < (n3 : Int) := by omega
                    obtain ⟨kp, rfl⟩ : ∃ kp, k = kp + 1 := ⟨k - 1, by omega⟩
                    obtain ⟨b, o, eA, hbb, hc⟩ := HQQ.out.at HS.out.bel (kp + 1) (by rw [HQL3.out]; exact hlt)
                    obtain ⟨b', o', eB, _, hcy⟩ := HQQ.out.at HS.out.bel kp (by rw [HQL3.out]; omega)
                    subst eA
                    obtain ⟨rfl, rfl⟩ : b = b' ∧ o = o' := by cases eB; exact ⟨rfl, rfl⟩
                    clear eB
                    have hlx := HSQ.out kp hlt
                    generalize q.quorums[kp + 1]! = x at *
                    generalize q.quorums[kp]! = y at *
                    obtain ⟨x1, x2, x3, x4, x5⟩ := x
                    obtain ⟨y1, y2, y3, y4, y5⟩ := y
                    dsimp only at hlx
                    have c0 := hc 0 _ rfl
                    have d0 := hcy 0 _ rfl
                    simp only [Nat.add_zero] at c0 d0
                    clear hc hcy
                    have hwp : IntKind.i64.wrap (kp : Int) = (kp : Int) := by rw [IntKind.wrap_i64]; omega
                    have hws : IntKind.i64.wrap ((kp : Int) + 1 - 1) = (kp : Int) := by rw [IntKind.wrap_i64]; omega
                    have hkz : (0 : Int) ≤ (kp : Int) + 1 := by omega
                    have hkp0 : (0 : Int) ≤ (kp : Int) := by omega
                    have hkpn : (kp : Int) < (n3 : Int) := by omega
                    have HSD := Lib.hid (HS.out.grow (Below.refl _ _).drew)
                    go_wp2_with fail
                    go_big_region
                    all_goals go_wp2
                    go_roundg (n3 - (kp + 1 + 1))
                    case measure => omega
                    case rel => exact ⟨kp + 1 + 1, by omega, by omega, by go_num, HSD⟩
                  · have hltz : ¬ (k : Int) < (n3 : Int) := by omega
                    have KEEP : Hid (∀ W W', (((W.cell? ⟨b1, 0, none⟩ = some (.string p.name) ∧ W.cell? ⟨b1, 1, none⟩ = some (.slice A1 p.types.length c1) ∧ W.cell? ⟨b1, 2, none⟩ = some (.slice A2 n2 c2) ∧ W.cell? ⟨b1, 3, none⟩ = some (.slice A3 n3 c3)) ∧ (W.cell? ⟨b3, 0, none⟩ = some (.string p.name) ∧ W.cell? ⟨b3, 1, none⟩ = some (.slice N1 p.types.length e1) ∧ W.cell? ⟨b3, 2, none⟩ = some (.slice N2 n2 e2) ∧ W.cell? ⟨b3, 3, none⟩ = some (.slice N3 n3 e3))) ∧ BoxP W b1 (.string p.name) (.slice A1 p.types.length c1) (.slice A2 n2 c2) (.slice A3 n3 c3) ∧ BoxP W b3 (.string p.name) (.slice N1 p.types.length e1) (.slice N2 n2 e2) (.slice N3 n3 e3) ∧ PolR W p A1 c1 A2 c2 A3 c3 ∧ PolR W q N1 e1 N2 e2 N3 e3 ∧ Below w.heap.size w W) → Below W.heap.size W W' → (((W'.cell? ⟨b1, 0, none⟩ = some (.string p.name) ∧ W'.cell? ⟨b1, 1, none⟩ = some (.slice A1 p.types.length c1) ∧ W'.cell? ⟨b1, 2, none⟩ = some (.slice A2 n2 c2) ∧ W'.cell? ⟨b1, 3, none⟩ = some (.slice A3 n3 c3)) ∧ (W'.cell? ⟨b3, 0, none⟩ = some (.string p.name) ∧ W'.cell? ⟨b3, 1, none⟩ = some (.slice N1 p.types.length e1) ∧ W'.cell? ⟨b3, 2, none⟩ = some (.slice N2 n2 e2) ∧ W'.cell? ⟨b3, 3, none⟩ = some (.slice N3 n3 e3))) ∧ BoxP W' b1 (.string p.name) (.slice A1 p.types.length c1) (.slice A2 n2 c2) (.slice A3 n3 c3) ∧ BoxP W' b3 (.string p.name) (.slice N1 p.types.length e1) (.slice N2 n2 e2) (.slice N3 n3 e3) ∧ PolR W' p A1 c1 A2 c2 A3 c3 ∧ PolR W' q N1 e1 N2 e2 N3 e3 ∧ Below w.heap.size w W')) := by
                      rintro W W' ⟨_, h1, h2, h3, h4, h5⟩ hb
                      exact ⟨⟨(h1.below hb).cls, (h2.below hb).cls⟩, h1.below hb, h2.below hb, h3.below hb, h4.below hb, h5.trans (hb.mono h5.size)⟩
                    have hbw : Below w.heap.size w wr := BL2.out.trans (HS.out.bel.mono BL2.out.size)
                    have HG : Hid ((((wr.cell? ⟨b1, 0, none⟩ = some (.string p.name) ∧ wr.cell? ⟨b1, 1, none⟩ = some (.slice A1 p.types.length c1) ∧ wr.cell? ⟨b1, 2, none⟩ = some (.slice A2 n2 c2) ∧ wr.cell? ⟨b1, 3, none⟩ = some (.slice A3 n3 c3)) ∧ (wr.cell? ⟨b3, 0, none⟩ = some (.string p.name) ∧ wr.cell? ⟨b3, 1, none⟩ = some (.slice N1 p.types.length e1) ∧ wr.cell? ⟨b3, 2, none⟩ = some (.slice N2 n2 e2) ∧ wr.cell? ⟨b3, 3, none⟩ = some (.slice N3 n3 e3))) ∧ BoxP wr b1 (.string p.name) (.slice A1 p.types.length c1) (.slice A2 n2 c2) (.slice A3 n3 c3) ∧ BoxP wr b3 (.string p.name) (.slice N1 p.types.length e1) (.slice N2 n2 e2) (.slice N3 n3 e3) ∧ PolR wr p A1 c1 A2 c2 A3 c3 ∧ PolR wr q N1 e1 N2 e2 N3 e3 ∧ Below w.heap.size w wr)) := ⟨⟨HS.out.x1.cls, HS.out.x3.cls⟩, HS.out.x1, HS.out.x3, HP.out.below hbw, HN.out.below HS.out.bel, hbw⟩
                    have HG0 := Lib.hid (KEEP.out _ _ HG.out (Below.refl _ _).drew)
                    clear HS hbw
                    obtain ⟨⟨a0, a1, a2, a3⟩, ⟨b0, b1', b2, b3'⟩⟩ := HG.out.1
                    go_wp2_with fail
                    go_region_held3 (fun W => ((W.cell? ⟨b1, 0, none⟩ = some (.string p.name) ∧ W.cell? ⟨b1, 1, none⟩ = some (.slice A1 p.types.length c1) ∧ W.cell? ⟨b1, 2, none⟩ = some (.slice A2 n2 c2) ∧ W.cell? ⟨b1, 3, none⟩ = some (.slice A3 n3 c3)) ∧ (W.cell? ⟨b3, 0, none⟩ = some (.string p.name) ∧ W.cell? ⟨b3, 1, none⟩ = some (.slice N1 p.types.length e1) ∧ W.cell? ⟨b3, 2, none⟩ = some (.slice N2 n2 e2) ∧ W.cell? ⟨b3, 3, none⟩ = some (.slice N3 n3 e3)))) (go_keep) (first | (go_at_call 10; (with_reducible refine (CS.out _ HG0.out.2.2.2.2.2).mono ?_); rintro e v1 ⟨rfl, hb1⟩; have HG1 := Lib.hid (KEEP.out _ _ HG0.out hb1); obtain ⟨⟨a0, a1, a2, a3⟩, ⟨b0, b1', b2, b3'⟩⟩ := HG1.out.1) | (go_at_call 18; (with_reducible refine (NQ.out _ HG1.out.2.2.2.2.1).mono ?_); rintro e v2 ⟨O1, g1, O2, g2, O3, g3, rfl, hO, hb2⟩; have HG2 := Lib.hid (KEEP.out _ _ HG1.out hb2); have HOO := Lib.hid hO; obtain ⟨⟨a0, a1, a2, a3⟩, ⟨b0, b1', b2, b3'⟩⟩ := HG2.out.1) | (go_at_call 20; (with_reducible refine (SQ.out _ _ _ _ _ _ _ HOO.out HG2.out.2.2.2.2.1).mono ?_); rintro e v3 ⟨rfl, hb3⟩; have HG3 := Lib.hid (KEEP.out _ _ HG2.out hb3); obtain ⟨⟨a0, a1, a2, a3⟩, ⟨b0, b1', b2, b3'⟩⟩ := HG3.out.1) | (go_at_call 13; (with_reducible refine (VK.out _ HG3.out.2.2.2.1 HG3.out.2.2.2.2.2).mono ?_); rintro e v4 ⟨rfl, hb4⟩; have HG4 := Lib.hid (KEEP.out _ _ HG3.out hb4); obtain ⟨⟨a0, a1, a2, a3⟩, ⟨b0, b1', b2, b3'⟩⟩ := HG4.out.1) | (go_at_call 13; (with_reducible refine (VQ.out _ HG4.out.2.2.2.2.1 HG4.out.2.2.2.2.2).mono ?_); rintro e v5 ⟨rfl, hb5⟩; have HG5 := Lib.hid (KEEP.out _ _ HG4.out hb5); obtain ⟨⟨a0, a1, a2, a3⟩, ⟨b0, b1', b2, b3'⟩⟩ := HG5.out.1))
                    go_wp2
                    go_ret
                    exact ⟨by simp, HG5.out.2.2.2.2.2⟩
              · obtain rfl := HZ.out x v hxo hxv
                have HN5 := Lib.hid hnew
                have HS5 : Hid (NoSt w2 w5 b1 b3 b4 (.string p.name) (.slice A1 p.types.length c1) (.slice A2 n2 c2) (.slice A3 n3 c3) (.string p.name) (.slice N1 p.types.length e1) (.slice N2 n2 e2) (.slice N3 n3 e3) m) := HS.out.turn hgr (by have := HLT.out; omega) (by have := HLT.out; omega) (by have := HLT.out; omega) HLT.out.2.2.2
                have hle : (rest.erase x).length + 1 ≤ rest.length := by
                  rw [List.length_erase_of_mem hxr]
                  have := List.length_pos_of_mem hxr
                  omega
                clear hnew hgr hsz hxo hxv HRG HS
                generalize avRl x = vx at *
                go_wp2
                go_roundg (rest.erase x).length
                case measure => omega
                case rel => exact ⟨rest.erase x, Nat.le_refl _, HN5, HS5⟩

theorem fin6 : ∀ t ∈ Tryd.f6.params.toList, Tryd.prog.readableRec t = true ∧ t < Tryd.prog.types.size := by
  rw [Tryd.params6]
  intro t ht
  simp at ht
  subst ht
  exact reads_Pol
set_option maxRecDepth 100000 in
theorem checkNormal_lifted (os : Os) (started : os.Started) (H : Type) (enc : TypeId × Value → H) :
    ReturnsInHanded {} Tryd.checked os 6 .any (fun w args => (Rows.checkNormalSpec.pre enc Tryd.prog Tryd.f6 [] false w args ∧ laidMetH Tryd.prog laidL w) ∧ sizedMet enc Tryd.prog Tryd.f6 (OpenSpec.ofChange Rows.checkNormalSpec) false w args)
      (Rows.checkNormalSpec.post enc Tryd.prog Tryd.f6 false true false false) := by
  refine returnsInHanded_of_change_and (C := Tryd.checked) (X := fun w _ => laidMetH Tryd.prog laidL w) (fun _ _ _ hh h => h.of_heap hh) own_knob started (by kernel_rfl) Tryd.func6
    (ChangeSpec.witness_shaped (enc := enc) (C := Tryd.checked) (os := os) (X := fun w _ => laidMetH Tryd.prog laidL w) false (World.doorLaid Tryd.prog 400 os) #[.agg #[.string { data := #[] }, .slice none 0 0, .slice none 0 0, .slice none 0 0]] 8 rfl (World.shaped_of_RefB (by kernel_rfl) (by kernel_rfl)) (by kernel_rfl) (by kernel_rfl) (by kernel_rfl) (door_met os _)) ?_
  intro W base args ds gs before hval0 hW _ hsz hL _
  have hval : ∀ (j : Nat) t v, Tryd.f6.params[j]? = some t → args[j]? = some v → Value.okWide Tryd.prog W .any base t v := hval0
  have hW' := hW
  obtain ⟨p0, q0, hA0, hV, rfl, hfz, hnd⟩ := hW
  have hA : DataW.TrodAll enc Tryd.prog W 0 (fun _ => true) true Tryd.f6.params.toList args.toList ds p0 := hA0
  obtain ⟨rfl, rfl⟩ := trodVars_none hV
  have hO := own_of_laid hL
  have hwt := reach_all hsz
  rw [Tryd.params6] at hA hval
  obtain ⟨v0, dd0, rfl, rfl, r0⟩ := trodAll_one hA
  obtain ⟨p, A1, c1, A2, c2, A3, c3, rfl, hp, _, _, _, _, ok1, _⟩ := open_pol (hval 0 _ v0 rfl rfl) r0 (fun m hm => hwt m (DataW.weights_mem_each (j := 0) rfl rfl _ hm))
  refine (normal_loops p (normS p) A1 c1 A2 c2 A3 c3 W hp hO ok1 rfl).mono fun e W' ⟨he, hb⟩ => ?_
  subst he
  exact ⟨_, rfl, law_post (by kernel_rfl) fin6 hW' rfl rfl hb⟩
theorem checkNormal_said : Rows.CheckNormalSaid :=
  OpenClaim.holds_of_wide 6 Tryd.f6 rfl rfl rfl rfl rfl rfl rfl ⟨rfl, rfl, rfl, rfl, rfl⟩ rfl rfl rfl rfl rfl (by kernel_rfl) Tryd.func6 (by kernel_rfl)
    (of_decide_eq_true (by kernel_rfl)) (by unfold Func.isWrapper; first | (rw [if_pos (by decide +kernel)]; kernel_rfl) | (rw [if_neg (by decide +kernel)]; exact ⟨rfl, rfl⟩))
    (fun os started H enc _ => checkNormal_lifted os started H enc)
theorem checkNormal_card : Rows.CheckNormalCardSaid :=
  Claim7.holds_tied_plain_at .later [] [.widerDeep] true Rows.checkNormalCard.stood.harness false
    checkNormal_said (fun _ h => by cases h) (by kernel_rfl) (fun _ h => by cases h) checkNormal_row_tie rfl ⟨rfl, rfl⟩ (by kernel_rfl) rfl
    (fun f fn hf hfn => by
      obtain rfl : f = 6 := Option.some.inj ((show Tryd.prog.funcNamed "custody/custodylaw13.CheckNormal" = some 6 by kernel_rfl).symm.trans hf) |>.symm
      obtain rfl : fn = Tryd.f6 := (Option.some.inj (Tryd.func6.symm.trans hfn)).symm
      exact ⟨by kernel_rfl, fun j t ht => by
        rw [Tryd.params6] at ht
        have hm := Array.mem_of_getElem? ht
        have hall : ((Tryd.f6.params.toList).all fun u => !Tryd.prog.wantsStandIn u) = true := by kernel_rfl
        rw [Tryd.params6] at hall
        have := List.all_eq_true.1 hall t (by simpa using hm)
        exact (show Tryd.prog.wantsStandIn t = false by simpa using this)⟩)
    (by kernel_rfl)
#print axioms checkNormal_card
end Go.Proofs.YtemkffejekgmfaaDoor
