/- inside. -/
import Derived.Test.YtemkffejekgmfaaDoorF2
import Derived.Test.YtemkffejekgmfaaDoorM2
import Derived.Handy
namespace Go.Proofs.YtemkffejekgmfaaDoor
open Go.RowKit Go.Shelf Go.Lib

def insideS (a b : Pol) : Bool := decide (∀ r ∈ a.rules, r ∈ b.rules) && decide (∀ q ∈ a.quorums, q ∈ b.quorums)
theorem zero_bool : ∀ w : World, (zeroValue 4).run Tryd.prog w = .ok (.bool false) w := fun _ => by kernel_rfl

/-- What inside's loops keep. -/
structure InSt (w W : World) (p : Nat) (u0 u1 u2 u3 v0 v1 v2 v3 : Value) (M1 : List (Rl × Value)) (M2 : List (Qm × Value)) : Prop where
  hp : p = w.heap.size
  bel : Below w.heap.size w W
  b1 : BoxP W p u0 u1 u2 u3
  b2 : BoxP W (p + 1) v0 v1 v2 v3
  m1 : MapL Tryd.prog 40 okRl klRl W (p + 2) M1
  m2 : MapL Tryd.prog 42 okQm klQm W (p + 3) M2
theorem InSt.grow {w W W' : World} {p : Nat} {u0 u1 u2 u3 v0 v1 v2 v3 : Value} {M1 : List (Rl × Value)} {M2 : List (Qm × Value)} (h : InSt w W p u0 u1 u2 u3 v0 v1 v2 v3 M1 M2) (hb : Below W.heap.size W W') : InSt w W' p u0 u1 u2 u3 v0 v1 v2 v3 M1 M2 :=
  ⟨h.hp, h.bel.trans (hb.mono h.bel.size), h.b1.below hb, h.b2.below hb, h.m1.below hb, h.m2.below hb⟩
theorem BoxP.far {W W' : World} {b g : Nat} {v0 v1 v2 v3 : Value} (h : BoxP W b v0 v1 v2 v3) (hg : W.grownBy W' (some g)) (hne : b ≠ g) : BoxP W' b v0 v1 v2 v3 := by
  have c : ∀ o, W'.cell? ⟨b, o, none⟩ = W.cell? ⟨b, o, none⟩ := fun o => World.cell?_of_block (hg.block b h.lt (by simpa using hne))
  exact ⟨Nat.lt_of_lt_of_le h.lt hg.size, (c 0).trans h.c0, (c 1).trans h.c1, (c 2).trans h.c2, (c 3).trans h.c3⟩
theorem InSt.upd1 {w W W' : World} {p : Nat} {u0 u1 u2 u3 v0 v1 v2 v3 : Value} {M1 M1' : List (Rl × Value)} {M2 : List (Qm × Value)} (h : InSt w W p u0 u1 u2 u3 v0 v1 v2 v3 M1 M2) (hg : W.grownBy W' (some (p + 2))) (hm : MapL Tryd.prog 40 okRl klRl W' (p + 2) M1') : InSt w W' p u0 u1 u2 u3 v0 v1 v2 v3 M1' M2 := by
  have hp := h.hp
  exact ⟨h.hp, h.bel.grown hg h.bel.size (fun j hj => by cases hj; omega), h.b1.far hg (by omega), h.b2.far hg (by omega), hm, h.m2.kept hg (by simp)⟩
theorem InSt.upd2 {w W W' : World} {p : Nat} {u0 u1 u2 u3 v0 v1 v2 v3 : Value} {M1 : List (Rl × Value)} {M2 M2' : List (Qm × Value)} (h : InSt w W p u0 u1 u2 u3 v0 v1 v2 v3 M1 M2) (hg : W.grownBy W' (some (p + 3))) (hm : MapL Tryd.prog 42 okQm klQm W' (p + 3) M2') : InSt w W' p u0 u1 u2 u3 v0 v1 v2 v3 M1 M2' := by
  have hp := h.hp
  exact ⟨h.hp, h.bel.grown hg h.bel.size (fun j hj => by cases hj; omega), h.b1.far hg (by omega), h.b2.far hg (by omega), h.m1.kept hg (by simp), hm⟩

theorem take_snoc! {α : Type} [Inhabited α] (l : List α) (k : Nat) (h : k < l.length) : l.take (k + 1) = l.take k ++ [l[k]!] := by
  rw [List.take_add_one, List.getElem?_eq_getElem h, getElem!_pos l k h]; rfl
theorem get_mem! {α : Type} [Inhabited α] (l : List α) (k : Nat) (h : k < l.length) : l[k]! ∈ l := by
  rw [getElem!_pos l k h]; exact List.getElem_mem h
theorem inside_no1 {p : Pol} (q : Pol) (h : ¬ ∀ r ∈ p.rules, r ∈ q.rules) : insideS p q = false := by
  unfold insideS; rw [decide_eq_false h]; rfl
theorem inside_no2 {p : Pol} (q : Pol) (h : ¬ ∀ x ∈ p.quorums, x ∈ q.quorums) : insideS p q = false := by
  unfold insideS; rw [decide_eq_false h, Bool.and_false]
theorem inside_yes {p : Pol} (q : Pol) (h : ∀ r ∈ p.rules, r ∈ q.rules) (h' : ∀ x ∈ p.quorums, x ∈ q.quorums) : insideS p q = true := by
  unfold insideS; rw [decide_eq_true h, decide_eq_true h']; rfl
set_option maxRecDepth 100000 in
set_option maxHeartbeats 8000000 in
theorem inside_any (p q : Pol) (A1 : Option Addr) (c1 : Nat) (A2 : Option Addr) (c2 : Nat) (A3 : Option Addr) (c3 : Nat) (B1 : Option Addr) (d1 : Nat) (B2 : Option Addr) (d2 : Nat) (B3 : Option Addr) (d3 : Nat) (w : World) (hp : PolR w p A1 c1 A2 c2 A3 c3) (hq : PolR w q B1 d1 B2 d2 B3 d3)
    (ok1 : ∀ r ∈ p.rules, okRl r) (ok2 : ∀ x ∈ p.quorums, okQm x) (ok3 : ∀ r ∈ q.rules, okRl r) (ok4 : ∀ x ∈ q.quorums, okQm x) :
    Calls Tryd.prog 22 #[.agg #[.string p.name, .slice A1 p.types.length c1, .slice A2 p.rules.length c2, .slice A3 p.quorums.length c3], .agg #[.string q.name, .slice B1 q.types.length d1, .slice B2 q.rules.length d2, .slice B3 q.quorums.length d3]] w fun e w' => e = .returned (.bool (insideS p q)) ∧ Below w.heap.size w w' := by
  have HA2 := Lib.hid hp.r2; have HA3 := Lib.hid hp.r3; have HB2 := Lib.hid hq.r2; have HB3 := Lib.hid hq.r3
  have OK1 := Lib.hid ok1; have OK2 := Lib.hid ok2; have OK3 := Lib.hid ok3; have OK4 := Lib.hid ok4
  clear hp hq ok1 ok2 ok3 ok4
  obtain ⟨n2, hn2⟩ : ∃ n, p.rules.length = n := ⟨_, rfl⟩
  obtain ⟨n3, hn3⟩ : ∃ n, p.quorums.length = n := ⟨_, rfl⟩
  obtain ⟨m2, hm2⟩ : ∃ n, q.rules.length = n := ⟨_, rfl⟩
  obtain ⟨m3, hm3⟩ : ∃ n, q.quorums.length = n := ⟨_, rfl⟩
  have L2 : n2 ≤ 140737488355328 := hn2 ▸ HA2.out.1
  have L3 : n3 ≤ 140737488355328 := hn3 ▸ HA3.out.1
  have K2 : m2 ≤ 140737488355328 := hm2 ▸ HB2.out.1
  have K3 : m3 ≤ 140737488355328 := hm3 ▸ HB3.out.1
  rw [hn2, hn3, hm2, hm3]
  have HN2 := Lib.hid hn2; have HN3 := Lib.hid hn3; have HM2 := Lib.hid hm2; have HM3 := Lib.hid hm3
  clear hn2 hn3 hm2 hm3
  have hmm := @run_makeMap Tryd.prog
  have HST : Hid (∀ p0, p0 = w.heap.size → InSt w ((((w.alloc (.cells #[.string p.name, .slice A1 p.types.length c1, .slice A2 n2 c2, .slice A3 n3 c3] 26)).alloc (.cells #[.string q.name, .slice B1 q.types.length d1, .slice B2 m2 d2, .slice B3 m3 d3] 26)).alloc (.map #[] 0)).alloc (.map #[] 0)) p0 (.string p.name) (.slice A1 p.types.length c1) (.slice A2 n2 c2) (.slice A3 n3 c3) (.string q.name) (.slice B1 q.types.length d1) (.slice B2 m2 d2) (.slice B3 m3 d3) (setM []) (setM [])) := by
    rintro p0 rfl
    have x1 := BoxP.new w (.string p.name) (.slice A1 p.types.length c1) (.slice A2 n2 c2) (.slice A3 n3 c3) 26
    have x2 := BoxP.new (w.alloc (.cells #[.string p.name, .slice A1 p.types.length c1, .slice A2 n2 c2, .slice A3 n3 c3] 26)) (.string q.name) (.slice B1 q.types.length d1) (.slice B2 m2 d2) (.slice B3 m3 d3) 26
    rw [World.size_alloc] at x2
    have y1 := x1.below ((Below.refl _ _).alloc (Nat.le_refl _) (.cells #[.string q.name, .slice B1 q.types.length d1, .slice B2 m2 d2, .slice B3 m3 d3] 26))
    have z1 := MapL.made (P := Tryd.prog) (k := 40) (ok := okRl) (kl := klRl) ((w.alloc (.cells #[.string p.name, .slice A1 p.types.length c1, .slice A2 n2 c2, .slice A3 n3 c3] 26)).alloc (.cells #[.string q.name, .slice B1 q.types.length d1, .slice B2 m2 d2, .slice B3 m3 d3] 26))
    have z2 := MapL.made (P := Tryd.prog) (k := 42) (ok := okQm) (kl := klQm) (((w.alloc (.cells #[.string p.name, .slice A1 p.types.length c1, .slice A2 n2 c2, .slice A3 n3 c3] 26)).alloc (.cells #[.string q.name, .slice B1 q.types.length d1, .slice B2 m2 d2, .slice B3 m3 d3] 26)).alloc (.map #[] 0))
    simp only [World.size_alloc] at z1 z2
    have gb := ((Below.refl ((w.alloc (.cells #[.string p.name, .slice A1 p.types.length c1, .slice A2 n2 c2, .slice A3 n3 c3] 26)).alloc (.cells #[.string q.name, .slice B1 q.types.length d1, .slice B2 m2 d2, .slice B3 m3 d3] 26)).heap.size ((w.alloc (.cells #[.string p.name, .slice A1 p.types.length c1, .slice A2 n2 c2, .slice A3 n3 c3] 26)).alloc (.cells #[.string q.name, .slice B1 q.types.length d1, .slice B2 m2 d2, .slice B3 m3 d3] 26))).alloc (Nat.le_refl _) (.map #[] 0)).alloc (by simp) (.map #[] 0)
    exact ⟨rfl, ((((Below.refl _ _).alloc (Nat.le_refl _) _).alloc (by simp) _).alloc (by simp; omega) _).alloc (by simp; omega) _, y1.below gb, x2.below gb, z1.alloc _, z2⟩
  go_enter Tryd.func22, Tryd.ntmps22
  go_wp2
  obtain ⟨p0, hp0⟩ : ∃ p0, p0 = w.heap.size := ⟨_, rfl⟩
  have HS := Lib.hid (HST.out p0 hp0)
  rw [← hp0]
  clear HST hp0 hmm
  generalize ((((w.alloc (.cells #[.string p.name, .slice A1 p.types.length c1, .slice A2 n2 c2, .slice A3 n3 c3] 26)).alloc (.cells #[.string q.name, .slice B1 q.types.length d1, .slice B2 m2 d2, .slice B3 m3 d3] 26)).alloc (.map #[] 0)).alloc (.map #[] 0)) = w0 at *
  go_loopg [20] m2 (fun gg ts wr => ∃ k : Nat, k ≤ m2 ∧ m2 - k ≤ gg ∧ ts = .int .i64 (k : Nat) ∧ Hid (InSt w wr p0 (.string p.name) (.slice A1 p.types.length c1) (.slice A2 n2 c2) (.slice A3 n3 c3) (.string q.name) (.slice B1 q.types.length d1) (.slice B2 m2 d2) (.slice B3 m3 d3) (setM (q.rules.take k)) (setM [])))
  case atStart => exact ⟨0, Nat.zero_le _, by omega, by simp, HS⟩
  case round =>
    clear HS
    obtain ⟨k, hk, hg, rfl, HS⟩ := hrel
    by_cases hlt : k < m2
    · have hltz : (k : Int) < (m2 : Int) := by omega
      have hk0 : (0 : Int) ≤ (k : Int) := by omega
      have hkl : k < q.rules.length := by rw [HM2.out]; exact hlt
      obtain ⟨b, o, eA, hbb, hc⟩ := HB2.out.at HS.out.bel k hkl
      subst eA
      have hok := OK3.out _ (get_mem! q.rules k hkl)
      have htk := take_snoc! q.rules k hkl
      clear hkl
      generalize q.rules[k]! = x at *
      obtain ⟨x1, x2, x3⟩ := x
      have ha : Below wr.heap.size wr (wr.alloc (.cells #[.int .i64 x1, .int .i64 x2, .int .i64 x3] 40)) := (Below.refl _ _).alloc (Nat.le_refl _) _
      obtain ⟨w5, hrun, hM, hgr, _⟩ := (HS.out.grow ha).m1.update keyed_Rl Tryd.underlying62 (Nat.lt_of_le_of_lt (Nat.le_trans (setM_length _) (List.length_take_le _ _)) (by unfold maxLen; omega)) (⟨x1, x2, x3⟩ : Rl) hok (.bool true)
      rw [← setM_snoc, ← htk] at hM
      have HNEW := Lib.hid ((HS.out.grow ha).upd1 hgr hM)
      simp only [avRl] at hrun
      have c0 := hc 0 _ rfl; have c1' := hc 1 _ rfl; have c2' := hc 2 _ rfl
      try have c3' := hc 3 _ rfl
      try have c4' := hc 4 _ rfl
      simp only [Nat.add_zero] at c0
      clear hc hM hgr htk hok ha HS
      go_wp2
      go_roundg (m2 - (k + 1))
      case measure => omega
      case rel => exact ⟨k + 1, by omega, by omega, by go_num, HNEW⟩
    · obtain rfl : m2 = k := by omega
      have hltz : ¬ (m2 : Int) < (m2 : Int) := by omega
      rw [List.take_of_length_le (by rw [HM2.out]; exact Nat.le_refl _)] at HS
      have e3 := HS.out.b2.c3
      clear hlt hk hg
      go_wp2
      clear e3 hltz
      go_loopg [30] m3 (fun gg ts wr => ∃ k : Nat, k ≤ m3 ∧ m3 - k ≤ gg ∧ ts = .int .i64 (k : Nat) ∧ Hid (InSt w wr p0 (.string p.name) (.slice A1 p.types.length c1) (.slice A2 n2 c2) (.slice A3 n3 c3) (.string q.name) (.slice B1 q.types.length d1) (.slice B2 m2 d2) (.slice B3 m3 d3) (setM q.rules) (setM (q.quorums.take k))))
      case atStart => exact ⟨0, Nat.zero_le _, by omega, by simp, HS⟩
      case round =>
        clear HS
        obtain ⟨k, hk, hg, rfl, HS⟩ := hrel
        by_cases hlt : k < m3
        · have hltz : (k : Int) < (m3 : Int) := by omega
          have hk0 : (0 : Int) ≤ (k : Int) := by omega
          have hkl : k < q.quorums.length := by rw [HM3.out]; exact hlt
          obtain ⟨b, o, eA, hbb, hc⟩ := HB3.out.at HS.out.bel k hkl
          subst eA
          have hok := OK4.out _ (get_mem! q.quorums k hkl)
          have htk := take_snoc! q.quorums k hkl
          clear hkl
          generalize q.quorums[k]! = x at *
          obtain ⟨x1, x2, x3, x4, x5⟩ := x
          have ha : Below wr.heap.size wr (wr.alloc (.cells #[.int .i64 x1, .int .i64 x2, .int .i64 x3, .int .i64 x4, .int .i64 x5] 42)) := (Below.refl _ _).alloc (Nat.le_refl _) _
          obtain ⟨w5, hrun, hM, hgr, _⟩ := (HS.out.grow ha).m2.update keyed_Qm Tryd.underlying63 (Nat.lt_of_le_of_lt (Nat.le_trans (setM_length _) (List.length_take_le _ _)) (by unfold maxLen; omega)) (⟨x1, x2, x3, x4, x5⟩ : Qm) hok (.bool true)
          rw [← setM_snoc, ← htk] at hM
          have HNEW := Lib.hid ((HS.out.grow ha).upd2 hgr hM)
          simp only [avQm] at hrun
          have c0 := hc 0 _ rfl; have c1' := hc 1 _ rfl; have c2' := hc 2 _ rfl
          try have c3' := hc 3 _ rfl
          try have c4' := hc 4 _ rfl
          simp only [Nat.add_zero] at c0
          clear hc hM hgr htk hok ha HS
          go_wp2
          go_roundg (m3 - (k + 1))
          case measure => omega
          case rel => exact ⟨k + 1, by omega, by omega, by go_num, HNEW⟩
        · obtain rfl : m3 = k := by omega
          have hltz : ¬ (m3 : Int) < (m3 : Int) := by omega
          rw [List.take_of_length_le (by rw [HM3.out]; exact Nat.le_refl _)] at HS
          have e2 := HS.out.b1.c2
          clear hlt hk hg
          go_wp2
          clear e2 hltz
          go_loopg [40] n2 (fun gg ts wr => ∃ k : Nat, k ≤ n2 ∧ n2 - k ≤ gg ∧ ts = .int .i64 (k : Nat) ∧ Hid (∀ x ∈ p.rules.take k, x ∈ q.rules) ∧ Hid (InSt w wr p0 (.string p.name) (.slice A1 p.types.length c1) (.slice A2 n2 c2) (.slice A3 n3 c3) (.string q.name) (.slice B1 q.types.length d1) (.slice B2 m2 d2) (.slice B3 m3 d3) (setM q.rules) (setM q.quorums)))
          case atStart => exact ⟨0, Nat.zero_le _, by omega, by simp, fun x hx => (by simp at hx), HS⟩
          case round =>
            clear HS
            obtain ⟨k, hk, hg, rfl, HALL, HS⟩ := hrel
            by_cases hlt : k < n2
            · have hltz : (k : Int) < (n2 : Int) := by omega
              have hk0 : (0 : Int) ≤ (k : Int) := by omega
              have hkl : k < p.rules.length := by rw [HN2.out]; exact hlt
              obtain ⟨b, o, eA, hbb, hc⟩ := HA2.out.at HS.out.bel k hkl
              subst eA
              have hok := OK1.out _ (get_mem! p.rules k hkl)
              have hmem := get_mem! p.rules k hkl
              have htk := take_snoc! p.rules k hkl
              clear hkl
              generalize p.rules[k]! = x at *
              obtain ⟨x1, x2, x3⟩ := x
              have ha : Below wr.heap.size wr (wr.alloc (.cells #[.int .i64 x1, .int .i64 x2, .int .i64 x3] 40)) := (Below.refl _ _).alloc (Nat.le_refl _) _
              have hrun := (HS.out.grow ha).m1.look keyed_Rl Tryd.underlying62 (zero_bool _) (⟨x1, x2, x3⟩ : Rl) hok
              rw [setM_look] at hrun
              have HNEW := Lib.hid (HS.out.grow ha)
              simp only [avRl] at hrun
              have c0 := hc 0 _ rfl; have c1' := hc 1 _ rfl; have c2' := hc 2 _ rfl
              try have c3' := hc 3 _ rfl
              try have c4' := hc 4 _ rfl
              simp only [Nat.add_zero] at c0
              have HTK := Lib.hid htk
              have HMEM := Lib.hid hmem
              clear hc hok ha HS htk hmem
              obtain ⟨r, hr⟩ : ∃ r, decide ((⟨x1, x2, x3⟩ : Rl) ∈ q.rules) = r := ⟨_, rfl⟩
              rw [hr] at hrun
              have HR' := Lib.hid hr
              clear hr
              cases r with
              | true =>
                go_wp2
                go_roundg (n2 - (k + 1))
                case measure => omega
                case rel =>
                  refine ⟨k + 1, by omega, by omega, by go_num, (show Hid _ from fun x hx => ?_), HNEW⟩
                  rw [HTK.out] at hx
                  rcases List.mem_append.1 hx with h | h
                  · exact HALL.out x h
                  · rw [List.mem_singleton] at h
                    rw [h]; exact of_decide_eq_true HR'.out
              | false =>
                go_wp2
                go_ret
                refine ⟨?_, HNEW.out.bel⟩
                rw [inside_no1 q (fun h => of_decide_eq_false HR'.out (h _ HMEM.out))]
                rfl
            · obtain rfl : n2 = k := by omega
              have hltz : ¬ (n2 : Int) < (n2 : Int) := by omega
              rw [List.take_of_length_le (by rw [HN2.out]; exact Nat.le_refl _)] at HALL
              have HR1 := HALL
              have e2 := HS.out.b1.c3
              clear hlt hk hg HALL
              go_wp2
              clear e2 hltz
              go_loopg [52] n3 (fun gg ts wr => ∃ k : Nat, k ≤ n3 ∧ n3 - k ≤ gg ∧ ts = .int .i64 (k : Nat) ∧ Hid (∀ x ∈ p.quorums.take k, x ∈ q.quorums) ∧ Hid (InSt w wr p0 (.string p.name) (.slice A1 p.types.length c1) (.slice A2 n2 c2) (.slice A3 n3 c3) (.string q.name) (.slice B1 q.types.length d1) (.slice B2 m2 d2) (.slice B3 m3 d3) (setM q.rules) (setM q.quorums)))
              case atStart => exact ⟨0, Nat.zero_le _, by omega, by simp, fun x hx => (by simp at hx), HS⟩
              case round =>
                clear HS
                obtain ⟨k, hk, hg, rfl, HALL, HS⟩ := hrel
                by_cases hlt : k < n3
                · have hltz : (k : Int) < (n3 : Int) := by omega
                  have hk0 : (0 : Int) ≤ (k : Int) := by omega
                  have hkl : k < p.quorums.length := by rw [HN3.out]; exact hlt
                  obtain ⟨b, o, eA, hbb, hc⟩ := HA3.out.at HS.out.bel k hkl
                  subst eA
                  have hok := OK2.out _ (get_mem! p.quorums k hkl)
                  have hmem := get_mem! p.quorums k hkl
                  have htk := take_snoc! p.quorums k hkl
                  clear hkl
                  generalize p.quorums[k]! = x at *
                  obtain ⟨x1, x2, x3, x4, x5⟩ := x
                  have ha : Below wr.heap.size wr (wr.alloc (.cells #[.int .i64 x1, .int .i64 x2, .int .i64 x3, .int .i64 x4, .int .i64 x5] 42)) := (Below.refl _ _).alloc (Nat.le_refl _) _
                  have hrun := (HS.out.grow ha).m2.look keyed_Qm Tryd.underlying63 (zero_bool _) (⟨x1, x2, x3, x4, x5⟩ : Qm) hok
                  rw [setM_look] at hrun
                  have HNEW := Lib.hid (HS.out.grow ha)
                  simp only [avQm] at hrun
                  have c0 := hc 0 _ rfl; have c1' := hc 1 _ rfl; have c2' := hc 2 _ rfl
                  try have c3' := hc 3 _ rfl
                  try have c4' := hc 4 _ rfl
                  simp only [Nat.add_zero] at c0
                  have HTK := Lib.hid htk
                  have HMEM := Lib.hid hmem
                  clear hc hok ha HS htk hmem
                  obtain ⟨r, hr⟩ : ∃ r, decide ((⟨x1, x2, x3, x4, x5⟩ : Qm) ∈ q.quorums) = r := ⟨_, rfl⟩
                  rw [hr] at hrun
                  have HR' := Lib.hid hr
                  clear hr
                  cases r with
                  | true =>
                    go_wp2
                    go_roundg (n3 - (k + 1))
                    case measure => omega
                    case rel =>
                      refine ⟨k + 1, by omega, by omega, by go_num, (show Hid _ from fun x hx => ?_), HNEW⟩
                      rw [HTK.out] at hx
                      rcases List.mem_append.1 hx with h | h
                      · exact HALL.out x h
                      · rw [List.mem_singleton] at h
                        rw [h]; exact of_decide_eq_true HR'.out
                  | false =>
                    go_wp2
                    go_ret
                    refine ⟨?_, HNEW.out.bel⟩
                    rw [inside_no2 q (fun h => of_decide_eq_false HR'.out (h _ HMEM.out))]
                    rfl
                · obtain rfl : n3 = k := by omega
                  have hltz : ¬ (n3 : Int) < (n3 : Int) := by omega
                  rw [List.take_of_length_le (by rw [HN3.out]; exact Nat.le_refl _)] at HALL
                  clear hlt hk hg
                  go_wp2
                  go_ret
                  exact ⟨by rw [inside_yes q HR1.out HALL.out]; rfl, HS.out.bel⟩
end Go.Proofs.YtemkffejekgmfaaDoor
