/- The reference of layer 13: isType, isRule, isQuorum. -/
import Derived.Test.YtemkffejekgmfaaDoorR1
namespace Go.Proofs.YtemkffejekgmfaaDoor
open Go.RowKit Go.Shelf Go.Lib

set_option maxRecDepth 100000 in
set_option maxHeartbeats 4000000 in
theorem refIsType_any (A : Option Addr) (c : Nat) (l : List Ty) (k : Nat) (w : World) (hk : k < l.length) (hc : l.length ≤ c) (hx : RS encTy 3 w A l) (hn : ∀ t ∈ l, t.name.size ≤ 140737488355328) :
    Calls Tryd.prog 27 #[.slice A l.length c, .int .i64 k] w fun e w' => e = .returned (.int .i64 (typeErr l k)) ∧ Below w.heap.size w w' := by
  have hl := hx.1
  obtain ⟨b, off, rfl, hb, hcell⟩ := hx.at (Below.refl _ w) k hk
  have hall : ∀ j, j < l.length → w.cell? ⟨b, off + j * 3, none⟩ = some (.string l[j]!.name) := fun j hj => by
    obtain ⟨b', off', he, _, hc'⟩ := hx.at (Below.refl _ w) j hj
    cases he
    have := hc' 0 _ rfl
    simpa using this
  have hnk : l[k]!.name.size ≤ 140737488355328 := by
    rw [getElem!_pos l k hk]; exact hn _ (List.getElem_mem hk)
  have cN := fun W => refName_any l[k]!.name W hnk
  have cW1 := fun W => within_any l[k]!.flags 0 127 W _ rfl
  have cW2 := fun W => within_any l[k]!.life 0 1099511627776 W _ rfl
  unfold typeErr
  simp only [List.any_cons, List.any_nil, Bool.or_false]
  have hdt : ∀ j, j < k → decide (l[j]!.name = l[k]!.name) = true → (l.take k).any (fun o => decide (o.name = l[k]!.name)) = true := fun j hj h => any_take_true (by omega) hj h
  have hdf : (∀ j, j < k → decide (l[j]!.name = l[k]!.name) = false) → (l.take k).any (fun o => decide (o.name = l[k]!.name)) = false := fun h => any_take_false (by omega) h
  clear hx hn
  generalize ht : l[k]! = t at *
  clear ht
  generalize nameB t.name = nm at *
  generalize (l.take k).any _ = dup at *
  generalize wrongB ⟨t.flags, 0, 127⟩ = wr1 at *
  generalize wrongB ⟨t.life, 0, 1099511627776⟩ = wr2 at *
  have d0 := hcell 0 _ rfl
  have d1 := hcell 1 _ rfl
  have d2 := hcell 2 _ rfl
  simp only [Nat.add_zero] at d0
  clear hcell hnk
  generalize hln : l.length = n at *
  have hkn : (k : Int) < (n : Int) := by omega
  have hk0 : (0 : Int) ≤ (k : Int) := by omega
  have HALL := Lib.hid hall
  have HDT := Lib.hid hdt
  have HDF := Lib.hid hdf
  clear hln hall hdt hdf
  by_cases h1 : 32 ≤ k
  · have h1' : (32 : Int) ≤ (k : Int) := by omega
    go_enter Tryd.func27, Tryd.ntmps27
    go_wp2
    go_ret
    exact ⟨by simp [errP, h1], Below.refl _ _⟩
  · have h1' : ¬ (32 : Int) ≤ (k : Int) := by omega
    cases nm with
    | false =>
      go_enter Tryd.func27, Tryd.ntmps27
      go_wp2_with (go_at_call 16; refine (cN _).mono ?_; rintro e w1 ⟨rfl, rfl⟩)
      go_ret
      exact ⟨by simp [errP, h1], Below.refl _ _⟩
    | true =>
      go_enter Tryd.func27, Tryd.ntmps27
      go_wp2_with (go_at_call 16; refine (cN _).mono ?_; rintro e w1 ⟨rfl, rfl⟩)
      go_loopg [6] k (fun gg s6 wr => ∃ kk : Nat, kk ≤ k ∧ k - kk ≤ gg ∧ s6 = .int .i64 kk ∧ Hid (Below w.heap.size w wr) ∧ Hid (∀ j, j < kk → decide (l[j]!.name = t.name) = false))
      case atStart => exact ⟨0, Nat.zero_le _, by omega, rfl, Below.refl _ _, fun j hj => absurd hj (Nat.not_lt_zero _)⟩
      case round =>
        obtain ⟨kk, hkk, hg, rfl, BW, HA⟩ := hrel
        have f0 := (BW.out.cell (p := ⟨b, off + k * 3, none⟩) hb).trans d0
        have f1 := (BW.out.cell (p := ⟨b, off + k * 3 + 1, none⟩) hb).trans d1
        have f2 := (BW.out.cell (p := ⟨b, off + k * 3 + 2, none⟩) hb).trans d2
        clear d0 d1 d2
        by_cases hlt : kk < k
        · have hltz : (kk : Int) < (k : Int) := by omega
          have hkz : (0 : Int) ≤ (kk : Int) := by omega
          have hkn2 : (kk : Int) < (n : Int) := by omega
          have g0 := (BW.out.cell (p := ⟨b, off + kk * 3, none⟩) hb).trans (HALL.out kk (by omega))
          generalize hy : l[kk]!.name = y at g0
          have HY := Lib.hid hy
          clear hy
          have e : decide (y = t.name) = (y.toList == t.name.toList) := by rw [Bool.eq_iff_iff]; simp [bytes_toList_inj]
          by_cases hq : y = t.name
          · have hqb : (y.toList == t.name.toList) = true := by rw [← e]; simpa using hq
            have hd : dup = true := HDT.out kk hlt (by rw [HY.out]; simpa using hq)
            subst hd
            clear e hq
            go_wp2_with fail
            go_quiet (fail)
            go_wp2
            go_ret
            exact ⟨by simp [errP, h1], below_drewN BW.out _⟩
          · have hqb : (y.toList == t.name.toList) = false := by rw [← e]; simpa using hq
            have HQ := Lib.hid hq
            clear e hq
            go_wp2_with fail
            go_quiet (fail)
            go_wp2
            go_roundg (k - (kk + 1))
            case measure => omega
            case rel =>
              refine ⟨kk + 1, by omega, by omega, by go_num, below_drewN BW.out _, (show Hid _ from fun j hj => ?_)⟩
              by_cases e : j = kk
              · subst e; rw [HY.out]; exact decide_eq_false HQ.out
              · exact HA.out j (by omega)
        · have hltz : ¬ (kk : Int) < (k : Int) := by omega
          have hd : dup = false := HDF.out (fun j hj => HA.out j (by omega))
          subst hd
          have CW1 := Lib.hid cW1
          have CW2 := Lib.hid cW2
          clear cW1 cW2 cN
          cases wr1 with
          | true =>
            go_wp2_with fail
            refine (CW1.out _).mono ?_
            rintro e w1 ⟨rfl, rfl⟩
            go_wp2
            go_ret
            exact ⟨by simp [errP, h1], BW.out⟩
          | false =>
            cases wr2 with
            | true =>
              go_wp2_with fail
              refine (CW1.out _).mono ?_
              rintro e w1 ⟨rfl, rfl⟩
              go_wp2_with fail
              refine (CW2.out _).mono ?_
              rintro e w1 ⟨rfl, rfl⟩
              go_wp2
              go_ret
              exact ⟨by simp [errP, h1], BW.out⟩
            | false =>
              go_wp2_with fail
              refine (CW1.out _).mono ?_
              rintro e w1 ⟨rfl, rfl⟩
              go_wp2_with fail
              refine (CW2.out _).mono ?_
              rintro e w1 ⟨rfl, rfl⟩
              go_wp2
              go_ret
              exact ⟨by simp [errP, h1], BW.out⟩

theorem mem_take_true {α : Type} [Inhabited α] {x : α} {l : List α} {k j : Nat} (hk : k ≤ l.length) (hj : j < k) (h : l[j]! = x) : x ∈ l.take k := by
  rw [List.mem_take_iff_getElem]
  exact ⟨j, by omega, by rw [← h, getElem!_pos l j (by omega)]⟩
theorem mem_take_false {α : Type} [Inhabited α] {x : α} {l : List α} {k : Nat} (hk : k ≤ l.length) (h : ∀ j, j < k → ¬ l[j]! = x) : ¬ x ∈ l.take k := by
  intro hm
  rw [List.mem_take_iff_getElem] at hm
  obtain ⟨j, hj, he⟩ := hm
  exact h j (by omega) (by rw [getElem!_pos l j (by omega)]; exact he)

set_option maxRecDepth 100000 in
set_option maxHeartbeats 4000000 in
theorem refIsRule_any (A : Option Addr) (c : Nat) (l : List Rl) (k : Nat) (types : Int) (w : World) (hk : k < l.length) (hx : RS encRl 3 w A l) (ht0 : 0 ≤ types) (ht1 : types ≤ 140737488355328) :
    Calls Tryd.prog 28 #[.slice A l.length c, .int .i64 k, .int .i64 types] w fun e w' => e = .returned (.int .i64 (ruleErr l k types)) ∧ Below w.heap.size w w' := by
  have hl := hx.1
  obtain ⟨b, off, rfl, hb, hcell⟩ := hx.at (Below.refl _ w) k hk
  have hall : ∀ j, j < l.length → w.cell? ⟨b, off + j * 3, none⟩ = some (.int .i64 l[j]!.kind) ∧ w.cell? ⟨b, off + j * 3 + 1, none⟩ = some (.int .i64 l[j]!.a) ∧ w.cell? ⟨b, off + j * 3 + 2, none⟩ = some (.int .i64 l[j]!.b) := fun j hj => by
    obtain ⟨b', off', he, _, hc'⟩ := hx.at (Below.refl _ w) j hj
    cases he
    exact ⟨by simpa using hc' 0 _ rfl, hc' 1 _ rfl, hc' 2 _ rfl⟩
  have cW1 := fun W => within_any l[k]!.kind 1 5 W _ rfl
  have cW2 := fun W => within_any l[k]!.a 0 (types - 1) W _ rfl
  have cW3 := fun W => within_any l[k]!.b 0 (types - 1) W _ rfl
  unfold ruleErr
  simp only [List.any_cons, List.any_nil, Bool.or_false]
  have hdt : ∀ j, j < k → l[j]! = l[k]! → decide (l[k]! ∈ l.take k) = true := fun j hj h => decide_eq_true (mem_take_true (by omega) hj h)
  have hdf : (∀ j, j < k → ¬ l[j]! = l[k]!) → decide (l[k]! ∈ l.take k) = false := fun h => decide_eq_false (mem_take_false (by omega) h)
  clear hx
  generalize ht : l[k]! = t at *
  clear ht
  generalize decide (t ∈ l.take k) = dup at *
  generalize wrongB ⟨t.kind, 1, 5⟩ = wr1 at *
  generalize wrongB ⟨t.a, 0, types - 1⟩ = wr2 at *
  generalize wrongB ⟨t.b, 0, types - 1⟩ = wr3 at *
  have d0 := hcell 0 _ rfl
  have d1 := hcell 1 _ rfl
  have d2 := hcell 2 _ rfl
  simp only [Nat.add_zero] at d0
  clear hcell
  generalize hln : l.length = n at *
  have hkn : (k : Int) < (n : Int) := by omega
  have hk0 : (0 : Int) ≤ (k : Int) := by omega
  have HALL := Lib.hid hall
  have HDT := Lib.hid hdt
  have HDF := Lib.hid hdf
  clear hln hall hdt hdf
  by_cases h1 : 256 ≤ k
  · have h1' : (256 : Int) ≤ (k : Int) := by omega
    go_enter Tryd.func28, Tryd.ntmps28
    go_wp2
    go_ret
    exact ⟨by simp [errR, h1], Below.refl _ _⟩
  · have h1' : ¬ (256 : Int) ≤ (k : Int) := by omega
    have CW1 := Lib.hid cW1
    have CW2 := Lib.hid cW2
    have CW3 := Lib.hid cW3
    clear cW1 cW2 cW3
    cases wr1 with
    | true =>
      go_enter Tryd.func28, Tryd.ntmps28
      go_wp2_with fail
      refine (CW1.out _).mono ?_
      rintro e w1 ⟨rfl, rfl⟩
      go_wp2
      go_ret
      exact ⟨by simp [errR, h1], Below.refl _ _⟩
    | false =>
      cases wr2 with
      | true =>
        go_enter Tryd.func28, Tryd.ntmps28
        go_wp2_with fail
        refine (CW1.out _).mono ?_
        rintro e w1 ⟨rfl, rfl⟩
        go_wp2_with fail
        refine (CW2.out _).mono ?_
        rintro e w1 ⟨rfl, rfl⟩
        go_wp2
        go_ret
        exact ⟨by simp [errR, h1], Below.refl _ _⟩
      | false =>
        cases wr3 with
        | true =>
          go_enter Tryd.func28, Tryd.ntmps28
          go_wp2_with fail
          refine (CW1.out _).mono ?_
          rintro e w1 ⟨rfl, rfl⟩
          go_wp2_with fail
          refine (CW2.out _).mono ?_
          rintro e w1 ⟨rfl, rfl⟩
          go_wp2_with fail
          refine (CW3.out _).mono ?_
          rintro e w1 ⟨rfl, rfl⟩
          go_wp2
          go_ret
          exact ⟨by simp [errR, h1], Below.refl _ _⟩
        | false =>
          go_enter Tryd.func28, Tryd.ntmps28
          go_wp2_with fail
          refine (CW1.out _).mono ?_
          rintro e w1 ⟨rfl, rfl⟩
          go_wp2_with fail
          refine (CW2.out _).mono ?_
          rintro e w1 ⟨rfl, rfl⟩
          go_wp2_with fail
          refine (CW3.out _).mono ?_
          rintro e w1 ⟨rfl, rfl⟩
          go_wp2
          go_loopg [7] k (fun gg s6 wr => ∃ kk : Nat, kk ≤ k ∧ k - kk ≤ gg ∧ s6 = .int .i64 kk ∧ Hid (Below w.heap.size w wr) ∧ Hid (∀ j, j < kk → ¬ l[j]! = t))
          case atStart => exact ⟨0, Nat.zero_le _, by omega, rfl, Below.refl _ _, fun j hj => absurd hj (Nat.not_lt_zero _)⟩
          case round =>
            obtain ⟨kk, hkk, hg, rfl, BW, HA⟩ := hrel
            have f0 := (BW.out.cell (p := ⟨b, off + k * 3, none⟩) hb).trans d0
            have f1 := (BW.out.cell (p := ⟨b, off + k * 3 + 1, none⟩) hb).trans d1
            have f2 := (BW.out.cell (p := ⟨b, off + k * 3 + 2, none⟩) hb).trans d2
            clear d0 d1 d2
            by_cases hlt : kk < k
            · have hltz : (kk : Int) < (k : Int) := by omega
              have hkz : (0 : Int) ≤ (kk : Int) := by omega
              have hkn2 : (kk : Int) < (n : Int) := by omega
              obtain ⟨a0, a1, a2⟩ := HALL.out kk (by omega)
              have g0 := (BW.out.cell (p := ⟨b, off + kk * 3, none⟩) hb).trans a0
              have g1 := (BW.out.cell (p := ⟨b, off + kk * 3 + 1, none⟩) hb).trans a1
              have g2 := (BW.out.cell (p := ⟨b, off + kk * 3 + 2, none⟩) hb).trans a2
              clear a0 a1 a2
              generalize hy : l[kk]! = y at g0 g1 g2
              have HY := Lib.hid hy
              clear hy
              have hneq := eql_Rl y t
              have hgd := guard_Rl .eql
              simp only [avRl] at hneq hgd
              by_cases hq : y = t
              · have hd : dup = true := HDT.out kk hlt (by rw [HY.out]; exact hq)
                subst hd
                rw [decide_eq_true hq] at hneq
                clear hq
                go_wp2_with fail
                go_quiet (fail)
                go_wp2
                go_ret
                exact ⟨by simp [errR, h1], below_drewN BW.out _⟩
              · have HQ := Lib.hid hq
                rw [decide_eq_false hq] at hneq
                clear hq
                go_wp2_with fail
                go_quiet (fail)
                go_wp2
                go_roundg (k - (kk + 1))
                case measure => omega
                case rel =>
                  refine ⟨kk + 1, by omega, by omega, by go_num, below_drewN BW.out _, (show Hid _ from fun j hj => ?_)⟩
                  by_cases e : j = kk
                  · subst e; rw [HY.out]; exact HQ.out
                  · exact HA.out j (by omega)
            · have hltz : ¬ (kk : Int) < (k : Int) := by omega
              have hd : dup = false := HDF.out (fun j hj => HA.out j (by omega))
              subst hd
              go_wp2
              go_ret
              exact ⟨by simp [errR, h1], BW.out⟩

set_option maxRecDepth 100000 in
set_option maxHeartbeats 4000000 in
theorem refIsQuorum_any (A : Option Addr) (c : Nat) (l : List Qm) (k : Nat) (w : World) (hk : k < l.length) (hx : RS encQm 5 w A l) :
    Calls Tryd.prog 29 #[.slice A l.length c, .int .i64 k] w fun e w' => e = .returned (.int .i64 (quorumErr l k)) ∧ Below w.heap.size w w' := by
  have hl := hx.1
  obtain ⟨b, off, rfl, hb, hcell⟩ := hx.at (Below.refl _ w) k hk
  have hall : ∀ j, j < l.length → w.cell? ⟨b, off + j * 5, none⟩ = some (.int .i64 l[j]!.cmd) := fun j hj => by
    obtain ⟨b', off', he, _, hc'⟩ := hx.at (Below.refl _ w) j hj
    cases he
    simpa using hc' 0 _ rfl
  have cW1 := fun W => within_any l[k]!.cmd 1 27 W _ rfl
  have cW2 := fun W => within_any l[k]!.cnt 1 16 W _ rfl
  have cW3 := fun W => within_any l[k]!.delay 0 1099511627776 W _ rfl
  have cW4 := fun W => within_any l[k]!.valid l[k]!.delay 1099511627776 W _ rfl
  have cW5 := fun W => within_any l[k]!.uses 1 1048576 W _ rfl
  have cW6 := fun W => within_any l[k]!.cmd 23 25 W _ rfl
  have how : decide (l[k]!.cmd ∈ ([23, 24, 25] : List Int)) = !wrongB ⟨l[k]!.cmd, 23, 25⟩ := by
    unfold wrongB
    rw [Bool.eq_iff_iff]
    simp
    omega
  unfold quorumErr
  rw [how]
  simp only [List.any_cons, List.any_nil, Bool.or_false]
  have hdt : ∀ j, j < k → decide (l[j]!.cmd = l[k]!.cmd) = true → (l.take k).any (fun o => decide (o.cmd = l[k]!.cmd)) = true := fun j hj h => any_take_true (by omega) hj h
  have hdf : (∀ j, j < k → decide (l[j]!.cmd = l[k]!.cmd) = false) → (l.take k).any (fun o => decide (o.cmd = l[k]!.cmd)) = false := fun h => any_take_false (by omega) h
  clear hx how
  generalize ht : l[k]! = t at *
  clear ht
  generalize (l.take k).any _ = dup at *
  generalize wrongB ⟨t.cmd, 1, 27⟩ = wr1 at *
  generalize wrongB ⟨t.cnt, 1, 16⟩ = wr2 at *
  generalize wrongB ⟨t.delay, 0, 1099511627776⟩ = wr3 at *
  generalize wrongB ⟨t.valid, t.delay, 1099511627776⟩ = wr4 at *
  generalize wrongB ⟨t.uses, 1, 1048576⟩ = wr5 at *
  generalize wrongB ⟨t.cmd, 23, 25⟩ = ow at *
  have d0 := hcell 0 _ rfl
  have d1 := hcell 1 _ rfl
  have d2 := hcell 2 _ rfl
  have d3 := hcell 3 _ rfl
  have d4 := hcell 4 _ rfl
  simp only [Nat.add_zero] at d0
  clear hcell
  generalize hln : l.length = n at *
  have hkn : (k : Int) < (n : Int) := by omega
  have hk0 : (0 : Int) ≤ (k : Int) := by omega
  have HALL := Lib.hid hall
  have HDT := Lib.hid hdt
  have HDF := Lib.hid hdf
  have CW1 := Lib.hid cW1
  have CW2 := Lib.hid cW2
  have CW3 := Lib.hid cW3
  have CW4 := Lib.hid cW4
  have CW5 := Lib.hid cW5
  have CW6 := Lib.hid cW6
  clear hln hall hdt hdf cW1 cW2 cW3 cW4 cW5 cW6
  have hA : Below w.heap.size w (w.alloc (.cells #[.int .i64 t.cmd, .int .i64 t.cnt, .int .i64 t.delay, .int .i64 t.valid, .int .i64 t.uses] 42)) := (Below.refl _ _).alloc (Nat.le_refl _) _
  cases wr1 with
  | true =>
    go_enter Tryd.func29, Tryd.ntmps29
    go_wp2_with fail
    refine (CW1.out _).mono ?_
    rintro e w1 ⟨rfl, rfl⟩
    go_wp2
    go_ret
    exact ⟨by simp [errQ], hA⟩
  | false =>
    cases wr2 with
    | true =>
      go_enter Tryd.func29, Tryd.ntmps29
      go_wp2_with fail
      refine (CW1.out _).mono ?_
      rintro e w1 ⟨rfl, rfl⟩
      go_wp2_with fail
      refine (CW2.out _).mono ?_
      rintro e w1 ⟨rfl, rfl⟩
      go_wp2
      go_ret
      exact ⟨by simp [errQ], hA⟩
    | false =>
      cases wr3 with
      | true =>
        go_enter Tryd.func29, Tryd.ntmps29
        go_wp2_with fail
        refine (CW1.out _).mono ?_
        rintro e w1 ⟨rfl, rfl⟩
        go_wp2_with fail
        refine (CW2.out _).mono ?_
        rintro e w1 ⟨rfl, rfl⟩
        go_wp2_with fail
        refine (CW3.out _).mono ?_
        rintro e w1 ⟨rfl, rfl⟩
        go_wp2
        go_ret
        exact ⟨by simp [errQ], hA⟩
      | false =>
        cases wr4 with
        | true =>
          go_enter Tryd.func29, Tryd.ntmps29
          go_wp2_with fail
          refine (CW1.out _).mono ?_
          rintro e w1 ⟨rfl, rfl⟩
          go_wp2_with fail
          refine (CW2.out _).mono ?_
          rintro e w1 ⟨rfl, rfl⟩
          go_wp2_with fail
          refine (CW3.out _).mono ?_
          rintro e w1 ⟨rfl, rfl⟩
          go_wp2_with fail
          refine (CW4.out _).mono ?_
          rintro e w1 ⟨rfl, rfl⟩
          go_wp2
          go_ret
          exact ⟨by simp [errQ], hA⟩
        | false =>
          cases wr5 with
          | true =>
            go_enter Tryd.func29, Tryd.ntmps29
            go_wp2_with fail
            refine (CW1.out _).mono ?_
            rintro e w1 ⟨rfl, rfl⟩
            go_wp2_with fail
            refine (CW2.out _).mono ?_
            rintro e w1 ⟨rfl, rfl⟩
            go_wp2_with fail
            refine (CW3.out _).mono ?_
            rintro e w1 ⟨rfl, rfl⟩
            go_wp2_with fail
            refine (CW4.out _).mono ?_
            rintro e w1 ⟨rfl, rfl⟩
            go_wp2_with fail
            refine (CW5.out _).mono ?_
            rintro e w1 ⟨rfl, rfl⟩
            go_wp2
            go_ret
            exact ⟨by simp [errQ], hA⟩
          | false =>
            go_enter Tryd.func29, Tryd.ntmps29
            go_wp2_with fail
            refine (CW1.out _).mono ?_
            rintro e w1 ⟨rfl, rfl⟩
            go_wp2_with fail
            refine (CW2.out _).mono ?_
            rintro e w1 ⟨rfl, rfl⟩
            go_wp2_with fail
            refine (CW3.out _).mono ?_
            rintro e w1 ⟨rfl, rfl⟩
            go_wp2_with fail
            refine (CW4.out _).mono ?_
            rintro e w1 ⟨rfl, rfl⟩
            go_wp2_with fail
            refine (CW5.out _).mono ?_
            rintro e w1 ⟨rfl, rfl⟩
            go_wp2_with fail
            refine (CW6.out _).mono ?_
            rintro e w1 ⟨rfl, rfl⟩
            cases ow with
            | false =>
              go_wp2
              go_ret
              exact ⟨by simp [errQ], hA⟩
            | true =>
              have m0 : (w.alloc (.cells #[.int .i64 t.cmd, .int .i64 t.cnt, .int .i64 t.delay, .int .i64 t.valid, .int .i64 t.uses] 42)).cell? ⟨w.heap.size, 0, none⟩ = some (.int .i64 t.cmd) := by simp [go_sem]
              have hsz : w.heap.size < (w.alloc (.cells #[.int .i64 t.cmd, .int .i64 t.cnt, .int .i64 t.delay, .int .i64 t.valid, .int .i64 t.uses] 42)).heap.size := by simp
              generalize w.alloc (.cells #[.int .i64 t.cmd, .int .i64 t.cnt, .int .i64 t.delay, .int .i64 t.valid, .int .i64 t.uses] 42) = W1 at *
              go_wp2
              go_loopg [6] k (fun gg s6 wr => ∃ kk : Nat, kk ≤ k ∧ k - kk ≤ gg ∧ s6 = .int .i64 kk ∧ Hid (Below W1.heap.size W1 wr) ∧ Hid (∀ j, j < kk → decide (l[j]!.cmd = t.cmd) = false))
              case atStart => exact ⟨0, Nat.zero_le _, by omega, rfl, Below.refl _ _, fun j hj => absurd hj (Nat.not_lt_zero _)⟩
              case round =>
                obtain ⟨kk, hkk, hg, rfl, BW, HA⟩ := hrel
                have hBr : Below w.heap.size w wr := hA.trans (BW.out.mono (by omega))
                have f0 := (BW.out.cell (p := ⟨w.heap.size, 0, none⟩) hsz).trans m0
                clear m0
                by_cases hlt : kk < k
                · have hltz : (kk : Int) < (k : Int) := by omega
                  have hkz : (0 : Int) ≤ (kk : Int) := by omega
                  have hkn2 : (kk : Int) < (n : Int) := by omega
                  have g0 := (hBr.cell (p := ⟨b, off + kk * 5, none⟩) hb).trans (HALL.out kk (by omega))
                  generalize hy : l[kk]!.cmd = y at g0
                  have HY := Lib.hid hy
                  clear hy
                  by_cases hq : y = t.cmd
                  · have hd : dup = true := HDT.out kk hlt (by rw [HY.out]; simpa using hq)
                    subst hd
                    have hqb : (y == t.cmd) = true := by simpa using hq
                    clear hq
                    go_wp2_with fail
                    go_quiet (fail)
                    go_wp2
                    go_ret
                    exact ⟨by simp [errQ], below_drewN hBr _⟩
                  · have HQ := Lib.hid hq
                    have hqb : (y == t.cmd) = false := by simpa using hq
                    clear hq
                    go_wp2_with fail
                    go_quiet (fail)
                    go_wp2
                    go_roundg (k - (kk + 1))
                    case measure => omega
                    case rel =>
                      refine ⟨kk + 1, by omega, by omega, by go_num, below_drewN BW.out _, (show Hid _ from fun j hj => ?_)⟩
                      by_cases e : j = kk
                      · subst e; rw [HY.out]; exact decide_eq_false HQ.out
                      · exact HA.out j (by omega)
                · have hltz : ¬ (kk : Int) < (k : Int) := by omega
                  have hd : dup = false := HDF.out (fun j hj => HA.out j (by omega))
                  subst hd
                  go_wp2
                  go_ret
                  exact ⟨by simp [errQ], hBr⟩
end Go.Proofs.YtemkffejekgmfaaDoor
