/- The reference's Normal. -/
import Derived.Test.YtemkffejekgmfaaDoorK9
namespace Go.Proofs.YtemkffejekgmfaaDoor
open Go.RowKit Go.Shelf Go.Lib

theorem RS.drop {α : Type} [Inhabited α] {enc : α → List Value} {k : Nat} {w : World} {b off : Nat} {xs : List α} (h : RS enc k w (some ⟨b, off, none⟩) xs) (m : Nat) : RS enc k w (some ⟨b, off + m * k, none⟩) (xs.drop m) := by
  refine ⟨by have := h.1; rw [List.length_drop]; omega, fun h0 => ?_⟩
  rw [List.length_drop] at h0
  obtain ⟨b', off', e, hb, hr⟩ := h.2 (by omega)
  cases e
  refine ⟨b, off + m * k, rfl, hb, fun j hj i u hu => ?_⟩
  rw [List.length_drop] at hj
  rw [getElem!_pos _ j (by rw [List.length_drop]; omega), List.getElem_drop] at hu
  have := hr (m + j) (by omega) i u (by rw [getElem!_pos xs (m + j) (by omega)]; exact hu)
  rwa [Nat.add_mul, ← Nat.add_assoc] at this
theorem RS_own_at {α : Type} [Inhabited α] {enc : α → List Value} {k base e : Nat} {w : World} {A : Option Addr} {n c : Nat} {xs : List α} (hk : ∀ x, (enc x).length = k) (h0 : 0 < k) (hl : xs.length ≤ 140737488355328) (hn : xs.length = n)
    (h : w.ownsRow base e k (.slice A n c) xs.length (xs.flatMap enc)) : RS enc k w A xs ∧ n ≤ c := by
  obtain ⟨A', c', e1, e2, e3⟩ := RS_own hk h0 hl h
  cases e1
  exact ⟨e3, by omega⟩
theorem NSt.store1 {w W : World} {pn : ByteArray} {A2 A3 : Option Addr} {n2 c2 n3 c3 : Nat} {v1 v2 v3 v : Value} {t t' : List Ty} {r : List Rl} {q : List Qm} (h : NSt w W pn A2 n2 c2 A3 n3 c3 v1 v2 v3 t r q) (hv : W.ownsRow (w.heap.size + 3) 46 3 v t'.length (t'.flatMap encTy)) :
    NSt w (W.setCell ⟨w.heap.size + 2, 1, none⟩ v) pn A2 n2 c2 A3 n3 c3 v v2 v3 t' r q := by
  obtain ⟨c, b⟩ := h.set 1 v
  have f : ∀ a, (W.setCell ⟨w.heap.size + 2, 1, none⟩ v).frozen? a = W.frozen? a := fun a => World.frozen?_setCell _ _ _ _
  exact ⟨b, by simpa using h.sz, (c _ _ (by omega)).trans h.p2, (c _ _ (by omega)).trans h.p3,
    (c _ _ (by omega)).trans h.u0, (c _ _ (by omega)).trans h.u1, (c _ _ (by omega)).trans h.u2, (c _ _ (by omega)).trans h.u3, fun j => (f _).trans (h.uf j),
    (c _ _ (by omega)).trans h.o0, World.cell?_setCell_same' _ _ _ (by rw [h.o1]; rfl), (c _ _ (by omega)).trans h.o2, (c _ _ (by omega)).trans h.o3, fun j => (f _).trans (h.ff j),
    ownsRow_setCell_below hv (by simp) _, ownsRow_setCell_below h.r2 (by simp) _, ownsRow_setCell_below h.r3 (by simp) _⟩
theorem NSt.start (w : World) (pn : ByteArray) (A1 A2 A3 : Option Addr) (n1 c1 n2 c2 n3 c3 : Nat) : NSt w (((w.alloc (.cells #[.string pn, .slice A1 n1 c1, .slice A2 n2 c2, .slice A3 n3 c3] 26)).alloc (.cells #[.string ByteArray.empty, .slice none 0 0, .slice none 0 0, .slice none 0 0] 26)).alloc (.cells #[.string pn, .slice none 0 0, .slice none 0 0, .slice none 0 0] 26))
    pn A2 n2 c2 A3 n3 c3 (.slice none 0 0) (.slice none 0 0) (.slice none 0 0) [] [] [] :=
  ⟨(((Below.refl _ _).alloc (Nat.le_refl _) _).alloc (by simp) _).alloc (by simp; omega) _, by simp, by simp [go_sem], by simp [go_sem], by simp [go_sem], by simp [go_sem], by simp [go_sem], by simp [go_sem], fun j => by simp [go_sem], by simp [go_sem], by simp [go_sem], by simp [go_sem], by simp [go_sem], fun j => by simp [go_sem], World.ownsRow_nil _ _ _ _, World.ownsRow_nil _ _ _ _, World.ownsRow_nil _ _ _ _⟩


set_option maxRecDepth 100000 in
set_option maxHeartbeats 4000000 in
theorem refNormal_any (q : Pol) (A1 : Option Addr) (c1 : Nat) (A2 : Option Addr) (c2 : Nat) (A3 : Option Addr) (c3 : Nat) (w : World) (hp : PolR w q A1 c1 A2 c2 A3 c3) (h1 : q.types.length * 32 ≤ 140737488355328) (h2 : q.rules.length ≤ 1000) (h3 : q.quorums.length ≤ 1000) :
    Calls Tryd.prog 19 #[.agg #[.string q.name, .slice A1 q.types.length c1, .slice A2 q.rules.length c2, .slice A3 q.quorums.length c3]] w (OwnP (normS q) w) := by
  obtain ⟨iT, hiT, hzT, hkT, hbT⟩ := info_parts info_Ty
  obtain ⟨iR, hiR, hzR, hkR, hbR⟩ := info_parts info_Rl
  obtain ⟨iQ, hiQ, hzQ, hkQ, hbQ⟩ := info_parts info_Qm
  have hr1 := Lib.hid hp.r1
  have hr2 := Lib.hid hp.r2
  have hr3 := Lib.hid hp.r3
  clear hp
  obtain ⟨n1, hn1⟩ : ∃ n, q.types.length = n := ⟨_, rfl⟩
  obtain ⟨n2, hn2⟩ : ∃ n, q.rules.length = n := ⟨_, rfl⟩
  obtain ⟨n3, hn3⟩ : ∃ n, q.quorums.length = n := ⟨_, rfl⟩
  have HN1 := Lib.hid hn1
  have HN2 := Lib.hid hn2
  have HN3 := Lib.hid hn3
  rw [hn1] at h1; rw [hn2] at h2; rw [hn3] at h3
  rw [hn1, hn2, hn3]
  clear hn1 hn2 hn3
  obtain ⟨pn, hpn⟩ : ∃ n, q.name = n := ⟨_, rfl⟩
  rw [hpn]
  have HPN := Lib.hid hpn
  clear hpn
  have hA : Below w.heap.size w (((w.alloc (.cells #[.string pn, .slice A1 n1 c1, .slice A2 n2 c2, .slice A3 n3 c3] 26)).alloc (.cells #[.string ByteArray.empty, .slice none 0 0, .slice none 0 0, .slice none 0 0] 26)).alloc (.cells #[.string pn, .slice none 0 0, .slice none 0 0, .slice none 0 0] 26)) := (((Below.refl _ _).alloc (Nat.le_refl _) _).alloc (by simp) _).alloc (by simp; omega) _
  have HA := Lib.hid hA
  have HRS := Lib.hid (hr1.out.below hA)
  have HST : Hid (∀ v1 w1, w1.ownsRow (w.heap.size + 3) 46 3 v1 ([] ++ q.types).length (([] ++ q.types).flatMap encTy) → Below (w.heap.size + 3) (((w.alloc (.cells #[.string pn, .slice A1 n1 c1, .slice A2 n2 c2, .slice A3 n3 c3] 26)).alloc (.cells #[.string ByteArray.empty, .slice none 0 0, .slice none 0 0, .slice none 0 0] 26)).alloc (.cells #[.string pn, .slice none 0 0, .slice none 0 0, .slice none 0 0] 26)) w1 →
      (∃ V d, v1 = .slice V n1 d) ∧ w1.cell? ⟨w.heap.size + 2, 1, none⟩ = some (.slice none 0 0) ∧ w1.frozen? ⟨w.heap.size + 2, 1, none⟩ = false ∧ Hid (NSt w (w1.setCell ⟨w.heap.size + 2, 1, none⟩ v1) pn A2 n2 c2 A3 n3 c3 v1 (.slice none 0 0) (.slice none 0 0) q.types [] [])) := by
    intro v1 w1 hown hb
    rw [List.nil_append] at hown
    have hN := (NSt.start w pn A1 A2 A3 n1 c1 n2 c2 n3 c3).grow (W' := w1) (by simpa using hb)
    refine ⟨by rw [HN1.out] at hown; exact own_slice hown, hN.o1, hN.ff 1, hN.store1 hown⟩
  clear hA
  go_enter Tryd.func19, Tryd.ntmps19
  go_wp2_with (first | (at_builtin; refine wpList_append_rs len_Ty one_Ty rfl _ _ 22 rfl (w.heap.size + 3) 46 iT _ 32 Tryd.underlying22 hiT hzT hkT hbT rfl (by decide) _ [] rfl (World.ownsRow_nil _ _ _ _) A1 n1 c1 q.types rfl HN1.out.symm HRS.out (by rw [HN1.out]; simp; omega) (by decide) (by simp) ?_; intro v1 w1 hown1 hgrow1; obtain ⟨⟨V, d, rfl⟩, f1, f2, hN⟩ := HST.out v1 w1 hown1 (grown_below (World.ownsRow_nil _ _ 0 0) hgrow1 (by simp)); clear hown1 hgrow1))
  generalize w1.setCell ⟨w.heap.size + 2, 1, none⟩ (.slice V n1 d) = w2 at *
  clear HST HRS HA f1 f2
  go_loopg [4, 5, 6] n2 (fun gg t4 t5 t6 wr => ∃ (k : Nat) (V2 : Option Addr) (d2 : Nat), k ≤ n2 ∧ n2 - k ≤ gg ∧ t4 = .int .i64 (k : Nat) ∧ Hid (NSt w wr pn A2 n2 c2 A3 n3 c3 (.slice V n1 d) (.slice V2 k d2) (.slice none 0 0) q.types (sortR ltRl (q.rules.take k)) []))
  case atStart => exact ⟨0, none, 0, Nat.zero_le _, by omega, by simp, hN⟩
  case round =>
    clear hN
    obtain ⟨k, V2, d2, hk, hg, rfl, hN⟩ := hrel
    by_cases hlt : k < n2
    · have hltz : (k : Int) < (n2 : Int) := by omega
      have hp2 := hN.out.p2
      have ho2 := hN.out.o2
      have hsl : (sortR ltRl (q.rules.take k)).length = k := by rw [sortR_length]; have := HN2.out; simp; omega
      have hnx : sortR ltRl (q.rules.take (k + 1)) = insR ltRl (sortR ltRl (q.rules.take k)) q.rules[k]! := sortR_take _ _ _ (by rw [HN2.out]; exact hlt)
      generalize sortR ltRl (q.rules.take k) = S at *
      obtain ⟨bx, ox, eA, hbx, hcx⟩ := hr2.out.at (Below.refl _ _) k (by rw [HN2.out]; exact hlt)
      subst eA
      generalize q.rules[k]! = x at *
      obtain ⟨x1, x2, x3⟩ := x
      have HCX := Lib.hid hcx
      clear hcx
      have hown := hN.out.r2
      rw [hsl] at hown
      have HNX := Lib.hid hnx
      have HSL := Lib.hid hsl
      clear hnx hsl
      rcases hown.2 with ⟨e, hz⟩ | ⟨g, cap, cur, e, hz⟩
      · obtain ⟨rfl, hk0, hd0⟩ : V2 = none ∧ k = 0 ∧ k = d2 := by cases e; exact ⟨rfl, rfl, rfl⟩
        have HK0 := Lib.hid hk0
        clear e hown hk0 hz
        subst hd0
        go_wp2
        clear hp2 ho2
        go_loopg [5] 0 (fun gg t5 wr2 => t5 = .int .i64 (k : Nat) ∧ Hid (NSt w wr2 pn (some ⟨bx, ox, none⟩) n2 c2 A3 n3 c3 (.slice V n1 d) (.slice none k k) (.slice none 0 0) q.types S []))
        case atStart => exact ⟨rfl, hN⟩
        case round =>
          clear hN
          obtain ⟨rfl, hN⟩ := hrel
          have hN2 : Hid (NSt w wr.drew pn (some ⟨bx, ox, none⟩) n2 c2 A3 n3 c3 (.slice V n1 d) (.slice none k k) (.slice none 0 0) q.types S []) := hN.out.grow (Below.refl _ _).drew
          clear hN
          have hj0z : decide (0 < k) = false := decide_eq_false (by have := HK0.out; omega)
          have hj0y : (0 < k) = False := eq_false (by have := HK0.out; omega)
          have hj0x : decide ((k : Int) > 0) = false := decide_eq_false (by have := HK0.out; omega)
          go_wp2_with fail
          go_big_region
          generalize wr.drew = W at *
          have hN := hN2
          clear hN2
          have HSC : Hid (scanAt ltRl (⟨x1, x2, x3⟩ : Rl) S k = k) := by show _ = _; rw [HK0.out]; rfl
          obtain ⟨d2, hd2⟩ : ∃ d2, k = d2 := ⟨_, rfl⟩
          have hrS := RS_own_at len_Rl (by omega) (by rw [HSL.out]; omega) HSL.out hN.out.r2
          have hkd : k ≤ k := hrS.2
          have HRSS := Lib.hid hrS.1
          have hjs : IntKind.i64.wrap (k : Int) = k := by rw [IntKind.wrap_i64]; omega
          clear hrS
          have hp2 := hN.out.p2
          have ho2 := hN.out.o2
          have HCX2 : Hid (∀ w', Below W.heap.size W w' → ∀ i u, (encRl (⟨x1, x2, x3⟩ : Rl))[i]? = some u → w'.cell? ⟨bx, ox + k * 3 + i, none⟩ = some u) := fun w' h2 i u hu => (h2.cell (p := ⟨bx, ox + k * 3 + i, none⟩) (Nat.lt_of_lt_of_le hbx hN.out.bel.size)).trans ((hN.out.bel.cell (p := ⟨bx, ox + k * 3 + i, none⟩) hbx).trans (HCX.out i u hu))
          have T1 : Hid (∀ v' w', w'.ownsRow W.heap.size 40 3 v' ([] ++ S.take k).length (([] ++ S.take k).flatMap encRl) → Below W.heap.size W w' → Hid (Below W.heap.size W w') ∧ Hid (w'.ownsRow W.heap.size 40 3 v' (S.take k).length ((S.take k).flatMap encRl)) ∧ w'.cell? ⟨w.heap.size, 2, none⟩ = some (.slice (some ⟨bx, ox, none⟩) n2 c2) ∧ (∀ i u, (encRl (⟨x1, x2, x3⟩ : Rl))[i]? = some u → w'.cell? ⟨bx, ox + k * 3 + i, none⟩ = some u)) := by
            intro v' w' h1 h2
            rw [List.nil_append] at h1
            exact ⟨h2, h1, (hN.out.grow h2).p2, HCX2.out w' h2⟩
          have T2 : Hid (∀ v' w', w'.ownsRow W.heap.size 40 3 v' (S.take k ++ [((⟨x1, x2, x3⟩ : Rl) : Rl)]).length ((S.take k ++ [((⟨x1, x2, x3⟩ : Rl) : Rl)]).flatMap encRl) → Below W.heap.size W w' → Hid (Below W.heap.size W w') ∧ Hid (w'.ownsRow W.heap.size 40 3 v' (S.take k ++ [((⟨x1, x2, x3⟩ : Rl) : Rl)]).length ((S.take k ++ [((⟨x1, x2, x3⟩ : Rl) : Rl)]).flatMap encRl)) ∧ w'.cell? ⟨w.heap.size + 2, 2, none⟩ = some (.slice none k k)) :=
            fun v' w' h1 h2 => ⟨h2, h1, (hN.out.grow h2).o2⟩
          have T3 : Hid (∀ v' w', w'.ownsRow W.heap.size 40 3 v' ((S.take k ++ [((⟨x1, x2, x3⟩ : Rl) : Rl)]) ++ S.drop k).length (((S.take k ++ [((⟨x1, x2, x3⟩ : Rl) : Rl)]) ++ S.drop k).flatMap encRl) → Below W.heap.size W w' → (∃ V3 d3, v' = .slice V3 (k + 1) d3) ∧ w'.cell? ⟨w.heap.size + 2, 2, none⟩ = some (.slice none k k) ∧ w'.frozen? ⟨w.heap.size + 2, 2, none⟩ = false ∧ Hid (NSt w (w'.setCell ⟨w.heap.size + 2, 2, none⟩ v') pn (some ⟨bx, ox, none⟩) n2 c2 A3 n3 c3 (.slice V n1 d) v' (.slice none 0 0) q.types (sortR ltRl (q.rules.take (k + 1))) [])) := by
            intro v' w' h1 h2
            have e : (S.take k ++ [((⟨x1, x2, x3⟩ : Rl) : Rl)]) ++ S.drop k = sortR ltRl (q.rules.take (k + 1)) := by rw [HNX.out]; unfold insR; rw [HSL.out, HSC.out]
            rw [e] at h1
            have hl : (sortR ltRl (q.rules.take (k + 1))).length = k + 1 := by rw [sortR_length]; have := HN2.out; simp; omega
            have hN' := hN.out.grow h2
            refine ⟨by rw [hl] at h1; exact own_slice h1, hN'.o2, hN'.ff 2, hN'.store2 (own_base h1 hN.out.sz)⟩
          have hjk' : (k : Int) ≤ (d2 : Int) := by omega
          have hj0' : (0 : Int) ≤ (k : Int) := by omega
          have hjk2 : (k : Int) ≤ (k : Int) := by omega
          clear hd2
          have HM3 : Hid (k - k = (S.drop k).length) := by show _ = _; have := HSL.out; simp; omega
          have HD3 : Hid (∀ w', Below W.heap.size W w' → RS encRl 3 w' none (S.drop k)) := fun w' h => by rw [List.drop_of_length_le (by have := HSL.out; omega)]; exact RS_nil _ _ _ _
          go_wp2_with (first | (at_builtin; refine wpList_append_rs len_Rl one_Rl rfl _ _ 23 rfl W.heap.size 40 iR _ 24 Tryd.underlying23 hiR hzR hkR hbR rfl (by decide) _ [] rfl (World.ownsRow_nil _ _ _ _) none k _ (S.take k) rfl (by simp; have := HSL.out; omega) (HRSS.out.take _ (by have := HSL.out; omega)) (by simp; omega) (by decide) (Nat.le_refl _) ?_; intro v1 w1 hown1 hgrow1; obtain ⟨hb1, ho1, f1, f2⟩ := T1.out v1 w1 hown1 (grown_below (World.ownsRow_nil _ _ 0 0) hgrow1 (Nat.le_refl _)); have c0 := f2 0 _ rfl; have c1' := f2 1 _ rfl; have c2' := f2 2 _ rfl; simp only [Nat.add_zero] at c0; clear hown1 hgrow1 f2) | (at_builtin; refine wpList_append_rs len_Rl one_Rl rfl _ _ 23 rfl W.heap.size 40 iR _ 24 Tryd.underlying23 hiR hzR hkR hbR rfl (by decide) _ (S.take k) rfl (own_below ho1.out ((Below.refl _ _).alloc (Nat.le_refl _) _)) (some ⟨w1.heap.size, 0, none⟩) 1 1 [(⟨x1, x2, x3⟩ : Rl)] rfl rfl (RS_lit len_Rl (by simp) (by simp) (fun i u hu => alloc_lit _ _ _ i u hu)) (by simp; omega) (by decide) (by have := hb1.out.size; simp; omega) ?_; intro v2 w2 hown2 hgrow2; obtain ⟨hb2, ho2', f3⟩ := T2.out v2 w2 hown2 ((hb1.out.alloc hb1.out.size _).trans (grown_below (own_below ho1.out ((Below.refl _ _).alloc (Nat.le_refl _) _)) hgrow2 (by have := hb1.out.size; simp; omega))); clear hown2 hgrow2) | (at_builtin; refine wpList_append_rs len_Rl one_Rl rfl _ _ 23 rfl W.heap.size 40 iR _ 24 Tryd.underlying23 hiR hzR hkR hbR rfl (by decide) _ (S.take k ++ [(⟨x1, x2, x3⟩ : Rl)]) rfl ho2'.out none _ 0 (S.drop k) rfl (by first | exact HM3.out | (have := HM3.out; have := HSL.out; simp; omega)) (HD3.out _ hb2.out) (by simp; have := HSL.out; omega) (by decide) hb2.out.size ?_; intro v3 w3 hown3 hgrow3; obtain ⟨⟨V3, d3, rfl⟩, f4, f5, hN3⟩ := T3.out v3 w3 hown3 (hb2.out.trans (grown_below ho2'.out hgrow3 hb2.out.size)); clear hown3 hgrow3))
          go_roundg (n2 - (k + 1))
          case measure => omega
          case rel => exact ⟨k + 1, V3, d3, by omega, by omega, by go_num, hN3⟩
      · obtain rfl : V2 = some ⟨g, 0, none⟩ := by cases e; rfl
        clear e hown hz
        go_wp2
        clear hp2 ho2
        go_loopg [5] k (fun gg t5 wr2 => ∃ j, j ≤ k ∧ j ≤ gg ∧ t5 = .int .i64 (j : Nat) ∧ Hid (scanAt ltRl (⟨x1, x2, x3⟩ : Rl) S k = scanAt ltRl (⟨x1, x2, x3⟩ : Rl) S j) ∧ Hid (NSt w wr2 pn (some ⟨bx, ox, none⟩) n2 c2 A3 n3 c3 (.slice V n1 d) (.slice (some ⟨g, 0, none⟩) k d2) (.slice none 0 0) q.types S []))
        case atStart => exact ⟨k, Nat.le_refl _, Nat.le_refl _, rfl, rfl, hN⟩
        case round =>
          clear hN
          obtain ⟨j, hjk, hgj, rfl, hsc, hN⟩ := hrel
          by_cases hj0 : j = 0
          · have HJ0 := Lib.hid hj0
            have hj0z : decide (0 < j) = false := decide_eq_false (by omega)
            have hj0y : (0 < j) = False := eq_false (by omega)
            have hj0x : decide ((j : Int) > 0) = false := decide_eq_false (by omega)
            clear hj0
            have hN2 : Hid (NSt w wr.drew pn (some ⟨bx, ox, none⟩) n2 c2 A3 n3 c3 (.slice V n1 d) (.slice (some ⟨g, 0, none⟩) k d2) (.slice none 0 0) q.types S []) := hN.out.grow (Below.refl _ _).drew
            clear hN
            go_wp2_with fail
            go_big_region
            generalize wr.drew = W at *
            have hN := hN2
            clear hN2
            have HSC : Hid (scanAt ltRl (⟨x1, x2, x3⟩ : Rl) S k = j) := by
              have h := hsc.out
              rw [HJ0.out] at h ⊢
              exact h
            clear hsc
            have hrS := RS_own_at len_Rl (by omega) (by rw [HSL.out]; omega) HSL.out hN.out.r2
            have hkd : k ≤ d2 := hrS.2
            have HRSS := Lib.hid hrS.1
            have hjs : IntKind.i64.wrap (k : Int) = k := by rw [IntKind.wrap_i64]; omega
            clear hrS
            have hp2 := hN.out.p2
            have ho2 := hN.out.o2
            have HCX2 : Hid (∀ w', Below W.heap.size W w' → ∀ i u, (encRl (⟨x1, x2, x3⟩ : Rl))[i]? = some u → w'.cell? ⟨bx, ox + k * 3 + i, none⟩ = some u) := fun w' h2 i u hu => (h2.cell (p := ⟨bx, ox + k * 3 + i, none⟩) (Nat.lt_of_lt_of_le hbx hN.out.bel.size)).trans ((hN.out.bel.cell (p := ⟨bx, ox + k * 3 + i, none⟩) hbx).trans (HCX.out i u hu))
            have T1 : Hid (∀ v' w', w'.ownsRow W.heap.size 40 3 v' ([] ++ S.take j).length (([] ++ S.take j).flatMap encRl) → Below W.heap.size W w' → Hid (Below W.heap.size W w') ∧ Hid (w'.ownsRow W.heap.size 40 3 v' (S.take j).length ((S.take j).flatMap encRl)) ∧ w'.cell? ⟨w.heap.size, 2, none⟩ = some (.slice (some ⟨bx, ox, none⟩) n2 c2) ∧ (∀ i u, (encRl (⟨x1, x2, x3⟩ : Rl))[i]? = some u → w'.cell? ⟨bx, ox + k * 3 + i, none⟩ = some u)) := by
              intro v' w' h1 h2
              rw [List.nil_append] at h1
              exact ⟨h2, h1, (hN.out.grow h2).p2, HCX2.out w' h2⟩
            have T2 : Hid (∀ v' w', w'.ownsRow W.heap.size 40 3 v' (S.take j ++ [((⟨x1, x2, x3⟩ : Rl) : Rl)]).length ((S.take j ++ [((⟨x1, x2, x3⟩ : Rl) : Rl)]).flatMap encRl) → Below W.heap.size W w' → Hid (Below W.heap.size W w') ∧ Hid (w'.ownsRow W.heap.size 40 3 v' (S.take j ++ [((⟨x1, x2, x3⟩ : Rl) : Rl)]).length ((S.take j ++ [((⟨x1, x2, x3⟩ : Rl) : Rl)]).flatMap encRl)) ∧ w'.cell? ⟨w.heap.size + 2, 2, none⟩ = some (.slice (some ⟨g, 0, none⟩) k d2)) :=
              fun v' w' h1 h2 => ⟨h2, h1, (hN.out.grow h2).o2⟩
            have T3 : Hid (∀ v' w', w'.ownsRow W.heap.size 40 3 v' ((S.take j ++ [((⟨x1, x2, x3⟩ : Rl) : Rl)]) ++ S.drop j).length (((S.take j ++ [((⟨x1, x2, x3⟩ : Rl) : Rl)]) ++ S.drop j).flatMap encRl) → Below W.heap.size W w' → (∃ V3 d3, v' = .slice V3 (k + 1) d3) ∧ w'.cell? ⟨w.heap.size + 2, 2, none⟩ = some (.slice (some ⟨g, 0, none⟩) k d2) ∧ w'.frozen? ⟨w.heap.size + 2, 2, none⟩ = false ∧ Hid (NSt w (w'.setCell ⟨w.heap.size + 2, 2, none⟩ v') pn (some ⟨bx, ox, none⟩) n2 c2 A3 n3 c3 (.slice V n1 d) v' (.slice none 0 0) q.types (sortR ltRl (q.rules.take (k + 1))) [])) := by
              intro v' w' h1 h2
              have e : (S.take j ++ [((⟨x1, x2, x3⟩ : Rl) : Rl)]) ++ S.drop j = sortR ltRl (q.rules.take (k + 1)) := by rw [HNX.out]; unfold insR; rw [HSL.out, HSC.out]
              rw [e] at h1
              have hl : (sortR ltRl (q.rules.take (k + 1))).length = k + 1 := by rw [sortR_length]; have := HN2.out; simp; omega
              have hN' := hN.out.grow h2
              refine ⟨by rw [hl] at h1; exact own_slice h1, hN'.o2, hN'.ff 2, hN'.store2 (own_base h1 hN.out.sz)⟩
            have hjk' : (j : Int) ≤ (d2 : Int) := by omega
            have hj0' : (0 : Int) ≤ (j : Int) := by omega
            have hjk2 : (j : Int) ≤ (k : Int) := by omega
            by_cases hjd : j = d2
            · have HJD := Lib.hid hjd
              subst hjd
              have HM3 : Hid (k - j = (S.drop j).length) := by show _ = _; have := HSL.out; simp; omega
              have HD3 : Hid (∀ w', Below W.heap.size W w' → RS encRl 3 w' (some ⟨g, 0, none⟩) (S.drop j)) := fun w' h => by rw [List.drop_of_length_le (by have := HSL.out; omega)]; exact RS_nil _ _ _ _
              go_wp2_with (first | (at_builtin; refine wpList_append_rs len_Rl one_Rl rfl _ _ 23 rfl W.heap.size 40 iR _ 24 Tryd.underlying23 hiR hzR hkR hbR rfl (by decide) _ [] rfl (World.ownsRow_nil _ _ _ _) (some ⟨g, 0, none⟩) j _ (S.take j) rfl (by simp; have := HSL.out; omega) (HRSS.out.take _ (by have := HSL.out; omega)) (by simp; omega) (by decide) (Nat.le_refl _) ?_; intro v1 w1 hown1 hgrow1; obtain ⟨hb1, ho1, f1, f2⟩ := T1.out v1 w1 hown1 (grown_below (World.ownsRow_nil _ _ 0 0) hgrow1 (Nat.le_refl _)); have c0 := f2 0 _ rfl; have c1' := f2 1 _ rfl; have c2' := f2 2 _ rfl; simp only [Nat.add_zero] at c0; clear hown1 hgrow1 f2) | (at_builtin; refine wpList_append_rs len_Rl one_Rl rfl _ _ 23 rfl W.heap.size 40 iR _ 24 Tryd.underlying23 hiR hzR hkR hbR rfl (by decide) _ (S.take j) rfl (own_below ho1.out ((Below.refl _ _).alloc (Nat.le_refl _) _)) (some ⟨w1.heap.size, 0, none⟩) 1 1 [(⟨x1, x2, x3⟩ : Rl)] rfl rfl (RS_lit len_Rl (by simp) (by simp) (fun i u hu => alloc_lit _ _ _ i u hu)) (by simp; omega) (by decide) (by have := hb1.out.size; simp; omega) ?_; intro v2 w2 hown2 hgrow2; obtain ⟨hb2, ho2', f3⟩ := T2.out v2 w2 hown2 ((hb1.out.alloc hb1.out.size _).trans (grown_below (own_below ho1.out ((Below.refl _ _).alloc (Nat.le_refl _) _)) hgrow2 (by have := hb1.out.size; simp; omega))); clear hown2 hgrow2) | (at_builtin; refine wpList_append_rs len_Rl one_Rl rfl _ _ 23 rfl W.heap.size 40 iR _ 24 Tryd.underlying23 hiR hzR hkR hbR rfl (by decide) _ (S.take j ++ [(⟨x1, x2, x3⟩ : Rl)]) rfl ho2'.out (some ⟨g, 0, none⟩) _ 0 (S.drop j) rfl (by first | exact HM3.out | (have := HM3.out; have := HSL.out; simp; omega)) (HD3.out _ hb2.out) (by simp; have := HSL.out; omega) (by decide) hb2.out.size ?_; intro v3 w3 hown3 hgrow3; obtain ⟨⟨V3, d3, rfl⟩, f4, f5, hN3⟩ := T3.out v3 w3 hown3 (hb2.out.trans (grown_below ho2'.out hgrow3 hb2.out.size)); clear hown3 hgrow3))
              go_roundg (n2 - (k + 1))
              case measure => omega
              case rel => exact ⟨k + 1, V3, d3, by omega, by omega, by go_num, hN3⟩
            · have hjd' : ¬ d2 = j := fun e => hjd e.symm
              clear hjd
              have HM3 : Hid (k - j = (S.drop j).length) := by show _ = _; have := HSL.out; simp; omega
              have HD3 : Hid (∀ w', Below W.heap.size W w' → RS encRl 3 w' (some ⟨g, j * 3, none⟩) (S.drop j)) := fun w' h => by have := (HRSS.out.below h).drop j; rwa [Nat.zero_add] at this
              go_wp2_with (first | (at_builtin; refine wpList_append_rs len_Rl one_Rl rfl _ _ 23 rfl W.heap.size 40 iR _ 24 Tryd.underlying23 hiR hzR hkR hbR rfl (by decide) _ [] rfl (World.ownsRow_nil _ _ _ _) (some ⟨g, 0, none⟩) j _ (S.take j) rfl (by simp; have := HSL.out; omega) (HRSS.out.take _ (by have := HSL.out; omega)) (by simp; omega) (by decide) (Nat.le_refl _) ?_; intro v1 w1 hown1 hgrow1; obtain ⟨hb1, ho1, f1, f2⟩ := T1.out v1 w1 hown1 (grown_below (World.ownsRow_nil _ _ 0 0) hgrow1 (Nat.le_refl _)); have c0 := f2 0 _ rfl; have c1' := f2 1 _ rfl; have c2' := f2 2 _ rfl; simp only [Nat.add_zero] at c0; clear hown1 hgrow1 f2) | (at_builtin; refine wpList_append_rs len_Rl one_Rl rfl _ _ 23 rfl W.heap.size 40 iR _ 24 Tryd.underlying23 hiR hzR hkR hbR rfl (by decide) _ (S.take j) rfl (own_below ho1.out ((Below.refl _ _).alloc (Nat.le_refl _) _)) (some ⟨w1.heap.size, 0, none⟩) 1 1 [(⟨x1, x2, x3⟩ : Rl)] rfl rfl (RS_lit len_Rl (by simp) (by simp) (fun i u hu => alloc_lit _ _ _ i u hu)) (by simp; omega) (by decide) (by have := hb1.out.size; simp; omega) ?_; intro v2 w2 hown2 hgrow2; obtain ⟨hb2, ho2', f3⟩ := T2.out v2 w2 hown2 ((hb1.out.alloc hb1.out.size _).trans (grown_below (own_below ho1.out ((Below.refl _ _).alloc (Nat.le_refl _) _)) hgrow2 (by have := hb1.out.size; simp; omega))); clear hown2 hgrow2) | (at_builtin; refine wpList_append_rs len_Rl one_Rl rfl _ _ 23 rfl W.heap.size 40 iR _ 24 Tryd.underlying23 hiR hzR hkR hbR rfl (by decide) _ (S.take j ++ [(⟨x1, x2, x3⟩ : Rl)]) rfl ho2'.out (some ⟨g, j * 3, none⟩) _ (d2 - j) (S.drop j) rfl (by first | exact HM3.out | (have := HM3.out; have := HSL.out; simp; omega)) (HD3.out _ hb2.out) (by simp; have := HSL.out; omega) (by decide) hb2.out.size ?_; intro v3 w3 hown3 hgrow3; obtain ⟨⟨V3, d3, rfl⟩, f4, f5, hN3⟩ := T3.out v3 w3 hown3 (hb2.out.trans (grown_below ho2'.out hgrow3 hb2.out.size)); clear hown3 hgrow3))
              go_roundg (n2 - (k + 1))
              case measure => omega
              case rel => exact ⟨k + 1, V3, d3, by omega, by omega, by go_num, hN3⟩
          · obtain ⟨jp, rfl⟩ : ∃ jp, j = jp + 1 := ⟨j - 1, by omega⟩
            clear hj0
            have hcy := (RS_own_at len_Rl (by omega) (by rw [HSL.out]; omega) HSL.out hN.out.r2).1.at (Below.refl _ _) jp (by rw [HSL.out]; omega)
            obtain ⟨g', o', e', hbg, hcy⟩ := hcy
            obtain ⟨rfl, rfl⟩ : g = g' ∧ o' = 0 := by cases e'; exact ⟨rfl, rfl⟩
            clear e'
            have hcx2 : ∀ i u, (encRl (⟨x1, x2, x3⟩ : Rl))[i]? = some u → wr.cell? ⟨bx, ox + k * 3 + i, none⟩ = some u := fun i u hu => (hN.out.bel.cell (p := ⟨bx, ox + k * 3 + i, none⟩) hbx).trans (HCX.out i u hu)
            have HSS : Hid (scanAt ltRl (⟨x1, x2, x3⟩ : Rl) S (jp + 1) = if ltRl (⟨x1, x2, x3⟩ : Rl) S[jp]! = true then scanAt ltRl (⟨x1, x2, x3⟩ : Rl) S jp else jp + 1) := rfl
            generalize S[jp]! = y at *
            obtain ⟨y1, y2, y3⟩ := y
            have HHB : Hid (∀ w' : World, Calls Tryd.prog 37 #[avRl ⟨x1, x2, x3⟩, avRl ⟨y1, y2, y3⟩] w' fun e w'' => e = .returned (.bool (ltRl ⟨x1, x2, x3⟩ ⟨y1, y2, y3⟩)) ∧ Below w'.heap.size w' w'') := fun w' => before_any _ _ _
            obtain ⟨bv, hbv⟩ : ∃ bv, ltRl (⟨x1, x2, x3⟩ : Rl) (⟨y1, y2, y3⟩ : Rl) = bv := ⟨_, rfl⟩
            try rw [hbv] at HHB
            rw [hbv] at HSS
            skip
            clear hbv
            have hp2 := fun p : Grows wr => Grows.cell hN.out.p2 p
            have ho2 := fun p : Grows wr => Grows.cell hN.out.o2 p
            have a0 := fun p : Grows wr => Grows.cell (hcx2 0 _ rfl) p
            have a1 := fun p : Grows wr => Grows.cell (hcx2 1 _ rfl) p
            have a2 := fun p : Grows wr => Grows.cell (hcx2 2 _ rfl) p
            have b0 := fun p : Grows wr => Grows.cell (hcy 0 _ rfl) p
            have b1 := fun p : Grows wr => Grows.cell (hcy 1 _ rfl) p
            have b2 := fun p : Grows wr => Grows.cell (hcy 2 _ rfl) p
            simp only [Nat.add_zero, Nat.zero_add] at a0 b0 b1 b2
            clear hcx2 hcy
            have hwp : IntKind.i64.wrap (jp : Int) = (jp : Int) := by rw [IntKind.wrap_i64]; omega
            have hws : IntKind.i64.wrap ((jp : Int) + 1 - 1) = (jp : Int) := by rw [IntKind.wrap_i64]; omega
            have jz1 : (jp : Int) < (k : Int) := by omega
            have jz2 : (0 : Int) ≤ (jp : Int) := by omega
            have jz3 : (0 : Int) < (jp : Int) + 1 := by omega
            have p0 : (0 : Int) ≤ (jp : Int) + 1 := by omega
            have kz0 : (0 : Int) ≤ (k : Int) := by omega
            have e0 : ((jp : Int) + 1).toNat = jp + 1 := by omega
            cases bv with
            | true =>
              skip
              go_wp2_with fail
              (refine wp_region_grows (by kernel_rfl) (by kernel_rfl) ?_; (repeat quiet_step ((go_at_call 37; exact Grows.call _ (HHB.out _)))); refine wpQuiet_nil ?_; intro _ hw'; obtain ⟨gw, hw''⟩ := hw'; subst hw'')
              have hJ2 := hN.out.grow gw.h
              clear hp2 ho2 a0 a1 a2 b0 b1 b2 HHB hN
              generalize gw.w = W at *
              have hN := Lib.hid hJ2
              clear hJ2
              go_wp2
              go_roundg jp
              case measure => omega
              case rel => exact ⟨jp, by omega, by omega, by go_num, by show _ = _; rw [hsc.out, HSS.out]; first | rfl | simp, hN⟩
            | false =>
              skip
              go_wp2_with fail
              (refine wp_region_grows (by kernel_rfl) (by kernel_rfl) ?_; (repeat quiet_step ((go_at_call 37; exact Grows.call _ (HHB.out _)))); refine wpQuiet_nil ?_; intro _ hw'; obtain ⟨gw, hw''⟩ := hw'; subst hw'')
              have hJ2 := hN.out.grow gw.h
              clear hp2 ho2 a0 a1 a2 b0 b1 b2 HHB hN
              generalize gw.w = W at *
              have hN := Lib.hid hJ2
              clear hJ2
              have HSC : Hid (scanAt ltRl (⟨x1, x2, x3⟩ : Rl) S k = jp + 1) := by show _ = _; rw [hsc.out, HSS.out]; first | rfl | simp
              clear hsc HSS
              have hrS := RS_own_at len_Rl (by omega) (by rw [HSL.out]; omega) HSL.out hN.out.r2
              have hkd : k ≤ d2 := hrS.2
              have HRSS := Lib.hid hrS.1
              have hjs : IntKind.i64.wrap (k : Int) = k := by rw [IntKind.wrap_i64]; omega
              clear hrS
              have hp2 := hN.out.p2
              have ho2 := hN.out.o2
              have HCX2 : Hid (∀ w', Below W.heap.size W w' → ∀ i u, (encRl (⟨x1, x2, x3⟩ : Rl))[i]? = some u → w'.cell? ⟨bx, ox + k * 3 + i, none⟩ = some u) := fun w' h2 i u hu => (h2.cell (p := ⟨bx, ox + k * 3 + i, none⟩) (Nat.lt_of_lt_of_le hbx hN.out.bel.size)).trans ((hN.out.bel.cell (p := ⟨bx, ox + k * 3 + i, none⟩) hbx).trans (HCX.out i u hu))
              have T1 : Hid (∀ v' w', w'.ownsRow W.heap.size 40 3 v' ([] ++ S.take (jp + 1)).length (([] ++ S.take (jp + 1)).flatMap encRl) → Below W.heap.size W w' → Hid (Below W.heap.size W w') ∧ Hid (w'.ownsRow W.heap.size 40 3 v' (S.take (jp + 1)).length ((S.take (jp + 1)).flatMap encRl)) ∧ w'.cell? ⟨w.heap.size, 2, none⟩ = some (.slice (some ⟨bx, ox, none⟩) n2 c2) ∧ (∀ i u, (encRl (⟨x1, x2, x3⟩ : Rl))[i]? = some u → w'.cell? ⟨bx, ox + k * 3 + i, none⟩ = some u)) := by
                intro v' w' h1 h2
                rw [List.nil_append] at h1
                exact ⟨h2, h1, (hN.out.grow h2).p2, HCX2.out w' h2⟩
              have T2 : Hid (∀ v' w', w'.ownsRow W.heap.size 40 3 v' (S.take (jp + 1) ++ [((⟨x1, x2, x3⟩ : Rl) : Rl)]).length ((S.take (jp + 1) ++ [((⟨x1, x2, x3⟩ : Rl) : Rl)]).flatMap encRl) → Below W.heap.size W w' → Hid (Below W.heap.size W w') ∧ Hid (w'.ownsRow W.heap.size 40 3 v' (S.take (jp + 1) ++ [((⟨x1, x2, x3⟩ : Rl) : Rl)]).length ((S.take (jp + 1) ++ [((⟨x1, x2, x3⟩ : Rl) : Rl)]).flatMap encRl)) ∧ w'.cell? ⟨w.heap.size + 2, 2, none⟩ = some (.slice (some ⟨g, 0, none⟩) k d2)) :=
                fun v' w' h1 h2 => ⟨h2, h1, (hN.out.grow h2).o2⟩
              have T3 : Hid (∀ v' w', w'.ownsRow W.heap.size 40 3 v' ((S.take (jp + 1) ++ [((⟨x1, x2, x3⟩ : Rl) : Rl)]) ++ S.drop (jp + 1)).length (((S.take (jp + 1) ++ [((⟨x1, x2, x3⟩ : Rl) : Rl)]) ++ S.drop (jp + 1)).flatMap encRl) → Below W.heap.size W w' → (∃ V3 d3, v' = .slice V3 (k + 1) d3) ∧ w'.cell? ⟨w.heap.size + 2, 2, none⟩ = some (.slice (some ⟨g, 0, none⟩) k d2) ∧ w'.frozen? ⟨w.heap.size + 2, 2, none⟩ = false ∧ Hid (NSt w (w'.setCell ⟨w.heap.size + 2, 2, none⟩ v') pn (some ⟨bx, ox, none⟩) n2 c2 A3 n3 c3 (.slice V n1 d) v' (.slice none 0 0) q.types (sortR ltRl (q.rules.take (k + 1))) [])) := by
                intro v' w' h1 h2
                have e : (S.take (jp + 1) ++ [((⟨x1, x2, x3⟩ : Rl) : Rl)]) ++ S.drop (jp + 1) = sortR ltRl (q.rules.take (k + 1)) := by rw [HNX.out]; unfold insR; rw [HSL.out, HSC.out]
                rw [e] at h1
                have hl : (sortR ltRl (q.rules.take (k + 1))).length = k + 1 := by rw [sortR_length]; have := HN2.out; simp; omega
                have hN' := hN.out.grow h2
                refine ⟨by rw [hl] at h1; exact own_slice h1, hN'.o2, hN'.ff 2, hN'.store2 (own_base h1 hN.out.sz)⟩
              have hjk' : ((jp + 1) : Int) ≤ (d2 : Int) := by omega
              have hj0' : (0 : Int) ≤ ((jp + 1) : Int) := by omega
              have hjk2 : ((jp + 1) : Int) ≤ (k : Int) := by omega
              by_cases hjd : (jp + 1) = d2
              · have HJD := Lib.hid hjd
                subst hjd
                have HM3 : Hid (k - (jp + 1) = (S.drop (jp + 1)).length) := by show _ = _; have := HSL.out; simp; omega
                have HD3 : Hid (∀ w', Below W.heap.size W w' → RS encRl 3 w' (some ⟨g, 0, none⟩) (S.drop (jp + 1))) := fun w' h => by rw [List.drop_of_length_le (by have := HSL.out; omega)]; exact RS_nil _ _ _ _
                go_wp2_with (first | (at_builtin; refine wpList_append_rs len_Rl one_Rl rfl _ _ 23 rfl W.heap.size 40 iR _ 24 Tryd.underlying23 hiR hzR hkR hbR rfl (by decide) _ [] rfl (World.ownsRow_nil _ _ _ _) (some ⟨g, 0, none⟩) (jp + 1) _ (S.take (jp + 1)) rfl (by simp; have := HSL.out; omega) (HRSS.out.take _ (by have := HSL.out; omega)) (by simp; omega) (by decide) (Nat.le_refl _) ?_; intro v1 w1 hown1 hgrow1; obtain ⟨hb1, ho1, f1, f2⟩ := T1.out v1 w1 hown1 (grown_below (World.ownsRow_nil _ _ 0 0) hgrow1 (Nat.le_refl _)); have c0 := f2 0 _ rfl; have c1' := f2 1 _ rfl; have c2' := f2 2 _ rfl; simp only [Nat.add_zero] at c0; clear hown1 hgrow1 f2) | (at_builtin; refine wpList_append_rs len_Rl one_Rl rfl _ _ 23 rfl W.heap.size 40 iR _ 24 Tryd.underlying23 hiR hzR hkR hbR rfl (by decide) _ (S.take (jp + 1)) rfl (own_below ho1.out ((Below.refl _ _).alloc (Nat.le_refl _) _)) (some ⟨w1.heap.size, 0, none⟩) 1 1 [(⟨x1, x2, x3⟩ : Rl)] rfl rfl (RS_lit len_Rl (by simp) (by simp) (fun i u hu => alloc_lit _ _ _ i u hu)) (by simp; omega) (by decide) (by have := hb1.out.size; simp; omega) ?_; intro v2 w2 hown2 hgrow2; obtain ⟨hb2, ho2', f3⟩ := T2.out v2 w2 hown2 ((hb1.out.alloc hb1.out.size _).trans (grown_below (own_below ho1.out ((Below.refl _ _).alloc (Nat.le_refl _) _)) hgrow2 (by have := hb1.out.size; simp; omega))); clear hown2 hgrow2) | (at_builtin; refine wpList_append_rs len_Rl one_Rl rfl _ _ 23 rfl W.heap.size 40 iR _ 24 Tryd.underlying23 hiR hzR hkR hbR rfl (by decide) _ (S.take (jp + 1) ++ [(⟨x1, x2, x3⟩ : Rl)]) rfl ho2'.out (some ⟨g, 0, none⟩) _ 0 (S.drop (jp + 1)) rfl (by first | exact HM3.out | (have := HM3.out; have := HSL.out; simp; omega)) (HD3.out _ hb2.out) (by simp; have := HSL.out; omega) (by decide) hb2.out.size ?_; intro v3 w3 hown3 hgrow3; obtain ⟨⟨V3, d3, rfl⟩, f4, f5, hN3⟩ := T3.out v3 w3 hown3 (hb2.out.trans (grown_below ho2'.out hgrow3 hb2.out.size)); clear hown3 hgrow3))
                go_roundg (n2 - (k + 1))
                case measure => omega
                case rel => exact ⟨k + 1, V3, d3, by omega, by omega, by go_num, hN3⟩
              · have hjd' : ¬ d2 = (jp + 1) := fun e => hjd e.symm
                clear hjd
                have HM3 : Hid (k - (jp + 1) = (S.drop (jp + 1)).length) := by show _ = _; have := HSL.out; simp; omega
                have HD3 : Hid (∀ w', Below W.heap.size W w' → RS encRl 3 w' (some ⟨g, (jp + 1) * 3, none⟩) (S.drop (jp + 1))) := fun w' h => by have := (HRSS.out.below h).drop (jp + 1); rwa [Nat.zero_add] at this
                go_wp2_with (first | (at_builtin; refine wpList_append_rs len_Rl one_Rl rfl _ _ 23 rfl W.heap.size 40 iR _ 24 Tryd.underlying23 hiR hzR hkR hbR rfl (by decide) _ [] rfl (World.ownsRow_nil _ _ _ _) (some ⟨g, 0, none⟩) (jp + 1) _ (S.take (jp + 1)) rfl (by simp; have := HSL.out; omega) (HRSS.out.take _ (by have := HSL.out; omega)) (by simp; omega) (by decide) (Nat.le_refl _) ?_; intro v1 w1 hown1 hgrow1; obtain ⟨hb1, ho1, f1, f2⟩ := T1.out v1 w1 hown1 (grown_below (World.ownsRow_nil _ _ 0 0) hgrow1 (Nat.le_refl _)); have c0 := f2 0 _ rfl; have c1' := f2 1 _ rfl; have c2' := f2 2 _ rfl; simp only [Nat.add_zero] at c0; clear hown1 hgrow1 f2) | (at_builtin; refine wpList_append_rs len_Rl one_Rl rfl _ _ 23 rfl W.heap.size 40 iR _ 24 Tryd.underlying23 hiR hzR hkR hbR rfl (by decide) _ (S.take (jp + 1)) rfl (own_below ho1.out ((Below.refl _ _).alloc (Nat.le_refl _) _)) (some ⟨w1.heap.size, 0, none⟩) 1 1 [(⟨x1, x2, x3⟩ : Rl)] rfl rfl (RS_lit len_Rl (by simp) (by simp) (fun i u hu => alloc_lit _ _ _ i u hu)) (by simp; omega) (by decide) (by have := hb1.out.size; simp; omega) ?_; intro v2 w2 hown2 hgrow2; obtain ⟨hb2, ho2', f3⟩ := T2.out v2 w2 hown2 ((hb1.out.alloc hb1.out.size _).trans (grown_below (own_below ho1.out ((Below.refl _ _).alloc (Nat.le_refl _) _)) hgrow2 (by have := hb1.out.size; simp; omega))); clear hown2 hgrow2) | (at_builtin; refine wpList_append_rs len_Rl one_Rl rfl _ _ 23 rfl W.heap.size 40 iR _ 24 Tryd.underlying23 hiR hzR hkR hbR rfl (by decide) _ (S.take (jp + 1) ++ [(⟨x1, x2, x3⟩ : Rl)]) rfl ho2'.out (some ⟨g, (jp + 1) * 3, none⟩) _ (d2 - (jp + 1)) (S.drop (jp + 1)) rfl (by first | exact HM3.out | (have := HM3.out; have := HSL.out; simp; omega)) (HD3.out _ hb2.out) (by simp; have := HSL.out; omega) (by decide) hb2.out.size ?_; intro v3 w3 hown3 hgrow3; obtain ⟨⟨V3, d3, rfl⟩, f4, f5, hN3⟩ := T3.out v3 w3 hown3 (hb2.out.trans (grown_below ho2'.out hgrow3 hb2.out.size)); clear hown3 hgrow3))
                go_roundg (n2 - (k + 1))
                case measure => omega
                case rel => exact ⟨k + 1, V3, d3, by omega, by omega, by go_num, hN3⟩
    · obtain rfl : n2 = k := by omega
      have hltz : ¬ (n2 : Int) < (n2 : Int) := by omega
      have hp2 := hN.out.p2
      rw [List.take_of_length_le (by rw [HN2.out]; exact Nat.le_refl _)] at hN
      clear hlt hk hg
      obtain ⟨VR, rfl⟩ : ∃ v, v = V2 := ⟨_, rfl⟩
      obtain ⟨dR, rfl⟩ : ∃ v, v = d2 := ⟨_, rfl⟩
      go_wp2
      clear hp2 hltz
      go_loopg [7, 8, 9] n3 (fun gg t4 t5 t6 wr => ∃ (k : Nat) (V2 : Option Addr) (d2 : Nat), k ≤ n3 ∧ n3 - k ≤ gg ∧ t4 = .int .i64 (k : Nat) ∧ Hid (NSt w wr pn A2 n2 c2 A3 n3 c3 (.slice V n1 d) (.slice VR n2 dR) (.slice V2 k d2) q.types (sortR ltRl q.rules) (sortR ltQm (q.quorums.take k))))
      case atStart => exact ⟨0, none, 0, Nat.zero_le _, by omega, by simp, hN⟩
      case round =>
        clear hN
        obtain ⟨k, V2, d2, hk, hg, rfl, hN⟩ := hrel
        by_cases hlt : k < n3
        · have hltz : (k : Int) < (n3 : Int) := by omega
          have hp2 := hN.out.p3
          have ho2 := hN.out.o3
          have hsl : (sortR ltQm (q.quorums.take k)).length = k := by rw [sortR_length]; have := HN3.out; simp; omega
          have hnx : sortR ltQm (q.quorums.take (k + 1)) = insR ltQm (sortR ltQm (q.quorums.take k)) q.quorums[k]! := sortR_take _ _ _ (by rw [HN3.out]; exact hlt)
          generalize sortR ltQm (q.quorums.take k) = S at *
          obtain ⟨bx, ox, eA, hbx, hcx⟩ := hr3.out.at (Below.refl _ _) k (by rw [HN3.out]; exact hlt)
          subst eA
          generalize q.quorums[k]! = x at *
          obtain ⟨x1, x2, x3, x4, x5⟩ := x
          have HCX := Lib.hid hcx
          clear hcx
          have hown := hN.out.r3
          rw [hsl] at hown
          have HNX := Lib.hid hnx
          have HSL := Lib.hid hsl
          clear hnx hsl
          rcases hown.2 with ⟨e, hz⟩ | ⟨g, cap, cur, e, hz⟩
          · obtain ⟨rfl, hk0, hd0⟩ : V2 = none ∧ k = 0 ∧ k = d2 := by cases e; exact ⟨rfl, rfl, rfl⟩
            have HK0 := Lib.hid hk0
            clear e hown hk0 hz
            subst hd0
            go_wp2
            clear hp2 ho2
            go_loopg [8] 0 (fun gg t5 wr2 => t5 = .int .i64 (k : Nat) ∧ Hid (NSt w wr2 pn A2 n2 c2 (some ⟨bx, ox, none⟩) n3 c3 (.slice V n1 d) (.slice VR n2 dR) (.slice none k k) q.types (sortR ltRl q.rules) S))
            case atStart => exact ⟨rfl, hN⟩
            case round =>
              clear hN
              obtain ⟨rfl, hN⟩ := hrel
              have hN2 : Hid (NSt w wr.drew pn A2 n2 c2 (some ⟨bx, ox, none⟩) n3 c3 (.slice V n1 d) (.slice VR n2 dR) (.slice none k k) q.types (sortR ltRl q.rules) S) := hN.out.grow (Below.refl _ _).drew
              clear hN
              have hj0z : decide (0 < k) = false := decide_eq_false (by have := HK0.out; omega)
              have hj0y : (0 < k) = False := eq_false (by have := HK0.out; omega)
              have hj0x : decide ((k : Int) > 0) = false := decide_eq_false (by have := HK0.out; omega)
              go_wp2_with fail
              go_big_region
              generalize wr.drew = W at *
              have hN := hN2
              clear hN2
              have HSC : Hid (scanAt ltQm (⟨x1, x2, x3, x4, x5⟩ : Qm) S k = k) := by show _ = _; rw [HK0.out]; rfl
              obtain ⟨d2, hd2⟩ : ∃ d2, k = d2 := ⟨_, rfl⟩
              have hrS := RS_own_at len_Qm (by omega) (by rw [HSL.out]; omega) HSL.out hN.out.r3
              have hkd : k ≤ k := hrS.2
              have HRSS := Lib.hid hrS.1
              have hjs : IntKind.i64.wrap (k : Int) = k := by rw [IntKind.wrap_i64]; omega
              clear hrS
              have hp2 := hN.out.p3
              have ho2 := hN.out.o3
              have HCX2 : Hid (∀ w', Below W.heap.size W w' → ∀ i u, (encQm (⟨x1, x2, x3, x4, x5⟩ : Qm))[i]? = some u → w'.cell? ⟨bx, ox + k * 5 + i, none⟩ = some u) := fun w' h2 i u hu => (h2.cell (p := ⟨bx, ox + k * 5 + i, none⟩) (Nat.lt_of_lt_of_le hbx hN.out.bel.size)).trans ((hN.out.bel.cell (p := ⟨bx, ox + k * 5 + i, none⟩) hbx).trans (HCX.out i u hu))
              have T1 : Hid (∀ v' w', w'.ownsRow W.heap.size 42 5 v' ([] ++ S.take k).length (([] ++ S.take k).flatMap encQm) → Below W.heap.size W w' → Hid (Below W.heap.size W w') ∧ Hid (w'.ownsRow W.heap.size 42 5 v' (S.take k).length ((S.take k).flatMap encQm)) ∧ w'.cell? ⟨w.heap.size, 3, none⟩ = some (.slice (some ⟨bx, ox, none⟩) n3 c3) ∧ (∀ i u, (encQm (⟨x1, x2, x3, x4, x5⟩ : Qm))[i]? = some u → w'.cell? ⟨bx, ox + k * 5 + i, none⟩ = some u)) := by
                intro v' w' h1 h2
                rw [List.nil_append] at h1
                exact ⟨h2, h1, (hN.out.grow h2).p3, HCX2.out w' h2⟩
              have T2 : Hid (∀ v' w', w'.ownsRow W.heap.size 42 5 v' (S.take k ++ [((⟨x1, x2, x3, x4, x5⟩ : Qm) : Qm)]).length ((S.take k ++ [((⟨x1, x2, x3, x4, x5⟩ : Qm) : Qm)]).flatMap encQm) → Below W.heap.size W w' → Hid (Below W.heap.size W w') ∧ Hid (w'.ownsRow W.heap.size 42 5 v' (S.take k ++ [((⟨x1, x2, x3, x4, x5⟩ : Qm) : Qm)]).length ((S.take k ++ [((⟨x1, x2, x3, x4, x5⟩ : Qm) : Qm)]).flatMap encQm)) ∧ w'.cell? ⟨w.heap.size + 2, 3, none⟩ = some (.slice none k k)) :=
                fun v' w' h1 h2 => ⟨h2, h1, (hN.out.grow h2).o3⟩
              have T3 : Hid (∀ v' w', w'.ownsRow W.heap.size 42 5 v' ((S.take k ++ [((⟨x1, x2, x3, x4, x5⟩ : Qm) : Qm)]) ++ S.drop k).length (((S.take k ++ [((⟨x1, x2, x3, x4, x5⟩ : Qm) : Qm)]) ++ S.drop k).flatMap encQm) → Below W.heap.size W w' → (∃ V3 d3, v' = .slice V3 (k + 1) d3) ∧ w'.cell? ⟨w.heap.size + 2, 3, none⟩ = some (.slice none k k) ∧ w'.frozen? ⟨w.heap.size + 2, 3, none⟩ = false ∧ Hid (NSt w (w'.setCell ⟨w.heap.size + 2, 3, none⟩ v') pn A2 n2 c2 (some ⟨bx, ox, none⟩) n3 c3 (.slice V n1 d) (.slice VR n2 dR) v' q.types (sortR ltRl q.rules) (sortR ltQm (q.quorums.take (k + 1))))) := by
                intro v' w' h1 h2
                have e : (S.take k ++ [((⟨x1, x2, x3, x4, x5⟩ : Qm) : Qm)]) ++ S.drop k = sortR ltQm (q.quorums.take (k + 1)) := by rw [HNX.out]; unfold insR; rw [HSL.out, HSC.out]
                rw [e] at h1
                have hl : (sortR ltQm (q.quorums.take (k + 1))).length = k + 1 := by rw [sortR_length]; have := HN3.out; simp; omega
                have hN' := hN.out.grow h2
                refine ⟨by rw [hl] at h1; exact own_slice h1, hN'.o3, hN'.ff 3, hN'.store3 (own_base h1 hN.out.sz)⟩
              have hjk' : (k : Int) ≤ (d2 : Int) := by omega
              have hj0' : (0 : Int) ≤ (k : Int) := by omega
              have hjk2 : (k : Int) ≤ (k : Int) := by omega
              clear hd2
              have HM3 : Hid (k - k = (S.drop k).length) := by show _ = _; have := HSL.out; simp; omega
              have HD3 : Hid (∀ w', Below W.heap.size W w' → RS encQm 5 w' none (S.drop k)) := fun w' h => by rw [List.drop_of_length_le (by have := HSL.out; omega)]; exact RS_nil _ _ _ _
              go_wp2_with (first | (at_builtin; refine wpList_append_rs len_Qm one_Qm rfl _ _ 24 rfl W.heap.size 42 iQ _ 40 Tryd.underlying24 hiQ hzQ hkQ hbQ rfl (by decide) _ [] rfl (World.ownsRow_nil _ _ _ _) none k _ (S.take k) rfl (by simp; have := HSL.out; omega) (HRSS.out.take _ (by have := HSL.out; omega)) (by simp; omega) (by decide) (Nat.le_refl _) ?_; intro v1 w1 hown1 hgrow1; obtain ⟨hb1, ho1, f1, f2⟩ := T1.out v1 w1 hown1 (grown_below (World.ownsRow_nil _ _ 0 0) hgrow1 (Nat.le_refl _)); have c0 := f2 0 _ rfl; have c1' := f2 1 _ rfl; have c2' := f2 2 _ rfl; have c3' := f2 3 _ rfl; have c4' := f2 4 _ rfl; simp only [Nat.add_zero] at c0; clear hown1 hgrow1 f2) | (at_builtin; refine wpList_append_rs len_Qm one_Qm rfl _ _ 24 rfl W.heap.size 42 iQ _ 40 Tryd.underlying24 hiQ hzQ hkQ hbQ rfl (by decide) _ (S.take k) rfl (own_below ho1.out ((Below.refl _ _).alloc (Nat.le_refl _) _)) (some ⟨w1.heap.size, 0, none⟩) 1 1 [(⟨x1, x2, x3, x4, x5⟩ : Qm)] rfl rfl (RS_lit len_Qm (by simp) (by simp) (fun i u hu => alloc_lit _ _ _ i u hu)) (by simp; omega) (by decide) (by have := hb1.out.size; simp; omega) ?_; intro v2 w2 hown2 hgrow2; obtain ⟨hb2, ho2', f3⟩ := T2.out v2 w2 hown2 ((hb1.out.alloc hb1.out.size _).trans (grown_below (own_below ho1.out ((Below.refl _ _).alloc (Nat.le_refl _) _)) hgrow2 (by have := hb1.out.size; simp; omega))); clear hown2 hgrow2) | (at_builtin; refine wpList_append_rs len_Qm one_Qm rfl _ _ 24 rfl W.heap.size 42 iQ _ 40 Tryd.underlying24 hiQ hzQ hkQ hbQ rfl (by decide) _ (S.take k ++ [(⟨x1, x2, x3, x4, x5⟩ : Qm)]) rfl ho2'.out none _ 0 (S.drop k) rfl (by first | exact HM3.out | (have := HM3.out; have := HSL.out; simp; omega)) (HD3.out _ hb2.out) (by simp; have := HSL.out; omega) (by decide) hb2.out.size ?_; intro v3 w3 hown3 hgrow3; obtain ⟨⟨V3, d3, rfl⟩, f4, f5, hN3⟩ := T3.out v3 w3 hown3 (hb2.out.trans (grown_below ho2'.out hgrow3 hb2.out.size)); clear hown3 hgrow3))
              go_roundg (n3 - (k + 1))
              case measure => omega
              case rel => exact ⟨k + 1, V3, d3, by omega, by omega, by go_num, hN3⟩
          · obtain rfl : V2 = some ⟨g, 0, none⟩ := by cases e; rfl
            clear e hown hz
            go_wp2
            clear hp2 ho2
            go_loopg [8] k (fun gg t5 wr2 => ∃ j, j ≤ k ∧ j ≤ gg ∧ t5 = .int .i64 (j : Nat) ∧ Hid (scanAt ltQm (⟨x1, x2, x3, x4, x5⟩ : Qm) S k = scanAt ltQm (⟨x1, x2, x3, x4, x5⟩ : Qm) S j) ∧ Hid (NSt w wr2 pn A2 n2 c2 (some ⟨bx, ox, none⟩) n3 c3 (.slice V n1 d) (.slice VR n2 dR) (.slice (some ⟨g, 0, none⟩) k d2) q.types (sortR ltRl q.rules) S))
            case atStart => exact ⟨k, Nat.le_refl _, Nat.le_refl _, rfl, rfl, hN⟩
            case round =>
              clear hN
              obtain ⟨j, hjk, hgj, rfl, hsc, hN⟩ := hrel
              by_cases hj0 : j = 0
              · have HJ0 := Lib.hid hj0
                have hj0z : decide (0 < j) = false := decide_eq_false (by omega)
                have hj0y : (0 < j) = False := eq_false (by omega)
                have hj0x : decide ((j : Int) > 0) = false := decide_eq_false (by omega)
                clear hj0
                have hN2 : Hid (NSt w wr.drew pn A2 n2 c2 (some ⟨bx, ox, none⟩) n3 c3 (.slice V n1 d) (.slice VR n2 dR) (.slice (some ⟨g, 0, none⟩) k d2) q.types (sortR ltRl q.rules) S) := hN.out.grow (Below.refl _ _).drew
                clear hN
                go_wp2_with fail
                go_big_region
                generalize wr.drew = W at *
                have hN := hN2
                clear hN2
                have HSC : Hid (scanAt ltQm (⟨x1, x2, x3, x4, x5⟩ : Qm) S k = j) := by
                  have h := hsc.out
                  rw [HJ0.out] at h ⊢
                  exact h
                clear hsc
                have hrS := RS_own_at len_Qm (by omega) (by rw [HSL.out]; omega) HSL.out hN.out.r3
                have hkd : k ≤ d2 := hrS.2
                have HRSS := Lib.hid hrS.1
                have hjs : IntKind.i64.wrap (k : Int) = k := by rw [IntKind.wrap_i64]; omega
                clear hrS
                have hp2 := hN.out.p3
                have ho2 := hN.out.o3
                have HCX2 : Hid (∀ w', Below W.heap.size W w' → ∀ i u, (encQm (⟨x1, x2, x3, x4, x5⟩ : Qm))[i]? = some u → w'.cell? ⟨bx, ox + k * 5 + i, none⟩ = some u) := fun w' h2 i u hu => (h2.cell (p := ⟨bx, ox + k * 5 + i, none⟩) (Nat.lt_of_lt_of_le hbx hN.out.bel.size)).trans ((hN.out.bel.cell (p := ⟨bx, ox + k * 5 + i, none⟩) hbx).trans (HCX.out i u hu))
                have T1 : Hid (∀ v' w', w'.ownsRow W.heap.size 42 5 v' ([] ++ S.take j).length (([] ++ S.take j).flatMap encQm) → Below W.heap.size W w' → Hid (Below W.heap.size W w') ∧ Hid (w'.ownsRow W.heap.size 42 5 v' (S.take j).length ((S.take j).flatMap encQm)) ∧ w'.cell? ⟨w.heap.size, 3, none⟩ = some (.slice (some ⟨bx, ox, none⟩) n3 c3) ∧ (∀ i u, (encQm (⟨x1, x2, x3, x4, x5⟩ : Qm))[i]? = some u → w'.cell? ⟨bx, ox + k * 5 + i, none⟩ = some u)) := by
                  intro v' w' h1 h2
                  rw [List.nil_append] at h1
                  exact ⟨h2, h1, (hN.out.grow h2).p3, HCX2.out w' h2⟩
                have T2 : Hid (∀ v' w', w'.ownsRow W.heap.size 42 5 v' (S.take j ++ [((⟨x1, x2, x3, x4, x5⟩ : Qm) : Qm)]).length ((S.take j ++ [((⟨x1, x2, x3, x4, x5⟩ : Qm) : Qm)]).flatMap encQm) → Below W.heap.size W w' → Hid (Below W.heap.size W w') ∧ Hid (w'.ownsRow W.heap.size 42 5 v' (S.take j ++ [((⟨x1, x2, x3, x4, x5⟩ : Qm) : Qm)]).length ((S.take j ++ [((⟨x1, x2, x3, x4, x5⟩ : Qm) : Qm)]).flatMap encQm)) ∧ w'.cell? ⟨w.heap.size + 2, 3, none⟩ = some (.slice (some ⟨g, 0, none⟩) k d2)) :=
                  fun v' w' h1 h2 => ⟨h2, h1, (hN.out.grow h2).o3⟩
                have T3 : Hid (∀ v' w', w'.ownsRow W.heap.size 42 5 v' ((S.take j ++ [((⟨x1, x2, x3, x4, x5⟩ : Qm) : Qm)]) ++ S.drop j).length (((S.take j ++ [((⟨x1, x2, x3, x4, x5⟩ : Qm) : Qm)]) ++ S.drop j).flatMap encQm) → Below W.heap.size W w' → (∃ V3 d3, v' = .slice V3 (k + 1) d3) ∧ w'.cell? ⟨w.heap.size + 2, 3, none⟩ = some (.slice (some ⟨g, 0, none⟩) k d2) ∧ w'.frozen? ⟨w.heap.size + 2, 3, none⟩ = false ∧ Hid (NSt w (w'.setCell ⟨w.heap.size + 2, 3, none⟩ v') pn A2 n2 c2 (some ⟨bx, ox, none⟩) n3 c3 (.slice V n1 d) (.slice VR n2 dR) v' q.types (sortR ltRl q.rules) (sortR ltQm (q.quorums.take (k + 1))))) := by
                  intro v' w' h1 h2
                  have e : (S.take j ++ [((⟨x1, x2, x3, x4, x5⟩ : Qm) : Qm)]) ++ S.drop j = sortR ltQm (q.quorums.take (k + 1)) := by rw [HNX.out]; unfold insR; rw [HSL.out, HSC.out]
                  rw [e] at h1
                  have hl : (sortR ltQm (q.quorums.take (k + 1))).length = k + 1 := by rw [sortR_length]; have := HN3.out; simp; omega
                  have hN' := hN.out.grow h2
                  refine ⟨by rw [hl] at h1; exact own_slice h1, hN'.o3, hN'.ff 3, hN'.store3 (own_base h1 hN.out.sz)⟩
                have hjk' : (j : Int) ≤ (d2 : Int) := by omega
                have hj0' : (0 : Int) ≤ (j : Int) := by omega
                have hjk2 : (j : Int) ≤ (k : Int) := by omega
                by_cases hjd : j = d2
                · have HJD := Lib.hid hjd
                  subst hjd
                  have HM3 : Hid (k - j = (S.drop j).length) := by show _ = _; have := HSL.out; simp; omega
                  have HD3 : Hid (∀ w', Below W.heap.size W w' → RS encQm 5 w' (some ⟨g, 0, none⟩) (S.drop j)) := fun w' h => by rw [List.drop_of_length_le (by have := HSL.out; omega)]; exact RS_nil _ _ _ _
                  go_wp2_with (first | (at_builtin; refine wpList_append_rs len_Qm one_Qm rfl _ _ 24 rfl W.heap.size 42 iQ _ 40 Tryd.underlying24 hiQ hzQ hkQ hbQ rfl (by decide) _ [] rfl (World.ownsRow_nil _ _ _ _) (some ⟨g, 0, none⟩) j _ (S.take j) rfl (by simp; have := HSL.out; omega) (HRSS.out.take _ (by have := HSL.out; omega)) (by simp; omega) (by decide) (Nat.le_refl _) ?_; intro v1 w1 hown1 hgrow1; obtain ⟨hb1, ho1, f1, f2⟩ := T1.out v1 w1 hown1 (grown_below (World.ownsRow_nil _ _ 0 0) hgrow1 (Nat.le_refl _)); have c0 := f2 0 _ rfl; have c1' := f2 1 _ rfl; have c2' := f2 2 _ rfl; have c3' := f2 3 _ rfl; have c4' := f2 4 _ rfl; simp only [Nat.add_zero] at c0; clear hown1 hgrow1 f2) | (at_builtin; refine wpList_append_rs len_Qm one_Qm rfl _ _ 24 rfl W.heap.size 42 iQ _ 40 Tryd.underlying24 hiQ hzQ hkQ hbQ rfl (by decide) _ (S.take j) rfl (own_below ho1.out ((Below.refl _ _).alloc (Nat.le_refl _) _)) (some ⟨w1.heap.size, 0, none⟩) 1 1 [(⟨x1, x2, x3, x4, x5⟩ : Qm)] rfl rfl (RS_lit len_Qm (by simp) (by simp) (fun i u hu => alloc_lit _ _ _ i u hu)) (by simp; omega) (by decide) (by have := hb1.out.size; simp; omega) ?_; intro v2 w2 hown2 hgrow2; obtain ⟨hb2, ho2', f3⟩ := T2.out v2 w2 hown2 ((hb1.out.alloc hb1.out.size _).trans (grown_below (own_below ho1.out ((Below.refl _ _).alloc (Nat.le_refl _) _)) hgrow2 (by have := hb1.out.size; simp; omega))); clear hown2 hgrow2) | (at_builtin; refine wpList_append_rs len_Qm one_Qm rfl _ _ 24 rfl W.heap.size 42 iQ _ 40 Tryd.underlying24 hiQ hzQ hkQ hbQ rfl (by decide) _ (S.take j ++ [(⟨x1, x2, x3, x4, x5⟩ : Qm)]) rfl ho2'.out (some ⟨g, 0, none⟩) _ 0 (S.drop j) rfl (by first | exact HM3.out | (have := HM3.out; have := HSL.out; simp; omega)) (HD3.out _ hb2.out) (by simp; have := HSL.out; omega) (by decide) hb2.out.size ?_; intro v3 w3 hown3 hgrow3; obtain ⟨⟨V3, d3, rfl⟩, f4, f5, hN3⟩ := T3.out v3 w3 hown3 (hb2.out.trans (grown_below ho2'.out hgrow3 hb2.out.size)); clear hown3 hgrow3))
                  go_roundg (n3 - (k + 1))
                  case measure => omega
                  case rel => exact ⟨k + 1, V3, d3, by omega, by omega, by go_num, hN3⟩
                · have hjd' : ¬ d2 = j := fun e => hjd e.symm
                  clear hjd
                  have HM3 : Hid (k - j = (S.drop j).length) := by show _ = _; have := HSL.out; simp; omega
                  have HD3 : Hid (∀ w', Below W.heap.size W w' → RS encQm 5 w' (some ⟨g, j * 5, none⟩) (S.drop j)) := fun w' h => by have := (HRSS.out.below h).drop j; rwa [Nat.zero_add] at this
                  go_wp2_with (first | (at_builtin; refine wpList_append_rs len_Qm one_Qm rfl _ _ 24 rfl W.heap.size 42 iQ _ 40 Tryd.underlying24 hiQ hzQ hkQ hbQ rfl (by decide) _ [] rfl (World.ownsRow_nil _ _ _ _) (some ⟨g, 0, none⟩) j _ (S.take j) rfl (by simp; have := HSL.out; omega) (HRSS.out.take _ (by have := HSL.out; omega)) (by simp; omega) (by decide) (Nat.le_refl _) ?_; intro v1 w1 hown1 hgrow1; obtain ⟨hb1, ho1, f1, f2⟩ := T1.out v1 w1 hown1 (grown_below (World.ownsRow_nil _ _ 0 0) hgrow1 (Nat.le_refl _)); have c0 := f2 0 _ rfl; have c1' := f2 1 _ rfl; have c2' := f2 2 _ rfl; have c3' := f2 3 _ rfl; have c4' := f2 4 _ rfl; simp only [Nat.add_zero] at c0; clear hown1 hgrow1 f2) | (at_builtin; refine wpList_append_rs len_Qm one_Qm rfl _ _ 24 rfl W.heap.size 42 iQ _ 40 Tryd.underlying24 hiQ hzQ hkQ hbQ rfl (by decide) _ (S.take j) rfl (own_below ho1.out ((Below.refl _ _).alloc (Nat.le_refl _) _)) (some ⟨w1.heap.size, 0, none⟩) 1 1 [(⟨x1, x2, x3, x4, x5⟩ : Qm)] rfl rfl (RS_lit len_Qm (by simp) (by simp) (fun i u hu => alloc_lit _ _ _ i u hu)) (by simp; omega) (by decide) (by have := hb1.out.size; simp; omega) ?_; intro v2 w2 hown2 hgrow2; obtain ⟨hb2, ho2', f3⟩ := T2.out v2 w2 hown2 ((hb1.out.alloc hb1.out.size _).trans (grown_below (own_below ho1.out ((Below.refl _ _).alloc (Nat.le_refl _) _)) hgrow2 (by have := hb1.out.size; simp; omega))); clear hown2 hgrow2) | (at_builtin; refine wpList_append_rs len_Qm one_Qm rfl _ _ 24 rfl W.heap.size 42 iQ _ 40 Tryd.underlying24 hiQ hzQ hkQ hbQ rfl (by decide) _ (S.take j ++ [(⟨x1, x2, x3, x4, x5⟩ : Qm)]) rfl ho2'.out (some ⟨g, j * 5, none⟩) _ (d2 - j) (S.drop j) rfl (by first | exact HM3.out | (have := HM3.out; have := HSL.out; simp; omega)) (HD3.out _ hb2.out) (by simp; have := HSL.out; omega) (by decide) hb2.out.size ?_; intro v3 w3 hown3 hgrow3; obtain ⟨⟨V3, d3, rfl⟩, f4, f5, hN3⟩ := T3.out v3 w3 hown3 (hb2.out.trans (grown_below ho2'.out hgrow3 hb2.out.size)); clear hown3 hgrow3))
                  go_roundg (n3 - (k + 1))
                  case measure => omega
                  case rel => exact ⟨k + 1, V3, d3, by omega, by omega, by go_num, hN3⟩
              · obtain ⟨jp, rfl⟩ : ∃ jp, j = jp + 1 := ⟨j - 1, by omega⟩
                clear hj0
                have hcy := (RS_own_at len_Qm (by omega) (by rw [HSL.out]; omega) HSL.out hN.out.r3).1.at (Below.refl _ _) jp (by rw [HSL.out]; omega)
                obtain ⟨g', o', e', hbg, hcy⟩ := hcy
                obtain ⟨rfl, rfl⟩ : g = g' ∧ o' = 0 := by cases e'; exact ⟨rfl, rfl⟩
                clear e'
                have hcx2 : ∀ i u, (encQm (⟨x1, x2, x3, x4, x5⟩ : Qm))[i]? = some u → wr.cell? ⟨bx, ox + k * 5 + i, none⟩ = some u := fun i u hu => (hN.out.bel.cell (p := ⟨bx, ox + k * 5 + i, none⟩) hbx).trans (HCX.out i u hu)
                have HSS : Hid (scanAt ltQm (⟨x1, x2, x3, x4, x5⟩ : Qm) S (jp + 1) = if ltQm (⟨x1, x2, x3, x4, x5⟩ : Qm) S[jp]! = true then scanAt ltQm (⟨x1, x2, x3, x4, x5⟩ : Qm) S jp else jp + 1) := rfl
                generalize S[jp]! = y at *
                obtain ⟨y1, y2, y3, y4, y5⟩ := y
                have HHB : Hid (∀ w' : World, True) := fun w' => trivial
                obtain ⟨bv, hbv⟩ : ∃ bv, ltQm (⟨x1, x2, x3, x4, x5⟩ : Qm) (⟨y1, y2, y3, y4, y5⟩ : Qm) = bv := ⟨_, rfl⟩
                try rw [hbv] at HHB
                rw [hbv] at HSS
                have HLT : Hid (decide (x1 < y1) = bv) := hbv
                clear hbv
                have hp2 := fun p : Grows wr => Grows.cell hN.out.p3 p
                have ho2 := fun p : Grows wr => Grows.cell hN.out.o3 p
                have a0 := fun p : Grows wr => Grows.cell (hcx2 0 _ rfl) p
                have a1 := fun p : Grows wr => Grows.cell (hcx2 1 _ rfl) p
                have a2 := fun p : Grows wr => Grows.cell (hcx2 2 _ rfl) p
                have b0 := fun p : Grows wr => Grows.cell (hcy 0 _ rfl) p
                have b1 := fun p : Grows wr => Grows.cell (hcy 1 _ rfl) p
                have b2 := fun p : Grows wr => Grows.cell (hcy 2 _ rfl) p
                simp only [Nat.add_zero, Nat.zero_add] at a0 b0 b1 b2
                clear hcx2 hcy
                have hwp : IntKind.i64.wrap (jp : Int) = (jp : Int) := by rw [IntKind.wrap_i64]; omega
                have hws : IntKind.i64.wrap ((jp : Int) + 1 - 1) = (jp : Int) := by rw [IntKind.wrap_i64]; omega
                have jz1 : (jp : Int) < (k : Int) := by omega
                have jz2 : (0 : Int) ≤ (jp : Int) := by omega
                have jz3 : (0 : Int) < (jp : Int) + 1 := by omega
                have p0 : (0 : Int) ≤ (jp : Int) + 1 := by omega
                have kz0 : (0 : Int) ≤ (k : Int) := by omega
                have e0 : ((jp : Int) + 1).toNat = jp + 1 := by omega
                cases bv with
                | true =>
                  have hxy : x1 < y1 := of_decide_eq_true HLT.out
                  go_wp2_with fail
                  (refine wp_region_grows (by kernel_rfl) (by kernel_rfl) ?_; (repeat quiet_step (fail)); refine wpQuiet_nil ?_; intro _ hw'; obtain ⟨gw, hw''⟩ := hw'; subst hw'')
                  have hJ2 := hN.out.grow gw.h
                  clear hp2 ho2 a0 a1 a2 b0 b1 b2 HHB hN
                  generalize gw.w = W at *
                  have hN := Lib.hid hJ2
                  clear hJ2
                  go_wp2
                  go_roundg jp
                  case measure => omega
                  case rel => exact ⟨jp, by omega, by omega, by go_num, by show _ = _; rw [hsc.out, HSS.out]; first | rfl | simp, hN⟩
                | false =>
                  have hxy : decide (x1 < y1) = false := HLT.out
                  go_wp2_with fail
                  (refine wp_region_grows (by kernel_rfl) (by kernel_rfl) ?_; (repeat quiet_step (fail)); refine wpQuiet_nil ?_; intro _ hw'; obtain ⟨gw, hw''⟩ := hw'; subst hw'')
                  have hJ2 := hN.out.grow gw.h
                  clear hp2 ho2 a0 a1 a2 b0 b1 b2 HHB hN
                  generalize gw.w = W at *
                  have hN := Lib.hid hJ2
                  clear hJ2
                  have HSC : Hid (scanAt ltQm (⟨x1, x2, x3, x4, x5⟩ : Qm) S k = jp + 1) := by show _ = _; rw [hsc.out, HSS.out]; first | rfl | simp
                  clear hsc HSS
                  have hrS := RS_own_at len_Qm (by omega) (by rw [HSL.out]; omega) HSL.out hN.out.r3
                  have hkd : k ≤ d2 := hrS.2
                  have HRSS := Lib.hid hrS.1
                  have hjs : IntKind.i64.wrap (k : Int) = k := by rw [IntKind.wrap_i64]; omega
                  clear hrS
                  have hp2 := hN.out.p3
                  have ho2 := hN.out.o3
                  have HCX2 : Hid (∀ w', Below W.heap.size W w' → ∀ i u, (encQm (⟨x1, x2, x3, x4, x5⟩ : Qm))[i]? = some u → w'.cell? ⟨bx, ox + k * 5 + i, none⟩ = some u) := fun w' h2 i u hu => (h2.cell (p := ⟨bx, ox + k * 5 + i, none⟩) (Nat.lt_of_lt_of_le hbx hN.out.bel.size)).trans ((hN.out.bel.cell (p := ⟨bx, ox + k * 5 + i, none⟩) hbx).trans (HCX.out i u hu))
                  have T1 : Hid (∀ v' w', w'.ownsRow W.heap.size 42 5 v' ([] ++ S.take (jp + 1)).length (([] ++ S.take (jp + 1)).flatMap encQm) → Below W.heap.size W w' → Hid (Below W.heap.size W w') ∧ Hid (w'.ownsRow W.heap.size 42 5 v' (S.take (jp + 1)).length ((S.take (jp + 1)).flatMap encQm)) ∧ w'.cell? ⟨w.heap.size, 3, none⟩ = some (.slice (some ⟨bx, ox, none⟩) n3 c3) ∧ (∀ i u, (encQm (⟨x1, x2, x3, x4, x5⟩ : Qm))[i]? = some u → w'.cell? ⟨bx, ox + k * 5 + i, none⟩ = some u)) := by
                    intro v' w' h1 h2
                    rw [List.nil_append] at h1
                    exact ⟨h2, h1, (hN.out.grow h2).p3, HCX2.out w' h2⟩
                  have T2 : Hid (∀ v' w', w'.ownsRow W.heap.size 42 5 v' (S.take (jp + 1) ++ [((⟨x1, x2, x3, x4, x5⟩ : Qm) : Qm)]).length ((S.take (jp + 1) ++ [((⟨x1, x2, x3, x4, x5⟩ : Qm) : Qm)]).flatMap encQm) → Below W.heap.size W w' → Hid (Below W.heap.size W w') ∧ Hid (w'.ownsRow W.heap.size 42 5 v' (S.take (jp + 1) ++ [((⟨x1, x2, x3, x4, x5⟩ : Qm) : Qm)]).length ((S.take (jp + 1) ++ [((⟨x1, x2, x3, x4, x5⟩ : Qm) : Qm)]).flatMap encQm)) ∧ w'.cell? ⟨w.heap.size + 2, 3, none⟩ = some (.slice (some ⟨g, 0, none⟩) k d2)) :=
                    fun v' w' h1 h2 => ⟨h2, h1, (hN.out.grow h2).o3⟩
                  have T3 : Hid (∀ v' w', w'.ownsRow W.heap.size 42 5 v' ((S.take (jp + 1) ++ [((⟨x1, x2, x3, x4, x5⟩ : Qm) : Qm)]) ++ S.drop (jp + 1)).length (((S.take (jp + 1) ++ [((⟨x1, x2, x3, x4, x5⟩ : Qm) : Qm)]) ++ S.drop (jp + 1)).flatMap encQm) → Below W.heap.size W w' → (∃ V3 d3, v' = .slice V3 (k + 1) d3) ∧ w'.cell? ⟨w.heap.size + 2, 3, none⟩ = some (.slice (some ⟨g, 0, none⟩) k d2) ∧ w'.frozen? ⟨w.heap.size + 2, 3, none⟩ = false ∧ Hid (NSt w (w'.setCell ⟨w.heap.size + 2, 3, none⟩ v') pn A2 n2 c2 (some ⟨bx, ox, none⟩) n3 c3 (.slice V n1 d) (.slice VR n2 dR) v' q.types (sortR ltRl q.rules) (sortR ltQm (q.quorums.take (k + 1))))) := by
                    intro v' w' h1 h2
                    have e : (S.take (jp + 1) ++ [((⟨x1, x2, x3, x4, x5⟩ : Qm) : Qm)]) ++ S.drop (jp + 1) = sortR ltQm (q.quorums.take (k + 1)) := by rw [HNX.out]; unfold insR; rw [HSL.out, HSC.out]
                    rw [e] at h1
                    have hl : (sortR ltQm (q.quorums.take (k + 1))).length = k + 1 := by rw [sortR_length]; have := HN3.out; simp; omega
                    have hN' := hN.out.grow h2
                    refine ⟨by rw [hl] at h1; exact own_slice h1, hN'.o3, hN'.ff 3, hN'.store3 (own_base h1 hN.out.sz)⟩
                  have hjk' : ((jp + 1) : Int) ≤ (d2 : Int) := by omega
                  have hj0' : (0 : Int) ≤ ((jp + 1) : Int) := by omega
                  have hjk2 : ((jp + 1) : Int) ≤ (k : Int) := by omega
                  by_cases hjd : (jp + 1) = d2
                  · have HJD := Lib.hid hjd
                    subst hjd
                    have HM3 : Hid (k - (jp + 1) = (S.drop (jp + 1)).length) := by show _ = _; have := HSL.out; simp; omega
                    have HD3 : Hid (∀ w', Below W.heap.size W w' → RS encQm 5 w' (some ⟨g, 0, none⟩) (S.drop (jp + 1))) := fun w' h => by rw [List.drop_of_length_le (by have := HSL.out; omega)]; exact RS_nil _ _ _ _
                    go_wp2_with (first | (at_builtin; refine wpList_append_rs len_Qm one_Qm rfl _ _ 24 rfl W.heap.size 42 iQ _ 40 Tryd.underlying24 hiQ hzQ hkQ hbQ rfl (by decide) _ [] rfl (World.ownsRow_nil _ _ _ _) (some ⟨g, 0, none⟩) (jp + 1) _ (S.take (jp + 1)) rfl (by simp; have := HSL.out; omega) (HRSS.out.take _ (by have := HSL.out; omega)) (by simp; omega) (by decide) (Nat.le_refl _) ?_; intro v1 w1 hown1 hgrow1; obtain ⟨hb1, ho1, f1, f2⟩ := T1.out v1 w1 hown1 (grown_below (World.ownsRow_nil _ _ 0 0) hgrow1 (Nat.le_refl _)); have c0 := f2 0 _ rfl; have c1' := f2 1 _ rfl; have c2' := f2 2 _ rfl; have c3' := f2 3 _ rfl; have c4' := f2 4 _ rfl; simp only [Nat.add_zero] at c0; clear hown1 hgrow1 f2) | (at_builtin; refine wpList_append_rs len_Qm one_Qm rfl _ _ 24 rfl W.heap.size 42 iQ _ 40 Tryd.underlying24 hiQ hzQ hkQ hbQ rfl (by decide) _ (S.take (jp + 1)) rfl (own_below ho1.out ((Below.refl _ _).alloc (Nat.le_refl _) _)) (some ⟨w1.heap.size, 0, none⟩) 1 1 [(⟨x1, x2, x3, x4, x5⟩ : Qm)] rfl rfl (RS_lit len_Qm (by simp) (by simp) (fun i u hu => alloc_lit _ _ _ i u hu)) (by simp; omega) (by decide) (by have := hb1.out.size; simp; omega) ?_; intro v2 w2 hown2 hgrow2; obtain ⟨hb2, ho2', f3⟩ := T2.out v2 w2 hown2 ((hb1.out.alloc hb1.out.size _).trans (grown_below (own_below ho1.out ((Below.refl _ _).alloc (Nat.le_refl _) _)) hgrow2 (by have := hb1.out.size; simp; omega))); clear hown2 hgrow2) | (at_builtin; refine wpList_append_rs len_Qm one_Qm rfl _ _ 24 rfl W.heap.size 42 iQ _ 40 Tryd.underlying24 hiQ hzQ hkQ hbQ rfl (by decide) _ (S.take (jp + 1) ++ [(⟨x1, x2, x3, x4, x5⟩ : Qm)]) rfl ho2'.out (some ⟨g, 0, none⟩) _ 0 (S.drop (jp + 1)) rfl (by first | exact HM3.out | (have := HM3.out; have := HSL.out; simp; omega)) (HD3.out _ hb2.out) (by simp; have := HSL.out; omega) (by decide) hb2.out.size ?_; intro v3 w3 hown3 hgrow3; obtain ⟨⟨V3, d3, rfl⟩, f4, f5, hN3⟩ := T3.out v3 w3 hown3 (hb2.out.trans (grown_below ho2'.out hgrow3 hb2.out.size)); clear hown3 hgrow3))
                    go_roundg (n3 - (k + 1))
                    case measure => omega
                    case rel => exact ⟨k + 1, V3, d3, by omega, by omega, by go_num, hN3⟩
                  · have hjd' : ¬ d2 = (jp + 1) := fun e => hjd e.symm
                    clear hjd
                    have HM3 : Hid (k - (jp + 1) = (S.drop (jp + 1)).length) := by show _ = _; have := HSL.out; simp; omega
                    have HD3 : Hid (∀ w', Below W.heap.size W w' → RS encQm 5 w' (some ⟨g, (jp + 1) * 5, none⟩) (S.drop (jp + 1))) := fun w' h => by have := (HRSS.out.below h).drop (jp + 1); rwa [Nat.zero_add] at this
                    go_wp2_with (first | (at_builtin; refine wpList_append_rs len_Qm one_Qm rfl _ _ 24 rfl W.heap.size 42 iQ _ 40 Tryd.underlying24 hiQ hzQ hkQ hbQ rfl (by decide) _ [] rfl (World.ownsRow_nil _ _ _ _) (some ⟨g, 0, none⟩) (jp + 1) _ (S.take (jp + 1)) rfl (by simp; have := HSL.out; omega) (HRSS.out.take _ (by have := HSL.out; omega)) (by simp; omega) (by decide) (Nat.le_refl _) ?_; intro v1 w1 hown1 hgrow1; obtain ⟨hb1, ho1, f1, f2⟩ := T1.out v1 w1 hown1 (grown_below (World.ownsRow_nil _ _ 0 0) hgrow1 (Nat.le_refl _)); have c0 := f2 0 _ rfl; have c1' := f2 1 _ rfl; have c2' := f2 2 _ rfl; have c3' := f2 3 _ rfl; have c4' := f2 4 _ rfl; simp only [Nat.add_zero] at c0; clear hown1 hgrow1 f2) | (at_builtin; refine wpList_append_rs len_Qm one_Qm rfl _ _ 24 rfl W.heap.size 42 iQ _ 40 Tryd.underlying24 hiQ hzQ hkQ hbQ rfl (by decide) _ (S.take (jp + 1)) rfl (own_below ho1.out ((Below.refl _ _).alloc (Nat.le_refl _) _)) (some ⟨w1.heap.size, 0, none⟩) 1 1 [(⟨x1, x2, x3, x4, x5⟩ : Qm)] rfl rfl (RS_lit len_Qm (by simp) (by simp) (fun i u hu => alloc_lit _ _ _ i u hu)) (by simp; omega) (by decide) (by have := hb1.out.size; simp; omega) ?_; intro v2 w2 hown2 hgrow2; obtain ⟨hb2, ho2', f3⟩ := T2.out v2 w2 hown2 ((hb1.out.alloc hb1.out.size _).trans (grown_below (own_below ho1.out ((Below.refl _ _).alloc (Nat.le_refl _) _)) hgrow2 (by have := hb1.out.size; simp; omega))); clear hown2 hgrow2) | (at_builtin; refine wpList_append_rs len_Qm one_Qm rfl _ _ 24 rfl W.heap.size 42 iQ _ 40 Tryd.underlying24 hiQ hzQ hkQ hbQ rfl (by decide) _ (S.take (jp + 1) ++ [(⟨x1, x2, x3, x4, x5⟩ : Qm)]) rfl ho2'.out (some ⟨g, (jp + 1) * 5, none⟩) _ (d2 - (jp + 1)) (S.drop (jp + 1)) rfl (by first | exact HM3.out | (have := HM3.out; have := HSL.out; simp; omega)) (HD3.out _ hb2.out) (by simp; have := HSL.out; omega) (by decide) hb2.out.size ?_; intro v3 w3 hown3 hgrow3; obtain ⟨⟨V3, d3, rfl⟩, f4, f5, hN3⟩ := T3.out v3 w3 hown3 (hb2.out.trans (grown_below ho2'.out hgrow3 hb2.out.size)); clear hown3 hgrow3))
                    go_roundg (n3 - (k + 1))
                    case measure => omega
                    case rel => exact ⟨k + 1, V3, d3, by omega, by omega, by go_num, hN3⟩
        · obtain rfl : n3 = k := by omega
          have hltz : ¬ (n3 : Int) < (n3 : Int) := by omega
          have hp2 := hN.out.p3
          rw [List.take_of_length_le (by rw [HN3.out]; exact Nat.le_refl _)] at hN
          clear hlt hk hg
          have o0 := hN.out.o0; have o1 := hN.out.o1; have o2 := hN.out.o2; have o3 := hN.out.o3
          have u0 := hN.out.u0; have u1 := hN.out.u1; have u2 := hN.out.u2; have u3 := hN.out.u3; have uf := hN.out.uf
          have HFIN : Hid (OwnP (normS q) w (.returned (.agg #[.string pn, .slice V n1 d, .slice VR n2 dR, .slice V2 n3 d2])) ((((wr.setCell ⟨w.heap.size + 1, 0, none⟩ (.string pn)).setCell ⟨w.heap.size + 1, 1, none⟩ (.slice V n1 d)).setCell ⟨w.heap.size + 1, 2, none⟩ (.slice VR n2 dR)).setCell ⟨w.heap.size + 1, 3, none⟩ (.slice V2 n3 d2))) := by
            have h1' := hN.out.r1
            have h2' := hN.out.r2
            have h3' := hN.out.r3
            have st : ∀ {W : World} {T k : Nat} {v : Value} {n : Nat} {xs : List Value} (u0 u1 u2 u3 : Value), W.ownsRow (w.heap.size + 3) T k v n xs → ((((W.setCell ⟨w.heap.size + 1, 0, none⟩ u0).setCell ⟨w.heap.size + 1, 1, none⟩ u1).setCell ⟨w.heap.size + 1, 2, none⟩ u2).setCell ⟨w.heap.size + 1, 3, none⟩ u3).ownsRow w.heap.size T k v n xs := fun _ _ _ _ h =>
              own_base (ownsRow_setCell_below (ownsRow_setCell_below (ownsRow_setCell_below (ownsRow_setCell_below h (by simp) _) (by simp) _) (by simp) _) (by simp) _) (by omega)
            refine ⟨.slice V n1 d, .slice VR n2 dR, .slice V2 n3 d2, by rw [← HPN.out]; rfl, st _ _ _ _ h1', st _ _ _ _ h2', st _ _ _ _ h3', ?_⟩
            exact (((hN.out.bel.setCell (by simp) _).setCell (by simp) _).setCell (by simp) _).setCell (by simp) _
          obtain ⟨q0, q1, q2, q3⟩ := cells_four wr (w.heap.size + 1) _ _ _ _ (.string pn) (.slice V n1 d) (.slice VR n2 dR) (.slice V2 n3 d2) u0 u1 u2 u3
          go_wp2
          generalize ((((wr.setCell ⟨w.heap.size + 1, 0, none⟩ (.string pn)).setCell ⟨w.heap.size + 1, 1, none⟩ (.slice V n1 d)).setCell ⟨w.heap.size + 1, 2, none⟩ (.slice VR n2 dR)).setCell ⟨w.heap.size + 1, 3, none⟩ (.slice V2 n3 d2)) = w4 at *
          refine bodyPost_ret (by simp [results, Tryd.results19, go_sem, q0, q1, q2, q3]; try rfl) rfl ?_
          exact HFIN.out
end Go.Proofs.YtemkffejekgmfaaDoor
