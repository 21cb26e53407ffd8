/- slices.symMergeCmpFunc at the structs: two sorted stretches become one. -/
import Derived.Test.YtemkffejekgmfaaDoorK5
namespace Go.Proofs.YtemkffejekgmfaaDoor
open Go.RowKit Go.Shelf Go.Lib

theorem get_app1 {α : Type} [Inhabited α] (U V : List α) (n : Nat) (h : n < U.length) : (U ++ V)[n]! = U[n]! := by
  simp only [List.getElem!_eq_getElem?_getD]
  rw [List.getElem?_append_left h]
theorem get_app0 {α : Type} [Inhabited α] (U V : List α) (n : Nat) (h : U.length ≤ n) : (U ++ V)[n]! = V[n - U.length]! := by
  simp only [List.getElem!_eq_getElem?_getD]
  rw [List.getElem?_append_right h]
/-- Where the search ends, the two rows may be cut. -/
theorem sym_cut {α : Type} [Inhabited α] {lt : α → α → Bool} (hO : Ord lt) (U V : List α) (a m b mid s e : Nat) (hU : a + U.length = m) (hV : m + V.length = b) (hmid : mid = (a + b) / 2) (he : s + e = mid + m)
    (s0 r0 : Nat) (h0 : (mid < m ∧ s0 + b = mid + m ∧ r0 = mid) ∨ (m ≤ mid ∧ s0 = a ∧ r0 = m)) (h1 : s0 ≤ s) (h2 : s ≤ r0) (sU : Srt lt U) (sV : Srt lt V)
    (f1 : s = s0 ∨ lt V[e - m]! U[s - 1 - a]! = false) (f2 : s = r0 ∨ lt V[e - 1 - m]! U[s - a]! = true) :
    sortR lt (U ++ V) = sortR lt (U.take (s - a) ++ V.take (e - m)) ++ sortR lt (U.drop (s - a) ++ V.drop (e - m)) := by
  have hu : U.take (s - a) ++ U.drop (s - a) = U := List.take_append_drop _ _
  have hv : V.take (e - m) ++ V.drop (e - m) = V := List.take_append_drop _ _
  have := merge_cut hO (U.take (s - a)) (U.drop (s - a)) (V.take (e - m)) (V.drop (e - m)) (by rw [hu]; exact sU) (by rw [hv]; exact sV) (fun u hu v hv => by
    obtain ⟨q, q1, q2, rfl⟩ := mem_drop_get hu
    obtain ⟨q', q3, q4, rfl⟩ := mem_take_get hv
    rcases f2 with f2 | f2
    · omega
    · exact hO.lt_le (hO.le_lt (sV.le hO q' (e - 1 - m) (by omega) (by omega)) f2) (sU.le hO (s - a) q q1 q2)) (fun u hu v hv => by
    obtain ⟨q, q1, q2, rfl⟩ := mem_take_get hu
    obtain ⟨q', q3, q4, rfl⟩ := mem_drop_get hv
    rcases f1 with f1 | f1
    · omega
    · exact hO.neg _ _ _ (hO.neg _ _ _ (sU.le hO q (s - 1 - a) (by omega) (by omega)) f1) (sV.le hO (e - m) q' q3 q4))
  rw [hu, hv] at this
  exact this

set_option maxRecDepth 100000 in
set_option maxHeartbeats 8000000 in
theorem symMerge_Rule (hO : Ord (ltC cfRl)) (T : TypeId) (W0 : World) (B blk cap len : Nat) (hc : len ≤ 140737488355328) : ∀ (N a m b : Nat) (P U V Q : List Rl) (W : World), b - a ≤ N → SO encRl 3 T W0 B blk cap (P ++ (U ++ (V ++ Q))) W → 
    (P ++ (U ++ (V ++ Q))).length = len → P.length = a → a + U.length = m → m + V.length = b → a < m → m < b → Srt (ltC cfRl) U → Srt (ltC cfRl) V → 
    Calls Tryd.prog 64 #[.slice (some ⟨blk, 0, none⟩) len cap, .int .i64 a, .int .i64 m, .int .i64 b, .func (.func 32) #[] #[]] W fun e w' => e = .returned (.tuple #[]) ∧ SO encRl 3 T W0 B blk cap (P ++ (sortR (ltC cfRl) (U ++ V) ++ Q)) w' := by
  intro N
  induction N with
  | zero => intro a m b P U V Q W hN _ _ _ _ _ h1 h2; omega
  | succ N ih =>
    intro a m b P U V Q W hN hso hlen hP hU hV ham hmb sU sV
    have IH := Lib.hid ih
    clear ih
    by_cases hA : a + 1 = m
    · obtain ⟨z, rfl⟩ : ∃ z, U = [z] := List.length_eq_one_iff.1 (by omega)
      exact symMergeL_Rule hO T W0 B blk cap len hc a m b P V Q z W (by simpa using hso) (by simpa using hlen) hP hA hV hmb sV
    by_cases hB : m + 1 = b
    · obtain ⟨z, rfl⟩ : ∃ z, V = [z] := List.length_eq_one_iff.1 (by omega)
      exact symMergeR_Rule hO T W0 B blk cap len hc a m b P U Q z W (by simpa using hso) (by simpa using hlen) hP hU hB (by omega) sU
    have hbl : b ≤ len := by rw [← hlen]; simp; omega
    have z0 : (m : Int) - (a : Int) = ((m - a : Nat) : Int) := by omega
    have z2 : IntKind.i64.wrap ((m - a : Nat) : Int) = ((m - a : Nat) : Int) := by rw [IntKind.wrap_i64]; omega
    have z3 : ¬ ((m - a : Nat) : Int) = 1 := by omega
    have z4 : (((m - a : Nat) : Int) == 1) = false := by simp; omega
    have y0 : (b : Int) - (m : Int) = ((b - m : Nat) : Int) := by omega
    have y2 : IntKind.i64.wrap ((b - m : Nat) : Int) = ((b - m : Nat) : Int) := by rw [IntKind.wrap_i64]; omega
    have y3 : ¬ ((b - m : Nat) : Int) = 1 := by omega
    have y4 : (((b - m : Nat) : Int) == 1) = false := by simp; omega
    obtain ⟨mid, hmid⟩ : ∃ mid, (a + b) / 2 = mid := ⟨_, rfl⟩
    have hmidz : ((a : Int) + (b : Int)) / 2 = (mid : Int) := by omega
    have hab1 : IntKind.i64.wrap ((a : Int) + (b : Int)) = (a : Int) + (b : Int) := by rw [IntKind.wrap_i64]; omega
    have hab2 : IntKind.u64.wrap ((a : Int) + (b : Int)) = (a : Int) + (b : Int) := by rw [IntKind.wrap_u64]; omega
    obtain ⟨n, hn⟩ : ∃ n, mid + m = n := ⟨_, rfl⟩
    have hnz : (mid : Int) + (m : Int) = (n : Int) := by omega
    have hnw : IntKind.i64.wrap (n : Int) = (n : Int) := by rw [IntKind.wrap_i64]; omega
    obtain ⟨p, hp⟩ : ∃ p, p + 1 = n := ⟨n - 1, by omega⟩
    have hpz : (n : Int) - 1 = (p : Int) := by omega
    have hpw : IntKind.i64.wrap (p : Int) = (p : Int) := by rw [IntKind.wrap_i64]; omega
    have gU : ∀ q, a ≤ q → q < m → (P ++ (U ++ (V ++ Q)))[q]! = U[q - a]! := fun q h1 h2 => by rw [get_app2 _ _ _ _ (by omega) (by omega), hP]
    have gV : ∀ q, m ≤ q → q < b → (P ++ (U ++ (V ++ Q)))[q]! = V[q - m]! := fun q h1 h2 => by
      rw [← List.append_assoc, get_app2 _ _ _ _ (by simp; omega) (by simp; omega)]; simp [show q - (P.length + U.length) = q - m by omega]
    -- the three calls behind the search
    have HEND : Hid (∀ s0 r0 s e, ((mid < m ∧ s0 + b = mid + m ∧ r0 = mid) ∨ (m ≤ mid ∧ s0 = a ∧ r0 = m)) → s0 ≤ s → s ≤ r0 → s + e = n → (s = s0 ∨ ltC cfRl V[e - m]! U[s - 1 - a]! = false) → (s = r0 ∨ ltC cfRl V[e - 1 - m]! U[s - a]! = true) →
        a ≤ s ∧ s ≤ m ∧ m ≤ e ∧ e ≤ b ∧ sortR (ltC cfRl) (U ++ V) = sortR (ltC cfRl) (U.take (s - a) ++ V.take (e - m)) ++ sortR (ltC cfRl) (U.drop (s - a) ++ V.drop (e - m))) := by
      intro s0 r0 s e h0 h1 h2 he f1 f2
      exact ⟨by omega, by omega, by omega, by omega, sym_cut hO U V a m b mid s e hU hV hmid.symm (by omega) s0 r0 h0 h1 h2 sU sV f1 f2⟩
    have HROT : Hid (∀ s e w', a ≤ s → s ≤ m → m ≤ e → e ≤ b → SO encRl 3 T W0 B blk cap (P ++ (U ++ (V ++ Q))) w' → s < m → m < e → Calls Tryd.prog 67 #[.slice (some ⟨blk, 0, none⟩) len cap, .int .i64 s, .int .i64 m, .int .i64 e, .func (.func 32) #[] #[]] w' fun e' w' => e' = .returned (.tuple #[]) ∧ Hid (SO encRl 3 T W0 B blk cap (P ++ (U.take (s - a) ++ (V.take (e - m) ++ (U.drop (s - a) ++ (V.drop (e - m) ++ Q))))) w')) := by
      intro s e w' h1 h2 h3 h4 hs h5 h6
      have := rotate_Rule s m e (P ++ (U ++ (V ++ Q))) (P ++ (U.take (s - a) ++ (V.take (e - m) ++ (U.drop (s - a) ++ (V.drop (e - m) ++ Q))))) T W0 B blk cap (.func (.func 32) #[] #[]) w' hs (by omega)
        ⟨P ++ U.take (s - a), U.drop (s - a), V.take (e - m), V.drop (e - m) ++ Q, by
          have e1 : U.take (s - a) ++ U.drop (s - a) = U := List.take_append_drop _ _
          have e2 : V.take (e - m) ++ V.drop (e - m) = V := List.take_append_drop _ _
          simp only [List.append_assoc]
          rw [← List.append_assoc (V.take _), e2, ← List.append_assoc (U.take _), e1], by simp; omega, by simp; omega, by simp; omega, by simp⟩ h5 h6
      rw [hlen] at this
      exact this
    have HR0 : Hid (∀ s e w', a ≤ s → s ≤ m → m ≤ e → e ≤ b → SO encRl 3 T W0 B blk cap (P ++ (U ++ (V ++ Q))) w' → (s = m ∨ m = e) → Hid (SO encRl 3 T W0 B blk cap (P ++ (U.take (s - a) ++ (V.take (e - m) ++ (U.drop (s - a) ++ (V.drop (e - m) ++ Q))))) w')) := by
      intro s e w' h1 h2 h3 h4 hs h5
      show SO _ _ _ _ _ _ _ _ _
      rcases h5 with h5 | h5
      · rw [List.take_of_length_le (l := U) (by omega), List.drop_of_length_le (l := U) (by omega), List.nil_append, ← List.append_assoc (V.take _), List.take_append_drop]; exact hs
      · subst h5
        rw [Nat.sub_self, List.take_zero, List.drop_zero, List.nil_append, ← List.append_assoc (U.take _), List.take_append_drop]; exact hs
    have HM1 : Hid (∀ s e w', a ≤ s → s ≤ m → m ≤ e → e ≤ b → s + e = n → SO encRl 3 T W0 B blk cap (P ++ (U.take (s - a) ++ (V.take (e - m) ++ (U.drop (s - a) ++ (V.drop (e - m) ++ Q))))) w' → a < s → s < mid → Calls Tryd.prog 64 #[.slice (some ⟨blk, 0, none⟩) len cap, .int .i64 a, .int .i64 s, .int .i64 mid, .func (.func 32) #[] #[]] w' fun e' w' => e' = .returned (.tuple #[]) ∧ Hid (SO encRl 3 T W0 B blk cap (P ++ (sortR (ltC cfRl) (U.take (s - a) ++ V.take (e - m)) ++ (U.drop (s - a) ++ (V.drop (e - m) ++ Q)))) w')) := by
      intro s e w' h1 h2 h3 h4 he hs h5 h6
      refine IH.out a s mid P (U.take (s - a)) (V.take (e - m)) (U.drop (s - a) ++ (V.drop (e - m) ++ Q)) w' (by omega) hs ?_ hP (by simp; omega) (by simp; omega) h5 h6 (List.Pairwise.sublist (List.take_sublist _ _) sU) (List.Pairwise.sublist (List.take_sublist _ _) sV)
      rw [← hlen]; simp; omega
    have HM10 : Hid (∀ s e w', a ≤ s → s ≤ m → m ≤ e → e ≤ b → s + e = n → SO encRl 3 T W0 B blk cap (P ++ (U.take (s - a) ++ (V.take (e - m) ++ (U.drop (s - a) ++ (V.drop (e - m) ++ Q))))) w' → (a = s ∨ s = mid) → Hid (SO encRl 3 T W0 B blk cap (P ++ (sortR (ltC cfRl) (U.take (s - a) ++ V.take (e - m)) ++ (U.drop (s - a) ++ (V.drop (e - m) ++ Q)))) w')) := by
      intro s e w' h1 h2 h3 h4 he hs h5
      show SO _ _ _ _ _ _ _ _ _
      have : sortR (ltC cfRl) (U.take (s - a) ++ V.take (e - m)) = U.take (s - a) ++ V.take (e - m) := by
        rcases h5 with h5 | h5
        · rw [show s - a = 0 by omega, List.take_zero, List.nil_append]; exact sortR_srt hO (List.Pairwise.sublist (List.take_sublist _ _) sV)
        · rw [show e - m = 0 by omega, List.take_zero, List.append_nil]; exact sortR_srt hO (List.Pairwise.sublist (List.take_sublist _ _) sU)
      rw [this, List.append_assoc]; exact hs
    have hsl : ∀ xs : List Rl, (sortR (ltC cfRl) xs).length = xs.length := sortR_length _
    have HM2 : Hid (∀ s e w', a ≤ s → s ≤ m → m ≤ e → e ≤ b → s + e = n → SO encRl 3 T W0 B blk cap (P ++ (sortR (ltC cfRl) (U.take (s - a) ++ V.take (e - m)) ++ (U.drop (s - a) ++ (V.drop (e - m) ++ Q)))) w' → mid < e → e < b → Calls Tryd.prog 64 #[.slice (some ⟨blk, 0, none⟩) len cap, .int .i64 mid, .int .i64 e, .int .i64 b, .func (.func 32) #[] #[]] w' fun e' w' => e' = .returned (.tuple #[]) ∧ Hid (SO encRl 3 T W0 B blk cap (P ++ (sortR (ltC cfRl) (U.take (s - a) ++ V.take (e - m)) ++ (sortR (ltC cfRl) (U.drop (s - a) ++ V.drop (e - m)) ++ Q))) w')) := by
      intro s e w' h1 h2 h3 h4 he hs h5 h6
      have := IH.out mid e b (P ++ sortR (ltC cfRl) (U.take (s - a) ++ V.take (e - m))) (U.drop (s - a)) (V.drop (e - m)) Q w' (by omega) (by simpa using hs) (by rw [← hlen]; simp [hsl]; omega) (by simp [hsl]; omega) (by simp; omega) (by simp; omega) h5 h6 (List.Pairwise.sublist (List.drop_sublist _ _) sU) (List.Pairwise.sublist (List.drop_sublist _ _) sV)
      simpa [Hid] using this
    have HM20 : Hid (∀ s e w', a ≤ s → s ≤ m → m ≤ e → e ≤ b → s + e = n → SO encRl 3 T W0 B blk cap (P ++ (sortR (ltC cfRl) (U.take (s - a) ++ V.take (e - m)) ++ (U.drop (s - a) ++ (V.drop (e - m) ++ Q)))) w' → (mid = e ∨ e = b) → Hid (SO encRl 3 T W0 B blk cap (P ++ (sortR (ltC cfRl) (U.take (s - a) ++ V.take (e - m)) ++ (sortR (ltC cfRl) (U.drop (s - a) ++ V.drop (e - m)) ++ Q))) w')) := by
      intro s e w' h1 h2 h3 h4 he hs h5
      show SO _ _ _ _ _ _ _ _ _
      have : sortR (ltC cfRl) (U.drop (s - a) ++ V.drop (e - m)) = U.drop (s - a) ++ V.drop (e - m) := by
        rcases h5 with h5 | h5
        · rw [List.drop_of_length_le (l := U) (by omega), List.nil_append]; exact sortR_srt hO (List.Pairwise.sublist (List.drop_sublist _ _) sV)
        · rw [List.drop_of_length_le (l := V) (by omega), List.append_nil]; exact sortR_srt hO (List.Pairwise.sublist (List.drop_sublist _ _) sU)
      rw [this, List.append_assoc (U.drop _)]; exact hs
    have HL := Lib.hid hlen
    have HS := Lib.hid hso
    have HGU := Lib.hid gU
    have HGV := Lib.hid gV
    clear hso hlen gU gV sU sV hP hU hV hsl IH
    by_cases hmm : m ≤ mid
    · have hmz : ¬ (mid : Int) < (m : Int) := by omega
      go_enter Tryd.func64, Tryd.ntmps64
      go_wp2
      go_loopg [20, 21, 23] (b - a) (fun gg t1 t2 t3 wr => ∃ s r, a ≤ s ∧ s ≤ r ∧ r ≤ m ∧ r - s ≤ gg ∧ t1 = .int .i64 (s : Nat) ∧ t2 = .int .i64 (r : Nat) ∧ Hid (SO encRl 3 T W0 B blk cap (P ++ (U ++ (V ++ Q))) wr) ∧ Hid (s = a ∨ ltC cfRl (P ++ (U ++ (V ++ Q)))[p - (s - 1)]! (P ++ (U ++ (V ++ Q)))[s - 1]! = false) ∧ Hid (r = m ∨ ltC cfRl (P ++ (U ++ (V ++ Q)))[p - r]! (P ++ (U ++ (V ++ Q)))[r]! = true))
      case atStart => exact ⟨a, m, Nat.le_refl _, by omega, Nat.le_refl _, by omega, rfl, rfl, HS, Or.inl rfl, Or.inl rfl⟩
      case round =>
        obtain ⟨s, r, hs0, hsr, hr0, hg, rfl, rfl, hS, f1, f2⟩ := hrel
        by_cases hlt : s < r
        · have hltz : (s : Int) < (r : Int) := by omega
          obtain ⟨c, hh⟩ : ∃ c, (s + r) / 2 = c := ⟨_, rfl⟩
          have hhz : ((s : Int) + (r : Int)) / 2 = (c : Int) := by omega
          have hsc : s ≤ c := by omega
          have hcr : c < r := by omega
          have hcl : (c : Int) < (len : Int) := by omega
          obtain ⟨d, hd⟩ : ∃ d, d + c = p := ⟨p - c, by omega⟩
          have hdz : (p : Int) - (c : Int) = (d : Int) := by omega
          have hdl : (d : Int) < (len : Int) := by omega
          have hdw : IntKind.i64.wrap (d : Int) = (d : Int) := by rw [IntKind.wrap_i64]; omega
          have hd1 : p - c = d := by omega
          clear HEND HROT HR0 HM1 HM10 HM2 HM20
          clear hh HS
          generalize hlst : P ++ (U ++ (V ++ Q)) = lst at *
          have hll : lst.length = len := HL.out
          obtain ⟨x, gx⟩ : ∃ x, lst[d]! = x := ⟨_, rfl⟩
          obtain ⟨y, gy⟩ : ∃ y, lst[c]! = y := ⟨_, rfl⟩
          obtain ⟨v, hv⟩ : ∃ v, cfRl x y = v := ⟨_, rfl⟩
          have hcmp := fun w' => cmp_Rule x y w'
          rw [hv] at hcmp
          have HV := Lib.hid hv
          clear hv
          have HV' : Hid (cfRl lst[d]! lst[c]! = v) := by show _ = _; rw [gx, gy]; exact HV.out
          clear HV
          obtain ⟨x1, x2, x3⟩ := x
          obtain ⟨y1, y2, y3⟩ := y
          simp only [avRl] at hcmp
          obtain ⟨cA, cB⟩ : (∀ r u, (encRl (lst)[d]!)[r]? = some u → World.cell? _ ⟨blk, (d) * 3 + r, none⟩ = some u) ∧ (∀ r u, (encRl (lst)[c]!)[r]? = some u → World.cell? _ ⟨blk, (c) * 3 + r, none⟩ = some u) := ⟨fun r u hu => (hS.out).cell (d) (by omega) r u hu, fun r u hu => (hS.out).cell (c) (by omega) r u hu⟩
          rw [gx] at cA
          rw [gy] at cB
          have cA0 := cA 0 _ rfl; have cA1 := cA 1 _ rfl; have cA2 := cA 2 _ rfl
          have cB0 := cB 0 _ rfl; have cB1 := cB 1 _ rfl; have cB2 := cB 2 _ rfl
          try have cA3 := cA 3 _ rfl; have cB3 := cB 3 _ rfl; have cA4 := cA 4 _ rfl; have cB4 := cB 4 _ rfl
          simp only [Nat.add_zero] at cA0 cB0
          clear cA cB
          have dA0 := fun p : Grows wr => Grows.cell cA0 p; have dA1 := fun p : Grows wr => Grows.cell cA1 p; have dA2 := fun p : Grows wr => Grows.cell cA2 p
          have dB0 := fun p : Grows wr => Grows.cell cB0 p; have dB1 := fun p : Grows wr => Grows.cell cB1 p; have dB2 := fun p : Grows wr => Grows.cell cB2 p
          try have dA3 := fun p : Grows wr => Grows.cell cA3 p; have dB3 := fun p : Grows wr => Grows.cell cB3 p; have dA4 := fun p : Grows wr => Grows.cell cA4 p; have dB4 := fun p : Grows wr => Grows.cell cB4 p
          clear cA0 cA1 cA2 cB0 cB1 cB2
          try clear cA3 cB3 cA4 cB4
          have HC := Lib.hid hcmp
          clear hcmp gx gy
          by_cases hlv : v < 0
          · go_wp2_with fail
            (refine wp_region_grows (by kernel_rfl) (by kernel_rfl) ?_; (repeat quiet_step ((go_at_call 32; exact Grows.call _ (HC.out _)))); refine wpQuiet_nil ?_; intro _ hw'; obtain ⟨gw, hw''⟩ := hw'; subst hw'')
            have hS2 := Lib.hid (hS.out.grow gw.h)
            generalize gw.w = w3 at *
            go_wp2
            go_roundg (c - s)
            case measure => omega
            case rel =>
              refine ⟨s, c, by omega, by omega, by omega, by omega, rfl, rfl, hS2, f1, Or.inr ?_⟩
              rw [hd1]; unfold ltC; rw [HV'.out]; exact decide_eq_true hlv
          · go_wp2_with fail
            (refine wp_region_grows (by kernel_rfl) (by kernel_rfl) ?_; (repeat quiet_step ((go_at_call 32; exact Grows.call _ (HC.out _)))); refine wpQuiet_nil ?_; intro _ hw'; obtain ⟨gw, hw''⟩ := hw'; subst hw'')
            have hS2 := Lib.hid (hS.out.grow gw.h)
            generalize gw.w = w3 at *
            go_wp2
            go_roundg (r - (c + 1))
            case measure => omega
            case rel =>
              refine ⟨c + 1, r, by omega, by omega, by omega, by omega, by go_num, rfl, hS2, Or.inr ?_, f2⟩
              rw [show c + 1 - 1 = c by omega, hd1]; unfold ltC; rw [HV'.out]; simpa using hlv
            rename_i hbad
            exfalso; simp at hbad; omega
        · have hltz : ¬ (s : Int) < (r : Int) := by omega
          obtain rfl : s = r := by omega
          have f1' := f1.out
          have f2' := f2.out
          obtain ⟨e, he⟩ : ∃ e, s + e = n := ⟨n - s, by omega⟩
          have hez : (n : Int) - (s : Int) = (e : Int) := by omega
          have hew : IntKind.i64.wrap (e : Int) = (e : Int) := by rw [IntKind.wrap_i64]; omega
          have g1 : s = a ∨ ltC cfRl V[e - m]! U[s - 1 - a]! = false := by
            by_cases hq : s = a
            · exact Or.inl hq
            · rcases f1' with h | h
              · exact Or.inl h
              · right
                have q1 : a ≤ s - 1 := by omega
                have q2 : s - 1 < m := by omega
                have q3 : m ≤ p - (s - 1) := by omega
                have q4 : p - (s - 1) < b := by omega
                rw [HGU.out (s - 1) q1 q2, HGV.out (p - (s - 1)) q3 q4, show p - (s - 1) - m = e - m by omega] at h; exact h
          have g2 : s = m ∨ ltC cfRl V[e - 1 - m]! U[s - a]! = true := by
            by_cases hq : s = m
            · exact Or.inl hq
            · rcases f2' with h | h
              · exact Or.inl h
              · right
                have q1 : a ≤ s := by omega
                have q2 : s < m := by omega
                have q3 : m ≤ p - s := by omega
                have q4 : p - s < b := by omega
                rw [HGU.out s q1 q2, HGV.out (p - s) q3 q4, show p - s - m = e - 1 - m by omega] at h; exact h
          obtain ⟨k1, k2, k3, k4, hres⟩ := HEND.out (a) (m) s e (by omega) hs0 hr0 he g1 g2
          clear g1 g2
          have HRES := Lib.hid hres
          clear hres f1' f2' f1 f2 HGU HGV HEND
          have HS1 := hS
          clear hS
          generalize wr = w1 at *
          by_cases hA : s < m
          · by_cases hB : m < e
            · have tA : (s : Int) < (m : Int) := by omega
              have tB : (m : Int) < (e : Int) := by omega
              have tC : (s : Int) < (mid : Int) := by omega
              have tD : (mid : Int) < (e : Int) := by omega
              have C1 := HROT.out s e w1 k1 k2 k3 k4 HS1.out hA hB
              by_cases hC : a < s
              · have tE : (a : Int) < (s : Int) := by omega
                by_cases hD : e < b
                · have tF : (e : Int) < (b : Int) := by omega
                  go_wp2_with fail
                  refine C1.mono ?_
                  rintro e1 w2 ⟨rfl, hS2⟩
                  have C2 := HM1.out s e w2 k1 k2 k3 k4 he hS2.out hC (by omega)
                  clear C1
                  go_wp2_with fail
                  refine C2.mono ?_
                  rintro e1 w3 ⟨rfl, hS3⟩
                  have C3 := HM2.out s e w3 k1 k2 k3 k4 he hS3.out (by omega) hD
                  clear C2
                  go_wp2_with fail
                  refine C3.mono ?_
                  rintro e1 w4 ⟨rfl, hS4⟩
                  have hfin := hS4.out
                  rw [← List.append_assoc (sortR (ltC cfRl) (U.take (s - a) ++ V.take (e - m))), ← HRES.out] at hfin
                  have HFI := Lib.hid hfin
                  clear hfin
                  go_wp2
                  go_end0
                  exact ⟨rfl, HFI.out⟩
                · have tF : ¬ (e : Int) < (b : Int) := by omega
                  go_wp2_with fail
                  refine C1.mono ?_
                  rintro e1 w2 ⟨rfl, hS2⟩
                  have C2 := HM1.out s e w2 k1 k2 k3 k4 he hS2.out hC (by omega)
                  clear C1
                  go_wp2_with fail
                  refine C2.mono ?_
                  rintro e1 w3 ⟨rfl, hS3⟩
                  have hS4 := HM20.out s e w3 k1 k2 k3 k4 he hS3.out (Or.inr (by omega))
                  have hfin := hS4.out
                  rw [← List.append_assoc (sortR (ltC cfRl) (U.take (s - a) ++ V.take (e - m))), ← HRES.out] at hfin
                  have HFI := Lib.hid hfin
                  clear hfin
                  go_wp2
                  go_end0
                  exact ⟨rfl, HFI.out⟩
              · have tE : ¬ (a : Int) < (s : Int) := by omega
                by_cases hD : e < b
                · have tF : (e : Int) < (b : Int) := by omega
                  go_wp2_with fail
                  refine C1.mono ?_
                  rintro e1 w2 ⟨rfl, hS2⟩
                  have hS3 := HM10.out s e w2 k1 k2 k3 k4 he hS2.out (Or.inl (by omega))
                  have C3 := HM2.out s e w2 k1 k2 k3 k4 he hS3.out (by omega) hD
                  clear C1
                  go_wp2_with fail
                  refine C3.mono ?_
                  rintro e1 w4 ⟨rfl, hS4⟩
                  have hfin := hS4.out
                  rw [← List.append_assoc (sortR (ltC cfRl) (U.take (s - a) ++ V.take (e - m))), ← HRES.out] at hfin
                  have HFI := Lib.hid hfin
                  clear hfin
                  go_wp2
                  go_end0
                  exact ⟨rfl, HFI.out⟩
                · have tF : ¬ (e : Int) < (b : Int) := by omega
                  go_wp2_with fail
                  refine C1.mono ?_
                  rintro e1 w2 ⟨rfl, hS2⟩
                  have hS3 := HM10.out s e w2 k1 k2 k3 k4 he hS2.out (Or.inl (by omega))
                  have hS4 := HM20.out s e w2 k1 k2 k3 k4 he hS3.out (Or.inr (by omega))
                  have hfin := hS4.out
                  rw [← List.append_assoc (sortR (ltC cfRl) (U.take (s - a) ++ V.take (e - m))), ← HRES.out] at hfin
                  have HFI := Lib.hid hfin
                  clear hfin
                  go_wp2
                  go_end0
                  exact ⟨rfl, HFI.out⟩
            · have tA : (s : Int) < (m : Int) := by omega
              have tB : ¬ (m : Int) < (e : Int) := by omega
              have tC : ¬ (s : Int) < (mid : Int) := by omega
              have tD : (mid : Int) < (e : Int) := by omega
              have tE : (a : Int) < (s : Int) := by omega
              have hS2 := HR0.out s e w1 k1 k2 k3 k4 HS1.out (Or.inr (by omega))
              have hS3 := HM10.out s e w1 k1 k2 k3 k4 he hS2.out (Or.inr (by omega))
              have tF : (e : Int) < (b : Int) := by omega
              have C3 := HM2.out s e w1 k1 k2 k3 k4 he hS3.out (by omega) (by omega)
              go_wp2_with fail
              refine C3.mono ?_
              rintro e1 w4 ⟨rfl, hS4⟩
              have hfin := hS4.out
              rw [← List.append_assoc (sortR (ltC cfRl) (U.take (s - a) ++ V.take (e - m))), ← HRES.out] at hfin
              have HFI := Lib.hid hfin
              clear hfin
              go_wp2
              go_end0
              exact ⟨rfl, HFI.out⟩
          · first
            | (exfalso; omega)
            | have tA : ¬ (s : Int) < (m : Int) := by omega
              have tD : ¬ (mid : Int) < (e : Int) := by omega
              have tE : (a : Int) < (s : Int) := by omega
              have hS2 := HR0.out s e w1 k1 k2 k3 k4 HS1.out (Or.inl (by omega))
              by_cases hB : m < e
              · have tB : (m : Int) < (e : Int) := by omega
                have tC : (s : Int) < (mid : Int) := by omega
                have C2 := HM1.out s e w1 k1 k2 k3 k4 he hS2.out (by omega) (by omega)
                go_wp2_with fail
                refine C2.mono ?_
                rintro e1 w3 ⟨rfl, hS3⟩
                have hS4 := HM20.out s e w3 k1 k2 k3 k4 he hS3.out (Or.inl (by omega))
                have hfin := hS4.out
                rw [← List.append_assoc (sortR (ltC cfRl) (U.take (s - a) ++ V.take (e - m))), ← HRES.out] at hfin
                have HFI := Lib.hid hfin
                clear hfin
                go_wp2
                go_end0
                exact ⟨rfl, HFI.out⟩
              · have tB : ¬ (m : Int) < (e : Int) := by omega
                have tC : ¬ (s : Int) < (mid : Int) := by omega
                have hS3 := HM10.out s e w1 k1 k2 k3 k4 he hS2.out (Or.inr (by omega))
                have hS4 := HM20.out s e w1 k1 k2 k3 k4 he hS3.out (Or.inl (by omega))
                have hfin := hS4.out
                rw [← List.append_assoc (sortR (ltC cfRl) (U.take (s - a) ++ V.take (e - m))), ← HRES.out] at hfin
                have HFI := Lib.hid hfin
                clear hfin
                go_wp2
                go_end0
                exact ⟨rfl, HFI.out⟩
    · have hmz : (mid : Int) < (m : Int) := by omega
      obtain ⟨s0, hs0'⟩ : ∃ s0, s0 + b = n := ⟨n - b, by omega⟩
      have hs0z : (n : Int) - (b : Int) = (s0 : Int) := by omega
      have hs0w : IntKind.i64.wrap (s0 : Int) = (s0 : Int) := by rw [IntKind.wrap_i64]; omega
      go_enter Tryd.func64, Tryd.ntmps64
      go_wp2
      go_loopg [20, 21, 23] (b - a) (fun gg t1 t2 t3 wr => ∃ s r, s0 ≤ s ∧ s ≤ r ∧ r ≤ mid ∧ r - s ≤ gg ∧ t1 = .int .i64 (s : Nat) ∧ t2 = .int .i64 (r : Nat) ∧ Hid (SO encRl 3 T W0 B blk cap (P ++ (U ++ (V ++ Q))) wr) ∧ Hid (s = s0 ∨ ltC cfRl (P ++ (U ++ (V ++ Q)))[p - (s - 1)]! (P ++ (U ++ (V ++ Q)))[s - 1]! = false) ∧ Hid (r = mid ∨ ltC cfRl (P ++ (U ++ (V ++ Q)))[p - r]! (P ++ (U ++ (V ++ Q)))[r]! = true))
      case atStart => exact ⟨s0, mid, Nat.le_refl _, by omega, Nat.le_refl _, by omega, rfl, rfl, HS, Or.inl rfl, Or.inl rfl⟩
      case round =>
        obtain ⟨s, r, hs0, hsr, hr0, hg, rfl, rfl, hS, f1, f2⟩ := hrel
        by_cases hlt : s < r
        · have hltz : (s : Int) < (r : Int) := by omega
          obtain ⟨c, hh⟩ : ∃ c, (s + r) / 2 = c := ⟨_, rfl⟩
          have hhz : ((s : Int) + (r : Int)) / 2 = (c : Int) := by omega
          have hsc : s ≤ c := by omega
          have hcr : c < r := by omega
          have hcl : (c : Int) < (len : Int) := by omega
          obtain ⟨d, hd⟩ : ∃ d, d + c = p := ⟨p - c, by omega⟩
          have hdz : (p : Int) - (c : Int) = (d : Int) := by omega
          have hdl : (d : Int) < (len : Int) := by omega
          have hdw : IntKind.i64.wrap (d : Int) = (d : Int) := by rw [IntKind.wrap_i64]; omega
          have hd1 : p - c = d := by omega
          clear HEND HROT HR0 HM1 HM10 HM2 HM20
          clear hh HS
          generalize hlst : P ++ (U ++ (V ++ Q)) = lst at *
          have hll : lst.length = len := HL.out
          obtain ⟨x, gx⟩ : ∃ x, lst[d]! = x := ⟨_, rfl⟩
          obtain ⟨y, gy⟩ : ∃ y, lst[c]! = y := ⟨_, rfl⟩
          obtain ⟨v, hv⟩ : ∃ v, cfRl x y = v := ⟨_, rfl⟩
          have hcmp := fun w' => cmp_Rule x y w'
          rw [hv] at hcmp
          have HV := Lib.hid hv
          clear hv
          have HV' : Hid (cfRl lst[d]! lst[c]! = v) := by show _ = _; rw [gx, gy]; exact HV.out
          clear HV
          obtain ⟨x1, x2, x3⟩ := x
          obtain ⟨y1, y2, y3⟩ := y
          simp only [avRl] at hcmp
          obtain ⟨cA, cB⟩ : (∀ r u, (encRl (lst)[d]!)[r]? = some u → World.cell? _ ⟨blk, (d) * 3 + r, none⟩ = some u) ∧ (∀ r u, (encRl (lst)[c]!)[r]? = some u → World.cell? _ ⟨blk, (c) * 3 + r, none⟩ = some u) := ⟨fun r u hu => (hS.out).cell (d) (by omega) r u hu, fun r u hu => (hS.out).cell (c) (by omega) r u hu⟩
          rw [gx] at cA
          rw [gy] at cB
          have cA0 := cA 0 _ rfl; have cA1 := cA 1 _ rfl; have cA2 := cA 2 _ rfl
          have cB0 := cB 0 _ rfl; have cB1 := cB 1 _ rfl; have cB2 := cB 2 _ rfl
          try have cA3 := cA 3 _ rfl; have cB3 := cB 3 _ rfl; have cA4 := cA 4 _ rfl; have cB4 := cB 4 _ rfl
          simp only [Nat.add_zero] at cA0 cB0
          clear cA cB
          have dA0 := fun p : Grows wr => Grows.cell cA0 p; have dA1 := fun p : Grows wr => Grows.cell cA1 p; have dA2 := fun p : Grows wr => Grows.cell cA2 p
          have dB0 := fun p : Grows wr => Grows.cell cB0 p; have dB1 := fun p : Grows wr => Grows.cell cB1 p; have dB2 := fun p : Grows wr => Grows.cell cB2 p
          try have dA3 := fun p : Grows wr => Grows.cell cA3 p; have dB3 := fun p : Grows wr => Grows.cell cB3 p; have dA4 := fun p : Grows wr => Grows.cell cA4 p; have dB4 := fun p : Grows wr => Grows.cell cB4 p
          clear cA0 cA1 cA2 cB0 cB1 cB2
          try clear cA3 cB3 cA4 cB4
          have HC := Lib.hid hcmp
          clear hcmp gx gy
          by_cases hlv : v < 0
          · go_wp2_with fail
            (refine wp_region_grows (by kernel_rfl) (by kernel_rfl) ?_; (repeat quiet_step ((go_at_call 32; exact Grows.call _ (HC.out _)))); refine wpQuiet_nil ?_; intro _ hw'; obtain ⟨gw, hw''⟩ := hw'; subst hw'')
            have hS2 := Lib.hid (hS.out.grow gw.h)
            generalize gw.w = w3 at *
            go_wp2
            go_roundg (c - s)
            case measure => omega
            case rel =>
              refine ⟨s, c, by omega, by omega, by omega, by omega, rfl, rfl, hS2, f1, Or.inr ?_⟩
              rw [hd1]; unfold ltC; rw [HV'.out]; exact decide_eq_true hlv
          · go_wp2_with fail
            (refine wp_region_grows (by kernel_rfl) (by kernel_rfl) ?_; (repeat quiet_step ((go_at_call 32; exact Grows.call _ (HC.out _)))); refine wpQuiet_nil ?_; intro _ hw'; obtain ⟨gw, hw''⟩ := hw'; subst hw'')
            have hS2 := Lib.hid (hS.out.grow gw.h)
            generalize gw.w = w3 at *
            go_wp2
            go_roundg (r - (c + 1))
            case measure => omega
            case rel =>
              refine ⟨c + 1, r, by omega, by omega, by omega, by omega, by go_num, rfl, hS2, Or.inr ?_, f2⟩
              rw [show c + 1 - 1 = c by omega, hd1]; unfold ltC; rw [HV'.out]; simpa using hlv
            rename_i hbad
            exfalso; simp at hbad; omega
        · have hltz : ¬ (s : Int) < (r : Int) := by omega
          obtain rfl : s = r := by omega
          have f1' := f1.out
          have f2' := f2.out
          obtain ⟨e, he⟩ : ∃ e, s + e = n := ⟨n - s, by omega⟩
          have hez : (n : Int) - (s : Int) = (e : Int) := by omega
          have hew : IntKind.i64.wrap (e : Int) = (e : Int) := by rw [IntKind.wrap_i64]; omega
          have g1 : s = s0 ∨ ltC cfRl V[e - m]! U[s - 1 - a]! = false := by
            by_cases hq : s = s0
            · exact Or.inl hq
            · rcases f1' with h | h
              · exact Or.inl h
              · right
                have q1 : a ≤ s - 1 := by omega
                have q2 : s - 1 < m := by omega
                have q3 : m ≤ p - (s - 1) := by omega
                have q4 : p - (s - 1) < b := by omega
                rw [HGU.out (s - 1) q1 q2, HGV.out (p - (s - 1)) q3 q4, show p - (s - 1) - m = e - m by omega] at h; exact h
          have g2 : s = mid ∨ ltC cfRl V[e - 1 - m]! U[s - a]! = true := by
            by_cases hq : s = mid
            · exact Or.inl hq
            · rcases f2' with h | h
              · exact Or.inl h
              · right
                have q1 : a ≤ s := by omega
                have q2 : s < m := by omega
                have q3 : m ≤ p - s := by omega
                have q4 : p - s < b := by omega
                rw [HGU.out s q1 q2, HGV.out (p - s) q3 q4, show p - s - m = e - 1 - m by omega] at h; exact h
          obtain ⟨k1, k2, k3, k4, hres⟩ := HEND.out (s0) (mid) s e (by omega) hs0 hr0 he g1 g2
          clear g1 g2
          have HRES := Lib.hid hres
          clear hres f1' f2' f1 f2 HGU HGV HEND
          have HS1 := hS
          clear hS
          generalize wr = w1 at *
          by_cases hA : s < m
          · by_cases hB : m < e
            · have tA : (s : Int) < (m : Int) := by omega
              have tB : (m : Int) < (e : Int) := by omega
              have tC : (s : Int) < (mid : Int) := by omega
              have tD : (mid : Int) < (e : Int) := by omega
              have C1 := HROT.out s e w1 k1 k2 k3 k4 HS1.out hA hB
              by_cases hC : a < s
              · have tE : (a : Int) < (s : Int) := by omega
                by_cases hD : e < b
                · have tF : (e : Int) < (b : Int) := by omega
                  go_wp2_with fail
                  refine C1.mono ?_
                  rintro e1 w2 ⟨rfl, hS2⟩
                  have C2 := HM1.out s e w2 k1 k2 k3 k4 he hS2.out hC (by omega)
                  clear C1
                  go_wp2_with fail
                  refine C2.mono ?_
                  rintro e1 w3 ⟨rfl, hS3⟩
                  have C3 := HM2.out s e w3 k1 k2 k3 k4 he hS3.out (by omega) hD
                  clear C2
                  go_wp2_with fail
                  refine C3.mono ?_
                  rintro e1 w4 ⟨rfl, hS4⟩
                  have hfin := hS4.out
                  rw [← List.append_assoc (sortR (ltC cfRl) (U.take (s - a) ++ V.take (e - m))), ← HRES.out] at hfin
                  have HFI := Lib.hid hfin
                  clear hfin
                  go_wp2
                  go_end0
                  exact ⟨rfl, HFI.out⟩
                · have tF : ¬ (e : Int) < (b : Int) := by omega
                  go_wp2_with fail
                  refine C1.mono ?_
                  rintro e1 w2 ⟨rfl, hS2⟩
                  have C2 := HM1.out s e w2 k1 k2 k3 k4 he hS2.out hC (by omega)
                  clear C1
                  go_wp2_with fail
                  refine C2.mono ?_
                  rintro e1 w3 ⟨rfl, hS3⟩
                  have hS4 := HM20.out s e w3 k1 k2 k3 k4 he hS3.out (Or.inr (by omega))
                  have hfin := hS4.out
                  rw [← List.append_assoc (sortR (ltC cfRl) (U.take (s - a) ++ V.take (e - m))), ← HRES.out] at hfin
                  have HFI := Lib.hid hfin
                  clear hfin
                  go_wp2
                  go_end0
                  exact ⟨rfl, HFI.out⟩
              · have tE : ¬ (a : Int) < (s : Int) := by omega
                by_cases hD : e < b
                · have tF : (e : Int) < (b : Int) := by omega
                  go_wp2_with fail
                  refine C1.mono ?_
                  rintro e1 w2 ⟨rfl, hS2⟩
                  have hS3 := HM10.out s e w2 k1 k2 k3 k4 he hS2.out (Or.inl (by omega))
                  have C3 := HM2.out s e w2 k1 k2 k3 k4 he hS3.out (by omega) hD
                  clear C1
                  go_wp2_with fail
                  refine C3.mono ?_
                  rintro e1 w4 ⟨rfl, hS4⟩
                  have hfin := hS4.out
                  rw [← List.append_assoc (sortR (ltC cfRl) (U.take (s - a) ++ V.take (e - m))), ← HRES.out] at hfin
                  have HFI := Lib.hid hfin
                  clear hfin
                  go_wp2
                  go_end0
                  exact ⟨rfl, HFI.out⟩
                · have tF : ¬ (e : Int) < (b : Int) := by omega
                  go_wp2_with fail
                  refine C1.mono ?_
                  rintro e1 w2 ⟨rfl, hS2⟩
                  have hS3 := HM10.out s e w2 k1 k2 k3 k4 he hS2.out (Or.inl (by omega))
                  have hS4 := HM20.out s e w2 k1 k2 k3 k4 he hS3.out (Or.inr (by omega))
                  have hfin := hS4.out
                  rw [← List.append_assoc (sortR (ltC cfRl) (U.take (s - a) ++ V.take (e - m))), ← HRES.out] at hfin
                  have HFI := Lib.hid hfin
                  clear hfin
                  go_wp2
                  go_end0
                  exact ⟨rfl, HFI.out⟩
            · have tA : (s : Int) < (m : Int) := by omega
              have tB : ¬ (m : Int) < (e : Int) := by omega
              have tC : ¬ (s : Int) < (mid : Int) := by omega
              have tD : (mid : Int) < (e : Int) := by omega
              have tE : (a : Int) < (s : Int) := by omega
              have hS2 := HR0.out s e w1 k1 k2 k3 k4 HS1.out (Or.inr (by omega))
              have hS3 := HM10.out s e w1 k1 k2 k3 k4 he hS2.out (Or.inr (by omega))
              have tF : (e : Int) < (b : Int) := by omega
              have C3 := HM2.out s e w1 k1 k2 k3 k4 he hS3.out (by omega) (by omega)
              go_wp2_with fail
              refine C3.mono ?_
              rintro e1 w4 ⟨rfl, hS4⟩
              have hfin := hS4.out
              rw [← List.append_assoc (sortR (ltC cfRl) (U.take (s - a) ++ V.take (e - m))), ← HRES.out] at hfin
              have HFI := Lib.hid hfin
              clear hfin
              go_wp2
              go_end0
              exact ⟨rfl, HFI.out⟩
          · first
            | (exfalso; omega)
            | have tA : ¬ (s : Int) < (m : Int) := by omega
              have tD : ¬ (mid : Int) < (e : Int) := by omega
              have tE : (a : Int) < (s : Int) := by omega
              have hS2 := HR0.out s e w1 k1 k2 k3 k4 HS1.out (Or.inl (by omega))
              by_cases hB : m < e
              · have tB : (m : Int) < (e : Int) := by omega
                have tC : (s : Int) < (mid : Int) := by omega
                have C2 := HM1.out s e w1 k1 k2 k3 k4 he hS2.out (by omega) (by omega)
                go_wp2_with fail
                refine C2.mono ?_
                rintro e1 w3 ⟨rfl, hS3⟩
                have hS4 := HM20.out s e w3 k1 k2 k3 k4 he hS3.out (Or.inl (by omega))
                have hfin := hS4.out
                rw [← List.append_assoc (sortR (ltC cfRl) (U.take (s - a) ++ V.take (e - m))), ← HRES.out] at hfin
                have HFI := Lib.hid hfin
                clear hfin
                go_wp2
                go_end0
                exact ⟨rfl, HFI.out⟩
              · have tB : ¬ (m : Int) < (e : Int) := by omega
                have tC : ¬ (s : Int) < (mid : Int) := by omega
                have hS3 := HM10.out s e w1 k1 k2 k3 k4 he hS2.out (Or.inr (by omega))
                have hS4 := HM20.out s e w1 k1 k2 k3 k4 he hS3.out (Or.inl (by omega))
                have hfin := hS4.out
                rw [← List.append_assoc (sortR (ltC cfRl) (U.take (s - a) ++ V.take (e - m))), ← HRES.out] at hfin
                have HFI := Lib.hid hfin
                clear hfin
                go_wp2
                go_end0
                exact ⟨rfl, HFI.out⟩
set_option maxRecDepth 100000 in
set_option maxHeartbeats 8000000 in
theorem symMerge_Quorum (hO : Ord (ltC cfQm)) (T : TypeId) (W0 : World) (B blk cap len : Nat) (hc : len ≤ 140737488355328) : ∀ (N a m b : Nat) (P U V Q : List Qm) (W : World), b - a ≤ N → SO encQm 5 T W0 B blk cap (P ++ (U ++ (V ++ Q))) W → 
    (P ++ (U ++ (V ++ Q))).length = len → P.length = a → a + U.length = m → m + V.length = b → a < m → m < b → Srt (ltC cfQm) U → Srt (ltC cfQm) V → 
    Calls Tryd.prog 66 #[.slice (some ⟨blk, 0, none⟩) len cap, .int .i64 a, .int .i64 m, .int .i64 b, .func (.func 36) #[] #[]] W fun e w' => e = .returned (.tuple #[]) ∧ SO encQm 5 T W0 B blk cap (P ++ (sortR (ltC cfQm) (U ++ V) ++ Q)) w' := by
  intro N
  induction N with
  | zero => intro a m b P U V Q W hN _ _ _ _ _ h1 h2; omega
  | succ N ih =>
    intro a m b P U V Q W hN hso hlen hP hU hV ham hmb sU sV
    have IH := Lib.hid ih
    clear ih
    by_cases hA : a + 1 = m
    · obtain ⟨z, rfl⟩ : ∃ z, U = [z] := List.length_eq_one_iff.1 (by omega)
      exact symMergeL_Quorum hO T W0 B blk cap len hc a m b P V Q z W (by simpa using hso) (by simpa using hlen) hP hA hV hmb sV
    by_cases hB : m + 1 = b
    · obtain ⟨z, rfl⟩ : ∃ z, V = [z] := List.length_eq_one_iff.1 (by omega)
      exact symMergeR_Quorum hO T W0 B blk cap len hc a m b P U Q z W (by simpa using hso) (by simpa using hlen) hP hU hB (by omega) sU
    have hbl : b ≤ len := by rw [← hlen]; simp; omega
    have z0 : (m : Int) - (a : Int) = ((m - a : Nat) : Int) := by omega
    have z2 : IntKind.i64.wrap ((m - a : Nat) : Int) = ((m - a : Nat) : Int) := by rw [IntKind.wrap_i64]; omega
    have z3 : ¬ ((m - a : Nat) : Int) = 1 := by omega
    have z4 : (((m - a : Nat) : Int) == 1) = false := by simp; omega
    have y0 : (b : Int) - (m : Int) = ((b - m : Nat) : Int) := by omega
    have y2 : IntKind.i64.wrap ((b - m : Nat) : Int) = ((b - m : Nat) : Int) := by rw [IntKind.wrap_i64]; omega
    have y3 : ¬ ((b - m : Nat) : Int) = 1 := by omega
    have y4 : (((b - m : Nat) : Int) == 1) = false := by simp; omega
    obtain ⟨mid, hmid⟩ : ∃ mid, (a + b) / 2 = mid := ⟨_, rfl⟩
    have hmidz : ((a : Int) + (b : Int)) / 2 = (mid : Int) := by omega
    have hab1 : IntKind.i64.wrap ((a : Int) + (b : Int)) = (a : Int) + (b : Int) := by rw [IntKind.wrap_i64]; omega
    have hab2 : IntKind.u64.wrap ((a : Int) + (b : Int)) = (a : Int) + (b : Int) := by rw [IntKind.wrap_u64]; omega
    obtain ⟨n, hn⟩ : ∃ n, mid + m = n := ⟨_, rfl⟩
    have hnz : (mid : Int) + (m : Int) = (n : Int) := by omega
    have hnw : IntKind.i64.wrap (n : Int) = (n : Int) := by rw [IntKind.wrap_i64]; omega
    obtain ⟨p, hp⟩ : ∃ p, p + 1 = n := ⟨n - 1, by omega⟩
    have hpz : (n : Int) - 1 = (p : Int) := by omega
    have hpw : IntKind.i64.wrap (p : Int) = (p : Int) := by rw [IntKind.wrap_i64]; omega
    have gU : ∀ q, a ≤ q → q < m → (P ++ (U ++ (V ++ Q)))[q]! = U[q - a]! := fun q h1 h2 => by rw [get_app2 _ _ _ _ (by omega) (by omega), hP]
    have gV : ∀ q, m ≤ q → q < b → (P ++ (U ++ (V ++ Q)))[q]! = V[q - m]! := fun q h1 h2 => by
      rw [← List.append_assoc, get_app2 _ _ _ _ (by simp; omega) (by simp; omega)]; simp [show q - (P.length + U.length) = q - m by omega]
    -- the three calls behind the search
    have HEND : Hid (∀ s0 r0 s e, ((mid < m ∧ s0 + b = mid + m ∧ r0 = mid) ∨ (m ≤ mid ∧ s0 = a ∧ r0 = m)) → s0 ≤ s → s ≤ r0 → s + e = n → (s = s0 ∨ ltC cfQm V[e - m]! U[s - 1 - a]! = false) → (s = r0 ∨ ltC cfQm V[e - 1 - m]! U[s - a]! = true) →
        a ≤ s ∧ s ≤ m ∧ m ≤ e ∧ e ≤ b ∧ sortR (ltC cfQm) (U ++ V) = sortR (ltC cfQm) (U.take (s - a) ++ V.take (e - m)) ++ sortR (ltC cfQm) (U.drop (s - a) ++ V.drop (e - m))) := by
      intro s0 r0 s e h0 h1 h2 he f1 f2
      exact ⟨by omega, by omega, by omega, by omega, sym_cut hO U V a m b mid s e hU hV hmid.symm (by omega) s0 r0 h0 h1 h2 sU sV f1 f2⟩
    have HROT : Hid (∀ s e w', a ≤ s → s ≤ m → m ≤ e → e ≤ b → SO encQm 5 T W0 B blk cap (P ++ (U ++ (V ++ Q))) w' → s < m → m < e → Calls Tryd.prog 68 #[.slice (some ⟨blk, 0, none⟩) len cap, .int .i64 s, .int .i64 m, .int .i64 e, .func (.func 36) #[] #[]] w' fun e' w' => e' = .returned (.tuple #[]) ∧ Hid (SO encQm 5 T W0 B blk cap (P ++ (U.take (s - a) ++ (V.take (e - m) ++ (U.drop (s - a) ++ (V.drop (e - m) ++ Q))))) w')) := by
      intro s e w' h1 h2 h3 h4 hs h5 h6
      have := rotate_Quorum s m e (P ++ (U ++ (V ++ Q))) (P ++ (U.take (s - a) ++ (V.take (e - m) ++ (U.drop (s - a) ++ (V.drop (e - m) ++ Q))))) T W0 B blk cap (.func (.func 36) #[] #[]) w' hs (by omega)
        ⟨P ++ U.take (s - a), U.drop (s - a), V.take (e - m), V.drop (e - m) ++ Q, by
          have e1 : U.take (s - a) ++ U.drop (s - a) = U := List.take_append_drop _ _
          have e2 : V.take (e - m) ++ V.drop (e - m) = V := List.take_append_drop _ _
          simp only [List.append_assoc]
          rw [← List.append_assoc (V.take _), e2, ← List.append_assoc (U.take _), e1], by simp; omega, by simp; omega, by simp; omega, by simp⟩ h5 h6
      rw [hlen] at this
      exact this
    have HR0 : Hid (∀ s e w', a ≤ s → s ≤ m → m ≤ e → e ≤ b → SO encQm 5 T W0 B blk cap (P ++ (U ++ (V ++ Q))) w' → (s = m ∨ m = e) → Hid (SO encQm 5 T W0 B blk cap (P ++ (U.take (s - a) ++ (V.take (e - m) ++ (U.drop (s - a) ++ (V.drop (e - m) ++ Q))))) w')) := by
      intro s e w' h1 h2 h3 h4 hs h5
      show SO _ _ _ _ _ _ _ _ _
      rcases h5 with h5 | h5
      · rw [List.take_of_length_le (l := U) (by omega), List.drop_of_length_le (l := U) (by omega), List.nil_append, ← List.append_assoc (V.take _), List.take_append_drop]; exact hs
      · subst h5
        rw [Nat.sub_self, List.take_zero, List.drop_zero, List.nil_append, ← List.append_assoc (U.take _), List.take_append_drop]; exact hs
    have HM1 : Hid (∀ s e w', a ≤ s → s ≤ m → m ≤ e → e ≤ b → s + e = n → SO encQm 5 T W0 B blk cap (P ++ (U.take (s - a) ++ (V.take (e - m) ++ (U.drop (s - a) ++ (V.drop (e - m) ++ Q))))) w' → a < s → s < mid → Calls Tryd.prog 66 #[.slice (some ⟨blk, 0, none⟩) len cap, .int .i64 a, .int .i64 s, .int .i64 mid, .func (.func 36) #[] #[]] w' fun e' w' => e' = .returned (.tuple #[]) ∧ Hid (SO encQm 5 T W0 B blk cap (P ++ (sortR (ltC cfQm) (U.take (s - a) ++ V.take (e - m)) ++ (U.drop (s - a) ++ (V.drop (e - m) ++ Q)))) w')) := by
      intro s e w' h1 h2 h3 h4 he hs h5 h6
      refine IH.out a s mid P (U.take (s - a)) (V.take (e - m)) (U.drop (s - a) ++ (V.drop (e - m) ++ Q)) w' (by omega) hs ?_ hP (by simp; omega) (by simp; omega) h5 h6 (List.Pairwise.sublist (List.take_sublist _ _) sU) (List.Pairwise.sublist (List.take_sublist _ _) sV)
      rw [← hlen]; simp; omega
    have HM10 : Hid (∀ s e w', a ≤ s → s ≤ m → m ≤ e → e ≤ b → s + e = n → SO encQm 5 T W0 B blk cap (P ++ (U.take (s - a) ++ (V.take (e - m) ++ (U.drop (s - a) ++ (V.drop (e - m) ++ Q))))) w' → (a = s ∨ s = mid) → Hid (SO encQm 5 T W0 B blk cap (P ++ (sortR (ltC cfQm) (U.take (s - a) ++ V.take (e - m)) ++ (U.drop (s - a) ++ (V.drop (e - m) ++ Q)))) w')) := by
      intro s e w' h1 h2 h3 h4 he hs h5
      show SO _ _ _ _ _ _ _ _ _
      have : sortR (ltC cfQm) (U.take (s - a) ++ V.take (e - m)) = U.take (s - a) ++ V.take (e - m) := by
        rcases h5 with h5 | h5
        · rw [show s - a = 0 by omega, List.take_zero, List.nil_append]; exact sortR_srt hO (List.Pairwise.sublist (List.take_sublist _ _) sV)
        · rw [show e - m = 0 by omega, List.take_zero, List.append_nil]; exact sortR_srt hO (List.Pairwise.sublist (List.take_sublist _ _) sU)
      rw [this, List.append_assoc]; exact hs
    have hsl : ∀ xs : List Qm, (sortR (ltC cfQm) xs).length = xs.length := sortR_length _
    have HM2 : Hid (∀ s e w', a ≤ s → s ≤ m → m ≤ e → e ≤ b → s + e = n → SO encQm 5 T W0 B blk cap (P ++ (sortR (ltC cfQm) (U.take (s - a) ++ V.take (e - m)) ++ (U.drop (s - a) ++ (V.drop (e - m) ++ Q)))) w' → mid < e → e < b → Calls Tryd.prog 66 #[.slice (some ⟨blk, 0, none⟩) len cap, .int .i64 mid, .int .i64 e, .int .i64 b, .func (.func 36) #[] #[]] w' fun e' w' => e' = .returned (.tuple #[]) ∧ Hid (SO encQm 5 T W0 B blk cap (P ++ (sortR (ltC cfQm) (U.take (s - a) ++ V.take (e - m)) ++ (sortR (ltC cfQm) (U.drop (s - a) ++ V.drop (e - m)) ++ Q))) w')) := by
      intro s e w' h1 h2 h3 h4 he hs h5 h6
      have := IH.out mid e b (P ++ sortR (ltC cfQm) (U.take (s - a) ++ V.take (e - m))) (U.drop (s - a)) (V.drop (e - m)) Q w' (by omega) (by simpa using hs) (by rw [← hlen]; simp [hsl]; omega) (by simp [hsl]; omega) (by simp; omega) (by simp; omega) h5 h6 (List.Pairwise.sublist (List.drop_sublist _ _) sU) (List.Pairwise.sublist (List.drop_sublist _ _) sV)
      simpa [Hid] using this
    have HM20 : Hid (∀ s e w', a ≤ s → s ≤ m → m ≤ e → e ≤ b → s + e = n → SO encQm 5 T W0 B blk cap (P ++ (sortR (ltC cfQm) (U.take (s - a) ++ V.take (e - m)) ++ (U.drop (s - a) ++ (V.drop (e - m) ++ Q)))) w' → (mid = e ∨ e = b) → Hid (SO encQm 5 T W0 B blk cap (P ++ (sortR (ltC cfQm) (U.take (s - a) ++ V.take (e - m)) ++ (sortR (ltC cfQm) (U.drop (s - a) ++ V.drop (e - m)) ++ Q))) w')) := by
      intro s e w' h1 h2 h3 h4 he hs h5
      show SO _ _ _ _ _ _ _ _ _
      have : sortR (ltC cfQm) (U.drop (s - a) ++ V.drop (e - m)) = U.drop (s - a) ++ V.drop (e - m) := by
        rcases h5 with h5 | h5
        · rw [List.drop_of_length_le (l := U) (by omega), List.nil_append]; exact sortR_srt hO (List.Pairwise.sublist (List.drop_sublist _ _) sV)
        · rw [List.drop_of_length_le (l := V) (by omega), List.append_nil]; exact sortR_srt hO (List.Pairwise.sublist (List.drop_sublist _ _) sU)
      rw [this, List.append_assoc (U.drop _)]; exact hs
    have HL := Lib.hid hlen
    have HS := Lib.hid hso
    have HGU := Lib.hid gU
    have HGV := Lib.hid gV
    clear hso hlen gU gV sU sV hP hU hV hsl IH
    by_cases hmm : m ≤ mid
    · have hmz : ¬ (mid : Int) < (m : Int) := by omega
      go_enter Tryd.func66, Tryd.ntmps66
      go_wp2
      go_loopg [20, 21, 23] (b - a) (fun gg t1 t2 t3 wr => ∃ s r, a ≤ s ∧ s ≤ r ∧ r ≤ m ∧ r - s ≤ gg ∧ t1 = .int .i64 (s : Nat) ∧ t2 = .int .i64 (r : Nat) ∧ Hid (SO encQm 5 T W0 B blk cap (P ++ (U ++ (V ++ Q))) wr) ∧ Hid (s = a ∨ ltC cfQm (P ++ (U ++ (V ++ Q)))[p - (s - 1)]! (P ++ (U ++ (V ++ Q)))[s - 1]! = false) ∧ Hid (r = m ∨ ltC cfQm (P ++ (U ++ (V ++ Q)))[p - r]! (P ++ (U ++ (V ++ Q)))[r]! = true))
      case atStart => exact ⟨a, m, Nat.le_refl _, by omega, Nat.le_refl _, by omega, rfl, rfl, HS, Or.inl rfl, Or.inl rfl⟩
      case round =>
        obtain ⟨s, r, hs0, hsr, hr0, hg, rfl, rfl, hS, f1, f2⟩ := hrel
        by_cases hlt : s < r
        · have hltz : (s : Int) < (r : Int) := by omega
          obtain ⟨c, hh⟩ : ∃ c, (s + r) / 2 = c := ⟨_, rfl⟩
          have hhz : ((s : Int) + (r : Int)) / 2 = (c : Int) := by omega
          have hsc : s ≤ c := by omega
          have hcr : c < r := by omega
          have hcl : (c : Int) < (len : Int) := by omega
          obtain ⟨d, hd⟩ : ∃ d, d + c = p := ⟨p - c, by omega⟩
          have hdz : (p : Int) - (c : Int) = (d : Int) := by omega
          have hdl : (d : Int) < (len : Int) := by omega
          have hdw : IntKind.i64.wrap (d : Int) = (d : Int) := by rw [IntKind.wrap_i64]; omega
          have hd1 : p - c = d := by omega
          clear HEND HROT HR0 HM1 HM10 HM2 HM20
          clear hh HS
          generalize hlst : P ++ (U ++ (V ++ Q)) = lst at *
          have hll : lst.length = len := HL.out
          obtain ⟨x, gx⟩ : ∃ x, lst[d]! = x := ⟨_, rfl⟩
          obtain ⟨y, gy⟩ : ∃ y, lst[c]! = y := ⟨_, rfl⟩
          obtain ⟨v, hv⟩ : ∃ v, cfQm x y = v := ⟨_, rfl⟩
          have hcmp := fun w' => cmp_Quorum x y w'
          rw [hv] at hcmp
          have HV := Lib.hid hv
          clear hv
          have HV' : Hid (cfQm lst[d]! lst[c]! = v) := by show _ = _; rw [gx, gy]; exact HV.out
          clear HV
          obtain ⟨x1, x2, x3, x4, x5⟩ := x
          obtain ⟨y1, y2, y3, y4, y5⟩ := y
          simp only [avQm] at hcmp
          obtain ⟨cA, cB⟩ : (∀ r u, (encQm (lst)[d]!)[r]? = some u → World.cell? _ ⟨blk, (d) * 5 + r, none⟩ = some u) ∧ (∀ r u, (encQm (lst)[c]!)[r]? = some u → World.cell? _ ⟨blk, (c) * 5 + r, none⟩ = some u) := ⟨fun r u hu => (hS.out).cell (d) (by omega) r u hu, fun r u hu => (hS.out).cell (c) (by omega) r u hu⟩
          rw [gx] at cA
          rw [gy] at cB
          have cA0 := cA 0 _ rfl; have cA1 := cA 1 _ rfl; have cA2 := cA 2 _ rfl
          have cB0 := cB 0 _ rfl; have cB1 := cB 1 _ rfl; have cB2 := cB 2 _ rfl
          try have cA3 := cA 3 _ rfl; have cB3 := cB 3 _ rfl; have cA4 := cA 4 _ rfl; have cB4 := cB 4 _ rfl
          simp only [Nat.add_zero] at cA0 cB0
          clear cA cB
          have dA0 := fun p : Grows wr => Grows.cell cA0 p; have dA1 := fun p : Grows wr => Grows.cell cA1 p; have dA2 := fun p : Grows wr => Grows.cell cA2 p
          have dB0 := fun p : Grows wr => Grows.cell cB0 p; have dB1 := fun p : Grows wr => Grows.cell cB1 p; have dB2 := fun p : Grows wr => Grows.cell cB2 p
          try have dA3 := fun p : Grows wr => Grows.cell cA3 p; have dB3 := fun p : Grows wr => Grows.cell cB3 p; have dA4 := fun p : Grows wr => Grows.cell cA4 p; have dB4 := fun p : Grows wr => Grows.cell cB4 p
          clear cA0 cA1 cA2 cB0 cB1 cB2
          try clear cA3 cB3 cA4 cB4
          have HC := Lib.hid hcmp
          clear hcmp gx gy
          by_cases hlv : v < 0
          · go_wp2_with fail
            (refine wp_region_grows (by kernel_rfl) (by kernel_rfl) ?_; (repeat quiet_step ((go_at_call 36; exact Grows.call _ (HC.out _)))); refine wpQuiet_nil ?_; intro _ hw'; obtain ⟨gw, hw''⟩ := hw'; subst hw'')
            have hS2 := Lib.hid (hS.out.grow gw.h)
            generalize gw.w = w3 at *
            go_wp2
            go_roundg (c - s)
            case measure => omega
            case rel =>
              refine ⟨s, c, by omega, by omega, by omega, by omega, rfl, rfl, hS2, f1, Or.inr ?_⟩
              rw [hd1]; unfold ltC; rw [HV'.out]; exact decide_eq_true hlv
          · go_wp2_with fail
            (refine wp_region_grows (by kernel_rfl) (by kernel_rfl) ?_; (repeat quiet_step ((go_at_call 36; exact Grows.call _ (HC.out _)))); refine wpQuiet_nil ?_; intro _ hw'; obtain ⟨gw, hw''⟩ := hw'; subst hw'')
            have hS2 := Lib.hid (hS.out.grow gw.h)
            generalize gw.w = w3 at *
            go_wp2
            go_roundg (r - (c + 1))
            case measure => omega
            case rel =>
              refine ⟨c + 1, r, by omega, by omega, by omega, by omega, by go_num, rfl, hS2, Or.inr ?_, f2⟩
              rw [show c + 1 - 1 = c by omega, hd1]; unfold ltC; rw [HV'.out]; simpa using hlv
            rename_i hbad
            exfalso; simp at hbad; omega
        · have hltz : ¬ (s : Int) < (r : Int) := by omega
          obtain rfl : s = r := by omega
          have f1' := f1.out
          have f2' := f2.out
          obtain ⟨e, he⟩ : ∃ e, s + e = n := ⟨n - s, by omega⟩
          have hez : (n : Int) - (s : Int) = (e : Int) := by omega
          have hew : IntKind.i64.wrap (e : Int) = (e : Int) := by rw [IntKind.wrap_i64]; omega
          have g1 : s = a ∨ ltC cfQm V[e - m]! U[s - 1 - a]! = false := by
            by_cases hq : s = a
            · exact Or.inl hq
            · rcases f1' with h | h
              · exact Or.inl h
              · right
                have q1 : a ≤ s - 1 := by omega
                have q2 : s - 1 < m := by omega
                have q3 : m ≤ p - (s - 1) := by omega
                have q4 : p - (s - 1) < b := by omega
                rw [HGU.out (s - 1) q1 q2, HGV.out (p - (s - 1)) q3 q4, show p - (s - 1) - m = e - m by omega] at h; exact h
          have g2 : s = m ∨ ltC cfQm V[e - 1 - m]! U[s - a]! = true := by
            by_cases hq : s = m
            · exact Or.inl hq
            · rcases f2' with h | h
              · exact Or.inl h
              · right
                have q1 : a ≤ s := by omega
                have q2 : s < m := by omega
                have q3 : m ≤ p - s := by omega
                have q4 : p - s < b := by omega
                rw [HGU.out s q1 q2, HGV.out (p - s) q3 q4, show p - s - m = e - 1 - m by omega] at h; exact h
          obtain ⟨k1, k2, k3, k4, hres⟩ := HEND.out (a) (m) s e (by omega) hs0 hr0 he g1 g2
          clear g1 g2
          have HRES := Lib.hid hres
          clear hres f1' f2' f1 f2 HGU HGV HEND
          have HS1 := hS
          clear hS
          generalize wr = w1 at *
          by_cases hA : s < m
          · by_cases hB : m < e
            · have tA : (s : Int) < (m : Int) := by omega
              have tB : (m : Int) < (e : Int) := by omega
              have tC : (s : Int) < (mid : Int) := by omega
              have tD : (mid : Int) < (e : Int) := by omega
              have C1 := HROT.out s e w1 k1 k2 k3 k4 HS1.out hA hB
              by_cases hC : a < s
              · have tE : (a : Int) < (s : Int) := by omega
                by_cases hD : e < b
                · have tF : (e : Int) < (b : Int) := by omega
                  go_wp2_with fail
                  refine C1.mono ?_
                  rintro e1 w2 ⟨rfl, hS2⟩
                  have C2 := HM1.out s e w2 k1 k2 k3 k4 he hS2.out hC (by omega)
                  clear C1
                  go_wp2_with fail
                  refine C2.mono ?_
                  rintro e1 w3 ⟨rfl, hS3⟩
                  have C3 := HM2.out s e w3 k1 k2 k3 k4 he hS3.out (by omega) hD
                  clear C2
                  go_wp2_with fail
                  refine C3.mono ?_
                  rintro e1 w4 ⟨rfl, hS4⟩
                  have hfin := hS4.out
                  rw [← List.append_assoc (sortR (ltC cfQm) (U.take (s - a) ++ V.take (e - m))), ← HRES.out] at hfin
                  have HFI := Lib.hid hfin
                  clear hfin
                  go_wp2
                  go_end0
                  exact ⟨rfl, HFI.out⟩
                · have tF : ¬ (e : Int) < (b : Int) := by omega
                  go_wp2_with fail
                  refine C1.mono ?_
                  rintro e1 w2 ⟨rfl, hS2⟩
                  have C2 := HM1.out s e w2 k1 k2 k3 k4 he hS2.out hC (by omega)
                  clear C1
                  go_wp2_with fail
                  refine C2.mono ?_
                  rintro e1 w3 ⟨rfl, hS3⟩
                  have hS4 := HM20.out s e w3 k1 k2 k3 k4 he hS3.out (Or.inr (by omega))
                  have hfin := hS4.out
                  rw [← List.append_assoc (sortR (ltC cfQm) (U.take (s - a) ++ V.take (e - m))), ← HRES.out] at hfin
                  have HFI := Lib.hid hfin
                  clear hfin
                  go_wp2
                  go_end0
                  exact ⟨rfl, HFI.out⟩
              · have tE : ¬ (a : Int) < (s : Int) := by omega
                by_cases hD : e < b
                · have tF : (e : Int) < (b : Int) := by omega
                  go_wp2_with fail
                  refine C1.mono ?_
                  rintro e1 w2 ⟨rfl, hS2⟩
                  have hS3 := HM10.out s e w2 k1 k2 k3 k4 he hS2.out (Or.inl (by omega))
                  have C3 := HM2.out s e w2 k1 k2 k3 k4 he hS3.out (by omega) hD
                  clear C1
                  go_wp2_with fail
                  refine C3.mono ?_
                  rintro e1 w4 ⟨rfl, hS4⟩
                  have hfin := hS4.out
                  rw [← List.append_assoc (sortR (ltC cfQm) (U.take (s - a) ++ V.take (e - m))), ← HRES.out] at hfin
                  have HFI := Lib.hid hfin
                  clear hfin
                  go_wp2
                  go_end0
                  exact ⟨rfl, HFI.out⟩
                · have tF : ¬ (e : Int) < (b : Int) := by omega
                  go_wp2_with fail
                  refine C1.mono ?_
                  rintro e1 w2 ⟨rfl, hS2⟩
                  have hS3 := HM10.out s e w2 k1 k2 k3 k4 he hS2.out (Or.inl (by omega))
                  have hS4 := HM20.out s e w2 k1 k2 k3 k4 he hS3.out (Or.inr (by omega))
                  have hfin := hS4.out
                  rw [← List.append_assoc (sortR (ltC cfQm) (U.take (s - a) ++ V.take (e - m))), ← HRES.out] at hfin
                  have HFI := Lib.hid hfin
                  clear hfin
                  go_wp2
                  go_end0
                  exact ⟨rfl, HFI.out⟩
            · have tA : (s : Int) < (m : Int) := by omega
              have tB : ¬ (m : Int) < (e : Int) := by omega
              have tC : ¬ (s : Int) < (mid : Int) := by omega
              have tD : (mid : Int) < (e : Int) := by omega
              have tE : (a : Int) < (s : Int) := by omega
              have hS2 := HR0.out s e w1 k1 k2 k3 k4 HS1.out (Or.inr (by omega))
              have hS3 := HM10.out s e w1 k1 k2 k3 k4 he hS2.out (Or.inr (by omega))
              have tF : (e : Int) < (b : Int) := by omega
              have C3 := HM2.out s e w1 k1 k2 k3 k4 he hS3.out (by omega) (by omega)
              go_wp2_with fail
              refine C3.mono ?_
              rintro e1 w4 ⟨rfl, hS4⟩
              have hfin := hS4.out
              rw [← List.append_assoc (sortR (ltC cfQm) (U.take (s - a) ++ V.take (e - m))), ← HRES.out] at hfin
              have HFI := Lib.hid hfin
              clear hfin
              go_wp2
              go_end0
              exact ⟨rfl, HFI.out⟩
          · first
            | (exfalso; omega)
            | have tA : ¬ (s : Int) < (m : Int) := by omega
              have tD : ¬ (mid : Int) < (e : Int) := by omega
              have tE : (a : Int) < (s : Int) := by omega
              have hS2 := HR0.out s e w1 k1 k2 k3 k4 HS1.out (Or.inl (by omega))
              by_cases hB : m < e
              · have tB : (m : Int) < (e : Int) := by omega
                have tC : (s : Int) < (mid : Int) := by omega
                have C2 := HM1.out s e w1 k1 k2 k3 k4 he hS2.out (by omega) (by omega)
                go_wp2_with fail
                refine C2.mono ?_
                rintro e1 w3 ⟨rfl, hS3⟩
                have hS4 := HM20.out s e w3 k1 k2 k3 k4 he hS3.out (Or.inl (by omega))
                have hfin := hS4.out
                rw [← List.append_assoc (sortR (ltC cfQm) (U.take (s - a) ++ V.take (e - m))), ← HRES.out] at hfin
                have HFI := Lib.hid hfin
                clear hfin
                go_wp2
                go_end0
                exact ⟨rfl, HFI.out⟩
              · have tB : ¬ (m : Int) < (e : Int) := by omega
                have tC : ¬ (s : Int) < (mid : Int) := by omega
                have hS3 := HM10.out s e w1 k1 k2 k3 k4 he hS2.out (Or.inr (by omega))
                have hS4 := HM20.out s e w1 k1 k2 k3 k4 he hS3.out (Or.inl (by omega))
                have hfin := hS4.out
                rw [← List.append_assoc (sortR (ltC cfQm) (U.take (s - a) ++ V.take (e - m))), ← HRES.out] at hfin
                have HFI := Lib.hid hfin
                clear hfin
                go_wp2
                go_end0
                exact ⟨rfl, HFI.out⟩
    · have hmz : (mid : Int) < (m : Int) := by omega
      obtain ⟨s0, hs0'⟩ : ∃ s0, s0 + b = n := ⟨n - b, by omega⟩
      have hs0z : (n : Int) - (b : Int) = (s0 : Int) := by omega
      have hs0w : IntKind.i64.wrap (s0 : Int) = (s0 : Int) := by rw [IntKind.wrap_i64]; omega
      go_enter Tryd.func66, Tryd.ntmps66
      go_wp2
      go_loopg [20, 21, 23] (b - a) (fun gg t1 t2 t3 wr => ∃ s r, s0 ≤ s ∧ s ≤ r ∧ r ≤ mid ∧ r - s ≤ gg ∧ t1 = .int .i64 (s : Nat) ∧ t2 = .int .i64 (r : Nat) ∧ Hid (SO encQm 5 T W0 B blk cap (P ++ (U ++ (V ++ Q))) wr) ∧ Hid (s = s0 ∨ ltC cfQm (P ++ (U ++ (V ++ Q)))[p - (s - 1)]! (P ++ (U ++ (V ++ Q)))[s - 1]! = false) ∧ Hid (r = mid ∨ ltC cfQm (P ++ (U ++ (V ++ Q)))[p - r]! (P ++ (U ++ (V ++ Q)))[r]! = true))
      case atStart => exact ⟨s0, mid, Nat.le_refl _, by omega, Nat.le_refl _, by omega, rfl, rfl, HS, Or.inl rfl, Or.inl rfl⟩
      case round =>
        obtain ⟨s, r, hs0, hsr, hr0, hg, rfl, rfl, hS, f1, f2⟩ := hrel
        by_cases hlt : s < r
        · have hltz : (s : Int) < (r : Int) := by omega
          obtain ⟨c, hh⟩ : ∃ c, (s + r) / 2 = c := ⟨_, rfl⟩
          have hhz : ((s : Int) + (r : Int)) / 2 = (c : Int) := by omega
          have hsc : s ≤ c := by omega
          have hcr : c < r := by omega
          have hcl : (c : Int) < (len : Int) := by omega
          obtain ⟨d, hd⟩ : ∃ d, d + c = p := ⟨p - c, by omega⟩
          have hdz : (p : Int) - (c : Int) = (d : Int) := by omega
          have hdl : (d : Int) < (len : Int) := by omega
          have hdw : IntKind.i64.wrap (d : Int) = (d : Int) := by rw [IntKind.wrap_i64]; omega
          have hd1 : p - c = d := by omega
          clear HEND HROT HR0 HM1 HM10 HM2 HM20
          clear hh HS
          generalize hlst : P ++ (U ++ (V ++ Q)) = lst at *
          have hll : lst.length = len := HL.out
          obtain ⟨x, gx⟩ : ∃ x, lst[d]! = x := ⟨_, rfl⟩
          obtain ⟨y, gy⟩ : ∃ y, lst[c]! = y := ⟨_, rfl⟩
          obtain ⟨v, hv⟩ : ∃ v, cfQm x y = v := ⟨_, rfl⟩
          have hcmp := fun w' => cmp_Quorum x y w'
          rw [hv] at hcmp
          have HV := Lib.hid hv
          clear hv
          have HV' : Hid (cfQm lst[d]! lst[c]! = v) := by show _ = _; rw [gx, gy]; exact HV.out
          clear HV
          obtain ⟨x1, x2, x3, x4, x5⟩ := x
          obtain ⟨y1, y2, y3, y4, y5⟩ := y
          simp only [avQm] at hcmp
          obtain ⟨cA, cB⟩ : (∀ r u, (encQm (lst)[d]!)[r]? = some u → World.cell? _ ⟨blk, (d) * 5 + r, none⟩ = some u) ∧ (∀ r u, (encQm (lst)[c]!)[r]? = some u → World.cell? _ ⟨blk, (c) * 5 + r, none⟩ = some u) := ⟨fun r u hu => (hS.out).cell (d) (by omega) r u hu, fun r u hu => (hS.out).cell (c) (by omega) r u hu⟩
          rw [gx] at cA
          rw [gy] at cB
          have cA0 := cA 0 _ rfl; have cA1 := cA 1 _ rfl; have cA2 := cA 2 _ rfl
          have cB0 := cB 0 _ rfl; have cB1 := cB 1 _ rfl; have cB2 := cB 2 _ rfl
          try have cA3 := cA 3 _ rfl; have cB3 := cB 3 _ rfl; have cA4 := cA 4 _ rfl; have cB4 := cB 4 _ rfl
          simp only [Nat.add_zero] at cA0 cB0
          clear cA cB
          have dA0 := fun p : Grows wr => Grows.cell cA0 p; have dA1 := fun p : Grows wr => Grows.cell cA1 p; have dA2 := fun p : Grows wr => Grows.cell cA2 p
          have dB0 := fun p : Grows wr => Grows.cell cB0 p; have dB1 := fun p : Grows wr => Grows.cell cB1 p; have dB2 := fun p : Grows wr => Grows.cell cB2 p
          try have dA3 := fun p : Grows wr => Grows.cell cA3 p; have dB3 := fun p : Grows wr => Grows.cell cB3 p; have dA4 := fun p : Grows wr => Grows.cell cA4 p; have dB4 := fun p : Grows wr => Grows.cell cB4 p
          clear cA0 cA1 cA2 cB0 cB1 cB2
          try clear cA3 cB3 cA4 cB4
          have HC := Lib.hid hcmp
          clear hcmp gx gy
          by_cases hlv : v < 0
          · go_wp2_with fail
            (refine wp_region_grows (by kernel_rfl) (by kernel_rfl) ?_; (repeat quiet_step ((go_at_call 36; exact Grows.call _ (HC.out _)))); refine wpQuiet_nil ?_; intro _ hw'; obtain ⟨gw, hw''⟩ := hw'; subst hw'')
            have hS2 := Lib.hid (hS.out.grow gw.h)
            generalize gw.w = w3 at *
            go_wp2
            go_roundg (c - s)
            case measure => omega
            case rel =>
              refine ⟨s, c, by omega, by omega, by omega, by omega, rfl, rfl, hS2, f1, Or.inr ?_⟩
              rw [hd1]; unfold ltC; rw [HV'.out]; exact decide_eq_true hlv
          · go_wp2_with fail
            (refine wp_region_grows (by kernel_rfl) (by kernel_rfl) ?_; (repeat quiet_step ((go_at_call 36; exact Grows.call _ (HC.out _)))); refine wpQuiet_nil ?_; intro _ hw'; obtain ⟨gw, hw''⟩ := hw'; subst hw'')
            have hS2 := Lib.hid (hS.out.grow gw.h)
            generalize gw.w = w3 at *
            go_wp2
            go_roundg (r - (c + 1))
            case measure => omega
            case rel =>
              refine ⟨c + 1, r, by omega, by omega, by omega, by omega, by go_num, rfl, hS2, Or.inr ?_, f2⟩
              rw [show c + 1 - 1 = c by omega, hd1]; unfold ltC; rw [HV'.out]; simpa using hlv
            rename_i hbad
            exfalso; simp at hbad; omega
        · have hltz : ¬ (s : Int) < (r : Int) := by omega
          obtain rfl : s = r := by omega
          have f1' := f1.out
          have f2' := f2.out
          obtain ⟨e, he⟩ : ∃ e, s + e = n := ⟨n - s, by omega⟩
          have hez : (n : Int) - (s : Int) = (e : Int) := by omega
          have hew : IntKind.i64.wrap (e : Int) = (e : Int) := by rw [IntKind.wrap_i64]; omega
          have g1 : s = s0 ∨ ltC cfQm V[e - m]! U[s - 1 - a]! = false := by
            by_cases hq : s = s0
            · exact Or.inl hq
            · rcases f1' with h | h
              · exact Or.inl h
              · right
                have q1 : a ≤ s - 1 := by omega
                have q2 : s - 1 < m := by omega
                have q3 : m ≤ p - (s - 1) := by omega
                have q4 : p - (s - 1) < b := by omega
                rw [HGU.out (s - 1) q1 q2, HGV.out (p - (s - 1)) q3 q4, show p - (s - 1) - m = e - m by omega] at h; exact h
          have g2 : s = mid ∨ ltC cfQm V[e - 1 - m]! U[s - a]! = true := by
            by_cases hq : s = mid
            · exact Or.inl hq
            · rcases f2' with h | h
              · exact Or.inl h
              · right
                have q1 : a ≤ s := by omega
                have q2 : s < m := by omega
                have q3 : m ≤ p - s := by omega
                have q4 : p - s < b := by omega
                rw [HGU.out s q1 q2, HGV.out (p - s) q3 q4, show p - s - m = e - 1 - m by omega] at h; exact h
          obtain ⟨k1, k2, k3, k4, hres⟩ := HEND.out (s0) (mid) s e (by omega) hs0 hr0 he g1 g2
          clear g1 g2
          have HRES := Lib.hid hres
          clear hres f1' f2' f1 f2 HGU HGV HEND
          have HS1 := hS
          clear hS
          generalize wr = w1 at *
          by_cases hA : s < m
          · by_cases hB : m < e
            · have tA : (s : Int) < (m : Int) := by omega
              have tB : (m : Int) < (e : Int) := by omega
              have tC : (s : Int) < (mid : Int) := by omega
              have tD : (mid : Int) < (e : Int) := by omega
              have C1 := HROT.out s e w1 k1 k2 k3 k4 HS1.out hA hB
              by_cases hC : a < s
              · have tE : (a : Int) < (s : Int) := by omega
                by_cases hD : e < b
                · have tF : (e : Int) < (b : Int) := by omega
                  go_wp2_with fail
                  refine C1.mono ?_
                  rintro e1 w2 ⟨rfl, hS2⟩
                  have C2 := HM1.out s e w2 k1 k2 k3 k4 he hS2.out hC (by omega)
                  clear C1
                  go_wp2_with fail
                  refine C2.mono ?_
                  rintro e1 w3 ⟨rfl, hS3⟩
                  have C3 := HM2.out s e w3 k1 k2 k3 k4 he hS3.out (by omega) hD
                  clear C2
                  go_wp2_with fail
                  refine C3.mono ?_
                  rintro e1 w4 ⟨rfl, hS4⟩
                  have hfin := hS4.out
                  rw [← List.append_assoc (sortR (ltC cfQm) (U.take (s - a) ++ V.take (e - m))), ← HRES.out] at hfin
                  have HFI := Lib.hid hfin
                  clear hfin
                  go_wp2
                  go_end0
                  exact ⟨rfl, HFI.out⟩
                · have tF : ¬ (e : Int) < (b : Int) := by omega
                  go_wp2_with fail
                  refine C1.mono ?_
                  rintro e1 w2 ⟨rfl, hS2⟩
                  have C2 := HM1.out s e w2 k1 k2 k3 k4 he hS2.out hC (by omega)
                  clear C1
                  go_wp2_with fail
                  refine C2.mono ?_
                  rintro e1 w3 ⟨rfl, hS3⟩
                  have hS4 := HM20.out s e w3 k1 k2 k3 k4 he hS3.out (Or.inr (by omega))
                  have hfin := hS4.out
                  rw [← List.append_assoc (sortR (ltC cfQm) (U.take (s - a) ++ V.take (e - m))), ← HRES.out] at hfin
                  have HFI := Lib.hid hfin
                  clear hfin
                  go_wp2
                  go_end0
                  exact ⟨rfl, HFI.out⟩
              · have tE : ¬ (a : Int) < (s : Int) := by omega
                by_cases hD : e < b
                · have tF : (e : Int) < (b : Int) := by omega
                  go_wp2_with fail
                  refine C1.mono ?_
                  rintro e1 w2 ⟨rfl, hS2⟩
                  have hS3 := HM10.out s e w2 k1 k2 k3 k4 he hS2.out (Or.inl (by omega))
                  have C3 := HM2.out s e w2 k1 k2 k3 k4 he hS3.out (by omega) hD
                  clear C1
                  go_wp2_with fail
                  refine C3.mono ?_
                  rintro e1 w4 ⟨rfl, hS4⟩
                  have hfin := hS4.out
                  rw [← List.append_assoc (sortR (ltC cfQm) (U.take (s - a) ++ V.take (e - m))), ← HRES.out] at hfin
                  have HFI := Lib.hid hfin
                  clear hfin
                  go_wp2
                  go_end0
                  exact ⟨rfl, HFI.out⟩
                · have tF : ¬ (e : Int) < (b : Int) := by omega
                  go_wp2_with fail
                  refine C1.mono ?_
                  rintro e1 w2 ⟨rfl, hS2⟩
                  have hS3 := HM10.out s e w2 k1 k2 k3 k4 he hS2.out (Or.inl (by omega))
                  have hS4 := HM20.out s e w2 k1 k2 k3 k4 he hS3.out (Or.inr (by omega))
                  have hfin := hS4.out
                  rw [← List.append_assoc (sortR (ltC cfQm) (U.take (s - a) ++ V.take (e - m))), ← HRES.out] at hfin
                  have HFI := Lib.hid hfin
                  clear hfin
                  go_wp2
                  go_end0
                  exact ⟨rfl, HFI.out⟩
            · have tA : (s : Int) < (m : Int) := by omega
              have tB : ¬ (m : Int) < (e : Int) := by omega
              have tC : ¬ (s : Int) < (mid : Int) := by omega
              have tD : (mid : Int) < (e : Int) := by omega
              have tE : (a : Int) < (s : Int) := by omega
              have hS2 := HR0.out s e w1 k1 k2 k3 k4 HS1.out (Or.inr (by omega))
              have hS3 := HM10.out s e w1 k1 k2 k3 k4 he hS2.out (Or.inr (by omega))
              have tF : (e : Int) < (b : Int) := by omega
              have C3 := HM2.out s e w1 k1 k2 k3 k4 he hS3.out (by omega) (by omega)
              go_wp2_with fail
              refine C3.mono ?_
              rintro e1 w4 ⟨rfl, hS4⟩
              have hfin := hS4.out
              rw [← List.append_assoc (sortR (ltC cfQm) (U.take (s - a) ++ V.take (e - m))), ← HRES.out] at hfin
              have HFI := Lib.hid hfin
              clear hfin
              go_wp2
              go_end0
              exact ⟨rfl, HFI.out⟩
          · first
            | (exfalso; omega)
            | have tA : ¬ (s : Int) < (m : Int) := by omega
              have tD : ¬ (mid : Int) < (e : Int) := by omega
              have tE : (a : Int) < (s : Int) := by omega
              have hS2 := HR0.out s e w1 k1 k2 k3 k4 HS1.out (Or.inl (by omega))
              by_cases hB : m < e
              · have tB : (m : Int) < (e : Int) := by omega
                have tC : (s : Int) < (mid : Int) := by omega
                have C2 := HM1.out s e w1 k1 k2 k3 k4 he hS2.out (by omega) (by omega)
                go_wp2_with fail
                refine C2.mono ?_
                rintro e1 w3 ⟨rfl, hS3⟩
                have hS4 := HM20.out s e w3 k1 k2 k3 k4 he hS3.out (Or.inl (by omega))
                have hfin := hS4.out
                rw [← List.append_assoc (sortR (ltC cfQm) (U.take (s - a) ++ V.take (e - m))), ← HRES.out] at hfin
                have HFI := Lib.hid hfin
                clear hfin
                go_wp2
                go_end0
                exact ⟨rfl, HFI.out⟩
              · have tB : ¬ (m : Int) < (e : Int) := by omega
                have tC : ¬ (s : Int) < (mid : Int) := by omega
                have hS3 := HM10.out s e w1 k1 k2 k3 k4 he hS2.out (Or.inr (by omega))
                have hS4 := HM20.out s e w1 k1 k2 k3 k4 he hS3.out (Or.inl (by omega))
                have hfin := hS4.out
                rw [← List.append_assoc (sortR (ltC cfQm) (U.take (s - a) ++ V.take (e - m))), ← HRES.out] at hfin
                have HFI := Lib.hid hfin
                clear hfin
                go_wp2
                go_end0
                exact ⟨rfl, HFI.out⟩
end Go.Proofs.YtemkffejekgmfaaDoor
