/- slices.insertionSortCmpFunc at the structs: the stretch becomes its own sorted row. -/
import Derived.Test.YtemkffejekgmfaaDoorK2
import Derived.Test.YtemkffejekgmfaaDoorK0
import Derived.Test.YtemkffejekgmfaaDoorR5
namespace Go.Proofs.YtemkffejekgmfaaDoor
open Go.RowKit Go.Shelf Go.Lib

def ltC {α : Type} (cf : α → α → Int) (x y : α) : Bool := decide (cf x y < 0)
theorem sortR_take {α : Type} [Inhabited α] (lt : α → α → Bool) (X : List α) (n : Nat) (h : n < X.length) : sortR lt (X.take (n + 1)) = insR lt (sortR lt (X.take n)) X[n]! := by
  rw [← sortR_snoc]; congr 1
  rw [List.take_add_one, List.getElem?_eq_getElem h]; simp [h]
theorem get_mid {α : Type} [Inhabited α] (P Q : List α) (x : α) (n : Nat) (h : n = P.length) : (P ++ x :: Q)[n]! = x := by subst h; simp
theorem drop_cons {α : Type} [Inhabited α] (l : List α) (n : Nat) (h : n < l.length) : l.drop n = l[n]! :: l.drop (n + 1) := by
  rw [List.drop_eq_getElem_cons h]; simp [h]
theorem take_snoc {α : Type} [Inhabited α] (l : List α) (n : Nat) (h : n < l.length) : l.take (n + 1) = l.take n ++ [l[n]!] := by
  rw [List.take_add_one, List.getElem?_eq_getElem h]; simp [h]
theorem swapL_adj {α : Type} [Inhabited α] (P Q : List α) (x y : α) (i j : Nat) (hi : i = P.length + 1) (hj : j = P.length) : swapL (P ++ y :: x :: Q) i j = P ++ x :: y :: Q := by
  subst hi hj
  have h := swapL_split P [] Q y x
  simp only [List.nil_append, List.length_nil, Nat.add_zero] at h
  rw [← h]
  have hc : ∀ (l : List α) (i j : Nat), i ≠ j → swapL l i j = swapL l j i := fun l i j hne => by
    unfold swapL; exact List.set_comm _ _ hne
  exact hc _ _ _ (by omega)
theorem sortR_one {α : Type} [Inhabited α] (lt : α → α → Bool) (X : List α) : sortR lt (X.take 1) = X.take 1 := by
  cases X with
  | nil => rfl
  | cons x X => simp [sortR, insR, scanAt]
/-- The stretch while an element goes to its place. -/
def midL {α : Type} (P S R : List α) (x : α) (n : Nat) : List α := P ++ (S.take n ++ x :: (S.drop n ++ R))
theorem midL_length {α : Type} (P S R : List α) (x : α) (n : Nat) : (midL P S R x n).length = P.length + S.length + 1 + R.length := by
  unfold midL; simp; omega
theorem midL_at {α : Type} [Inhabited α] (P S R : List α) (x : α) (n j : Nat) (h : n ≤ S.length) (hj : j = P.length + n) : (midL P S R x n)[j]! = x := by
  unfold midL
  rw [← List.append_assoc]
  exact get_mid _ _ _ _ (by simp; omega)
theorem midL_split {α : Type} [Inhabited α] (P S R : List α) (x : α) (n : Nat) (h : n < S.length) : midL P S R x (n + 1) = (P ++ S.take n) ++ S[n]! :: (x :: (S.drop (n + 1) ++ R)) := by
  unfold midL
  rw [take_snoc S n h]; simp
theorem midL_before {α : Type} [Inhabited α] (P S R : List α) (x : α) (n j : Nat) (h : n < S.length) (hj : j = P.length + n) : (midL P S R x (n + 1))[j]! = S[n]! := by
  rw [midL_split P S R x n h]
  exact get_mid _ _ _ _ (by simp; omega)
theorem midL_step {α : Type} [Inhabited α] (P S R : List α) (x : α) (n i j : Nat) (h : n < S.length) (hi : i = P.length + n + 1) (hj : j = P.length + n) : swapL (midL P S R x (n + 1)) i j = midL P S R x n := by
  rw [midL_split P S R x n h, swapL_adj _ _ _ _ _ _ (by simp; omega) (by simp; omega)]
  unfold midL
  rw [drop_cons S n h]; simp

set_option maxRecDepth 100000 in
set_option maxHeartbeats 4000000 in
theorem insertion_Rule (a b : Nat) (X Q0 P0 : List Rl) (T : TypeId) (W0 : World) (B blk cap len : Nat) (W : World) (h : SO encRl 3 T W0 B blk cap (P0 ++ (X ++ Q0)) W) (hc : len ≤ 140737488355328)
    (hlen : (P0 ++ (X ++ Q0)).length = len) (ha : P0.length = a) (hb : a + X.length = b) :
    Calls Tryd.prog 63 #[.slice (some ⟨blk, 0, none⟩) len cap, .int .i64 a, .int .i64 b, .func (.func 32) #[] #[]] W fun e w' => e = .returned (.tuple #[]) ∧ SO encRl 3 T W0 B blk cap (P0 ++ (sortR (ltC cfRl) X ++ Q0)) w' := by
  have HI : Hid (SO encRl 3 T W0 B blk cap (P0 ++ (sortR (ltC cfRl) (X.take 0) ++ (X.drop 0 ++ Q0))) W) := by show SO _ _ _ _ _ _ _ _ _; simpa [sortR] using h
  have HL : Hid ((P0 ++ (X ++ Q0)).length = len) := hlen
  have HA : Hid (P0.length = a) := ha
  have HB : Hid (a + X.length = b) := hb
  have hbl : b ≤ len := by rw [← hlen]; simp; omega
  have hab : a ≤ b := by omega
  clear h hlen ha hb
  have w1 : IntKind.i64.wrap ((a : Int) + 1) = ((a + 1 : Nat) : Int) := by rw [IntKind.wrap_i64]; omega
  go_enter Tryd.func63, Tryd.ntmps63
  go_wp2
  go_loopg [8] (b - a) (fun gg s wr => ∃ i, a < i ∧ i ≤ b + 1 ∧ b + 1 - i ≤ gg + 1 ∧ s = .int .i64 (i : Nat) ∧ Hid (SO encRl 3 T W0 B blk cap (P0 ++ (sortR (ltC cfRl) (X.take (i - a)) ++ (X.drop (i - a) ++ Q0))) wr))
  case atStart =>
    refine ⟨a + 1, by omega, by omega, by omega, by go_num, ?_⟩
    show SO _ _ _ _ _ _ _ _ _
    rw [show a + 1 - a = 1 by omega, sortR_one, ← List.append_assoc (X.take 1), List.take_append_drop]
    simpa [sortR] using HI.out
  case round =>
    obtain ⟨i, hai, hib, hg, rfl, hS⟩ := hrel
    by_cases hlt : i < b
    · have hltz : (i : Int) < (b : Int) := by omega
      have hin : i - a < X.length := by have := HB.out; omega
      have hsl : (sortR (ltC cfRl) (X.take (i - a))).length = i - a := by rw [sortR_length]; simp; omega
      have hnx : sortR (ltC cfRl) (X.take (i + 1 - a)) = insR (ltC cfRl) (sortR (ltC cfRl) (X.take (i - a))) X[i - a]! := by
        rw [show i + 1 - a = i - a + 1 by omega]; exact sortR_take _ _ _ hin
      have hS0 := hS.out
      rw [drop_cons X (i - a) hin] at hS0
      have hdr : X.drop (i + 1 - a) = X.drop (i - a + 1) := by rw [show i + 1 - a = i - a + 1 by omega]
      have hR : i + 1 + (X.drop (i - a + 1) ++ Q0).length = len := by
        have h1 := HL.out; have h2 := HA.out; have h3 := HB.out
        simp at h1 ⊢; omega
      generalize sortR (ltC cfRl) (X.take (i - a)) = S at *
      generalize X[i - a]! = x at *
      have HNX : Hid (∀ w', SO encRl 3 T W0 B blk cap (P0 ++ (insR (ltC cfRl) S x ++ (X.drop (i - a + 1) ++ Q0))) w' → Hid (SO encRl 3 T W0 B blk cap (P0 ++ (sortR (ltC cfRl) (X.take (i + 1 - a)) ++ (X.drop (i + 1 - a) ++ Q0))) w')) := by
        intro w' h
        rw [hnx, hdr]; exact h
      have hS1 : Hid (SO encRl 3 T W0 B blk cap (midL P0 S (X.drop (i - a + 1) ++ Q0) x (i - a)) wr) := by
        show SO _ _ _ _ _ _ _ _ _
        unfold midL
        rw [← hsl, List.take_length, List.drop_length, hsl]
        simpa using hS0
      clear hS hS0 hnx hdr
      generalize X.drop (i - a + 1) ++ Q0 = R at *
      have HSL := Lib.hid hsl
      have HR := Lib.hid hR
      clear hsl hR hin
      go_wp2
      go_loopg [9] i (fun gg s wr2 => ∃ j, a ≤ j ∧ j ≤ i ∧ j ≤ gg ∧ s = .int .i64 (j : Nat) ∧ Hid (scanAt (ltC cfRl) x S S.length = scanAt (ltC cfRl) x S (j - a)) ∧ Hid (SO encRl 3 T W0 B blk cap (midL P0 S R x (j - a)) wr2))
      case atStart => exact ⟨i, by omega, Nat.le_refl _, Nat.le_refl _, rfl, by show _ = _; rw [HSL.out], hS1⟩
      case round =>
        clear hS1
        obtain ⟨j, haj, hji, hgj, rfl, hsc, hJ⟩ := hrel
        have HOUT : Hid (scanAt (ltC cfRl) x S (j - a) = j - a → ∀ w', SO encRl 3 T W0 B blk cap (midL P0 S R x (j - a)) w' → SO encRl 3 T W0 B blk cap (P0 ++ (insR (ltC cfRl) S x ++ R)) w') := by
          intro h1 w' h2
          have : insR (ltC cfRl) S x = S.take (j - a) ++ [x] ++ S.drop (j - a) := by unfold insR; rw [hsc.out, h1]
          rw [this]
          unfold midL at h2
          simpa using h2
        by_cases hja : a < j
        · obtain ⟨jp, rfl⟩ : ∃ jp, j = jp + 1 := ⟨j - 1, by omega⟩
          have hjaz : (a : Int) < (jp : Int) + 1 := by omega
          have hwp : IntKind.i64.wrap (jp : Int) = (jp : Int) := by rw [IntKind.wrap_i64]; have := HR.out; omega
          have jz : (jp : Int) + 1 < (len : Int) := by have := HR.out; omega
          have jz1 : (jp : Int) < (len : Int) := by omega
          have p0 : (0 : Int) ≤ (jp : Int) + 1 := by omega
          have e0 : ((jp : Int) + 1).toNat = jp + 1 := by omega
          have en : jp + 1 - a = jp - a + 1 := by omega
          have hnS : jp - a < S.length := by have := HSL.out; omega
          have hlm : ∀ n, (midL P0 S R x n).length = len := fun n => by rw [midL_length]; have h1 := HR.out; have h2 := HSL.out; have h3 := HA.out; omega
          have hJ' := hJ.out
          rw [en] at hJ'
          have gx : (midL P0 S R x (jp - a + 1))[jp + 1]! = x := midL_at _ _ _ _ _ _ (by omega) (by have := HA.out; omega)
          have gy : (midL P0 S R x (jp - a + 1))[jp]! = S[jp - a]! := midL_before _ _ _ _ _ _ hnS (by have := HA.out; omega)
          have gs : swapL (midL P0 S R x (jp - a + 1)) (jp + 1) jp = midL P0 S R x (jp - a) := midL_step _ _ _ _ _ _ _ hnS (by have := HA.out; omega) (by have := HA.out; omega)
          have hsw := hJ'.drew.swapped len_Rl (jp + 1) jp (by rw [hlm]; omega) (by rw [hlm]; omega)
          have hswap : ∀ w', SO encRl 3 T W0 B blk cap (midL P0 S R x (jp - a + 1)) w' → SO encRl 3 T W0 B blk cap (midL P0 S R x (jp - a)) ((w'.setCells blk ((jp + 1) * 3) (encRl S[jp - a]!)).setCells blk (jp * 3) (encRl x)) := by
            intro w' h
            have := h.swapped len_Rl (jp + 1) jp (by rw [hlm]; omega) (by rw [hlm]; omega)
            rw [gx, gy, gs] at this; exact this
          have hcells : ∀ w', SO encRl 3 T W0 B blk cap (midL P0 S R x (jp - a + 1)) w' → (∀ r u, (encRl x)[r]? = some u → w'.cell? ⟨blk, (jp + 1) * 3 + r, none⟩ = some u) ∧ (∀ r u, (encRl S[jp - a]!)[r]? = some u → w'.cell? ⟨blk, jp * 3 + r, none⟩ = some u) := by
            intro w' h
            refine ⟨fun r u hu => h.cell (jp + 1) (by rw [hlm]; omega) r u (by rw [gx]; exact hu), fun r u hu => h.cell jp (by rw [hlm]; omega) r u (by rw [gy]; exact hu)⟩
          have HSC : Hid (scanAt (ltC cfRl) x S (jp - a + 1) = if ltC cfRl x S[jp - a]! = true then scanAt (ltC cfRl) x S (jp - a) else jp - a + 1) := rfl
          have HSC0 : Hid (scanAt (ltC cfRl) x S S.length = scanAt (ltC cfRl) x S (jp - a + 1)) := by have := hsc.out; rw [en] at this; exact this
          rw [en] at HOUT
          clear gx gy gs hsw hsc hJ hlm
          clear hnS
          generalize S[jp - a]! = y at *
          obtain ⟨v, hv⟩ : ∃ v, cfRl x y = v := ⟨_, rfl⟩
          have hcmp := fun w' => cmp_Rule x y w'
          rw [hv] at hcmp
          obtain ⟨x1, x2, x3⟩ := x
          obtain ⟨y1, y2, y3⟩ := y
          simp only [avRl] at hcmp
          have HJ := Lib.hid hJ'
          have HV := Lib.hid hv
          have HSW := Lib.hid hswap
          have HCE := Lib.hid hcells
          clear hswap hcells hJ' hv
          have n1 : (jp + 1) * 3 ≠ jp * 3 := by omega
          obtain ⟨cA, cB⟩ := HCE.out _ HJ.out
          have cA0 := cA 0 _ rfl; have cA1 := cA 1 _ rfl; have cA2 := cA 2 _ rfl
          have cB0 := cB 0 _ rfl; have cB1 := cB 1 _ rfl; have cB2 := cB 2 _ rfl
          try have cA3 := cA 3 _ rfl; have cB3 := cB 3 _ rfl; have cA4 := cA 4 _ rfl; have cB4 := cB 4 _ rfl
          simp only [Nat.add_zero] at cA0 cB0
          have dA0 := fun p : Grows wr => Grows.cell cA0 p; have dA1 := fun p : Grows wr => Grows.cell cA1 p; have dA2 := fun p : Grows wr => Grows.cell cA2 p
          have dB0 := fun p : Grows wr => Grows.cell cB0 p; have dB1 := fun p : Grows wr => Grows.cell cB1 p; have dB2 := fun p : Grows wr => Grows.cell cB2 p
          try have dA3 := fun p : Grows wr => Grows.cell cA3 p; have dB3 := fun p : Grows wr => Grows.cell cB3 p; have dA4 := fun p : Grows wr => Grows.cell cA4 p; have dB4 := fun p : Grows wr => Grows.cell cB4 p
          clear cA cB cA0 cA1 cA2 cB0 cB1 cB2
          try clear cA3 cB3 cA4 cB4
          have HC := Lib.hid hcmp
          clear hcmp
          by_cases hlv : v < 0
          · go_wp2_with fail
            (refine wp_region_grows (by kernel_rfl) (by kernel_rfl) ?_; (repeat quiet_step ((go_at_call 32; exact Grows.call _ (HC.out _)))); refine wpQuiet_nil ?_; intro _ hw'; obtain ⟨gw, hw''⟩ := hw'; subst hw'')
            clear dA0 dA1 dA2 dB0 dB1 dB2
            try clear dA3 dB3 dA4 dB4
            have hJ2 := HJ.out.grow gw.h
            generalize gw.w = w3 at *
            obtain ⟨cA, cB⟩ := HCE.out _ hJ2
            have cA0 := cA 0 _ rfl; have cA1 := cA 1 _ rfl; have cA2 := cA 2 _ rfl
            have cB0 := cB 0 _ rfl; have cB1 := cB 1 _ rfl; have cB2 := cB 2 _ rfl
            try have cA3 := cA 3 _ rfl; have cB3 := cB 3 _ rfl; have cA4 := cA 4 _ rfl; have cB4 := cB 4 _ rfl
            simp only [Nat.add_zero] at cA0 cB0
            have fz := fun o => hJ2.frz o
            have hfin := HSW.out _ hJ2
            simp only [encRl, World.setCells] at hfin
            have HF := Lib.hid hfin
            clear cA cB hJ2 hfin HOUT
            go_wp2_with fail
            go_big_region
            all_goals go_wp2
            go_roundg jp
            case measure => omega
            case rel =>
              refine ⟨jp, by omega, by omega, by omega, by go_num, ?_, HF.out.drew⟩
              show _ = _
              rw [HSC0.out, HSC.out, if_pos (by unfold ltC; rw [HV.out]; exact decide_eq_true hlv)]
          · go_wp2_with fail
            (refine wp_region_grows (by kernel_rfl) (by kernel_rfl) ?_; (repeat quiet_step ((go_at_call 32; exact Grows.call _ (HC.out _)))); refine wpQuiet_nil ?_; intro _ hw'; obtain ⟨gw, hw''⟩ := hw'; subst hw'')
            have hJ2 := HJ.out.grow gw.h
            have h3 := HOUT.out (by rw [HSC.out, if_neg (by unfold ltC; rw [HV.out]; simpa using hlv)]) _ hJ2
            have HF := HNX.out _ h3
            clear hJ2 h3
            generalize gw.w = w3 at *
            go_wp2
            go_roundg (b - (i + 1))
            case measure => omega
            case rel => exact ⟨i + 1, by omega, by omega, by omega, by go_num, HF⟩
        · have : j = a := by omega
          subst this
          have hjaz : ¬ (j : Int) < (j : Int) := by omega
          have HO2 := HOUT.out (by rw [Nat.sub_self]; rfl)
          have HO3 := Lib.hid HO2
          clear HO2
          have hdr := hJ.out.drew
          have HD := Lib.hid hdr
          clear hdr hJ HOUT hsc
          go_wp2_with fail
          go_big_region
          all_goals go_wp2
          go_roundg (b - (i + 1))
          case measure => omega
          case rel => exact ⟨i + 1, by omega, by omega, by omega, by go_num, HNX.out _ (HO3.out _ HD.out)⟩
    · have hltz : ¬ (i : Int) < (b : Int) := by omega
      have hfin := hS.out
      rw [List.take_of_length_le (by have := HB.out; omega), List.drop_of_length_le (by have := HB.out; omega), List.nil_append] at hfin
      have HF := Lib.hid hfin
      clear hfin hS
      go_wp2
      go_end0
      exact ⟨rfl, HF.out⟩
set_option maxRecDepth 100000 in
set_option maxHeartbeats 4000000 in
theorem insertion_Quorum (a b : Nat) (X Q0 P0 : List Qm) (T : TypeId) (W0 : World) (B blk cap len : Nat) (W : World) (h : SO encQm 5 T W0 B blk cap (P0 ++ (X ++ Q0)) W) (hc : len ≤ 140737488355328)
    (hlen : (P0 ++ (X ++ Q0)).length = len) (ha : P0.length = a) (hb : a + X.length = b) :
    Calls Tryd.prog 65 #[.slice (some ⟨blk, 0, none⟩) len cap, .int .i64 a, .int .i64 b, .func (.func 36) #[] #[]] W fun e w' => e = .returned (.tuple #[]) ∧ SO encQm 5 T W0 B blk cap (P0 ++ (sortR (ltC cfQm) X ++ Q0)) w' := by
  have HI : Hid (SO encQm 5 T W0 B blk cap (P0 ++ (sortR (ltC cfQm) (X.take 0) ++ (X.drop 0 ++ Q0))) W) := by show SO _ _ _ _ _ _ _ _ _; simpa [sortR] using h
  have HL : Hid ((P0 ++ (X ++ Q0)).length = len) := hlen
  have HA : Hid (P0.length = a) := ha
  have HB : Hid (a + X.length = b) := hb
  have hbl : b ≤ len := by rw [← hlen]; simp; omega
  have hab : a ≤ b := by omega
  clear h hlen ha hb
  have w1 : IntKind.i64.wrap ((a : Int) + 1) = ((a + 1 : Nat) : Int) := by rw [IntKind.wrap_i64]; omega
  go_enter Tryd.func65, Tryd.ntmps65
  go_wp2
  go_loopg [8] (b - a) (fun gg s wr => ∃ i, a < i ∧ i ≤ b + 1 ∧ b + 1 - i ≤ gg + 1 ∧ s = .int .i64 (i : Nat) ∧ Hid (SO encQm 5 T W0 B blk cap (P0 ++ (sortR (ltC cfQm) (X.take (i - a)) ++ (X.drop (i - a) ++ Q0))) wr))
  case atStart =>
    refine ⟨a + 1, by omega, by omega, by omega, by go_num, ?_⟩
    show SO _ _ _ _ _ _ _ _ _
    rw [show a + 1 - a = 1 by omega, sortR_one, ← List.append_assoc (X.take 1), List.take_append_drop]
    simpa [sortR] using HI.out
  case round =>
    obtain ⟨i, hai, hib, hg, rfl, hS⟩ := hrel
    by_cases hlt : i < b
    · have hltz : (i : Int) < (b : Int) := by omega
      have hin : i - a < X.length := by have := HB.out; omega
      have hsl : (sortR (ltC cfQm) (X.take (i - a))).length = i - a := by rw [sortR_length]; simp; omega
      have hnx : sortR (ltC cfQm) (X.take (i + 1 - a)) = insR (ltC cfQm) (sortR (ltC cfQm) (X.take (i - a))) X[i - a]! := by
        rw [show i + 1 - a = i - a + 1 by omega]; exact sortR_take _ _ _ hin
      have hS0 := hS.out
      rw [drop_cons X (i - a) hin] at hS0
      have hdr : X.drop (i + 1 - a) = X.drop (i - a + 1) := by rw [show i + 1 - a = i - a + 1 by omega]
      have hR : i + 1 + (X.drop (i - a + 1) ++ Q0).length = len := by
        have h1 := HL.out; have h2 := HA.out; have h3 := HB.out
        simp at h1 ⊢; omega
      generalize sortR (ltC cfQm) (X.take (i - a)) = S at *
      generalize X[i - a]! = x at *
      have HNX : Hid (∀ w', SO encQm 5 T W0 B blk cap (P0 ++ (insR (ltC cfQm) S x ++ (X.drop (i - a + 1) ++ Q0))) w' → Hid (SO encQm 5 T W0 B blk cap (P0 ++ (sortR (ltC cfQm) (X.take (i + 1 - a)) ++ (X.drop (i + 1 - a) ++ Q0))) w')) := by
        intro w' h
        rw [hnx, hdr]; exact h
      have hS1 : Hid (SO encQm 5 T W0 B blk cap (midL P0 S (X.drop (i - a + 1) ++ Q0) x (i - a)) wr) := by
        show SO _ _ _ _ _ _ _ _ _
        unfold midL
        rw [← hsl, List.take_length, List.drop_length, hsl]
        simpa using hS0
      clear hS hS0 hnx hdr
      generalize X.drop (i - a + 1) ++ Q0 = R at *
      have HSL := Lib.hid hsl
      have HR := Lib.hid hR
      clear hsl hR hin
      go_wp2
      go_loopg [9] i (fun gg s wr2 => ∃ j, a ≤ j ∧ j ≤ i ∧ j ≤ gg ∧ s = .int .i64 (j : Nat) ∧ Hid (scanAt (ltC cfQm) x S S.length = scanAt (ltC cfQm) x S (j - a)) ∧ Hid (SO encQm 5 T W0 B blk cap (midL P0 S R x (j - a)) wr2))
      case atStart => exact ⟨i, by omega, Nat.le_refl _, Nat.le_refl _, rfl, by show _ = _; rw [HSL.out], hS1⟩
      case round =>
        clear hS1
        obtain ⟨j, haj, hji, hgj, rfl, hsc, hJ⟩ := hrel
        have HOUT : Hid (scanAt (ltC cfQm) x S (j - a) = j - a → ∀ w', SO encQm 5 T W0 B blk cap (midL P0 S R x (j - a)) w' → SO encQm 5 T W0 B blk cap (P0 ++ (insR (ltC cfQm) S x ++ R)) w') := by
          intro h1 w' h2
          have : insR (ltC cfQm) S x = S.take (j - a) ++ [x] ++ S.drop (j - a) := by unfold insR; rw [hsc.out, h1]
          rw [this]
          unfold midL at h2
          simpa using h2
        by_cases hja : a < j
        · obtain ⟨jp, rfl⟩ : ∃ jp, j = jp + 1 := ⟨j - 1, by omega⟩
          have hjaz : (a : Int) < (jp : Int) + 1 := by omega
          have hwp : IntKind.i64.wrap (jp : Int) = (jp : Int) := by rw [IntKind.wrap_i64]; have := HR.out; omega
          have jz : (jp : Int) + 1 < (len : Int) := by have := HR.out; omega
          have jz1 : (jp : Int) < (len : Int) := by omega
          have p0 : (0 : Int) ≤ (jp : Int) + 1 := by omega
          have e0 : ((jp : Int) + 1).toNat = jp + 1 := by omega
          have en : jp + 1 - a = jp - a + 1 := by omega
          have hnS : jp - a < S.length := by have := HSL.out; omega
          have hlm : ∀ n, (midL P0 S R x n).length = len := fun n => by rw [midL_length]; have h1 := HR.out; have h2 := HSL.out; have h3 := HA.out; omega
          have hJ' := hJ.out
          rw [en] at hJ'
          have gx : (midL P0 S R x (jp - a + 1))[jp + 1]! = x := midL_at _ _ _ _ _ _ (by omega) (by have := HA.out; omega)
          have gy : (midL P0 S R x (jp - a + 1))[jp]! = S[jp - a]! := midL_before _ _ _ _ _ _ hnS (by have := HA.out; omega)
          have gs : swapL (midL P0 S R x (jp - a + 1)) (jp + 1) jp = midL P0 S R x (jp - a) := midL_step _ _ _ _ _ _ _ hnS (by have := HA.out; omega) (by have := HA.out; omega)
          have hsw := hJ'.drew.swapped len_Qm (jp + 1) jp (by rw [hlm]; omega) (by rw [hlm]; omega)
          have hswap : ∀ w', SO encQm 5 T W0 B blk cap (midL P0 S R x (jp - a + 1)) w' → SO encQm 5 T W0 B blk cap (midL P0 S R x (jp - a)) ((w'.setCells blk ((jp + 1) * 5) (encQm S[jp - a]!)).setCells blk (jp * 5) (encQm x)) := by
            intro w' h
            have := h.swapped len_Qm (jp + 1) jp (by rw [hlm]; omega) (by rw [hlm]; omega)
            rw [gx, gy, gs] at this; exact this
          have hcells : ∀ w', SO encQm 5 T W0 B blk cap (midL P0 S R x (jp - a + 1)) w' → (∀ r u, (encQm x)[r]? = some u → w'.cell? ⟨blk, (jp + 1) * 5 + r, none⟩ = some u) ∧ (∀ r u, (encQm S[jp - a]!)[r]? = some u → w'.cell? ⟨blk, jp * 5 + r, none⟩ = some u) := by
            intro w' h
            refine ⟨fun r u hu => h.cell (jp + 1) (by rw [hlm]; omega) r u (by rw [gx]; exact hu), fun r u hu => h.cell jp (by rw [hlm]; omega) r u (by rw [gy]; exact hu)⟩
          have HSC : Hid (scanAt (ltC cfQm) x S (jp - a + 1) = if ltC cfQm x S[jp - a]! = true then scanAt (ltC cfQm) x S (jp - a) else jp - a + 1) := rfl
          have HSC0 : Hid (scanAt (ltC cfQm) x S S.length = scanAt (ltC cfQm) x S (jp - a + 1)) := by have := hsc.out; rw [en] at this; exact this
          rw [en] at HOUT
          clear gx gy gs hsw hsc hJ hlm
          clear hnS
          generalize S[jp - a]! = y at *
          obtain ⟨v, hv⟩ : ∃ v, cfQm x y = v := ⟨_, rfl⟩
          have hcmp := fun w' => cmp_Quorum x y w'
          rw [hv] at hcmp
          obtain ⟨x1, x2, x3, x4, x5⟩ := x
          obtain ⟨y1, y2, y3, y4, y5⟩ := y
          simp only [avQm] at hcmp
          have HJ := Lib.hid hJ'
          have HV := Lib.hid hv
          have HSW := Lib.hid hswap
          have HCE := Lib.hid hcells
          clear hswap hcells hJ' hv
          have n1 : (jp + 1) * 5 ≠ jp * 5 := by omega
          obtain ⟨cA, cB⟩ := HCE.out _ HJ.out
          have cA0 := cA 0 _ rfl; have cA1 := cA 1 _ rfl; have cA2 := cA 2 _ rfl
          have cB0 := cB 0 _ rfl; have cB1 := cB 1 _ rfl; have cB2 := cB 2 _ rfl
          try have cA3 := cA 3 _ rfl; have cB3 := cB 3 _ rfl; have cA4 := cA 4 _ rfl; have cB4 := cB 4 _ rfl
          simp only [Nat.add_zero] at cA0 cB0
          have dA0 := fun p : Grows wr => Grows.cell cA0 p; have dA1 := fun p : Grows wr => Grows.cell cA1 p; have dA2 := fun p : Grows wr => Grows.cell cA2 p
          have dB0 := fun p : Grows wr => Grows.cell cB0 p; have dB1 := fun p : Grows wr => Grows.cell cB1 p; have dB2 := fun p : Grows wr => Grows.cell cB2 p
          try have dA3 := fun p : Grows wr => Grows.cell cA3 p; have dB3 := fun p : Grows wr => Grows.cell cB3 p; have dA4 := fun p : Grows wr => Grows.cell cA4 p; have dB4 := fun p : Grows wr => Grows.cell cB4 p
          clear cA cB cA0 cA1 cA2 cB0 cB1 cB2
          try clear cA3 cB3 cA4 cB4
          have HC := Lib.hid hcmp
          clear hcmp
          by_cases hlv : v < 0
          · go_wp2_with fail
            (refine wp_region_grows (by kernel_rfl) (by kernel_rfl) ?_; (repeat quiet_step ((go_at_call 36; exact Grows.call _ (HC.out _)))); refine wpQuiet_nil ?_; intro _ hw'; obtain ⟨gw, hw''⟩ := hw'; subst hw'')
            clear dA0 dA1 dA2 dB0 dB1 dB2
            try clear dA3 dB3 dA4 dB4
            have hJ2 := HJ.out.grow gw.h
            generalize gw.w = w3 at *
            obtain ⟨cA, cB⟩ := HCE.out _ hJ2
            have cA0 := cA 0 _ rfl; have cA1 := cA 1 _ rfl; have cA2 := cA 2 _ rfl
            have cB0 := cB 0 _ rfl; have cB1 := cB 1 _ rfl; have cB2 := cB 2 _ rfl
            try have cA3 := cA 3 _ rfl; have cB3 := cB 3 _ rfl; have cA4 := cA 4 _ rfl; have cB4 := cB 4 _ rfl
            simp only [Nat.add_zero] at cA0 cB0
            have fz := fun o => hJ2.frz o
            have hfin := HSW.out _ hJ2
            simp only [encQm, World.setCells] at hfin
            have HF := Lib.hid hfin
            clear cA cB hJ2 hfin HOUT
            go_wp2_with fail
            go_big_region
            all_goals go_wp2
            go_roundg jp
            case measure => omega
            case rel =>
              refine ⟨jp, by omega, by omega, by omega, by go_num, ?_, HF.out.drew⟩
              show _ = _
              rw [HSC0.out, HSC.out, if_pos (by unfold ltC; rw [HV.out]; exact decide_eq_true hlv)]
          · go_wp2_with fail
            (refine wp_region_grows (by kernel_rfl) (by kernel_rfl) ?_; (repeat quiet_step ((go_at_call 36; exact Grows.call _ (HC.out _)))); refine wpQuiet_nil ?_; intro _ hw'; obtain ⟨gw, hw''⟩ := hw'; subst hw'')
            have hJ2 := HJ.out.grow gw.h
            have h3 := HOUT.out (by rw [HSC.out, if_neg (by unfold ltC; rw [HV.out]; simpa using hlv)]) _ hJ2
            have HF := HNX.out _ h3
            clear hJ2 h3
            generalize gw.w = w3 at *
            go_wp2
            go_roundg (b - (i + 1))
            case measure => omega
            case rel => exact ⟨i + 1, by omega, by omega, by omega, by go_num, HF⟩
        · have : j = a := by omega
          subst this
          have hjaz : ¬ (j : Int) < (j : Int) := by omega
          have HO2 := HOUT.out (by rw [Nat.sub_self]; rfl)
          have HO3 := Lib.hid HO2
          clear HO2
          have hdr := hJ.out.drew
          have HD := Lib.hid hdr
          clear hdr hJ HOUT hsc
          go_wp2_with fail
          go_big_region
          all_goals go_wp2
          go_roundg (b - (i + 1))
          case measure => omega
          case rel => exact ⟨i + 1, by omega, by omega, by omega, by go_num, HNX.out _ (HO3.out _ HD.out)⟩
    · have hltz : ¬ (i : Int) < (b : Int) := by omega
      have hfin := hS.out
      rw [List.take_of_length_le (by have := HB.out; omega), List.drop_of_length_le (by have := HB.out; omega), List.nil_append] at hfin
      have HF := Lib.hid hfin
      clear hfin hS
      go_wp2
      go_end0
      exact ⟨rfl, HF.out⟩
end Go.Proofs.YtemkffejekgmfaaDoor
