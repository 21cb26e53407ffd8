/- slices.rotateCmpFunc at the structs. -/
import Derived.Test.YtemkffejekgmfaaDoorK1
namespace Go.Proofs.YtemkffejekgmfaaDoor
open Go.RowKit Go.Shelf Go.Lib

theorem swapL_split {α : Type} [Inhabited α] (P M Q : List α) (x y : α) : swapL (P ++ x :: (M ++ y :: Q)) P.length (P.length + 1 + M.length) = P ++ y :: (M ++ x :: Q) := by
  unfold swapL
  have e1 : (P ++ x :: (M ++ y :: Q))[P.length]! = x := by simp
  have e2 : (P ++ x :: (M ++ y :: Q))[P.length + 1 + M.length]! = y := by
    rw [List.getElem!_eq_getElem?_getD, List.getElem?_append_right (by omega), show P.length + 1 + M.length - P.length = M.length + 1 by omega, List.getElem?_cons_succ, List.getElem?_append_right (Nat.le_refl _)]
    simp
  rw [e1, e2, List.set_append_right _ _ (Nat.le_refl _), Nat.sub_self, List.set_cons_zero, List.set_append_right _ _ (by omega), show P.length + 1 + M.length - P.length = M.length + 1 by omega, List.set_cons_succ, List.set_append_right _ _ (Nat.le_refl _), Nat.sub_self, List.set_cons_zero]

theorem swapRangeL_split {α : Type} [Inhabited α] (P : List α) : ∀ (n : Nat) (U M V Q : List α) (b : Nat), U.length = n → V.length = n → b = P.length + n + M.length → swapRangeL (P ++ (U ++ (M ++ (V ++ Q)))) P.length b n = P ++ (V ++ (M ++ (U ++ Q))) := by
  intro n
  induction n with
  | zero => intro U M V Q b hU hV _; obtain rfl := List.eq_nil_of_length_eq_zero hU; obtain rfl := List.eq_nil_of_length_eq_zero hV; rfl
  | succ n ih =>
    intro U M V Q b hU hV hb
    obtain ⟨U', x, rfl⟩ : ∃ U' x, U = U' ++ [x] := ⟨U.dropLast, U.getLast (by intro h; simp [h] at hU), (List.dropLast_concat_getLast _).symm⟩
    obtain ⟨V', y, rfl⟩ : ∃ V' y, V = V' ++ [y] := ⟨V.dropLast, V.getLast (by intro h; simp [h] at hV), (List.dropLast_concat_getLast _).symm⟩
    have hU' : U'.length = n := by simpa using hU
    have hV' : V'.length = n := by simpa using hV
    have := ih U' (x :: M) V' (y :: Q) b hU' hV' (by simp; omega)
    unfold swapRangeL
    have e : P ++ (U' ++ [x] ++ (M ++ (V' ++ [y] ++ Q))) = P ++ (U' ++ (x :: M ++ (V' ++ y :: Q))) := by simp
    rw [e, this]
    have h2 := swapL_split (P ++ V') (M ++ U') Q x y
    have e2 : P ++ (V' ++ (x :: M ++ (U' ++ y :: Q))) = (P ++ V') ++ x :: ((M ++ U') ++ y :: Q) := by simp
    rw [e2, show P.length + n = (P ++ V').length by simp [hV'], show b + n = (P ++ V').length + 1 + (M ++ U').length by simp [hV', hU']; omega, h2]
    simp

set_option maxRecDepth 100000 in
set_option maxHeartbeats 2000000 in
theorem rotate_Rule (a m b : Nat) (l tgt : List Rl) (T : TypeId) (W0 : World) (B blk cap : Nat) (f : Value) (W : World) (h : SO encRl 3 T W0 B blk cap l W) (hc : l.length ≤ 140737488355328)
    (hl : ∃ P U V Q, l = P ++ (U ++ (V ++ Q)) ∧ P.length = a ∧ a + U.length = m ∧ m + V.length = b ∧ tgt = P ++ (V ++ (U ++ Q))) (h1 : a < m) (h2 : m < b) :
    Calls Tryd.prog 67 #[.slice (some ⟨blk, 0, none⟩) l.length cap, .int .i64 a, .int .i64 m, .int .i64 b, f] W fun e w' => e = .returned (.tuple #[]) ∧ SO encRl 3 T W0 B blk cap tgt w' := by
  obtain ⟨P, U, V, Q, el, eP, eU, eV, et⟩ := hl
  have hlen : l.length = a + U.length + V.length + Q.length := by rw [el]; simp [eP]; omega
  have hb : b ≤ l.length := by omega
  generalize hm : l.length = len at hlen hb hc ⊢
  have HI : Hid (∃ P U V Q c, c = P ++ (U ++ (V ++ Q)) ∧ P.length + U.length = m ∧ U.length = m - a ∧ V.length = b - m ∧ c.length = len ∧ tgt = P ++ (V ++ (U ++ Q)) ∧ SO encRl 3 T W0 B blk cap c W) :=
    ⟨P, U, V, Q, l, el, by omega, by omega, by omega, hm, et, h⟩
  have hma : m - a < m + 1 := by omega
  have ez1 : (m : Int) - (a : Int) = ((m - a : Nat) : Int) := by omega
  have ez2 : (b : Int) - (m : Int) = ((b - m : Nat) : Int) := by omega
  clear hlen el eP eU eV et P U V Q h hm
  have w1 : IntKind.i64.wrap ((m - a : Nat) : Int) = ((m - a : Nat) : Int) := by rw [IntKind.wrap_i64]; omega
  have w2 : IntKind.i64.wrap ((b - m : Nat) : Int) = ((b - m : Nat) : Int) := by rw [IntKind.wrap_i64]; omega
  have hlo : m + (b - m) ≤ len := by omega
  go_enter Tryd.func67, Tryd.ntmps67
  go_wp2
  go_loopg [10, 11] (m + b) (fun gg s t wr => ∃ i j, 0 < i ∧ 0 < j ∧ i ≤ m ∧ m + j ≤ len ∧ i + j ≤ gg ∧ s = .int .i64 (i : Nat) ∧ t = .int .i64 (j : Nat) ∧ Hid (∃ P U V Q c, c = P ++ (U ++ (V ++ Q)) ∧ P.length + U.length = m ∧ U.length = i ∧ V.length = j ∧ c.length = len ∧ tgt = P ++ (V ++ (U ++ Q)) ∧ SO encRl 3 T W0 B blk cap c wr))
  case atStart => exact ⟨m - a, b - m, by omega, by omega, by omega, by omega, by omega, by first | rfl | simp [ez1, w1], by first | rfl | simp [ez2, w2], HI⟩
  case round =>
    obtain ⟨i, j, hi, hj, him, hjm, hg, rfl, rfl, hS⟩ := hrel
    have y1 : (m : Int) - (i : Int) = ((m - i : Nat) : Int) := by omega
    have y2 : IntKind.i64.wrap ((m - i : Nat) : Int) = ((m - i : Nat) : Int) := by rw [IntKind.wrap_i64]; omega
    by_cases hlt : i = j
    · subst hlt
      have hne0 : ((i : Int) != (i : Int)) = false := by simp
      obtain ⟨P, U, V, Q, c, ec, e1, e2, e3, e4, et, hso⟩ := hS.out
      have hcall := swapRange_Rule (m - i) m i c T W0 B blk cap f wr hso (by omega) (by omega) (by omega)
      rw [e4] at hcall
      have ex : swapRangeL c (m - i) m i = tgt := by
        have := swapRangeL_split P i U [] V Q m e2 e3 (by simp; omega)
        rw [ec, et, show m - i = P.length by omega]
        simpa using this
      rw [ex] at hcall
      have HC := Lib.hid hcall
      clear hcall ex hso ec e1 e2 e3 e4 et hS
      go_wp2_with fail
      refine HC.out.mono ?_
      rintro e w' ⟨rfl, hs⟩
      go_wp2
      go_end0
      exact ⟨rfl, hs⟩
    · have hne : ((i : Int) != (j : Int)) = true := by simp; omega
      by_cases hgt : j < i
      · have hgtz : (j : Int) < (i : Int) := by omega
        obtain ⟨P, U, V, Q, c, ec, e1, e2, e3, e4, et, hso⟩ := hS.out
        have hcall := swapRange_Rule (m - i) m j c T W0 B blk cap f wr hso (by omega) (by omega) (by omega)
        rw [e4] at hcall
        have HN : ∀ w', SO encRl 3 T W0 B blk cap (swapRangeL c (m - i) m j) w' → Hid (∃ P U V Q c, c = P ++ (U ++ (V ++ Q)) ∧ P.length + U.length = m ∧ U.length = i - j ∧ V.length = j ∧ c.length = len ∧ tgt = P ++ (V ++ (U ++ Q)) ∧ SO encRl 3 T W0 B blk cap c w') := by
          intro w' hs
          refine ⟨P ++ V, U.drop j, U.take j, Q, _, ?_, by simp; omega, by simp; omega, by simp; omega, by rw [swapRangeL_length]; exact e4, ?_, hs⟩
          · have := swapRangeL_split P j (U.take j) (U.drop j) V Q m (by simp; omega) e3 (by simp; omega)
            rw [ec, show m - i = P.length by omega]
            rw [← List.append_assoc (U.take j), List.take_append_drop] at this
            rw [this]; simp
          · rw [et]; simp only [List.append_assoc]; rw [← List.append_assoc (U.take j), List.take_append_drop]
        have HC := Lib.hid hcall
        have HN' := Lib.hid HN
        clear hcall HN hso ec e1 e2 e3 e4 et hS
        have z1 : (i : Int) - (j : Int) = ((i - j : Nat) : Int) := by omega
        have z2 : IntKind.i64.wrap ((i - j : Nat) : Int) = ((i - j : Nat) : Int) := by rw [IntKind.wrap_i64]; omega
        go_wp2_with fail
        refine HC.out.mono ?_
        rintro e w' ⟨rfl, hs⟩
        have hs' := HN'.out _ hs
        clear hs
        go_wp2
        go_roundg (i - j + j)
        case measure => omega
        case rel => exact ⟨i - j, j, by omega, by omega, by omega, by omega, by omega, by first | rfl | simp [z1, z2], rfl, hs'⟩
      · have hgtz : ¬ (j : Int) < (i : Int) := by omega
        obtain ⟨P, U, V, Q, c, ec, e1, e2, e3, e4, et, hso⟩ := hS.out
        have hcall := swapRange_Rule (m - i) (m + j - i) i c T W0 B blk cap f wr hso (by omega) (by omega) (by omega)
        rw [e4] at hcall
        have HN : ∀ w', SO encRl 3 T W0 B blk cap (swapRangeL c (m - i) (m + j - i) i) w' → Hid (∃ P U V Q c, c = P ++ (U ++ (V ++ Q)) ∧ P.length + U.length = m ∧ U.length = i ∧ V.length = j - i ∧ c.length = len ∧ tgt = P ++ (V ++ (U ++ Q)) ∧ SO encRl 3 T W0 B blk cap c w') := by
          intro w' hs
          refine ⟨P, V.drop (j - i), V.take (j - i), U ++ Q, _, ?_, by simp; omega, by simp; omega, by simp; omega, by rw [swapRangeL_length]; exact e4, ?_, hs⟩
          · have := swapRangeL_split P i U (V.take (j - i)) (V.drop (j - i)) Q (m + j - i) e2 (by simp; omega) (by simp; omega)
            rw [ec, show m - i = P.length by omega]
            rw [← List.append_assoc (V.take (j - i)), List.take_append_drop] at this
            rw [this]
          · rw [et, ← List.append_assoc (V.take (j - i)), List.take_append_drop]
        have HC := Lib.hid hcall
        have HN' := Lib.hid HN
        clear hcall HN hso ec e1 e2 e3 e4 et hS
        have z1 : (j : Int) - (i : Int) = ((j - i : Nat) : Int) := by omega
        have z2 : IntKind.i64.wrap ((j - i : Nat) : Int) = ((j - i : Nat) : Int) := by rw [IntKind.wrap_i64]; omega
        have x0 : IntKind.i64.wrap ((m : Int) + (j : Int)) = (m : Int) + (j : Int) := by rw [IntKind.wrap_i64]; omega
        have x1 : (m : Int) + (j : Int) - (i : Int) = ((m + j - i : Nat) : Int) := by omega
        have x2 : IntKind.i64.wrap ((m + j - i : Nat) : Int) = ((m + j - i : Nat) : Int) := by rw [IntKind.wrap_i64]; omega
        go_wp2_with fail
        refine HC.out.mono ?_
        rintro e w' ⟨rfl, hs⟩
        have hs' := HN'.out _ hs
        clear hs
        go_wp2
        go_roundg (i + (j - i))
        case measure => omega
        case rel => exact ⟨i, j - i, by omega, by omega, by omega, by omega, by omega, rfl, by first | rfl | simp [z1, z2], hs'⟩
set_option maxRecDepth 100000 in
set_option maxHeartbeats 2000000 in
theorem rotate_Quorum (a m b : Nat) (l tgt : List Qm) (T : TypeId) (W0 : World) (B blk cap : Nat) (f : Value) (W : World) (h : SO encQm 5 T W0 B blk cap l W) (hc : l.length ≤ 140737488355328)
    (hl : ∃ P U V Q, l = P ++ (U ++ (V ++ Q)) ∧ P.length = a ∧ a + U.length = m ∧ m + V.length = b ∧ tgt = P ++ (V ++ (U ++ Q))) (h1 : a < m) (h2 : m < b) :
    Calls Tryd.prog 68 #[.slice (some ⟨blk, 0, none⟩) l.length cap, .int .i64 a, .int .i64 m, .int .i64 b, f] W fun e w' => e = .returned (.tuple #[]) ∧ SO encQm 5 T W0 B blk cap tgt w' := by
  obtain ⟨P, U, V, Q, el, eP, eU, eV, et⟩ := hl
  have hlen : l.length = a + U.length + V.length + Q.length := by rw [el]; simp [eP]; omega
  have hb : b ≤ l.length := by omega
  generalize hm : l.length = len at hlen hb hc ⊢
  have HI : Hid (∃ P U V Q c, c = P ++ (U ++ (V ++ Q)) ∧ P.length + U.length = m ∧ U.length = m - a ∧ V.length = b - m ∧ c.length = len ∧ tgt = P ++ (V ++ (U ++ Q)) ∧ SO encQm 5 T W0 B blk cap c W) :=
    ⟨P, U, V, Q, l, el, by omega, by omega, by omega, hm, et, h⟩
  have hma : m - a < m + 1 := by omega
  have ez1 : (m : Int) - (a : Int) = ((m - a : Nat) : Int) := by omega
  have ez2 : (b : Int) - (m : Int) = ((b - m : Nat) : Int) := by omega
  clear hlen el eP eU eV et P U V Q h hm
  have w1 : IntKind.i64.wrap ((m - a : Nat) : Int) = ((m - a : Nat) : Int) := by rw [IntKind.wrap_i64]; omega
  have w2 : IntKind.i64.wrap ((b - m : Nat) : Int) = ((b - m : Nat) : Int) := by rw [IntKind.wrap_i64]; omega
  have hlo : m + (b - m) ≤ len := by omega
  go_enter Tryd.func68, Tryd.ntmps68
  go_wp2
  go_loopg [10, 11] (m + b) (fun gg s t wr => ∃ i j, 0 < i ∧ 0 < j ∧ i ≤ m ∧ m + j ≤ len ∧ i + j ≤ gg ∧ s = .int .i64 (i : Nat) ∧ t = .int .i64 (j : Nat) ∧ Hid (∃ P U V Q c, c = P ++ (U ++ (V ++ Q)) ∧ P.length + U.length = m ∧ U.length = i ∧ V.length = j ∧ c.length = len ∧ tgt = P ++ (V ++ (U ++ Q)) ∧ SO encQm 5 T W0 B blk cap c wr))
  case atStart => exact ⟨m - a, b - m, by omega, by omega, by omega, by omega, by omega, by first | rfl | simp [ez1, w1], by first | rfl | simp [ez2, w2], HI⟩
  case round =>
    obtain ⟨i, j, hi, hj, him, hjm, hg, rfl, rfl, hS⟩ := hrel
    have y1 : (m : Int) - (i : Int) = ((m - i : Nat) : Int) := by omega
    have y2 : IntKind.i64.wrap ((m - i : Nat) : Int) = ((m - i : Nat) : Int) := by rw [IntKind.wrap_i64]; omega
    by_cases hlt : i = j
    · subst hlt
      have hne0 : ((i : Int) != (i : Int)) = false := by simp
      obtain ⟨P, U, V, Q, c, ec, e1, e2, e3, e4, et, hso⟩ := hS.out
      have hcall := swapRange_Quorum (m - i) m i c T W0 B blk cap f wr hso (by omega) (by omega) (by omega)
      rw [e4] at hcall
      have ex : swapRangeL c (m - i) m i = tgt := by
        have := swapRangeL_split P i U [] V Q m e2 e3 (by simp; omega)
        rw [ec, et, show m - i = P.length by omega]
        simpa using this
      rw [ex] at hcall
      have HC := Lib.hid hcall
      clear hcall ex hso ec e1 e2 e3 e4 et hS
      go_wp2_with fail
      refine HC.out.mono ?_
      rintro e w' ⟨rfl, hs⟩
      go_wp2
      go_end0
      exact ⟨rfl, hs⟩
    · have hne : ((i : Int) != (j : Int)) = true := by simp; omega
      by_cases hgt : j < i
      · have hgtz : (j : Int) < (i : Int) := by omega
        obtain ⟨P, U, V, Q, c, ec, e1, e2, e3, e4, et, hso⟩ := hS.out
        have hcall := swapRange_Quorum (m - i) m j c T W0 B blk cap f wr hso (by omega) (by omega) (by omega)
        rw [e4] at hcall
        have HN : ∀ w', SO encQm 5 T W0 B blk cap (swapRangeL c (m - i) m j) w' → Hid (∃ P U V Q c, c = P ++ (U ++ (V ++ Q)) ∧ P.length + U.length = m ∧ U.length = i - j ∧ V.length = j ∧ c.length = len ∧ tgt = P ++ (V ++ (U ++ Q)) ∧ SO encQm 5 T W0 B blk cap c w') := by
          intro w' hs
          refine ⟨P ++ V, U.drop j, U.take j, Q, _, ?_, by simp; omega, by simp; omega, by simp; omega, by rw [swapRangeL_length]; exact e4, ?_, hs⟩
          · have := swapRangeL_split P j (U.take j) (U.drop j) V Q m (by simp; omega) e3 (by simp; omega)
            rw [ec, show m - i = P.length by omega]
            rw [← List.append_assoc (U.take j), List.take_append_drop] at this
            rw [this]; simp
          · rw [et]; simp only [List.append_assoc]; rw [← List.append_assoc (U.take j), List.take_append_drop]
        have HC := Lib.hid hcall
        have HN' := Lib.hid HN
        clear hcall HN hso ec e1 e2 e3 e4 et hS
        have z1 : (i : Int) - (j : Int) = ((i - j : Nat) : Int) := by omega
        have z2 : IntKind.i64.wrap ((i - j : Nat) : Int) = ((i - j : Nat) : Int) := by rw [IntKind.wrap_i64]; omega
        go_wp2_with fail
        refine HC.out.mono ?_
        rintro e w' ⟨rfl, hs⟩
        have hs' := HN'.out _ hs
        clear hs
        go_wp2
        go_roundg (i - j + j)
        case measure => omega
        case rel => exact ⟨i - j, j, by omega, by omega, by omega, by omega, by omega, by first | rfl | simp [z1, z2], rfl, hs'⟩
      · have hgtz : ¬ (j : Int) < (i : Int) := by omega
        obtain ⟨P, U, V, Q, c, ec, e1, e2, e3, e4, et, hso⟩ := hS.out
        have hcall := swapRange_Quorum (m - i) (m + j - i) i c T W0 B blk cap f wr hso (by omega) (by omega) (by omega)
        rw [e4] at hcall
        have HN : ∀ w', SO encQm 5 T W0 B blk cap (swapRangeL c (m - i) (m + j - i) i) w' → Hid (∃ P U V Q c, c = P ++ (U ++ (V ++ Q)) ∧ P.length + U.length = m ∧ U.length = i ∧ V.length = j - i ∧ c.length = len ∧ tgt = P ++ (V ++ (U ++ Q)) ∧ SO encQm 5 T W0 B blk cap c w') := by
          intro w' hs
          refine ⟨P, V.drop (j - i), V.take (j - i), U ++ Q, _, ?_, by simp; omega, by simp; omega, by simp; omega, by rw [swapRangeL_length]; exact e4, ?_, hs⟩
          · have := swapRangeL_split P i U (V.take (j - i)) (V.drop (j - i)) Q (m + j - i) e2 (by simp; omega) (by simp; omega)
            rw [ec, show m - i = P.length by omega]
            rw [← List.append_assoc (V.take (j - i)), List.take_append_drop] at this
            rw [this]
          · rw [et, ← List.append_assoc (V.take (j - i)), List.take_append_drop]
        have HC := Lib.hid hcall
        have HN' := Lib.hid HN
        clear hcall HN hso ec e1 e2 e3 e4 et hS
        have z1 : (j : Int) - (i : Int) = ((j - i : Nat) : Int) := by omega
        have z2 : IntKind.i64.wrap ((j - i : Nat) : Int) = ((j - i : Nat) : Int) := by rw [IntKind.wrap_i64]; omega
        have x0 : IntKind.i64.wrap ((m : Int) + (j : Int)) = (m : Int) + (j : Int) := by rw [IntKind.wrap_i64]; omega
        have x1 : (m : Int) + (j : Int) - (i : Int) = ((m + j - i : Nat) : Int) := by omega
        have x2 : IntKind.i64.wrap ((m + j - i : Nat) : Int) = ((m + j - i : Nat) : Int) := by rw [IntKind.wrap_i64]; omega
        go_wp2_with fail
        refine HC.out.mono ?_
        rintro e w' ⟨rfl, hs⟩
        have hs' := HN'.out _ hs
        clear hs
        go_wp2
        go_roundg (i + (j - i))
        case measure => omega
        case rel => exact ⟨i, j - i, by omega, by omega, by omega, by omega, by omega, rfl, by first | rfl | simp [z1, z2], hs'⟩
end Go.Proofs.YtemkffejekgmfaaDoor
