/- The reference of layer 13: within, Name, isType, isRule, isQuorum. -/
import Derived.Test.YtemkffejekgmfaaDoorC8
namespace Go.Proofs.YtemkffejekgmfaaDoor
open Go.RowKit Go.Shelf Go.Lib

theorem any_take_true {α : Type} [Inhabited α] {p : α → Bool} {l : List α} {k j : Nat} (hk : k ≤ l.length) (hj : j < k) (h : p l[j]! = true) : (l.take k).any p = true := by
  rw [List.any_eq_true]
  refine ⟨l[j]!, ?_, h⟩
  rw [getElem!_pos l j (by omega)]
  rw [List.mem_take_iff_getElem]
  exact ⟨j, by omega, rfl⟩
theorem any_take_false {α : Type} [Inhabited α] {p : α → Bool} {l : List α} {k : Nat} (hk : k ≤ l.length) (h : ∀ j, j < k → p l[j]! = false) : (l.take k).any p = false := by
  rw [List.any_eq_false]
  intro x hx
  rw [List.mem_take_iff_getElem] at hx
  obtain ⟨j, hj, rfl⟩ := hx
  have := h j (by omega)
  rw [getElem!_pos l j (by omega)] at this
  simp [this]

theorem within_any (n lo hi : Int) (w : World) (R : Bool) (hR : wrongB ⟨n, lo, hi⟩ = R) : Calls Tryd.prog 48 #[.int .i64 n, .int .i64 lo, .int .i64 hi] w fun e w' => e = .returned (.bool (!R)) ∧ w = w' := by
  subst hR
  unfold wrongB
  dsimp only
  by_cases h1 : n < lo
  · go_enter Tryd.func48, Tryd.ntmps48
    go_wp2
    go_ret
    exact ⟨by simp [h1], rfl⟩
  · have h1' : lo ≤ n := by omega
    by_cases h2 : hi < n
    · go_enter Tryd.func48, Tryd.ntmps48
      go_wp2
      go_ret
      exact ⟨by simp [h1, h2], rfl⟩
    · go_enter Tryd.func48, Tryd.ntmps48
      go_wp2
      go_ret
      exact ⟨by simp [h1, h2], rfl⟩

set_option maxRecDepth 100000 in
set_option maxHeartbeats 2000000 in
theorem refName_any (s : ByteArray) (w : World) (hs : s.size ≤ 140737488355328) :
    Calls Tryd.prog 16 #[.string s] w fun e w' => e = .returned (.bool (nameB s)) ∧ w = w' := by
  generalize hR : nameB s = R
  have HR : Hid (nameB s = R) := hR
  clear hR
  by_cases h1 : s.size < 1
  · have h1' : (s.size : Int) < 1 := by omega
    have : R = false := by rw [← HR.out]; unfold nameB; simp; omega
    subst this
    go_enter Tryd.func16, Tryd.ntmps16
    go_wp2
    go_ret
    exact ⟨rfl, rfl⟩
  · have h1' : ¬ (s.size : Int) < 1 := by omega
    by_cases h2 : 12 < s.size
    · have h2' : (12 : Int) < (s.size : Int) := by omega
      have : R = false := by rw [← HR.out]; unfold nameB; simp; omega
      subst this
      go_enter Tryd.func16, Tryd.ntmps16
      go_wp2
      go_ret
      exact ⟨rfl, rfl⟩
    · have h2' : ¬ (12 : Int) < (s.size : Int) := by omega
      have hb : ∀ j (h : j < s.size), (s[j].toNat : Int) = ((byteAt s j : Nat) : Int) := fun j h => by
        unfold byteAt
        have : s.data.toList.getD j 0 = s[j] := by
          rw [List.getD_eq_getElem?_getD, List.getElem?_eq_getElem (by simpa using h)]
          rfl
        rw [this]
      have HB := Lib.hid hb
      clear hb
      go_enter Tryd.func16, Tryd.ntmps16
      go_wp2
      go_loopg [3, 4, 5] s.size (fun gg s3 _ _ wr => ∃ kk : Nat, kk ≤ s.size ∧ s.size - kk ≤ gg ∧ s3 = .int .i64 kk ∧ wr = w ∧ Hid (∀ j, j < kk → okC j (byteAt s j)))
      case atStart => exact ⟨0, Nat.zero_le _, by omega, rfl, rfl, fun j hj => absurd hj (Nat.not_lt_zero _)⟩
      case round =>
        obtain ⟨kk, hkk, hg, rfl, rfl, HA⟩ := hrel
        by_cases hlt : kk < s.size
        · have hltz : (kk : Int) < (s.size : Int) := by omega
          have hkz : (0 : Int) ≤ (kk : Int) := by omega
          have hbk := HB.out kk hlt
          have HBK := Lib.hid hbk
          by_cases hok : okC kk (byteAt s kk)
          · have HOK := Lib.hid hok
            have hrelo : Hid (∀ j, j < kk + 1 → okC j (byteAt s j)) := fun j hj => by
              by_cases e : j = kk
              · subst e; exact HOK.out
              · exact HA.out j (by omega)
            rcases hok with ⟨g1, g2⟩ | ⟨g1, g2, g3⟩
            · have g1' : (97 : Int) ≤ (s[kk].toNat : Int) := by omega
              have g2' : (s[kk].toNat : Int) ≤ 122 := by omega
              clear hbk g1 g2
              by_cases hk0 : 0 < kk
              all_goals
                go_wp2
                all_goals
                  go_roundg (s.size - (kk + 1))
                  case measure => omega
                  case rel => exact ⟨kk + 1, by omega, by omega, by go_num, rfl, hrelo⟩
            · have g1' : (48 : Int) ≤ (s[kk].toNat : Int) := by omega
              have g2' : (s[kk].toNat : Int) ≤ 57 := by omega
              have hk0 : (0 : Int) < (kk : Int) := by omega
              clear hbk g1 g2 g3
              go_wp2
              all_goals
                go_roundg (s.size - (kk + 1))
                case measure => omega
                case rel => exact ⟨kk + 1, by omega, by omega, by go_num, rfl, hrelo⟩
          · have : R = false := by
              rw [← HR.out]; unfold nameB
              rw [decide_eq_false (fun h => hok (h kk hlt))]; rfl
            subst this
            have g1 : byteAt s kk < 97 ∨ 122 < byteAt s kk := by unfold okC at hok; omega
            have g2 : kk = 0 ∨ byteAt s kk < 48 ∨ 57 < byteAt s kk := by unfold okC at hok; omega
            have g1' : (s[kk].toNat : Int) < 97 ∨ (122 : Int) < (s[kk].toNat : Int) := by omega
            have g2' : kk = 0 ∨ (s[kk].toNat : Int) < 48 ∨ (57 : Int) < (s[kk].toNat : Int) := by omega
            clear hok hbk g1 g2
            by_cases q0 : (0 : Int) < (kk : Int)
            all_goals
              by_cases q1 : (97 : Int) ≤ (s[kk].toNat : Int)
              all_goals
                by_cases q2 : (s[kk].toNat : Int) ≤ 122
                all_goals
                  by_cases q3 : (48 : Int) ≤ (s[kk].toNat : Int)
                  all_goals
                    by_cases q4 : (s[kk].toNat : Int) ≤ 57
                    all_goals
                      first | (exfalso; omega) | (clear g1' g2'; go_wp2; go_ret; exact ⟨rfl, rfl⟩)
        · have hltz : ¬ (kk : Int) < (s.size : Int) := by omega
          have hkk' : kk = s.size := by omega
          have : R = true := by
            rw [← HR.out]; unfold nameB
            rw [decide_eq_true (fun j hj => HA.out j (by omega)), decide_eq_true (by omega), decide_eq_true (by omega)]; rfl
          subst this
          go_wp2
          go_ret
          exact ⟨rfl, rfl⟩
end Go.Proofs.YtemkffejekgmfaaDoor
