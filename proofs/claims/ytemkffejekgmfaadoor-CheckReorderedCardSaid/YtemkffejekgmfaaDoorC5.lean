/- check.Name. -/
import Derived.Test.YtemkffejekgmfaaDoorE2
import Derived.Lib.ConvBytes
namespace Go.Proofs.YtemkffejekgmfaaDoor
open Go.RowKit Go.Shelf Go.Lib

def okC (k : Nat) (c : Nat) : Prop := (97 ≤ c ∧ c ≤ 122) ∨ (k ≠ 0 ∧ 48 ≤ c ∧ c ≤ 57)
instance (k c : Nat) : Decidable (okC k c) := by unfold okC; exact inferInstance
def byteAt (s : ByteArray) (k : Nat) : Nat := (s.data.toList.getD k 0).toNat
def nameB (s : ByteArray) : Bool := decide (∀ k, k < s.size → okC k (byteAt s k)) && (decide (1 ≤ s.size) && decide (s.size ≤ 12))

set_option maxRecDepth 100000 in
set_option maxHeartbeats 2000000 in
theorem name_any (s : ByteArray) (w : World) (hs : s.size ≤ 140737488355328) :
    Calls Tryd.prog 15 #[.string s] w fun e w' => e = .returned (.bool (nameB s)) ∧ Below w.heap.size w w' := by
  have hconv := Lib.run_convert_string_bytes (P := Tryd.prog) w 9 50 5 s Tryd.underlying9 Tryd.underlying50 Tryd.underlying5
  have hold := Lib.bytesWorld_at_old w 5 s
  have hcell := Lib.bytesWorld_cell w 5 s
  have hsize := Lib.bytesWorld_size w 5 s
  have hB0 : Below w.heap.size w (Lib.bytesWorld w 5 s) := ⟨rfl, rfl, rfl, by omega, fun k hk => hold k hk⟩
  generalize Lib.bytesWorld w 5 s = W1 at *
  generalize grownCap w s.size 0 5 = cp at *
  have HB : Hid (Below w.heap.size w W1) := hB0
  clear hold hB0 hsize
  have hcell' : ∀ j, j < s.size → W1.cell? ⟨w.heap.size, j, none⟩ = some (.int .u8 (byteAt s j)) := hcell
  clear hcell
  generalize hp : w.heap.size = p at hcell' hconv HB ⊢
  have HP : Hid (w.heap.size = p) := hp
  clear hp
  unfold nameB
  generalize hb : byteAt s = f at *
  have HF : Hid (byteAt s = f) := hb
  clear hb
  generalize hn : s.size = n at *
  have HN : Hid (s.size = n) := hn
  clear hn
  go_enter Tryd.func15, Tryd.ntmps15
  go_wp2
  go_loopg [3, 4, 8] n (fun gg _ _ s8 wr => ∃ kk : Nat, kk ≤ n ∧ n - kk ≤ gg ∧ s8 = .int .i64 kk ∧ wr = W1 ∧ Hid (∀ j, j < kk → okC j (f j)))
  case atStart => exact ⟨0, Nat.zero_le _, by omega, rfl, rfl, fun j hj => absurd hj (Nat.not_lt_zero _)⟩
  case round =>
    obtain ⟨kk, hkk, hg, rfl, rfl, HA⟩ := hrel
    by_cases hlt : kk < n
    · have hltz : (kk : Int) < (n : Int) := by omega
      have hkz : (0 : Int) ≤ (kk : Int) := by omega
      have hc := hcell' kk hlt
      clear hcell'
      generalize hfk : f kk = c at hc
      have HC : Hid (f kk = c) := hfk
      clear hfk
      by_cases hok : okC kk c
      · have HOK : Hid (okC kk c) := hok
        rcases hok with ⟨h1, h2⟩ | ⟨h1, h2, h3⟩
        · go_wp2
          go_roundg (n - (kk + 1))
          case measure => omega
          case rel =>
            refine ⟨kk + 1, by omega, by omega, by go_num, rfl, (show Hid _ from fun j hj => ?_)⟩
            by_cases e : j = kk
            · subst e; rw [HC.out]; exact HOK.out
            · exact HA.out j (by omega)
        · have hk0 : ((kk : Int) == 0) = false := by simp; omega
          have hk0' : (0 : Int) < (kk : Int) := by omega
          go_wp2
          all_goals
            go_roundg (n - (kk + 1))
            case measure => omega
            case rel =>
              refine ⟨kk + 1, by omega, by omega, by go_num, rfl, (show Hid _ from fun j hj => ?_)⟩
              by_cases e : j = kk
              · subst e; rw [HC.out]; exact HOK.out
              · exact HA.out j (by omega)
      · have hfin : decide (∀ k, k < n → okC k (f k)) = false := decide_eq_false (fun h => hok (by have := h kk hlt; rwa [HC.out] at this))
        have h1 : c < 97 ∨ 122 < c := by unfold okC at hok; omega
        have h2 : kk = 0 ∨ c < 48 ∨ 57 < c := by unfold okC at hok; omega
        have HFIN : Hid _ := hfin
        clear hok hfin HA
        rcases h1 with h1 | h1
        all_goals
          rcases h2 with h2 | h2 | h2
          all_goals
            first | (subst h2) | skip
            go_wp2
            all_goals
              go_ret
              refine ⟨?_, HB.out⟩
              rw [HFIN.out]
              rfl
    · have hltz : ¬ (kk : Int) < (n : Int) := by omega
      have : kk = n := by omega
      subst this
      have hfin : decide (∀ k, k < kk → okC k (f k)) = true := decide_eq_true (fun j hj => HA.out j hj)
      have HFIN : Hid _ := hfin
      clear hfin hcell'
      have hss := HN.out
      by_cases h1 : 1 ≤ kk
      · have g1 : 1 ≤ s.size := by omega
        have g1' : (1 : Int) ≤ (s.size : Int) := by omega
        by_cases h2 : kk ≤ 12
        · have g2 : (s.size : Int) ≤ 12 := by omega
          clear hss
          go_wp2
          go_ret
          exact ⟨by first | rfl | (rw [HFIN.out]; first | rfl | (simp [h1, h2]; done)), HB.out⟩
        · have g2 : ¬ (s.size : Int) ≤ 12 := by omega
          clear hss
          go_wp2
          go_ret
          exact ⟨by first | rfl | (rw [HFIN.out]; first | rfl | (simp [h1, h2]; done)), HB.out⟩
      · have g1 : ¬ (1 : Int) ≤ (s.size : Int) := by omega
        clear hss
        go_wp2
        go_ret
        exact ⟨by first | rfl | (rw [HFIN.out]; first | rfl | (simp [h1]; done)), HB.out⟩
attribute [irreducible] nameB
end Go.Proofs.YtemkffejekgmfaaDoor
