/- slices.stableCmpFunc at the structs: the row becomes its stable sort. -/
import Derived.Test.YtemkffejekgmfaaDoorK6
import Derived.Test.YtemkffejekgmfaaDoorL2
namespace Go.Proofs.YtemkffejekgmfaaDoor
open Go.RowKit Go.Shelf Go.Lib

set_option maxRecDepth 100000 in
set_option maxHeartbeats 4000000 in
theorem stable_Rule (hO : Ord (ltC cfRl)) (T : TypeId) (W0 : World) (B blk cap : Nat) (l : List Rl) (W : World) (hso : SO encRl 3 T W0 B blk cap l W) (hc : l.length ≤ 140737488355328) :
    Calls Tryd.prog 60 #[.slice (some ⟨blk, 0, none⟩) l.length cap, .int .i64 l.length, .func (.func 32) #[] #[]] W fun e w' => e = .returned (.tuple #[]) ∧ SO encRl 3 T W0 B blk cap (sortR (ltC cfRl) l) w' := by
  have HI : Hid (∃ c, BlkI (ltC cfRl) 20 0 l c ∧ SO encRl 3 T W0 B blk cap c W) := ⟨l, BlkI.start _ _ _, hso⟩
  clear hso
  obtain ⟨n, hn⟩ : ∃ n, l.length = n := ⟨_, rfl⟩
  rw [hn] at hc ⊢
  have HN := Lib.hid hn
  clear hn
  go_enter Tryd.func60, Tryd.ntmps60
  go_wp2
  go_loopg [7, 8] n (fun gg t1 t2 wr => ∃ a, a ≤ n ∧ n - a ≤ gg ∧ t1 = .int .i64 (a : Nat) ∧ t2 = .int .i64 ((a : Nat) + 20) ∧ Hid (∃ c, BlkI (ltC cfRl) 20 a l c ∧ SO encRl 3 T W0 B blk cap c wr))
  case atStart => exact ⟨0, Nat.zero_le _, by omega, by simp, by simp, HI⟩
  case round =>
    clear HI
    obtain ⟨a, han, hg, rfl, rfl, hS⟩ := hrel
    by_cases hlt : a + 20 ≤ n
    · have hltz : (a : Int) + 20 ≤ (n : Int) := by omega
      have hw1 : IntKind.i64.wrap ((a : Int) + 20 + 20) = (a : Int) + 20 + 20 := by rw [IntKind.wrap_i64]; omega
      have C1 : Hid (Calls Tryd.prog 63 #[.slice (some ⟨blk, 0, none⟩) n cap, .int .i64 a, .int .i64 ((a : Nat) + 20), .func (.func 32) #[] #[]] wr fun e w' => e = .returned (.tuple #[]) ∧ Hid (∃ c, BlkI (ltC cfRl) 20 (a + 20) l c ∧ SO encRl 3 T W0 B blk cap c w')) := by
        obtain ⟨c, hb, hs⟩ := hS.out
        have hlen := hb.length
        obtain ⟨P, X, Q, rfl, hP, hX, hnx⟩ := hb.step (by rw [HN.out]; exact hlt)
        refine (insertion_Rule a (a + 20) X Q P T W0 B blk cap n wr hs hc (by rw [hlen.1, HN.out]) hP (by omega)).mono ?_
        rintro e w' ⟨rfl, h⟩
        exact ⟨rfl, _, hnx, h⟩
      clear hS
      go_wp2_with fail
      refine C1.out.mono ?_
      rintro e w' ⟨rfl, hS2⟩
      clear C1
      go_wp2
      go_roundg (n - (a + 20))
      case measure => omega
      case rel => exact ⟨a + 20, by omega, by omega, by go_num, by first | rfl | go_num | (congr 1; omega), hS2⟩
    · have hltz : ¬ (a : Int) + 20 ≤ (n : Int) := by omega
      have C1 : Hid (Calls Tryd.prog 63 #[.slice (some ⟨blk, 0, none⟩) n cap, .int .i64 a, .int .i64 n, .func (.func 32) #[] #[]] wr fun e w' => e = .returned (.tuple #[]) ∧ Hid (∃ c, Blk0 (ltC cfRl) 20 l c ∧ SO encRl 3 T W0 B blk cap c w')) := by
        obtain ⟨c, hb, hs⟩ := hS.out
        have hlen := hb.length
        obtain ⟨P, X, rfl, hP, hX, hnx⟩ := hb.last (by rw [HN.out]; omega)
        refine (insertion_Rule a n X [] P T W0 B blk cap n wr hs hc (by rw [hlen.1, HN.out]) hP (by rw [hX, HN.out])).mono ?_
        rintro e w' ⟨rfl, h⟩
        exact ⟨rfl, _, hnx, h⟩
      clear hS
      go_wp2_with fail
      refine C1.out.mono ?_
      rintro e w1 ⟨rfl, hS2⟩
      clear C1
      go_wp2
      go_loopg [6, 7, 8, 9] n (fun gg t0 t1 t2 t3 wr => ∃ bs, 20 ≤ bs ∧ bs ≤ 2 * n + 20 ∧ n - bs ≤ gg ∧ t0 = .int .i64 (bs : Nat) ∧ Hid (∃ c, Blk0 (ltC cfRl) bs l c ∧ SO encRl 3 T W0 B blk cap c wr))
      case atStart => exact ⟨20, by omega, by omega, by omega, by go_num, hS2⟩
      case round =>
        clear hS2
        obtain ⟨bs, hbs, hbn, hgb, rfl, hS⟩ := hrel
        by_cases hlb : bs < n
        · have hlbz : (bs : Int) < (n : Int) := by omega
          have HI : Hid (∃ c, Blk (ltC cfRl) bs 0 l c ∧ SO encRl 3 T W0 B blk cap c wr) := by
            obtain ⟨c, hb, hs⟩ := hS.out
            exact ⟨c, hb.start, hs⟩
          clear hS
          have hw2 : IntKind.i64.wrap (2 * (bs : Int)) = 2 * (bs : Int) := by rw [IntKind.wrap_i64]; omega
          have hw2' : IntKind.i64.wrap ((bs : Int) * 2) = (bs : Int) * 2 := by rw [IntKind.wrap_i64]; omega
          generalize wr = w2 at *
          go_wp2
          go_loopg [7, 8] n (fun gg t1 t2 wr => ∃ a, a ≤ n ∧ n - a ≤ gg ∧ t1 = .int .i64 (a : Nat) ∧ t2 = .int .i64 ((a : Nat) + 2 * (bs : Nat)) ∧ Hid (∃ c, Blk (ltC cfRl) bs a l c ∧ SO encRl 3 T W0 B blk cap c wr))
          case atStart => exact ⟨0, Nat.zero_le _, by omega, by simp, by simp, HI⟩
          case round =>
            clear HI
            obtain ⟨a, han, hga, rfl, rfl, hS⟩ := hrel
            have hw3 : IntKind.i64.wrap ((a : Int) + (bs : Int)) = ((a + bs : Nat) : Int) := by rw [IntKind.wrap_i64]; omega
            by_cases hle : a + 2 * bs ≤ n
            · have hlez : (a : Int) + 2 * (bs : Int) ≤ (n : Int) := by omega
              have hw4 : IntKind.i64.wrap ((a : Int) + 2 * (bs : Int) + 2 * (bs : Int)) = (a : Int) + 2 * (bs : Int) + 2 * (bs : Int) := by rw [IntKind.wrap_i64]; omega
              have C1 : Hid (Calls Tryd.prog 64 #[.slice (some ⟨blk, 0, none⟩) n cap, .int .i64 a, .int .i64 ((a + bs : Nat) : Int), .int .i64 ((a : Nat) + 2 * (bs : Nat)), .func (.func 32) #[] #[]] wr fun e w' => e = .returned (.tuple #[]) ∧ Hid (∃ c, Blk (ltC cfRl) bs (a + 2 * bs) l c ∧ SO encRl 3 T W0 B blk cap c w')) := by
                obtain ⟨c, hb, hs⟩ := hS.out
                have hlen := hb.length
                obtain ⟨P, U, V, Q, rfl, hP, hU, hV, sU, sV, hnx⟩ := hb.step hO (by rw [HN.out]; exact hle)
                have := symMerge_Rule hO T W0 B blk cap n hc (a + 2 * bs - a) a (a + bs) (a + 2 * bs) P U V Q wr (Nat.le_refl _) hs (by rw [hlen.1, HN.out]) hP (by omega) (by omega) (by omega) (by omega) sU sV
                simp only [Int.natCast_add, Int.natCast_mul, Int.cast_ofNat_Int] at this ⊢
                refine this.mono ?_
                rintro e w' ⟨rfl, h⟩
                exact ⟨rfl, _, hnx, h⟩
              clear hS
              go_wp2_with fail
              refine C1.out.mono ?_
              rintro e w' ⟨rfl, hS2⟩
              clear C1
              go_wp2
              go_roundg (n - (a + 2 * bs))
              case measure => omega
              case rel => exact ⟨a + 2 * bs, by omega, by omega, by first | rfl | go_num | (congr 1; omega), by first | rfl | go_num | (congr 1; omega), hS2⟩
            · have hlez : ¬ (a : Int) + 2 * (bs : Int) ≤ (n : Int) := by omega
              by_cases hm : a + bs < n
              · have hmz : ((a + bs : Nat) : Int) < (n : Int) := by omega
                have C1 : Hid (Calls Tryd.prog 64 #[.slice (some ⟨blk, 0, none⟩) n cap, .int .i64 a, .int .i64 ((a + bs : Nat) : Int), .int .i64 n, .func (.func 32) #[] #[]] wr fun e w' => e = .returned (.tuple #[]) ∧ Hid (∃ c, Blk0 (ltC cfRl) (2 * bs) l c ∧ SO encRl 3 T W0 B blk cap c w')) := by
                  obtain ⟨c, hb, hs⟩ := hS.out
                  have hlen := hb.length
                  obtain ⟨P, U, V, rfl, hP, hU, hV, sU, sV, hnx⟩ := (hb.last hO (by rw [HN.out]; omega)).1 (by rw [HN.out]; exact hm)
                  refine (symMerge_Rule hO T W0 B blk cap n hc (n - a) a (a + bs) n P U V [] wr (Nat.le_refl _) hs (by rw [hlen.1, HN.out]) hP (by omega) (by rw [hV, HN.out]) (by omega) hm sU sV).mono ?_
                  rintro e w' ⟨rfl, h⟩
                  exact ⟨rfl, _, hnx, h⟩
                clear hS
                go_wp2_with fail
                refine C1.out.mono ?_
                rintro e w' ⟨rfl, hS2⟩
                clear C1
                go_wp2
                go_roundg (n - 2 * bs)
                case measure => omega
                case rel => exact ⟨2 * bs, by omega, by omega, by omega, by first | rfl | go_num | (congr 1; omega), hS2⟩
              · have hmz : ¬ ((a + bs : Nat) : Int) < (n : Int) := by omega
                have hS2 : Hid (∃ c, Blk0 (ltC cfRl) (2 * bs) l c ∧ SO encRl 3 T W0 B blk cap c wr) := by
                  obtain ⟨c, hb, hs⟩ := hS.out
                  exact ⟨c, (hb.last hO (by rw [HN.out]; omega)).2 (by rw [HN.out]; omega), hs⟩
                clear hS
                go_wp2
                go_roundg (n - 2 * bs)
                case measure => omega
                case rel => exact ⟨2 * bs, by omega, by omega, by omega, by first | rfl | go_num | (congr 1; omega), hS2⟩
        · have hlbz : ¬ (bs : Int) < (n : Int) := by omega
          have HF : Hid (SO encRl 3 T W0 B blk cap (sortR (ltC cfRl) l) wr) := by
            obtain ⟨c, hb, hs⟩ := hS.out
            rw [hb.fin (by rw [HN.out]; omega)] at hs
            exact hs
          clear hS
          go_wp2
          go_end0
          exact ⟨rfl, HF.out⟩
set_option maxRecDepth 100000 in
set_option maxHeartbeats 4000000 in
theorem stable_Quorum (hO : Ord (ltC cfQm)) (T : TypeId) (W0 : World) (B blk cap : Nat) (l : List Qm) (W : World) (hso : SO encQm 5 T W0 B blk cap l W) (hc : l.length ≤ 140737488355328) :
    Calls Tryd.prog 61 #[.slice (some ⟨blk, 0, none⟩) l.length cap, .int .i64 l.length, .func (.func 36) #[] #[]] W fun e w' => e = .returned (.tuple #[]) ∧ SO encQm 5 T W0 B blk cap (sortR (ltC cfQm) l) w' := by
  have HI : Hid (∃ c, BlkI (ltC cfQm) 20 0 l c ∧ SO encQm 5 T W0 B blk cap c W) := ⟨l, BlkI.start _ _ _, hso⟩
  clear hso
  obtain ⟨n, hn⟩ : ∃ n, l.length = n := ⟨_, rfl⟩
  rw [hn] at hc ⊢
  have HN := Lib.hid hn
  clear hn
  go_enter Tryd.func61, Tryd.ntmps61
  go_wp2
  go_loopg [7, 8] n (fun gg t1 t2 wr => ∃ a, a ≤ n ∧ n - a ≤ gg ∧ t1 = .int .i64 (a : Nat) ∧ t2 = .int .i64 ((a : Nat) + 20) ∧ Hid (∃ c, BlkI (ltC cfQm) 20 a l c ∧ SO encQm 5 T W0 B blk cap c wr))
  case atStart => exact ⟨0, Nat.zero_le _, by omega, by simp, by simp, HI⟩
  case round =>
    clear HI
    obtain ⟨a, han, hg, rfl, rfl, hS⟩ := hrel
    by_cases hlt : a + 20 ≤ n
    · have hltz : (a : Int) + 20 ≤ (n : Int) := by omega
      have hw1 : IntKind.i64.wrap ((a : Int) + 20 + 20) = (a : Int) + 20 + 20 := by rw [IntKind.wrap_i64]; omega
      have C1 : Hid (Calls Tryd.prog 65 #[.slice (some ⟨blk, 0, none⟩) n cap, .int .i64 a, .int .i64 ((a : Nat) + 20), .func (.func 36) #[] #[]] wr fun e w' => e = .returned (.tuple #[]) ∧ Hid (∃ c, BlkI (ltC cfQm) 20 (a + 20) l c ∧ SO encQm 5 T W0 B blk cap c w')) := by
        obtain ⟨c, hb, hs⟩ := hS.out
        have hlen := hb.length
        obtain ⟨P, X, Q, rfl, hP, hX, hnx⟩ := hb.step (by rw [HN.out]; exact hlt)
        refine (insertion_Quorum a (a + 20) X Q P T W0 B blk cap n wr hs hc (by rw [hlen.1, HN.out]) hP (by omega)).mono ?_
        rintro e w' ⟨rfl, h⟩
        exact ⟨rfl, _, hnx, h⟩
      clear hS
      go_wp2_with fail
      refine C1.out.mono ?_
      rintro e w' ⟨rfl, hS2⟩
      clear C1
      go_wp2
      go_roundg (n - (a + 20))
      case measure => omega
      case rel => exact ⟨a + 20, by omega, by omega, by go_num, by first | rfl | go_num | (congr 1; omega), hS2⟩
    · have hltz : ¬ (a : Int) + 20 ≤ (n : Int) := by omega
      have C1 : Hid (Calls Tryd.prog 65 #[.slice (some ⟨blk, 0, none⟩) n cap, .int .i64 a, .int .i64 n, .func (.func 36) #[] #[]] wr fun e w' => e = .returned (.tuple #[]) ∧ Hid (∃ c, Blk0 (ltC cfQm) 20 l c ∧ SO encQm 5 T W0 B blk cap c w')) := by
        obtain ⟨c, hb, hs⟩ := hS.out
        have hlen := hb.length
        obtain ⟨P, X, rfl, hP, hX, hnx⟩ := hb.last (by rw [HN.out]; omega)
        refine (insertion_Quorum a n X [] P T W0 B blk cap n wr hs hc (by rw [hlen.1, HN.out]) hP (by rw [hX, HN.out])).mono ?_
        rintro e w' ⟨rfl, h⟩
        exact ⟨rfl, _, hnx, h⟩
      clear hS
      go_wp2_with fail
      refine C1.out.mono ?_
      rintro e w1 ⟨rfl, hS2⟩
      clear C1
      go_wp2
      go_loopg [6, 7, 8, 9] n (fun gg t0 t1 t2 t3 wr => ∃ bs, 20 ≤ bs ∧ bs ≤ 2 * n + 20 ∧ n - bs ≤ gg ∧ t0 = .int .i64 (bs : Nat) ∧ Hid (∃ c, Blk0 (ltC cfQm) bs l c ∧ SO encQm 5 T W0 B blk cap c wr))
      case atStart => exact ⟨20, by omega, by omega, by omega, by go_num, hS2⟩
      case round =>
        clear hS2
        obtain ⟨bs, hbs, hbn, hgb, rfl, hS⟩ := hrel
        by_cases hlb : bs < n
        · have hlbz : (bs : Int) < (n : Int) := by omega
          have HI : Hid (∃ c, Blk (ltC cfQm) bs 0 l c ∧ SO encQm 5 T W0 B blk cap c wr) := by
            obtain ⟨c, hb, hs⟩ := hS.out
            exact ⟨c, hb.start, hs⟩
          clear hS
          have hw2 : IntKind.i64.wrap (2 * (bs : Int)) = 2 * (bs : Int) := by rw [IntKind.wrap_i64]; omega
          have hw2' : IntKind.i64.wrap ((bs : Int) * 2) = (bs : Int) * 2 := by rw [IntKind.wrap_i64]; omega
          generalize wr = w2 at *
          go_wp2
          go_loopg [7, 8] n (fun gg t1 t2 wr => ∃ a, a ≤ n ∧ n - a ≤ gg ∧ t1 = .int .i64 (a : Nat) ∧ t2 = .int .i64 ((a : Nat) + 2 * (bs : Nat)) ∧ Hid (∃ c, Blk (ltC cfQm) bs a l c ∧ SO encQm 5 T W0 B blk cap c wr))
          case atStart => exact ⟨0, Nat.zero_le _, by omega, by simp, by simp, HI⟩
          case round =>
            clear HI
            obtain ⟨a, han, hga, rfl, rfl, hS⟩ := hrel
            have hw3 : IntKind.i64.wrap ((a : Int) + (bs : Int)) = ((a + bs : Nat) : Int) := by rw [IntKind.wrap_i64]; omega
            by_cases hle : a + 2 * bs ≤ n
            · have hlez : (a : Int) + 2 * (bs : Int) ≤ (n : Int) := by omega
              have hw4 : IntKind.i64.wrap ((a : Int) + 2 * (bs : Int) + 2 * (bs : Int)) = (a : Int) + 2 * (bs : Int) + 2 * (bs : Int) := by rw [IntKind.wrap_i64]; omega
              have C1 : Hid (Calls Tryd.prog 66 #[.slice (some ⟨blk, 0, none⟩) n cap, .int .i64 a, .int .i64 ((a + bs : Nat) : Int), .int .i64 ((a : Nat) + 2 * (bs : Nat)), .func (.func 36) #[] #[]] wr fun e w' => e = .returned (.tuple #[]) ∧ Hid (∃ c, Blk (ltC cfQm) bs (a + 2 * bs) l c ∧ SO encQm 5 T W0 B blk cap c w')) := by
                obtain ⟨c, hb, hs⟩ := hS.out
                have hlen := hb.length
                obtain ⟨P, U, V, Q, rfl, hP, hU, hV, sU, sV, hnx⟩ := hb.step hO (by rw [HN.out]; exact hle)
                have := symMerge_Quorum hO T W0 B blk cap n hc (a + 2 * bs - a) a (a + bs) (a + 2 * bs) P U V Q wr (Nat.le_refl _) hs (by rw [hlen.1, HN.out]) hP (by omega) (by omega) (by omega) (by omega) sU sV
                simp only [Int.natCast_add, Int.natCast_mul, Int.cast_ofNat_Int] at this ⊢
                refine this.mono ?_
                rintro e w' ⟨rfl, h⟩
                exact ⟨rfl, _, hnx, h⟩
              clear hS
              go_wp2_with fail
              refine C1.out.mono ?_
              rintro e w' ⟨rfl, hS2⟩
              clear C1
              go_wp2
              go_roundg (n - (a + 2 * bs))
              case measure => omega
              case rel => exact ⟨a + 2 * bs, by omega, by omega, by first | rfl | go_num | (congr 1; omega), by first | rfl | go_num | (congr 1; omega), hS2⟩
            · have hlez : ¬ (a : Int) + 2 * (bs : Int) ≤ (n : Int) := by omega
              by_cases hm : a + bs < n
              · have hmz : ((a + bs : Nat) : Int) < (n : Int) := by omega
                have C1 : Hid (Calls Tryd.prog 66 #[.slice (some ⟨blk, 0, none⟩) n cap, .int .i64 a, .int .i64 ((a + bs : Nat) : Int), .int .i64 n, .func (.func 36) #[] #[]] wr fun e w' => e = .returned (.tuple #[]) ∧ Hid (∃ c, Blk0 (ltC cfQm) (2 * bs) l c ∧ SO encQm 5 T W0 B blk cap c w')) := by
                  obtain ⟨c, hb, hs⟩ := hS.out
                  have hlen := hb.length
                  obtain ⟨P, U, V, rfl, hP, hU, hV, sU, sV, hnx⟩ := (hb.last hO (by rw [HN.out]; omega)).1 (by rw [HN.out]; exact hm)
                  refine (symMerge_Quorum hO T W0 B blk cap n hc (n - a) a (a + bs) n P U V [] wr (Nat.le_refl _) hs (by rw [hlen.1, HN.out]) hP (by omega) (by rw [hV, HN.out]) (by omega) hm sU sV).mono ?_
                  rintro e w' ⟨rfl, h⟩
                  exact ⟨rfl, _, hnx, h⟩
                clear hS
                go_wp2_with fail
                refine C1.out.mono ?_
                rintro e w' ⟨rfl, hS2⟩
                clear C1
                go_wp2
                go_roundg (n - 2 * bs)
                case measure => omega
                case rel => exact ⟨2 * bs, by omega, by omega, by omega, by first | rfl | go_num | (congr 1; omega), hS2⟩
              · have hmz : ¬ ((a + bs : Nat) : Int) < (n : Int) := by omega
                have hS2 : Hid (∃ c, Blk0 (ltC cfQm) (2 * bs) l c ∧ SO encQm 5 T W0 B blk cap c wr) := by
                  obtain ⟨c, hb, hs⟩ := hS.out
                  exact ⟨c, (hb.last hO (by rw [HN.out]; omega)).2 (by rw [HN.out]; omega), hs⟩
                clear hS
                go_wp2
                go_roundg (n - 2 * bs)
                case measure => omega
                case rel => exact ⟨2 * bs, by omega, by omega, by omega, by first | rfl | go_num | (congr 1; omega), hS2⟩
        · have hlbz : ¬ (bs : Int) < (n : Int) := by omega
          have HF : Hid (SO encQm 5 T W0 B blk cap (sortR (ltC cfQm) l) wr) := by
            obtain ⟨c, hb, hs⟩ := hS.out
            rw [hb.fin (by rw [HN.out]; omega)] at hs
            exact hs
          clear hS
          go_wp2
          go_end0
          exact ⟨rfl, HF.out⟩
end Go.Proofs.YtemkffejekgmfaaDoor
