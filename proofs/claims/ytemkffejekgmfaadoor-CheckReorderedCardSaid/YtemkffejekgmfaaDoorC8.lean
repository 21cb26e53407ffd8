/- check.Check, check.Valid. -/
import Derived.Test.YtemkffejekgmfaaDoorC7
namespace Go.Proofs.YtemkffejekgmfaaDoor
open Go.RowKit Go.Shelf Go.Lib

structure Pol where
  name : ByteArray
  types : List Ty
  rules : List Rl
  quorums : List Qm
  deriving DecidableEq, Inhabited

/-- A policy value reads as p. -/
structure PolR (w : World) (p : Pol) (A1 : Option Addr) (c1 : Nat) (A2 : Option Addr) (c2 : Nat) (A3 : Option Addr) (c3 : Nat) : Prop where
  r1 : RS encTy 3 w A1 p.types
  l1 : p.types.length ≤ c1
  r2 : RS encRl 3 w A2 p.rules
  l2 : p.rules.length ≤ c2
  r3 : RS encQm 5 w A3 p.quorums
  l3 : p.quorums.length ≤ c3
  nm : p.name.size ≤ 140737488355328
  tn : ∀ t ∈ p.types, t.name.size ≤ 140737488355328

theorem PolR.below {w w' : World} {p : Pol} {A1 A2 A3 : Option Addr} {c1 c2 c3 : Nat} (h : PolR w p A1 c1 A2 c2 A3 c3) (hb : Below w.heap.size w w') : PolR w' p A1 c1 A2 c2 A3 c3 :=
  ⟨h.r1.below hb, h.l1, h.r2.below hb, h.l2, h.r3.below hb, h.l3, h.nm, h.tn⟩


def itemErr (p : Pol) (k : Nat) : Int :=
  if k < p.types.length then typeErr p.types k else if k < p.types.length + p.rules.length then ruleErr p.rules (k - p.types.length) p.types.length else quorumErr p.quorums (k - p.types.length - p.rules.length)
def total (p : Pol) : Nat := p.types.length + p.rules.length + p.quorums.length
def firstErr (f : Nat → Int) : Nat → Nat → Int × Int
  | 0, _ => (0, 0)
  | m + 1, i => if f i = 0 then firstErr f m (i + 1) else (i, f i)
def checkS (p : Pol) : Int × Int := if nameB p.name = true then firstErr (itemErr p) (total p) 0 else (-1, 4)

set_option maxRecDepth 100000 in
set_option maxHeartbeats 4000000 in
theorem check_any (p : Pol) (A1 : Option Addr) (c1 : Nat) (A2 : Option Addr) (c2 : Nat) (A3 : Option Addr) (c3 : Nat) (w : World) (hp : PolR w p A1 c1 A2 c2 A3 c3) (hown : OwnLaid w) :
    Calls Tryd.prog 11 #[.agg #[.string p.name, .slice A1 p.types.length c1, .slice A2 p.rules.length c2, .slice A3 p.quorums.length c3]] w fun e w' => e = .returned (.tuple #[.int .i64 (checkS p).1, .int .i64 (checkS p).2]) ∧ Below w.heap.size w w' := by
  have cN := fun W => name_any p.name W hp.nm
  have cT := fun W (hW : Below w.heap.size w W) k hk => typeError_any A1 c1 p.types k W hk hp.l1 (hp.r1.below hW) hp.tn
  have cR := fun W (hW : Below w.heap.size w W) k hk => ruleError_any A2 c2 p.rules k p.types.length W hk hp.l2 (hp.r2.below hW) (by omega) (by have := hp.r1.1; omega)
  have cQ := fun W (hW : Below w.heap.size w W) k hk => quorumError_any A3 c3 p.quorums k W hk hp.l3 (hp.r3.below hW) (RS.below hown hW)
  have b1 := hp.r1.1
  have b2 := hp.r2.1
  have b3 := hp.r3.1
  have hI1 : ∀ k, k < p.types.length → itemErr p k = typeErr p.types k := fun k hk => by unfold itemErr; rw [if_pos hk]
  have hI2 : ∀ k, k < p.rules.length → itemErr p (p.types.length + k) = ruleErr p.rules k p.types.length := fun k hk => by
    unfold itemErr; rw [if_neg (by omega), if_pos (by omega), Nat.add_sub_cancel_left]
  have hI3 : ∀ k, itemErr p (p.types.length + p.rules.length + k) = quorumErr p.quorums k := fun k => by
    unfold itemErr; rw [if_neg (by omega), if_neg (by omega)]; congr 1; omega
  unfold checkS total
  clear hp hown
  generalize itemErr p = f at *
  generalize nameB p.name = nm at *
  generalize p.name = pn at *
  generalize hn1 : p.types.length = n1 at *
  generalize hn2 : p.rules.length = n2 at *
  generalize hn3 : p.quorums.length = n3 at *
  have CT := Lib.hid cT
  have CR := Lib.hid cR
  have CQ := Lib.hid cQ
  have HI1 := Lib.hid hI1
  have HI2 := Lib.hid hI2
  have HI3 := Lib.hid hI3
  clear cT cR cQ hI1 hI2 hI3 hn1 hn2 hn3
  have hA : Below w.heap.size w (w.alloc (.cells #[.string pn, .slice A1 n1 c1, .slice A2 n2 c2, .slice A3 n3 c3] 26)) := (Below.refl _ _).alloc (Nat.le_refl _) _
  cases nm with
  | false =>
    go_enter Tryd.func11, Tryd.ntmps11
    go_wp2_with (go_at_call 15; refine (cN _).mono ?_; rintro e w1 ⟨rfl, hb1⟩)
    go_ret2
    exact ⟨rfl, hA.trans (hb1.mono (by simp))⟩
  | true =>
    go_enter Tryd.func11, Tryd.ntmps11
    go_wp2_with (go_at_call 15; refine (cN _).mono ?_; rintro e w1 ⟨rfl, hb1⟩)
    have hs1 : w.heap.size < w1.heap.size := by have := hb1.size; simp at this; omega
    have hB1 : Below w.heap.size w w1 := hA.trans (hb1.mono (by simp))
    have e1 : w1.cell? ⟨w.heap.size, 1, none⟩ = some (.slice A1 n1 c1) := (hb1.cell (p := ⟨w.heap.size, 1, none⟩) (by simp)).trans (by simp [go_sem])
    have e2 : w1.cell? ⟨w.heap.size, 2, none⟩ = some (.slice A2 n2 c2) := (hb1.cell (p := ⟨w.heap.size, 2, none⟩) (by simp)).trans (by simp [go_sem])
    have e3 : w1.cell? ⟨w.heap.size, 3, none⟩ = some (.slice A3 n3 c3) := (hb1.cell (p := ⟨w.heap.size, 3, none⟩) (by simp)).trans (by simp [go_sem])
    clear hb1 hA cN
    go_quiet (fail)
    have hB1q : Below w.heap.size w (w1.drewN nq) := below_drewN hB1 nq
    have hs1q : w.heap.size < (w1.drewN nq).heap.size := hs1
    have e1q : (w1.drewN nq).cell? ⟨w.heap.size, 1, none⟩ = some (.slice A1 n1 c1) := e1
    have e2q : (w1.drewN nq).cell? ⟨w.heap.size, 2, none⟩ = some (.slice A2 n2 c2) := e2
    have e3q : (w1.drewN nq).cell? ⟨w.heap.size, 3, none⟩ = some (.slice A3 n3 c3) := e3
    clear hB1 hs1 e1 e2 e3
    generalize w1.drewN nq = W1 at *
    go_wp2_with fail
    go_loopg [6, 7, 25] (n1 + n2 + n3) (fun gg _ _ s8 wr => ∃ kk : Nat, kk ≤ n1 + n2 + n3 ∧ n1 + n2 + n3 - kk ≤ gg ∧ s8 = .int .i64 kk ∧ Hid (Below W1.heap.size W1 wr) ∧ Hid (firstErr f (n1 + n2 + n3 - kk) kk = firstErr f (n1 + n2 + n3) 0))
    case atStart => exact ⟨0, Nat.zero_le _, by omega, rfl, Below.refl _ _, rfl⟩
    case round =>
      obtain ⟨kk, hkk, hg, rfl, BW, HF⟩ := hrel
      have hBr : Below w.heap.size w wr := hB1q.trans (BW.out.mono (by omega))
      have g1 := (BW.out.cell (p := ⟨w.heap.size, 1, none⟩) hs1q).trans e1q
      have g2 := (BW.out.cell (p := ⟨w.heap.size, 2, none⟩) hs1q).trans e2q
      have g3 := (BW.out.cell (p := ⟨w.heap.size, 3, none⟩) hs1q).trans e3q
      clear e1q e2q e3q
      by_cases hlt : kk < n1 + n2 + n3
      · have hltz : (kk : Int) < (n1 : Int) + (n2 : Int) + (n3 : Int) := by omega
        have hkz : (0 : Int) ≤ (kk : Int) := by omega
        obtain ⟨m, hm⟩ : ∃ m, n1 + n2 + n3 - kk = m + 1 := ⟨n1 + n2 + n3 - kk - 1, by omega⟩
        have hfst : firstErr f (m + 1) kk = firstErr f (n1 + n2 + n3) 0 := by rw [← hm]; exact HF.out
        have hm' : m = n1 + n2 + n3 - (kk + 1) := by omega
        by_cases hz : f kk = 0
        · have hnext : firstErr f (n1 + n2 + n3 - (kk + 1)) (kk + 1) = firstErr f (n1 + n2 + n3) 0 := by rw [← hfst, firstErr, if_pos hz, hm']
          have HN := Lib.hid hnext
          clear hm hm' hfst HF hnext
          by_cases hk1 : kk < n1
          · have hk1z : (kk : Int) < (n1 : Int) := by omega
            have c := CT.out wr hBr kk hk1
            rw [← HI1.out kk hk1, hz] at c
            clear hz
            go_wp2_with (go_at_call 24; refine c.mono ?_; rintro e w2 ⟨rfl, hb2⟩)
            go_roundg (n1 + n2 + n3 - (kk + 1))
            case measure => omega
            case rel => exact ⟨kk + 1, by omega, by omega, by go_num, BW.out.trans (hb2.mono BW.out.size), HN⟩
          · have hk1z : ¬ (kk : Int) < (n1 : Int) := by omega
            by_cases hk2 : kk < n1 + n2
            · have hk2z : (kk : Int) < (n1 : Int) + (n2 : Int) := by omega
              obtain ⟨q, rfl⟩ : ∃ q, kk = n1 + q := ⟨kk - n1, by omega⟩
              have c := CR.out wr hBr q (by omega)
              rw [← HI2.out q (by omega), hz] at c
              clear hz
              go_wp2_with fail
              rw [show (n1 : Int) + (q : Int) - (n1 : Int) = (q : Int) by omega]
              refine c.mono ?_
              rintro e w2 ⟨rfl, hb2⟩
              go_wp2
              go_roundg (n1 + n2 + n3 - (n1 + q + 1))
              case measure => omega
              case rel => exact ⟨n1 + q + 1, by omega, by omega, by go_num, BW.out.trans (hb2.mono BW.out.size), HN⟩
            · have hk2z : ¬ (kk : Int) < (n1 : Int) + (n2 : Int) := by omega
              obtain ⟨q, rfl⟩ : ∃ q, kk = n1 + n2 + q := ⟨kk - n1 - n2, by omega⟩
              have c := CQ.out wr hBr q (by omega)
              rw [← HI3.out q, hz] at c
              clear hz
              go_wp2_with fail
              rw [show (n1 : Int) + (n2 : Int) + (q : Int) - (n1 : Int) - (n2 : Int) = (q : Int) by omega]
              refine c.mono ?_
              rintro e w2 ⟨rfl, hb2⟩
              go_wp2
              go_roundg (n1 + n2 + n3 - (n1 + n2 + q + 1))
              case measure => omega
              case rel => exact ⟨n1 + n2 + q + 1, by omega, by omega, by go_num, BW.out.trans (hb2.mono BW.out.size), HN⟩
        · have hlast : firstErr f (n1 + n2 + n3) 0 = ((kk : Int), f kk) := by rw [← hfst, firstErr, if_neg hz]
          have HLAST := Lib.hid hlast
          have hzb : (f kk != 0) = true := by simpa using hz
          clear hm hm' hfst HF hlast hz
          by_cases hk1 : kk < n1
          · have hk1z : (kk : Int) < (n1 : Int) := by omega
            have c := CT.out wr hBr kk hk1
            rw [← HI1.out kk hk1] at c
            generalize f kk = E at *
            go_wp2_with (go_at_call 24; refine c.mono ?_; rintro e w2 ⟨rfl, hb2⟩)
            go_ret2
            exact ⟨by rw [HLAST.out]; rfl, hBr.trans (hb2.mono hBr.size)⟩
          · have hk1z : ¬ (kk : Int) < (n1 : Int) := by omega
            by_cases hk2 : kk < n1 + n2
            · have hk2z : (kk : Int) < (n1 : Int) + (n2 : Int) := by omega
              obtain ⟨q, rfl⟩ : ∃ q, kk = n1 + q := ⟨kk - n1, by omega⟩
              have c := CR.out wr hBr q (by omega)
              rw [← HI2.out q (by omega)] at c
              generalize f (n1 + q) = E at *
              go_wp2_with fail
              rw [show (n1 : Int) + (q : Int) - (n1 : Int) = (q : Int) by omega]
              refine c.mono ?_
              rintro e w2 ⟨rfl, hb2⟩
              go_wp2
              go_ret2
              exact ⟨by rw [HLAST.out]; simp, hBr.trans (hb2.mono hBr.size)⟩
            · have hk2z : ¬ (kk : Int) < (n1 : Int) + (n2 : Int) := by omega
              obtain ⟨q, rfl⟩ : ∃ q, kk = n1 + n2 + q := ⟨kk - n1 - n2, by omega⟩
              have c := CQ.out wr hBr q (by omega)
              rw [← HI3.out q] at c
              generalize f (n1 + n2 + q) = E at *
              go_wp2_with fail
              rw [show (n1 : Int) + (n2 : Int) + (q : Int) - (n1 : Int) - (n2 : Int) = (q : Int) by omega]
              refine c.mono ?_
              rintro e w2 ⟨rfl, hb2⟩
              go_wp2
              go_ret2
              exact ⟨by rw [HLAST.out]; simp, hBr.trans (hb2.mono hBr.size)⟩
      · have hltz : ¬ (kk : Int) < (n1 : Int) + (n2 : Int) + (n3 : Int) := by omega
        have : kk = n1 + n2 + n3 := by omega
        subst this
        have hend : firstErr f (n1 + n2 + n3) 0 = (0, 0) := by rw [← HF.out, Nat.sub_self, firstErr]
        have HEND := Lib.hid hend
        clear hend HF
        go_wp2
        go_ret2
        exact ⟨by rw [HEND.out]; rfl, hBr⟩

set_option maxHeartbeats 400000 in
theorem valid_any (p : Pol) (A1 : Option Addr) (c1 : Nat) (A2 : Option Addr) (c2 : Nat) (A3 : Option Addr) (c3 : Nat) (w : World) (hp : PolR w p A1 c1 A2 c2 A3 c3) (hown : OwnLaid w) :
    Calls Tryd.prog 13 #[.agg #[.string p.name, .slice A1 p.types.length c1, .slice A2 p.rules.length c2, .slice A3 p.quorums.length c3]] w fun e w' => e = .returned (.bool ((checkS p).2 == 0)) ∧ Below w.heap.size w w' := by
  have cC := fun W (hW : Below w.heap.size w W) => check_any p A1 c1 A2 c2 A3 c3 W (hp.below hW) (RS.below hown hW)
  clear hp hown
  generalize checkS p = r at *
  obtain ⟨n, E⟩ := r
  dsimp only at cC ⊢
  have CC := Lib.hid cC
  clear cC
  go_enter Tryd.func13, Tryd.ntmps13
  go_wp2_with fail
  refine (CC.out _ (by first | exact Below.refl _ _ | exact (Below.refl _ _).alloc (Nat.le_refl _) _)).mono ?_
  rintro e w2 ⟨rfl, hb2⟩
  go_wp2
  go_ret
  exact ⟨rfl, ((Below.refl _ _).alloc (Nat.le_refl _) _).trans (hb2.mono (by simp))⟩
end Go.Proofs.YtemkffejekgmfaaDoor
