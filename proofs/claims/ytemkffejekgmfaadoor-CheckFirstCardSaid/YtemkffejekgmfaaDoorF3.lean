/- cut. -/
import Derived.Test.YtemkffejekgmfaaDoorL5
import Derived.Test.YtemkffejekgmfaaDoorK9
import Derived.Deep.RegionHeld3
import Derived.Handy
namespace Go.Proofs.YtemkffejekgmfaaDoor
open Go.RowKit Go.Shelf Go.Lib
theorem PolR.cut {w : World} {p : Pol} {A1 A2 A3 : Option Addr} {c1 c2 c3 : Nat} (h : PolR w p A1 c1 A2 c2 A3 c3) (n : Nat) : PolR w (cutS p n) A1 c1 A2 c2 A3 c3 := by
  have tk : ∀ {α : Type} [Inhabited α] {enc : α → List Value} {k : Nat} {A : Option Addr} {xs : List α} (m : Nat), RS enc k w A xs → RS enc k w A (xs.take m) := fun {α} _ {enc} {k} {A} {xs} m h => by
    rcases Nat.lt_or_ge xs.length m with hm | hm
    · rw [List.take_of_length_le (by omega)]; exact h
    · exact h.take m hm
  have l1 := h.l1; have l2 := h.l2; have l3 := h.l3
  refine ⟨tk _ h.r1, ?_, tk _ h.r2, ?_, tk _ h.r3, ?_, h.nm, fun t ht => h.tn t (List.mem_of_mem_take ht)⟩
  all_goals (simp only [cutS, List.length_take]; omega)

set_option maxRecDepth 100000 in
set_option maxHeartbeats 4000000 in
theorem cut_any (p : Pol) (n : Nat) (hn : n ≤ total p) (A1 : Option Addr) (c1 : Nat) (A2 : Option Addr) (c2 : Nat) (A3 : Option Addr) (c3 : Nat) (w : World) (hp : PolR w p A1 c1 A2 c2 A3 c3) :
    Calls Tryd.prog 21 #[.agg #[.string p.name, .slice A1 p.types.length c1, .slice A2 p.rules.length c2, .slice A3 p.quorums.length c3], .int .i64 n] w fun e w' => e = .returned (.agg #[.string (cutS p n).name, .slice A1 (cutS p n).types.length c1, .slice A2 (cutS p n).rules.length c2, .slice A3 (cutS p n).quorums.length c3]) ∧ Below w.heap.size w w' := by
  have l1 := hp.l1; have l2 := hp.l2; have l3 := hp.l3
  have b1 := hp.r1.1; have b2 := hp.r2.1; have b3 := hp.r3.1
  clear hp
  unfold total at hn
  unfold cutS
  dsimp only
  simp only [List.length_take]
  generalize p.types.length = n1 at *
  generalize p.rules.length = n2 at *
  generalize p.quorums.length = n3 at *
  generalize p.name = pn at *
  have hA : ∀ v0 v1 v2 v3, Below w.heap.size w ((w.alloc (.cells #[.string pn, .slice A1 n1 c1, .slice A2 n2 c2, .slice A3 n3 c3] 26)).alloc (.cells #[v0, v1, v2, v3] 26)) := fun _ _ _ _ => ((Below.refl _ _).alloc (Nat.le_refl _) _).alloc (by simp) _
  have HA := Lib.hid hA
  clear hA
  obtain ⟨t, ht⟩ : ∃ t, min n n1 = t := ⟨_, rfl⟩
  obtain ⟨s1, hs1⟩ : ∃ s1, n - n1 = s1 := ⟨_, rfl⟩
  obtain ⟨r, hr⟩ : ∃ r, min s1 n2 = r := ⟨_, rfl⟩
  obtain ⟨s2, hs2⟩ : ∃ s2, s1 - n2 = s2 := ⟨_, rfl⟩
  obtain ⟨q, hq⟩ : ∃ q, min s2 n3 = q := ⟨_, rfl⟩
  rw [ht, hs1, hr, hs2, hq]
  have z1 : min (n : Int) (n1 : Int) = (t : Int) := by omega
  have z2 : (n : Int) - (t : Int) = (s1 : Int) := by omega
  have z3 : min (s1 : Int) (n2 : Int) = (r : Int) := by omega
  have z4 : (s1 : Int) - (r : Int) = (s2 : Int) := by omega
  have z5 : min (s2 : Int) (n3 : Int) = (q : Int) := by omega
  have y1 : (t : Int) ≤ (c1 : Int) := by omega
  have y2 : (r : Int) ≤ (c2 : Int) := by omega
  have y3 : (q : Int) ≤ (c3 : Int) := by omega
  have x1 : (0 : Int) ≤ (t : Int) := by omega
  have x2 : (0 : Int) ≤ (r : Int) := by omega
  have x3 : (0 : Int) ≤ (q : Int) := by omega
  have x4 : (s1 : Int) ≤ 9000000000000000 := by omega
  have x5 : (s2 : Int) ≤ 9000000000000000 := by omega
  have x6 : (0 : Int) ≤ (s1 : Int) := by omega
  have x7 : (0 : Int) ≤ (s2 : Int) := by omega
  have w1 : IntKind.i64.wrap ((n : Int) - (t : Int)) = (s1 : Int) := by rw [IntKind.wrap_i64]; omega
  have w2 : IntKind.i64.wrap ((s1 : Int) - (r : Int)) = (s2 : Int) := by rw [IntKind.wrap_i64]; omega
  have w3 : IntKind.i64.wrap (s1 : Int) = (s1 : Int) := by rw [IntKind.wrap_i64]; omega
  have w4 : IntKind.i64.wrap (s2 : Int) = (s2 : Int) := by rw [IntKind.wrap_i64]; omega
  clear ht hs1 hr hs2 hq
  go_enter Tryd.func21, Tryd.ntmps21
  go_wp2_with fail
  have HS : (∀ v0 v1 v2 v3 u0 u1 u2 u3 : Value, (((w.alloc (.cells #[v0, v1, v2, v3] 26)).alloc (.cells #[u0, u1, u2, u3] 26)).cell? ⟨w.heap.size, 0, none⟩ = some v0 ∧ ((w.alloc (.cells #[v0, v1, v2, v3] 26)).alloc (.cells #[u0, u1, u2, u3] 26)).cell? ⟨w.heap.size, 1, none⟩ = some v1 ∧ ((w.alloc (.cells #[v0, v1, v2, v3] 26)).alloc (.cells #[u0, u1, u2, u3] 26)).cell? ⟨w.heap.size, 2, none⟩ = some v2 ∧ ((w.alloc (.cells #[v0, v1, v2, v3] 26)).alloc (.cells #[u0, u1, u2, u3] 26)).cell? ⟨w.heap.size, 3, none⟩ = some v3) ∧ ((w.alloc (.cells #[v0, v1, v2, v3] 26)).alloc (.cells #[u0, u1, u2, u3] 26)).cell? ⟨w.heap.size + 1, 0, none⟩ = some u0 ∧ ((w.alloc (.cells #[v0, v1, v2, v3] 26)).alloc (.cells #[u0, u1, u2, u3] 26)).cell? ⟨w.heap.size + 1, 1, none⟩ = some u1 ∧ ((w.alloc (.cells #[v0, v1, v2, v3] 26)).alloc (.cells #[u0, u1, u2, u3] 26)).cell? ⟨w.heap.size + 1, 2, none⟩ = some u2 ∧ ((w.alloc (.cells #[v0, v1, v2, v3] 26)).alloc (.cells #[u0, u1, u2, u3] 26)).cell? ⟨w.heap.size + 1, 3, none⟩ = some u3 ∧ (∀ j, ((w.alloc (.cells #[v0, v1, v2, v3] 26)).alloc (.cells #[u0, u1, u2, u3] 26)).frozen? ⟨w.heap.size + 1, j, none⟩ = false)) := fun _ _ _ _ _ _ _ _ => ⟨⟨by simp [go_sem], by simp [go_sem], by simp [go_sem], by simp [go_sem]⟩, by simp [go_sem], by simp [go_sem], by simp [go_sem], by simp [go_sem], fun j => by simp [go_sem]⟩
  obtain ⟨⟨a0, a1, a2, a3⟩, u0, u1, u2, u3, uf⟩ := HS (.string pn) (.slice A1 n1 c1) (.slice A2 n2 c2) (.slice A3 n3 c3) (.string ByteArray.empty) (.slice none 0 0) (.slice none 0 0) (.slice none 0 0)
  have hbel := HA.out (.string ByteArray.empty) (.slice none 0 0) (.slice none 0 0) (.slice none 0 0)
  clear HS HA
  change Code.wp _ _ _ _ ((w.alloc (.cells #[.string pn, .slice A1 n1 c1, .slice A2 n2 c2, .slice A3 n3 c3] 26)).alloc (.cells #[.string ByteArray.empty, .slice none 0 0, .slice none 0 0, .slice none 0 0] 26))
  generalize ((w.alloc (.cells #[.string pn, .slice A1 n1 c1, .slice A2 n2 c2, .slice A3 n3 c3] 26)).alloc (.cells #[.string ByteArray.empty, .slice none 0 0, .slice none 0 0, .slice none 0 0] 26)) = W0 at *
  have HBEL := Lib.hid hbel
  clear hbel
  obtain ⟨b, hb⟩ : ∃ b, w.heap.size = b := ⟨_, rfl⟩
  rw [hb] at a0 a1 a2 a3 u0 u1 u2 u3 uf ⊢
  have HBB := Lib.hid hb
  clear hb
  go_region_held3 (fun W => W.cell? ⟨b, 0, none⟩ = some (.string pn) ∧ W.cell? ⟨b, 1, none⟩ = some (.slice A1 n1 c1) ∧ W.cell? ⟨b, 2, none⟩ = some (.slice A2 n2 c2) ∧ W.cell? ⟨b, 3, none⟩ = some (.slice A3 n3 c3)) (first | exact ⟨a0, a1, a2, a3⟩ | go_keep) (fail)
  go_wp2
  have hfz : ∀ (w1 w2 w3 : World), True := fun _ _ _ => trivial
  clear hfz
  have HB2 := Lib.hid (((((HBEL.out.setCell (p := ⟨w.heap.size + 1, 0, none⟩) (by simp) (.string pn)).setCell (p := ⟨w.heap.size + 1, 1, none⟩) (by simp) (.slice A1 t c1)).setCell (p := ⟨w.heap.size + 1, 2, none⟩) (by simp) (.slice A2 r c2)).setCell (p := ⟨w.heap.size + 1, 3, none⟩) (by simp) (.slice A3 q c3)).drew)
  rw [HBB.out] at HB2
  obtain ⟨q0, q1, q2, q3⟩ := cells_four W0 (b + 1) _ _ _ _ (.string pn) (.slice A1 t c1) (.slice A2 r c2) (.slice A3 q c3) u0 u1 u2 u3
  generalize ((((W0.setCell ⟨b + 1, 0, none⟩ (.string pn)).setCell ⟨b + 1, 1, none⟩ (.slice A1 t c1)).setCell ⟨b + 1, 2, none⟩ (.slice A2 r c2)).setCell ⟨b + 1, 3, none⟩ (.slice A3 q c3)) = W4 at *
  have q0' : W4.drew.cell? ⟨b + 1, 0, none⟩ = some (.string pn) := q0
  have q1' : W4.drew.cell? ⟨b + 1, 1, none⟩ = some (.slice A1 t c1) := q1
  have q2' : W4.drew.cell? ⟨b + 1, 2, none⟩ = some (.slice A2 r c2) := q2
  have q3' : W4.drew.cell? ⟨b + 1, 3, none⟩ = some (.slice A3 q c3) := q3
  refine bodyPost_ret (by simp [results, Tryd.results21, go_sem, q0', q1', q2', q3']; try rfl) rfl ?_
  refine ⟨rfl, ?_⟩
  rw [HBB.out]
  exact HB2.out
end Go.Proofs.YtemkffejekgmfaaDoor
