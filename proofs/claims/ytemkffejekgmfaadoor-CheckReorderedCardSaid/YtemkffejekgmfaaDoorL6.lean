/- Plain law of the normal form and of validity. -/
import Derived.Test.YtemkffejekgmfaaDoorL5
import Derived.Test.YtemkffejekgmfaaDoorK9
namespace Go.Proofs.YtemkffejekgmfaaDoor

theorem insR_perm {α : Type} [Inhabited α] (lt : α → α → Bool) (l : List α) (x : α) : (insR lt l x).Perm (l ++ [x]) := by
  unfold insR
  generalize scanAt lt x l l.length = s
  have h : (l.take s ++ [x] ++ l.drop s).Perm (l.take s ++ l.drop s ++ [x]) := by
    rw [List.append_assoc, List.append_assoc]
    exact List.Perm.append_left _ List.perm_append_comm
  rwa [List.take_append_drop] at h
theorem sortR_perm {α : Type} [Inhabited α] (lt : α → α → Bool) (xs : List α) : (sortR lt xs).Perm xs := by
  unfold sortR
  have : ∀ (ys acc : List α), (ys.foldl (insR lt) acc).Perm (acc ++ ys) := by
    intro ys
    induction ys with
    | nil => intro acc; simp
    | cons y ys ih =>
      intro acc
      rw [List.foldl_cons]
      refine (ih _).trans ?_
      have := (insR_perm lt acc y).append_right ys
      simpa using this
  simpa using this xs []
theorem eqvB_trans {α : Type} {lt : α → α → Bool} (H : Ord lt) {k a b : α} (h1 : eqvB lt k a = true) (h2 : eqvB lt k b = true) : eqvB lt a b = true := by
  simp [eqvB] at h1 h2 ⊢
  exact ⟨H.neg a k b h1.2 h2.1, H.neg b k a h2.2 h1.1⟩
/-- Equal elements being one, the order of what is sorted does not matter. -/
theorem sort_perm_eq {α : Type} [Inhabited α] {lt : α → α → Bool} (H : Ord lt) {xs ys : List α} (hp : xs.Perm ys) (hd : ∀ a ∈ xs, ∀ b ∈ xs, eqvB lt a b = true → a = b) : sortR lt xs = sortR lt ys := by
  have s1 := sortR_stab H xs
  have s2 := sortR_stab H ys
  refine Stab.uniq H _ _ s1.srt s2.srt (fun k => ?_)
  rw [s1.flt, s2.flt]
  have hf := hp.filter (eqvB lt k)
  rcases hx : xs.filter (eqvB lt k) with _ | ⟨a, r⟩
  · rw [hx] at hf
    exact (List.nil_perm.1 hf).symm
  · have ha : ∀ b ∈ xs.filter (eqvB lt k), b = a := by
      intro b hb
      have ha' : a ∈ xs.filter (eqvB lt k) := by rw [hx]; simp
      rw [List.mem_filter] at hb ha'
      exact (hd a ha'.1 b hb.1 (eqvB_trans H ha'.2 hb.2)).symm
    have e : xs.filter (eqvB lt k) = List.replicate (xs.filter (eqvB lt k)).length a := List.eq_replicate_iff.2 ⟨rfl, ha⟩
    rw [e] at hf
    have := List.perm_replicate.1 hf.symm
    rw [this, ← hx, e]
    simp
theorem eqv_Rl (a b : Rl) (h : eqvB ltRl a b = true) : a = b := by
  obtain ⟨a1, a2, a3⟩ := a
  obtain ⟨b1, b2, b3⟩ := b
  simp only [eqvB, Bool.and_eq_true, Bool.not_eq_true'] at h
  obtain ⟨h1, h2⟩ := h
  unfold ltRl at h1 h2
  dsimp only at h1 h2
  by_cases e1 : a1 = b1
  · subst e1
    by_cases e2 : a2 = b2
    · subst e2
      simp at h1 h2
      congr 1; omega
    · exfalso
      simp [e2, Ne.symm e2] at h1 h2
      omega
  · exfalso
    simp [e1, Ne.symm e1] at h1 h2
    omega
theorem Ord_Rl : Ord ltRl := ltC_Rl_eq ▸ ord_Rl
theorem Ord_Qm : Ord ltQm := ltC_Qm_eq ▸ ord_Qm
theorem sort_rules {a b : List Rl} (h : a.Perm b) : sortR ltRl a = sortR ltRl b := sort_perm_eq Ord_Rl h (fun x _ y _ e => eqv_Rl x y e)
theorem eqv_Qm (a b : Qm) (h : eqvB ltQm a b = true) : a.cmd = b.cmd := by
  simp [eqvB, ltQm] at h
  omega
theorem sort_quorums {a b : List Qm} (h : a.Perm b) (hd : (a.map (·.cmd)).Nodup) : sortR ltQm a = sortR ltQm b :=
  sort_perm_eq Ord_Qm h (fun x hx y hy e => by
    have e := eqv_Qm x y e
    have hp : a.Pairwise (fun x y => x.cmd ≠ y.cmd) := by simpa [List.Nodup, List.pairwise_map] using hd
    clear h hd
    induction a with
    | nil => cases hx
    | cons z a ih =>
      rw [List.pairwise_cons] at hp
      rcases List.mem_cons.1 hx with hx' | hx'
      · rcases List.mem_cons.1 hy with hy' | hy'
        · rw [hx', hy']
        · rw [hx'] at e; exact absurd e (hp.1 y hy')
      · rcases List.mem_cons.1 hy with hy' | hy'
        · rw [hy'] at e; exact absurd e.symm (hp.1 x hx')
        · exact ih hx' hy' hp.2)

theorem normS_norm (p : Pol) : normS (normS p) = normS p := by
  unfold normS
  dsimp only
  rw [sortR_srt Ord_Rl (sortR_stab Ord_Rl p.rules).srt, sortR_srt Ord_Qm (sortR_stab Ord_Qm p.quorums).srt]

/-! ### validity -/
def ruleOk (t : Int) (r : Rl) : Bool := !([(⟨r.kind, 1, 5⟩ : Wn), ⟨r.a, 0, t - 1⟩, ⟨r.b, 0, t - 1⟩].any wrongB)
def quorumOk (q : Qm) : Bool := !([(⟨q.cmd, 1, 27⟩ : Wn), ⟨q.cnt, 1, 16⟩, ⟨q.delay, 0, 1099511627776⟩, ⟨q.valid, q.delay, 1099511627776⟩, ⟨q.uses, 1, 1048576⟩].any wrongB) && !decide (q.cmd ∈ ([23, 24, 25] : List Int))
theorem nodup_take {α : Type} [Inhabited α] (l : List α) : l.Nodup ↔ ∀ k, k < l.length → l[k]! ∉ l.take k := by
  rw [List.nodup_iff_pairwise_ne, List.pairwise_iff_getElem]
  constructor
  · intro h k hk hm
    rw [getElem!_pos l k hk] at hm
    obtain ⟨i, hi, e⟩ := List.mem_take_iff_getElem.1 hm
    exact h i k (by omega) hk (by omega) e
  · intro h i j hi hj hij e
    refine h j hj ?_
    rw [getElem!_pos l j hj]
    exact List.mem_take_iff_getElem.2 ⟨i, by omega, e⟩
theorem all_get {α : Type} [Inhabited α] (l : List α) (P : α → Prop) : (∀ k, k < l.length → P l[k]!) ↔ ∀ x ∈ l, P x := by
  constructor
  · intro h x hx
    obtain ⟨i, hi, rfl⟩ := List.getElem_of_mem hx
    have := h i hi
    rwa [getElem!_pos l i hi] at this
  · intro h k hk
    rw [getElem!_pos l k hk]
    exact h _ (List.getElem_mem hk)
theorem ruleErr_zero (l : List Rl) (k : Nat) (t : Int) : ruleErr l k t = 0 ↔ k < 256 ∧ ruleOk t l[k]! = true ∧ l[k]! ∉ l.take k := by
  unfold ruleErr errR ruleOk
  generalize List.any _ wrongB = w
  cases w <;> by_cases h1 : 256 ≤ k <;> by_cases h2 : l[k]! ∈ l.take k <;> simp [h1, h2] <;> omega
theorem quorumErr_zero (l : List Qm) (k : Nat) : quorumErr l k = 0 ↔ quorumOk l[k]! = true ∧ l[k]!.cmd ∉ (l.take k).map (·.cmd) := by
  unfold quorumErr errQ quorumOk
  generalize List.any _ wrongB = w
  have e : (l.take k).any (fun o => decide (o.cmd = l[k]!.cmd)) = decide (l[k]!.cmd ∈ (l.take k).map (·.cmd)) := by
    rw [Bool.eq_iff_iff, List.any_eq_true, decide_eq_true_iff, List.mem_map]
    exact ⟨fun ⟨x, h1, h2⟩ => ⟨x, h1, of_decide_eq_true h2⟩, fun ⟨x, h1, h2⟩ => ⟨x, h1, decide_eq_true h2⟩⟩
  rw [e]
  generalize hd : decide (l[k]!.cmd ∈ (l.take k).map (·.cmd)) = d
  generalize hc : decide (l[k]!.cmd ∈ ([23, 24, 25] : List Int)) = c
  have hd' : (l[k]!.cmd ∉ (l.take k).map (·.cmd)) ↔ d = false := by rw [← hd]; simp
  rw [hd']
  cases w <;> cases c <;> cases d <;> simp
theorem rules_zero (l : List Rl) (t : Int) : (∀ k, k < l.length → ruleErr l k t = 0) ↔ l.length ≤ 256 ∧ (∀ r ∈ l, ruleOk t r = true) ∧ l.Nodup := by
  rw [nodup_take, ← all_get l (fun r => ruleOk t r = true)]
  constructor
  · intro h
    refine ⟨?_, fun k hk => ((ruleErr_zero l k t).1 (h k hk)).2.1, fun k hk => ((ruleErr_zero l k t).1 (h k hk)).2.2⟩
    rcases Nat.eq_zero_or_pos l.length with h0 | h0
    · omega
    · have := ((ruleErr_zero l (l.length - 1) t).1 (h _ (by omega))).1; omega
  · rintro ⟨h1, h2, h3⟩ k hk
    exact (ruleErr_zero l k t).2 ⟨by omega, h2 k hk, h3 k hk⟩
theorem map_get! {l : List Qm} {k : Nat} (h : k < l.length) : (l.map (·.cmd))[k]! = l[k]!.cmd := by
  rw [getElem!_pos _ k (by simpa using h), getElem!_pos _ k h]; simp
theorem quorums_zero (l : List Qm) : (∀ k, k < l.length → quorumErr l k = 0) ↔ (∀ q ∈ l, quorumOk q = true) ∧ (l.map (·.cmd)).Nodup := by
  rw [nodup_take, ← all_get l (fun q => quorumOk q = true)]
  constructor
  · intro h
    refine ⟨fun k hk => ((quorumErr_zero l k).1 (h k hk)).1, fun k hk => ?_⟩
    rw [List.length_map] at hk
    rw [map_get! hk, ← List.map_take]
    exact ((quorumErr_zero l k).1 (h k hk)).2
  · rintro ⟨h1, h2⟩ k hk
    refine (quorumErr_zero l k).2 ⟨h1 k hk, ?_⟩
    have := h2 k (by simpa using hk)
    rwa [map_get! hk, ← List.map_take] at this
theorem valid_items (p : Pol) : (checkS p).2 = 0 ↔ nameB p.name = true ∧ ∀ j, j < total p → itemErr p j = 0 := by
  rcases checkS_cases p with ⟨h, e⟩ | ⟨h, e, h0⟩ | ⟨h, k, hk, e, hn, _⟩
  · rw [e, h]; simp
  · rw [e]; simp [h]; exact h0
  · rw [e]
    constructor
    · intro h'; exact absurd h' hn
    · rintro ⟨_, h'⟩; exact absurd (h' k hk) hn
theorem valid_iff (p : Pol) : (checkS p).2 = 0 ↔ nameB p.name = true ∧ (∀ k, k < p.types.length → typeErr p.types k = 0) ∧
    (p.rules.length ≤ 256 ∧ (∀ r ∈ p.rules, ruleOk p.types.length r = true) ∧ p.rules.Nodup) ∧ ((∀ q ∈ p.quorums, quorumOk q = true) ∧ (p.quorums.map (·.cmd)).Nodup) := by
  rw [valid_items, ← rules_zero, ← quorums_zero]
  refine and_congr Iff.rfl ?_
  unfold total itemErr
  constructor
  · intro h
    refine ⟨fun k hk => ?_, fun k hk => ?_, fun k hk => ?_⟩
    · have := h k (by omega)
      rwa [if_pos hk] at this
    · have := h (p.types.length + k) (by omega)
      rwa [if_neg (by omega), if_pos (by omega), Nat.add_sub_cancel_left] at this
    · have := h (p.types.length + p.rules.length + k) (by omega)
      rwa [if_neg (by omega), if_neg (by omega), show p.types.length + p.rules.length + k - p.types.length - p.rules.length = k by omega] at this
  · rintro ⟨h1, h2, h3⟩ j hj
    split
    · exact h1 j (by assumption)
    · split
      · exact h2 _ (by omega)
      · exact h3 _ (by omega)
/-- Validity does not hang on the order of the rules and the quorums. -/
theorem valid_perm {p q : Pol} (hn : q.name = p.name) (ht : q.types = p.types) (hr : q.rules.Perm p.rules) (hq : q.quorums.Perm p.quorums) : ((checkS q).2 = 0) ↔ ((checkS p).2 = 0) := by
  rw [valid_iff, valid_iff, hn, ht, hr.length_eq, hr.nodup_iff, (hq.map (·.cmd)).nodup_iff]
  have e1 : (∀ r ∈ q.rules, ruleOk p.types.length r = true) ↔ ∀ r ∈ p.rules, ruleOk p.types.length r = true := ⟨fun h r m => h r (hr.mem_iff.2 m), fun h r m => h r (hr.mem_iff.1 m)⟩
  have e2 : (∀ x ∈ q.quorums, quorumOk x = true) ↔ ∀ x ∈ p.quorums, quorumOk x = true := ⟨fun h r m => h r (hq.mem_iff.2 m), fun h r m => h r (hq.mem_iff.1 m)⟩
  rw [e1, e2]
theorem valid_norm (p : Pol) : ((checkS (normS p)).2 == 0) = ((checkS p).2 == 0) := by
  have := valid_perm (p := p) (q := normS p) rfl rfl (sortR_perm _ _) (sortR_perm _ _)
  rw [Bool.eq_iff_iff]
  simpa using this
/-- The normal forms of two arrangements of a valid policy. -/
theorem norm_perm {p q : Pol} (hv : (checkS p).2 = 0) (hn : q.name = p.name) (ht : q.types = p.types) (hr : q.rules.Perm p.rules) (hq : q.quorums.Perm p.quorums) : normS p = normS q := by
  have h := (valid_iff p).1 hv
  unfold normS
  rw [hn, ht, sort_rules hr, sort_quorums hq.symm h.2.2.2.2]
end Go.Proofs.YtemkffejekgmfaaDoor
