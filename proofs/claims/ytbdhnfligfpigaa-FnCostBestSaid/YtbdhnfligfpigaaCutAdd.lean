/- More plain laws of cuts (no program in sight): dearer places, the first of the best cuts, how many cuts there are. No condition. -/
import Derived.Test.YtbdhnfligfpigaaCutMore
namespace Go.Proofs.Ytbdhnfligfpigaa

section
variable {c d cuts : List Int} {lo hi lo' hi' : Int} {k a b : Nat}
theorem allowed_sig (hl : d.length = c.length) (hd : sig d = true) (h : allowed c lo hi cuts = true) : allowed d lo hi cuts = true := by
  rw [allowed_iff] at h ⊢
  rw [hl]; exact ⟨hd, h.2⟩
theorem allowed_sg (h : allowed c lo hi cuts = true) : sig c = true ∧ dstOk lo hi = true := ⟨(allowed_iff.1 h).1, (allowed_iff.1 h).2.1⟩
theorem costV_yes (h : allowed c lo hi cuts = true) : costV c lo hi cuts = costOf c cuts := by unfold costV; rw [if_pos h]
theorem costV_no (h : allowed c lo hi cuts = false) : costV c lo hi cuts = -1 := by unfold costV; rw [h]; rfl

/-! ## one place dearer -/
def inc (c : List Int) (k : Nat) : List Int := c.set k (gI c k + 1)
theorem inc_len (c : List Int) (k : Nat) : (inc c k).length = c.length := by simp [inc]
theorem inc_gI (hk : k < c.length) (j : Nat) : gI (inc c k) j = if j = k then gI c k + 1 else gI c j := gI_set c k j _ hk
theorem inc_sig (hk : k < c.length) (hs : sig c = true) : sig (inc c k) = decide (gI c k < 1000) := by
  obtain ⟨_, n1, n2⟩ := (sig_iff c).1 hs
  by_cases h : gI c k < 1000
  · rw [decide_eq_true h]
    refine (sig_iff _).2 ⟨fun j hj => ?_, by rw [inc_len]; exact n1, by rw [inc_len]; exact n2⟩
    have h1 := sig_nonneg hs j
    have h2 := sig_nonneg hs k
    rw [inc_gI hk]; split <;> omega
  · rw [decide_eq_false h]
    cases h2 : sig (inc c k) with
    | false => rfl
    | true => have := sig_nonneg h2 k; rw [inc_gI hk, if_pos rfl] at this; omega
theorem inc_cost (hk : k < c.length) (hlo : 1 ≤ lo) : ∀ (cuts : List Int) (last : Int), -1 ≤ last → al lo hi last cuts = true →
    costOf c cuts ≤ costOf (inc c k) cuts ∧ costOf (inc c k) cuts ≤ costOf c cuts + (if (k : Int) ≤ last then 0 else 1)
  | [], last, _, _ => by simp only [costOf]; split <;> omega
  | x :: xs, last, hl, h => by
    simp only [al, Bool.and_eq_true, decide_eq_true_eq] at h
    obtain ⟨i1, i2⟩ := inc_cost hk hlo xs x (by omega) h.2
    rw [costOf, costOf, inc_gI hk]
    by_cases e : x.toNat = k
    · rw [if_pos (by omega)] at i2
      rw [if_pos e, e, if_neg (by omega)]; omega
    · rw [if_neg e]
      split at i2 <;> split <;> omega
theorem best_more (h : bestOk c lo hi = true) (hk : k < c.length) : (bestOk (inc c k) lo hi = false ∧ gI c k = 1000) ∨
    (bestOk (inc c k) lo hi = true ∧ costV c lo hi (bestC c lo hi) ≤ costV (inc c k) lo hi (bestC (inc c k) lo hi) ∧ costV (inc c k) lo hi (bestC (inc c k) lo hi) ≤ costV c lo hi (bestC c lo hi) + 1) := by
  obtain ⟨g1, _⟩ := best_allowed h
  obtain ⟨hs, hd⟩ := allowed_sg g1
  have hsi := inc_sig hk hs
  by_cases h1 : gI c k < 1000
  · rw [decide_eq_true h1] at hsi
    have a1 := allowed_sig (inc_len c k) hsi g1
    obtain ⟨b1, b2⟩ := best_min a1
    obtain ⟨f1, _⟩ := best_allowed b1
    have a2 := allowed_sig (inc_len c k).symm hs f1
    obtain ⟨_, b3⟩ := best_min a2
    have hlo := (dst_parts hd).1
    have c1 := inc_cost hk hlo _ _ (by omega) (allowed_iff.1 g1).2.2.1
    have c2 := inc_cost hk hlo _ _ (by omega) (allowed_iff.1 f1).2.2.1
    rw [if_neg (by omega)] at c1 c2
    rw [costV_yes f1] at b2 ⊢
    rw [costV_yes g1] at b3 ⊢
    exact .inr ⟨b1, by omega, by omega⟩
  · rw [decide_eq_false h1] at hsi
    have := sig_nonneg hs k
    refine .inl ⟨by unfold bestOk; rw [hsi]; rfl, by omega⟩

/-! ## all places dearer by one -/
def incs (c : List Int) : List Int := c.map (· + 1)
theorem incs_len (c : List Int) : (incs c).length = c.length := by simp [incs]
theorem incs_gI (hk : k < c.length) : gI (incs c) k = gI c k + 1 := by rw [gI_lt (by rw [incs_len]; exact hk), gI_lt hk]; simp [incs]
theorem incs_take (hk : k < c.length) : incs (c.take (k + 1)) = incs (c.take k) ++ [gI c k + 1] := by
  unfold incs
  rw [List.take_succ_eq_append_getElem hk, List.map_append, gI_lt hk]; rfl
theorem cost_incs' : ∀ (cuts : List Int), (∀ x ∈ cuts, 0 ≤ x ∧ x < c.length) → costOf (incs c) cuts = costOf c cuts + cuts.length
  | [], _ => by simp [costOf]
  | x :: xs, h => by
    have h0 := h x (by simp)
    rw [costOf, costOf, cost_incs' xs (fun y hy => h y (by simp [hy])), incs_gI (by omega), List.length_cons]; omega
theorem allowed_mem (h : allowed c lo hi cuts = true) : ∀ x ∈ cuts, 0 ≤ x ∧ x < c.length := fun x hx => by
  obtain ⟨i, hi, rfl⟩ := List.getElem_of_mem hx
  have := allowed_at h hi
  rwa [gI_lt hi] at this
theorem cost_incs (h : allowed c lo hi cuts = true) : costV (incs c) lo hi cuts = costOf c cuts + cuts.length ∨ costV (incs c) lo hi cuts = -1 := by
  cases h2 : allowed (incs c) lo hi cuts with
  | false => exact .inr (costV_no h2)
  | true => exact .inl (by rw [costV_yes h2]; exact cost_incs' cuts (allowed_mem h))

/-! ## the first of the best cuts -/
def lexL : List Int → List Int → Bool
  | [], _ => true
  | _ :: _, [] => true
  | x :: xs, y :: ys => if x = y then lexL xs ys else decide (x < y)
theorem lexL_nil (l : List Int) : lexL l [] = true := by cases l <;> rfl
theorem lex_path (ha : 1 ≤ a) (hc : ∀ k, k < c.length → 0 ≤ gI c k) : ∀ f (cuts : List Int) (k : Nat), k ≤ c.length → al a b ((k : Int) - 1) cuts = true → lastOf ((k : Int) - 1) cuts = (c.length : Int) - 1 →
    costOf c cuts = rs a b c k → lexL (bcF a b c f k) cuts = true
  | 0, _, _, _, _, _, _ => rfl
  | f + 1, [], _, _, _, _, _ => lexL_nil _
  | f + 1, x :: xs, k, hk, h, hl, hcost => by
    by_cases hlt : k < c.length
    · rw [bcF, if_pos hlt]
      simp only [al, Bool.and_eq_true, decide_eq_true_eq] at h
      obtain ⟨⟨x1, x2⟩, x3⟩ := h
      rw [lastOf] at hl
      have hx := al_last (by omega) xs x x3
      obtain ⟨t, rfl⟩ : ∃ t : Nat, x = (t : Int) - 1 := ⟨(x + 1).toNat, by omega⟩
      obtain ⟨i1, i2⟩ := al_min ha hc xs t (by omega) x3 hl
      rw [costOf, show ((t : Int) - 1).toNat = t - 1 by omega] at hcost
      rcases rs_cases (b := b) ha hc k hlt with ⟨_, _, h⟩ | ⟨h1, _, h3, h4, h5, h6, h7⟩
      · have := h t (by omega) (by omega) (by omega); omega
      · rw [lexL]
        by_cases e : nx a b c k = t
        · rw [if_pos (by omega), e]
          rw [e] at h5
          exact lex_path ha hc f xs t (by omega) x3 hl (by omega)
        · rw [if_neg (by omega)]
          refine decide_eq_true ?_
          by_cases e2 : t < nx a b c k
          · have := h7 t (by omega) e2 i1; omega
          · omega
    · rw [bcF, if_neg hlt]; rfl
theorem best_lex (h : allowed c lo hi cuts = true) (he : costOf c cuts = costV c lo hi (bestC c lo hi)) : lexL (bestC c lo hi) cuts = true := by
  obtain ⟨hb, _⟩ := best_min h
  obtain ⟨hs, hd, h3, h4⟩ := allowed_iff.1 h
  obtain ⟨a, b, rfl, rfl, d1, d2, d3⟩ := nat_of_dst hd
  rw [(best_allowed hb).2.1, Int.toNat_natCast, Int.toNat_natCast] at he
  rw [bestC_nat hb]
  exact lex_path d1 (fun k _ => (sig_nonneg hs k).1) _ cuts 0 (by omega) h3 h4 he
theorem drop_two {l m : List Int} (h1 : k < l.length) (h2 : k < m.length) : lexL (l.drop k) (m.drop k) = if gI l k = gI m k then lexL (l.drop (k + 1)) (m.drop (k + 1)) else decide (gI l k < gI m k) := by
  rw [drop_gI h1, drop_gI h2, lexL]
theorem drop_done {l m : List Int} (h : l.length ≤ k ∨ m.length ≤ k) : lexL (l.drop k) (m.drop k) = true := by
  rcases h with h | h
  · rw [List.drop_eq_nil_of_le h]; cases m.drop k <;> rfl
  · rw [List.drop_eq_nil_of_le h]; exact lexL_nil _

/-! ## other limits, other lists -/
theorem al_more (h1 : lo' ≤ lo) (h2 : hi ≤ hi') : ∀ (cuts : List Int) (last : Int), al lo hi last cuts = true → al lo' hi' last cuts = true
  | [], _, _ => rfl
  | x :: xs, last, h => by
    simp only [al, Bool.and_eq_true, decide_eq_true_eq] at h ⊢
    exact ⟨⟨by omega, by omega⟩, al_more h1 h2 xs x h.2⟩
theorem allowed_free (h : allowed c lo hi cuts = true) : allowed c 1 16 cuts = true := by
  obtain ⟨h1, h2, h3, h4⟩ := allowed_iff.1 h
  have := dst_parts h2
  exact allowed_iff.2 ⟨h1, rfl, al_more this.1 this.2.2 _ _ h3, h4⟩
theorem lastOf_snoc (y : Int) : ∀ (xs : List Int) (last : Int), lastOf last (xs ++ [y]) = y
  | [], _ => rfl
  | x :: xs, _ => by rw [List.cons_append, lastOf]; exact lastOf_snoc y xs x
theorem allowed_past (c : List Int) (lo hi : Int) (cuts : List Int) : allowed c lo hi (cuts ++ [(c.length : Int)]) = false :=
  allowed_no fun h => by have := h.2.2.2; rw [lastOf_snoc] at this; omega
theorem allowed_last (h : allowed c lo hi cuts = true) : 0 < cuts.length ∧ gI cuts (cuts.length - 1) = (c.length : Int) - 1 := by
  obtain ⟨h1, _, _, h4⟩ := allowed_iff.1 h
  have hn := ((sig_iff c).1 h1).2.1
  have h0 : 0 < cuts.length := by
    cases cuts with
    | nil => rw [lastOf] at h4; omega
    | cons x xs => simp
  exact ⟨h0, by rw [← lastOf_get cuts (-1) h0]; exact h4⟩
def each (n : Nat) : List Int := (List.range n).map fun (i : Nat) => (i : Int)
theorem each_len (n : Nat) : (each n).length = n := by simp [each]
theorem each_succ (n : Nat) : each (n + 1) = each n ++ [(n : Int)] := by simp [each, List.range_succ]
theorem al_each : ∀ (m k : Nat), al 1 1 ((k : Int) - 1) ((List.range' k m).map fun (i : Nat) => (i : Int)) = true ∧ lastOf ((k : Int) - 1) ((List.range' k m).map fun (i : Nat) => (i : Int)) = ((k + m : Nat) : Int) - 1
  | 0, k => ⟨rfl, by simp [lastOf]⟩
  | m + 1, k => by
    obtain ⟨i1, i2⟩ := al_each m (k + 1)
    have e : ((k + 1 : Nat) : Int) - 1 = (k : Int) := by omega
    rw [e] at i1 i2
    rw [List.range'_succ, List.map_cons, al, lastOf]
    refine ⟨?_, by rw [i2]; omega⟩
    rw [i1, decide_eq_true (show (k : Int) - 1 + 1 ≤ k by omega), decide_eq_true (show (k : Int) ≤ (k : Int) - 1 + 1 by omega)]; rfl
theorem allowed_each (hs : sig c = true) : allowed c 1 1 (each c.length) = true := by
  obtain ⟨i1, i2⟩ := al_each c.length 0
  rw [← List.range_eq_range'] at i1 i2
  refine allowed_iff.2 ⟨hs, rfl, i1, i2.trans (by omega)⟩
theorem allowed_one (hs : sig c = true) : allowed c c.length c.length [(c.length : Int) - 1] = true := by
  obtain ⟨_, n1, n2⟩ := (sig_iff c).1 hs
  refine allowed_iff.2 ⟨hs, ?_, ?_, rfl⟩
  · simp [dstOk]; omega
  · simp [al]; omega
theorem al_len : ∀ (cuts : List Int) (last : Int), al lo hi last cuts = true → last + lo * cuts.length ≤ lastOf last cuts ∧ lastOf last cuts ≤ last + hi * cuts.length
  | [], _, _ => by simp [lastOf]
  | x :: xs, last, h => by
    simp only [al, Bool.and_eq_true, decide_eq_true_eq] at h
    obtain ⟨i1, i2⟩ := al_len xs x h.2
    rw [lastOf, List.length_cons, Int.natCast_add, Int.mul_add, Int.mul_add]
    omega
theorem allowed_many (h : allowed c lo hi cuts = true) : lo * cuts.length ≤ c.length ∧ (c.length : Int) ≤ hi * cuts.length ∧ cuts.length ≤ c.length := by
  obtain ⟨h1, h2, h3, h4⟩ := allowed_iff.1 h
  obtain ⟨i1, i2⟩ := al_len cuts _ h3
  obtain ⟨j1, _⟩ := al_len cuts _ (al_more (dst_parts h2).1 (Int.le_refl hi) _ _ h3)
  exact ⟨by omega, by omega, by omega⟩
theorem allowed_years (h : allowed c lo hi cuts = true) : 1 ≤ manyV c.length lo hi ∧ ((c.length : Int) + hi - 1) / hi ≤ cuts.length ∧ (cuts.length : Int) ≤ (c.length : Int) / lo := by
  obtain ⟨e1, e2, _⟩ := allowed_many h
  have hd := dst_parts (allowed_sg h).2
  refine ⟨(best_allowed (best_min h).1).2.2.2.2, ?_, Int.le_ediv_of_mul_le (by omega) (by rw [Int.mul_comm]; exact e1)⟩
  have : ((c.length : Int) + hi - 1) / hi < cuts.length + 1 := Int.ediv_lt_of_lt_mul (by omega) (by rw [Int.add_mul, Int.mul_comm (cuts.length : Int)]; omega)
  omega
end
end Go.Proofs.Ytbdhnfligfpigaa
