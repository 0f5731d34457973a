/- Plain laws of matchings given as lists of partners (no program in sight): when a list is a matching, how many pairs it has, the best one, the other direction. No condition. -/
import Derived.Test.YtihkdbgnoncgnaaMatchLaw
namespace Go.Proofs.Ytihkdbgnoncgnaa

def mOk (t : Int) (ys : List Int) : List Int → List Int → Int → Bool
  | [], [], _ => true
  | x :: xs, m :: ms, last => if m = -1 then mOk t ys xs ms last else decide (last < m) && decide (m < ys.length) && lk t x (gI ys m.toNat) && mOk t ys xs ms m
  | _, _, _ => false
def prs : List Int → Nat
  | [] => 0
  | m :: ms => (if 0 ≤ m then 1 else 0) + prs ms
theorem gI_cons_succ (x : Int) (l : List Int) (k : Nat) : gI (x :: l) (k + 1) = gI l k := by simp [gI]
theorem gI_cons_zero (x : Int) (l : List Int) : gI (x :: l) 0 = x := by simp [gI]
theorem mOk_len {t : Int} {ys : List Int} : ∀ {xs ms : List Int} {last : Int}, mOk t ys xs ms last = true → ms.length = xs.length
  | [], [], _, _ => rfl
  | [], _ :: _, _, h => by simp [mOk] at h
  | _ :: _, [], _, h => by simp [mOk] at h
  | x :: xs, m :: ms, last, h => by
    simp only [mOk] at h
    split at h
    · have := mOk_len h; simp; omega
    · simp only [Bool.and_eq_true] at h
      have := mOk_len h.2; simp; omega
/-- One step of the list. -/
theorem mOk_at (t : Int) (ys xs ms : List Int) (last : Int) (i : Nat) (hx : i < xs.length) (hm : i < ms.length) :
    mOk t ys (xs.drop i) (ms.drop i) last = if gI ms i = -1 then mOk t ys (xs.drop (i + 1)) (ms.drop (i + 1)) last
      else decide (last < gI ms i) && decide (gI ms i < ys.length) && lk t (gI xs i) (gI ys (gI ms i).toNat) && mOk t ys (xs.drop (i + 1)) (ms.drop (i + 1)) (gI ms i) := by
  rw [drop_gI hx, drop_gI hm, mOk]
def MChar (t : Int) (ys xs ms : List Int) (last : Int) : Prop :=
  ms.length = xs.length ∧ (∀ i, i < xs.length → gI ms i = -1 ∨ (last < gI ms i ∧ gI ms i < ys.length ∧ lk t (gI xs i) (gI ys (gI ms i).toNat) = true)) ∧
    ∀ i j, i < j → j < xs.length → gI ms i ≠ -1 → gI ms j ≠ -1 → gI ms i < gI ms j
theorem mOk_iff (t : Int) (ys : List Int) : ∀ (xs ms : List Int) (last : Int), -1 ≤ last → (mOk t ys xs ms last = true ↔ MChar t ys xs ms last)
  | [], [], _, _ => by simp [mOk, MChar]
  | [], _ :: _, _, _ => by simp [mOk, MChar]
  | _ :: _, [], _, _ => by simp [mOk, MChar]
  | x :: xs, m :: ms, last, h0 => by
    rw [mOk]
    by_cases hm : m = -1
    · rw [if_pos hm, mOk_iff t ys xs ms last h0]
      constructor
      · rintro ⟨h1, h2, h3⟩
        refine ⟨by simp [h1], fun i hi => ?_, fun i j hij hj hi1 hj1 => ?_⟩
        · cases i with
          | zero => exact .inl hm
          | succ i => rw [gI_cons_succ, gI_cons_succ]; exact h2 i (by simpa using hi)
        · cases i with
          | zero => exact absurd hm hi1
          | succ i =>
            cases j with
            | zero => omega
            | succ j => rw [gI_cons_succ] at hi1 hj1; rw [gI_cons_succ, gI_cons_succ]; exact h3 i j (by omega) (by simpa using hj) hi1 hj1
      · rintro ⟨h1, h2, h3⟩
        refine ⟨by simpa using h1, fun i hi => ?_, fun i j hij hj hi1 hj1 => ?_⟩
        · have := h2 (i + 1) (by simp; omega); rwa [gI_cons_succ, gI_cons_succ] at this
        · have := h3 (i + 1) (j + 1) (by omega) (by simp; omega); rw [gI_cons_succ, gI_cons_succ] at this; exact this hi1 hj1
    · rw [if_neg hm]
      constructor
      · intro h
        simp only [Bool.and_eq_true, decide_eq_true_eq] at h
        obtain ⟨⟨⟨a1, a2⟩, a3⟩, a4⟩ := h
        obtain ⟨h1, h2, h3⟩ := (mOk_iff t ys xs ms m (by omega)).1 a4
        refine ⟨by simp [h1], fun i hi => ?_, fun i j hij hj hi1 hj1 => ?_⟩
        · cases i with
          | zero => exact .inr ⟨a1, a2, a3⟩
          | succ i =>
            rw [gI_cons_succ, gI_cons_succ]
            rcases h2 i (by simpa using hi) with h | ⟨b1, b2, b3⟩
            · exact .inl h
            · exact .inr ⟨by omega, b2, b3⟩
        · cases j with
          | zero => omega
          | succ j =>
            rw [gI_cons_succ] at hj1 ⊢
            cases i with
            | zero =>
              rcases h2 j (by simpa using hj) with h | ⟨b1, b2, b3⟩
              · exact absurd h hj1
              · exact b1
            | succ i => rw [gI_cons_succ] at hi1 ⊢; exact h3 i j (by omega) (by simpa using hj) hi1 hj1
      · rintro ⟨h1, h2, h3⟩
        have h0' := (h2 0 (by simp)).resolve_left hm
        rw [gI_cons_zero, gI_cons_zero] at h0'
        have h4 : mOk t ys xs ms m = true := (mOk_iff t ys xs ms m (by omega)).2 (by
          refine ⟨by simpa using h1, fun i hi => ?_, fun i j hij hj hi1 hj1 => ?_⟩
          · have := h2 (i + 1) (by simp; omega)
            rw [gI_cons_succ, gI_cons_succ] at this
            rcases this with h | ⟨b1, b2, b3⟩
            · exact .inl h
            · by_cases e : gI ms i = -1
              · exact .inl e
              · have h5 := h3 0 (i + 1) (by omega) (by simp; omega) hm (by rw [gI_cons_succ]; exact e)
                rw [gI_cons_succ] at h5
                exact .inr ⟨h5, b2, b3⟩
          · have := h3 (i + 1) (j + 1) (by omega) (by simp; omega); rw [gI_cons_succ, gI_cons_succ] at this; exact this hi1 hj1)
        simp only [Bool.and_eq_true, decide_eq_true_eq]
        exact ⟨⟨⟨h0'.1, h0'.2.1⟩, h0'.2.2⟩, h4⟩
/-- A list of partners is a matching with so many pairs. -/
theorem mOk_mt {t : Int} {ys : List Int} : ∀ {xs ms : List Int} {last : Nat}, mOk t ys xs ms ((last : Int) - 1) = true → Mt t xs (ys.drop last) (prs ms)
  | [], [], _, _ => .none _ _
  | [], _ :: _, _, h => by simp [mOk] at h
  | _ :: _, [], _, h => by simp [mOk] at h
  | x :: xs, m :: ms, last, h => by
    rw [mOk] at h
    by_cases hm : m = -1
    · rw [if_pos hm] at h
      have := mOk_mt h
      rw [prs, if_neg (by omega), Nat.zero_add]
      exact .left x this
    · rw [if_neg hm] at h
      simp only [Bool.and_eq_true, decide_eq_true_eq] at h
      obtain ⟨⟨⟨a1, a2⟩, a3⟩, a4⟩ := h
      obtain ⟨k, rfl⟩ := Int.eq_ofNat_of_zero_le (show 0 ≤ m by omega)
      have e : ((k : Nat) : Int) = ((k + 1 : Nat) : Int) - 1 := by omega
      rw [e] at a4
      have h1 := mOk_mt a4
      rw [Int.toNat_natCast] at a3
      have h2 := Mt.both a3 h1
      have hk : k < ys.length := by omega
      rw [← drop_gI hk] at h2
      rw [prs, if_pos (by omega), Nat.add_comm]
      have h3 : ys.drop last = (ys.drop last).take (k - last) ++ ys.drop k := by
        have := (List.take_append_drop (k - last) (ys.drop last)).symm
        rwa [List.drop_drop, show last + (k - last) = k by omega] at this
      rw [h3]
      exact h2.rightMany _
theorem mOk_le {t : Int} {ys xs ms : List Int} (h : mOk t ys xs ms (-1) = true) : prs ms ≤ mostL t xs ys := by
  have := mOk_mt (last := 0) (by simpa using h)
  exact mostL_max (by simpa using this)
theorem mOk_more {t s : Int} (hs : t ≤ s) (ys : List Int) : ∀ (xs ms : List Int) (last : Int), mOk t ys xs ms last = true → mOk s ys xs ms last = true
  | [], [], _, h => h
  | [], _ :: _, _, h => by simp [mOk] at h
  | _ :: _, [], _, h => by simp [mOk] at h
  | x :: xs, m :: ms, last, h => by
    rw [mOk] at h ⊢
    by_cases hm : m = -1
    · rw [if_pos hm] at h ⊢; exact mOk_more hs ys xs ms last h
    · rw [if_neg hm] at h ⊢
      simp only [Bool.and_eq_true] at h ⊢
      exact ⟨⟨h.1.1, lk_mono hs h.1.2⟩, mOk_more hs ys xs ms m h.2⟩
theorem mOk_none (t : Int) (ys : List Int) (last : Int) : ∀ xs : List Int, mOk t ys xs (List.replicate xs.length (-1)) last = true
  | [] => rfl
  | x :: xs => by rw [List.length_cons, List.replicate_succ, mOk, if_pos rfl]; exact mOk_none t ys last xs
theorem gI_set (l : List Int) (k j : Nat) (x : Int) (hk : k < l.length) : gI (l.set k x) j = if j = k then x else gI l j := by
  unfold gI
  rw [List.getD_eq_getElem?_getD, List.getElem?_set]
  by_cases e : k = j
  · subst e; simp [hk]
  · rw [if_neg e, if_neg (Ne.symm e), ← List.getD_eq_getElem?_getD]
theorem mOk_drop {t : Int} {ys xs ms : List Int} {last : Int} (h0 : -1 ≤ last) (h : mOk t ys xs ms last = true) (k : Nat) : mOk t ys xs (ms.set k (-1)) last = true := by
  rw [mOk_iff t ys _ _ _ h0] at h ⊢
  obtain ⟨h1, h2, h3⟩ := h
  by_cases hk : k < ms.length
  · refine ⟨by simpa using h1, fun i hi => ?_, fun i j hij hj hi1 hj1 => ?_⟩
    · rw [gI_set _ _ _ _ hk]
      split
      · exact .inl rfl
      · exact h2 i hi
    · rw [gI_set _ _ _ _ hk] at hi1 hj1
      rw [gI_set _ _ _ _ hk, gI_set _ _ _ _ hk]
      by_cases e1 : i = k
      · rw [if_pos e1] at hi1; exact absurd rfl hi1
      · by_cases e2 : j = k
        · rw [if_pos e2] at hj1; exact absurd rfl hj1
        · rw [if_neg e1] at hi1 ⊢
          rw [if_neg e2] at hj1 ⊢
          exact h3 i j hij hj hi1 hj1
  · rw [List.set_eq_of_length_le (by omega)]
    exact ⟨h1, h2, h3⟩
theorem prs_le (ms : List Int) : prs ms ≤ ms.length := by
  induction ms with
  | nil => exact Nat.le_refl _
  | cons m ms ih => rw [prs, List.length_cons]; split <;> omega
theorem prs_append (ms ns : List Int) : prs (ms ++ ns) = prs ms + prs ns := by
  induction ms with
  | nil => simp [prs]
  | cons m ms ih => rw [List.cons_append, prs, prs, ih]; omega
theorem prs_take (ms : List Int) (k : Nat) (hk : k < ms.length) : prs (ms.take (k + 1)) = prs (ms.take k) + if 0 ≤ gI ms k then 1 else 0 := by
  rw [gI_lt hk, List.take_succ_eq_append_getElem hk, prs_append]
  rfl
theorem prs_set (ms : List Int) : ∀ (k : Nat) (x : Int), k < ms.length → gI ms k < 0 → 0 ≤ x → prs (ms.set k x) = prs ms + 1 := by
  induction ms with
  | nil => intro k x hk; simp at hk
  | cons m ms ih =>
    intro k x hk hg hx
    cases k with
    | zero => rw [gI_cons_zero] at hg; rw [List.set_cons_zero, prs, prs, if_pos hx, if_neg (by omega)]; omega
    | succ k => rw [gI_cons_succ] at hg; rw [List.set_cons_succ, prs, prs, ih k x (by simpa using hk) hg hx]; omega

/-! ## the best matching -/
def fpI (t : Int) (xs ys : List Int) (i fr : Nat) : Nat → Nat → Int
  | 0, _ => -1
  | f + 1, k => if lk t (gI xs i) (gI ys k) = true ∧ 1 + mAt t xs ys (i + 1) (k + 1) = mAt t xs ys i fr then (k : Int) else fpI t xs ys i fr f (k + 1)
def fstP (t : Int) (xs ys : List Int) (i fr : Nat) : Int := fpI t xs ys i fr (ys.length - fr) fr
def nxtF (p : Int) (fr : Nat) : Nat := if 0 ≤ p then p.toNat + 1 else fr
def bestI (t : Int) (xs ys : List Int) : Nat → Nat → Nat → List Int
  | 0, _, _ => []
  | f + 1, i, fr => fstP t xs ys i fr :: bestI t xs ys f (i + 1) (nxtF (fstP t xs ys i fr) fr)
def bestL (t : Int) (xs ys : List Int) : List Int := bestI t xs ys xs.length 0 0
/-- 'from' ahead of place i. -/
def frI (t : Int) (xs ys : List Int) : Nat → Nat
  | 0 => 0
  | i + 1 => nxtF (fstP t xs ys i (frI t xs ys i)) (frI t xs ys i)
def parI (t : Int) (xs ys : List Int) (i : Nat) : Int := fstP t xs ys i (frI t xs ys i)
theorem bestI_take (t : Int) (xs ys : List Int) : ∀ (f i : Nat), bestI t xs ys f i (frI t xs ys i) = (List.range f).map fun j => parI t xs ys (i + j)
  | 0, i => rfl
  | f + 1, i => by
    have ih := bestI_take t xs ys f (i + 1)
    rw [bestI, show nxtF (fstP t xs ys i (frI t xs ys i)) (frI t xs ys i) = frI t xs ys (i + 1) from rfl, ih, List.range_succ_eq_map, List.map_cons, List.map_map]
    refine congr (congrArg _ rfl) ?_
    apply List.map_congr_left
    intro j _
    show parI t xs ys (i + 1 + j) = parI t xs ys (i + (j + 1))
    congr 1; omega
theorem bestL_is (t : Int) (xs ys : List Int) : bestL t xs ys = (List.range xs.length).map (parI t xs ys) := by
  have := bestI_take t xs ys xs.length 0
  simpa [bestL, frI] using this
theorem length_bestL (t : Int) (xs ys : List Int) : (bestL t xs ys).length = xs.length := by rw [bestL_is]; simp
theorem gI_bestL {t : Int} {xs ys : List Int} {i : Nat} (h : i < xs.length) : gI (bestL t xs ys) i = parI t xs ys i := by
  rw [gI_lt (by rw [length_bestL]; exact h)]; simp [bestL_is]
theorem fpI_spec (t : Int) (xs ys : List Int) (i fr : Nat) : ∀ f k, (fpI t xs ys i fr f k = -1 ∧ ∀ j, k ≤ j → j < k + f → ¬ (lk t (gI xs i) (gI ys j) = true ∧ 1 + mAt t xs ys (i + 1) (j + 1) = mAt t xs ys i fr)) ∨
    ∃ p : Nat, fpI t xs ys i fr f k = p ∧ k ≤ p ∧ p < k + f ∧ (lk t (gI xs i) (gI ys p) = true ∧ 1 + mAt t xs ys (i + 1) (p + 1) = mAt t xs ys i fr) ∧
      ∀ j, k ≤ j → j < p → ¬ (lk t (gI xs i) (gI ys j) = true ∧ 1 + mAt t xs ys (i + 1) (j + 1) = mAt t xs ys i fr)
  | 0, k => .inl ⟨rfl, fun j h1 h2 => by omega⟩
  | f + 1, k => by
    rw [fpI]
    by_cases hc : lk t (gI xs i) (gI ys k) = true ∧ 1 + mAt t xs ys (i + 1) (k + 1) = mAt t xs ys i fr
    · rw [if_pos hc]
      exact .inr ⟨k, rfl, Nat.le_refl _, by omega, hc, fun j h1 h2 => by omega⟩
    · rw [if_neg hc]
      rcases fpI_spec t xs ys i fr f (k + 1) with ⟨h1, h2⟩ | ⟨p, h1, h2, h3, h4, h5⟩
      · exact .inl ⟨h1, fun j a b => if e : j = k then e ▸ hc else h2 j (by omega) (by omega)⟩
      · exact .inr ⟨p, h1, by omega, by omega, h4, fun j a b => if e : j = k then e ▸ hc else h5 j (by omega) b⟩
theorem fstP_cases (t : Int) (xs ys : List Int) (i fr : Nat) (hf : fr ≤ ys.length) : (fstP t xs ys i fr = -1 ∧ ∀ j, fr ≤ j → j < ys.length → ¬ (lk t (gI xs i) (gI ys j) = true ∧ 1 + mAt t xs ys (i + 1) (j + 1) = mAt t xs ys i fr)) ∨
    ∃ p : Nat, fstP t xs ys i fr = p ∧ fr ≤ p ∧ p < ys.length ∧ (lk t (gI xs i) (gI ys p) = true ∧ 1 + mAt t xs ys (i + 1) (p + 1) = mAt t xs ys i fr) ∧
      ∀ j, fr ≤ j → j < p → ¬ (lk t (gI xs i) (gI ys j) = true ∧ 1 + mAt t xs ys (i + 1) (j + 1) = mAt t xs ys i fr) := by
  have h := fpI_spec t xs ys i fr (ys.length - fr) fr
  rw [show fr + (ys.length - fr) = ys.length by omega] at h
  exact h
theorem frI_le (t : Int) (xs ys : List Int) : ∀ i, frI t xs ys i ≤ ys.length
  | 0 => Nat.zero_le _
  | i + 1 => by
    have ih := frI_le t xs ys i
    rw [frI, nxtF]
    rcases fstP_cases t xs ys i (frI t xs ys i) ih with ⟨h1, _⟩ | ⟨p, h1, _, h2, _, _⟩
    · rw [h1, if_neg (by omega)]; exact ih
    · rw [h1, if_pos (by omega), Int.toNat_natCast]; omega
/-- With no partner the first changes nothing. -/
theorem mAt_skip {t : Int} {xs ys : List Int} {i fr : Nat} (hi : i < xs.length) (h : ∀ j, fr ≤ j → j < ys.length → ¬ (lk t (gI xs i) (gI ys j) = true ∧ 1 + mAt t xs ys (i + 1) (j + 1) = mAt t xs ys i fr)) :
    mAt t xs ys i fr = mAt t xs ys (i + 1) fr := by
  unfold mAt
  rw [drop_gI hi]
  rcases mostL_first t (gI xs i) (xs.drop (i + 1)) (ys.drop fr) with h1 | ⟨k, h1, h2, h3⟩
  · exact h1
  · exfalso
    rw [List.length_drop] at h1
    refine h (fr + k) (by omega) (by omega) ⟨?_, ?_⟩
    · have e : gI (ys.drop fr) k = gI ys (fr + k) := by rw [gI_lt (by rw [List.length_drop]; omega), gI_lt (by omega)]; simp
      rw [← e]; exact h2
    · unfold mAt
      rw [drop_gI hi, h3, List.drop_drop, show fr + (k + 1) = fr + k + 1 by omega]
theorem best_ok (t : Int) (xs ys : List Int) : ∀ (f i : Nat), i + f = xs.length → mOk t ys (xs.drop i) (bestI t xs ys f i (frI t xs ys i)) ((frI t xs ys i : Int) - 1) = true ∧ prs (bestI t xs ys f i (frI t xs ys i)) = mAt t xs ys i (frI t xs ys i)
  | 0, i, h => by rw [List.drop_eq_nil_of_le (by omega), mAt_left t xs ys i _ (by omega)]; exact ⟨rfl, rfl⟩
  | f + 1, i, h => by
    have hi : i < xs.length := by omega
    obtain ⟨i1, i2⟩ := best_ok t xs ys f (i + 1) (by omega)
    rw [bestI, show nxtF (fstP t xs ys i (frI t xs ys i)) (frI t xs ys i) = frI t xs ys (i + 1) from rfl, drop_gI hi, mOk, prs, i2]
    rcases fstP_cases t xs ys i (frI t xs ys i) (frI_le t xs ys i) with ⟨h1, h2⟩ | ⟨p, h1, hp0, h2, h3, h4⟩
    · have e : frI t xs ys (i + 1) = frI t xs ys i := by rw [frI, nxtF, h1, if_neg (by omega)]
      rw [e] at i1 ⊢
      rw [h1, if_pos rfl, if_neg (by omega), mAt_skip hi h2, Nat.zero_add]
      exact ⟨i1, rfl⟩
    · have e : frI t xs ys (i + 1) = p + 1 := by rw [frI, nxtF, h1, if_pos (by omega), Int.toNat_natCast]
      rw [e] at i1 ⊢
      rw [h1, if_neg (by omega), if_pos (by omega), Int.toNat_natCast]
      refine ⟨?_, h3.2⟩
      rw [show ((p + 1 : Nat) : Int) - 1 = (p : Int) by omega] at i1
      simp only [Bool.and_eq_true, decide_eq_true_eq]
      exact ⟨⟨⟨by omega, by omega⟩, h3.1⟩, i1⟩
theorem bestL_ok (t : Int) (xs ys : List Int) : mOk t ys xs (bestL t xs ys) (-1) = true ∧ prs (bestL t xs ys) = mostL t xs ys := by
  have := best_ok t xs ys xs.length 0 (by omega)
  simpa [frI, bestL, mAt] using this
theorem bestL_any {t : Int} {xs ys : List Int} {i : Nat} {k : Int} (hi : i < xs.length) (hg : gI (bestL t xs ys) i < 0) (hk : 0 ≤ k) : mOk t ys xs ((bestL t xs ys).set i k) (-1) = false := by
  cases h : mOk t ys xs ((bestL t xs ys).set i k) (-1) with
  | false => rfl
  | true =>
    have h1 := mOk_le h
    rw [prs_set _ i k (by rw [length_bestL]; exact hi) hg hk, (bestL_ok t xs ys).2] at h1
    omega
theorem parI_self {t : Int} (h : 0 ≤ t) (xs : List Int) : ∀ i, i ≤ xs.length → frI t xs xs i = i
  | 0, _ => rfl
  | i + 1, hi => by
    have ih := parI_self h xs i (by omega)
    have hc : lk t (gI xs i) (gI xs i) = true ∧ 1 + mAt t xs xs (i + 1) (i + 1) = mAt t xs xs i i := by
      refine ⟨lk_self _ h, ?_⟩
      unfold mAt; rw [mostL_self h, mostL_self h, List.length_drop, List.length_drop]; omega
    rw [frI, ih, nxtF]
    rcases fstP_cases t xs xs i i (by omega) with ⟨h1, h2⟩ | ⟨p, h1, hp0, h2, h3, h4⟩
    · exact absurd hc (h2 i (Nat.le_refl _) (by omega))
    · have : p = i := by
        rcases Nat.lt_or_ge i p with h | h
        · exact absurd hc (h4 i (Nat.le_refl _) h)
        · omega
      rw [h1, if_pos (by omega), Int.toNat_natCast]; omega
theorem bestL_self {t : Int} (h : 0 ≤ t) (xs : List Int) (i : Nat) (hi : i < xs.length) : gI (bestL t xs xs) i = i := by
  rw [gI_bestL hi, parI, parI_self h xs i (by omega)]
  have h1 := parI_self h xs (i + 1) (by omega)
  rw [frI, parI_self h xs i (by omega), nxtF] at h1
  split at h1 <;> omega
/-- What came ahead lies below 'from'. -/
theorem frI_max (t : Int) (xs ys : List Int) : ∀ i, i ≤ xs.length → ∀ j, j < i → parI t xs ys j < frI t xs ys i
  | 0, _, j, hj => by omega
  | i + 1, hi, j, hj => by
    have ih := frI_max t xs ys i (by omega)
    have hp : parI t xs ys i < frI t xs ys (i + 1) ∧ (frI t xs ys i : Int) ≤ frI t xs ys (i + 1) := by
      rw [frI, nxtF]
      show fstP t xs ys i (frI t xs ys i) < _ ∧ _
      rcases fstP_cases t xs ys i (frI t xs ys i) (frI_le t xs ys i) with ⟨h1, _⟩ | ⟨p, h1, h0, h2, _, _⟩
      · rw [h1, if_neg (by omega)]; omega
      · rw [h1, if_pos (by omega), Int.toNat_natCast]; omega
    by_cases e : j = i
    · subst e; exact hp.1
    · have := ih j (by omega); omega
/-- The greatest partner ahead of place i, or -1. -/
def lastTo (l : List Int) : Nat → Int
  | 0 => -1
  | k + 1 => max (lastTo l k) (gI l k)
theorem frI_last {t : Int} {xs ys : List Int} : ∀ i, i ≤ xs.length → lastTo (bestL t xs ys) i = (frI t xs ys i : Int) - 1
  | 0, _ => rfl
  | i + 1, hi => by
    have ih := frI_last i (by omega) (t := t) (xs := xs) (ys := ys)
    rw [lastTo, ih, gI_bestL (by omega), frI, nxtF, parI]
    rcases fstP_cases t xs ys i (frI t xs ys i) (frI_le t xs ys i) with ⟨h1, _⟩ | ⟨p, h1, h0, h2, _, _⟩
    · rw [h1, if_neg (by omega)]; omega
    · rw [h1, if_pos (by omega), Int.toNat_natCast]; omega
theorem mAt_mono (t : Int) (xs ys : List Int) (i k d : Nat) : mAt t xs ys i (k + d) ≤ mAt t xs ys i k := by
  unfold mAt
  rw [← List.drop_drop]
  have h := (mostL_mt t (xs.drop i) ((ys.drop k).drop d)).rightMany ((ys.drop k).take d)
  rw [List.take_append_drop] at h
  exact mostL_max h
theorem mOk_last {t : Int} {ys : List Int} : ∀ {xs ms : List Int} {last : Int}, -1 ≤ last → mOk t ys xs ms last = true → ∀ i, i < xs.length → gI ms i ≠ -1 → mOk t ys (xs.drop (i + 1)) (ms.drop (i + 1)) (gI ms i) = true ∧ 0 ≤ gI ms i ∧ gI ms i < ys.length ∧ lk t (gI xs i) (gI ys (gI ms i).toNat) = true
  | [], _, _, _, _, i, hi, _ => by simp at hi
  | _ :: _, [], _, _, h, _, _, _ => by simp [mOk] at h
  | x :: xs, m :: ms, last, h0, h, i, hi, hm => by
    rw [mOk] at h
    cases i with
    | zero =>
      rw [gI_cons_zero] at hm ⊢
      rw [if_neg hm] at h
      simp only [Bool.and_eq_true, decide_eq_true_eq] at h
      exact ⟨by simpa using h.2, by omega, h.1.1.2, by rw [gI_cons_zero]; exact h.1.2⟩
    | succ i =>
      rw [gI_cons_succ] at hm ⊢
      rw [gI_cons_succ, List.drop_succ_cons, List.drop_succ_cons]
      by_cases e : m = -1
      · rw [if_pos e] at h; exact mOk_last h0 h i (by simpa using hi) hm
      · rw [if_neg e] at h
        simp only [Bool.and_eq_true, decide_eq_true_eq] at h
        exact mOk_last (by omega) h.2 i (by simpa using hi) hm
theorem bestL_first {t : Int} {xs ys : List Int} {i k : Nat} (hi : i < xs.length) (h1 : lastTo (bestL t xs ys) i < k) (h2 : (k : Int) < gI (bestL t xs ys) i) : mOk t ys xs ((bestL t xs ys).set i k) (-1) = false := by
  rw [frI_last i (by omega)] at h1
  rw [gI_bestL hi, parI] at h2
  have hlen := length_bestL t xs ys
  cases h : mOk t ys xs ((bestL t xs ys).set i k) (-1) with
  | false => rfl
  | true =>
    exfalso
    have hg : gI ((bestL t xs ys).set i k) i = k := by rw [gI_set _ _ _ _ (by omega), if_pos rfl]
    have h3 := mOk_last (by omega) h i hi (by rw [hg]; omega)
    rw [hg, Int.toNat_natCast] at h3
    obtain ⟨h4, _, h5, h6⟩ := h3
    have e1 : ((bestL t xs ys).set i ↑k).drop (i + 1) = (bestL t xs ys).drop (i + 1) := by rw [List.drop_set, if_pos (by omega)]
    rw [e1, show ((k : Nat) : Int) = ((k + 1 : Nat) : Int) - 1 by omega] at h4
    have h7 := mostL_max (mOk_mt h4)
    rcases fstP_cases t xs ys i (frI t xs ys i) (frI_le t xs ys i) with ⟨b1, b2⟩ | ⟨p, b1, b0, b2, b3, b4⟩
    · omega
    · rw [b1] at h2
      refine b4 k (by omega) (by omega) ⟨h6, ?_⟩
      -- the rest has as many pairs
      have h8 := best_ok t xs ys (xs.length - (i + 1)) (i + 1) (by omega)
      have e2 : frI t xs ys (i + 1) = p + 1 := by rw [frI, nxtF, b1, if_pos (by omega), Int.toNat_natCast]
      have e3 : (bestL t xs ys).drop (i + 1) = bestI t xs ys (xs.length - (i + 1)) (i + 1) (frI t xs ys (i + 1)) := by
        rw [bestI_take, bestL_is]
        apply List.ext_getElem
        · simp
        · intro j a1 a2; simp
      rw [e3, h8.2, e2] at h7
      have h9 : mAt t xs ys (i + 1) (p + 1) ≤ mAt t xs ys (i + 1) (k + 1) := h7
      have h10 := mAt_mono t xs ys i (frI t xs ys i) (k - frI t xs ys i)
      rw [show frI t xs ys i + (k - frI t xs ys i) = k by omega] at h10
      have h11 := mAt_yes (t := t) hi (show k < ys.length by omega) h6
      omega

/-! ## the other direction -/
def invTo (ms : List Int) (m : Nat) : Nat → List Int
  | 0 => List.replicate m (-1)
  | i + 1 => if 0 ≤ gI ms i then (invTo ms m i).set (gI ms i).toNat i else invTo ms m i
theorem length_invTo (ms : List Int) (m i : Nat) : (invTo ms m i).length = m := by
  induction i with
  | zero => simp [invTo]
  | succ i ih => rw [invTo]; split <;> simp [ih]
theorem gI_replicate (m k : Nat) (x : Int) (h : k < m) : gI (List.replicate m x) k = x := by rw [gI_lt (by simpa using h)]; simp
theorem invTo_at (ms : List Int) (m : Nat) (k : Nat) (hk : k < m) : ∀ i, (∀ j, j < i → gI ms j < m) → (gI (invTo ms m i) k = -1 ∧ ∀ j, j < i → gI ms j ≠ k) ∨ ∃ j : Nat, j < i ∧ gI ms j = k ∧ gI (invTo ms m i) k = j
  | 0, _ => .inl ⟨gI_replicate m k _ hk, fun j hj => by omega⟩
  | i + 1, hm => by
    rw [invTo]
    by_cases h : 0 ≤ gI ms i
    · rw [if_pos h, gI_set _ _ _ _ (by rw [length_invTo]; have := hm i (by omega); omega)]
      by_cases e : k = (gI ms i).toNat
      · right; exact ⟨i, by omega, by omega, by rw [if_pos e]⟩
      · rw [if_neg e]
        rcases invTo_at ms m k hk i (fun j hj => hm j (by omega)) with ⟨h1, h2⟩ | ⟨j, h1, h2, h3⟩
        · exact .inl ⟨h1, fun j hj => if e2 : j = i then by subst e2; omega else h2 j (by omega)⟩
        · exact .inr ⟨j, by omega, h2, h3⟩
    · rw [if_neg h]
      rcases invTo_at ms m k hk i (fun j hj => hm j (by omega)) with ⟨h1, h2⟩ | ⟨j, h1, h2, h3⟩
      · exact .inl ⟨h1, fun j hj => if e2 : j = i then by subst e2; omega else h2 j (by omega)⟩
      · exact .inr ⟨j, by omega, h2, h3⟩
theorem inv_prs {t : Int} {ys xs ms : List Int} (h : MChar t ys xs ms (-1)) : ∀ i, i ≤ xs.length → prs (invTo ms ys.length i) = prs (ms.take i)
  | 0, _ => by
    have : ∀ m, prs (List.replicate m (-1)) = 0 := by
      intro m
      induction m with
      | zero => rfl
      | succ m ih => rw [List.replicate_succ, prs, ih]; rfl
    simp [invTo, this, prs]
  | i + 1, hi => by
    have ih := inv_prs h i (by omega)
    obtain ⟨h1, h2, h3⟩ := h
    rw [invTo, prs_take ms i (by omega), ← ih]
    by_cases hg : 0 ≤ gI ms i
    · rw [if_pos hg, if_pos hg]
      have hb : ∀ j, j < i + 1 → gI ms j < ys.length := fun j hj => by rcases h2 j (by omega) with h | h <;> omega
      refine prs_set _ _ _ (by rw [length_invTo]; have := hb i (by omega); omega) ?_ (by omega)
      rcases invTo_at ms ys.length (gI ms i).toNat (by have := hb i (by omega); omega) i (fun j hj => hb j (by omega)) with ⟨e1, _⟩ | ⟨j, e1, e2, _⟩
      · rw [e1]; omega
      · exfalso
        have := h3 j i e1 (by omega) (by omega) (by omega)
        omega
    · rw [if_neg hg, if_neg hg]; rfl
theorem inv_ok {t : Int} {ys xs ms : List Int} (h : MChar t ys xs ms (-1)) : MChar t xs ys (invTo ms ys.length xs.length) (-1) := by
  obtain ⟨h1, h2, h3⟩ := h
  have hb : ∀ j, j < xs.length → gI ms j < ys.length := fun j hj => by rcases h2 j (by omega) with h | h <;> omega
  refine ⟨length_invTo .., fun k hk => ?_, fun k k' hkk hk' n1 n2 => ?_⟩
  · rcases invTo_at ms ys.length k hk xs.length hb with ⟨e1, _⟩ | ⟨j, e1, e2, e3⟩
    · exact .inl e1
    · right
      rw [e3, Int.toNat_natCast]
      rcases h2 j e1 with h | ⟨a1, a2, a3⟩
      · omega
      · exact ⟨by omega, by omega, by rw [e2, Int.toNat_natCast] at a3; rw [lk_comm]; exact a3⟩
  · rcases invTo_at ms ys.length k (by omega) xs.length hb with ⟨e1, _⟩ | ⟨j, e1, e2, e3⟩
    · exact absurd e1 n1
    · rcases invTo_at ms ys.length k' hk' xs.length hb with ⟨e1', _⟩ | ⟨j', e1', e2', e3'⟩
      · exact absurd e1' n2
      · rw [e3, e3']
        rcases Nat.lt_trichotomy j j' with h | h | h
        · omega
        · subst h; omega
        · have := h3 j' j h e1 (by omega) (by omega); omega
theorem inv_all {t : Int} {ys xs ms : List Int} (h : mOk t ys xs ms (-1) = true) : mOk t xs ys (invTo ms ys.length xs.length) (-1) = true ∧ prs (invTo ms ys.length xs.length) = prs ms := by
  rw [mOk_iff _ _ _ _ _ (by omega)] at h
  refine ⟨(mOk_iff _ _ _ _ _ (by omega)).2 (inv_ok h), ?_⟩
  rw [inv_prs h _ (Nat.le_refl _), List.take_of_length_le (by have := h.1; omega)]
end Go.Proofs.Ytihkdbgnoncgnaa
