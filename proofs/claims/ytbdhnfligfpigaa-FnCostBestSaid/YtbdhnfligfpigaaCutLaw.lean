/- Plain laws of cuts (no program in sight): when a list of places are allowed cuts, how many ways there are, the least cost and the cuts that have it. No condition. -/
import Derived.Test.YtbdhnfligfpigaaLib
import Derived.Lib.Hide
namespace Go.Proofs.Ytbdhnfligfpigaa

theorem drop_gI {l : List Int} {k : Nat} (h : k < l.length) : l.drop k = gI l k :: l.drop (k + 1) := by rw [gI_lt h]; exact List.drop_eq_getElem_cons h
theorem gI_set (l : List Int) (k j : Nat) (x : Int) (hk : k < l.length) : gI (l.set k x) j = if j = k then x else gI l j := by
  unfold gI
  rw [List.getD_eq_getElem?_getD, List.getElem?_set]
  by_cases e : k = j
  · subst e; simp [hk]
  · rw [if_neg e, if_neg (Ne.symm e), ← List.getD_eq_getElem?_getD]
theorem gI_drop (l : List Int) (k j : Nat) : gI (l.drop k) j = gI l (k + j) := by simp [gI, List.getD_eq_getElem?_getD]

/-! ## signals and distances -/
def costOk (x : Int) : Bool := decide (0 ≤ x) && decide (x ≤ 1000)
def sigTo (c : List Int) : Nat → Bool
  | 0 => true
  | k + 1 => sigTo c k && costOk (gI c k)
def sig (c : List Int) : Bool := sigTo c c.length && (decide (1 ≤ c.length) && decide (c.length ≤ 16))
def dstOk (lo hi : Int) : Bool := decide (1 ≤ lo) && decide (lo ≤ hi) && decide (hi ≤ 16)
theorem sigTo_iff (c : List Int) (n : Nat) : sigTo c n = true ↔ ∀ k, k < n → costOk (gI c k) = true := by
  induction n with
  | zero => simp [sigTo]
  | succ n ih =>
    rw [sigTo, Bool.and_eq_true, ih]
    constructor
    · intro ⟨h1, h2⟩ k hk
      by_cases e : k = n
      · subst e; exact h2
      · exact h1 k (by omega)
    · exact fun h => ⟨fun k hk => h k (by omega), h n (by omega)⟩
theorem sig_iff (c : List Int) : sig c = true ↔ (∀ k, k < c.length → 0 ≤ gI c k ∧ gI c k ≤ 1000) ∧ 1 ≤ c.length ∧ c.length ≤ 16 := by
  simp [sig, sigTo_iff, costOk]
theorem sig_stop {c : List Int} {k : Nat} (hk : k < c.length) (h : costOk (gI c k) = false) : sig c = false := by
  cases hs : sig c with
  | false => rfl
  | true =>
    have := ((sig_iff c).1 hs).1 k hk
    simp [costOk] at h; omega

/-! ## the number of ways -/
def wS (l : List Nat) (a k : Nat) : Nat → Nat
  | 0 => 0
  | j + 1 => wS l a k j + l.getD (k - (a + j)) 0
def wl (a b : Nat) : Nat → List Nat
  | 0 => [1]
  | k + 1 => wl a b k ++ [wS (wl a b k) a (k + 1) (min b (k + 1) + 1 - a)]
def wW (a b k : Nat) : Nat := (wl a b k).getD k 0
def wSum (a b k : Nat) : Nat → Nat
  | 0 => 0
  | j + 1 => wSum a b k j + wW a b (k - (a + j))
theorem length_wl (a b k : Nat) : (wl a b k).length = k + 1 := by
  induction k with
  | zero => rfl
  | succ k ih => simp [wl, ih]
theorem wl_at (a b : Nat) : ∀ n k, k ≤ n → (wl a b n).getD k 0 = wW a b k
  | 0, k, h => by obtain rfl : k = 0 := by omega
                  rfl
  | n + 1, k, h => by
    by_cases e : k = n + 1
    · subst e; rfl
    · rw [wl, List.getD_eq_getElem?_getD, List.getElem?_append_left (by rw [length_wl]; omega), ← List.getD_eq_getElem?_getD]
      exact wl_at a b n k (by omega)
theorem wW_zero (a b : Nat) : wW a b 0 = 1 := rfl
theorem wW_succ {a : Nat} (ha : 1 ≤ a) (b k : Nat) : wW a b (k + 1) = wSum a b (k + 1) (min b (k + 1) + 1 - a) := by
  have h : ∀ j, j ≤ k + 2 - a → wS (wl a b k) a (k + 1) j = wSum a b (k + 1) j := by
    intro j
    induction j with
    | zero => intro _; rfl
    | succ j ih => intro hj; rw [wS, wSum, ih (by omega), wl_at a b k _ (by omega)]
  rw [← h _ (by omega)]
  unfold wW
  rw [wl, List.getD_eq_getElem?_getD, List.getElem?_append_right (by rw [length_wl]; omega), length_wl]
  simp
theorem wW_eq {a : Nat} (ha : 1 ≤ a) (b k : Nat) (hk : 0 < k) : wW a b k = wSum a b k (min b k + 1 - a) := by
  cases k with
  | zero => omega
  | succ k => exact wW_succ ha b k
theorem wW_le {a : Nat} (ha : 1 ≤ a) (b : Nat) : ∀ n k, k ≤ n → wW a b k ≤ 2 ^ k
  | 0, k, h => by obtain rfl : k = 0 := by omega
                  exact Nat.le_refl _
  | n + 1, k, h => by
    cases k with
    | zero => exact Nat.le_refl _
    | succ k =>
      have step : ∀ j, j ≤ k + 2 - a → wSum a b (k + 1) j + 2 ^ (k + 2 - a - j) ≤ 2 ^ (k + 2 - a) := by
        intro j
        induction j with
        | zero => intro _; rw [wSum]; simp
        | succ j ih =>
          intro hj
          have h1 := ih (by omega)
          have h2 := wW_le ha b n (k + 1 - (a + j)) (by omega)
          have e : k + 2 - a - j = (k + 2 - a - (j + 1)) + 1 := by omega
          rw [e, Nat.pow_succ] at h1
          rw [show k + 1 - (a + j) = k + 2 - a - (j + 1) by omega] at h2
          rw [wSum, show k + 1 - (a + j) = k + 2 - a - (j + 1) by omega]
          omega
      have h1 := step (min b (k + 1) + 1 - a) (by omega)
      have h2 : 2 ^ (k + 2 - a) ≤ 2 ^ (k + 1) := Nat.pow_le_pow_right (by omega) (by omega)
      rw [wW_succ ha]
      exact Nat.le_trans (Nat.le_trans (Nat.le_add_right _ _) h1) h2
theorem wSum_le {a : Nat} (b k : Nat) (j j' : Nat) (h : j ≤ j') : wSum a b k j ≤ wSum a b k j' := by
  induction j' with
  | zero => obtain rfl : j = 0 := by omega
            exact Nat.le_refl _
  | succ j' ih =>
    by_cases e : j = j' + 1
    · subst e; exact Nat.le_refl _
    · have := ih (by omega); rw [wSum]; omega
theorem wSum_pos (a b k : Nat) (j : Nat) : 1 ≤ wSum a b k j ↔ ∃ i, i < j ∧ 1 ≤ wW a b (k - (a + i)) := by
  induction j with
  | zero => simp [wSum]
  | succ j ih =>
    rw [wSum]
    constructor
    · intro h
      by_cases h1 : 1 ≤ wSum a b k j
      · obtain ⟨i, h2, h3⟩ := ih.1 h1
        exact ⟨i, by omega, h3⟩
      · exact ⟨j, by omega, by omega⟩
    · rintro ⟨i, h2, h3⟩
      by_cases e : i = j
      · subst e; omega
      · have := ih.2 ⟨i, by omega, h3⟩; omega

/-! ## the least costs -/
/-- The least cost over the first j next cuts behind place k, and the place behind that cut. -/
def sc (a : Nat) (c : List Int) (r : Nat → Int) (k : Nat) : Nat → Int × Nat
  | 0 => (-1, 0)
  | j + 1 => if 0 ≤ r (k + a + j) ∧ ((sc a c r k j).1 < 0 ∨ gI c (k + a + j - 1) + r (k + a + j) < (sc a c r k j).1) then (gI c (k + a + j - 1) + r (k + a + j), k + a + j) else sc a c r k j
/-- How many next cuts there are. -/
def many (a b n k : Nat) : Nat := min (k + b) n + 1 - (k + a)
/-- The tables with the last m places done. -/
def tab (a b : Nat) (c : List Int) : Nat → Nat → Int × Nat
  | 0 => fun _ => (0, 0)
  | m + 1 => fun k => if k = c.length - (m + 1) then sc a c (fun i => (tab a b c m i).1) k (many a b c.length k) else tab a b c m k
def rs (a b : Nat) (c : List Int) (k : Nat) : Int := (tab a b c c.length k).1
def nx (a b : Nat) (c : List Int) (k : Nat) : Nat := (tab a b c c.length k).2
theorem sc_congr (a : Nat) (c : List Int) (r r' : Nat → Int) (k : Nat) : ∀ j, (∀ i, i < j → r (k + a + i) = r' (k + a + i)) → sc a c r k j = sc a c r' k j
  | 0, _ => rfl
  | j + 1, h => by rw [sc, sc, sc_congr a c r r' k j (fun i hi => h i (by omega)), h j (by omega)]
theorem tab_succ (a b : Nat) (c : List Int) (m k : Nat) : tab a b c (m + 1) k = if k = c.length - (m + 1) then sc a c (fun i => (tab a b c m i).1) k (many a b c.length k) else tab a b c m k := rfl
theorem tab_keep (a b : Nat) (c : List Int) : ∀ d m k, m + d ≤ c.length → c.length - m ≤ k → tab a b c (m + d) k = tab a b c m k
  | 0, _, _, _, _ => rfl
  | d + 1, m, k, h1, h2 => by
    rw [← Nat.add_assoc, tab_succ, if_neg (by omega)]
    exact tab_keep a b c d m k (by omega) h2
theorem tab_rs {a b : Nat} {c : List Int} {m k : Nat} (h1 : m ≤ c.length) (h2 : c.length - m ≤ k) : tab a b c m k = (rs a b c k, nx a b c k) := by
  have := tab_keep a b c (c.length - m) m k (by omega) h2
  rw [show m + (c.length - m) = c.length by omega] at this
  rw [← this]; rfl
theorem tab_zero {a b : Nat} {c : List Int} : ∀ m k, k < c.length - m → m ≤ c.length → tab a b c m k = (0, 0)
  | 0, _, _, _ => rfl
  | m + 1, k, h, hm => by rw [tab_succ, if_neg (by omega)]; exact tab_zero m k (by omega) (by omega)
theorem rs_end (a b : Nat) (c : List Int) : rs a b c c.length = 0 := by
  have := tab_rs (a := a) (b := b) (c := c) (m := 0) (k := c.length) (by omega) (by omega)
  rw [tab] at this; injection this with h1 _; exact h1.symm
theorem rs_step {a : Nat} (ha : 1 ≤ a) (b : Nat) (c : List Int) (k : Nat) (hk : k < c.length) : (rs a b c k, nx a b c k) = sc a c (rs a b c) k (many a b c.length k) := by
  rw [← tab_rs (m := c.length - k) (by omega) (by omega), show c.length - k = (c.length - k - 1) + 1 by omega, tab_succ, if_pos (by omega)]
  refine sc_congr _ _ _ _ _ _ fun i hi => ?_
  rw [many] at hi
  rw [tab_rs (by omega) (by omega)]
/-- What the scan finds. -/
theorem sc_spec (a : Nat) (c : List Int) (r : Nat → Int) (k : Nat) : ∀ j, (∀ i, i < j → 0 ≤ gI c (k + a + i - 1)) →
    ((sc a c r k j = (-1, 0) ∧ ∀ i, i < j → r (k + a + i) < 0) ∨
      ∃ i, i < j ∧ 0 ≤ r (k + a + i) ∧ sc a c r k j = (gI c (k + a + i - 1) + r (k + a + i), k + a + i) ∧ (∀ q, q < j → 0 ≤ r (k + a + q) → gI c (k + a + i - 1) + r (k + a + i) ≤ gI c (k + a + q - 1) + r (k + a + q)) ∧
        ∀ q, q < i → 0 ≤ r (k + a + q) → gI c (k + a + i - 1) + r (k + a + i) < gI c (k + a + q - 1) + r (k + a + q))
  | 0, _ => .inl ⟨rfl, fun i hi => by omega⟩
  | j + 1, hc => by
    have hj := hc j (by omega)
    rcases sc_spec a c r k j (fun i hi => hc i (by omega)) with ⟨h1, h2⟩ | ⟨i, h1, h2, h3, h4, h5⟩
    · rw [sc, h1]
      by_cases hr : 0 ≤ r (k + a + j)
      · rw [if_pos ⟨hr, .inl (by show (-1 : Int) < 0; omega)⟩]
        refine .inr ⟨j, by omega, hr, rfl, fun q hq hq0 => ?_, fun q hq hq0 => ?_⟩
        · by_cases e : q = j
          · subst e; exact Int.le_refl _
          · have := h2 q (by omega); omega
        · have := h2 q hq; omega
      · rw [if_neg (fun h => hr h.1)]
        exact .inl ⟨rfl, fun i hi => if e : i = j then by subst e; omega else h2 i (by omega)⟩
    · have hci := hc i (by omega)
      rw [sc, h3]
      by_cases hr : 0 ≤ r (k + a + j) ∧ (gI c (k + a + i - 1) + r (k + a + i) < 0 ∨ gI c (k + a + j - 1) + r (k + a + j) < gI c (k + a + i - 1) + r (k + a + i))
      · rw [if_pos hr]
        refine .inr ⟨j, by omega, hr.1, rfl, fun q hq hq0 => ?_, fun q hq hq0 => ?_⟩
        · by_cases e : q = j
          · subst e; exact Int.le_refl _
          · have := h4 q (by omega) hq0; omega
        · have := h4 q hq hq0; omega
      · rw [if_neg hr]
        refine .inr ⟨i, by omega, h2, rfl, fun q hq hq0 => ?_, h5⟩
        by_cases e : q = j
        · subst e
          have : ¬ (gI c (k + a + i - 1) + r (k + a + i) < 0 ∨ gI c (k + a + q - 1) + r (k + a + q) < gI c (k + a + i - 1) + r (k + a + i)) := fun h => hr ⟨hq0, h⟩
          omega
        · exact h4 q (by omega) hq0

section
variable {a b : Nat} {c : List Int}
/-- What is behind a place: nothing, or the best next cut. -/
theorem rs_cases (ha : 1 ≤ a) (hc : ∀ k, k < c.length → 0 ≤ gI c k) (k : Nat) (hk : k < c.length) :
    (rs a b c k = -1 ∧ nx a b c k = 0 ∧ ∀ t, k + a ≤ t → t ≤ k + b → t ≤ c.length → rs a b c t < 0) ∨
    (k + a ≤ nx a b c k ∧ nx a b c k ≤ k + b ∧ nx a b c k ≤ c.length ∧ 0 ≤ rs a b c (nx a b c k) ∧ rs a b c k = gI c (nx a b c k - 1) + rs a b c (nx a b c k) ∧
      (∀ t, k + a ≤ t → t ≤ k + b → t ≤ c.length → 0 ≤ rs a b c t → rs a b c k ≤ gI c (t - 1) + rs a b c t) ∧
      ∀ t, k + a ≤ t → t < nx a b c k → 0 ≤ rs a b c t → rs a b c k < gI c (t - 1) + rs a b c t) := by
  have hs := rs_step ha b c k hk
  rcases sc_spec a c (rs a b c) k (many a b c.length k) (fun i hi => hc _ (by rw [many] at hi; omega)) with ⟨h1, h2⟩ | ⟨i, h1, h2, h3, h4, h5⟩
  · rw [h1] at hs
    injection hs with e1 e2
    refine .inl ⟨e1, e2, fun t t1 t2 t3 => ?_⟩
    have := h2 (t - (k + a)) (by rw [many]; omega)
    rwa [show k + a + (t - (k + a)) = t by omega] at this
  · rw [h3] at hs
    injection hs with e1 e2
    rw [many] at h1
    refine .inr ⟨by omega, by omega, by omega, by rw [e2]; exact h2, by rw [e2]; exact e1, fun t t1 t2 t3 t4 => ?_, fun t t1 t2 t4 => ?_⟩
    · have := h4 (t - (k + a)) (by rw [many]; omega)
      rw [show k + a + (t - (k + a)) = t by omega] at this
      rw [e1]; exact this t4
    · have := h5 (t - (k + a)) (by omega)
      rw [show k + a + (t - (k + a)) = t by omega] at this
      rw [e1]; exact this t4
theorem rs_ge (ha : 1 ≤ a) (hc : ∀ k, k < c.length → 0 ≤ gI c k) (k : Nat) (hk : k ≤ c.length) : -1 ≤ rs a b c k := by
  by_cases e : k = c.length
  · subst e; rw [rs_end]; omega
  · rcases rs_cases (b := b) ha hc k (by omega) with ⟨h, _⟩ | ⟨h1, _, h3, h4, h5, _⟩
    · omega
    · have := hc (nx a b c k - 1) (by omega); omega
theorem rs_le (ha : 1 ≤ a) (hc : ∀ k, k < c.length → 0 ≤ gI c k ∧ gI c k ≤ 1000) : ∀ m k, k ≤ c.length → c.length - k ≤ m → rs a b c k ≤ 1000 * m
  | m, k, hk, hm => by
    by_cases e : k = c.length
    · subst e; rw [rs_end]; omega
    · rcases rs_cases (b := b) ha (fun k hk => (hc k hk).1) k (by omega) with ⟨h, _⟩ | ⟨h1, _, h3, h4, h5, _⟩
      · omega
      · cases m with
        | zero => omega
        | succ m =>
          have h6 := rs_le ha hc m (nx a b c k) h3 (by omega)
          have := hc (nx a b c k - 1) (by omega); omega
/-- There is a way to the end just if there is a number of ways. -/
theorem rs_ways (ha : 1 ≤ a) (hc : ∀ k, k < c.length → 0 ≤ gI c k) : ∀ m k, k ≤ c.length → c.length - k ≤ m → (0 ≤ rs a b c k ↔ 1 ≤ wW a b (c.length - k))
  | m, k, hk, hm => by
    by_cases e : k = c.length
    · subst e; rw [rs_end, Nat.sub_self, wW_zero]; omega
    · cases m with
      | zero => omega
      | succ m =>
        have ih : ∀ t, k + a ≤ t → t ≤ c.length → (0 ≤ rs a b c t ↔ 1 ≤ wW a b (c.length - t)) := fun t t1 t2 => rs_ways ha hc m t t2 (by omega)
        rw [wW_eq ha b _ (by omega), wSum_pos]
        rcases rs_cases (b := b) ha hc k (by omega) with ⟨h, _, h2⟩ | ⟨h1, h2, h3, h4, h5, _⟩
        · constructor
          · intro h'; omega
          · rintro ⟨i, i1, i2⟩
            have h3 := h2 (k + a + i) (by omega) (by omega) (by omega)
            have h4 := (ih (k + a + i) (by omega) (by omega)).2 (by rw [show c.length - (k + a + i) = c.length - k - (a + i) by omega]; exact i2)
            omega
        · constructor
          · intro _
            refine ⟨nx a b c k - (k + a), by omega, ?_⟩
            have := (ih _ h1 h3).1 h4
            rwa [show c.length - nx a b c k = c.length - k - (a + (nx a b c k - (k + a))) by omega] at this
          · intro _
            have := hc (nx a b c k - 1) (by omega); omega
end

/-! ## allowed cuts -/
def al (lo hi : Int) : Int → List Int → Bool
  | _, [] => true
  | last, x :: xs => decide (last + lo ≤ x) && decide (x ≤ last + hi) && al lo hi x xs
def lastOf (last : Int) : List Int → Int
  | [] => last
  | x :: xs => lastOf x xs
def allowed (c : List Int) (lo hi : Int) (cuts : List Int) : Bool := sig c && dstOk lo hi && (al lo hi (-1) cuts && decide (lastOf (-1) cuts = (c.length : Int) - 1))
def costOf (c : List Int) : List Int → Int
  | [] => 0
  | x :: xs => gI c x.toNat + costOf c xs
def costV (c : List Int) (lo hi : Int) (cuts : List Int) : Int := if allowed c lo hi cuts then costOf c cuts else -1
def manyV (n : Int) (lo hi : Int) : Int := if decide (1 ≤ n) && decide (n ≤ 16) && dstOk lo hi then (wW lo.toNat hi.toNat n.toNat : Nat) else -1
def bestOk (c : List Int) (lo hi : Int) : Bool := sig c && dstOk lo hi && decide (0 ≤ rs lo.toNat hi.toNat c 0)
def bcF (a b : Nat) (c : List Int) : Nat → Nat → List Int
  | 0, _ => []
  | f + 1, k => if k < c.length then ((nx a b c k : Int) - 1) :: bcF a b c f (nx a b c k) else []
def bestC (c : List Int) (lo hi : Int) : List Int := if bestOk c lo hi then bcF lo.toNat hi.toNat c c.length 0 else []
end Go.Proofs.Ytbdhnfligfpigaa
