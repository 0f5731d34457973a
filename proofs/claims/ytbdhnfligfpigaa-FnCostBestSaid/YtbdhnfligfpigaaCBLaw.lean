/- The rows of the least costs while they are filled, and the cuts while they are read (no program in sight). No condition. -/
import Derived.Test.YtbdhnfligfpigaaAllowed
import Derived.Test.YtbdhnfligfpigaaCMany
import Derived.Test.YtbdhnfligfpigaaSmall
namespace Go.Proofs.Ytbdhnfligfpigaa
open Go.RowKit

def rowR (a b : Nat) (c : List Int) (q j i : Nat) : Int := if i < q then 0 else if i = q then (sc a c (rs a b c) q j).1 else rs a b c i
def rowN (a b : Nat) (c : List Int) (q j i : Nat) : Nat := if i < q then 0 else if i = q then (sc a c (rs a b c) q j).2 else nx a b c i
def doneR (a b : Nat) (c : List Int) (q i : Nat) : Int := if i < q then 0 else rs a b c i
def doneN (a b : Nat) (c : List Int) (q i : Nat) : Nat := if i < q then 0 else nx a b c i
section
variable {a b : Nat} {c : List Int} {q j i : Nat}
theorem doneR_start (hi : i < c.length + 1) : doneR a b c c.length i = 0 := by
  unfold doneR
  by_cases h : i < c.length
  · rw [if_pos h]
  · rw [if_neg h, show i = c.length by omega, rs_end]
theorem doneN_start (hi : i < c.length + 1) : doneN a b c c.length i = 0 := by
  unfold doneN
  by_cases h : i < c.length
  · rw [if_pos h]
  · rw [if_neg h, show i = c.length by omega]
    have := tab_rs (a := a) (b := b) (c := c) (m := 0) (k := c.length) (by omega) (by omega)
    rw [tab] at this; injection this with _ h2; exact h2.symm
theorem doneR_gt (h : q ≤ i) : doneR a b c q i = rs a b c i := by unfold doneR; rw [if_neg (by omega)]
theorem doneN_gt (h : q ≤ i) : doneN a b c q i = nx a b c i := by unfold doneN; rw [if_neg (by omega)]
/-- '-1' has been laid at q. -/
theorem rowR_first : (if i = q then Value.int .i64 (-1) else .int .i64 (doneR a b c (q + 1) i)) = .int .i64 (rowR a b c q 0 i) := by
  unfold doneR rowR
  by_cases h : i = q
  · subst h; rw [if_pos rfl, if_neg (by omega), if_pos rfl]; rfl
  · rw [if_neg h]
    by_cases h2 : i < q
    · rw [if_pos (by omega), if_pos h2]
    · rw [if_neg (by omega), if_neg h2, if_neg h]
theorem rowN_first : doneN a b c (q + 1) i = rowN a b c q 0 i := by
  unfold doneN rowN
  by_cases h : i = q
  · subst h; rw [if_pos (by omega), if_neg (by omega), if_pos rfl]; rfl
  · by_cases h2 : i < q
    · rw [if_pos (by omega), if_pos h2]
    · rw [if_neg (by omega), if_neg h2, if_neg h]
theorem rowR_here : rowR a b c q j q = (sc a c (rs a b c) q j).1 := by unfold rowR; rw [if_neg (by omega), if_pos rfl]
theorem rowN_here : rowN a b c q j q = (sc a c (rs a b c) q j).2 := by unfold rowN; rw [if_neg (by omega), if_pos rfl]
theorem rowR_gt (h : q < i) : rowR a b c q j i = rs a b c i := by unfold rowR; rw [if_neg (by omega), if_neg (by omega)]
theorem rowR_last (ha : 1 ≤ a) (hq : q < c.length) (hj : j = many a b c.length q) : rowR a b c q j i = doneR a b c q i := by
  unfold rowR doneR
  have hs := rs_step ha b c q hq
  by_cases h : i = q
  · subst h; rw [if_neg (by omega), if_pos rfl, if_neg (by omega), hj, ← hs]
  · by_cases h2 : i < q
    · rw [if_pos h2, if_pos h2]
    · rw [if_neg h2, if_neg h, if_neg h2]
theorem rowN_last (ha : 1 ≤ a) (hq : q < c.length) (hj : j = many a b c.length q) : rowN a b c q j i = doneN a b c q i := by
  unfold rowN doneN
  have hs := rs_step ha b c q hq
  by_cases h : i = q
  · subst h; rw [if_neg (by omega), if_pos rfl, if_neg (by omega), hj, ← hs]
  · by_cases h2 : i < q
    · rw [if_pos h2, if_pos h2]
    · rw [if_neg h2, if_neg h, if_neg h2]
/-- The next cut is better, or not. -/
theorem sc_yes {r : Nat → Int} (h0 : 0 ≤ r (q + a + j)) (h : (sc a c r q j).1 < 0 ∨ gI c (q + a + j - 1) + r (q + a + j) < (sc a c r q j).1) : sc a c r q (j + 1) = (gI c (q + a + j - 1) + r (q + a + j), q + a + j) := by rw [sc, if_pos ⟨h0, h⟩]
theorem sc_no {r : Nat → Int} (h : ¬ (0 ≤ r (q + a + j) ∧ ((sc a c r q j).1 < 0 ∨ gI c (q + a + j - 1) + r (q + a + j) < (sc a c r q j).1))) : sc a c r q (j + 1) = sc a c r q j := by rw [sc, if_neg h]
theorem rowR_yes {v : Int} (h : sc a c (rs a b c) q (j + 1) = (v, i)) (x : Nat) : (if x = q then Value.int .i64 v else .int .i64 (rowR a b c q j x)) = .int .i64 (rowR a b c q (j + 1) x) := by
  unfold rowR
  by_cases e : x = q
  · subst e; rw [if_pos rfl, if_neg (by omega), if_pos rfl, h]
  · rw [if_neg e]
    by_cases h2 : x < q
    · rw [if_pos h2, if_pos h2]
    · rw [if_neg h2, if_neg h2, if_neg e, if_neg e]
theorem rowN_yes {v : Int} (h : sc a c (rs a b c) q (j + 1) = (v, i)) (x : Nat) : (if x = q then Value.int .i64 (i : Nat) else .int .i64 (rowN a b c q j x : Nat)) = .int .i64 (rowN a b c q (j + 1) x : Nat) := by
  unfold rowN
  by_cases e : x = q
  · subst e; rw [if_pos rfl, if_neg (by omega), if_pos rfl, h]
  · rw [if_neg e]
    by_cases h2 : x < q
    · rw [if_pos h2, if_pos h2]
    · rw [if_neg h2, if_neg h2, if_neg e, if_neg e]
theorem rowR_no (h : sc a c (rs a b c) q (j + 1) = sc a c (rs a b c) q j) (x : Nat) : rowR a b c q j x = rowR a b c q (j + 1) x := by unfold rowR; rw [h]
theorem rowN_no (h : sc a c (rs a b c) q (j + 1) = sc a c (rs a b c) q j) (x : Nat) : rowN a b c q j x = rowN a b c q (j + 1) x := by unfold rowN; rw [h]
theorem sc_bd {r : Nat → Int} (B : Int) (hB : -1 ≤ B) (hc : ∀ k, 0 ≤ gI c k) : ∀ j, (∀ i, i < j → gI c (q + a + i - 1) + r (q + a + i) ≤ B) → -1 ≤ (sc a c r q j).1 ∧ (sc a c r q j).1 ≤ B
  | 0, _ => ⟨Int.le_refl _, hB⟩
  | j + 1, h => by
    have ih := sc_bd (r := r) B hB hc j (fun i hi => h i (by omega))
    have hj := h j (by omega)
    have := hc (q + a + j - 1)
    rw [sc]
    split
    · rename_i hh; have := hh.1; dsimp only; omega
    · exact ih
/-- The cuts that have been read, and those that are left. -/
def readTo (a b : Nat) (c : List Int) (k : Nat) (pre : List Int) : Prop := ∃ f, c.length - k ≤ f ∧ pre ++ bcF a b c f k = bcF a b c c.length 0 ∧ k ≤ c.length ∧ 0 ≤ rs a b c k ∧ pre.length ≤ k
theorem readTo_start (h : 0 ≤ rs a b c 0) : readTo a b c 0 [] := ⟨c.length, by omega, rfl, by omega, h, by simp⟩
theorem readTo_step (ha : 1 ≤ a) (hc : ∀ k, k < c.length → 0 ≤ gI c k) {k : Nat} {pre : List Int} (h : readTo a b c k pre) (hk : k < c.length) :
    readTo a b c (nx a b c k) (pre ++ [((nx a b c k : Nat) : Int) - 1]) ∧ k + a ≤ nx a b c k ∧ nx a b c k ≤ k + b ∧ nx a b c k ≤ c.length := by
  obtain ⟨f, h1, h2, h3, h4, h5⟩ := h
  rcases rs_cases (b := b) ha hc k hk with ⟨e, _⟩ | ⟨e1, e2, e3, e4, _⟩
  · omega
  · cases f with
    | zero => omega
    | succ f =>
      rw [bcF, if_pos hk] at h2
      exact ⟨⟨f, by omega, by rw [← h2]; simp, e3, e4, by simp; omega⟩, e1, e2, e3⟩
theorem readTo_end {pre : List Int} (h : readTo a b c c.length pre) : pre = bcF a b c c.length 0 := by
  obtain ⟨f, h1, h2, _⟩ := h
  rw [← h2]
  cases f with
  | zero => simp [bcF]
  | succ f => rw [bcF, if_neg (by omega)]; simp
end
theorem sig_nonneg {c : List Int} (h : sig c = true) (k : Nat) : 0 ≤ gI c k ∧ gI c k ≤ 1000 := by
  by_cases hk : k < c.length
  · exact ((sig_iff c).1 h).1 k hk
  · simp [gI, List.getElem?_eq_none (show c.length ≤ k by omega)]
theorem rs_small {a b : Nat} {c : List Int} (ha : 1 ≤ a) (h : sig c = true) {k : Nat} (hk : k ≤ c.length) : -1 ≤ rs a b c k ∧ rs a b c k ≤ 16000 := by
  have h1 := ((sig_iff c).1 h)
  have h2 := rs_le (b := b) ha h1.1 16 k hk (by omega)
  have h3 := rs_ge (b := b) ha (fun k hk => (h1.1 k hk).1) k hk
  omega
theorem bestOk_nat {c : List Int} {a b : Nat} (h1 : sig c = true) (h2 : dstOk a b = true) : bestOk c a b = decide (0 ≤ rs a b c 0) := by
  unfold bestOk; rw [h1, h2, Int.toNat_natCast, Int.toNat_natCast]; rfl
theorem many_iff {c : List Int} {a b : Nat} (h1 : sig c = true) (h2 : dstOk a b = true) : (1 ≤ manyV (c.length : Int) a b ↔ 0 ≤ rs a b c 0) := by
  have h3 := ((sig_iff c).1 h1)
  have h4 := dst_parts h2
  rw [manyV_yes (by omega) (by omega) h2, rs_ways (b := b) (by omega) (fun k hk => (h3.1 k hk).1) c.length 0 (by omega) (by omega)]
  simp only [Int.toNat_natCast, Nat.sub_zero]
  omega
theorem bestC_nat {c : List Int} {a b : Nat} (h : bestOk c a b = true) : bestC c a b = bcF a b c c.length 0 := by unfold bestC; rw [if_pos h, Int.toNat_natCast, Int.toNat_natCast]
theorem bestC_no {c : List Int} {lo hi : Int} (h : bestOk c lo hi = false) : bestC c lo hi = [] := by unfold bestC; rw [h]; rfl
theorem bcF_len (a b : Nat) (c : List Int) : ∀ f k, (bcF a b c f k).length ≤ f
  | 0, _ => Nat.le_refl _
  | f + 1, k => by
    rw [bcF]; split
    · have := bcF_len a b c f (nx a b c k); simp; omega
    · simp
theorem bestC_len (c : List Int) (lo hi : Int) : (bestC c lo hi).length ≤ 16 := by
  unfold bestC
  split
  · rename_i h
    have h1 := bcF_len lo.toNat hi.toNat c c.length 0
    simp only [bestOk, Bool.and_eq_true] at h
    have := ((sig_iff c).1 h.1.1).2.2
    omega
  · simp
end Go.Proofs.Ytbdhnfligfpigaa
