/- Twice the costs have the same best cuts (no program in sight). No condition. -/
import Derived.Test.YtbdhnfligfpigaaCutMore
namespace Go.Proofs.Ytbdhnfligfpigaa
def dbl (x : Int) : Int := if x < 0 then -1 else 2 * x
def twice (c : List Int) : List Int := c.map (2 * ·)
theorem twice_len (c : List Int) : (twice c).length = c.length := by simp [twice]
theorem twice_gI (c : List Int) (k : Nat) : gI (twice c) k = 2 * gI c k := by
  unfold gI twice
  rw [List.getD_eq_getElem?_getD, List.getD_eq_getElem?_getD, List.getElem?_map]
  cases c[k]? <;> rfl
theorem dbl_nonneg (x : Int) : 0 ≤ dbl x ↔ 0 ≤ x := by unfold dbl; split <;> omega
theorem sc_twice (a : Nat) (c : List Int) (hc : ∀ k, 0 ≤ gI c k) (r : Nat → Int) (k : Nat) : ∀ j, sc a (twice c) (fun i => dbl (r i)) k j = (dbl (sc a c r k j).1, (sc a c r k j).2)
  | 0 => rfl
  | j + 1 => by
    have ih := sc_twice a c hc r k j
    have h0 := hc (k + a + j - 1)
    have hiff : (0 ≤ dbl (r (k + a + j)) ∧ (dbl (sc a c r k j).1 < 0 ∨ 2 * gI c (k + a + j - 1) + dbl (r (k + a + j)) < dbl (sc a c r k j).1)) ↔ (0 ≤ r (k + a + j) ∧ ((sc a c r k j).1 < 0 ∨ gI c (k + a + j - 1) + r (k + a + j) < (sc a c r k j).1)) := by
      unfold dbl; split <;> split <;> omega
    by_cases h : 0 ≤ r (k + a + j) ∧ ((sc a c r k j).1 < 0 ∨ gI c (k + a + j - 1) + r (k + a + j) < (sc a c r k j).1)
    · rw [sc, ih, sc, if_pos h]
      simp only [twice_gI]
      rw [if_pos (hiff.2 h)]
      refine Prod.ext ?_ rfl
      have := h.1
      show 2 * gI c (k + a + j - 1) + dbl (r (k + a + j)) = dbl (gI c (k + a + j - 1) + r (k + a + j))
      unfold dbl; split <;> split <;> omega
    · rw [sc, ih, sc, if_neg h]
      simp only [twice_gI]
      rw [if_neg (fun h' => h (hiff.1 h'))]
theorem tab_twice (a b : Nat) (c : List Int) (hc : ∀ k, 0 ≤ gI c k) : ∀ m k, tab a b (twice c) m k = (dbl (tab a b c m k).1, (tab a b c m k).2)
  | 0, _ => rfl
  | m + 1, k => by
    rw [tab_succ, tab_succ, twice_len, show (fun i => (tab a b (twice c) m i).1) = fun i => dbl (tab a b c m i).1 from funext fun i => by rw [tab_twice a b c hc m i]]
    split
    · exact sc_twice a c hc (fun i => (tab a b c m i).1) k _
    · exact tab_twice a b c hc m k
theorem rs_twice (a b : Nat) (c : List Int) (hc : ∀ k, 0 ≤ gI c k) (k : Nat) : rs a b (twice c) k = dbl (rs a b c k) := by unfold rs; rw [twice_len, tab_twice a b c hc]
theorem nx_twice (a b : Nat) (c : List Int) (hc : ∀ k, 0 ≤ gI c k) (k : Nat) : nx a b (twice c) k = nx a b c k := by unfold nx; rw [twice_len, tab_twice a b c hc]
theorem bcF_twice (a b : Nat) (c : List Int) (hc : ∀ k, 0 ≤ gI c k) : ∀ f k, bcF a b (twice c) f k = bcF a b c f k
  | 0, _ => rfl
  | f + 1, k => by rw [bcF, bcF, twice_len, nx_twice a b c hc, bcF_twice a b c hc f]
/-- Either the doubled costs are no signal, or their best cuts are the same. -/
theorem best_twice {c : List Int} {lo hi : Int} (h : bestOk c lo hi = true) : (bestOk (twice c) lo hi = false ∧ bestC (twice c) lo hi = []) ∨ (bestOk (twice c) lo hi = true ∧ bestC (twice c) lo hi = bestC c lo hi) := by
  cases h2 : bestOk (twice c) lo hi with
  | false => exact .inl ⟨rfl, bestC_no h2⟩
  | true =>
    refine .inr ⟨rfl, ?_⟩
    have hs : sig c = true := by have h' := h; simp only [bestOk, Bool.and_eq_true] at h'; exact h'.1.1
    unfold bestC
    rw [if_pos h, if_pos h2, twice_len]
    exact bcF_twice _ _ c (fun k => (sig_nonneg hs k).1) _ _
end Go.Proofs.Ytbdhnfligfpigaa
