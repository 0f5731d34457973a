/- What is behind a best cut is best (no program in sight). No condition. -/
import Derived.Test.YtbdhnfligfpigaaCutMore
namespace Go.Proofs.Ytbdhnfligfpigaa
theorem sc_drop (a : Nat) (c : List Int) (d : Nat) (ha : 1 ≤ a) (r : Nat → Int) (k : Nat) : ∀ j, sc a (c.drop d) (fun i => r (d + i)) k j = ((sc a c r (d + k) j).1, (sc a c r (d + k) j).2 - d)
  | 0 => by simp [sc]
  | j + 1 => by
    rw [sc, sc_drop a c d ha r k j, sc]
    simp only [gI_drop]
    rw [show d + (k + a + j - 1) = d + k + a + j - 1 by omega, show d + (k + a + j) = d + k + a + j by omega]
    split
    · exact Prod.ext rfl (by show k + a + j = d + k + a + j - d; omega)
    · rfl
theorem tab_drop (a b : Nat) (c : List Int) (d : Nat) (ha : 1 ≤ a) (hd : d ≤ c.length) : ∀ m, m ≤ c.length - d → ∀ k, tab a b (c.drop d) m k = ((tab a b c m (d + k)).1, (tab a b c m (d + k)).2 - d)
  | 0, _, k => by simp [tab]
  | m + 1, hm, k => by
    rw [tab_succ, tab_succ, show (fun i => (tab a b (c.drop d) m i).1) = fun i => (fun i => (tab a b c m i).1) (d + i) from funext fun i => by rw [tab_drop a b c d ha hd m (by omega)], List.length_drop]
    by_cases h : k = c.length - d - (m + 1)
    · rw [if_pos h, if_pos (by omega), show many a b (c.length - d) k = many a b c.length (d + k) by unfold many; omega]
      exact sc_drop a c d ha (fun i => (tab a b c m i).1) k _
    · rw [if_neg h, if_neg (by omega)]
      exact tab_drop a b c d ha hd m (by omega) k
theorem rn_drop (a b : Nat) (c : List Int) (d : Nat) (ha : 1 ≤ a) (hd : d ≤ c.length) (k : Nat) : rs a b (c.drop d) k = rs a b c (d + k) ∧ nx a b (c.drop d) k = nx a b c (d + k) - d := by
  have h := tab_drop a b c d ha hd (c.length - d) (Nat.le_refl _) k
  rw [tab_rs (a := a) (b := b) (c := c) (m := c.length - d) (k := d + k) (by omega) (by omega)] at h
  unfold rs nx
  rw [List.length_drop, h]
  exact ⟨rfl, rfl⟩
theorem bcF_drop {a b : Nat} {c : List Int} (d : Nat) (ha : 1 ≤ a) (hc : ∀ k, k < c.length → 0 ≤ gI c k) (hd : d ≤ c.length) : ∀ f k, d + k ≤ c.length → 0 ≤ rs a b c (d + k) → bcF a b (c.drop d) f k = (bcF a b c f (d + k)).map (· - (d : Int))
  | 0, _, _, _ => rfl
  | f + 1, k, hk, h0 => by
    rw [bcF, bcF, List.length_drop]
    by_cases hlt : d + k < c.length
    · rw [if_pos (by omega), if_pos hlt, (rn_drop a b c d ha hd k).2]
      rcases rs_cases (b := b) ha hc (d + k) hlt with ⟨h, _⟩ | ⟨h1, h2, h3, h4, _⟩
      · omega
      · have e : d + (nx a b c (d + k) - d) = nx a b c (d + k) := by omega
        rw [bcF_drop d ha hc hd f _ (by omega) (by rw [e]; exact h4), e, List.map_cons]
        congr 1; omega
    · rw [if_neg (by omega), if_neg hlt]; rfl
theorem bcF_fuel {a b : Nat} {c : List Int} (ha : 1 ≤ a) (hc : ∀ k, k < c.length → 0 ≤ gI c k) : ∀ f f' k, k ≤ c.length → c.length - k ≤ f → c.length - k ≤ f' → 0 ≤ rs a b c k → bcF a b c f k = bcF a b c f' k
  | 0, f', k, hk, h1, h2, h0 => by
    cases f' with
    | zero => rfl
    | succ f' => rw [bcF, bcF, if_neg (by omega)]
  | f + 1, f', k, hk, h1, h2, h0 => by
    cases f' with
    | zero => rw [bcF, bcF, if_neg (by omega)]
    | succ f' =>
      rw [bcF, bcF]
      by_cases hlt : k < c.length
      · rw [if_pos hlt, if_pos hlt]
        rcases rs_cases (b := b) ha hc k hlt with ⟨h, _⟩ | ⟨i1, i2, i3, i4, _⟩
        · omega
        · rw [bcF_fuel ha hc f f' (nx a b c k) i3 (by omega) (by omega) i4]
      · rw [if_neg hlt, if_neg hlt]
theorem best_suffix {c : List Int} {lo hi : Int} (h : bestOk c lo hi = true) : ∃ t : Nat, 1 ≤ t ∧ t ≤ c.length ∧ ∃ xs : List Int, bestC c lo hi = ((t : Int) - 1) :: xs ∧ (xs ≠ [] → t < c.length ∧ bestOk (c.drop t) lo hi = true ∧ bestC (c.drop t) lo hi = xs.map (· - (t : Int))) := by
  have h' := h
  simp only [bestOk, Bool.and_eq_true, decide_eq_true_eq] at h'
  obtain ⟨⟨hs, hd⟩, hr⟩ := h'
  obtain ⟨a, b, rfl, rfl, d1, d2, d3⟩ := nat_of_dst hd
  rw [Int.toNat_natCast, Int.toNat_natCast] at hr
  have hc : ∀ k, k < c.length → 0 ≤ gI c k := fun k _ => (sig_nonneg hs k).1
  obtain ⟨q0, n1, n2⟩ := (sig_iff c).1 hs
  rcases rs_cases (b := b) d1 hc 0 (by omega) with ⟨e, _⟩ | ⟨i1, i2, i3, i4, _⟩
  · omega
  · refine ⟨nx a b c 0, by omega, i3, bcF a b c (c.length - 1) (nx a b c 0), ?_, fun hne => ?_⟩
    · rw [bestC_nat h]
      generalize hn : c.length = n at n1
      cases n with
      | zero => omega
      | succ n => rw [bcF, if_pos (by omega)]; rfl
    · have hlt : nx a b c 0 < c.length := by
        by_cases e : nx a b c 0 < c.length
        · exact e
        · exfalso
          apply hne
          cases c.length - 1 with
          | zero => rfl
          | succ n => rw [bcF, if_neg e]
      generalize ht : nx a b c 0 = t at *
      have hsig : sig (c.drop t) = true := (sig_iff _).2 ⟨fun k hk => by rw [gI_drop]; exact sig_nonneg hs _, by rw [List.length_drop]; omega, by rw [List.length_drop]; omega⟩
      have hrs := (rn_drop a b c t d1 i3 0).1
      rw [Nat.add_zero] at hrs
      have hok : bestOk (c.drop t) a b = true := by rw [bestOk_nat hsig hd, hrs]; exact decide_eq_true i4
      refine ⟨hlt, hok, ?_⟩
      rw [bestC_nat hok, bcF_drop t d1 hc i3 _ 0 (by omega) (by rw [Nat.add_zero]; exact i4), Nat.add_zero, List.length_drop]
      rw [bcF_fuel d1 hc (c.length - t) (c.length - 1) t i3 (by omega) (by omega) i4]
end Go.Proofs.Ytbdhnfligfpigaa
