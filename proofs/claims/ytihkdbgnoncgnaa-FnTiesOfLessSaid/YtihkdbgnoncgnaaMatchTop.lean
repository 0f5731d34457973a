/- Plain facts for the laws of matchings (no program in sight). No condition. -/
import Derived.Test.YtihkdbgnoncgnaaMM
import Derived.Test.YtihkdbgnoncgnaaMatchMore
namespace Go.Proofs.Ytihkdbgnoncgnaa

theorem ev_nil : ev [] = true := by decide
theorem szL_nil : szL [] = [] := rfl
theorem mtb_mk {a b : List (Int × Int)} {t : Int} (ha : ev a = true) (hb : ev b = true) (h0 : 0 ≤ t) (h1 : t ≤ 1000) : mtb a b t = true := by simp [mtb, ha, hb, h0, h1]
theorem mtb_comm (a b : List (Int × Int)) (t : Int) : mtb b a t = mtb a b t := by simp only [mtb, Bool.and_comm (ev b)]
theorem mmV_bd (a b : List (Int × Int)) (t : Int) : -1 ≤ mmV a b t ∧ mmV a b t ≤ 8 := by
  unfold mmV
  split
  · rename_i h
    have := (mostL_le t (szL a) (szL b)).1
    have h2 := ev_len (mtb_parts h).1
    rw [length_szL] at this
    omega
  · omega
theorem mmV_nilR {a b : List (Int × Int)} {t : Int} (h : mtb a b t = true) : mmV a [] t = 0 := by
  obtain ⟨h1, h2, h3, h4⟩ := mtb_parts h
  rw [mmV_yes (mtb_mk h1 ev_nil h3 h4), szL_nil, mostL_nil']; rfl
theorem mmV_nilL {a b : List (Int × Int)} {t : Int} (h : mtb a b t = true) : mmV [] b t = 0 := by
  obtain ⟨h1, h2, h3, h4⟩ := mtb_parts h
  rw [mmV_yes (mtb_mk ev_nil h2 h3 h4), szL_nil, mostL_nil]; rfl
theorem mmV_comm (a b : List (Int × Int)) (t : Int) : mmV b a t = mmV a b t := by unfold mmV; rw [mtb_comm, mostL_comm]
theorem szL_take (l : List (Int × Int)) (j : Nat) : szL (l.take j) = (szL l).take j := by simp [szL, List.map_take]
theorem take_last {l : List Int} (h : 0 < l.length) : l = l.take (l.length - 1) ++ [gI l (l.length - 1)] := by
  rw [gI_lt (by omega), ← List.take_succ_eq_append_getElem (by omega), show l.length - 1 + 1 = l.length by omega, List.take_length]
/-- One event less. -/
theorem mmV_less {a b : List (Int × Int)} {t : Int} (h : mtb a b t = true) (hl : 0 < a.length) : mmV (a.take (a.length - 1)) b t = (mostL t (szL a) (szL b) : Nat) ∨ mmV (a.take (a.length - 1)) b t = (mostL t (szL a) (szL b) : Nat) - 1 := by
  obtain ⟨h1, h2, h3, h4⟩ := mtb_parts h
  rw [mmV_yes (mtb_mk (ev_take h1 _) h2 h3 h4), szL_take]
  have e := take_last (l := szL a) (by rw [length_szL]; exact hl)
  have hs := mostL_snoc' t (gI (szL a) ((szL a).length - 1)) ((szL a).take ((szL a).length - 1)) (szL b)
  rw [← e, length_szL] at hs
  omega
theorem mmV_more {a b : List (Int × Int)} {t : Int} (h : mtb a b t = true) (ht : t < 1000) : ((mostL t (szL a) (szL b) : Nat) : Int) ≤ mmV a b (t + 1) := by
  obtain ⟨h1, h2, h3, h4⟩ := mtb_parts h
  rw [mmV_yes (mtb_mk h1 h2 (by omega) (by omega))]
  have := mostL_more (t := t) (s := t + 1) (by omega) (szL a) (szL b)
  omega
theorem most_nil {a b : List (Int × Int)} {t : Int} (h : a.length = 0) : mostL t (szL a) (szL b) = 0 := by
  rw [List.eq_nil_of_length_eq_zero h, szL_nil, mostL_nil]
/-! ## depths moved, sizes turned -/
def shiftD (l : List (Int × Int)) : List (Int × Int) := l.map fun p => (p.1 + 1, p.2)
theorem length_shiftD (l : List (Int × Int)) : (shiftD l).length = l.length := by simp [shiftD]
theorem szL_shiftD (l : List (Int × Int)) : szL (shiftD l) = szL l := by simp [szL, shiftD]
theorem take_pair (l : List (Int × Int)) (k : Nat) (hk : k < l.length) : l.take (k + 1) = l.take k ++ [(fA l k, fB l k)] := by
  rw [List.take_succ_eq_append_getElem hk, fA_lt hk, fB_lt hk]
theorem shiftD_take (l : List (Int × Int)) (k : Nat) (hk : k < l.length) : shiftD (l.take (k + 1)) = shiftD (l.take k) ++ [(fA l k + 1, fB l k)] := by
  rw [take_pair l k hk]; simp [shiftD]
theorem mmV_shift {a b : List (Int × Int)} {t : Int} (h : mtb a b t = true) : ev (shiftD a) = true ∧ mmV (shiftD a) b t = (mostL t (szL a) (szL b) : Nat) ∨ ev (shiftD a) = false ∧ mmV (shiftD a) b t = -1 := by
  obtain ⟨h1, h2, h3, h4⟩ := mtb_parts h
  cases he : ev (shiftD a) with
  | true => exact .inl ⟨rfl, by rw [mmV_yes (mtb_mk he h2 h3 h4), szL_shiftD]⟩
  | false => exact .inr ⟨rfl, mmV_no (by simp [mtb, he])⟩
/-- The depths with the sizes in the other direction, the first k of them. -/
def revTo (l : List (Int × Int)) (k : Nat) : List (Int × Int) := (List.range k).map fun i => (fA l i, fB l (l.length - 1 - i))
def revD (l : List (Int × Int)) : List (Int × Int) := revTo l l.length
theorem length_revTo (l : List (Int × Int)) (k : Nat) : (revTo l k).length = k := by simp [revTo]
theorem revTo_succ (l : List (Int × Int)) (k : Nat) : revTo l (k + 1) = revTo l k ++ [(fA l k, fB l (l.length - 1 - k))] := by simp [revTo, List.range_succ]
theorem revTo_at {l : List (Int × Int)} {k i : Nat} (h : i < k) : fA (revTo l k) i = fA l i ∧ fB (revTo l k) i = fB l (l.length - 1 - i) := by
  rw [fA_lt (by rw [length_revTo]; exact h), fB_lt (by rw [length_revTo]; exact h)]; simp [revTo]
theorem szL_revD (l : List (Int × Int)) : szL (revD l) = (szL l).reverse := by
  apply List.ext_getElem
  · simp [szL, revD, revTo]
  · intro i h1 h2
    simp only [szL, revD, revTo, List.map_map, List.length_map, List.length_range] at h1
    rw [List.getElem_reverse]
    simp only [szL, revD, revTo, List.getElem_map, List.getElem_range, List.length_map]
    rw [fB_lt (by omega)]
theorem ev_revD {l : List (Int × Int)} (h : ev l = true) : ev (revD l) = true := by
  rw [ev_iff_at] at h ⊢
  obtain ⟨h1, h2⟩ := h
  have hlen : (revD l).length = l.length := length_revTo ..
  refine ⟨fun k hk => ?_, by rw [hlen]; exact h2⟩
  rw [hlen] at hk
  have g1 := h1 k hk
  have g2 := h1 (l.length - 1 - k) (by omega)
  simp only [EvAt, Bool.and_eq_true] at g1 g2 ⊢
  obtain ⟨e1, e2⟩ := revTo_at (l := l) (k := l.length) (i := k) hk
  obtain ⟨e3, _⟩ := revTo_at (l := l) (k := l.length) (i := k - 1) (by omega)
  unfold revD
  rw [e1, e2, e3]
  exact ⟨⟨g1.1.1, g2.1.2⟩, g1.2⟩
theorem mmV_rev {a b : List (Int × Int)} {t : Int} (h : mtb a b t = true) : mmV (revD a) (revD b) t = (mostL t (szL a) (szL b) : Nat) := by
  obtain ⟨h1, h2, h3, h4⟩ := mtb_parts h
  rw [mmV_yes (mtb_mk (ev_revD h1) (ev_revD h2) h3 h4), szL_revD, szL_revD, mostL_reverse]
/-! ## one event more -/
theorem ev_snoc {l : List (Int × Int)} {d s : Int} (h : ev l = true) (hl : l.length < 8) (hd0 : 0 ≤ d) (hd : d ≤ 30000) (hs0 : 1 ≤ s) (hs : s ≤ 1000) (hb : 0 < l.length → fA l (l.length - 1) < d) : ev (l ++ [(d, s)]) = true := by
  rw [ev_iff_at] at h ⊢
  refine ⟨fun k hk => ?_, by simp; omega⟩
  simp only [List.length_append, List.length_singleton] at hk
  by_cases e : k < l.length
  · have := h.1 k e
    unfold EvAt at this ⊢
    have q : ∀ j, j < l.length → fA (l ++ [(d, s)]) j = fA l j ∧ fB (l ++ [(d, s)]) j = fB l j := fun j hj => by simp [fA, fB, List.getElem?_append_left hj]
    rw [(q k e).1, (q k e).2, (q (k - 1) (by omega)).1]
    exact this
  · obtain rfl : k = l.length := by omega
    have e1 : fA (l ++ [(d, s)]) l.length = d := by simp [fA]
    have e2 : fB (l ++ [(d, s)]) l.length = s := by simp [fB]
    unfold EvAt
    rw [e1, e2]
    simp only [depthOk, sizeOk, Bool.and_eq_true, decide_eq_true_eq, Bool.or_eq_true]
    refine ⟨⟨⟨hd0, hd⟩, hs0, hs⟩, ?_⟩
    by_cases e0 : l.length = 0
    · exact .inl e0
    · right
      have e3 : fA (l ++ [(d, s)]) (l.length - 1) = fA l (l.length - 1) := by simp [fA, List.getElem?_append_left (show l.length - 1 < l.length by omega)]
      rw [e3]; exact hb (by omega)
theorem szL_snoc (l : List (Int × Int)) (d s : Int) : szL (l ++ [(d, s)]) = szL l ++ [s] := by simp [szL]
theorem mmV_add {a b : List (Int × Int)} {t d s : Int} (h : mtb a b t = true) (hl : b.length < 8) (hd0 : 0 ≤ d) (hd : d ≤ 30000) (hs0 : 1 ≤ s) (hs : s ≤ 1000) (hb : 0 < b.length → fA b (b.length - 1) < d) :
    mmV a (b ++ [(d, s)]) t = (mostL t (szL a) (szL b) : Nat) ∨ mmV a (b ++ [(d, s)]) t = (mostL t (szL a) (szL b) : Nat) + 1 := by
  obtain ⟨h1, h2, h3, h4⟩ := mtb_parts h
  rw [mmV_yes (mtb_mk h1 (ev_snoc h2 hl hd0 hd hs0 hs hb) h3 h4), szL_snoc]
  have := mostL_snoc t s (szL a) (szL b)
  omega
theorem ev_depth {l : List (Int × Int)} (h : ev l = true) {k : Nat} (hk : k < l.length) : 0 ≤ fA l k ∧ fA l k ≤ 30000 := by
  have := ((ev_iff_at l).1 h).1 k hk
  simp only [EvAt, depthOk, Bool.and_eq_true, decide_eq_true_eq] at this
  exact this.1.1
end Go.Proofs.Ytihkdbgnoncgnaa
