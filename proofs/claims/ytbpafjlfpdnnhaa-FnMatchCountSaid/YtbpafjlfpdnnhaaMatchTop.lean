/- Plain facts for the laws of matchings (no program in sight). No condition. -/
import Derived.Test.YtbpafjlfpdnnhaaMM
import Derived.Test.YtbpafjlfpdnnhaaMatchMore
namespace Go.Proofs.Ytbpafjlfpdnnhaa

theorem ev_nil : ev [] = true := by decide
theorem szL_nil : szL [] = [] := rfl
theorem mtb_mk {a b : List (Int × Int)} {t : Int} (ha : ev a = true) (hb : ev b = true) (h0 : 0 ≤ t) (h1 : t ≤ 1000) : mtb a b t = true := by simp [mtb, ha, hb, h0, h1]
theorem mtb_comm (a b : List (Int × Int)) (t : Int) : mtb b a t = mtb a b t := by simp only [mtb, Bool.and_comm (ev b)]
theorem mmV_bd (a b : List (Int × Int)) (t : Int) : -1 ≤ mmV a b t ∧ mmV a b t ≤ 8 := by
  unfold mmV
  split
  · rename_i h
    have := (mostL_le t (szL a) (szL b)).1
    have h2 := ev_len (mtb_parts h).1
    rw [length_szL] at this
    omega
  · omega
theorem mmV_nilR {a b : List (Int × Int)} {t : Int} (h : mtb a b t = true) : mmV a [] t = 0 := by
  obtain ⟨h1, h2, h3, h4⟩ := mtb_parts h
  rw [mmV_yes (mtb_mk h1 ev_nil h3 h4), szL_nil, mostL_nil']; rfl
theorem mmV_nilL {a b : List (Int × Int)} {t : Int} (h : mtb a b t = true) : mmV [] b t = 0 := by
  obtain ⟨h1, h2, h3, h4⟩ := mtb_parts h
  rw [mmV_yes (mtb_mk ev_nil h2 h3 h4), szL_nil, mostL_nil]; rfl
theorem mmV_comm (a b : List (Int × Int)) (t : Int) : mmV b a t = mmV a b t := by unfold mmV; rw [mtb_comm, mostL_comm]
theorem fA_take {l : List (Int × Int)} {k j : Nat} (h : k < j) : fA (l.take j) k = fA l k ∧ fB (l.take j) k = fB l k := by
  unfold fA fB
  rw [List.getD_eq_getElem?_getD, List.getElem?_take, if_pos h, ← List.getD_eq_getElem?_getD]; exact ⟨rfl, rfl⟩
theorem ev_take {l : List (Int × Int)} (h : ev l = true) (j : Nat) : ev (l.take j) = true := by
  rw [ev_iff_at] at h ⊢
  obtain ⟨h1, h2⟩ := h
  refine ⟨fun k hk => ?_, by rw [List.length_take]; omega⟩
  rw [List.length_take] at hk
  have := h1 k (by omega)
  unfold EvAt at this ⊢
  rw [(fA_take (l := l) (j := j) (k := k) (by omega)).1, (fA_take (l := l) (j := j) (k := k) (by omega)).2, (fA_take (l := l) (j := j) (k := k - 1) (by omega)).1]
  exact this
theorem szL_take (l : List (Int × Int)) (j : Nat) : szL (l.take j) = (szL l).take j := by simp [szL, List.map_take]
theorem take_last {l : List Int} (h : 0 < l.length) : l = l.take (l.length - 1) ++ [gI l (l.length - 1)] := by
  rw [gI_lt (by omega), ← List.take_succ_eq_append_getElem (by omega), show l.length - 1 + 1 = l.length by omega, List.take_length]
/-- One event less. -/
theorem mmV_less {a b : List (Int × Int)} {t : Int} (h : mtb a b t = true) (hl : 0 < a.length) : mmV (a.take (a.length - 1)) b t = (mostL t (szL a) (szL b) : Nat) ∨ mmV (a.take (a.length - 1)) b t = (mostL t (szL a) (szL b) : Nat) - 1 := by
  obtain ⟨h1, h2, h3, h4⟩ := mtb_parts h
  rw [mmV_yes (mtb_mk (ev_take h1 _) h2 h3 h4), szL_take]
  have e := take_last (l := szL a) (by rw [length_szL]; exact hl)
  have hs := mostL_snoc' t (gI (szL a) ((szL a).length - 1)) ((szL a).take ((szL a).length - 1)) (szL b)
  rw [← e, length_szL] at hs
  omega
theorem mmV_more {a b : List (Int × Int)} {t : Int} (h : mtb a b t = true) (ht : t < 1000) : ((mostL t (szL a) (szL b) : Nat) : Int) ≤ mmV a b (t + 1) := by
  obtain ⟨h1, h2, h3, h4⟩ := mtb_parts h
  rw [mmV_yes (mtb_mk h1 h2 (by omega) (by omega))]
  have := mostL_more (t := t) (s := t + 1) (by omega) (szL a) (szL b)
  omega
theorem most_nil {a b : List (Int × Int)} {t : Int} (h : a.length = 0) : mostL t (szL a) (szL b) = 0 := by
  rw [List.eq_nil_of_length_eq_zero h, szL_nil, mostL_nil]
end Go.Proofs.Ytbpafjlfpdnnhaa
