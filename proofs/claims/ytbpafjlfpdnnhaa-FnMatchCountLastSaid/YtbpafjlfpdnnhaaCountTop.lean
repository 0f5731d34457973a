/- More plain facts for the laws that count matchings. No condition. -/
import Derived.Test.YtbpafjlfpdnnhaaMatchTop
import Derived.Test.YtbpafjlfpdnnhaaCount
namespace Go.Proofs.Ytbpafjlfpdnnhaa
theorem mcV_nilR {a b : List (Int × Int)} {t : Int} (h : mtb a b t = true) : mcV a [] t = 1 := by
  obtain ⟨h1, h2, h3, h4⟩ := mtb_parts h
  rw [mcV_yes (mtb_mk h1 ev_nil h3 h4), szL_nil, countL_nil']; rfl
theorem mcV_comm (a b : List (Int × Int)) (t : Int) : mcV b a t = mcV a b t := by unfold mcV; rw [mtb_comm, countL_comm]
theorem mcV_bd (a b : List (Int × Int)) (t : Int) : -1 ≤ mcV a b t ∧ mcV a b t ≤ 12870 := by
  unfold mcV
  split
  · rename_i h
    obtain ⟨h1, h2, _, _⟩ := mtb_parts h
    have := cAt_le (t := t) (xs := szL a) (ys := szL b) (i := 0) (k := 0) (by rw [length_szL]; exact ev_len h1) (by rw [length_szL]; exact ev_len h2)
    rw [cAt_00] at this
    omega
  · omega
theorem mcV_more {a b : List (Int × Int)} {t : Int} (h : mtb a b t = true) (ht : t < 1000) : ((countL t (szL a) (szL b) : Nat) : Int) ≤ mcV a b (t + 1) := by
  obtain ⟨h1, h2, h3, h4⟩ := mtb_parts h
  rw [mcV_yes (mtb_mk h1 h2 (by omega) (by omega))]
  have := countL_more (t := t) (s := t + 1) (by omega) (szL a) (szL b)
  omega
theorem mem_szL {l : List (Int × Int)} (h : ev l = true) {x : Int} (hx : x ∈ szL l) : 1 ≤ x ∧ x ≤ 1000 := by
  obtain ⟨k, hk, rfl⟩ := List.getElem_of_mem hx
  rw [length_szL] at hk
  have := ev_size h hk
  rw [← gI_szL, gI_lt (by rw [length_szL]; exact hk)] at this
  exact this
theorem mcV_all {a b : List (Int × Int)} (h1 : ev a = true) (h2 : ev b = true) : mcV a b 1000 = (pas a.length b.length : Nat) := by
  rw [mcV_yes (mtb_mk h1 h2 (by omega) (by omega)), countL_all, length_szL, length_szL]
  intro x hx y hy
  have := mem_szL h1 hx
  have := mem_szL h2 hy
  simp [lk]; omega
theorem count_nil {a b : List (Int × Int)} {t : Int} (h : a.length = 0) : countL t (szL a) (szL b) = 1 := by
  rw [List.eq_nil_of_length_eq_zero h, szL_nil, countL_nil]
/-- The matchings without the last event, over the first k of the other list; and those with it. -/
def partC (t : Int) (a b : List (Int × Int)) (k : Nat) : Nat := countL t ((szL a).take (a.length - 1)) ((szL b).take k)
def partS (t : Int) (a b : List (Int × Int)) (k : Nat) : Nat := hsum t (countL t ((szL a).take (a.length - 1))) (fB a (a.length - 1)) (szL b) k
theorem mcV_part {a b : List (Int × Int)} {t : Int} (h : mtb a b t = true) (_hl : 0 < a.length) {k : Nat} (_hk : k ≤ b.length) : mcV (a.take (a.length - 1)) (b.take k) t = (partC t a b k : Nat) := by
  obtain ⟨h1, h2, h3, h4⟩ := mtb_parts h
  rw [mcV_yes (mtb_mk (ev_take h1 _) (ev_take h2 _) h3 h4), szL_take, szL_take]; rfl
theorem mcV_total {a b : List (Int × Int)} {t : Int} (_h : mtb a b t = true) (hl : 0 < a.length) : countL t (szL a) (szL b) = partC t a b b.length + partS t a b b.length := by
  have e := take_last (l := szL a) (by rw [length_szL]; exact hl)
  rw [length_szL, gI_szL] at e
  have h := countL_last t (fB a (a.length - 1)) ((szL a).take (a.length - 1)) (szL b)
  rw [← e, length_szL] at h
  unfold partC partS
  rw [h, show (szL b).take b.length = szL b from List.take_of_length_le (by rw [length_szL]; exact Nat.le_refl _)]
theorem partS_yes {t : Int} {a b : List (Int × Int)} {k : Nat} (h : lk t (fB a (a.length - 1)) (fB b k) = true) : partS t a b (k + 1) = partS t a b k + partC t a b k := by
  unfold partS partC
  rw [hsum, gI_szL, if_pos h]
theorem partS_no {t : Int} {a b : List (Int × Int)} {k : Nat} (h : lk t (fB a (a.length - 1)) (fB b k) = false) : partS t a b (k + 1) = partS t a b k := by
  unfold partS
  rw [hsum, gI_szL, h]; rfl
theorem partS_le {t : Int} {a b : List (Int × Int)} {k : Nat} (h : mtb a b t = true) (hl : 0 < a.length) (hk : k ≤ b.length) : partC t a b b.length + partS t a b k ≤ 12870 := by
  obtain ⟨h1, h2, _, _⟩ := mtb_parts h
  have e := take_last (l := szL a) (by rw [length_szL]; exact hl)
  rw [length_szL, gI_szL] at e
  have h5 := hsum_le (t := t) (xs := (szL a).take (a.length - 1)) (ys := szL b) (fB a (a.length - 1)) (k := k) (by rw [length_szL]; exact hk)
  rw [← e] at h5
  have h6 := cAt_le (t := t) (xs := szL a) (ys := szL b) (i := 0) (k := 0) (by rw [length_szL]; exact ev_len h1) (by rw [length_szL]; exact ev_len h2)
  rw [cAt_00] at h6
  unfold partC partS
  rw [show (szL b).take b.length = szL b from List.take_of_length_le (by rw [length_szL]; exact Nat.le_refl _)]
  omega
end Go.Proofs.Ytbpafjlfpdnnhaa
