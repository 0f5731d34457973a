/- Plain facts for the laws of best matchings. No condition. -/
import Derived.Test.YtgfahnmkfgfibaaBest
import Derived.Test.YtgfahnmkfgfibaaMany
import Derived.Test.YtgfahnmkfgfibaaMatchTop
namespace Go.Proofs.Ytgfahnmkfgfibaa
theorem okV_best {a b : List (Int × Int)} {t : Int} (h : mtb a b t = true) : okV a b t (bestV a b t) = true := by
  rw [okV, h, bestV_yes h, (bestL_ok t (szL a) (szL b)).1]; rfl
theorem manyV_best {a b : List (Int × Int)} {t : Int} (h : mtb a b t = true) : manyV a b t (bestV a b t) = mmV a b t := by
  rw [manyV_yes (okV_best h), mmV_yes h, bestV_yes h, (bestL_ok t (szL a) (szL b)).2]
theorem bestV_length {a b : List (Int × Int)} {t : Int} (h : mtb a b t = true) : (bestV a b t).length = a.length := by rw [bestV_yes h, length_bestL, length_szL]
theorem best_self {a b : List (Int × Int)} {t : Int} (h : mtb a b t = true) : mtb a a t = true ∧ (bestV a a t).length = a.length ∧ (∀ k, k < a.length → gI (bestV a a t) k = k) ∧ mmV a a t = a.length := by
  obtain ⟨h1, h2, h3, h4⟩ := mtb_parts h
  have hh := mtb_mk h1 h1 h3 h4
  refine ⟨hh, bestV_length hh, fun k hk => ?_, ?_⟩
  · rw [bestV_yes hh]; exact bestL_self h3 _ k (by rw [length_szL]; exact hk)
  · rw [mmV_yes hh, mostL_self h3, length_szL]
theorem okV_mk {a b : List (Int × Int)} {t : Int} {ms : List Int} (h : mtb a b t = true) : okV a b t ms = mOk t (szL b) (szL a) ms (-1) := by rw [okV, h, Bool.true_and]
theorem best_any {a b : List (Int × Int)} {t : Int} (h : mtb a b t = true) {i k : Nat} (hi : i < a.length) (hg : gI (bestV a b t) i < 0) : okV a b t ((bestV a b t).set i k) = false := by
  rw [okV_mk h]
  rw [bestV_yes h] at hg ⊢
  exact bestL_any (by rw [length_szL]; exact hi) hg (by omega)
theorem best_first {a b : List (Int × Int)} {t : Int} (h : mtb a b t = true) {i k : Nat} (hi : i < a.length) (h1 : lastTo (bestV a b t) i < k) (h2 : (k : Int) < gI (bestV a b t) i) : okV a b t ((bestV a b t).set i k) = false := by
  rw [okV_mk h]
  rw [bestV_yes h] at h1 h2 ⊢
  exact bestL_first (by rw [length_szL]; exact hi) h1 h2
theorem best_bd {a b : List (Int × Int)} {t : Int} (h : mtb a b t = true) {i : Nat} (hi : i < a.length) : -1 ≤ gI (bestV a b t) i ∧ gI (bestV a b t) i < b.length := by
  have hk := (bestL_ok t (szL a) (szL b)).1
  rw [mOk_iff _ _ _ _ _ (by omega)] at hk
  rw [bestV_yes h]
  rcases hk.2.1 i (by rw [length_szL]; exact hi) with h | h
  · omega
  · rw [length_szL] at h; omega
theorem lastTo_bd {l : List Int} {B : Int} (hB : -1 ≤ B) (h : ∀ k, k < l.length → gI l k ≤ B) : ∀ k, k ≤ l.length → -1 ≤ lastTo l k ∧ lastTo l k ≤ B
  | 0, _ => ⟨Int.le_refl _, hB⟩
  | k + 1, hk => by
    have ih := lastTo_bd hB h k (by omega)
    have := h k (by omega)
    rw [lastTo]; omega
end Go.Proofs.Ytgfahnmkfgfibaa
