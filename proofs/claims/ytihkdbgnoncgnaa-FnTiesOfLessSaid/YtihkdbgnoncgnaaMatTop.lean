/- Plain facts for the laws of matchings given as lists. No condition. -/
import Derived.Test.YtihkdbgnoncgnaaMany
import Derived.Test.YtihkdbgnoncgnaaMatchTop
import Derived.Test.YtihkdbgnoncgnaaInts
namespace Go.Proofs.Ytihkdbgnoncgnaa
theorem okV_of {a b : List (Int × Int)} {t : Int} {ms : List Int} (h : mtb a b t = true) (h2 : mOk t (szL b) (szL a) ms (-1) = true) : okV a b t ms = true := by rw [okV, h, h2]; rfl
theorem okV_drop {a b : List (Int × Int)} {t : Int} {ms : List Int} (h : okV a b t ms = true) (j : Nat) : okV a b t (putI ms j (-1)) = true := by
  obtain ⟨h1, h2, _⟩ := okV_parts h
  exact okV_of h1 (mOk_drop (by omega) h2 j)
theorem okV_more {a b : List (Int × Int)} {t : Int} {ms : List Int} (h : okV a b t ms = true) (ht : t < 1000) : okV a b (t + 1) ms = true := by
  obtain ⟨h1, h2, _⟩ := okV_parts h
  obtain ⟨h3, h4, h5, h6⟩ := mtb_parts h1
  exact okV_of (mtb_mk h3 h4 (by omega) (by omega)) (mOk_more (by omega) _ _ _ _ h2)
theorem many_bd {a b : List (Int × Int)} {t : Int} {ms : List Int} (h : okV a b t ms = true) : ((prs ms : Nat) : Int) ≤ mmV a b t ∧ prs ms ≤ a.length ∧ prs ms ≤ b.length := by
  obtain ⟨h1, h2, _⟩ := okV_parts h
  have h3 := mOk_le h2
  have h4 := mostL_le t (szL a) (szL b)
  rw [length_szL, length_szL] at h4
  rw [mmV_yes h1]
  omega
theorem okV_inv {a b : List (Int × Int)} {t : Int} {ms : List Int} (h : okV a b t ms = true) : okV b a t (invTo ms b.length a.length) = true ∧ manyV b a t (invTo ms b.length a.length) = manyV a b t ms := by
  obtain ⟨h1, h2, _⟩ := okV_parts h
  have h3 := inv_all h2
  rw [length_szL, length_szL] at h3
  have h4 := okV_of (by rw [mtb_comm]; exact h1) h3.1
  exact ⟨h4, by rw [manyV_yes h4, manyV_yes h, h3.2]⟩
theorem okV_at {a b : List (Int × Int)} {t : Int} {ms : List Int} (h : okV a b t ms = true) {i : Nat} (hi : i < a.length) : gI ms i = -1 ∨ (0 ≤ gI ms i ∧ gI ms i < b.length) := by
  obtain ⟨h1, h2, _⟩ := okV_parts h
  rw [mOk_iff _ _ _ _ _ (by omega)] at h2
  rcases h2.2.1 i (by rw [length_szL]; exact hi) with h | h
  · exact .inl h
  · rw [length_szL] at h; exact .inr ⟨by omega, h.2.1⟩
theorem okV_none {a b : List (Int × Int)} {t : Int} (h : mtb a b t = true) : okV a b t (noneL a.length) = true := by
  have := mOk_none t (szL b) (-1) (szL a)
  rw [length_szL] at this
  exact okV_of h this
end Go.Proofs.Ytihkdbgnoncgnaa
