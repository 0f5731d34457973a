/- Contracts of MatchMost, in the program and in the reference, and of the tables behind it. No condition but that the lists have at most 1048576 elements. -/
import Derived.Test.YtihkdbgnoncgnaaPairTable
import Derived.Test.YtihkdbgnoncgnaaAlike
namespace Go.Proofs.Ytihkdbgnoncgnaa
open Go.RowKit

/-- The table of most pairs with the rows from ki on done, and of the row ahead of them the places from kk on. -/
def mTab (t : Int) (xs ys : List Int) (ki kk r c : Nat) : Int := if ki ≤ r ∨ (r + 1 = ki ∧ kk ≤ c) then (mAt t xs ys r c : Nat) else 0
section
variable {t : Int} {xs ys : List Int} {i k r c : Nat}
theorem mTab_start : mTab t xs ys (i + 1) ys.length r c = mTab t xs ys (i + 1) (ys.length + 1) r c := by
  unfold mTab
  by_cases h : i + 1 ≤ r ∨ (r + 1 = i + 1 ∧ ys.length ≤ c)
  · rw [if_pos h]
    by_cases h2 : i + 1 ≤ r ∨ (r + 1 = i + 1 ∧ ys.length + 1 ≤ c)
    · rw [if_pos h2]
    · rw [if_neg h2, mAt_right _ _ _ _ _ (by omega)]; rfl
  · rw [if_neg h, if_neg (by omega)]
theorem mTab_next (hc : c < ys.length + 1) : mTab t xs ys (i + 1) 0 r c = mTab t xs ys i (ys.length + 1) r c := by
  unfold mTab
  by_cases h : i + 1 ≤ r ∨ (r + 1 = i + 1 ∧ 0 ≤ c)
  · rw [if_pos h, if_pos (by omega)]
  · rw [if_neg h, if_neg (by omega)]
theorem mTab_first (hc : c < ys.length + 1) : mTab t xs ys xs.length (ys.length + 1) r c = 0 := by
  unfold mTab
  by_cases h : xs.length ≤ r ∨ (r + 1 = xs.length ∧ ys.length + 1 ≤ c)
  · rw [if_pos h, mAt_left _ _ _ _ _ (by omega)]; rfl
  · rw [if_neg h]
theorem mTab_last : mTab t xs ys 0 (ys.length + 1) r c = (mAt t xs ys r c : Nat) := by unfold mTab; rw [if_pos (by omega)]
theorem mTab_row : mTab t xs ys (i + 1) k (i + 1) c = (mAt t xs ys (i + 1) c : Nat) := by unfold mTab; rw [if_pos (by omega)]
theorem mTab_here (h : k ≤ c) : mTab t xs ys (i + 1) k i c = (mAt t xs ys i c : Nat) := by unfold mTab; rw [if_pos (by omega)]
theorem mTab_set {v : Int} (hv : v = (mAt t xs ys i k : Nat)) : (if r = i ∧ c = k then v else mTab t xs ys (i + 1) (k + 1) r c) = mTab t xs ys (i + 1) k r c := by
  by_cases h : r = i ∧ c = k
  · obtain ⟨rfl, rfl⟩ := h
    rw [if_pos ⟨rfl, rfl⟩, hv, mTab_here (Nat.le_refl _)]
  · rw [if_neg h]
    unfold mTab
    by_cases h2 : i + 1 ≤ r ∨ (r + 1 = i + 1 ∧ k + 1 ≤ c)
    · rw [if_pos h2, if_pos (by omega)]
    · rw [if_neg h2, if_neg (by omega)]
end
/-- Setting twice at one place. -/
theorem set_twice {f : Nat → Nat → Int} {i k r c : Nat} {u v : Int} : (if r = i ∧ c = k then v else (if r = i ∧ c = k then u else f r c)) = if r = i ∧ c = k then v else f r c := by
  by_cases h : r = i ∧ c = k
  · rw [if_pos h, if_pos h]
  · rw [if_neg h, if_neg h, if_neg h]


end Go.Proofs.Ytihkdbgnoncgnaa
