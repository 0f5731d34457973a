/- Contracts of MatchMost, in the program and in the reference. No condition but that the lists have at most 1048576 elements. -/
import Derived.Test.YtihkdbgnoncgnaaMostS
namespace Go.Proofs.Ytihkdbgnoncgnaa
open Go.RowKit

def mmV (a b : List (Int × Int)) (t : Int) : Int := if mtb a b t then (mostL t (szL a) (szL b) : Nat) else -1
theorem mtb_parts {a b : List (Int × Int)} {t : Int} (h : mtb a b t = true) : ev a = true ∧ ev b = true ∧ 0 ≤ t ∧ t ≤ 1000 := by
  simp only [mtb, Bool.and_eq_true, decide_eq_true_eq] at h
  exact ⟨h.1.1, h.1.2, h.2.1, h.2.2⟩
theorem mmV_yes {a b : List (Int × Int)} {t : Int} (h : mtb a b t = true) : mmV a b t = (mostL t (szL a) (szL b) : Nat) := by unfold mmV; rw [if_pos h]
theorem mmV_no {a b : List (Int × Int)} {t : Int} (h : mtb a b t = false) : mmV a b t = -1 := by unfold mmV; rw [h]; rfl
theorem mAt_00 (t : Int) (xs ys : List Int) : mAt t xs ys 0 0 = mostL t xs ys := rfl
theorem ev_small {l : List (Int × Int)} (h : ev l = true) : ∀ k, k < l.length → -1000000 ≤ fB l k ∧ fB l k ≤ 1000000 := fun k hk => by have := ev_size h hk; omega



end Go.Proofs.Ytihkdbgnoncgnaa
