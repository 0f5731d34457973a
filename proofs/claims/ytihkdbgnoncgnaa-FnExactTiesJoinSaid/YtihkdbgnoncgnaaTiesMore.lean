/- More plain laws of ties. No condition. -/
import Derived.Test.YtihkdbgnoncgnaaTiesLaw
namespace Go.Proofs.Ytihkdbgnoncgnaa

theorem turnL_yes {l : List (Int × Int)} (h : tv l = true) : turnL l = swapL l := by unfold turnL; rw [if_pos h]
theorem turnL_no {l : List (Int × Int)} (h : tv l = false) : turnL l = [] := by unfold turnL; rw [h]; rfl
theorem tv_turnL {l : List (Int × Int)} (h : tv l = true) : tv (turnL l) = true := by rw [turnL_yes h, tv_swapL]; exact h
theorem turn_turn {l : List (Int × Int)} (h : tv l = true) : turnL (turnL l) = l := by rw [turnL_yes (tv_turnL h), turnL_yes h, swapL_swapL]
theorem thrL_len (a b : List (Int × Int)) : (thrL a b).length ≤ 12 := by
  unfold thrL
  split
  · rename_i h
    simp only [Bool.and_eq_true] at h
    have ha := (tv_iff a).1 h.1
    have hb := (tv_iff b).1 h.2
    have := length_thr_left (a := a) hb.2.1
    omega
  · simp

end Go.Proofs.Ytihkdbgnoncgnaa
