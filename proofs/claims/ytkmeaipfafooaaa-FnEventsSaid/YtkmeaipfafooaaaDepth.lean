/- Contracts of the functions that say whether a number is a depth or lies in a range. No condition. -/
import Derived.Test.YtkmeaipfafooaaaLib
import Derived.Test.YtkmeaipfafooaaaProg
namespace Go.Proofs.Ytkmeaipfafooaaa
open Go.RowKit

def depthOk (d : Int) : Bool := decide (0 ≤ d) && decide (d ≤ 30000)

set_option maxHeartbeats 400000 in
theorem isDepth_any (d : Int) (w : World) :
    Calls Try.prog 10 #[.int .i64 d] w fun e w' => e = .returned (.bool (depthOk d)) ∧ w = w' := by
  by_cases h1 : 0 ≤ d
  · by_cases h2 : d ≤ 30000
    · go_enter Try.func10, Try.ntmps10
      go_wp2
      go_ret
      exact ⟨by simp [depthOk, h1, h2], rfl⟩
    · go_enter Try.func10, Try.ntmps10
      go_wp2
      go_ret
      exact ⟨by simp [depthOk, h1, h2], rfl⟩
  · have h1' : decide (0 ≤ d) = false := by simpa using h1
    go_enter Try.func10, Try.ntmps10
    go_wp2
    go_ret
    exact ⟨by simp [depthOk]; omega, rfl⟩

set_option maxHeartbeats 400000 in
theorem l6In_any (n lo hi : Int) (w : World) :
    Calls Try.prog 12 #[.int .i64 n, .int .i64 lo, .int .i64 hi] w fun e w' => e = .returned (.bool (decide (lo ≤ n) && decide (n ≤ hi))) ∧ w = w' := by
  by_cases h1 : lo ≤ n
  · by_cases h2 : n ≤ hi
    · go_enter Try.func12, Try.ntmps12
      go_wp2
      go_ret
      exact ⟨by simp [h1, h2], rfl⟩
    · go_enter Try.func12, Try.ntmps12
      go_wp2
      go_ret
      exact ⟨by simp [h2], rfl⟩
  · have h1' : decide (lo ≤ n) = false := by simpa using h1
    go_enter Try.func12, Try.ntmps12
    go_wp2
    go_ret
    exact ⟨by simp, rfl⟩

set_option maxHeartbeats 400000 in
theorem l11Depth_any (d : Int) (w : World) :
    Calls Try.prog 11 #[.int .i64 d] w fun e w' => e = .returned (.bool (depthOk d)) ∧ w = w' := by
  go_enter Try.func11, Try.ntmps11
  go_wp2_with (go_at_call 12; refine (l6In_any _ _ _ _).mono ?_; rintro e w' ⟨rfl, rfl⟩)
  go_ret
  exact ⟨rfl, rfl⟩

end Go.Proofs.Ytkmeaipfafooaaa
