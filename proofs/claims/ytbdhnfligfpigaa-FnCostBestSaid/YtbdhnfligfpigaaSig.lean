/- Contracts of the functions that say whether a list is a signal and whether distances are valid. No condition but that the list has at most 1048576 elements. -/
import Derived.Test.YtbdhnfligfpigaaCutLaw
import Derived.Test.YtbdhnfligfpigaaIn
namespace Go.Proofs.Ytbdhnfligfpigaa
open Go.RowKit

set_option maxHeartbeats 1000000 in
theorem signalValid_any (A : Option Addr) (c : Nat) (l : List Int) (w : World) (hr : RdI w w.heap.size .i64 A l) (hn : l.length ≤ 1048576) :
    Calls Try.prog 35 #[.slice A l.length c] w fun e w' => e = .returned (.bool (sig l)) ∧ w = w' := by
  go_enter Try.func35, Try.ntmps35
  go_wp2
  go_loop [7] (fun i => ∃ k : Nat, k ≤ l.length ∧ i = .int .i64 k ∧ sigTo l k = true) (fun i => l.length - (intOf i).toNat)
  case atStart => exact ⟨0, Nat.zero_le _, rfl, rfl⟩
  case round =>
    obtain ⟨k, hk, rfl, hto⟩ := hrel
    have HT := Lib.hid hto
    clear hto
    by_cases hlt : k < l.length
    · obtain ⟨b, o, rfl, hB, hcs⟩ := hr (by omega)
      have e1 := hcs k hlt
      clear hcs hr
      by_cases h1 : gI l k < 0
      · go_wp2
        go_ret
        have hs := sig_stop hlt (by simp [costOk]; omega)
        exact ⟨ret_bool hs.symm, rfl⟩
      · have h1' : decide (gI l k < 0) = false := decide_eq_false h1
        by_cases h2 : 1000 < gI l k
        · go_wp2
          go_ret
          have hs := sig_stop hlt (by simp [costOk]; omega)
          exact ⟨ret_bool hs.symm, rfl⟩
        · have h2' : decide (1000 < gI l k) = false := decide_eq_false h2
          go_wp2
          exact ⟨⟨k + 1, hlt, by go_num, by rw [sigTo, HT.out]; simp [costOk]; omega⟩, by simp [intOf]; omega⟩
    · clear hr
      have hs : sigTo l l.length = true := by have := HT.out; rw [show k = l.length by omega] at this; exact this
      have hv : sig l = (decide (1 ≤ (l.length : Int)) && decide ((l.length : Int) ≤ 16)) := by
        simp only [sig, hs, Bool.true_and]
        congr 1 <;> (rw [decide_eq_decide]; omega)
      have HV := Lib.hid hv
      clear hs hv
      by_cases h1 : 1 ≤ (l.length : Int)
      · go_wp2
        go_ret
        exact ⟨ret_bool (by rw [HV.out]; simp [h1]), rfl⟩
      · have h1' : decide (1 ≤ (l.length : Int)) = false := decide_eq_false h1
        go_wp2
        go_ret
        exact ⟨ret_bool (by rw [HV.out, h1']; rfl), rfl⟩

set_option maxHeartbeats 400000 in
theorem distancesValid_any (lo hi : Int) (w : World) :
    Calls Try.prog 40 #[.int .i64 lo, .int .i64 hi] w fun e w' => e = .returned (.bool (dstOk lo hi)) ∧ w = w' := by
  by_cases h1 : 1 ≤ lo
  · by_cases h2 : lo ≤ hi
    · go_enter Try.func40, Try.ntmps40
      go_wp2
      go_ret
      exact ⟨ret_bool (by simp [dstOk, h1, h2]), rfl⟩
    · have h2' : decide (lo ≤ hi) = false := decide_eq_false h2
      go_enter Try.func40, Try.ntmps40
      go_wp2
      go_ret
      exact ⟨ret_bool (by simp [dstOk, h2']), rfl⟩
  · have h1' : decide (1 ≤ lo) = false := decide_eq_false h1
    go_enter Try.func40, Try.ntmps40
    go_wp2
    go_ret
    exact ⟨ret_bool (by simp [dstOk, h1']), rfl⟩

set_option maxHeartbeats 400000 in
theorem l15Range_any (lo hi : Int) (w : World) :
    Calls Try.prog 33 #[.int .i64 lo, .int .i64 hi] w fun e w' => e = .returned (.bool (dstOk lo hi)) ∧ w = w' := by
  by_cases h : (decide (1 ≤ lo) && decide (lo ≤ 16)) = true
  · go_enter Try.func33, Try.ntmps33
    go_wp2_with (go_at_call 41; refine (l6In_any _ _ _ _).mono ?_; rintro e w' ⟨rfl, rfl⟩)
    all_goals
      go_ret
      exact ⟨ret_bool (by simp [dstOk] at *; by_cases h1 : lo ≤ hi <;> by_cases h2 : hi ≤ 16 <;> simp_all), rfl⟩
  · have h' : (decide (1 ≤ lo) && decide (lo ≤ 16)) = false := by simpa using h
    have hd : dstOk lo hi = false := by
      cases hh : dstOk lo hi with
      | false => rfl
      | true => simp [dstOk] at hh; simp at h'; omega
    have HD := Lib.hid hd
    clear h hd
    go_enter Try.func33, Try.ntmps33
    go_wp2_with (go_at_call 41; refine (l6In_any _ _ _ _).mono ?_; rintro e w' ⟨rfl, rfl⟩)
    all_goals
      go_ret
      exact ⟨ret_bool (by rw [HD.out]), rfl⟩

set_option maxHeartbeats 1000000 in
theorem l15Signal_any (A : Option Addr) (c : Nat) (l : List Int) (w : World) (hr : RdI w w.heap.size .i64 A l) (hn : l.length ≤ 1048576) :
    Calls Try.prog 32 #[.slice A l.length c] w fun e w' => e = .returned (.bool (sig l)) ∧ w = w' := by
  go_enter Try.func32, Try.ntmps32
  go_wp2
  go_loop [3] (fun i => ∃ k : Nat, k ≤ l.length ∧ i = .int .i64 k ∧ sigTo l k = true) (fun i => l.length - (intOf i).toNat)
  case atStart => exact ⟨0, Nat.zero_le _, rfl, rfl⟩
  case round =>
    obtain ⟨k, hk, rfl, hto⟩ := hrel
    have HT := Lib.hid hto
    clear hto
    by_cases hlt : k < l.length
    · obtain ⟨b, o, rfl, hB, hcs⟩ := hr (by omega)
      have e1 := hcs k hlt
      have l1 : (0 : Int) ≤ (k : Int) := by omega
      have l2 : (k : Int) < (l.length : Int) := by omega
      clear hcs hr
      cases h1 : costOk (gI l k) with
      | false =>
        have h1' : (decide (0 ≤ gI l k) && decide (gI l k ≤ 1000)) = false := h1
        go_wp2_with (go_at_call 41; refine (l6In_any _ _ _ _).mono ?_; rintro e w' ⟨rfl, rfl⟩)
        go_ret
        have hs := sig_stop hlt h1
        exact ⟨ret_bool hs.symm, rfl⟩
      | true =>
        have h1' : (decide (0 ≤ gI l k) && decide (gI l k ≤ 1000)) = true := h1
        have H1 := Lib.hid h1
        clear h1
        go_wp2_with (go_at_call 41; refine (l6In_any _ _ _ _).mono ?_; rintro e w' ⟨rfl, rfl⟩)
        exact ⟨⟨k + 1, hlt, by go_num, by rw [sigTo, HT.out, H1.out]; rfl⟩, by simp [intOf]; omega⟩
    · clear hr
      have hs : sigTo l l.length = true := by have := HT.out; rw [show k = l.length by omega] at this; exact this
      have hv : sig l = (decide (1 ≤ (l.length : Int)) && decide ((l.length : Int) ≤ 16)) := by
        simp only [sig, hs, Bool.true_and]
        congr 1 <;> (rw [decide_eq_decide]; omega)
      have HV := Lib.hid hv
      clear hs hv
      go_wp2_with (go_at_call 41; refine (l6In_any _ _ _ _).mono ?_; rintro e w' ⟨rfl, rfl⟩)
      go_ret
      exact ⟨ret_bool (by rw [HV.out]), rfl⟩

end Go.Proofs.Ytbdhnfligfpigaa
