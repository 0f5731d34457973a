/- Contracts of EventsValid, in the program and in the reference. No condition but that the list has at most 1048576 elements. -/
import Derived.Test.YtkmeaipfafooaaaEvLaw
import Derived.Test.YtkmeaipfafooaaaPlan
import Derived.Test.YtkmeaipfafooaaaPairEvent
namespace Go.Proofs.Ytkmeaipfafooaaa
open Go.RowKit

set_option maxHeartbeats 1000000 in
theorem eventsValid_any (A : Option Addr) (c : Nat) (l : List (Int × Int)) (w : World) (hr : Rd w w.heap.size A l) (hn : l.length ≤ 1048576) :
    Calls Try.prog 5 #[.slice A l.length c] w fun e w' => e = .returned (.bool (ev l)) ∧ Below w.heap.size w w' := by
  go_enter Try.func5, Try.ntmps5
  go_wp2
  go_loopw [7] (fun i wr => ∃ k : Nat, k ≤ l.length ∧ i = .int .i64 k ∧ evTo l k = true ∧ Below w.heap.size w wr) (fun i _ => l.length - (intOf i).toNat)
  case atStart => exact ⟨0, Nat.zero_le _, rfl, rfl, Below.refl _ _⟩
  case round =>
    obtain ⟨k, hk, rfl, hto, hb⟩ := hrel
    have Hto := Lib.hid hto
    clear hto
    by_cases hlt : k < l.length
    · obtain ⟨b, o, rfl, hB, hcs⟩ := hr (by omega)
      have e1 : wr.cell? ⟨b, o + k * 2, none⟩ = some (.int .i64 (fA l k)) := (hb.cell (p := ⟨b, _, none⟩) hB).trans (hcs k hlt).1
      have e2 : wr.cell? ⟨b, o + k * 2 + 1, none⟩ = some (.int .i64 (fB l k)) := (hb.cell (p := ⟨b, _, none⟩) hB).trans (hcs k hlt).2
      have g1 : k ≠ 0 → wr.cell? ⟨b, o + (k - 1) * 2, none⟩ = some (.int .i64 (fA l (k - 1))) := fun _ => (hb.cell (p := ⟨b, _, none⟩) hB).trans (hcs (k - 1) (by omega)).1
      have hbl : b < wr.heap.size := by have := hb.size; omega
      clear hcs hr
      go_wp2_with fail
      by_cases d1 : depthOk (fA l k) = true
      · by_cases d2 : fB l k < 1
        · clear g1
          go_quiet ((go_at_call 10; exact quiet_left (isDepth_any _ _)))
          go_wp2
          go_ret
          have hs : ev l = false := ev_stop hlt (by simp [EvAt, sizeOk]; omega)
          exact ⟨ret_bool hs.symm, below_drewN (hb.alloc hb.size _) _⟩
        · have d2' : decide (fB l k < 1) = false := decide_eq_false d2
          by_cases d3 : 1000 < fB l k
          · clear g1
            go_quiet ((go_at_call 10; exact quiet_left (isDepth_any _ _)))
            go_wp2
            go_ret
            have hs : ev l = false := ev_stop hlt (by simp [EvAt, sizeOk]; omega)
            exact ⟨ret_bool hs.symm, below_drewN (hb.alloc hb.size _) _⟩
          · have d3' : decide (1000 < fB l k) = false := decide_eq_false d3
            have d4 : sizeOk (fB l k) = true := by simp [sizeOk]; omega
            by_cases hk0 : k = 0
            · have hz : decide (0 < k) = false := by simp; omega
              have HK := Lib.hid hk0
              clear g1 hk0
              go_quiet ((go_at_call 10; exact quiet_left (isDepth_any _ _)))
              go_wp2
              exact ⟨⟨k + 1, hlt, by go_num, by rw [evTo, Hto.out]; simp only [EvAt, d1, d4]; simp [HK.out], below_drewN (hb.alloc hb.size _) _⟩, by simp [intOf]; omega⟩
            · have hz : decide (0 < k) = true := by simp; omega
              have hk1 : (1 : Int) ≤ (k : Int) := by omega
              replace g1 := g1 hk0
              have s1 : IntKind.i64.wrap ((k : Int) - 1) = (k : Int) - 1 := IntWalk.i64_in _ (by omega)
              have s2 : ((k : Int) - 1).toNat = k - 1 := by omega
              by_cases h1 : fA l k ≤ fA l (k - 1)
              · go_quiet ((go_at_call 10; exact quiet_left (isDepth_any _ _)))
                go_wp2
                go_ret
                have hs : ev l = false := ev_stop hlt (by simp [EvAt, hk0]; omega)
                exact ⟨ret_bool hs.symm, below_drewN (hb.alloc hb.size _) _⟩
              · have h1' : decide (fA l k ≤ fA l (k - 1)) = false := by simpa using h1
                go_quiet ((go_at_call 10; exact quiet_left (isDepth_any _ _)))
                go_wp2
                exact ⟨⟨k + 1, hlt, by go_num, by rw [evTo, Hto.out]; simp [EvAt, d1, d4]; omega, below_drewN (hb.alloc hb.size _) _⟩, by simp [intOf]; omega⟩
      · have d1' : depthOk (fA l k) = false := by simpa using d1
        clear d1 g1
        go_quiet ((go_at_call 10; exact quiet_left (isDepth_any _ _)))
        go_wp2
        go_ret
        have hs : ev l = false := ev_stop hlt (by simp [EvAt, d1'])
        exact ⟨ret_bool hs.symm, below_drewN (hb.alloc hb.size _) _⟩
    · clear hr
      have hs : evTo l l.length = true := by have := Hto.out; rw [show k = l.length by omega] at this; exact this
      have hv : ev l = decide ((l.length : Int) ≤ 8) := by
        have h2 : decide (l.length ≤ 8) = decide ((l.length : Int) ≤ 8) := by rw [decide_eq_decide]; omega
        simp only [ev, hs, Bool.true_and, h2]
      have HV := Lib.hid hv
      clear hs hv
      go_wp2
      all_goals
        go_ret
        exact ⟨ret_bool (by rw [HV.out]), hb⟩

set_option maxHeartbeats 1000000 in
theorem specEventsValid_any (A : Option Addr) (c : Nat) (l : List (Int × Int)) (w : World) (hr : Rd w w.heap.size A l) (hn : l.length ≤ 1048576) :
    Calls Try.prog 6 #[.slice A l.length c] w fun e w' => e = .returned (.bool (ev l)) ∧ Below w.heap.size w w' := by
  go_enter Try.func6, Try.ntmps6
  go_wp2
  go_loopw [3] (fun i wr => ∃ k : Nat, k ≤ l.length ∧ i = .int .i64 k ∧ evTo l k = true ∧ Below w.heap.size w wr) (fun i _ => l.length - (intOf i).toNat)
  case atStart => exact ⟨0, Nat.zero_le _, rfl, rfl, Below.refl _ _⟩
  case round =>
    obtain ⟨k, hk, rfl, hto, hb⟩ := hrel
    have Hto := Lib.hid hto
    clear hto
    by_cases hlt : k < l.length
    · obtain ⟨b, o, rfl, hB, hcs⟩ := hr (by omega)
      have e1 : wr.cell? ⟨b, o + k * 2, none⟩ = some (.int .i64 (fA l k)) := (hb.cell (p := ⟨b, _, none⟩) hB).trans (hcs k hlt).1
      have e2 : wr.cell? ⟨b, o + k * 2 + 1, none⟩ = some (.int .i64 (fB l k)) := (hb.cell (p := ⟨b, _, none⟩) hB).trans (hcs k hlt).2
      have g1 : k ≠ 0 → wr.cell? ⟨b, o + (k - 1) * 2, none⟩ = some (.int .i64 (fA l (k - 1))) := fun _ => (hb.cell (p := ⟨b, _, none⟩) hB).trans (hcs (k - 1) (by omega)).1
      have hkz : (0 : Int) ≤ (k : Int) := by omega
      have hkl : (k : Int) < (l.length : Int) := by omega
      clear hcs hr
      go_wp2_with fail
      by_cases d1 : depthOk (fA l k) = true
      · by_cases d4 : sizeOk (fB l k) = true
        · have d5 : (decide (1 ≤ fB l k) && decide (fB l k ≤ 1000)) = true := d4
          by_cases hk0 : k = 0
          · have hz : decide (0 < k) = false := by simp; omega
            have HK := Lib.hid hk0
            clear g1 hk0
            go_quiet (first | (go_at_call 11; exact quiet_left (l11Depth_any _ _)) | (go_at_call 12; exact quiet_left (l6In_any _ _ _ _)))
            go_wp2
            exact ⟨⟨k + 1, hlt, by go_num, by rw [evTo, Hto.out]; simp only [EvAt, d1, d4]; simp [HK.out], below_drewN hb _⟩, by simp [intOf]; omega⟩
          · have hz : decide (0 < k) = true := by simp; omega
            have hk1 : (1 : Int) ≤ (k : Int) := by omega
            replace g1 := g1 hk0
            have s1 : IntKind.i64.wrap ((k : Int) - 1) = (k : Int) - 1 := IntWalk.i64_in _ (by omega)
            have s2 : ((k : Int) - 1).toNat = k - 1 := by omega
            by_cases h1 : fA l k ≤ fA l (k - 1)
            · go_quiet (first | (go_at_call 11; exact quiet_left (l11Depth_any _ _)) | (go_at_call 12; exact quiet_left (l6In_any _ _ _ _)))
              go_wp2
              go_ret
              have hs : ev l = false := ev_stop hlt (by simp [EvAt, hk0]; omega)
              exact ⟨ret_bool hs.symm, below_drewN hb _⟩
            · have h1' : decide (fA l k ≤ fA l (k - 1)) = false := by simpa using h1
              go_quiet (first | (go_at_call 11; exact quiet_left (l11Depth_any _ _)) | (go_at_call 12; exact quiet_left (l6In_any _ _ _ _)))
              go_wp2
              exact ⟨⟨k + 1, hlt, by go_num, by rw [evTo, Hto.out]; simp [EvAt, d1, d4]; omega, below_drewN hb _⟩, by simp [intOf]; omega⟩
        · have d4' : sizeOk (fB l k) = false := by simpa using d4
          have d5 : (decide (1 ≤ fB l k) && decide (fB l k ≤ 1000)) = false := d4'
          clear d4 g1
          go_quiet (first | (go_at_call 11; exact quiet_left (l11Depth_any _ _)) | (go_at_call 12; exact quiet_left (l6In_any _ _ _ _)))
          go_wp2
          go_ret
          have hs : ev l = false := ev_stop hlt (by simp [EvAt, d4'])
          exact ⟨ret_bool hs.symm, below_drewN hb _⟩
      · have d1' : depthOk (fA l k) = false := by simpa using d1
        clear d1 g1
        go_quiet (first | (go_at_call 11; exact quiet_left (l11Depth_any _ _)) | (go_at_call 12; exact quiet_left (l6In_any _ _ _ _)))
        go_wp2
        go_ret
        have hs : ev l = false := ev_stop hlt (by simp [EvAt, d1'])
        exact ⟨ret_bool hs.symm, below_drewN hb _⟩
    · clear hr
      have hs : evTo l l.length = true := by have := Hto.out; rw [show k = l.length by omega] at this; exact this
      have hv : ev l = decide ((l.length : Int) ≤ 8) := by
        have h2 : decide (l.length ≤ 8) = decide ((l.length : Int) ≤ 8) := by rw [decide_eq_decide]; omega
        simp only [ev, hs, Bool.true_and, h2]
      have HV := Lib.hid hv
      clear hs hv
      go_wp2
      all_goals
        go_ret
        exact ⟨ret_bool (by rw [HV.out]), hb⟩

end Go.Proofs.Ytkmeaipfafooaaa
