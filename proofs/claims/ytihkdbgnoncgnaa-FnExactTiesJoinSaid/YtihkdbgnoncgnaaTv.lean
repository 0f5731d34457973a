/- Contracts of the functions that say whether a list are ties, in the program and in the reference: both return 'tv'. No condition but that the list has at most 1048576 elements. -/
import Derived.Test.YtihkdbgnoncgnaaTiesLaw
import Derived.Test.YtihkdbgnoncgnaaProg
namespace Go.Proofs.Ytihkdbgnoncgnaa
open Go.RowKit

set_option maxHeartbeats 1000000 in
theorem tiesAscend_any (A : Option Addr) (c : Nat) (l : List (Int × Int)) (w : World) (hr : Rd w w.heap.size A l) (hn : l.length ≤ 1048576) :
    Calls Try.prog 40 #[.slice A l.length c] w fun e w' => e = .returned (.bool (asc l)) ∧ Below w.heap.size w w' := by
  go_enter Try.func40, Try.ntmps40
  go_wp2
  go_loopw [7] (fun i wr => ∃ k : Nat, k ≤ l.length ∧ i = .int .i64 k ∧ ascTo l k = true ∧ Below w.heap.size w wr) (fun i _ => l.length - (intOf i).toNat)
  case atStart => exact ⟨0, Nat.zero_le _, rfl, rfl, Below.refl _ _⟩
  case round =>
    obtain ⟨k, hk, rfl, hto, hb⟩ := hrel
    have Hto := Lib.hid hto
    clear hto
    by_cases hlt : k < l.length
    · obtain ⟨b, o, rfl, hB, hcs⟩ := hr (by omega)
      have e1 : wr.cell? ⟨b, o + k * 2, none⟩ = some (.int .i64 (fA l k)) := (hb.cell (p := ⟨b, _, none⟩) hB).trans (hcs k hlt).1
      have e2 : wr.cell? ⟨b, o + k * 2 + 1, none⟩ = some (.int .i64 (fB l k)) := (hb.cell (p := ⟨b, _, none⟩) hB).trans (hcs k hlt).2
      have g1 : k ≠ 0 → wr.cell? ⟨b, o + (k - 1) * 2, none⟩ = some (.int .i64 (fA l (k - 1))) := fun _ => (hb.cell (p := ⟨b, _, none⟩) hB).trans (hcs (k - 1) (by omega)).1
      have g2 : k ≠ 0 → wr.cell? ⟨b, o + (k - 1) * 2 + 1, none⟩ = some (.int .i64 (fB l (k - 1))) := fun _ => (hb.cell (p := ⟨b, _, none⟩) hB).trans (hcs (k - 1) (by omega)).2
      have hbl : b < wr.heap.size := by have := hb.size; omega
      clear hcs hr
      go_wp2_with fail
      by_cases d1 : depthOk (fA l k) = true
      · by_cases d2 : depthOk (fB l k) = true
        · by_cases hk0 : k = 0
          · have hz : decide (0 < k) = false := by simp; omega
            have HK := Lib.hid hk0
            clear g1 g2 hk0
            go_quiet ((go_at_call 55; exact quiet_left (isDepth_any _ _)))
            go_wp2
            exact ⟨⟨k + 1, hlt, by go_num, by rw [ascTo, Hto.out]; simp only [AscAt, d1, d2]; simp [HK.out], below_drewN (hb.alloc hb.size _) _⟩, by simp [intOf]; omega⟩
          · have hz : decide (0 < k) = true := by simp; omega
            have hk1 : (1 : Int) ≤ (k : Int) := by omega
            replace g1 := g1 hk0
            replace g2 := g2 hk0
            have s1 : IntKind.i64.wrap ((k : Int) - 1) = (k : Int) - 1 := IntWalk.i64_in _ (by omega)
            have s2 : ((k : Int) - 1).toNat = k - 1 := by omega
            by_cases h1 : fA l k ≤ fA l (k - 1)
            · go_quiet ((go_at_call 55; exact quiet_left (isDepth_any _ _)))
              go_wp2
              go_ret
              have hs : asc l = false := asc_stop hlt (by simp [AscAt, hk0]; omega)
              exact ⟨ret_bool hs.symm, below_drewN (hb.alloc hb.size _) _⟩
            · have h1' : decide (fA l k ≤ fA l (k - 1)) = false := by simpa using h1
              by_cases h2 : fB l k ≤ fB l (k - 1)
              · go_quiet ((go_at_call 55; exact quiet_left (isDepth_any _ _)))
                go_wp2
                go_ret
                have hs : asc l = false := asc_stop hlt (by simp [AscAt, hk0]; omega)
                exact ⟨ret_bool hs.symm, below_drewN (hb.alloc hb.size _) _⟩
              · have h2' : decide (fB l k ≤ fB l (k - 1)) = false := by simpa using h2
                go_quiet ((go_at_call 55; exact quiet_left (isDepth_any _ _)))
                go_wp2
                exact ⟨⟨k + 1, hlt, by go_num, by rw [ascTo, Hto.out]; simp [AscAt, d1, d2]; omega, below_drewN (hb.alloc hb.size _) _⟩, by simp [intOf]; omega⟩
        · have d2' : depthOk (fB l k) = false := by simpa using d2
          clear d2 g1 g2
          go_quiet ((go_at_call 55; exact quiet_left (isDepth_any _ _)))
          go_wp2
          go_ret
          have hs : asc l = false := asc_stop hlt (by simp [AscAt, d2'])
          exact ⟨ret_bool hs.symm, below_drewN (hb.alloc hb.size _) _⟩
      · have d1' : depthOk (fA l k) = false := by simpa using d1
        clear d1 g1 g2
        go_quiet ((go_at_call 55; exact quiet_left (isDepth_any _ _)))
        go_wp2
        go_ret
        have hs : asc l = false := asc_stop hlt (by simp [AscAt, d1'])
        exact ⟨ret_bool hs.symm, below_drewN (hb.alloc hb.size _) _⟩
    · clear hr
      go_wp2
      go_ret
      have hs : asc l = true := by have := Hto.out; rw [show k = l.length by omega] at this; exact this
      exact ⟨ret_bool hs.symm, hb⟩

set_option maxHeartbeats 400000 in
theorem tiesValid_any (A : Option Addr) (c : Nat) (l : List (Int × Int)) (w : World) (hr : Rd w w.heap.size A l) (hn : l.length ≤ 1048576) :
    Calls Try.prog 18 #[.slice A l.length c] w fun e w' => e = .returned (.bool (tv l)) ∧ Below w.heap.size w w' := by
  cases ha : asc l with
  | false =>
    have HA := Lib.hid ha
    go_enter Try.func18, Try.ntmps18
    go_wp2_with (go_at_call 40; refine (tiesAscend_any A c l _ hr hn).mono ?_; rintro e w1 ⟨rfl, hb⟩)
    go_ret
    exact ⟨by unfold tv; rw [HA.out]; rfl, hb⟩
  | true =>
    have HA := Lib.hid ha
    by_cases hl : l.length ≤ 12
    · go_enter Try.func18, Try.ntmps18
      go_wp2_with (go_at_call 40; refine (tiesAscend_any A c l _ hr hn).mono ?_; rintro e w1 ⟨rfl, hb⟩)
      go_ret
      exact ⟨by unfold tv; rw [HA.out]; simp [hl]; omega, hb⟩
    · go_enter Try.func18, Try.ntmps18
      go_wp2_with (go_at_call 40; refine (tiesAscend_any A c l _ hr hn).mono ?_; rintro e w1 ⟨rfl, hb⟩)
      go_ret
      exact ⟨by unfold tv; rw [HA.out]; simp [hl]; omega, hb⟩

set_option maxHeartbeats 1000000 in
theorem l21Order_any (A : Option Addr) (c : Nat) (l : List (Int × Int)) (w : World) (hr : Rd w w.heap.size A l) (hn : l.length ≤ 1048576) :
    Calls Try.prog 41 #[.slice A l.length c] w fun e w' => e = .returned (.bool (asc l)) ∧ Below w.heap.size w w' := by
  go_enter Try.func41, Try.ntmps41
  go_wp2
  go_loopw [3] (fun i wr => ∃ k : Nat, k ≤ l.length ∧ i = .int .i64 k ∧ ascTo l k = true ∧ Below w.heap.size w wr) (fun i _ => l.length - (intOf i).toNat)
  case atStart => exact ⟨0, Nat.zero_le _, rfl, rfl, Below.refl _ _⟩
  case round =>
    obtain ⟨k, hk, rfl, hto, hb⟩ := hrel
    have Hto := Lib.hid hto
    clear hto
    by_cases hlt : k < l.length
    · obtain ⟨b, o, rfl, hB, hcs⟩ := hr (by omega)
      have e1 : wr.cell? ⟨b, o + k * 2, none⟩ = some (.int .i64 (fA l k)) := (hb.cell (p := ⟨b, _, none⟩) hB).trans (hcs k hlt).1
      have e2 : wr.cell? ⟨b, o + k * 2 + 1, none⟩ = some (.int .i64 (fB l k)) := (hb.cell (p := ⟨b, _, none⟩) hB).trans (hcs k hlt).2
      have g1 : k ≠ 0 → wr.cell? ⟨b, o + (k - 1) * 2, none⟩ = some (.int .i64 (fA l (k - 1))) := fun _ => (hb.cell (p := ⟨b, _, none⟩) hB).trans (hcs (k - 1) (by omega)).1
      have g2 : k ≠ 0 → wr.cell? ⟨b, o + (k - 1) * 2 + 1, none⟩ = some (.int .i64 (fB l (k - 1))) := fun _ => (hb.cell (p := ⟨b, _, none⟩) hB).trans (hcs (k - 1) (by omega)).2
      have hkz : (0 : Int) ≤ (k : Int) := by omega
      have hkl : (k : Int) < (l.length : Int) := by omega
      clear hcs hr
      go_wp2_with fail
      by_cases d1 : depthOk (fA l k) = true
      · by_cases d2 : depthOk (fB l k) = true
        · by_cases hk0 : k = 0
          · have hz : decide (0 < k) = false := by simp; omega
            have HK := Lib.hid hk0
            clear g1 g2 hk0
            go_quiet ((go_at_call 56; exact quiet_left (l11Depth_any _ _)))
            go_wp2
            exact ⟨⟨k + 1, hlt, by go_num, by rw [ascTo, Hto.out]; simp only [AscAt, d1, d2]; simp [HK.out], below_drewN hb _⟩, by simp [intOf]; omega⟩
          · have hz : decide (0 < k) = true := by simp; omega
            have hk1 : (1 : Int) ≤ (k : Int) := by omega
            replace g1 := g1 hk0
            replace g2 := g2 hk0
            have s1 : IntKind.i64.wrap ((k : Int) - 1) = (k : Int) - 1 := IntWalk.i64_in _ (by omega)
            have s2 : ((k : Int) - 1).toNat = k - 1 := by omega
            by_cases h1 : fA l k ≤ fA l (k - 1)
            · go_quiet ((go_at_call 56; exact quiet_left (l11Depth_any _ _)))
              go_wp2
              go_ret
              have hs : asc l = false := asc_stop hlt (by simp [AscAt, hk0]; omega)
              exact ⟨ret_bool hs.symm, below_drewN hb _⟩
            · have h1' : decide (fA l k ≤ fA l (k - 1)) = false := by simpa using h1
              by_cases h2 : fB l k ≤ fB l (k - 1)
              · go_quiet ((go_at_call 56; exact quiet_left (l11Depth_any _ _)))
                go_wp2
                go_ret
                have hs : asc l = false := asc_stop hlt (by simp [AscAt, hk0]; omega)
                exact ⟨ret_bool hs.symm, below_drewN hb _⟩
              · have h2' : decide (fB l k ≤ fB l (k - 1)) = false := by simpa using h2
                go_quiet ((go_at_call 56; exact quiet_left (l11Depth_any _ _)))
                go_wp2
                exact ⟨⟨k + 1, hlt, by go_num, by rw [ascTo, Hto.out]; simp [AscAt, d1, d2]; omega, below_drewN hb _⟩, by simp [intOf]; omega⟩
        · have d2' : depthOk (fB l k) = false := by simpa using d2
          clear d2 g1 g2
          go_quiet ((go_at_call 56; exact quiet_left (l11Depth_any _ _)))
          go_wp2
          go_ret
          have hs : asc l = false := asc_stop hlt (by simp [AscAt, d2'])
          exact ⟨ret_bool hs.symm, below_drewN hb _⟩
      · have d1' : depthOk (fA l k) = false := by simpa using d1
        clear d1 g1 g2
        go_quiet ((go_at_call 56; exact quiet_left (l11Depth_any _ _)))
        go_wp2
        go_ret
        have hs : asc l = false := asc_stop hlt (by simp [AscAt, d1'])
        exact ⟨ret_bool hs.symm, below_drewN hb _⟩
    · clear hr
      go_wp2
      go_ret
      have hs : asc l = true := by have := Hto.out; rw [show k = l.length by omega] at this; exact this
      exact ⟨ret_bool hs.symm, hb⟩

set_option maxHeartbeats 400000 in
theorem specTiesValid_any (A : Option Addr) (c : Nat) (l : List (Int × Int)) (w : World) (hr : Rd w w.heap.size A l) (hn : l.length ≤ 1048576) :
    Calls Try.prog 19 #[.slice A l.length c] w fun e w' => e = .returned (.bool (tv l)) ∧ Below w.heap.size w w' := by
  cases ha : asc l with
  | false =>
    have HA := Lib.hid ha
    go_enter Try.func19, Try.ntmps19
    go_wp2_with (go_at_call 41; refine (l21Order_any A c l _ hr hn).mono ?_; rintro e w1 ⟨rfl, hb⟩)
    go_ret
    exact ⟨by unfold tv; rw [HA.out]; rfl, hb⟩
  | true =>
    have HA := Lib.hid ha
    by_cases hl : l.length ≤ 12
    · go_enter Try.func19, Try.ntmps19
      go_wp2_with (go_at_call 41; refine (l21Order_any A c l _ hr hn).mono ?_; rintro e w1 ⟨rfl, hb⟩)
      go_ret
      exact ⟨by unfold tv; rw [HA.out]; simp [hl]; omega, hb⟩
    · go_enter Try.func19, Try.ntmps19
      go_wp2_with (go_at_call 41; refine (l21Order_any A c l _ hr hn).mono ?_; rintro e w1 ⟨rfl, hb⟩)
      go_ret
      exact ⟨by unfold tv; rw [HA.out]; simp [hl]; omega, hb⟩

end Go.Proofs.Ytihkdbgnoncgnaa
