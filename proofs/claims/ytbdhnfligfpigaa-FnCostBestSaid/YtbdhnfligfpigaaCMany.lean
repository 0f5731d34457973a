/- Contract of CutsMany in the program. No condition. -/
import Derived.Test.YtbdhnfligfpigaaSig
import Derived.Test.YtbdhnfligfpigaaPlan
import Derived.Test.YtbdhnfligfpigaaIntsMore
namespace Go.Proofs.Ytbdhnfligfpigaa
open Go.RowKit

/-- The row of ways while place k is summed, j terms done. -/
def wRow (a b k j i : Nat) : Int := if i < k then (wW a b i : Nat) else if i = k then ((if k = 0 then 1 else wSum a b k j : Nat) : Int) else 0
section
variable {a b k j i : Nat}
theorem wRow_lt (h : i < k) : wRow a b k j i = (wW a b i : Nat) := by unfold wRow; rw [if_pos h]
theorem wRow_here (h : 0 < k) : wRow a b k j k = (wSum a b k j : Nat) := by unfold wRow; rw [if_neg (by omega), if_pos rfl, if_neg (by omega)]
theorem wRow_next (ha : 1 ≤ a) : wRow a b k (min b k + 1 - a) i = wRow a b (k + 1) 0 i := by
  unfold wRow
  by_cases h1 : i < k
  · simp [h1, show i < k + 1 by omega]
  · by_cases h2 : i = k
    · subst h2
      by_cases h3 : i = 0
      · subst h3; simp [wW_zero]
      · simp [h3]; rw [wW_eq ha b i (by omega)]
    · simp [h1, h2, show ¬ i < k + 1 by omega, wSum]
theorem wRow_step {v : Int} (hk : 0 < k) (hv : v = (wSum a b k (j + 1) : Nat)) : (if i = k then Value.int .i64 v else .int .i64 (wRow a b k j i)) = .int .i64 (wRow a b k (j + 1) i) := by
  by_cases h : i = k
  · subst h; rw [if_pos rfl, wRow_here hk, hv]
  · rw [if_neg h]
    unfold wRow
    by_cases h1 : i < k
    · rw [if_pos h1, if_pos h1]
    · rw [if_neg h1, if_neg h1, if_neg h, if_neg h]
end
theorem manyV_yes {n lo hi : Int} (h1 : 1 ≤ n) (h2 : n ≤ 16) (h3 : dstOk lo hi = true) : manyV n lo hi = (wW lo.toNat hi.toNat n.toNat : Nat) := by
  unfold manyV; rw [decide_eq_true h1, decide_eq_true h2, h3]; rfl

set_option maxHeartbeats 4000000 in
theorem cutsMany_any (n lo hi : Int) (w : World) : Calls Try.prog 27 #[.int .i64 n, .int .i64 lo, .int .i64 hi] w fun e w' => e = .returned (.int .i64 (manyV n lo hi)) ∧ Below w.heap.size w w' := by
  by_cases h1 : 1 ≤ n
  · have h1' : decide (n < 1) = false := decide_eq_false (by omega)
    by_cases h2 : n ≤ 16
    · have h2' : decide (16 < n) = false := decide_eq_false (by omega)
      obtain ⟨N, rfl⟩ := Int.eq_ofNat_of_zero_le (show 0 ≤ n by omega)
      cases h3 : dstOk lo hi with
      | false =>
        have hv : manyV (N : Int) lo hi = -1 := by unfold manyV; rw [h3]; simp
        have HV := Lib.hid hv
        go_enter Try.func27, Try.ntmps27
        go_wp2_with fail
        refine (distancesValid_any lo hi _).mono ?_
        rintro e w' ⟨rfl, rfl⟩
        rw [h3]
        clear hv h3
        go_wp2
        go_ret
        exact ⟨ret_int (by rw [HV.out]), Below.refl _ _⟩
      | true =>
        have hv := manyV_yes h1 h2 h3
        have hd : 1 ≤ lo ∧ lo ≤ hi ∧ hi ≤ 16 := by simp [dstOk] at h3; omega
        obtain ⟨a, rfl⟩ := Int.eq_ofNat_of_zero_le (show 0 ≤ lo by omega)
        obtain ⟨b, rfl⟩ := Int.eq_ofNat_of_zero_le (show 0 ≤ hi by omega)
        simp only [Int.toNat_natCast] at hv
        have HV := Lib.hid hv
        have hmk := run_make1 (P := Try.prog) Try.underlying22 infoI64 (by omega) (N + 1) (by omega)
        rw [show ((N + 1 : Nat) : Int) = (N : Int) + 1 by omega] at hmk
        obtain ⟨d1, d2, d3⟩ := hd
        have hw := wW_le (a := a) (by omega) b
        have HW := Lib.hid hw
        have H3 := Lib.hid h3
        have c0 : (w.alloc (.cells (madeCells #[.int .i64 0] (N + 1)) 3)).cell? ⟨w.heap.size, 0, none⟩ = some (.int .i64 0) := (row_one w (N + 1) 3).cell (by omega)
        have f0 : (w.alloc (.cells (madeCells #[.int .i64 0] (N + 1)) 3)).frozen? ⟨w.heap.size, 0, none⟩ = false := (row_one w (N + 1) 3).frozen 0
        have hb0 : Below w.heap.size w (w.alloc (.cells ((madeCells #[.int .i64 0] (N + 1)).setIfInBounds 0 (.int .i64 1)) 3)) := (Below.refl _ _).alloc (Nat.le_refl _) _
        have hrow2 : Row (w.alloc (.cells ((madeCells #[.int .i64 0] (N + 1)).setIfInBounds 0 (.int .i64 1)) 3)) w.heap.size 3 (N + 1) (fun i => .int .i64 (wRow a b 0 0 i)) := by
          refine ⟨_, heap_alloc_new _ _, by rw [Array.size_setIfInBounds, size_madeCells]; exact Nat.le_refl _, fun i hi => ?_⟩
          rw [Array.getElem?_setIfInBounds]
          by_cases h : 0 = i
          · subst h; simp [size_madeCells, wRow]
          · rw [if_neg h]; simp [madeCells, hi, Nat.mod_one, wRow, Ne.symm h]
        clear hv hw
        go_enter Try.func27, Try.ntmps27
        go_wp2_with fail
        refine (distancesValid_any _ _ _).mono ?_
        rintro e w' ⟨rfl, rfl⟩
        rw [h3]
        clear h3
        go_wp2_with fail
        clear hmk c0 f0
        go_loopw [29] (fun i wr => ∃ k : Nat, k ≤ N + 1 ∧ i = .int .i64 k ∧ Row wr w.heap.size 3 (N + 1) (fun i => .int .i64 (wRow a b k 0 i)) ∧ Below w.heap.size w wr) (fun i _ => N + 1 - (intOf i).toNat)
        case atStart => exact ⟨0, Nat.zero_le _, rfl, hrow2, hb0⟩
        case round =>
          obtain ⟨k, hk, rfl, hro, hb⟩ := hrel
          clear hrow2 hb0
          by_cases hlt : k < N + 1
          · have l1 : (k : Int) < (N : Int) + 1 := by omega
            go_wp2_with fail
            go_loopw [9] (fun d wx => ∃ j : Nat, j ≤ min b k + 1 - a ∧ d = .int .i64 ((a + j : Nat) : Int) ∧ Row wx w.heap.size 3 (N + 1) (fun i => .int .i64 (wRow a b k j i)) ∧ Below w.heap.size w wx) (fun d _ => k + 1 - (intOf d).toNat)
            case atStart => exact ⟨0, Nat.zero_le _, by go_num, hro, hb⟩
            case round =>
              obtain ⟨j, hj, rfl, hro, hb⟩ := hrel
              by_cases hjj : j < min b k + 1 - a
              · have hk0 : 0 < k := by omega
                have hle : a + j ≤ k ∧ a + j ≤ b := by omega
                have q1 := hro.cell (i := k) (by omega)
                have q2 := hro.cell (i := k - (a + j)) (by omega)
                have q3 := hro.frozen k
                rw [wRow_here hk0] at q1
                rw [wRow_lt (by omega)] at q2
                have b1 := HW.out 16 (k - (a + j)) (by omega)
                have b2 : (2 : Nat) ^ (k - (a + j)) ≤ 2 ^ 16 := Nat.pow_le_pow_right (by omega) (by omega)
                have b3 := wSum_le (a := a) b k (j + 1) (min b k + 1 - a) (by omega)
                have b4 := HW.out 16 k (by omega)
                have b5 : (2 : Nat) ^ k ≤ 2 ^ 16 := Nat.pow_le_pow_right (by omega) (by omega)
                rw [← wW_eq (by omega) b k hk0] at b3
                have b6 : wSum a b k (j + 1) = wSum a b k j + wW a b (k - (a + j)) := rfl
                have b7 : (2 : Nat) ^ 16 = 65536 := by decide
                have b8 : wSum a b k j + wW a b (k - (a + j)) ≤ 65536 := by omega
                clear b1 b2 b3 b4 b5 b7
                have H6 := Lib.hid b6
                clear b6
                have s1 : IntKind.i64.wrap ((k : Int) - ((a + j : Nat) : Int)) = (k : Int) - ((a + j : Nat) : Int) := IntWalk.i64_in _ (by omega)
                have s2 : (0 : Int) ≤ (k : Int) - ((a + j : Nat) : Int) := by omega
                have s3 : ((k : Int) - ((a + j : Nat) : Int)).toNat = k - (a + j) := by omega
                have s4 : (k : Int) - ((a + j : Nat) : Int) < (N : Int) + 1 := by omega
                have s5 : IntKind.i64.wrap ((wSum a b k j : Int) + (wW a b (k - (a + j)) : Int)) = (wSum a b k j : Int) + (wW a b (k - (a + j)) : Int) := IntWalk.i64_in _ (by omega)
                have s6 : ((a + j : Nat) : Int) ≤ (k : Int) := by omega
                have s7 : ((a + j : Nat) : Int) ≤ (b : Int) := by omega
                have s8 : (0 : Int) ≤ (k : Int) := by omega
                generalize hD : a + j = D at *
                have HD := Lib.hid hD
                clear hD
                by_cases hmn : (b : Int) ≤ (k : Int)
                all_goals
                  go_wp2_with fail
                  refine wp_region_tailQ 11 (by kernel_rfl) (by kernel_rfl) ?_
                  simp only [List.take_succ_cons, List.take_zero, List.drop_succ_cons, List.drop_zero]
                  repeat (go_big_quiet_step (fail))
                  refine wpQuiet_nil ?_
                  go_wp2_with fail
                  refine ⟨⟨j + 1, by omega, ?_, (hro.set k _).congr fun i _ => wRow_step hk0 (by rw [H6.out]; omega), (below_drewN hb 1).setCell (p := ⟨w.heap.size, k, none⟩) (Nat.le_refl _) _⟩, by simp [intOf]; omega⟩
                  rw [← Nat.add_assoc, HD.out]; go_num
              · have hje : j = min b k + 1 - a := by omega
                have hrn := hro.congr (f' := fun i => .int .i64 (wRow a b (k + 1) 0 i)) (fun i _ => by rw [hje, wRow_next (by omega)])
                have hfin : k + 1 ≤ N + 1 := hlt
                generalize hD : a + j = D at *
                have s8 : (0 : Int) ≤ (k : Int) := by omega
                by_cases hmn : b ≤ k
                · have g1 : decide (D ≤ b) = false := decide_eq_false (by omega)
                  clear hro hD hje
                  go_wp2
                  exact ⟨⟨k + 1, hlt, by go_num, hrn, hb⟩, by simp [intOf]; omega⟩
                · have g1 : decide (D ≤ k) = false := decide_eq_false (by omega)
                  have g2 : decide (b ≤ k) = false := decide_eq_false hmn
                  clear hro hD hje
                  go_wp2
                  exact ⟨⟨k + 1, hlt, by go_num, hrn, hb⟩, by simp [intOf]; omega⟩
          · obtain rfl : k = N + 1 := by omega
            have q1 := hro.cell (i := N) (by omega)
            rw [wRow_lt (by omega), ← HV.out] at q1
            have l2 : (N : Int) < (N : Int) + 1 := by omega
            have l3 : (0 : Int) ≤ (N : Int) := by omega
            go_wp2
            go_ret
            exact ⟨rfl, hb⟩
    · have h2' : decide (16 < n) = true := decide_eq_true (by omega)
      have hv : manyV n lo hi = -1 := by unfold manyV; rw [decide_eq_false h2]; simp
      have HV := Lib.hid hv
      clear hv
      go_enter Try.func27, Try.ntmps27
      go_wp2
      go_ret
      exact ⟨ret_int (by rw [HV.out]), Below.refl _ _⟩
  · have h1' : decide (n < 1) = true := decide_eq_true (by omega)
    have hv : manyV n lo hi = -1 := by unfold manyV; rw [decide_eq_false h1]; simp
    have HV := Lib.hid hv
    clear hv
    go_enter Try.func27, Try.ntmps27
    go_wp2
    go_ret
    exact ⟨ret_int (by rw [HV.out]), Below.refl _ _⟩
end Go.Proofs.Ytbdhnfligfpigaa
