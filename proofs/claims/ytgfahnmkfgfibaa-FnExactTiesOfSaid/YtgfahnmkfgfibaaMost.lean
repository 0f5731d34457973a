/- Contracts of MatchMost, in the program and in the reference, and of the tables behind it. No condition but that the lists have at most 1048576 elements. -/
import Derived.Test.YtgfahnmkfgfibaaPairTable
import Derived.Test.YtgfahnmkfgfibaaAlike
namespace Go.Proofs.Ytgfahnmkfgfibaa
open Go.RowKit

/-- The table of most pairs with the rows from ki on done, and of the row ahead of them the places from kk on. -/
def mTab (t : Int) (xs ys : List Int) (ki kk r c : Nat) : Int := if ki ≤ r ∨ (r + 1 = ki ∧ kk ≤ c) then (mAt t xs ys r c : Nat) else 0
section
variable {t : Int} {xs ys : List Int} {i k r c : Nat}
theorem mTab_start : mTab t xs ys (i + 1) ys.length r c = mTab t xs ys (i + 1) (ys.length + 1) r c := by
  unfold mTab
  by_cases h : i + 1 ≤ r ∨ (r + 1 = i + 1 ∧ ys.length ≤ c)
  · rw [if_pos h]
    by_cases h2 : i + 1 ≤ r ∨ (r + 1 = i + 1 ∧ ys.length + 1 ≤ c)
    · rw [if_pos h2]
    · rw [if_neg h2, mAt_right _ _ _ _ _ (by omega)]; rfl
  · rw [if_neg h, if_neg (by omega)]
theorem mTab_next (hc : c < ys.length + 1) : mTab t xs ys (i + 1) 0 r c = mTab t xs ys i (ys.length + 1) r c := by
  unfold mTab
  by_cases h : i + 1 ≤ r ∨ (r + 1 = i + 1 ∧ 0 ≤ c)
  · rw [if_pos h, if_pos (by omega)]
  · rw [if_neg h, if_neg (by omega)]
theorem mTab_first (hc : c < ys.length + 1) : mTab t xs ys xs.length (ys.length + 1) r c = 0 := by
  unfold mTab
  by_cases h : xs.length ≤ r ∨ (r + 1 = xs.length ∧ ys.length + 1 ≤ c)
  · rw [if_pos h, mAt_left _ _ _ _ _ (by omega)]; rfl
  · rw [if_neg h]
theorem mTab_last : mTab t xs ys 0 (ys.length + 1) r c = (mAt t xs ys r c : Nat) := by unfold mTab; rw [if_pos (by omega)]
theorem mTab_row : mTab t xs ys (i + 1) k (i + 1) c = (mAt t xs ys (i + 1) c : Nat) := by unfold mTab; rw [if_pos (by omega)]
theorem mTab_here (h : k ≤ c) : mTab t xs ys (i + 1) k i c = (mAt t xs ys i c : Nat) := by unfold mTab; rw [if_pos (by omega)]
theorem mTab_set {v : Int} (hv : v = (mAt t xs ys i k : Nat)) : (if r = i ∧ c = k then v else mTab t xs ys (i + 1) (k + 1) r c) = mTab t xs ys (i + 1) k r c := by
  by_cases h : r = i ∧ c = k
  · obtain ⟨rfl, rfl⟩ := h
    rw [if_pos ⟨rfl, rfl⟩, hv, mTab_here (Nat.le_refl _)]
  · rw [if_neg h]
    unfold mTab
    by_cases h2 : i + 1 ≤ r ∨ (r + 1 = i + 1 ∧ k + 1 ≤ c)
    · rw [if_pos h2, if_pos (by omega)]
    · rw [if_neg h2, if_neg (by omega)]
end
/-- Setting twice at one place. -/
theorem set_twice {f : Nat → Nat → Int} {i k r c : Nat} {u v : Int} : (if r = i ∧ c = k then v else (if r = i ∧ c = k then u else f r c)) = if r = i ∧ c = k then v else f r c := by
  by_cases h : r = i ∧ c = k
  · rw [if_pos h, if_pos h]
  · rw [if_neg h, if_neg h, if_neg h]

set_option maxRecDepth 100000 in
set_option maxHeartbeats 4000000 in
theorem mostPairs_any (A B : Option Addr) (ca cb : Nat) (a b : List (Int × Int)) (t : Int) (w : World) (hr : Rd w w.heap.size A a) (hs : Rd w w.heap.size B b) (hn : a.length ≤ 1000) (hm : b.length ≤ 1000)
    (ha : ∀ k, k < a.length → -1000000 ≤ fB a k ∧ fB a k ≤ 1000000) (hb : ∀ k, k < b.length → -1000000 ≤ fB b k ∧ fB b k ≤ 1000000) :
    Calls Try.prog 48 #[.slice A a.length ca, .slice B b.length cb, .int .i64 t] w (RetT w (a.length + 1) (b.length + 1) fun r c => (mAt t (szL a) (szL b) r c : Nat)) := by
  have HA := Lib.hid ha
  have HB := Lib.hid hb
  clear ha hb
  go_enter Try.func48, Try.ntmps48
  go_wp2_with fail
  refine (pairTable_any A B ca cb a.length b.length _ (by omega) (by omega)).mono ?_
  rintro e w1 ⟨g, c, h, rfl, tb, hb1⟩
  have tb1 := tb.congr (f' := mTab t (szL a) (szL b) (szL a).length ((szL b).length + 1)) fun _ _ _ hk => (mTab_first (by rw [length_szL]; exact hk)).symm
  rw [length_szL, length_szL] at tb1
  clear tb
  go_wp2_with fail
  go_loopw [8] (fun i wr => ∃ k : Nat, k ≤ a.length ∧ i = .int .i64 ((k : Int) - 1) ∧ Tb wr w.heap.size g 27 3 (a.length + 1) (b.length + 1) h (mTab t (szL a) (szL b) k (b.length + 1)) ∧ Below w.heap.size w wr) (fun i _ => (intOf i + 1).toNat)
  case atStart => exact ⟨a.length, Nat.le_refl _, rfl, tb1, hb1⟩
  case round =>
    obtain ⟨k, hk, rfl, ht, hbl⟩ := hrel
    clear tb1 hb1
    cases k with
    | zero =>
      go_wp2_with fail
      go_ret
      exact ⟨g, c, h, rfl, ht.congr fun _ _ _ _ => by rw [← length_szL b, mTab_last], hbl⟩
    | succ i =>
      rw [show ((i + 1 : Nat) : Int) - 1 = (i : Int) by omega]
      have hi0 : (0 : Int) ≤ (i : Int) := by omega
      have ht1 := ht.congr (f' := mTab t (szL a) (szL b) (i + 1) b.length) fun _ _ _ _ => by rw [← length_szL b, mTab_start]
      clear ht
      go_wp2_with fail
      go_loopw [9] (fun j wx => ∃ k : Nat, k ≤ b.length ∧ j = .int .i64 ((k : Int) - 1) ∧ Tb wx w.heap.size g 27 3 (a.length + 1) (b.length + 1) h (mTab t (szL a) (szL b) (i + 1) k) ∧ Below w.heap.size w wx) (fun j _ => (intOf j + 1).toNat)
      case atStart => exact ⟨b.length, Nat.le_refl _, rfl, ht1, hbl⟩
      case round =>
        obtain ⟨k, hkk, rfl, ht, hbl⟩ := hrel
        clear ht1
        cases k with
        | zero =>
          go_wp2_with fail
          exact ⟨⟨i, by omega, by go_num, ht.congr fun _ _ _ hc => by rw [← length_szL b] at hc ⊢; exact mTab_next hc, hbl⟩, by simp [intOf]⟩
        | succ k =>
          rw [show ((k + 1 : Nat) : Int) - 1 = (k : Int) by omega]
          have hk0 : (0 : Int) ≤ (k : Int) := by omega
          have q1 := ht.cellS (i := i) (by omega)
          have q2 := ht.cellS (i := i + 1) (by omega)
          have q3 := ht.cellI (i := i + 1) (k := k) (by omega) (by omega)
          have q4 := ht.cellI (i := i) (k := k + 1) (by omega) (by omega)
          have q5 := ht.frozen (i := i) (by omega) k
          have q6 := ht.cellI (i := i) (k := k) (by omega) (by omega)
          rw [mTab_row] at q3
          rw [mTab_here (Nat.le_refl _)] at q4
          have s1 : IntKind.i64.wrap ((i : Int) + 1) = (i : Int) + 1 := IntWalk.i64_in _ (by omega)
          have s2 : IntKind.i64.wrap ((k : Int) + 1) = (k : Int) + 1 := IntWalk.i64_in _ (by omega)
          have s3 : (0 : Int) ≤ (i : Int) + 1 := by omega
          have s4 : (0 : Int) ≤ (k : Int) + 1 := by omega
          have s5 : ((i : Int) + 1).toNat = i + 1 := by omega
          have s6 : ((k : Int) + 1).toNat = k + 1 := by omega
          have l1 : (i : Int) < (a.length : Int) + 1 := by omega
          have l2 : (i : Int) + 1 < (a.length : Int) + 1 := by omega
          have l3 : (k : Int) < (b.length : Int) + 1 := by omega
          have l4 : (k : Int) + 1 < (b.length : Int) + 1 := by omega
          have l5 : (i : Int) < (a.length : Int) := by omega
          have l6 : (k : Int) < (b.length : Int) := by omega
          obtain ⟨z1, z2⟩ := HA.out i (by omega)
          obtain ⟨z3, z4⟩ := HB.out k (by omega)
          have z5 := mAt_le t (szL a) (szL b) (i + 1) (k + 1)
          rw [length_szL] at z5
          by_cases hmx : (mAt t (szL a) (szL b) i (k + 1) : Int) ≤ (mAt t (szL a) (szL b) (i + 1) k : Int)
          · go_wp2_with fail
            refine wp_region_tailQ 22 (by kernel_rfl) (by kernel_rfl) ?_
            simp only [List.take_succ_cons, List.take_zero, List.drop_succ_cons, List.drop_zero]
            repeat (go_big_quiet_step (fail))
            refine wpQuiet_nil ?_
            go_wp2_with fail
            have tb2 := (ht.drewN 1).set (i := i) (by omega) k (mAt t (szL a) (szL b) (i + 1) k : Int)
            have bl2 : Below w.heap.size w ((wr.drewN 1).setCell ⟨h i, k, none⟩ (.int .i64 (mAt t (szL a) (szL b) (i + 1) k : Int))) := (below_drewN hbl 1).setCell (p := ⟨h i, k, none⟩) (ht.blk (by omega)) _
            generalize (wr.drewN 1).setCell ⟨h i, k, none⟩ (.int .i64 (mAt t (szL a) (szL b) (i + 1) k : Int)) = wy at tb2 bl2 ⊢
            clear q1 q2 q3 q4 q5 q6 ht hbl
            obtain ⟨bA, oA, hA, hAB, hcA⟩ := (hr.below bl2) (by omega)
            obtain ⟨bB, oB, hB, hBB, hcB⟩ := (hs.below bl2) (by omega)
            subst hA hB
            obtain ⟨e1, e2⟩ := hcA i (by omega)
            obtain ⟨e3, e4⟩ := hcB k (by omega)
            have g1 : bA < wy.heap.size := by have := bl2.size; omega
            have g2 : bB < wy.heap.size := by have := bl2.size; omega
            clear hcA hcB
            cases hlk : lk t (fB a i) (fB b k) with
            | true =>
              have hl : lk t (gI (szL a) i) (gI (szL b) k) = true := by rw [gI_szL, gI_szL]; exact hlk
              have hy := mAt_yes (t := t) (xs := szL a) (ys := szL b) (i := i) (k := k) (by rw [length_szL]; omega) (by rw [length_szL]; omega) hl
              have HY := Lib.hid hy
              clear hy hl
              refine wp_region_bw (by kernel_rfl) (by kernel_rfl) ?_
              repeat (go_big_quiet_step ((go_at_call 51; exact bw_ret (alike_is hlk _ (by omega) (by omega) (by omega) (by omega)))))
              refine wpQuiet_nil ?_
              intro wx hx
              have tb3 := tb2.below hx
              have bl3 := bl2.trans (hx.mono bl2.size)
              clear hx tb2 bl2 e1 e2 e3 e4 g1 g2
              have q1 := tb3.cellS (i := i) (by omega)
              have q2 := tb3.cellS (i := i + 1) (by omega)
              have q3 := tb3.cellI (i := i + 1) (k := k + 1) (by omega) (by omega)
              have q4 := tb3.cellI (i := i) (k := k) (by omega) (by omega)
              have q5 := tb3.frozen (i := i) (by omega) k
              rw [if_neg (by omega), mTab_row] at q3
              rw [if_pos ⟨rfl, rfl⟩] at q4
              have s7 : IntKind.i64.wrap (1 + (mAt t (szL a) (szL b) (i + 1) (k + 1) : Int)) = 1 + (mAt t (szL a) (szL b) (i + 1) (k + 1) : Int) := IntWalk.i64_in _ (by omega)
              by_cases hm2 : 1 + (mAt t (szL a) (szL b) (i + 1) (k + 1) : Int) ≤ (mAt t (szL a) (szL b) (i + 1) k : Int)
              · go_wp2_with fail
                refine wp_region_tailQ 23 (by kernel_rfl) (by kernel_rfl) ?_
                simp only [List.take_succ_cons, List.take_zero, List.drop_succ_cons, List.drop_zero]
                repeat (go_big_quiet_step (fail))
                refine wpQuiet_nil ?_
                go_wp2_with fail
                refine ⟨⟨k, by omega, by go_num, ((tb3.drewN 1).set (i := i) (by omega) k (mAt t (szL a) (szL b) (i + 1) k : Int)).congr fun _ _ _ _ => ?_, (below_drewN bl3 1).setCell (p := ⟨h i, k, none⟩) (tb3.blk (by omega)) _⟩, by simp [intOf]⟩
                rw [set_twice]
                exact mTab_set (by rw [HY.out]; omega)
              · have hm3 : decide (1 + (mAt t (szL a) (szL b) (i + 1) (k + 1) : Int) ≤ (mAt t (szL a) (szL b) (i + 1) k : Int)) = false := by simpa using hm2
                go_wp2_with fail
                refine wp_region_tailQ 23 (by kernel_rfl) (by kernel_rfl) ?_
                simp only [List.take_succ_cons, List.take_zero, List.drop_succ_cons, List.drop_zero]
                repeat (go_big_quiet_step (fail))
                refine wpQuiet_nil ?_
                go_wp2_with fail
                refine ⟨⟨k, by omega, by go_num, ((tb3.drewN 1).set (i := i) (by omega) k (1 + (mAt t (szL a) (szL b) (i + 1) (k + 1) : Int))).congr fun _ _ _ _ => ?_, (below_drewN bl3 1).setCell (p := ⟨h i, k, none⟩) (tb3.blk (by omega)) _⟩, by simp [intOf]⟩
                rw [set_twice]
                exact mTab_set (by rw [HY.out]; omega)
            | false =>
              have hl : lk t (gI (szL a) i) (gI (szL b) k) = false := by rw [gI_szL, gI_szL]; exact hlk
              have hy := mAt_no (t := t) (xs := szL a) (ys := szL b) (i := i) (k := k) (by rw [length_szL]; omega) (by rw [length_szL]; omega) hl
              have HY := Lib.hid hy
              clear hy hl
              refine wp_region_bw (by kernel_rfl) (by kernel_rfl) ?_
              repeat (go_big_quiet_step ((go_at_call 51; exact bw_ret (alike_is hlk _ (by omega) (by omega) (by omega) (by omega)))))
              refine wpQuiet_nil ?_
              intro wx hx
              have tb3 := tb2.below hx
              have bl3 := bl2.trans (hx.mono bl2.size)
              clear hx tb2 bl2 e1 e2 e3 e4 g1 g2
              go_wp2_with fail
              exact ⟨⟨k, by omega, by go_num, tb3.congr fun _ _ _ _ => mTab_set (by rw [HY.out]; omega), bl3⟩, by simp [intOf]⟩
          · have hmx2 : decide ((mAt t (szL a) (szL b) i (k + 1) : Int) ≤ (mAt t (szL a) (szL b) (i + 1) k : Int)) = false := by simpa using hmx
            go_wp2_with fail
            refine wp_region_tailQ 22 (by kernel_rfl) (by kernel_rfl) ?_
            simp only [List.take_succ_cons, List.take_zero, List.drop_succ_cons, List.drop_zero]
            repeat (go_big_quiet_step (fail))
            refine wpQuiet_nil ?_
            go_wp2_with fail
            have tb2 := (ht.drewN 1).set (i := i) (by omega) k (mAt t (szL a) (szL b) i (k + 1) : Int)
            have bl2 : Below w.heap.size w ((wr.drewN 1).setCell ⟨h i, k, none⟩ (.int .i64 (mAt t (szL a) (szL b) i (k + 1) : Int))) := (below_drewN hbl 1).setCell (p := ⟨h i, k, none⟩) (ht.blk (by omega)) _
            generalize (wr.drewN 1).setCell ⟨h i, k, none⟩ (.int .i64 (mAt t (szL a) (szL b) i (k + 1) : Int)) = wy at tb2 bl2 ⊢
            clear q1 q2 q3 q4 q5 q6 ht hbl
            obtain ⟨bA, oA, hA, hAB, hcA⟩ := (hr.below bl2) (by omega)
            obtain ⟨bB, oB, hB, hBB, hcB⟩ := (hs.below bl2) (by omega)
            subst hA hB
            obtain ⟨e1, e2⟩ := hcA i (by omega)
            obtain ⟨e3, e4⟩ := hcB k (by omega)
            have g1 : bA < wy.heap.size := by have := bl2.size; omega
            have g2 : bB < wy.heap.size := by have := bl2.size; omega
            clear hcA hcB
            cases hlk : lk t (fB a i) (fB b k) with
            | true =>
              have hl : lk t (gI (szL a) i) (gI (szL b) k) = true := by rw [gI_szL, gI_szL]; exact hlk
              have hy := mAt_yes (t := t) (xs := szL a) (ys := szL b) (i := i) (k := k) (by rw [length_szL]; omega) (by rw [length_szL]; omega) hl
              have HY := Lib.hid hy
              clear hy hl
              refine wp_region_bw (by kernel_rfl) (by kernel_rfl) ?_
              repeat (go_big_quiet_step ((go_at_call 51; exact bw_ret (alike_is hlk _ (by omega) (by omega) (by omega) (by omega)))))
              refine wpQuiet_nil ?_
              intro wx hx
              have tb3 := tb2.below hx
              have bl3 := bl2.trans (hx.mono bl2.size)
              clear hx tb2 bl2 e1 e2 e3 e4 g1 g2
              have q1 := tb3.cellS (i := i) (by omega)
              have q2 := tb3.cellS (i := i + 1) (by omega)
              have q3 := tb3.cellI (i := i + 1) (k := k + 1) (by omega) (by omega)
              have q4 := tb3.cellI (i := i) (k := k) (by omega) (by omega)
              have q5 := tb3.frozen (i := i) (by omega) k
              rw [if_neg (by omega), mTab_row] at q3
              rw [if_pos ⟨rfl, rfl⟩] at q4
              have s7 : IntKind.i64.wrap (1 + (mAt t (szL a) (szL b) (i + 1) (k + 1) : Int)) = 1 + (mAt t (szL a) (szL b) (i + 1) (k + 1) : Int) := IntWalk.i64_in _ (by omega)
              by_cases hm2 : 1 + (mAt t (szL a) (szL b) (i + 1) (k + 1) : Int) ≤ (mAt t (szL a) (szL b) i (k + 1) : Int)
              · go_wp2_with fail
                refine wp_region_tailQ 23 (by kernel_rfl) (by kernel_rfl) ?_
                simp only [List.take_succ_cons, List.take_zero, List.drop_succ_cons, List.drop_zero]
                repeat (go_big_quiet_step (fail))
                refine wpQuiet_nil ?_
                go_wp2_with fail
                refine ⟨⟨k, by omega, by go_num, ((tb3.drewN 1).set (i := i) (by omega) k (mAt t (szL a) (szL b) i (k + 1) : Int)).congr fun _ _ _ _ => ?_, (below_drewN bl3 1).setCell (p := ⟨h i, k, none⟩) (tb3.blk (by omega)) _⟩, by simp [intOf]⟩
                rw [set_twice]
                exact mTab_set (by rw [HY.out]; omega)
              · have hm3 : decide (1 + (mAt t (szL a) (szL b) (i + 1) (k + 1) : Int) ≤ (mAt t (szL a) (szL b) i (k + 1) : Int)) = false := by simpa using hm2
                go_wp2_with fail
                refine wp_region_tailQ 23 (by kernel_rfl) (by kernel_rfl) ?_
                simp only [List.take_succ_cons, List.take_zero, List.drop_succ_cons, List.drop_zero]
                repeat (go_big_quiet_step (fail))
                refine wpQuiet_nil ?_
                go_wp2_with fail
                refine ⟨⟨k, by omega, by go_num, ((tb3.drewN 1).set (i := i) (by omega) k (1 + (mAt t (szL a) (szL b) (i + 1) (k + 1) : Int))).congr fun _ _ _ _ => ?_, (below_drewN bl3 1).setCell (p := ⟨h i, k, none⟩) (tb3.blk (by omega)) _⟩, by simp [intOf]⟩
                rw [set_twice]
                exact mTab_set (by rw [HY.out]; omega)
            | false =>
              have hl : lk t (gI (szL a) i) (gI (szL b) k) = false := by rw [gI_szL, gI_szL]; exact hlk
              have hy := mAt_no (t := t) (xs := szL a) (ys := szL b) (i := i) (k := k) (by rw [length_szL]; omega) (by rw [length_szL]; omega) hl
              have HY := Lib.hid hy
              clear hy hl
              refine wp_region_bw (by kernel_rfl) (by kernel_rfl) ?_
              repeat (go_big_quiet_step ((go_at_call 51; exact bw_ret (alike_is hlk _ (by omega) (by omega) (by omega) (by omega)))))
              refine wpQuiet_nil ?_
              intro wx hx
              have tb3 := tb2.below hx
              have bl3 := bl2.trans (hx.mono bl2.size)
              clear hx tb2 bl2 e1 e2 e3 e4 g1 g2
              go_wp2_with fail
              exact ⟨⟨k, by omega, by go_num, tb3.congr fun _ _ _ _ => mTab_set (by rw [HY.out]; omega), bl3⟩, by simp [intOf]⟩

end Go.Proofs.Ytgfahnmkfgfibaa
