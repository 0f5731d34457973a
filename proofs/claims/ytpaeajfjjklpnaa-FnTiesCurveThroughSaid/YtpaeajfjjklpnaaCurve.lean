/- Contracts of TiesCurve, in the program and in the reference, of CurveValid and CurveTurn. No condition but that the list has at most 1048576 elements. -/
import Derived.Test.YtpaeajfjjklpnaaTv
import Derived.Test.YtpaeajfjjklpnaaTiesMore
import Derived.Test.YtpaeajfjjklpnaaPlan
import Derived.Test.YtpaeajfjjklpnaaPairTie
import Derived.Test.YtpaeajfjjklpnaaPairKnot
namespace Go.Proofs.Ytpaeajfjjklpnaa
open Go.RowKit

theorem curOk_of_not {l : List (Int × Int)} (h : asc l = false) : curOk l = false := by simp [curOk, tv, h]
theorem curL_yes {l : List (Int × Int)} (h : curOk l = true) : curL l = l := by unfold curL; rw [if_pos h]
theorem curL_len (l : List (Int × Int)) : (curL l).length ≤ l.length := by
  unfold curL; split
  · exact Nat.le_refl _
  · simp
def curTurn (l : List (Int × Int)) : List (Int × Int) := if curOk l = true then swapL l else []
theorem curOk_swapL (l : List (Int × Int)) : curOk (swapL l) = curOk l := by simp only [curOk, tv_swapL, length_swapL]

set_option maxHeartbeats 1000000 in
theorem tiesCurve_any (A : Option Addr) (c : Nat) (l : List (Int × Int)) (w : World) (hr : Rd w w.heap.size A l) (hn : l.length ≤ 1048576) :
    Calls Try.prog 6 #[.slice A l.length c] w (RetSB w 49 (curL l) (curOk l)) := by
  cases ht : tv l with
  | false =>
    go_enter Try.func6, Try.ntmps6
    go_wp2_with (go_at_call 18; refine (tiesValid_any A c l _ hr hn).mono ?_; rintro e w1 ⟨rfl, hb⟩)
    go_ret2
    have e : curL l = [] := by simp [curL, curOk, ht]
    rw [e, show curOk l = false by simp [curOk, ht]]
    exact ⟨none, 0, rfl, World.ownsRow_nil _ _ _ _, hb⟩
  | true =>
    by_cases hs : l.length < 2
    · have HZ := Lib.hid (show curOk l = false by simp [curOk]; omega)
      have Hn := show ((l.length : Int) < 2) by omega
      go_enter Try.func6, Try.ntmps6
      go_wp2_with (go_at_call 18; refine (tiesValid_any A c l _ hr hn).mono ?_; rintro e w1 ⟨rfl, hb⟩)
      go_ret2
      have e : curL l = [] := by unfold curL; rw [HZ.out]; rfl
      rw [e, HZ.out]
      exact ⟨none, 0, rfl, World.ownsRow_nil _ _ _ _, hb⟩
    · have hs2 : decide ((l.length : Int) < 2) = false := by simp; omega
      have e : curL l = l := by simp [curL, curOk, ht, hs]
      have HE := Lib.hid e
      clear e
      go_enter Try.func6, Try.ntmps6
      go_wp2_with (go_at_call 18; refine (tiesValid_any A c l _ hr hn).mono ?_; rintro e w1 ⟨rfl, hb⟩)
      have HO := Lib.hid (show curOk l = true by simp [curOk, ht]; omega)
      clear ht hs
      go_loopw [17, 4] (fun i v wr => ∃ k : Nat, k ≤ l.length ∧ i = .int .i64 k ∧ Acc2 w wr 49 v ((l.take k))) (fun i _ _ => l.length - (intOf i).toNat)
      case atStart => exact ⟨0, Nat.zero_le _, rfl, World.ownsRow_nil _ _ _ _, hb⟩
      case round =>
        obtain ⟨k, hk, rfl, hacc⟩ := hrel
        by_cases hlt : k < l.length
        · obtain ⟨b, o, rfl, hB, hcs⟩ := hr (by omega)
          have e1 : wr.cell? ⟨b, o + k * 2, none⟩ = some (.int .i64 (fA l k)) := (hacc.2.cell (p := ⟨b, _, none⟩) hB).trans (hcs k hlt).1
          have e2 : wr.cell? ⟨b, o + k * 2 + 1, none⟩ = some (.int .i64 (fB l k)) := (hacc.2.cell (p := ⟨b, _, none⟩) hB).trans (hcs k hlt).2
          have hln : ((l.take k)).length + 1 ≤ 4294967296 := by rw [List.length_take]; omega
          clear hcs hr
          go_wp2_with (at_builtin; refine wpList_app2 rfl _ _ _ rfl Try.underlying25 infoKnot rfl (hacc.alloc _) _ _ _ _ (by simp) rfl hln ?_; intro v1 w2 hacc1)
          exact ⟨⟨k + 1, hlt, by go_num, by rw [take_succ_pair l k hlt]; exact hacc1⟩, by simp [intOf]; omega⟩
        · clear hr
          go_wp2
          go_ret2
          obtain ⟨A1, c1, rfl⟩ := hacc.shape
          have e : (l.take k) = curL l := by rw [List.take_of_length_le (by omega), HE.out]
          rw [e] at hacc
          refine ⟨A1, c1, ?_, hacc⟩
          rw [← e, HO.out]; rfl

set_option maxHeartbeats 1000000 in
theorem specTiesCurve_any (A : Option Addr) (c : Nat) (l : List (Int × Int)) (w : World) (hr : Rd w w.heap.size A l) (hn : l.length ≤ 1048576) :
    Calls Try.prog 7 #[.slice A l.length c] w (RetSB w 49 (curL l) (curOk l)) := by
  have hb0 : Below w.heap.size w (w.alloc (.cells #[] 49)) := (Below.refl _ _).alloc (Nat.le_refl _) _
  have hacc0 : Acc2 w (w.alloc (.cells #[] 49)) 49 (.slice (some ⟨w.heap.size, 0, none⟩) 0 0) [] := ⟨World.ownsRow_made w #[] 0 (Nat.le_refl _) (by decide) rfl, hb0⟩
  cases ht : tv l with
  | false =>
    go_enter Try.func7, Try.ntmps7
    go_wp2_with (go_at_call 19; refine (specTiesValid_any A c l _ (hr.to hb0) hn).mono ?_; rintro e w1 ⟨rfl, hb⟩)
    go_ret2
    have e : curL l = [] := by simp [curL, curOk, ht]
    rw [e, show curOk l = false by simp [curOk, ht]]
    exact ⟨_, 0, rfl, (hacc0.below hb).1, (hacc0.below hb).2⟩
  | true =>
    by_cases hs : l.length < 2
    · have HZ := Lib.hid (show curOk l = false by simp [curOk]; omega)
      have Hn := show ((l.length : Int) < 2) by omega
      go_enter Try.func7, Try.ntmps7
      go_wp2_with (go_at_call 19; refine (specTiesValid_any A c l _ (hr.to hb0) hn).mono ?_; rintro e w1 ⟨rfl, hb⟩)
      go_ret2
      have e : curL l = [] := by unfold curL; rw [HZ.out]; rfl
      rw [e, HZ.out]
      exact ⟨_, 0, rfl, (hacc0.below hb).1, (hacc0.below hb).2⟩
    · have hs2 : decide ((l.length : Int) < 2) = false := by simp; omega
      have e : curL l = l := by simp [curL, curOk, ht, hs]
      have HE := Lib.hid e
      clear e
      go_enter Try.func7, Try.ntmps7
      go_wp2_with (go_at_call 19; refine (specTiesValid_any A c l _ (hr.to hb0) hn).mono ?_; rintro e w1 ⟨rfl, hb⟩)
      have HO := Lib.hid (show curOk l = true by simp [curOk, ht]; omega)
      clear ht hs
      have hacc1 := hacc0.below hb
      clear hb hacc0 hb0
      go_loopw [5, 4] (fun i v wr => ∃ k : Nat, k ≤ l.length ∧ i = .int .i64 k ∧ Acc2 w wr 49 v ((l.take k))) (fun i _ _ => l.length - (intOf i).toNat)
      case atStart => exact ⟨0, Nat.zero_le _, rfl, hacc1⟩
      case round =>
        obtain ⟨k, hk, rfl, hacc⟩ := hrel
        by_cases hlt : k < l.length
        · obtain ⟨b, o, rfl, hB, hcs⟩ := hr (by omega)
          obtain ⟨q1, q2⟩ := hcs k hlt
          have hln : ((l.take k)).length + 1 ≤ 4294967296 := by rw [List.length_take]; omega
          have hkz : (0 : Int) ≤ (k : Int) := by omega
          have hkl : (k : Int) < (l.length : Int) := by omega
          clear hcs hr hacc1
          go_wp2_with fail
          have he1 : ∀ i : SW (Below w.heap.size w), (sw i).cell? ⟨b, o + k * 2, none⟩ = some (.int .i64 (fA l k)) := fun i => ((sw_is i).cell (p := ⟨b, _, none⟩) hB).trans q1
          have he2 : ∀ i : SW (Below w.heap.size w), (sw i).cell? ⟨b, o + k * 2 + 1, none⟩ = some (.int .i64 (fB l k)) := fun i => ((sw_is i).cell (p := ⟨b, _, none⟩) hB).trans q2
          refine wp_region_plan (Below w.heap.size w) [([0, 1, 2, 3, 4, 5, 6, 7, 8, 9, 10, 11], 12), ([], 13)] [14] (by kernel_rfl) (by kernel_rfl) (below_drewN hacc.2 1) fun hne => ?_
          simp only [wpPlan, wpEff, effOf, opsAt, optCons, List.getElem?_toArray, List.getElem?_cons_zero, List.getElem?_cons_succ]
          repeat (go_big_quiet_step (fail))
          refine wpQuiet_nil ?_
          go_wp2
          refine effQ_normal ((hacc.drewN 1).alloc _).2 ?_
          refine wpQuiet_nil ?_
          go_wp2_with (at_builtin; refine wpList_app2 rfl _ _ _ rfl Try.underlying25 infoKnot rfl (hacc.drewN 1) _ _ _ _ (by simp) rfl hln ?_; intro v1 w2 hacc1)
          refine effQ_normal hacc1.2 ?_
          repeat (go_big_quiet_step (fail))
          refine wpQuiet_nil ?_
          refine noPan_normal ?_
          go_wp2
          exact ⟨⟨k + 1, hlt, by go_num, by rw [take_succ_pair l k hlt]; exact hacc1⟩, by simp [intOf]; omega⟩
        · clear hr hacc1
          go_wp2
          go_ret2
          obtain ⟨A1, c1, rfl⟩ := hacc.shape
          have e : (l.take k) = curL l := by rw [List.take_of_length_le (by omega), HE.out]
          rw [e] at hacc
          refine ⟨A1, c1, ?_, hacc⟩
          rw [← e, HO.out]; rfl

set_option maxHeartbeats 1000000 in
theorem curveValid_any (A : Option Addr) (c : Nat) (l : List (Int × Int)) (w : World) (hr : Rd w w.heap.size A l) (hn : l.length ≤ 1048576) :
    Calls Try.prog 20 #[.slice A l.length c] w fun e w' => e = .returned (.bool (curOk l)) ∧ Below w.heap.size w w' := by
  go_enter Try.func20, Try.ntmps20
  go_wp2
  go_loopw [7] (fun i wr => ∃ k : Nat, k ≤ l.length ∧ i = .int .i64 k ∧ ascTo l k = true ∧ Below w.heap.size w wr) (fun i _ => l.length - (intOf i).toNat)
  case atStart => exact ⟨0, Nat.zero_le _, rfl, rfl, Below.refl _ _⟩
  case round =>
    obtain ⟨k, hk, rfl, hto, hb⟩ := hrel
    have Hto := Lib.hid hto
    clear hto
    by_cases hlt : k < l.length
    · obtain ⟨b, o, rfl, hB, hcs⟩ := hr (by omega)
      have e1 : wr.cell? ⟨b, o + k * 2, none⟩ = some (.int .i64 (fA l k)) := (hb.cell (p := ⟨b, _, none⟩) hB).trans (hcs k hlt).1
      have e2 : wr.cell? ⟨b, o + k * 2 + 1, none⟩ = some (.int .i64 (fB l k)) := (hb.cell (p := ⟨b, _, none⟩) hB).trans (hcs k hlt).2
      have g1 : k ≠ 0 → wr.cell? ⟨b, o + (k - 1) * 2, none⟩ = some (.int .i64 (fA l (k - 1))) := fun _ => (hb.cell (p := ⟨b, _, none⟩) hB).trans (hcs (k - 1) (by omega)).1
      have g2 : k ≠ 0 → wr.cell? ⟨b, o + (k - 1) * 2 + 1, none⟩ = some (.int .i64 (fB l (k - 1))) := fun _ => (hb.cell (p := ⟨b, _, none⟩) hB).trans (hcs (k - 1) (by omega)).2
      have hbl : b < wr.heap.size := by have := hb.size; omega
      clear hcs hr
      go_wp2_with fail
      by_cases d1 : depthOk (fA l k) = true
      · by_cases d2 : depthOk (fB l k) = true
        · by_cases hk0 : k = 0
          · have hz : decide (0 < k) = false := by simp; omega
            have HK := Lib.hid hk0
            clear g1 g2 hk0
            go_quiet ((go_at_call 25; exact quiet_left (isDepth_any _ _)))
            go_wp2
            exact ⟨⟨k + 1, hlt, by go_num, by rw [ascTo, Hto.out]; simp only [AscAt, d1, d2]; simp [HK.out], below_drewN (hb.alloc hb.size _) _⟩, by simp [intOf]; omega⟩
          · have hz : decide (0 < k) = true := by simp; omega
            have hk1 : (1 : Int) ≤ (k : Int) := by omega
            replace g1 := g1 hk0
            replace g2 := g2 hk0
            have s1 : IntKind.i64.wrap ((k : Int) - 1) = (k : Int) - 1 := IntWalk.i64_in _ (by omega)
            have s2 : ((k : Int) - 1).toNat = k - 1 := by omega
            by_cases h1 : fA l k ≤ fA l (k - 1)
            · go_quiet ((go_at_call 25; exact quiet_left (isDepth_any _ _)))
              go_wp2
              go_ret
              have hs : curOk l = false := curOk_of_not <| asc_stop hlt (by simp [AscAt, hk0]; omega)
              exact ⟨ret_bool hs.symm, below_drewN (hb.alloc hb.size _) _⟩
            · have h1' : decide (fA l k ≤ fA l (k - 1)) = false := by simpa using h1
              by_cases h2 : fB l k ≤ fB l (k - 1)
              · go_quiet ((go_at_call 25; exact quiet_left (isDepth_any _ _)))
                go_wp2
                go_ret
                have hs : curOk l = false := curOk_of_not <| asc_stop hlt (by simp [AscAt, hk0]; omega)
                exact ⟨ret_bool hs.symm, below_drewN (hb.alloc hb.size _) _⟩
              · have h2' : decide (fB l k ≤ fB l (k - 1)) = false := by simpa using h2
                go_quiet ((go_at_call 25; exact quiet_left (isDepth_any _ _)))
                go_wp2
                exact ⟨⟨k + 1, hlt, by go_num, by rw [ascTo, Hto.out]; simp [AscAt, d1, d2]; omega, below_drewN (hb.alloc hb.size _) _⟩, by simp [intOf]; omega⟩
        · have d2' : depthOk (fB l k) = false := by simpa using d2
          clear d2 g1 g2
          go_quiet ((go_at_call 25; exact quiet_left (isDepth_any _ _)))
          go_wp2
          go_ret
          have hs : curOk l = false := curOk_of_not <| asc_stop hlt (by simp [AscAt, d2'])
          exact ⟨ret_bool hs.symm, below_drewN (hb.alloc hb.size _) _⟩
      · have d1' : depthOk (fA l k) = false := by simpa using d1
        clear d1 g1 g2
        go_quiet ((go_at_call 25; exact quiet_left (isDepth_any _ _)))
        go_wp2
        go_ret
        have hs : curOk l = false := curOk_of_not <| asc_stop hlt (by simp [AscAt, d1'])
        exact ⟨ret_bool hs.symm, below_drewN (hb.alloc hb.size _) _⟩
    · clear hr
      have hs : asc l = true := by have := Hto.out; rw [show k = l.length by omega] at this; exact this
      have hv : curOk l = (decide ((2 : Int) ≤ l.length) && decide ((l.length : Int) ≤ 12)) := by
        have h1 : decide (2 ≤ l.length) = decide ((2 : Int) ≤ l.length) := by rw [decide_eq_decide]; omega
        have h2 : decide (l.length ≤ 12) = decide ((l.length : Int) ≤ 12) := by rw [decide_eq_decide]; omega
        simp only [curOk, tv, hs, Bool.true_and, h1, h2, Bool.and_comm]
      have HV := Lib.hid hv
      clear hs hv
      by_cases h2 : (2 : Int) ≤ l.length
      · go_wp2
        all_goals
          go_ret
          exact ⟨ret_bool (by rw [HV.out]; simp [h2]), hb⟩
      · have h2' : decide ((2 : Int) ≤ (l.length : Int)) = false := by simpa using h2
        go_wp2
        all_goals
          go_ret
          exact ⟨ret_bool (by rw [HV.out]; simp [h2']), hb⟩

end Go.Proofs.Ytpaeajfjjklpnaa
