/- Contract of CutsBest in the program. No condition but that the list has at most 1048576 elements. -/
import Derived.Test.YtbdhnfligfpigaaCBLaw
import Derived.Test.YtbdhnfligfpigaaTree
namespace Go.Proofs.Ytbdhnfligfpigaa
open Go.RowKit

set_option maxRecDepth 100000 in
set_option maxHeartbeats 8000000 in
theorem cutsBest_any (A : Option Addr) (ca : Nat) (c : List Int) (lo hi : Int) (w : World) (hr : RdI w w.heap.size .i64 A c) (hn : c.length ≤ 1048576) :
    Calls Try.prog 18 #[.slice A c.length ca, .int .i64 lo, .int .i64 hi] w (RetIB w 3 (bestC c lo hi) (bestOk c lo hi)) := by
  go_enter Try.func18, Try.ntmps18
  go_wp2_with fail
  refine (signalValid_any A ca c _ hr hn).mono ?_
  rintro e w' ⟨rfl, rfl⟩
  cases h1 : sig c with
  | false =>
    have hf : bestOk c lo hi = false := by simp [bestOk, h1]
    have HF := Lib.hid hf
    have HB := Lib.hid (bestC_no hf)
    clear h1 hf
    go_wp2
    go_ret2
    rw [HB.out, HF.out]
    exact ⟨none, 0, rfl, World.ownsRow_nil _ _ _ _, Below.refl _ _⟩
  | true =>
    have H1 := Lib.hid h1
    obtain ⟨n1, n2⟩ := ((sig_iff c).1 h1).2
    clear h1
    go_wp2_with fail
    refine (cutsMany_any _ lo hi _).mono ?_
    rintro e w1 ⟨rfl, hb1⟩
    have hr1 := hr.to hb1
    by_cases hm : manyV (c.length : Int) lo hi < 1
    · have hf : bestOk c lo hi = false := by
        cases h2 : dstOk lo hi with
        | false => simp [bestOk, h2]
        | true =>
          have hd := dst_parts h2
          obtain ⟨a, rfl⟩ := Int.eq_ofNat_of_zero_le (show 0 ≤ lo by omega)
          obtain ⟨b, rfl⟩ := Int.eq_ofNat_of_zero_le (show 0 ≤ hi by omega)
          have := many_iff H1.out h2
          rw [bestOk_nat H1.out h2]; exact decide_eq_false (by omega)
      have HF := Lib.hid hf
      have HB := Lib.hid (bestC_no hf)
      clear hf
      go_wp2
      go_ret2
      rw [HB.out, HF.out]
      exact ⟨none, 0, rfl, World.ownsRow_nil _ _ _ _, hb1⟩
    · have hd : dstOk lo hi = true := by
        cases h2 : dstOk lo hi with
        | true => rfl
        | false => rw [manyV, h2] at hm; simp at hm
      have hdp := dst_parts hd
      obtain ⟨a, rfl⟩ := Int.eq_ofNat_of_zero_le (show 0 ≤ lo by omega)
      obtain ⟨b, rfl⟩ := Int.eq_ofNat_of_zero_le (show 0 ≤ hi by omega)
      have hok : bestOk c a b = true := by
        have := many_iff H1.out hd
        rw [bestOk_nat H1.out hd]; exact decide_eq_true (by omega)
      have h0 : 0 ≤ rs a b c 0 := (many_iff H1.out hd).1 (by omega)
      have HB := Lib.hid (bestC_nat hok)
      have HOK := Lib.hid hok
      have hm2 : decide (manyV (c.length : Int) (a : Int) (b : Int) < 1) = false := decide_eq_false hm
      have hD1 : 1 ≤ a := by omega
      have hD2 : a ≤ b := by omega
      have hD3 : b ≤ 16 := by omega
      have SN := Lib.hid (sig_nonneg H1.out)
      have RS := Lib.hid (fun k (hk : k ≤ c.length) => rs_small (b := b) hD1 H1.out hk)
      have HC0 := Lib.hid (fun k (hk : k < c.length) => (sig_nonneg H1.out k).1)
      clear hm hd hok hdp
      have hmk := run_make1 (P := Try.prog) Try.underlying22 infoI64 (by omega) (c.length + 1) (by omega)
      rw [show ((c.length + 1 : Nat) : Int) = (c.length : Int) + 1 by omega] at hmk
      have s0 : IntKind.i64.wrap ((c.length : Int) + 1) = (c.length : Int) + 1 := IntWalk.i64_in _ (by omega)
      go_wp2_with fail
      refine wp_region_tree (fun _ => True) none (.two [0, 1, 3, 4] 2 (.one [6] 5 (.fin [7])) 5 (.one [] 2 (.fin [6, 7]))) (by kernel_rfl) (by kernel_rfl) trivial fun hne => ?_
      simp only [wpTree, wpEff, effOf, opsAt, optCons, List.getElem?_toArray, List.getElem?_cons_zero, List.getElem?_cons_succ]
      repeat (go_big_quiet_step (fail))
      refine wpQuiet_nil ?_
      have hb1d := below_drewN hb1 1
      refine ⟨?_, ?_⟩
      ·
        go_wp2
        first | refine effQ_normal trivial ⟨fun _ => True, fun _ _ => trivial, fun _ => trivial, ?_⟩ | refine effQ_normal trivial ⟨fun _ => True, trivial, ?_⟩ | refine effQ_normal trivial ⟨fun _ => True, ?_⟩
        repeat (go_big_quiet_step (fail))
        refine wpQuiet_nil ?_
        go_wp2
        first | refine effQ_normal trivial ⟨fun _ => True, fun _ _ => trivial, fun _ => trivial, ?_⟩ | refine effQ_normal trivial ⟨fun _ => True, trivial, ?_⟩ | refine effQ_normal trivial ⟨fun _ => True, ?_⟩
        repeat (go_big_quiet_step (fail))
        refine wpQuiet_nil ?_
        refine noPan_normal ?_
        have hbW : Below w.heap.size w (((w1.drewN 1).alloc (.cells (madeCells #[.int .i64 0] (c.length + 1)) 3)).alloc (.cells (madeCells #[.int .i64 0] (c.length + 1)) 3)) := (hb1d.alloc hb1d.size _).alloc (by have := hb1.size; simp; omega) _
        have ro0 : Row (((w1.drewN 1).alloc (.cells (madeCells #[.int .i64 0] (c.length + 1)) 3)).alloc (.cells (madeCells #[.int .i64 0] (c.length + 1)) 3)) w1.heap.size 3 (c.length + 1) (fun _ => .int .i64 0) := (row_one (w1.drewN 1) (c.length + 1) 3).alloc _
        have ro1 : Row (((w1.drewN 1).alloc (.cells (madeCells #[.int .i64 0] (c.length + 1)) 3)).alloc (.cells (madeCells #[.int .i64 0] (c.length + 1)) 3)) (w1.heap.size + 1) 3 (c.length + 1) (fun _ => .int .i64 0) := by have := row_one ((w1.drewN 1).alloc (.cells (madeCells #[.int .i64 0] (c.length + 1)) 3)) (c.length + 1) 3; rwa [World.size_alloc] at this
        have hz1 : w.heap.size ≤ w1.heap.size := hb1.size
        generalize ((w1.drewN 1).alloc (.cells (madeCells #[.int .i64 0] (c.length + 1)) 3)).alloc (.cells (madeCells #[.int .i64 0] (c.length + 1)) 3) = W0 at hbW ro0 ro1 ⊢
        have rR := ro0.congr (f' := fun i => .int .i64 (doneR a b c c.length i)) (fun i hi => by rw [doneR_start hi])
        have rN := ro1.congr (f' := fun i => .int .i64 (doneN a b c c.length i : Nat)) (fun i hi => by rw [doneN_start hi]; rfl)
        generalize hgn : w1.heap.size + 1 = gn at rR rN ⊢
        generalize hgr : w1.heap.size = gr at rR rN ⊢
        have hg1 : w.heap.size ≤ gr ∧ w.heap.size ≤ gn ∧ gr ≠ gn := by omega
        obtain ⟨hgr1, hgn1, hgne⟩ := hg1
        clear ro0 ro1 hgr hgn hmk hr1 s0
        go_wp2_with fail
        go_loopw [11] (fun i wr => ∃ k : Nat, k ≤ c.length ∧ i = .int .i64 ((k : Int) - 1) ∧ Row wr gr 3 (c.length + 1) (fun i => .int .i64 (doneR a b c k i)) ∧ Row wr gn 3 (c.length + 1) (fun i => .int .i64 (doneN a b c k i : Nat)) ∧ Below w.heap.size w wr) (fun i _ => (intOf i + 1).toNat)
        case atStart => exact ⟨c.length, Nat.le_refl _, rfl, rR, rN, hbW⟩
        case round =>
          obtain ⟨k, hk, rfl, hR, hN, hb⟩ := hrel
          clear rR rN hbW
          cases k with
          | succ q =>
            rw [show ((q + 1 : Nat) : Int) - 1 = (q : Int) by omega]
            have hq0 : (0 : Int) ≤ (q : Int) := by omega
            have q1 := hR.cell (i := q) (by omega)
            have q2 := hR.frozen q
            have l1 : (q : Int) < (c.length : Int) + 1 := by omega
            go_wp2_with fail
            clear q1 q2
            have hR1 := (hR.set q (.int .i64 (-1))).congr (f' := fun i => .int .i64 (rowR a b c q 0 i)) (fun i _ => rowR_first)
            have hN1 := (hN.of_block (Below.heap_setCell wr ⟨gr, q, none⟩ (.int .i64 (-1)) gn (Ne.symm hgne))).congr (f' := fun i => .int .i64 (rowN a b c q 0 i : Nat)) (fun i _ => by rw [rowN_first])
            have hb2 := hb.setCell (p := ⟨gr, q, none⟩) (by exact hgr1) (.int .i64 (-1))
            generalize wr.setCell ⟨gr, q, none⟩ (.int .i64 (-1)) = wz at hR1 hN1 hb2 ⊢
            clear hR hN hb
            go_loopw [12] (fun d wx => ∃ j : Nat, j ≤ many a b c.length q ∧ d = .int .i64 ((q + a + j : Nat) : Int) ∧ Row wx gr 3 (c.length + 1) (fun i => .int .i64 (rowR a b c q j i)) ∧ Row wx gn 3 (c.length + 1) (fun i => .int .i64 (rowN a b c q j i : Nat)) ∧ Below w.heap.size w wx) (fun d _ => c.length + 1 - (intOf d).toNat)
            case atStart => exact ⟨0, Nat.zero_le _, by go_num, hR1, hN1, hb2⟩
            case round =>
              obtain ⟨j, hj, rfl, hR, hN, hb⟩ := hrel
              clear hR1 hN1 hb2
              have hmy : many a b c.length q = min (q + b) c.length + 1 - (q + a) := rfl
              by_cases hjj : j < many a b c.length q
              · have hto : q + a + j ≤ q + b ∧ q + a + j ≤ c.length := by omega
                obtain ⟨bC, oC, hA, hAB, hcC⟩ := (hr.below hb) (by omega)
                subst hA
                have e1 := hcC (q + a + j - 1) (by omega)
                have q1 := hR.cell (i := q + a + j) (by omega)
                have q2 := hR.cell (i := q) (by omega)
                have q3 := hR.frozen q
                have q4 := hN.cell (i := q) (by omega)
                have q5 := hN.frozen q
                rw [rowR_gt (by omega)] at q1
                rw [rowR_here] at q2
                rw [rowN_here] at q4
                have r1 := RS.out (q + a + j) hto.2
                have r2 := SN.out (q + a + j - 1)
                have r3 := sc_bd (a := a) (c := c) (q := q) (r := rs a b c) 17000 (by omega) (fun k => (SN.out k).1) j (fun i hi => by have := RS.out (q + a + i) (by omega); have := SN.out (q + a + i - 1); omega)
                have hst : j < many a b c.length q := hjj
                have yes := fun h0 h => sc_yes (a := a) (c := c) (r := rs a b c) (q := q) (j := j) h0 h
                have no := fun h => sc_no (a := a) (c := c) (r := rs a b c) (q := q) (j := j) h
                have YES := Lib.hid yes
                have NO := Lib.hid no
                clear yes no hcC hmy
                have hjm : j + 1 ≤ many a b c.length q := hjj
                clear hjj hst
                generalize hTO : q + a + j = to at *
                have HTO := Lib.hid hTO
                clear hTO
                generalize hV : rs a b c to = V at *
                generalize hCV : gI c (to - 1) = C at *
                have HV := Lib.hid hV
                have HCV := Lib.hid hCV
                clear hV hCV
                have to1 : 1 ≤ to ∧ q < to := by have := HTO.out; omega
                have l2 : (0 : Int) ≤ (to : Int) ∧ (to : Int) < (c.length : Int) + 1 ∧ (0 : Int) ≤ (to : Int) - 1 ∧ (to : Int) - 1 < (c.length : Int) ∧ (1 : Int) ≤ (to : Int) := by omega
                obtain ⟨l21, l22, l23, l24, l25⟩ := l2
                have s1 : IntKind.i64.wrap ((to : Int) - 1) = (to : Int) - 1 := IntWalk.i64_in _ (by omega)
                have s2 : ((to : Int) - 1).toNat = to - 1 := by omega
                have s3 : IntKind.i64.wrap (C + V) = C + V := IntWalk.i64_in _ (by omega)
                have s4 : IntKind.i64.wrap ((q : Int) + (b : Int)) = (q : Int) + (b : Int) := IntWalk.i64_in _ (by omega)
                have l3 : (to : Int) ≤ (q : Int) + (b : Int) := by omega
                have l4 : to ≤ c.length := hto.2
                have l5 : (to : Int) ≤ (c.length : Int) := by omega
                generalize hS : (sc a c (rs a b c) q j).1 = S at *
                generalize hS2 : (sc a c (rs a b c) q j).2 = S2 at *
                have HS := Lib.hid (And.intro hS hS2)
                clear hS hS2
                by_cases hA : 0 ≤ V
                · by_cases hB : S < 0 ∨ C + V < S
                  · have hy := YES.out hA hB
                    have HY := Lib.hid hy
                    have hA2 : decide (0 ≤ V) = true := decide_eq_true hA
                    clear hy YES NO
                    by_cases hmn : (q : Int) + (b : Int) ≤ (c.length : Int)
                    · skip
                      by_cases hB1 : S < 0
                      · have hB2 : decide (S < 0) = true := decide_eq_true hB1
                        clear hB
                        clear hB1
                        go_wp2_with fail
                        go_quiet (fail)
                        go_wp2_with fail
                        have hSt : (wr.drewN 1).cell? ⟨gr, to, none⟩ = some (.int .i64 V) ∧ (wr.drewN 1).cell? ⟨bC, oC + (to - 1), none⟩ = some (.int .i64 C) := ⟨q1, e1⟩
                        have he1 : ∀ i : SW (fun v => v.cell? ⟨gr, to, none⟩ = some (.int .i64 V) ∧ v.cell? ⟨bC, oC + (to - 1), none⟩ = some (.int .i64 C)), (sw i).cell? ⟨gr, to, none⟩ = some (.int .i64 V) := fun i => (sw_is i).1
                        have he2 : ∀ i : SW (fun v => v.cell? ⟨gr, to, none⟩ = some (.int .i64 V) ∧ v.cell? ⟨bC, oC + (to - 1), none⟩ = some (.int .i64 C)), (sw i).cell? ⟨bC, oC + (to - 1), none⟩ = some (.int .i64 C) := fun i => (sw_is i).2
                        refine wp_region_planZ (fun v => v.cell? ⟨gr, to, none⟩ = some (.int .i64 V) ∧ v.cell? ⟨bC, oC + (to - 1), none⟩ = some (.int .i64 C)) (some 18) [([0, 1, 2, 3, 4, 5, 6, 7, 8, 9, 10, 11, 12, 13, 14, 15], 16), ([17], 18)] [] (by kernel_rfl) (by kernel_rfl) hSt fun hne => ?_
                        simp only [wpPlan, wpEff, effOf, opsAt, optCons, List.getElem?_toArray, List.getElem?_cons_zero, List.getElem?_cons_succ]
                        repeat (go_big_quiet_step (fail))
                        refine wpQuiet_nil ?_
                        go_wp2
                        refine effQ_normal ⟨(World.cell?_setCell_other _ _ _ _ (fun e => by injection e with _ e; omega)).trans q1, (World.cell?_setCell_other _ _ _ _ (fun e => by injection e with e _; omega)).trans e1⟩ ?_
                        have q6 : ∀ m u, ((wr.drewN m).setCell ⟨gr, q, none⟩ u).cell? ⟨gn, q, none⟩ = some (.int .i64 (S2 : Nat)) := fun m u => (World.cell?_setCell_other _ _ _ _ (fun e => by injection e with e _; omega)).trans q4
                        have q7 : ∀ m u, ((wr.drewN m).setCell ⟨gr, q, none⟩ u).frozen? ⟨gn, q, none⟩ = false := fun m u => ((hN.drewN m).of_block (Below.heap_setCell (wr.drewN m) ⟨gr, q, none⟩ u gn (Ne.symm hgne))).frozen q
                        repeat (go_big_quiet_step (fail))
                        refine wpQuiet_nil ?_
                        go_wp2
                        refine effQ_last (by rfl) ?_
                        refine wpQuiet_nil ?_
                        refine noPan_normal ?_
                        go_wp2
                        have hR9 := fun m => ((((hR.drewN m).set q (.int .i64 (C + V))).of_block (Below.heap_setCell _ ⟨gn, q, none⟩ (.int .i64 (to : Int)) gr hgne)).congr (f' := fun i => .int .i64 (rowR a b c q (j + 1) i)) fun i _ => rowR_yes HY.out i)
                        have hN9 := fun m => ((((hN.drewN m).of_block (Below.heap_setCell (wr.drewN m) ⟨gr, q, none⟩ (.int .i64 (C + V)) gn (Ne.symm hgne))).set q (.int .i64 (to : Int))).congr (f' := fun i => .int .i64 (rowN a b c q (j + 1) i : Nat)) fun i _ => rowN_yes HY.out i)
                        refine ⟨⟨j + 1, hjm, ?_, hR9 _, hN9 _, ((below_drewN hb _).setCell (p := ⟨gr, q, none⟩) (by exact hgr1) _).setCell (p := ⟨gn, q, none⟩) (by exact hgn1) _⟩, by simp [intOf]; omega⟩
                        rw [← Nat.add_assoc, HTO.out]; go_num
                      · have hB2 : decide (S < 0) = false := decide_eq_false hB1
                        have hB3 : decide (C + V < S) = true := decide_eq_true (by omega)
                        clear hB hB1
                        go_wp2_with fail
                        go_quiet (fail)
                        go_wp2_with fail
                        have hSt : (wr.drewN 1).cell? ⟨gr, to, none⟩ = some (.int .i64 V) ∧ (wr.drewN 1).cell? ⟨bC, oC + (to - 1), none⟩ = some (.int .i64 C) := ⟨q1, e1⟩
                        have he1 : ∀ i : SW (fun v => v.cell? ⟨gr, to, none⟩ = some (.int .i64 V) ∧ v.cell? ⟨bC, oC + (to - 1), none⟩ = some (.int .i64 C)), (sw i).cell? ⟨gr, to, none⟩ = some (.int .i64 V) := fun i => (sw_is i).1
                        have he2 : ∀ i : SW (fun v => v.cell? ⟨gr, to, none⟩ = some (.int .i64 V) ∧ v.cell? ⟨bC, oC + (to - 1), none⟩ = some (.int .i64 C)), (sw i).cell? ⟨bC, oC + (to - 1), none⟩ = some (.int .i64 C) := fun i => (sw_is i).2
                        refine wp_region_planZ (fun v => v.cell? ⟨gr, to, none⟩ = some (.int .i64 V) ∧ v.cell? ⟨bC, oC + (to - 1), none⟩ = some (.int .i64 C)) (some 18) [([0, 1, 2, 3, 4, 5, 6, 7, 8, 9, 10, 11, 12, 13, 14, 15], 16), ([17], 18)] [] (by kernel_rfl) (by kernel_rfl) hSt fun hne => ?_
                        simp only [wpPlan, wpEff, effOf, opsAt, optCons, List.getElem?_toArray, List.getElem?_cons_zero, List.getElem?_cons_succ]
                        repeat (go_big_quiet_step (fail))
                        refine wpQuiet_nil ?_
                        go_wp2
                        refine effQ_normal ⟨(World.cell?_setCell_other _ _ _ _ (fun e => by injection e with _ e; omega)).trans q1, (World.cell?_setCell_other _ _ _ _ (fun e => by injection e with e _; omega)).trans e1⟩ ?_
                        have q6 : ∀ m u, ((wr.drewN m).setCell ⟨gr, q, none⟩ u).cell? ⟨gn, q, none⟩ = some (.int .i64 (S2 : Nat)) := fun m u => (World.cell?_setCell_other _ _ _ _ (fun e => by injection e with e _; omega)).trans q4
                        have q7 : ∀ m u, ((wr.drewN m).setCell ⟨gr, q, none⟩ u).frozen? ⟨gn, q, none⟩ = false := fun m u => ((hN.drewN m).of_block (Below.heap_setCell (wr.drewN m) ⟨gr, q, none⟩ u gn (Ne.symm hgne))).frozen q
                        repeat (go_big_quiet_step (fail))
                        refine wpQuiet_nil ?_
                        go_wp2
                        refine effQ_last (by rfl) ?_
                        refine wpQuiet_nil ?_
                        refine noPan_normal ?_
                        go_wp2
                        have hR9 := fun m => ((((hR.drewN m).set q (.int .i64 (C + V))).of_block (Below.heap_setCell _ ⟨gn, q, none⟩ (.int .i64 (to : Int)) gr hgne)).congr (f' := fun i => .int .i64 (rowR a b c q (j + 1) i)) fun i _ => rowR_yes HY.out i)
                        have hN9 := fun m => ((((hN.drewN m).of_block (Below.heap_setCell (wr.drewN m) ⟨gr, q, none⟩ (.int .i64 (C + V)) gn (Ne.symm hgne))).set q (.int .i64 (to : Int))).congr (f' := fun i => .int .i64 (rowN a b c q (j + 1) i : Nat)) fun i _ => rowN_yes HY.out i)
                        refine ⟨⟨j + 1, hjm, ?_, hR9 _, hN9 _, ((below_drewN hb _).setCell (p := ⟨gr, q, none⟩) (by exact hgr1) _).setCell (p := ⟨gn, q, none⟩) (by exact hgn1) _⟩, by simp [intOf]; omega⟩
                        rw [← Nat.add_assoc, HTO.out]; go_num
                    · have hmn2 : decide ((q : Int) + (b : Int) ≤ (c.length : Int)) = false := decide_eq_false hmn
                      by_cases hB1 : S < 0
                      · have hB2 : decide (S < 0) = true := decide_eq_true hB1
                        clear hB
                        clear hB1
                        go_wp2_with fail
                        go_quiet (fail)
                        go_wp2_with fail
                        have hSt : (wr.drewN 1).cell? ⟨gr, to, none⟩ = some (.int .i64 V) ∧ (wr.drewN 1).cell? ⟨bC, oC + (to - 1), none⟩ = some (.int .i64 C) := ⟨q1, e1⟩
                        have he1 : ∀ i : SW (fun v => v.cell? ⟨gr, to, none⟩ = some (.int .i64 V) ∧ v.cell? ⟨bC, oC + (to - 1), none⟩ = some (.int .i64 C)), (sw i).cell? ⟨gr, to, none⟩ = some (.int .i64 V) := fun i => (sw_is i).1
                        have he2 : ∀ i : SW (fun v => v.cell? ⟨gr, to, none⟩ = some (.int .i64 V) ∧ v.cell? ⟨bC, oC + (to - 1), none⟩ = some (.int .i64 C)), (sw i).cell? ⟨bC, oC + (to - 1), none⟩ = some (.int .i64 C) := fun i => (sw_is i).2
                        refine wp_region_planZ (fun v => v.cell? ⟨gr, to, none⟩ = some (.int .i64 V) ∧ v.cell? ⟨bC, oC + (to - 1), none⟩ = some (.int .i64 C)) (some 18) [([0, 1, 2, 3, 4, 5, 6, 7, 8, 9, 10, 11, 12, 13, 14, 15], 16), ([17], 18)] [] (by kernel_rfl) (by kernel_rfl) hSt fun hne => ?_
                        simp only [wpPlan, wpEff, effOf, opsAt, optCons, List.getElem?_toArray, List.getElem?_cons_zero, List.getElem?_cons_succ]
                        repeat (go_big_quiet_step (fail))
                        refine wpQuiet_nil ?_
                        go_wp2
                        refine effQ_normal ⟨(World.cell?_setCell_other _ _ _ _ (fun e => by injection e with _ e; omega)).trans q1, (World.cell?_setCell_other _ _ _ _ (fun e => by injection e with e _; omega)).trans e1⟩ ?_
                        have q6 : ∀ m u, ((wr.drewN m).setCell ⟨gr, q, none⟩ u).cell? ⟨gn, q, none⟩ = some (.int .i64 (S2 : Nat)) := fun m u => (World.cell?_setCell_other _ _ _ _ (fun e => by injection e with e _; omega)).trans q4
                        have q7 : ∀ m u, ((wr.drewN m).setCell ⟨gr, q, none⟩ u).frozen? ⟨gn, q, none⟩ = false := fun m u => ((hN.drewN m).of_block (Below.heap_setCell (wr.drewN m) ⟨gr, q, none⟩ u gn (Ne.symm hgne))).frozen q
                        repeat (go_big_quiet_step (fail))
                        refine wpQuiet_nil ?_
                        go_wp2
                        refine effQ_last (by rfl) ?_
                        refine wpQuiet_nil ?_
                        refine noPan_normal ?_
                        go_wp2
                        have hR9 := fun m => ((((hR.drewN m).set q (.int .i64 (C + V))).of_block (Below.heap_setCell _ ⟨gn, q, none⟩ (.int .i64 (to : Int)) gr hgne)).congr (f' := fun i => .int .i64 (rowR a b c q (j + 1) i)) fun i _ => rowR_yes HY.out i)
                        have hN9 := fun m => ((((hN.drewN m).of_block (Below.heap_setCell (wr.drewN m) ⟨gr, q, none⟩ (.int .i64 (C + V)) gn (Ne.symm hgne))).set q (.int .i64 (to : Int))).congr (f' := fun i => .int .i64 (rowN a b c q (j + 1) i : Nat)) fun i _ => rowN_yes HY.out i)
                        refine ⟨⟨j + 1, hjm, ?_, hR9 _, hN9 _, ((below_drewN hb _).setCell (p := ⟨gr, q, none⟩) (by exact hgr1) _).setCell (p := ⟨gn, q, none⟩) (by exact hgn1) _⟩, by simp [intOf]; omega⟩
                        rw [← Nat.add_assoc, HTO.out]; go_num
                      · have hB2 : decide (S < 0) = false := decide_eq_false hB1
                        have hB3 : decide (C + V < S) = true := decide_eq_true (by omega)
                        clear hB hB1
                        go_wp2_with fail
                        go_quiet (fail)
                        go_wp2_with fail
                        have hSt : (wr.drewN 1).cell? ⟨gr, to, none⟩ = some (.int .i64 V) ∧ (wr.drewN 1).cell? ⟨bC, oC + (to - 1), none⟩ = some (.int .i64 C) := ⟨q1, e1⟩
                        have he1 : ∀ i : SW (fun v => v.cell? ⟨gr, to, none⟩ = some (.int .i64 V) ∧ v.cell? ⟨bC, oC + (to - 1), none⟩ = some (.int .i64 C)), (sw i).cell? ⟨gr, to, none⟩ = some (.int .i64 V) := fun i => (sw_is i).1
                        have he2 : ∀ i : SW (fun v => v.cell? ⟨gr, to, none⟩ = some (.int .i64 V) ∧ v.cell? ⟨bC, oC + (to - 1), none⟩ = some (.int .i64 C)), (sw i).cell? ⟨bC, oC + (to - 1), none⟩ = some (.int .i64 C) := fun i => (sw_is i).2
                        refine wp_region_planZ (fun v => v.cell? ⟨gr, to, none⟩ = some (.int .i64 V) ∧ v.cell? ⟨bC, oC + (to - 1), none⟩ = some (.int .i64 C)) (some 18) [([0, 1, 2, 3, 4, 5, 6, 7, 8, 9, 10, 11, 12, 13, 14, 15], 16), ([17], 18)] [] (by kernel_rfl) (by kernel_rfl) hSt fun hne => ?_
                        simp only [wpPlan, wpEff, effOf, opsAt, optCons, List.getElem?_toArray, List.getElem?_cons_zero, List.getElem?_cons_succ]
                        repeat (go_big_quiet_step (fail))
                        refine wpQuiet_nil ?_
                        go_wp2
                        refine effQ_normal ⟨(World.cell?_setCell_other _ _ _ _ (fun e => by injection e with _ e; omega)).trans q1, (World.cell?_setCell_other _ _ _ _ (fun e => by injection e with e _; omega)).trans e1⟩ ?_
                        have q6 : ∀ m u, ((wr.drewN m).setCell ⟨gr, q, none⟩ u).cell? ⟨gn, q, none⟩ = some (.int .i64 (S2 : Nat)) := fun m u => (World.cell?_setCell_other _ _ _ _ (fun e => by injection e with e _; omega)).trans q4
                        have q7 : ∀ m u, ((wr.drewN m).setCell ⟨gr, q, none⟩ u).frozen? ⟨gn, q, none⟩ = false := fun m u => ((hN.drewN m).of_block (Below.heap_setCell (wr.drewN m) ⟨gr, q, none⟩ u gn (Ne.symm hgne))).frozen q
                        repeat (go_big_quiet_step (fail))
                        refine wpQuiet_nil ?_
                        go_wp2
                        refine effQ_last (by rfl) ?_
                        refine wpQuiet_nil ?_
                        refine noPan_normal ?_
                        go_wp2
                        have hR9 := fun m => ((((hR.drewN m).set q (.int .i64 (C + V))).of_block (Below.heap_setCell _ ⟨gn, q, none⟩ (.int .i64 (to : Int)) gr hgne)).congr (f' := fun i => .int .i64 (rowR a b c q (j + 1) i)) fun i _ => rowR_yes HY.out i)
                        have hN9 := fun m => ((((hN.drewN m).of_block (Below.heap_setCell (wr.drewN m) ⟨gr, q, none⟩ (.int .i64 (C + V)) gn (Ne.symm hgne))).set q (.int .i64 (to : Int))).congr (f' := fun i => .int .i64 (rowN a b c q (j + 1) i : Nat)) fun i _ => rowN_yes HY.out i)
                        refine ⟨⟨j + 1, hjm, ?_, hR9 _, hN9 _, ((below_drewN hb _).setCell (p := ⟨gr, q, none⟩) (by exact hgr1) _).setCell (p := ⟨gn, q, none⟩) (by exact hgn1) _⟩, by simp [intOf]; omega⟩
                        rw [← Nat.add_assoc, HTO.out]; go_num
                  · have hn := NO.out (fun h => hB h.2)
                    have HN := Lib.hid hn
                    have hA2 : decide (0 ≤ V) = true := decide_eq_true hA
                    have hB2 : decide (S < 0) = false := decide_eq_false (by omega)
                    have hB3 : decide (C + V < S) = false := decide_eq_false (by omega)
                    clear hn YES NO hB
                    by_cases hmn : (q : Int) + (b : Int) ≤ (c.length : Int)
                    · skip
                      go_wp2_with fail
                      go_quiet (fail)
                      go_wp2
                      refine ⟨⟨j + 1, hjm, ?_, hR.congr fun i _ => by rw [rowR_no HN.out], hN.congr fun i _ => by rw [rowN_no HN.out], below_drewN hb _⟩, by simp [intOf]; omega⟩
                      rw [← Nat.add_assoc, HTO.out]; go_num
                    · have hmn2 : decide ((q : Int) + (b : Int) ≤ (c.length : Int)) = false := decide_eq_false hmn
                      go_wp2_with fail
                      go_quiet (fail)
                      go_wp2
                      refine ⟨⟨j + 1, hjm, ?_, hR.congr fun i _ => by rw [rowR_no HN.out], hN.congr fun i _ => by rw [rowN_no HN.out], below_drewN hb _⟩, by simp [intOf]; omega⟩
                      rw [← Nat.add_assoc, HTO.out]; go_num
                · have hn := NO.out (fun h => hA h.1)
                  have HN := Lib.hid hn
                  have hA2 : decide (0 ≤ V) = false := decide_eq_false hA
                  clear hn YES NO
                  by_cases hmn : (q : Int) + (b : Int) ≤ (c.length : Int)
                  · skip
                    go_wp2_with fail
                    go_quiet (fail)
                    go_wp2
                    refine ⟨⟨j + 1, hjm, ?_, hR.congr fun i _ => by rw [rowR_no HN.out], hN.congr fun i _ => by rw [rowN_no HN.out], below_drewN hb _⟩, by simp [intOf]; omega⟩
                    rw [← Nat.add_assoc, HTO.out]; go_num
                  · have hmn2 : decide ((q : Int) + (b : Int) ≤ (c.length : Int)) = false := decide_eq_false hmn
                    go_wp2_with fail
                    go_quiet (fail)
                    go_wp2
                    refine ⟨⟨j + 1, hjm, ?_, hR.congr fun i _ => by rw [rowR_no HN.out], hN.congr fun i _ => by rw [rowN_no HN.out], below_drewN hb _⟩, by simp [intOf]; omega⟩
                    rw [← Nat.add_assoc, HTO.out]; go_num
              · have hje : j = many a b c.length q := by omega
                have hR2 := hR.congr (f' := fun i => .int .i64 (doneR a b c q i)) (fun i _ => by rw [rowR_last hD1 (by omega) hje])
                have hN2 := hN.congr (f' := fun i => .int .i64 (doneN a b c q i : Nat)) (fun i _ => by rw [rowN_last hD1 (by omega) hje])
                rw [hmy] at hje
                have s4 : IntKind.i64.wrap ((q : Int) + (b : Int)) = (q : Int) + (b : Int) := IntWalk.i64_in _ (by omega)
                generalize hTO : q + a + j = to at *
                clear hR hN hj hjj hmy
                by_cases hmn : (q : Int) + (b : Int) ≤ (c.length : Int)
                · have g1 : decide ((to : Int) ≤ (q : Int) + (b : Int)) = false := decide_eq_false (by omega)
                  clear hje hTO
                  go_wp2
                  exact ⟨⟨q, by omega, by go_num, hR2, hN2, hb⟩, by simp [intOf]⟩
                · have g1 : decide (to ≤ c.length) = false := decide_eq_false (by omega)
                  have g2 : decide ((q : Int) + (b : Int) ≤ (c.length : Int)) = false := decide_eq_false hmn
                  clear hje hTO
                  go_wp2
                  exact ⟨⟨q, by omega, by go_num, hR2, hN2, hb⟩, by simp [intOf]⟩
          | zero =>
            rw [show ((0 : Nat) : Int) - 1 = (-1 : Int) by omega]
            have hstart := readTo_start h0
            have hbw := hb.size
            have gl := hN.lt
            go_wp2_with fail
            go_loopw [14, 13] (fun i v wx => ∃ (k : Nat) (pre : List Int), i = .int .i64 k ∧ readTo a b c k pre ∧ k ≤ c.length ∧ Acc1 wr wx 3 .i64 v pre) (fun i _ _ => c.length - (intOf i).toNat)
            case atStart => exact ⟨0, [], rfl, hstart, Nat.zero_le _, Acc1.start wr _ _⟩
            case round =>
              obtain ⟨k, pre, rfl, hrd, hk, hacc⟩ := hrel
              clear hstart
              by_cases hlt : k < c.length
              · obtain ⟨hs, hx1, hx2, hx3⟩ := readTo_step hD1 HC0.out hrd hlt
                have hpl : pre.length + 1 ≤ 4294967296 := by obtain ⟨_, _, _, _, _, h⟩ := hrd; omega
                have q1 := (hN.cell (i := k) (by omega))
                rw [doneN_gt (Nat.zero_le _)] at q1
                have q2 := (hacc.2.cell (p := ⟨gn, k, none⟩) (by exact gl)).trans q1
                have l1 : (0 : Int) ≤ (k : Int) := by omega
                have l2 : (k : Int) < (c.length : Int) + 1 := by omega
                have HS := Lib.hid hs
                generalize nx a b c k = x at *
                have s1 : IntKind.i64.wrap ((x : Int) - 1) = (x : Int) - 1 := IntWalk.i64_in _ (by omega)
                clear hs hrd q1
                go_wp2_with (at_builtin; refine wpList_app1 rfl _ _ _ rfl Try.underlying22 infoI64 rfl hacc _ _ _ rfl rfl hpl ?_; intro v1 w2 hacc1; have q3 := (hacc1.2.cell (p := ⟨gn, k, none⟩) (by exact gl)).trans ((hacc.2.cell (p := ⟨gn, k, none⟩) (by exact gl)).symm.trans q2))
                exact ⟨⟨x, pre ++ [(x : Int) - 1], rfl, HS.out, hx3, hacc1⟩, by simp [intOf]; omega⟩
              · obtain rfl : k = c.length := by omega
                have he := readTo_end hrd
                rw [← HB.out] at he
                subst he
                go_wp2
                go_ret2
                obtain ⟨A1, c1, rfl⟩ := hacc.shape
                refine ⟨A1, c1, ?_, own_base hacc.1 hbw, hb.trans (hacc.2.mono hbw)⟩
                rw [HOK.out]; rfl
      ·
        go_wp2
        first | refine effQ_normal trivial ⟨fun _ => True, fun _ _ => trivial, fun _ => trivial, ?_⟩ | refine effQ_normal trivial ⟨fun _ => True, trivial, ?_⟩ | refine effQ_normal trivial ⟨fun _ => True, ?_⟩
        repeat (go_big_quiet_step (fail))
        refine wpQuiet_nil ?_
        go_wp2
        first | refine effQ_normal trivial ⟨fun _ => True, fun _ _ => trivial, fun _ => trivial, ?_⟩ | refine effQ_normal trivial ⟨fun _ => True, trivial, ?_⟩ | refine effQ_normal trivial ⟨fun _ => True, ?_⟩
        repeat (go_big_quiet_step (fail))
        refine wpQuiet_nil ?_
        refine noPan_normal ?_
        have hbW : Below w.heap.size w (((w1.drewN 1).alloc (.cells (madeCells #[.int .i64 0] (c.length + 1)) 3)).alloc (.cells (madeCells #[.int .i64 0] (c.length + 1)) 3)) := (hb1d.alloc hb1d.size _).alloc (by have := hb1.size; simp; omega) _
        have ro0 : Row (((w1.drewN 1).alloc (.cells (madeCells #[.int .i64 0] (c.length + 1)) 3)).alloc (.cells (madeCells #[.int .i64 0] (c.length + 1)) 3)) w1.heap.size 3 (c.length + 1) (fun _ => .int .i64 0) := (row_one (w1.drewN 1) (c.length + 1) 3).alloc _
        have ro1 : Row (((w1.drewN 1).alloc (.cells (madeCells #[.int .i64 0] (c.length + 1)) 3)).alloc (.cells (madeCells #[.int .i64 0] (c.length + 1)) 3)) (w1.heap.size + 1) 3 (c.length + 1) (fun _ => .int .i64 0) := by have := row_one ((w1.drewN 1).alloc (.cells (madeCells #[.int .i64 0] (c.length + 1)) 3)) (c.length + 1) 3; rwa [World.size_alloc] at this
        have hz1 : w.heap.size ≤ w1.heap.size := hb1.size
        generalize ((w1.drewN 1).alloc (.cells (madeCells #[.int .i64 0] (c.length + 1)) 3)).alloc (.cells (madeCells #[.int .i64 0] (c.length + 1)) 3) = W0 at hbW ro0 ro1 ⊢
        have rR := ro1.congr (f' := fun i => .int .i64 (doneR a b c c.length i)) (fun i hi => by rw [doneR_start hi])
        have rN := ro0.congr (f' := fun i => .int .i64 (doneN a b c c.length i : Nat)) (fun i hi => by rw [doneN_start hi]; rfl)
        generalize hgr : w1.heap.size + 1 = gr at rR rN ⊢
        generalize hgn : w1.heap.size = gn at rR rN ⊢
        have hg1 : w.heap.size ≤ gr ∧ w.heap.size ≤ gn ∧ gr ≠ gn := by omega
        obtain ⟨hgr1, hgn1, hgne⟩ := hg1
        clear ro0 ro1 hgr hgn hmk hr1 s0
        go_wp2_with fail
        go_loopw [11] (fun i wr => ∃ k : Nat, k ≤ c.length ∧ i = .int .i64 ((k : Int) - 1) ∧ Row wr gr 3 (c.length + 1) (fun i => .int .i64 (doneR a b c k i)) ∧ Row wr gn 3 (c.length + 1) (fun i => .int .i64 (doneN a b c k i : Nat)) ∧ Below w.heap.size w wr) (fun i _ => (intOf i + 1).toNat)
        case atStart => exact ⟨c.length, Nat.le_refl _, rfl, rR, rN, hbW⟩
        case round =>
          obtain ⟨k, hk, rfl, hR, hN, hb⟩ := hrel
          clear rR rN hbW
          cases k with
          | succ q =>
            rw [show ((q + 1 : Nat) : Int) - 1 = (q : Int) by omega]
            have hq0 : (0 : Int) ≤ (q : Int) := by omega
            have q1 := hR.cell (i := q) (by omega)
            have q2 := hR.frozen q
            have l1 : (q : Int) < (c.length : Int) + 1 := by omega
            go_wp2_with fail
            clear q1 q2
            have hR1 := (hR.set q (.int .i64 (-1))).congr (f' := fun i => .int .i64 (rowR a b c q 0 i)) (fun i _ => rowR_first)
            have hN1 := (hN.of_block (Below.heap_setCell wr ⟨gr, q, none⟩ (.int .i64 (-1)) gn (Ne.symm hgne))).congr (f' := fun i => .int .i64 (rowN a b c q 0 i : Nat)) (fun i _ => by rw [rowN_first])
            have hb2 := hb.setCell (p := ⟨gr, q, none⟩) (by exact hgr1) (.int .i64 (-1))
            generalize wr.setCell ⟨gr, q, none⟩ (.int .i64 (-1)) = wz at hR1 hN1 hb2 ⊢
            clear hR hN hb
            go_loopw [12] (fun d wx => ∃ j : Nat, j ≤ many a b c.length q ∧ d = .int .i64 ((q + a + j : Nat) : Int) ∧ Row wx gr 3 (c.length + 1) (fun i => .int .i64 (rowR a b c q j i)) ∧ Row wx gn 3 (c.length + 1) (fun i => .int .i64 (rowN a b c q j i : Nat)) ∧ Below w.heap.size w wx) (fun d _ => c.length + 1 - (intOf d).toNat)
            case atStart => exact ⟨0, Nat.zero_le _, by go_num, hR1, hN1, hb2⟩
            case round =>
              obtain ⟨j, hj, rfl, hR, hN, hb⟩ := hrel
              clear hR1 hN1 hb2
              have hmy : many a b c.length q = min (q + b) c.length + 1 - (q + a) := rfl
              by_cases hjj : j < many a b c.length q
              · have hto : q + a + j ≤ q + b ∧ q + a + j ≤ c.length := by omega
                obtain ⟨bC, oC, hA, hAB, hcC⟩ := (hr.below hb) (by omega)
                subst hA
                have e1 := hcC (q + a + j - 1) (by omega)
                have q1 := hR.cell (i := q + a + j) (by omega)
                have q2 := hR.cell (i := q) (by omega)
                have q3 := hR.frozen q
                have q4 := hN.cell (i := q) (by omega)
                have q5 := hN.frozen q
                rw [rowR_gt (by omega)] at q1
                rw [rowR_here] at q2
                rw [rowN_here] at q4
                have r1 := RS.out (q + a + j) hto.2
                have r2 := SN.out (q + a + j - 1)
                have r3 := sc_bd (a := a) (c := c) (q := q) (r := rs a b c) 17000 (by omega) (fun k => (SN.out k).1) j (fun i hi => by have := RS.out (q + a + i) (by omega); have := SN.out (q + a + i - 1); omega)
                have hst : j < many a b c.length q := hjj
                have yes := fun h0 h => sc_yes (a := a) (c := c) (r := rs a b c) (q := q) (j := j) h0 h
                have no := fun h => sc_no (a := a) (c := c) (r := rs a b c) (q := q) (j := j) h
                have YES := Lib.hid yes
                have NO := Lib.hid no
                clear yes no hcC hmy
                have hjm : j + 1 ≤ many a b c.length q := hjj
                clear hjj hst
                generalize hTO : q + a + j = to at *
                have HTO := Lib.hid hTO
                clear hTO
                generalize hV : rs a b c to = V at *
                generalize hCV : gI c (to - 1) = C at *
                have HV := Lib.hid hV
                have HCV := Lib.hid hCV
                clear hV hCV
                have to1 : 1 ≤ to ∧ q < to := by have := HTO.out; omega
                have l2 : (0 : Int) ≤ (to : Int) ∧ (to : Int) < (c.length : Int) + 1 ∧ (0 : Int) ≤ (to : Int) - 1 ∧ (to : Int) - 1 < (c.length : Int) ∧ (1 : Int) ≤ (to : Int) := by omega
                obtain ⟨l21, l22, l23, l24, l25⟩ := l2
                have s1 : IntKind.i64.wrap ((to : Int) - 1) = (to : Int) - 1 := IntWalk.i64_in _ (by omega)
                have s2 : ((to : Int) - 1).toNat = to - 1 := by omega
                have s3 : IntKind.i64.wrap (C + V) = C + V := IntWalk.i64_in _ (by omega)
                have s4 : IntKind.i64.wrap ((q : Int) + (b : Int)) = (q : Int) + (b : Int) := IntWalk.i64_in _ (by omega)
                have l3 : (to : Int) ≤ (q : Int) + (b : Int) := by omega
                have l4 : to ≤ c.length := hto.2
                have l5 : (to : Int) ≤ (c.length : Int) := by omega
                generalize hS : (sc a c (rs a b c) q j).1 = S at *
                generalize hS2 : (sc a c (rs a b c) q j).2 = S2 at *
                have HS := Lib.hid (And.intro hS hS2)
                clear hS hS2
                by_cases hA : 0 ≤ V
                · by_cases hB : S < 0 ∨ C + V < S
                  · have hy := YES.out hA hB
                    have HY := Lib.hid hy
                    have hA2 : decide (0 ≤ V) = true := decide_eq_true hA
                    clear hy YES NO
                    by_cases hmn : (q : Int) + (b : Int) ≤ (c.length : Int)
                    · skip
                      by_cases hB1 : S < 0
                      · have hB2 : decide (S < 0) = true := decide_eq_true hB1
                        clear hB
                        clear hB1
                        go_wp2_with fail
                        go_quiet (fail)
                        go_wp2_with fail
                        have hSt : (wr.drewN 1).cell? ⟨gr, to, none⟩ = some (.int .i64 V) ∧ (wr.drewN 1).cell? ⟨bC, oC + (to - 1), none⟩ = some (.int .i64 C) := ⟨q1, e1⟩
                        have he1 : ∀ i : SW (fun v => v.cell? ⟨gr, to, none⟩ = some (.int .i64 V) ∧ v.cell? ⟨bC, oC + (to - 1), none⟩ = some (.int .i64 C)), (sw i).cell? ⟨gr, to, none⟩ = some (.int .i64 V) := fun i => (sw_is i).1
                        have he2 : ∀ i : SW (fun v => v.cell? ⟨gr, to, none⟩ = some (.int .i64 V) ∧ v.cell? ⟨bC, oC + (to - 1), none⟩ = some (.int .i64 C)), (sw i).cell? ⟨bC, oC + (to - 1), none⟩ = some (.int .i64 C) := fun i => (sw_is i).2
                        refine wp_region_planZ (fun v => v.cell? ⟨gr, to, none⟩ = some (.int .i64 V) ∧ v.cell? ⟨bC, oC + (to - 1), none⟩ = some (.int .i64 C)) (some 18) [([0, 1, 2, 3, 4, 5, 6, 7, 8, 9, 10, 11, 12, 13, 14, 15], 16), ([17], 18)] [] (by kernel_rfl) (by kernel_rfl) hSt fun hne => ?_
                        simp only [wpPlan, wpEff, effOf, opsAt, optCons, List.getElem?_toArray, List.getElem?_cons_zero, List.getElem?_cons_succ]
                        repeat (go_big_quiet_step (fail))
                        refine wpQuiet_nil ?_
                        go_wp2
                        refine effQ_normal ⟨(World.cell?_setCell_other _ _ _ _ (fun e => by injection e with _ e; omega)).trans q1, (World.cell?_setCell_other _ _ _ _ (fun e => by injection e with e _; omega)).trans e1⟩ ?_
                        have q6 : ∀ m u, ((wr.drewN m).setCell ⟨gr, q, none⟩ u).cell? ⟨gn, q, none⟩ = some (.int .i64 (S2 : Nat)) := fun m u => (World.cell?_setCell_other _ _ _ _ (fun e => by injection e with e _; omega)).trans q4
                        have q7 : ∀ m u, ((wr.drewN m).setCell ⟨gr, q, none⟩ u).frozen? ⟨gn, q, none⟩ = false := fun m u => ((hN.drewN m).of_block (Below.heap_setCell (wr.drewN m) ⟨gr, q, none⟩ u gn (Ne.symm hgne))).frozen q
                        repeat (go_big_quiet_step (fail))
                        refine wpQuiet_nil ?_
                        go_wp2
                        refine effQ_last (by rfl) ?_
                        refine wpQuiet_nil ?_
                        refine noPan_normal ?_
                        go_wp2
                        have hR9 := fun m => ((((hR.drewN m).set q (.int .i64 (C + V))).of_block (Below.heap_setCell _ ⟨gn, q, none⟩ (.int .i64 (to : Int)) gr hgne)).congr (f' := fun i => .int .i64 (rowR a b c q (j + 1) i)) fun i _ => rowR_yes HY.out i)
                        have hN9 := fun m => ((((hN.drewN m).of_block (Below.heap_setCell (wr.drewN m) ⟨gr, q, none⟩ (.int .i64 (C + V)) gn (Ne.symm hgne))).set q (.int .i64 (to : Int))).congr (f' := fun i => .int .i64 (rowN a b c q (j + 1) i : Nat)) fun i _ => rowN_yes HY.out i)
                        refine ⟨⟨j + 1, hjm, ?_, hR9 _, hN9 _, ((below_drewN hb _).setCell (p := ⟨gr, q, none⟩) (by exact hgr1) _).setCell (p := ⟨gn, q, none⟩) (by exact hgn1) _⟩, by simp [intOf]; omega⟩
                        rw [← Nat.add_assoc, HTO.out]; go_num
                      · have hB2 : decide (S < 0) = false := decide_eq_false hB1
                        have hB3 : decide (C + V < S) = true := decide_eq_true (by omega)
                        clear hB hB1
                        go_wp2_with fail
                        go_quiet (fail)
                        go_wp2_with fail
                        have hSt : (wr.drewN 1).cell? ⟨gr, to, none⟩ = some (.int .i64 V) ∧ (wr.drewN 1).cell? ⟨bC, oC + (to - 1), none⟩ = some (.int .i64 C) := ⟨q1, e1⟩
                        have he1 : ∀ i : SW (fun v => v.cell? ⟨gr, to, none⟩ = some (.int .i64 V) ∧ v.cell? ⟨bC, oC + (to - 1), none⟩ = some (.int .i64 C)), (sw i).cell? ⟨gr, to, none⟩ = some (.int .i64 V) := fun i => (sw_is i).1
                        have he2 : ∀ i : SW (fun v => v.cell? ⟨gr, to, none⟩ = some (.int .i64 V) ∧ v.cell? ⟨bC, oC + (to - 1), none⟩ = some (.int .i64 C)), (sw i).cell? ⟨bC, oC + (to - 1), none⟩ = some (.int .i64 C) := fun i => (sw_is i).2
                        refine wp_region_planZ (fun v => v.cell? ⟨gr, to, none⟩ = some (.int .i64 V) ∧ v.cell? ⟨bC, oC + (to - 1), none⟩ = some (.int .i64 C)) (some 18) [([0, 1, 2, 3, 4, 5, 6, 7, 8, 9, 10, 11, 12, 13, 14, 15], 16), ([17], 18)] [] (by kernel_rfl) (by kernel_rfl) hSt fun hne => ?_
                        simp only [wpPlan, wpEff, effOf, opsAt, optCons, List.getElem?_toArray, List.getElem?_cons_zero, List.getElem?_cons_succ]
                        repeat (go_big_quiet_step (fail))
                        refine wpQuiet_nil ?_
                        go_wp2
                        refine effQ_normal ⟨(World.cell?_setCell_other _ _ _ _ (fun e => by injection e with _ e; omega)).trans q1, (World.cell?_setCell_other _ _ _ _ (fun e => by injection e with e _; omega)).trans e1⟩ ?_
                        have q6 : ∀ m u, ((wr.drewN m).setCell ⟨gr, q, none⟩ u).cell? ⟨gn, q, none⟩ = some (.int .i64 (S2 : Nat)) := fun m u => (World.cell?_setCell_other _ _ _ _ (fun e => by injection e with e _; omega)).trans q4
                        have q7 : ∀ m u, ((wr.drewN m).setCell ⟨gr, q, none⟩ u).frozen? ⟨gn, q, none⟩ = false := fun m u => ((hN.drewN m).of_block (Below.heap_setCell (wr.drewN m) ⟨gr, q, none⟩ u gn (Ne.symm hgne))).frozen q
                        repeat (go_big_quiet_step (fail))
                        refine wpQuiet_nil ?_
                        go_wp2
                        refine effQ_last (by rfl) ?_
                        refine wpQuiet_nil ?_
                        refine noPan_normal ?_
                        go_wp2
                        have hR9 := fun m => ((((hR.drewN m).set q (.int .i64 (C + V))).of_block (Below.heap_setCell _ ⟨gn, q, none⟩ (.int .i64 (to : Int)) gr hgne)).congr (f' := fun i => .int .i64 (rowR a b c q (j + 1) i)) fun i _ => rowR_yes HY.out i)
                        have hN9 := fun m => ((((hN.drewN m).of_block (Below.heap_setCell (wr.drewN m) ⟨gr, q, none⟩ (.int .i64 (C + V)) gn (Ne.symm hgne))).set q (.int .i64 (to : Int))).congr (f' := fun i => .int .i64 (rowN a b c q (j + 1) i : Nat)) fun i _ => rowN_yes HY.out i)
                        refine ⟨⟨j + 1, hjm, ?_, hR9 _, hN9 _, ((below_drewN hb _).setCell (p := ⟨gr, q, none⟩) (by exact hgr1) _).setCell (p := ⟨gn, q, none⟩) (by exact hgn1) _⟩, by simp [intOf]; omega⟩
                        rw [← Nat.add_assoc, HTO.out]; go_num
                    · have hmn2 : decide ((q : Int) + (b : Int) ≤ (c.length : Int)) = false := decide_eq_false hmn
                      by_cases hB1 : S < 0
                      · have hB2 : decide (S < 0) = true := decide_eq_true hB1
                        clear hB
                        clear hB1
                        go_wp2_with fail
                        go_quiet (fail)
                        go_wp2_with fail
                        have hSt : (wr.drewN 1).cell? ⟨gr, to, none⟩ = some (.int .i64 V) ∧ (wr.drewN 1).cell? ⟨bC, oC + (to - 1), none⟩ = some (.int .i64 C) := ⟨q1, e1⟩
                        have he1 : ∀ i : SW (fun v => v.cell? ⟨gr, to, none⟩ = some (.int .i64 V) ∧ v.cell? ⟨bC, oC + (to - 1), none⟩ = some (.int .i64 C)), (sw i).cell? ⟨gr, to, none⟩ = some (.int .i64 V) := fun i => (sw_is i).1
                        have he2 : ∀ i : SW (fun v => v.cell? ⟨gr, to, none⟩ = some (.int .i64 V) ∧ v.cell? ⟨bC, oC + (to - 1), none⟩ = some (.int .i64 C)), (sw i).cell? ⟨bC, oC + (to - 1), none⟩ = some (.int .i64 C) := fun i => (sw_is i).2
                        refine wp_region_planZ (fun v => v.cell? ⟨gr, to, none⟩ = some (.int .i64 V) ∧ v.cell? ⟨bC, oC + (to - 1), none⟩ = some (.int .i64 C)) (some 18) [([0, 1, 2, 3, 4, 5, 6, 7, 8, 9, 10, 11, 12, 13, 14, 15], 16), ([17], 18)] [] (by kernel_rfl) (by kernel_rfl) hSt fun hne => ?_
                        simp only [wpPlan, wpEff, effOf, opsAt, optCons, List.getElem?_toArray, List.getElem?_cons_zero, List.getElem?_cons_succ]
                        repeat (go_big_quiet_step (fail))
                        refine wpQuiet_nil ?_
                        go_wp2
                        refine effQ_normal ⟨(World.cell?_setCell_other _ _ _ _ (fun e => by injection e with _ e; omega)).trans q1, (World.cell?_setCell_other _ _ _ _ (fun e => by injection e with e _; omega)).trans e1⟩ ?_
                        have q6 : ∀ m u, ((wr.drewN m).setCell ⟨gr, q, none⟩ u).cell? ⟨gn, q, none⟩ = some (.int .i64 (S2 : Nat)) := fun m u => (World.cell?_setCell_other _ _ _ _ (fun e => by injection e with e _; omega)).trans q4
                        have q7 : ∀ m u, ((wr.drewN m).setCell ⟨gr, q, none⟩ u).frozen? ⟨gn, q, none⟩ = false := fun m u => ((hN.drewN m).of_block (Below.heap_setCell (wr.drewN m) ⟨gr, q, none⟩ u gn (Ne.symm hgne))).frozen q
                        repeat (go_big_quiet_step (fail))
                        refine wpQuiet_nil ?_
                        go_wp2
                        refine effQ_last (by rfl) ?_
                        refine wpQuiet_nil ?_
                        refine noPan_normal ?_
                        go_wp2
                        have hR9 := fun m => ((((hR.drewN m).set q (.int .i64 (C + V))).of_block (Below.heap_setCell _ ⟨gn, q, none⟩ (.int .i64 (to : Int)) gr hgne)).congr (f' := fun i => .int .i64 (rowR a b c q (j + 1) i)) fun i _ => rowR_yes HY.out i)
                        have hN9 := fun m => ((((hN.drewN m).of_block (Below.heap_setCell (wr.drewN m) ⟨gr, q, none⟩ (.int .i64 (C + V)) gn (Ne.symm hgne))).set q (.int .i64 (to : Int))).congr (f' := fun i => .int .i64 (rowN a b c q (j + 1) i : Nat)) fun i _ => rowN_yes HY.out i)
                        refine ⟨⟨j + 1, hjm, ?_, hR9 _, hN9 _, ((below_drewN hb _).setCell (p := ⟨gr, q, none⟩) (by exact hgr1) _).setCell (p := ⟨gn, q, none⟩) (by exact hgn1) _⟩, by simp [intOf]; omega⟩
                        rw [← Nat.add_assoc, HTO.out]; go_num
                      · have hB2 : decide (S < 0) = false := decide_eq_false hB1
                        have hB3 : decide (C + V < S) = true := decide_eq_true (by omega)
                        clear hB hB1
                        go_wp2_with fail
                        go_quiet (fail)
                        go_wp2_with fail
                        have hSt : (wr.drewN 1).cell? ⟨gr, to, none⟩ = some (.int .i64 V) ∧ (wr.drewN 1).cell? ⟨bC, oC + (to - 1), none⟩ = some (.int .i64 C) := ⟨q1, e1⟩
                        have he1 : ∀ i : SW (fun v => v.cell? ⟨gr, to, none⟩ = some (.int .i64 V) ∧ v.cell? ⟨bC, oC + (to - 1), none⟩ = some (.int .i64 C)), (sw i).cell? ⟨gr, to, none⟩ = some (.int .i64 V) := fun i => (sw_is i).1
                        have he2 : ∀ i : SW (fun v => v.cell? ⟨gr, to, none⟩ = some (.int .i64 V) ∧ v.cell? ⟨bC, oC + (to - 1), none⟩ = some (.int .i64 C)), (sw i).cell? ⟨bC, oC + (to - 1), none⟩ = some (.int .i64 C) := fun i => (sw_is i).2
                        refine wp_region_planZ (fun v => v.cell? ⟨gr, to, none⟩ = some (.int .i64 V) ∧ v.cell? ⟨bC, oC + (to - 1), none⟩ = some (.int .i64 C)) (some 18) [([0, 1, 2, 3, 4, 5, 6, 7, 8, 9, 10, 11, 12, 13, 14, 15], 16), ([17], 18)] [] (by kernel_rfl) (by kernel_rfl) hSt fun hne => ?_
                        simp only [wpPlan, wpEff, effOf, opsAt, optCons, List.getElem?_toArray, List.getElem?_cons_zero, List.getElem?_cons_succ]
                        repeat (go_big_quiet_step (fail))
                        refine wpQuiet_nil ?_
                        go_wp2
                        refine effQ_normal ⟨(World.cell?_setCell_other _ _ _ _ (fun e => by injection e with _ e; omega)).trans q1, (World.cell?_setCell_other _ _ _ _ (fun e => by injection e with e _; omega)).trans e1⟩ ?_
                        have q6 : ∀ m u, ((wr.drewN m).setCell ⟨gr, q, none⟩ u).cell? ⟨gn, q, none⟩ = some (.int .i64 (S2 : Nat)) := fun m u => (World.cell?_setCell_other _ _ _ _ (fun e => by injection e with e _; omega)).trans q4
                        have q7 : ∀ m u, ((wr.drewN m).setCell ⟨gr, q, none⟩ u).frozen? ⟨gn, q, none⟩ = false := fun m u => ((hN.drewN m).of_block (Below.heap_setCell (wr.drewN m) ⟨gr, q, none⟩ u gn (Ne.symm hgne))).frozen q
                        repeat (go_big_quiet_step (fail))
                        refine wpQuiet_nil ?_
                        go_wp2
                        refine effQ_last (by rfl) ?_
                        refine wpQuiet_nil ?_
                        refine noPan_normal ?_
                        go_wp2
                        have hR9 := fun m => ((((hR.drewN m).set q (.int .i64 (C + V))).of_block (Below.heap_setCell _ ⟨gn, q, none⟩ (.int .i64 (to : Int)) gr hgne)).congr (f' := fun i => .int .i64 (rowR a b c q (j + 1) i)) fun i _ => rowR_yes HY.out i)
                        have hN9 := fun m => ((((hN.drewN m).of_block (Below.heap_setCell (wr.drewN m) ⟨gr, q, none⟩ (.int .i64 (C + V)) gn (Ne.symm hgne))).set q (.int .i64 (to : Int))).congr (f' := fun i => .int .i64 (rowN a b c q (j + 1) i : Nat)) fun i _ => rowN_yes HY.out i)
                        refine ⟨⟨j + 1, hjm, ?_, hR9 _, hN9 _, ((below_drewN hb _).setCell (p := ⟨gr, q, none⟩) (by exact hgr1) _).setCell (p := ⟨gn, q, none⟩) (by exact hgn1) _⟩, by simp [intOf]; omega⟩
                        rw [← Nat.add_assoc, HTO.out]; go_num
                  · have hn := NO.out (fun h => hB h.2)
                    have HN := Lib.hid hn
                    have hA2 : decide (0 ≤ V) = true := decide_eq_true hA
                    have hB2 : decide (S < 0) = false := decide_eq_false (by omega)
                    have hB3 : decide (C + V < S) = false := decide_eq_false (by omega)
                    clear hn YES NO hB
                    by_cases hmn : (q : Int) + (b : Int) ≤ (c.length : Int)
                    · skip
                      go_wp2_with fail
                      go_quiet (fail)
                      go_wp2
                      refine ⟨⟨j + 1, hjm, ?_, hR.congr fun i _ => by rw [rowR_no HN.out], hN.congr fun i _ => by rw [rowN_no HN.out], below_drewN hb _⟩, by simp [intOf]; omega⟩
                      rw [← Nat.add_assoc, HTO.out]; go_num
                    · have hmn2 : decide ((q : Int) + (b : Int) ≤ (c.length : Int)) = false := decide_eq_false hmn
                      go_wp2_with fail
                      go_quiet (fail)
                      go_wp2
                      refine ⟨⟨j + 1, hjm, ?_, hR.congr fun i _ => by rw [rowR_no HN.out], hN.congr fun i _ => by rw [rowN_no HN.out], below_drewN hb _⟩, by simp [intOf]; omega⟩
                      rw [← Nat.add_assoc, HTO.out]; go_num
                · have hn := NO.out (fun h => hA h.1)
                  have HN := Lib.hid hn
                  have hA2 : decide (0 ≤ V) = false := decide_eq_false hA
                  clear hn YES NO
                  by_cases hmn : (q : Int) + (b : Int) ≤ (c.length : Int)
                  · skip
                    go_wp2_with fail
                    go_quiet (fail)
                    go_wp2
                    refine ⟨⟨j + 1, hjm, ?_, hR.congr fun i _ => by rw [rowR_no HN.out], hN.congr fun i _ => by rw [rowN_no HN.out], below_drewN hb _⟩, by simp [intOf]; omega⟩
                    rw [← Nat.add_assoc, HTO.out]; go_num
                  · have hmn2 : decide ((q : Int) + (b : Int) ≤ (c.length : Int)) = false := decide_eq_false hmn
                    go_wp2_with fail
                    go_quiet (fail)
                    go_wp2
                    refine ⟨⟨j + 1, hjm, ?_, hR.congr fun i _ => by rw [rowR_no HN.out], hN.congr fun i _ => by rw [rowN_no HN.out], below_drewN hb _⟩, by simp [intOf]; omega⟩
                    rw [← Nat.add_assoc, HTO.out]; go_num
              · have hje : j = many a b c.length q := by omega
                have hR2 := hR.congr (f' := fun i => .int .i64 (doneR a b c q i)) (fun i _ => by rw [rowR_last hD1 (by omega) hje])
                have hN2 := hN.congr (f' := fun i => .int .i64 (doneN a b c q i : Nat)) (fun i _ => by rw [rowN_last hD1 (by omega) hje])
                rw [hmy] at hje
                have s4 : IntKind.i64.wrap ((q : Int) + (b : Int)) = (q : Int) + (b : Int) := IntWalk.i64_in _ (by omega)
                generalize hTO : q + a + j = to at *
                clear hR hN hj hjj hmy
                by_cases hmn : (q : Int) + (b : Int) ≤ (c.length : Int)
                · have g1 : decide ((to : Int) ≤ (q : Int) + (b : Int)) = false := decide_eq_false (by omega)
                  clear hje hTO
                  go_wp2
                  exact ⟨⟨q, by omega, by go_num, hR2, hN2, hb⟩, by simp [intOf]⟩
                · have g1 : decide (to ≤ c.length) = false := decide_eq_false (by omega)
                  have g2 : decide ((q : Int) + (b : Int) ≤ (c.length : Int)) = false := decide_eq_false hmn
                  clear hje hTO
                  go_wp2
                  exact ⟨⟨q, by omega, by go_num, hR2, hN2, hb⟩, by simp [intOf]⟩
          | zero =>
            rw [show ((0 : Nat) : Int) - 1 = (-1 : Int) by omega]
            have hstart := readTo_start h0
            have hbw := hb.size
            have gl := hN.lt
            go_wp2_with fail
            go_loopw [14, 13] (fun i v wx => ∃ (k : Nat) (pre : List Int), i = .int .i64 k ∧ readTo a b c k pre ∧ k ≤ c.length ∧ Acc1 wr wx 3 .i64 v pre) (fun i _ _ => c.length - (intOf i).toNat)
            case atStart => exact ⟨0, [], rfl, hstart, Nat.zero_le _, Acc1.start wr _ _⟩
            case round =>
              obtain ⟨k, pre, rfl, hrd, hk, hacc⟩ := hrel
              clear hstart
              by_cases hlt : k < c.length
              · obtain ⟨hs, hx1, hx2, hx3⟩ := readTo_step hD1 HC0.out hrd hlt
                have hpl : pre.length + 1 ≤ 4294967296 := by obtain ⟨_, _, _, _, _, h⟩ := hrd; omega
                have q1 := (hN.cell (i := k) (by omega))
                rw [doneN_gt (Nat.zero_le _)] at q1
                have q2 := (hacc.2.cell (p := ⟨gn, k, none⟩) (by exact gl)).trans q1
                have l1 : (0 : Int) ≤ (k : Int) := by omega
                have l2 : (k : Int) < (c.length : Int) + 1 := by omega
                have HS := Lib.hid hs
                generalize nx a b c k = x at *
                have s1 : IntKind.i64.wrap ((x : Int) - 1) = (x : Int) - 1 := IntWalk.i64_in _ (by omega)
                clear hs hrd q1
                go_wp2_with (at_builtin; refine wpList_app1 rfl _ _ _ rfl Try.underlying22 infoI64 rfl hacc _ _ _ rfl rfl hpl ?_; intro v1 w2 hacc1; have q3 := (hacc1.2.cell (p := ⟨gn, k, none⟩) (by exact gl)).trans ((hacc.2.cell (p := ⟨gn, k, none⟩) (by exact gl)).symm.trans q2))
                exact ⟨⟨x, pre ++ [(x : Int) - 1], rfl, HS.out, hx3, hacc1⟩, by simp [intOf]; omega⟩
              · obtain rfl : k = c.length := by omega
                have he := readTo_end hrd
                rw [← HB.out] at he
                subst he
                go_wp2
                go_ret2
                obtain ⟨A1, c1, rfl⟩ := hacc.shape
                refine ⟨A1, c1, ?_, own_base hacc.1 hbw, hb.trans (hacc.2.mono hbw)⟩
                rw [HOK.out]; rfl
end Go.Proofs.Ytbdhnfligfpigaa
