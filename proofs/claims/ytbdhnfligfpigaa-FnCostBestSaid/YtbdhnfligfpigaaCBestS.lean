/- Contract of CutsBest in the reference. No condition but that the list has at most 1048576 elements. -/
import Derived.Test.YtbdhnfligfpigaaCBLaw
namespace Go.Proofs.Ytbdhnfligfpigaa
open Go.RowKit

/-- The row of the least costs, in memory of the call's own. -/
def RetRow (w : World) (a b : Nat) (c : List Int) (e : Ending) (w' : World) : Prop :=
  ∃ g c', e = .returned (.slice (some ⟨g, 0, none⟩) (c.length + 1) c') ∧ w.heap.size ≤ g ∧ Row w' g 3 (c.length + 1) (fun i => .int .i64 (rs a b c i)) ∧ Below w.heap.size w w'

set_option maxRecDepth 100000 in
set_option maxHeartbeats 8000000 in
theorem l15Best_any (A : Option Addr) (ca : Nat) (c : List Int) (a b : Nat) (w : World) (hr : RdI w w.heap.size .i64 A c) (hsig : sig c = true) (hD1 : 1 ≤ a) (hD2 : a ≤ b) (hD3 : b ≤ 16) :
    Calls Try.prog 34 #[.slice A c.length ca, .int .i64 (a : Nat), .int .i64 (b : Nat)] w (RetRow w a b c) := by
  obtain ⟨n1, n2⟩ := ((sig_iff c).1 hsig).2
  have SN := Lib.hid (sig_nonneg hsig)
  have RS := Lib.hid (fun k (hk : k ≤ c.length) => rs_small (b := b) hD1 hsig hk)
  clear hsig
  have hmk := run_make1 (P := Try.prog) Try.underlying22 infoI64 (by omega) (c.length + 1) (by omega)
  rw [show ((c.length + 1 : Nat) : Int) = (c.length : Int) + 1 by omega] at hmk
  have hb0 : Below w.heap.size w (w.alloc (.cells (madeCells #[.int .i64 0] (c.length + 1)) 3)) := (Below.refl _ _).alloc (Nat.le_refl _) _
  have rR := (row_one w (c.length + 1) 3).congr (f' := fun i => .int .i64 (doneR a b c c.length i)) (fun i hi => by rw [doneR_start hi])
  go_enter Try.func34, Try.ntmps34
  go_wp2_with fail
  clear hmk
  go_loopw [9] (fun i wr => ∃ k : Nat, k ≤ c.length ∧ i = .int .i64 ((k : Int) - 1) ∧ Row wr w.heap.size 3 (c.length + 1) (fun i => .int .i64 (doneR a b c k i)) ∧ Below w.heap.size w wr) (fun i _ => (intOf i + 1).toNat)
  case atStart => exact ⟨c.length, Nat.le_refl _, rfl, rR, hb0⟩
  case round =>
    obtain ⟨k, hk, rfl, hR, hb⟩ := hrel
    clear rR hb0
    cases k with
    | zero =>
      rw [show ((0 : Nat) : Int) - 1 = (-1 : Int) by omega]
      go_wp2
      go_ret
      exact ⟨w.heap.size, _, rfl, Nat.le_refl _, hR.congr fun i _ => by rw [doneR_gt (Nat.zero_le _)], hb⟩
    | succ q =>
      rw [show ((q + 1 : Nat) : Int) - 1 = (q : Int) by omega]
      have hq0 : (0 : Int) ≤ (q : Int) := by omega
      have q1 := hR.cell (i := q) (by omega)
      have q2 := hR.frozen q
      have l1 : (q : Int) < (c.length : Int) + 1 := by omega
      go_wp2_with fail
      clear q1 q2
      have hR1 := (hR.set q (.int .i64 (-1))).congr (f' := fun i => .int .i64 (rowR a b c q 0 i)) (fun i _ => rowR_first)
      have hb2 := hb.setCell (p := ⟨w.heap.size, q, none⟩) (Nat.le_refl _) (.int .i64 (-1))
      generalize wr.setCell ⟨w.heap.size, q, none⟩ (.int .i64 (-1)) = wz at hR1 hb2 ⊢
      clear hR hb
      go_loopw [10] (fun d wx => ∃ j : Nat, j ≤ many a b c.length q ∧ d = .int .i64 ((a + j : Nat) : Int) ∧ Row wx w.heap.size 3 (c.length + 1) (fun i => .int .i64 (rowR a b c q j i)) ∧ Below w.heap.size w wx) (fun d _ => b + 1 - (intOf d).toNat)
      case atStart => exact ⟨0, Nat.zero_le _, by go_num, hR1, hb2⟩
      case round =>
        obtain ⟨j, hj, rfl, hR, hb⟩ := hrel
        clear hR1 hb2
        have hmy : many a b c.length q = min (q + b) c.length + 1 - (q + a) := rfl
        by_cases hjj : j < many a b c.length q
        · have hto : q + a + j ≤ q + b ∧ q + a + j ≤ c.length := by omega
          obtain ⟨bC, oC, hA, hAB, hcC⟩ := (hr.below hb) (by omega)
          subst hA
          have e1 := hcC (q + a + j - 1) (by omega)
          have q1 := hR.cell (i := q + a + j) (by omega)
          have q2 := hR.cell (i := q) (by omega)
          have q3 := hR.frozen q
          rw [rowR_gt (by omega)] at q1
          rw [rowR_here] at q2
          have r1 := RS.out (q + a + j) hto.2
          have r2 := SN.out (q + a + j - 1)
          have r3 := sc_bd (a := a) (c := c) (q := q) (r := rs a b c) 17000 (by omega) (fun k => (SN.out k).1) j (fun i hi => by have := RS.out (q + a + i) (by omega); have := SN.out (q + a + i - 1); omega)
          have yes := fun h0 h => sc_yes (a := a) (c := c) (r := rs a b c) (q := q) (j := j) h0 h
          have no := fun h => sc_no (a := a) (c := c) (r := rs a b c) (q := q) (j := j) h
          have YES := Lib.hid yes
          have NO := Lib.hid no
          have hjm : j + 1 ≤ many a b c.length q := hjj
          clear yes no hcC hmy hjj
          rw [show q + a + j = q + (a + j) by omega] at *
          generalize hD : a + j = D at *
          have HD := Lib.hid hD
          have hDa : a ≤ D := by omega
          clear hD
          generalize hV : rs a b c (q + D) = V at *
          generalize hCV : gI c (q + D - 1) = C at *
          have HV := Lib.hid (And.intro hV hCV)
          clear hV hCV
          have l2 : (0 : Int) ≤ (q : Int) + (D : Int) ∧ (q : Int) + (D : Int) < (c.length : Int) + 1 ∧ (0 : Int) ≤ (q : Int) + (D : Int) - 1 ∧ (q : Int) + (D : Int) - 1 < (c.length : Int) ∧ (1 : Int) ≤ (q : Int) + (D : Int) := by omega
          obtain ⟨l21, l22, l23, l24, l25⟩ := l2
          have s1 : IntKind.i64.wrap ((q : Int) + (D : Int)) = (q : Int) + (D : Int) := IntWalk.i64_in _ (by omega)
          have s2 : IntKind.i64.wrap ((q : Int) + (D : Int) - 1) = (q : Int) + (D : Int) - 1 := IntWalk.i64_in _ (by omega)
          have s3 : ((q : Int) + (D : Int)).toNat = q + D := by omega
          have s4 : ((q : Int) + (D : Int) - 1).toNat = q + D - 1 := by omega
          have s5 : IntKind.i64.wrap (V + C) = V + C := IntWalk.i64_in _ (by omega)
          have l3 : D ≤ b := by omega
          have l4 : (q : Int) + (D : Int) ≤ (c.length : Int) := by omega
          generalize hS : (sc a c (rs a b c) q j).1 = S at *
          have HS := Lib.hid hS
          clear hS
          by_cases hA : 0 ≤ V
          · have hA2 : decide (0 ≤ V) = true := decide_eq_true hA
            by_cases hB : S < 0 ∨ C + V < S
            · have hy := YES.out hA hB
              have HY := Lib.hid hy
              clear hy YES NO
              by_cases hB1 : S < 0
              · have hB2 : decide (S < 0) = true := decide_eq_true hB1
                clear hB
                go_wp2_with fail
                go_quiet (fail)
                go_wp2
                have hR9 := fun m => ((hR.drewN m).set q (.int .i64 (V + C))).congr (f' := fun i => .int .i64 (rowR a b c q (j + 1) i)) fun i _ => rowR_yes (by rw [HY.out, Int.add_comm]) i
                refine ⟨⟨j + 1, hjm, ?_, hR9 _, (below_drewN hb _).setCell (p := ⟨w.heap.size, q, none⟩) (Nat.le_refl _) _⟩, by simp [intOf]; omega⟩
                rw [← Nat.add_assoc, HD.out]; go_num
              · have hB2 : decide (S < 0) = false := decide_eq_false hB1
                have hB3 : decide (V + C < S) = true := decide_eq_true (by omega)
                clear hB
                go_wp2_with fail
                go_quiet (fail)
                go_wp2
                have hR9 := fun m => ((hR.drewN m).set q (.int .i64 (V + C))).congr (f' := fun i => .int .i64 (rowR a b c q (j + 1) i)) fun i _ => rowR_yes (by rw [HY.out, Int.add_comm]) i
                refine ⟨⟨j + 1, hjm, ?_, hR9 _, (below_drewN hb _).setCell (p := ⟨w.heap.size, q, none⟩) (Nat.le_refl _) _⟩, by simp [intOf]; omega⟩
                rw [← Nat.add_assoc, HD.out]; go_num
            · have hn := NO.out (fun h => hB h.2)
              have HN := Lib.hid hn
              have hB2 : decide (S < 0) = false := decide_eq_false (by omega)
              have hB3 : decide (V + C < S) = false := decide_eq_false (by omega)
              clear hn YES NO hB
              go_wp2_with fail
              go_quiet (fail)
              go_wp2
              refine ⟨⟨j + 1, hjm, ?_, hR.congr fun i _ => by rw [rowR_no HN.out], below_drewN hb _⟩, by simp [intOf]; omega⟩
              rw [← Nat.add_assoc, HD.out]; go_num
          · have hA2 : decide (0 ≤ V) = false := decide_eq_false hA
            have hn := NO.out (fun h => hA h.1)
            have HN := Lib.hid hn
            clear hn YES NO
            go_wp2_with fail
            go_quiet (fail)
            go_wp2
            refine ⟨⟨j + 1, hjm, ?_, hR.congr fun i _ => by rw [rowR_no HN.out], below_drewN hb _⟩, by simp [intOf]; omega⟩
            rw [← Nat.add_assoc, HD.out]; go_num
        · have hje : j = many a b c.length q := by omega
          have hR2 := hR.congr (f' := fun i => .int .i64 (doneR a b c q i)) (fun i _ => by rw [rowR_last hD1 (by omega) hje])
          rw [hmy] at hje
          clear hR hj hjj hmy
          by_cases hx : a + j ≤ b
          · have hy : c.length < q + (a + j) := by omega
            generalize hD : a + j = D at *
            have s1 : IntKind.i64.wrap ((q : Int) + (D : Int)) = (q : Int) + (D : Int) := IntWalk.i64_in _ (by omega)
            have g1 : decide ((q : Int) + (D : Int) ≤ (c.length : Int)) = false := decide_eq_false (by omega)
            clear hje hD
            go_wp2
            exact ⟨⟨q, by omega, by go_num, hR2, hb⟩, by simp [intOf]⟩
          · generalize hD : a + j = D at *
            have g1 : decide (D ≤ b) = false := decide_eq_false hx
            clear hje hD
            go_wp2
            exact ⟨⟨q, by omega, by go_num, hR2, hb⟩, by simp [intOf]⟩

set_option maxRecDepth 100000 in
set_option maxHeartbeats 8000000 in
theorem specCutsBest_any (A : Option Addr) (ca : Nat) (c : List Int) (lo hi : Int) (w : World) (hr : RdI w w.heap.size .i64 A c) (hn : c.length ≤ 1048576) :
    Calls Try.prog 16 #[.slice A c.length ca, .int .i64 lo, .int .i64 hi] w (RetIB w 3 (bestC c lo hi) (bestOk c lo hi)) := by
  have b0 : Below w.heap.size w (w.alloc (.cells #[] 3)) := (Below.refl _ _).alloc (Nat.le_refl _) _
  have acc0 : Acc1 w (w.alloc (.cells #[] 3)) 3 .i64 (.slice (some ⟨w.heap.size, 0, none⟩) 0 0) [] := ⟨World.ownsRow_made w #[] 0 (Nat.le_refl _) (by decide) rfl, b0⟩
  go_enter Try.func16, Try.ntmps16
  go_wp2_with fail
  refine (l15Signal_any A ca c _ (hr.to b0) hn).mono ?_
  rintro e w' ⟨rfl, rfl⟩
  cases h1 : sig c with
  | false =>
    have hf : bestOk c lo hi = false := by simp [bestOk, h1]
    have HF := Lib.hid hf
    have HB := Lib.hid (bestC_no hf)
    clear h1 hf
    go_wp2
    go_ret2
    rw [HB.out, HF.out]
    exact ⟨_, 0, rfl, acc0.1, acc0.2⟩
  | true =>
    have H1 := Lib.hid h1
    obtain ⟨n1, n2⟩ := ((sig_iff c).1 h1).2
    clear h1
    go_wp2_with fail
    refine (l15Range_any lo hi _).mono ?_
    rintro e w' ⟨rfl, rfl⟩
    cases h2 : dstOk lo hi with
    | false =>
      have hf : bestOk c lo hi = false := by simp [bestOk, h2]
      have HF := Lib.hid hf
      have HB := Lib.hid (bestC_no hf)
      clear h2 hf
      go_wp2
      go_ret2
      rw [HB.out, HF.out]
      exact ⟨_, 0, rfl, acc0.1, acc0.2⟩
    | true =>
      have hdp := dst_parts h2
      obtain ⟨a, rfl⟩ := Int.eq_ofNat_of_zero_le (show 0 ≤ lo by omega)
      obtain ⟨b, rfl⟩ := Int.eq_ofNat_of_zero_le (show 0 ≤ hi by omega)
      have hbk := bestOk_nat H1.out h2
      have HBK := Lib.hid hbk
      have hD1 : 1 ≤ a := by omega
      have hD2 : a ≤ b := by omega
      have hD3 : b ≤ 16 := by omega
      clear h2 hdp hbk
      go_wp2_with fail
      refine (l15Best_any A ca c a b _ (hr.to b0) H1.out hD1 hD2 hD3).mono ?_
      rintro e w2 ⟨g, c', rfl, hg, hR, hb2⟩
      have acc2 := acc0.below hb2
      have hne : (Value.slice (some ⟨w.heap.size, 0, none⟩) 0 0).ownBlock ≠ some g := fun e => by have := (acc0.1.lt g e).2; omega
      have q0 := hR.cell (i := 0) (by omega)
      have lz : (0 : Int) < (c.length : Int) + 1 := by omega
      clear hb2 acc0 b0
      by_cases h0 : rs a b c 0 < 0
      · have hf : bestOk c a b = false := by rw [HBK.out]; exact decide_eq_false (by omega)
        have HF := Lib.hid hf
        have HB := Lib.hid (bestC_no hf)
        clear hf
        go_wp2
        go_ret2
        rw [HB.out, HF.out]
        exact ⟨_, 0, rfl, acc2.1, acc2.2⟩
      · have h0' : decide (rs a b c 0 < 0) = false := decide_eq_false h0
        have hok : bestOk c a b = true := by rw [HBK.out]; exact decide_eq_true (by omega)
        have HOK := Lib.hid hok
        have HB := Lib.hid (bestC_nat hok)
        have hstart := readTo_start (a := a) (b := b) (c := c) (by omega)
        have SN := Lib.hid (sig_nonneg H1.out)
        have RS := Lib.hid (fun k (hk : k ≤ c.length) => rs_small (b := b) hD1 H1.out hk)
        have HC0 := Lib.hid (fun k (hk : k < c.length) => (sig_nonneg H1.out k).1)
        clear hok
        go_wp2_with fail
        clear q0 h0' h0
        go_loopw [10, 8] (fun i v wx => ∃ (k : Nat) (pre : List Int), i = .int .i64 k ∧ readTo a b c k pre ∧ k ≤ c.length ∧ Acc1 w wx 3 .i64 v pre ∧ Row wx g 3 (c.length + 1) (fun i => .int .i64 (rs a b c i)) ∧ v.ownBlock ≠ some g) (fun i _ _ => c.length - (intOf i).toNat)
        case atStart => exact ⟨0, [], rfl, hstart, Nat.zero_le _, acc2, hR, hne⟩
        case round =>
          obtain ⟨k, pre, rfl, hrd, hk, hacc, hR, hne⟩ := hrel
          clear hstart acc2
          by_cases hlt : k < c.length
          · obtain ⟨hs, hx1, hx2, hx3⟩ := readTo_step hD1 HC0.out hrd hlt
            have hpl : pre.length + 1 ≤ 4294967296 := by obtain ⟨_, _, _, _, _, h⟩ := hrd; omega
            have hrk : 0 ≤ rs a b c k := by obtain ⟨_, _, _, _, h, _⟩ := hrd; exact h
            have hc3 := (rs_cases (b := b) hD1 HC0.out k hlt).resolve_left (fun h => by omega)
            have HC3 := Lib.hid hc3
            have HS := Lib.hid hs
            have hxe : nx a b c k = nx a b c k := rfl
            clear hs hrd hc3 hxe
            go_wp2_with fail
            go_loopw [11] (fun d wx => ∃ j : Nat, k + a + j ≤ nx a b c k ∧ d = .int .i64 ((a + j : Nat) : Int) ∧ Below wr.heap.size wr wx) (fun d _ => nx a b c k - (intOf d).toNat)
            case atStart => exact ⟨0, by omega, by go_num, Below.refl _ _⟩
            case round =>
              obtain ⟨j, hj, rfl, hbx⟩ := hrel
              have hacc := hacc.below hbx
              have hR := hR.below hbx hR.lt
              obtain ⟨bC, oC, hA, hAB, hcC⟩ := (hr.below hacc.2) (by omega)
              subst hA
              have e1 := hcC (k + a + j - 1) (by omega)
              have q1 := hR.cell (i := k + a + j) (by omega)
              have q2 := hR.cell (i := k) (by omega)
              have r1 := RS.out (k + a + j) (by omega)
              have r4 := RS.out k hk
              have r2 := SN.out (k + a + j - 1)
              have h31 := HC3.out.2.2.2.1
              have h32 := HC3.out.2.2.2.2.1
              have h33 := fun hlt h0 => HC3.out.2.2.2.2.2.2 (k + a + j) (by omega) hlt h0
              have hin : k + a + j = nx a b c k → 0 ≤ rs a b c (k + a + j) ∧ rs a b c k = gI c (k + a + j - 1) + rs a b c (k + a + j) := fun e => by rw [e]; exact ⟨h31, h32⟩
              have HIN := Lib.hid hin
              have H33 := Lib.hid h33
              clear hcC h31 h32 h33 hin
              rw [show k + a + j = k + (a + j) by omega] at *
              generalize hD : a + j = D at *
              have HD := Lib.hid hD
              have hDa : a ≤ D := by omega
              clear hD
              generalize hV : rs a b c (k + D) = V at *
              generalize hCV : gI c (k + D - 1) = C at *
              generalize hM : rs a b c k = M at *
              have HV := Lib.hid (And.intro hV (And.intro hCV hM))
              clear hV hCV hM
              have l2 : (0 : Int) ≤ (k : Int) + (D : Int) ∧ (k : Int) + (D : Int) < (c.length : Int) + 1 ∧ (0 : Int) ≤ (k : Int) + (D : Int) - 1 ∧ (k : Int) + (D : Int) - 1 < (c.length : Int) ∧ (1 : Int) ≤ (k : Int) + (D : Int) := by omega
              obtain ⟨l21, l22, l23, l24, l25⟩ := l2
              have l26 : (0 : Int) ≤ (k : Int) := by omega
              have l27 : (k : Int) < (c.length : Int) + 1 := by omega
              have s1 : IntKind.i64.wrap ((k : Int) + (D : Int)) = (k : Int) + (D : Int) := IntWalk.i64_in _ (by omega)
              have s2 : IntKind.i64.wrap ((k : Int) + (D : Int) - 1) = (k : Int) + (D : Int) - 1 := IntWalk.i64_in _ (by omega)
              have s3 : ((k : Int) + (D : Int)).toNat = k + D := by omega
              have s4 : ((k : Int) + (D : Int) - 1).toNat = k + D - 1 := by omega
              have s5 : IntKind.i64.wrap (V + C) = V + C := IntWalk.i64_in _ (by omega)
              by_cases hfin : k + D = nx a b c k
              · obtain ⟨hv0, hvM⟩ := HIN.out hfin
                have g1 : decide (V < 0) = false := decide_eq_false (by omega)
                have g2 : (V + C != M) = false := by simp; omega
                rw [← hfin] at HS
                have hs2 := HS.out
                rw [show ((k + D : Nat) : Int) - 1 = (k : Int) + (D : Int) - 1 by omega] at hs2
                have HS2 := Lib.hid hs2
                have hkd : k + D ≤ c.length := by omega
                have hgl := hR.lt
                clear hs2 HS HIN H33 hfin hvM
                go_wp2_with fail
                go_quiet (fail)
                have haccq := hacc.drewN nq
                have hRq := hR.drewN nq
                have hzq := hR.lt
                clear hacc hR
                generalize wr.drewN nq = wq at haccq hRq ⊢
                have hzq := hRq.lt
                go_wp2_with (at_builtin; refine wpList_app1_base rfl _ _ _ rfl Try.underlying22 infoI64 rfl haccq.1 haccq.2.size _ _ _ rfl rfl hpl ?_; intro v1 w9 o9 hg9 hat9)
                have acc9 : Acc1 w w9 3 .i64 v1 (pre ++ [(k : Int) + (D : Int) - 1]) := ⟨o9, (haccq.2.alloc haccq.2.size _).grown hg9 (haccq.2.alloc haccq.2.size _).size fun r hr => (haccq.1.lt r hr).1⟩
                have hR9 := (hRq.alloc (.cells #[.int .i64 ((k : Int) + (D : Int) - 1)] 3)).of_block (hg9.block g (by simp; omega) (fun e => hne e.symm))
                have hne9 : v1.ownBlock ≠ some g := fun e => by
                  rcases hat9 with h | h
                  · exact hne (h ▸ e)
                  · rw [h] at e; injection e with e; omega
                exact ⟨⟨k + D, _, by go_num, HS2.out, hkd, acc9, hR9, hne9⟩, by simp [intOf]; omega⟩
              · have hlt2 : k + D < nx a b c k := by omega
                by_cases hv0 : V < 0
                · have g1 : decide (V < 0) = true := decide_eq_true hv0
                  clear HIN H33 hfin
                  go_wp2_with fail
                  go_quiet (fail)
                  go_wp2
                  refine ⟨⟨j + 1, by rw [← Nat.add_assoc] at *; have := HD.out; omega, ?_, below_drewN hbx _⟩, by simp [intOf]; omega⟩
                  rw [← Nat.add_assoc, HD.out]; go_num
                · have g1 : decide (V < 0) = false := decide_eq_false hv0
                  have hgt := H33.out hlt2 (by omega)
                  have g2 : (V + C != M) = true := by simp; omega
                  clear HIN H33 hfin
                  go_wp2_with fail
                  go_quiet (fail)
                  go_wp2
                  refine ⟨⟨j + 1, by have := HD.out; omega, ?_, below_drewN hbx _⟩, by simp [intOf]; omega⟩
                  rw [← Nat.add_assoc, HD.out]; go_num
          · obtain rfl : k = c.length := by omega
            have he := readTo_end hrd
            rw [← HB.out] at he
            subst he
            go_wp2
            go_ret2
            obtain ⟨A1, c1, rfl⟩ := hacc.shape
            refine ⟨A1, c1, ?_, hacc⟩
            rw [HOK.out]; rfl

end Go.Proofs.Ytbdhnfligfpigaa
