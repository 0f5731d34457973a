/- Contracts of the values of a curve at its own knots. No condition but that the list is a curve. -/
import Derived.Test.YtpaeajfjjklpnaaFrac
import Derived.Test.YtpaeajfjjklpnaaCurve
namespace Go.Proofs.Ytpaeajfjjklpnaa
open Go.RowKit

set_option maxHeartbeats 400000 in
theorem frac_any (n : Int) (w : World) : Calls Try.prog 10 #[.int .i64 n] w fun e w' => e = .returned (.agg #[.int .i64 n, .int .i64 1]) ∧ Below w.heap.size w w' := by
  go_enter Try.func10, Try.ntmps10
  go_wp2
  have hB := Blk.new_ w 32 #[.int .i64 n, .int .i64 1]
  have e0 := hB.cell 0
  have e1 := hB.cell 1
  exact bodyPost_ret (v := .agg #[.int .i64 n, .int .i64 1]) (by simp [results, Try.results10, go_sem, e0, e1]) rfl ⟨rfl, (Below.refl _ _).alloc (Nat.le_refl _) _⟩

theorem cur_parts {l : List (Int × Int)} (h : curOk l = true) : 2 ≤ l.length ∧ l.length ≤ 12 ∧ (∀ k, k < l.length → (0 ≤ fA l k ∧ fA l k ≤ 30000) ∧ 0 ≤ fB l k ∧ fB l k ≤ 30000) ∧ ∀ i k, i < k → k < l.length → fA l i < fA l k ∧ fB l i < fB l k := by
  unfold curOk at h
  rw [Bool.and_eq_true, decide_eq_true_eq] at h
  obtain ⟨h1, h2⟩ := h
  obtain ⟨h3, h4, h5⟩ := (tv_iff l).1 h1
  refine ⟨h2, h5, fun k hk => ?_, fun i k hi hk => ?_⟩
  · have := h3 _ (List.getElem_mem hk)
    rw [← fA_lt hk, ← fB_lt hk] at this
    simp [depthOk] at this
    omega
  · rw [List.pairwise_iff_getElem] at h4
    have := h4 i k (by omega) hk hi
    rw [fA_lt (show i < l.length by omega), fA_lt hk, fB_lt (show i < l.length by omega), fB_lt hk]
    exact this
def inK (w : World) (gx gr : Nat) (x : Int) (wr : World) : Prop := Blk wr gx 32 #[.int .i64 x, .int .i64 1] ∧ Blk wr gr 32 #[.int .i64 0, .int .i64 0] ∧ Below w.heap.size w wr
set_option maxRecDepth 100000 in
set_option maxHeartbeats 4000000 in
theorem curveAt_knot (A : Option Addr) (c : Nat) (l : List (Int × Int)) (j : Nat) (w : World) (hr : Rd w w.heap.size A l) (hv : curOk l = true) (hj : j < l.length) :
    Calls Try.prog 21 #[.slice A l.length c, .agg #[.int .i64 (fA l j), .int .i64 1]] w fun e w' => e = .returned (.tuple #[.agg #[.int .i64 (fB l j), .int .i64 1], .bool true]) ∧ Below w.heap.size w w' := by
  obtain ⟨n1, n2, hbd, hasc⟩ := cur_parts hv
  clear hv
  obtain ⟨b, o, hA, hB, hcs⟩ := hr (by omega)
  subst hA
  have q0 := (hcs 0 (by omega)).1
  have HC := Lib.hid hcs
  have HB := Lib.hid hbd
  have HS := Lib.hid hasc
  have j0 := hbd j hj
  have i0 := hbd 0 (by omega)
  have h0j : fA l 0 ≤ fA l j := by
    by_cases e : j = 0
    · subst e; exact Int.le_refl _
    · exact Int.le_of_lt (hasc 0 j (by omega) hj).1
  clear hcs hbd hasc hr
  generalize fA l 0 = x0 at *
  have g1 : decide (fA l j < x0) = false := decide_eq_false (by omega)
  have n3 : (1 : Int) < (l.length : Int) := by omega
  go_enter Try.func21, Try.ntmps21
  go_wp2_with fail
  have hX := (Blk.new_ w 32 #[.int .i64 (fA l j), .int .i64 1]).alloc (.cells #[.int .i64 0, .int .i64 0] 32)
  have hR := Blk.new_ (w.alloc (.cells #[.int .i64 (fA l j), .int .i64 1] 32)) 32 #[.int .i64 0, .int .i64 0]
  have b0 := ((Below.refl w.heap.size w).alloc (Nat.le_refl _) (.cells #[.int .i64 (fA l j), .int .i64 1] 32)).alloc (by simp) (.cells #[.int .i64 0, .int .i64 0] 32)
  obtain ⟨J, J1, J2, hJ⟩ : ∃ J, 1 ≤ J ∧ J < l.length ∧ ((j = 0 ∧ J = 1) ∨ J = j) := by
    by_cases e : j = 0
    · exact ⟨1, Nat.le_refl _, by omega, .inl ⟨e, rfl⟩⟩
    · exact ⟨j, by omega, hj, .inr rfl⟩
  have HJ := Lib.hid hJ
  clear hJ
  have hsz : (w.alloc (.cells #[.int .i64 (fA l j), .int .i64 1] 32)).heap.size = w.heap.size + 1 := by simp
  rw [hsz] at hR
  clear hsz
  generalize (w.alloc (.cells #[.int .i64 (fA l j), .int .i64 1] 32)).alloc (.cells #[.int .i64 0, .int .i64 0] 32) = u0 at hX hR b0 ⊢
  have q1 : u0.cell? ⟨b, o, none⟩ = some (.int .i64 x0) := (b0.cell (p := ⟨b, o, none⟩) hB).trans (by rw [Nat.zero_mul, Nat.add_zero] at q0; exact q0)
  have e0 := hX.cell 0
  have e1 := hX.cell 1
  generalize hx : fA l j = x at *
  generalize hy : fB l j = y at *
  have HXY := Lib.hid (And.intro hx hy)
  clear hx hy q0
  go_quiet (fail)
  go_wp2_with fail
  go_loopw [6] (fun i wr => ∃ k : Nat, 1 ≤ k ∧ k ≤ J ∧ i = .int .i64 k ∧ inK w w.heap.size (w.heap.size + 1) x wr) (fun i _ => l.length - (intOf i).toNat)
  case atStart => exact ⟨1, Nat.le_refl _, J1, rfl, hX.drewN _, hR.drewN _, below_drewN b0 _⟩
  case round =>
    obtain ⟨k, k1, k2, rfl, hX, hR, hb⟩ := hrel
    have hkl : k < l.length := by omega
    obtain ⟨ca1, ca2⟩ := HC.out (k - 1) (by omega)
    obtain ⟨cb1, cb2⟩ := HC.out k hkl
    obtain ⟨⟨ba1, ba2⟩, ba3, ba4⟩ := HB.out (k - 1) (by omega)
    obtain ⟨⟨bb1, bb2⟩, bb3, bb4⟩ := HB.out k hkl
    obtain ⟨lt1, lt2⟩ := HS.out (k - 1) k (by omega) hkl
    have hfar : k < J → fA l k < x := fun h => by
      rcases HJ.out with ⟨e1, e2⟩ | e
      · omega
      · rw [← HXY.out.1]; exact (HS.out k j (by omega) hj).1
    have hnear : J ≤ k → x ≤ fA l k ∧ fA l (k - 1) ≤ x := fun h => by
      rcases HJ.out with ⟨e1, e2⟩ | e
      · have : k - 1 = j := by omega
        rw [this]; have h2 := HXY.out.1; rw [this] at lt1; omega
      · have : k = j := by omega
        rw [this]; have h2 := HXY.out.1; rw [this] at lt1; omega
    have hnum : ∀ r s : Int, fA l k - fA l (k - 1) = r → fB l k - fB l (k - 1) = s → J ≤ k → fB l (k - 1) * r + (x - fA l (k - 1)) * s = y * r := fun r s hr hs h => by
      rcases HJ.out with ⟨e1, e2⟩ | e
      · have : k - 1 = j := by omega
        rw [this, HXY.out.1, HXY.out.2, Int.sub_self, Int.zero_mul, Int.add_zero]
      · have : k = j := by omega
        subst this
        rw [HXY.out.1] at hr
        rw [HXY.out.2] at hs
        rw [hr, Int.mul_comm r s, ← Int.add_mul]
        congr 1; omega
    have gA : ∀ p : Nat, wr.cell? ⟨b, p, none⟩ = w.cell? ⟨b, p, none⟩ := fun p => hb.cell (p := ⟨b, p, none⟩) hB
    rw [← gA] at ca1 ca2 cb1 cb2
    have hbw : b < wr.heap.size := by have := hb.size; omega
    have hRl := hR.lt
    generalize fA l (k - 1) = xa at *
    generalize fB l (k - 1) = ya at *
    generalize fA l k = xb at *
    generalize fB l k = yb at *
    have HF := Lib.hid hfar
    have HN := Lib.hid hnear
    have HM := Lib.hid hnum
    clear hfar hnear hnum gA e0 e1 q1
    have he1 : ∀ i : SW (Below wr.heap.size wr), (sw i).cell? ⟨b, o + (k - 1) * 2, none⟩ = some (.int .i64 xa) := fun i => ((sw_is i).cell (p := ⟨b, _, none⟩) hbw).trans ca1
    have he2 : ∀ i : SW (Below wr.heap.size wr), (sw i).cell? ⟨b, o + (k - 1) * 2 + 1, none⟩ = some (.int .i64 ya) := fun i => ((sw_is i).cell (p := ⟨b, _, none⟩) hbw).trans ca2
    have he3 : ∀ i : SW (Below wr.heap.size wr), (sw i).cell? ⟨b, o + k * 2, none⟩ = some (.int .i64 xb) := fun i => ((sw_is i).cell (p := ⟨b, _, none⟩) hbw).trans cb1
    have he4 : ∀ i : SW (Below wr.heap.size wr), (sw i).cell? ⟨b, o + k * 2 + 1, none⟩ = some (.int .i64 yb) := fun i => ((sw_is i).cell (p := ⟨b, _, none⟩) hbw).trans cb2
    clear ca1 ca2 cb1 cb2
    have s1 : IntKind.i64.wrap ((k : Int) - 1) = (k : Int) - 1 := IntWalk.i64_in _ (by omega)
    have s2 : ((k : Int) - 1).toNat = k - 1 := by omega
    have l1 : (1 : Int) ≤ (k : Int) ∧ (k : Int) < (l.length : Int) := by omega
    have l2 : (0 : Int) ≤ (k : Int) - 1 ∧ (k : Int) - 1 < (l.length : Int) := by omega
    go_wp2_with fail
    refine wp_region_tree (Below wr.heap.size wr) none (.two [0, 1, 2, 3, 4, 5, 6, 7, 8] 9 (.one [] 10 (.one [] 11 (.one [] 12 (.fin [])))) 10 (.one [] 9 (.one [] 11 (.one [] 12 (.fin []))))) (by kernel_rfl) (by kernel_rfl) (below_drewN (Below.refl _ _) 1) fun hne => ?_
    simp only [wpTree, wpEff, effOf, opsAt, optCons, List.getElem?_toArray, List.getElem?_cons_zero, List.getElem?_cons_succ]
    repeat (go_big_quiet_step (fail))
    refine wpQuiet_nil ?_
    refine ⟨?_, ?_⟩
    ·
      go_wp2
      have S1 := (below_drewN (Below.refl wr.heap.size wr) 1).alloc (Nat.le_refl _) (.cells #[.int .i64 0, .int .i64 0] 49)
      refine effQ_normal S1 ⟨Below wr.heap.size wr, fun _ h => h, by first | exact S1 | exact fun _ => S1, ?_⟩
      refine wpQuiet_nil ?_
      go_wp2
      have S2 := S1.alloc S1.size (.cells #[.int .i64 0, .int .i64 0] 49)
      refine effQ_normal S2 ⟨Below wr.heap.size wr, fun _ h => h, by first | exact S2 | exact fun _ => S2, ?_⟩
      refine wpQuiet_nil ?_
      have hP : Blk (((wr.drewN 1).alloc (.cells #[.int .i64 0, .int .i64 0] 49)).alloc (.cells #[.int .i64 0, .int .i64 0] 49)) wr.heap.size 49 #[.int .i64 0, .int .i64 0] := (Blk.new_ (wr.drewN 1) 49 #[.int .i64 0, .int .i64 0]).alloc (.cells #[.int .i64 0, .int .i64 0] 49)
      have hQ : Blk (((wr.drewN 1).alloc (.cells #[.int .i64 0, .int .i64 0] 49)).alloc (.cells #[.int .i64 0, .int .i64 0] 49)) (wr.heap.size + 1) 49 #[.int .i64 0, .int .i64 0] := by have h := Blk.new_ ((wr.drewN 1).alloc (.cells #[.int .i64 0, .int .i64 0] 49)) 49 #[.int .i64 0, .int .i64 0]; rw [World.size_alloc] at h; exact h
      have hX2 := ((hX.drewN 1).alloc (.cells #[.int .i64 0, .int .i64 0] 49)).alloc (.cells #[.int .i64 0, .int .i64 0] 49)
      have hR2 := ((hR.drewN 1).alloc (.cells #[.int .i64 0, .int .i64 0] 49)).alloc (.cells #[.int .i64 0, .int .i64 0] 49)
      clear S1
      generalize ((wr.drewN 1).alloc (.cells #[.int .i64 0, .int .i64 0] 49)).alloc (.cells #[.int .i64 0, .int .i64 0] 49) = wz at hP hQ hX2 hR2 S2 ⊢
      have c0 := hP.cell 0
      have f0 := hP.frozen 0
      have c1 : ∀ u, (wz.setCell ⟨wr.heap.size, 0, none⟩ u).cell? ⟨wr.heap.size, 1, none⟩ = some (.int .i64 0) := fun u => (hP.set 0 u).cell 1
      have f1 : ∀ u, (wz.setCell ⟨wr.heap.size, 0, none⟩ u).frozen? ⟨wr.heap.size, 1, none⟩ = false := fun u => (hP.set 0 u).frozen 1
      go_wp2
      have S3 : Below wr.heap.size wr ((wz.setCell ⟨wr.heap.size, 0, none⟩ (.int .i64 xa)).setCell ⟨wr.heap.size, 1, none⟩ (.int .i64 ya)) := (S2.setCell (p := ⟨wr.heap.size, 0, none⟩) (by show wr.heap.size ≤ wr.heap.size; omega) _).setCell (p := ⟨wr.heap.size, 1, none⟩) (by show wr.heap.size ≤ wr.heap.size; omega) _
      refine effQ_normal S3 ⟨Below wr.heap.size wr, fun _ h => h, by first | exact S3 | exact fun _ => S3, ?_⟩
      refine wpQuiet_nil ?_
      have hA : Blk ((wz.setCell ⟨wr.heap.size, 0, none⟩ (.int .i64 xa)).setCell ⟨wr.heap.size, 1, none⟩ (.int .i64 ya)) wr.heap.size 49 #[.int .i64 xa, .int .i64 ya] := (hP.set 0 (.int .i64 xa)).set 1 (.int .i64 ya)
      have hBk := (hQ.far (p := ⟨wr.heap.size, 0, none⟩) (by show (wr.heap.size + 1) ≠ wr.heap.size; omega) (.int .i64 xa)).far (p := ⟨wr.heap.size, 1, none⟩) (by show (wr.heap.size + 1) ≠ wr.heap.size; omega) (.int .i64 ya)
      have hX3 := (hX2.far (p := ⟨wr.heap.size, 0, none⟩) (by show w.heap.size ≠ wr.heap.size; omega) (.int .i64 xa)).far (p := ⟨wr.heap.size, 1, none⟩) (by show w.heap.size ≠ wr.heap.size; omega) (.int .i64 ya)
      have hR3 := (hR2.far (p := ⟨wr.heap.size, 0, none⟩) (by show (w.heap.size + 1) ≠ wr.heap.size; omega) (.int .i64 xa)).far (p := ⟨wr.heap.size, 1, none⟩) (by show (w.heap.size + 1) ≠ wr.heap.size; omega) (.int .i64 ya)
      clear c0 f0 c1 f1 hP hQ hX2 hR2 S2
      generalize ((wz.setCell ⟨wr.heap.size, 0, none⟩ (.int .i64 xa)).setCell ⟨wr.heap.size, 1, none⟩ (.int .i64 ya)) = wy at hA hBk hX3 hR3 S3 ⊢
      have c0 := hBk.cell 0
      have f0 := hBk.frozen 0
      have c1 : ∀ u, (wy.setCell ⟨(wr.heap.size + 1), 0, none⟩ u).cell? ⟨(wr.heap.size + 1), 1, none⟩ = some (.int .i64 0) := fun u => (hBk.set 0 u).cell 1
      have f1 : ∀ u, (wy.setCell ⟨(wr.heap.size + 1), 0, none⟩ u).frozen? ⟨(wr.heap.size + 1), 1, none⟩ = false := fun u => (hBk.set 0 u).frozen 1
      go_wp2
      have S4 : Below wr.heap.size wr ((wy.setCell ⟨(wr.heap.size + 1), 0, none⟩ (.int .i64 xb)).setCell ⟨(wr.heap.size + 1), 1, none⟩ (.int .i64 yb)) := (S3.setCell (p := ⟨(wr.heap.size + 1), 0, none⟩) (by show wr.heap.size ≤ (wr.heap.size + 1); omega) _).setCell (p := ⟨(wr.heap.size + 1), 1, none⟩) (by show wr.heap.size ≤ (wr.heap.size + 1); omega) _
      refine effQ_normal S4 ⟨Below wr.heap.size wr, fun _ h => h, by first | exact S4 | exact fun _ => S4, ?_⟩
      refine wpQuiet_nil ?_
      refine noPan_normal ?_
      have hB4 : Blk ((wy.setCell ⟨(wr.heap.size + 1), 0, none⟩ (.int .i64 xb)).setCell ⟨(wr.heap.size + 1), 1, none⟩ (.int .i64 yb)) (wr.heap.size + 1) 49 #[.int .i64 xb, .int .i64 yb] := (hBk.set 0 (.int .i64 xb)).set 1 (.int .i64 yb)
      have hA4 := (hA.far (p := ⟨(wr.heap.size + 1), 0, none⟩) (by show wr.heap.size ≠ (wr.heap.size + 1); omega) (.int .i64 xb)).far (p := ⟨(wr.heap.size + 1), 1, none⟩) (by show wr.heap.size ≠ (wr.heap.size + 1); omega) (.int .i64 yb)
      have hX4 := (hX3.far (p := ⟨(wr.heap.size + 1), 0, none⟩) (by show w.heap.size ≠ (wr.heap.size + 1); omega) (.int .i64 xb)).far (p := ⟨(wr.heap.size + 1), 1, none⟩) (by show w.heap.size ≠ (wr.heap.size + 1); omega) (.int .i64 yb)
      have hR4 := (hR3.far (p := ⟨(wr.heap.size + 1), 0, none⟩) (by show (w.heap.size + 1) ≠ (wr.heap.size + 1); omega) (.int .i64 xb)).far (p := ⟨(wr.heap.size + 1), 1, none⟩) (by show (w.heap.size + 1) ≠ (wr.heap.size + 1); omega) (.int .i64 yb)
      clear c0 f0 c1 f1 hA hBk hX3 hR3 S3
      generalize ((wy.setCell ⟨(wr.heap.size + 1), 0, none⟩ (.int .i64 xb)).setCell ⟨(wr.heap.size + 1), 1, none⟩ (.int .i64 yb)) = wx at hA4 hB4 hX4 hR4 S4 ⊢
      have b4 := hb.trans (S4.mono hb.size)
      have a0 := hA4.cell 0
      have a1 := hA4.cell 1
      have d0 := hB4.cell 0
      have d1 := hB4.cell 1
      have p0 := hX4.cell 0
      have p1 := hX4.cell 1
      by_cases hkJ : k < J
      · have hlt2 := HF.out hkJ
        have g2 : decide (xb < x) = true := decide_eq_true hlt2
        go_wp2
        exact ⟨⟨k + 1, by omega, hkJ, by go_num, hX4, hR4, b4⟩, by simp [intOf]; omega⟩
      · obtain ⟨hge, hge2⟩ := HN.out (by omega)
        have g2 : decide (xb < x) = false := decide_eq_false (by omega)
        have nn := HM.out (xb - xa) (yb - ya) rfl rfl (by omega)
        have NN := Lib.hid nn
        have r1 : 1 ≤ xb - xa ∧ xb - xa ≤ 30000 := by omega
        have r2 : 1 ≤ yb - ya ∧ yb - ya ≤ 30000 := by omega
        clear nn
        go_wp2_with fail
        go_quiet (fail)
        generalize xb - xa = r at NN r1 ⊢
        generalize yb - ya = s at NN r2 ⊢
        have nn := NN.out
        have m0 : 0 ≤ ya * r := Int.mul_nonneg (by omega) (by omega)
        have m1 : ya * r ≤ 900000000 := Int.le_trans (Int.mul_le_mul (show ya ≤ 30000 by omega) (show r ≤ 30000 by omega) (by omega) (by omega)) (by decide)
        have m2 : 0 ≤ (x - xa) * s := Int.mul_nonneg (by omega) (by omega)
        have m3 : (x - xa) * s ≤ 900000000 := Int.le_trans (Int.mul_le_mul (show x - xa ≤ 30000 by omega) (show s ≤ 30000 by omega) (by omega) (by omega)) (by decide)
        have v1 : IntKind.i64.wrap (ya * r) = ya * r := IntWalk.i64_in _ (by omega)
        have v2 : IntKind.i64.wrap ((x - xa) * s) = (x - xa) * s := IntWalk.i64_in _ (by omega)
        have v3 : IntKind.i64.wrap (ya * r + (x - xa) * s) = y * r := by rw [nn]; exact IntWalk.i64_in _ (by rw [← nn]; omega)
        clear nn
        go_wp2_with fail
        refine (fracOf_whole (y * r) y r _ rfl (by omega) (by omega) (by omega) (by omega)).mono ?_
        rintro e w5 ⟨rfl, b5⟩
        have hR5 := (hR4.drewN _).below b5 (hR4.drewN _).lt
        have b6 := (below_drewN b4 _).trans (b5.mono b4.size)
        clear a0 a1 d0 d1 p0 p1
        have d0 := hR5.cell 0
        have g0 := hR5.frozen 0
        have d1 : ∀ u, (w5.setCell ⟨w.heap.size + 1, 0, none⟩ u).cell? ⟨w.heap.size + 1, 1, none⟩ = some (.int .i64 0) := fun u => (hR5.set 0 u).cell 1
        have g3 : ∀ u, (w5.setCell ⟨w.heap.size + 1, 0, none⟩ u).frozen? ⟨w.heap.size + 1, 1, none⟩ = false := fun u => (hR5.set 0 u).frozen 1
        go_wp2
        have hR6 : Blk ((w5.setCell ⟨w.heap.size + 1, 0, none⟩ (.int .i64 y)).setCell ⟨w.heap.size + 1, 1, none⟩ (.int .i64 1)) (w.heap.size + 1) 32 #[.int .i64 y, .int .i64 1] := (hR5.set 0 (.int .i64 y)).set 1 (.int .i64 1)
        have h0 := hR6.cell 0
        have h1 := hR6.cell 1
        refine bodyPost_ret (v := .tuple #[.agg #[.int .i64 y, .int .i64 1], .bool true]) (by simp [results, Try.results21, go_sem, h0, h1]) rfl ⟨by rw [HXY.out.2], ?_⟩
        exact (b6.setCell (p := ⟨w.heap.size + 1, 0, none⟩) (by show w.heap.size ≤ w.heap.size + 1; omega) _).setCell (p := ⟨w.heap.size + 1, 1, none⟩) (by show w.heap.size ≤ w.heap.size + 1; omega) _
    ·
      go_wp2
      have S1 := (below_drewN (Below.refl wr.heap.size wr) 1).alloc (Nat.le_refl _) (.cells #[.int .i64 0, .int .i64 0] 49)
      refine effQ_normal S1 ⟨Below wr.heap.size wr, fun _ h => h, by first | exact S1 | exact fun _ => S1, ?_⟩
      refine wpQuiet_nil ?_
      go_wp2
      have S2 := S1.alloc S1.size (.cells #[.int .i64 0, .int .i64 0] 49)
      refine effQ_normal S2 ⟨Below wr.heap.size wr, fun _ h => h, by first | exact S2 | exact fun _ => S2, ?_⟩
      refine wpQuiet_nil ?_
      have hP : Blk (((wr.drewN 1).alloc (.cells #[.int .i64 0, .int .i64 0] 49)).alloc (.cells #[.int .i64 0, .int .i64 0] 49)) wr.heap.size 49 #[.int .i64 0, .int .i64 0] := (Blk.new_ (wr.drewN 1) 49 #[.int .i64 0, .int .i64 0]).alloc (.cells #[.int .i64 0, .int .i64 0] 49)
      have hQ : Blk (((wr.drewN 1).alloc (.cells #[.int .i64 0, .int .i64 0] 49)).alloc (.cells #[.int .i64 0, .int .i64 0] 49)) (wr.heap.size + 1) 49 #[.int .i64 0, .int .i64 0] := by have h := Blk.new_ ((wr.drewN 1).alloc (.cells #[.int .i64 0, .int .i64 0] 49)) 49 #[.int .i64 0, .int .i64 0]; rw [World.size_alloc] at h; exact h
      have hX2 := ((hX.drewN 1).alloc (.cells #[.int .i64 0, .int .i64 0] 49)).alloc (.cells #[.int .i64 0, .int .i64 0] 49)
      have hR2 := ((hR.drewN 1).alloc (.cells #[.int .i64 0, .int .i64 0] 49)).alloc (.cells #[.int .i64 0, .int .i64 0] 49)
      clear S1
      generalize ((wr.drewN 1).alloc (.cells #[.int .i64 0, .int .i64 0] 49)).alloc (.cells #[.int .i64 0, .int .i64 0] 49) = wz at hP hQ hX2 hR2 S2 ⊢
      have c0 := hQ.cell 0
      have f0 := hQ.frozen 0
      have c1 : ∀ u, (wz.setCell ⟨(wr.heap.size + 1), 0, none⟩ u).cell? ⟨(wr.heap.size + 1), 1, none⟩ = some (.int .i64 0) := fun u => (hQ.set 0 u).cell 1
      have f1 : ∀ u, (wz.setCell ⟨(wr.heap.size + 1), 0, none⟩ u).frozen? ⟨(wr.heap.size + 1), 1, none⟩ = false := fun u => (hQ.set 0 u).frozen 1
      go_wp2
      have S3 : Below wr.heap.size wr ((wz.setCell ⟨(wr.heap.size + 1), 0, none⟩ (.int .i64 xa)).setCell ⟨(wr.heap.size + 1), 1, none⟩ (.int .i64 ya)) := (S2.setCell (p := ⟨(wr.heap.size + 1), 0, none⟩) (by show wr.heap.size ≤ (wr.heap.size + 1); omega) _).setCell (p := ⟨(wr.heap.size + 1), 1, none⟩) (by show wr.heap.size ≤ (wr.heap.size + 1); omega) _
      refine effQ_normal S3 ⟨Below wr.heap.size wr, fun _ h => h, by first | exact S3 | exact fun _ => S3, ?_⟩
      refine wpQuiet_nil ?_
      have hA : Blk ((wz.setCell ⟨(wr.heap.size + 1), 0, none⟩ (.int .i64 xa)).setCell ⟨(wr.heap.size + 1), 1, none⟩ (.int .i64 ya)) (wr.heap.size + 1) 49 #[.int .i64 xa, .int .i64 ya] := (hQ.set 0 (.int .i64 xa)).set 1 (.int .i64 ya)
      have hBk := (hP.far (p := ⟨(wr.heap.size + 1), 0, none⟩) (by show wr.heap.size ≠ (wr.heap.size + 1); omega) (.int .i64 xa)).far (p := ⟨(wr.heap.size + 1), 1, none⟩) (by show wr.heap.size ≠ (wr.heap.size + 1); omega) (.int .i64 ya)
      have hX3 := (hX2.far (p := ⟨(wr.heap.size + 1), 0, none⟩) (by show w.heap.size ≠ (wr.heap.size + 1); omega) (.int .i64 xa)).far (p := ⟨(wr.heap.size + 1), 1, none⟩) (by show w.heap.size ≠ (wr.heap.size + 1); omega) (.int .i64 ya)
      have hR3 := (hR2.far (p := ⟨(wr.heap.size + 1), 0, none⟩) (by show (w.heap.size + 1) ≠ (wr.heap.size + 1); omega) (.int .i64 xa)).far (p := ⟨(wr.heap.size + 1), 1, none⟩) (by show (w.heap.size + 1) ≠ (wr.heap.size + 1); omega) (.int .i64 ya)
      clear c0 f0 c1 f1 hP hQ hX2 hR2 S2
      generalize ((wz.setCell ⟨(wr.heap.size + 1), 0, none⟩ (.int .i64 xa)).setCell ⟨(wr.heap.size + 1), 1, none⟩ (.int .i64 ya)) = wy at hA hBk hX3 hR3 S3 ⊢
      have c0 := hBk.cell 0
      have f0 := hBk.frozen 0
      have c1 : ∀ u, (wy.setCell ⟨wr.heap.size, 0, none⟩ u).cell? ⟨wr.heap.size, 1, none⟩ = some (.int .i64 0) := fun u => (hBk.set 0 u).cell 1
      have f1 : ∀ u, (wy.setCell ⟨wr.heap.size, 0, none⟩ u).frozen? ⟨wr.heap.size, 1, none⟩ = false := fun u => (hBk.set 0 u).frozen 1
      go_wp2
      have S4 : Below wr.heap.size wr ((wy.setCell ⟨wr.heap.size, 0, none⟩ (.int .i64 xb)).setCell ⟨wr.heap.size, 1, none⟩ (.int .i64 yb)) := (S3.setCell (p := ⟨wr.heap.size, 0, none⟩) (by show wr.heap.size ≤ wr.heap.size; omega) _).setCell (p := ⟨wr.heap.size, 1, none⟩) (by show wr.heap.size ≤ wr.heap.size; omega) _
      refine effQ_normal S4 ⟨Below wr.heap.size wr, fun _ h => h, by first | exact S4 | exact fun _ => S4, ?_⟩
      refine wpQuiet_nil ?_
      refine noPan_normal ?_
      have hB4 : Blk ((wy.setCell ⟨wr.heap.size, 0, none⟩ (.int .i64 xb)).setCell ⟨wr.heap.size, 1, none⟩ (.int .i64 yb)) wr.heap.size 49 #[.int .i64 xb, .int .i64 yb] := (hBk.set 0 (.int .i64 xb)).set 1 (.int .i64 yb)
      have hA4 := (hA.far (p := ⟨wr.heap.size, 0, none⟩) (by show (wr.heap.size + 1) ≠ wr.heap.size; omega) (.int .i64 xb)).far (p := ⟨wr.heap.size, 1, none⟩) (by show (wr.heap.size + 1) ≠ wr.heap.size; omega) (.int .i64 yb)
      have hX4 := (hX3.far (p := ⟨wr.heap.size, 0, none⟩) (by show w.heap.size ≠ wr.heap.size; omega) (.int .i64 xb)).far (p := ⟨wr.heap.size, 1, none⟩) (by show w.heap.size ≠ wr.heap.size; omega) (.int .i64 yb)
      have hR4 := (hR3.far (p := ⟨wr.heap.size, 0, none⟩) (by show (w.heap.size + 1) ≠ wr.heap.size; omega) (.int .i64 xb)).far (p := ⟨wr.heap.size, 1, none⟩) (by show (w.heap.size + 1) ≠ wr.heap.size; omega) (.int .i64 yb)
      clear c0 f0 c1 f1 hA hBk hX3 hR3 S3
      generalize ((wy.setCell ⟨wr.heap.size, 0, none⟩ (.int .i64 xb)).setCell ⟨wr.heap.size, 1, none⟩ (.int .i64 yb)) = wx at hA4 hB4 hX4 hR4 S4 ⊢
      have b4 := hb.trans (S4.mono hb.size)
      have a0 := hA4.cell 0
      have a1 := hA4.cell 1
      have d0 := hB4.cell 0
      have d1 := hB4.cell 1
      have p0 := hX4.cell 0
      have p1 := hX4.cell 1
      by_cases hkJ : k < J
      · have hlt2 := HF.out hkJ
        have g2 : decide (xb < x) = true := decide_eq_true hlt2
        go_wp2
        exact ⟨⟨k + 1, by omega, hkJ, by go_num, hX4, hR4, b4⟩, by simp [intOf]; omega⟩
      · obtain ⟨hge, hge2⟩ := HN.out (by omega)
        have g2 : decide (xb < x) = false := decide_eq_false (by omega)
        have nn := HM.out (xb - xa) (yb - ya) rfl rfl (by omega)
        have NN := Lib.hid nn
        have r1 : 1 ≤ xb - xa ∧ xb - xa ≤ 30000 := by omega
        have r2 : 1 ≤ yb - ya ∧ yb - ya ≤ 30000 := by omega
        clear nn
        go_wp2_with fail
        go_quiet (fail)
        generalize xb - xa = r at NN r1 ⊢
        generalize yb - ya = s at NN r2 ⊢
        have nn := NN.out
        have m0 : 0 ≤ ya * r := Int.mul_nonneg (by omega) (by omega)
        have m1 : ya * r ≤ 900000000 := Int.le_trans (Int.mul_le_mul (show ya ≤ 30000 by omega) (show r ≤ 30000 by omega) (by omega) (by omega)) (by decide)
        have m2 : 0 ≤ (x - xa) * s := Int.mul_nonneg (by omega) (by omega)
        have m3 : (x - xa) * s ≤ 900000000 := Int.le_trans (Int.mul_le_mul (show x - xa ≤ 30000 by omega) (show s ≤ 30000 by omega) (by omega) (by omega)) (by decide)
        have v1 : IntKind.i64.wrap (ya * r) = ya * r := IntWalk.i64_in _ (by omega)
        have v2 : IntKind.i64.wrap ((x - xa) * s) = (x - xa) * s := IntWalk.i64_in _ (by omega)
        have v3 : IntKind.i64.wrap (ya * r + (x - xa) * s) = y * r := by rw [nn]; exact IntWalk.i64_in _ (by rw [← nn]; omega)
        clear nn
        go_wp2_with fail
        refine (fracOf_whole (y * r) y r _ rfl (by omega) (by omega) (by omega) (by omega)).mono ?_
        rintro e w5 ⟨rfl, b5⟩
        have hR5 := (hR4.drewN _).below b5 (hR4.drewN _).lt
        have b6 := (below_drewN b4 _).trans (b5.mono b4.size)
        clear a0 a1 d0 d1 p0 p1
        have d0 := hR5.cell 0
        have g0 := hR5.frozen 0
        have d1 : ∀ u, (w5.setCell ⟨w.heap.size + 1, 0, none⟩ u).cell? ⟨w.heap.size + 1, 1, none⟩ = some (.int .i64 0) := fun u => (hR5.set 0 u).cell 1
        have g3 : ∀ u, (w5.setCell ⟨w.heap.size + 1, 0, none⟩ u).frozen? ⟨w.heap.size + 1, 1, none⟩ = false := fun u => (hR5.set 0 u).frozen 1
        go_wp2
        have hR6 : Blk ((w5.setCell ⟨w.heap.size + 1, 0, none⟩ (.int .i64 y)).setCell ⟨w.heap.size + 1, 1, none⟩ (.int .i64 1)) (w.heap.size + 1) 32 #[.int .i64 y, .int .i64 1] := (hR5.set 0 (.int .i64 y)).set 1 (.int .i64 1)
        have h0 := hR6.cell 0
        have h1 := hR6.cell 1
        refine bodyPost_ret (v := .tuple #[.agg #[.int .i64 y, .int .i64 1], .bool true]) (by simp [results, Try.results21, go_sem, h0, h1]) rfl ⟨by rw [HXY.out.2], ?_⟩
        exact (b6.setCell (p := ⟨w.heap.size + 1, 0, none⟩) (by show w.heap.size ≤ w.heap.size + 1; omega) _).setCell (p := ⟨w.heap.size + 1, 1, none⟩) (by show w.heap.size ≤ w.heap.size + 1; omega) _

set_option maxHeartbeats 2000000 in
theorem curveAtX_knot (A : Option Addr) (c : Nat) (l : List (Int × Int)) (j : Nat) (w : World) (hr : Rd w w.heap.size A l) (hv : curOk l = true) (hj : j < l.length) :
    Calls Try.prog 9 #[.slice A l.length c, .int .i64 (fA l j)] w fun e w' => e = .returned (.tuple #[.agg #[.int .i64 (fB l j), .int .i64 1], .bool true]) ∧ Below w.heap.size w w' := by
  have hn : l.length ≤ 1048576 := by have := (cur_parts hv).2.1; omega
  have HV := Lib.hid hv
  clear hv
  have hR0 := Blk.new_ w 32 #[.int .i64 0, .int .i64 0]
  have b0 : Below w.heap.size w (w.alloc (.cells #[.int .i64 0, .int .i64 0] 32)) := (Below.refl _ _).alloc (Nat.le_refl _) _
  have r0 := hr.to b0
  go_enter Try.func9, Try.ntmps9
  go_wp2_with fail
  refine (curveValid_any A c l _ r0 hn).mono ?_
  rintro e w1 ⟨rfl, b1⟩
  have hR1 := hR0.below b1 hR0.lt
  have b2 := b0.trans (b1.mono b0.size)
  have r1 := r0.to b1
  rw [HV.out]
  clear hR0 b0 b1 r0
  go_wp2_with fail
  refine (curveAt_knot A c l j _ r1 HV.out hj).mono ?_
  rintro e w5 ⟨rfl, b5⟩
  have hR5 := hR1.below b5 hR1.lt
  have b6 := b2.trans (b5.mono b2.size)
  clear hR1 b2 b5 r1
  generalize hy : fB l j = y
  have HY := Lib.hid hy
  clear hy
  have d0 := hR5.cell 0
  have g0 := hR5.frozen 0
  have d1 : ∀ u, (w5.setCell ⟨w.heap.size, 0, none⟩ u).cell? ⟨w.heap.size, 1, none⟩ = some (.int .i64 0) := fun u => (hR5.set 0 u).cell 1
  have g3 : ∀ u, (w5.setCell ⟨w.heap.size, 0, none⟩ u).frozen? ⟨w.heap.size, 1, none⟩ = false := fun u => (hR5.set 0 u).frozen 1
  go_wp2
  have hR6 : Blk ((w5.setCell ⟨w.heap.size, 0, none⟩ (.int .i64 y)).setCell ⟨w.heap.size, 1, none⟩ (.int .i64 1)) w.heap.size 32 #[.int .i64 y, .int .i64 1] := (hR5.set 0 (.int .i64 y)).set 1 (.int .i64 1)
  have h0 := hR6.cell 0
  have h1 := hR6.cell 1
  refine bodyPost_ret (v := .tuple #[.agg #[.int .i64 y, .int .i64 1], .bool true]) (by simp [results, Try.results9, go_sem, h0, h1]) rfl ⟨by rw [HY.out], ?_⟩
  exact (b6.setCell (p := ⟨w.heap.size, 0, none⟩) (Nat.le_refl _) _).setCell (p := ⟨w.heap.size, 1, none⟩) (Nat.le_refl _) _

set_option maxHeartbeats 2000000 in
theorem curveThen_knot (A B : Option Addr) (c d : Nat) (l m : List (Int × Int)) (j i : Nat) (w : World) (hr : Rd w w.heap.size A l) (hs : Rd w w.heap.size B m) (hv : curOk l = true) (hu : curOk m = true) (hj : j < l.length) (hi : i < m.length) (he : fB l j = fA m i) :
    Calls Try.prog 15 #[.slice A l.length c, .slice B m.length d, .int .i64 (fA l j)] w fun e w' => e = .returned (.tuple #[.agg #[.int .i64 (fB m i), .int .i64 1], .bool true]) ∧ Below w.heap.size w w' := by
  have hm : m.length ≤ 1048576 := by have := (cur_parts hu).2.1; omega
  have HU := Lib.hid hu
  have HE := Lib.hid he
  have hR0 := Blk.new_ w 32 #[.int .i64 0, .int .i64 0]
  have b0 : Below w.heap.size w (w.alloc (.cells #[.int .i64 0, .int .i64 0] 32)) := (Below.refl _ _).alloc (Nat.le_refl _) _
  have C1 := fun (w1 : World) (r : Rd w1 w1.heap.size A l) => curveAtX_knot A c l j w1 r hv hj
  rw [he] at C1
  have r0 := hr.to b0
  have q0 := hs.to b0
  clear hu he hv
  go_enter Try.func15, Try.ntmps15
  go_wp2_with fail
  refine (C1 _ r0).mono ?_
  rintro e w1 ⟨rfl, b1⟩
  have hR1 := hR0.below b1 hR0.lt
  have b2 := b0.trans (b1.mono b0.size)
  have q1 := q0.to b1
  clear hR0 b0 b1 r0 q0 C1
  generalize hx : fA m i = x
  have HX := Lib.hid hx
  have hY := Blk.new_ w1 32 #[.int .i64 x, .int .i64 1]
  have hR2 := hR1.alloc (.cells #[.int .i64 x, .int .i64 1] 32)
  clear hx
  have b3 := b2.alloc b2.size (.cells #[.int .i64 x, .int .i64 1] 32)
  have q2 := q1.to ((Below.refl w1.heap.size w1).alloc (Nat.le_refl _) (.cells #[.int .i64 x, .int .i64 1] 32))
  have hgx : w.heap.size < w1.heap.size := hR1.lt
  clear hR1 b2 q1
  go_wp2_with fail
  refine (curveValid_any B d m _ q2 hm).mono ?_
  rintro e w2 ⟨rfl, b4⟩
  have hR3 := hR2.below b4 hR2.lt
  have hY3 := hY.below b4 hY.lt
  have b5 := b3.trans (b4.mono b3.size)
  have q3 := q2.to b4
  rw [HU.out]
  clear hR2 hY b3 b4 q2
  have e0 := hY3.cell 0
  have e1 := hY3.cell 1
  have C2 := curveAt_knot B d m i w2 q3 HU.out hi
  rw [HX.out] at C2
  generalize hy : fB m i = y at C2
  have HY := Lib.hid hy
  have CH := Lib.hid C2
  clear C2 hy q3
  go_wp2_with fail
  refine CH.out.mono ?_
  rintro e w5 ⟨rfl, b6⟩
  have hR5 := hR3.below b6 hR3.lt
  have b7 := b5.trans (b6.mono b5.size)
  clear hR3 b5 b6 e0 e1 hY3 CH
  have d0 := hR5.cell 0
  have g0 := hR5.frozen 0
  have d1 : ∀ u, (w5.setCell ⟨w.heap.size, 0, none⟩ u).cell? ⟨w.heap.size, 1, none⟩ = some (.int .i64 0) := fun u => (hR5.set 0 u).cell 1
  have g3 : ∀ u, (w5.setCell ⟨w.heap.size, 0, none⟩ u).frozen? ⟨w.heap.size, 1, none⟩ = false := fun u => (hR5.set 0 u).frozen 1
  go_wp2
  have hR6 : Blk ((w5.setCell ⟨w.heap.size, 0, none⟩ (.int .i64 y)).setCell ⟨w.heap.size, 1, none⟩ (.int .i64 1)) w.heap.size 32 #[.int .i64 y, .int .i64 1] := (hR5.set 0 (.int .i64 y)).set 1 (.int .i64 1)
  have h0 := hR6.cell 0
  have h1 := hR6.cell 1
  refine bodyPost_ret (v := .tuple #[.agg #[.int .i64 y, .int .i64 1], .bool true]) (by simp [results, Try.results15, go_sem, h0, h1]) rfl ⟨by rw [HY.out], ?_⟩
  exact (b7.setCell (p := ⟨w.heap.size, 0, none⟩) (Nat.le_refl _) _).setCell (p := ⟨w.heap.size, 1, none⟩) (Nat.le_refl _) _
end Go.Proofs.Ytpaeajfjjklpnaa
