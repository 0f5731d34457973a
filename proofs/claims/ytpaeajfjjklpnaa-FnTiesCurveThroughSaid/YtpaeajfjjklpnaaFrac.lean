/- Contracts of fractions at whole numbers. No condition but the ranges. -/
import Derived.Test.YtpaeajfjjklpnaaTree
import Derived.Test.YtpaeajfjjklpnaaObj
import Derived.Test.YtpaeajfjjklpnaaProg
import Derived.Laws.StructEq
namespace Go.Proofs.Ytpaeajfjjklpnaa
open Go.RowKit

theorem guardFrac : Try.prog.eqGuardType Try.prog.depth 32 = false := by kernel_rfl
theorem grdFrac (op : BinOp) (xo yo : Operand) (u v : Array Value) (w : World) : (eqGuard op 32 xo yo (.agg u) (.agg v)).run Try.prog w = .ok () w := by
  cases op <;> first | (simp [eqGuard]; done) | (simp [eqGuard, guardFrac]; done)

def gcdAt (a r : Int) (w : World) (x y : Value) (wr : World) : Prop := ((x = .int .i64 a ∧ y = .int .i64 r) ∨ (x = .int .i64 r ∧ y = .int .i64 0)) ∧ Below w.heap.size w wr
set_option maxHeartbeats 1000000 in
theorem gcd_whole (a r : Int) (w : World) (hr0 : 1 ≤ r) (hr : r ≤ 1000000000) (ha0 : 0 ≤ a) (hd : a % r = 0) :
    Calls Try.prog 28 #[.int .i64 a, .int .i64 r] w fun e w' => e = .returned (.int .i64 r) ∧ Below w.heap.size w w' := by
  have z1 : (r != 0) = true := by simp; omega
  have z2 : (r == 0) = false := by simp; omega
  have z3 : IntKind.i64.wrap (-r) = -r := IntWalk.i64_in _ (by omega)
  have z5 : a.tmod r = 0 := by rw [Int.tmod_eq_emod_of_nonneg ha0]; exact hd
  have z6 : decide (r < -r) = false := decide_eq_false (by omega)
  go_enter Try.func28, Try.ntmps28
  go_wp2_with fail
  go_loopw [0, 1] (fun x y wr => gcdAt a r w x y wr) (fun _ y _ => (intOf y).toNat)
  case atStart => exact ⟨.inl ⟨rfl, rfl⟩, Below.refl _ _⟩
  case round =>
    obtain ⟨hrel, hb⟩ := hrel
    rcases hrel with ⟨rfl, rfl⟩ | ⟨rfl, rfl⟩
    · go_wp2_with fail
      go_quiet (fail)
      go_wp2
      exact ⟨⟨.inr ⟨rfl, rfl⟩, below_drewN hb _⟩, by simp [intOf]; omega⟩
    · go_wp2
      go_ret
      exact ⟨rfl, hb⟩
set_option maxHeartbeats 1000000 in
theorem fracValid_whole (q : Int) (w : World) (hq0 : 0 ≤ q) (hq : q ≤ 30000) :
    Calls Try.prog 29 #[.agg #[.int .i64 q, .int .i64 1]] w fun e w' => e = .returned (.bool true) ∧ Below w.heap.size w w' := by
  have b0 : Below w.heap.size w (w.alloc (.cells #[.int .i64 q, .int .i64 1] 32)) := (Below.refl _ _).alloc (Nat.le_refl _) _
  go_enter Try.func29, Try.ntmps29
  go_wp2_with fail
  refine (gcd_whole q 1 _ (by omega) (by omega) hq0 (by omega)).mono ?_
  rintro e w1 ⟨rfl, b1⟩
  have b2 := b0.trans (b1.mono b0.size)
  go_wp2
  go_ret
  exact ⟨rfl, b2⟩
set_option maxHeartbeats 1000000 in
theorem fracOf_whole (n q r : Int) (w : World) (hn : n = q * r) (hr0 : 1 ≤ r) (hr : r ≤ 30000) (hq0 : 0 ≤ q) (hq : q ≤ 30000) :
    Calls Try.prog 26 #[.int .i64 n, .int .i64 r] w fun e w' => e = .returned (.tuple #[.agg #[.int .i64 q, .int .i64 1], .bool true]) ∧ Below w.heap.size w w' := by
  have n0 : 0 ≤ n := by rw [hn]; exact Int.mul_nonneg hq0 (by omega)
  have n1 : n ≤ 900000000 := by rw [hn]; exact Int.le_trans (Int.mul_le_mul hq hr (by omega) (by omega)) (by decide)
  have nm : n % r = 0 := by rw [hn]; exact Int.mul_emod_left q r
  have nq : n / r = q := by rw [hn]; exact Int.mul_ediv_cancel q (by omega)
  have rq : r / r = 1 := Int.ediv_self (by omega)
  have d1 : n.tdiv r = q := by rw [Int.tdiv_eq_ediv_of_nonneg n0]; exact nq
  have d2 : r.tdiv r = 1 := by rw [Int.tdiv_eq_ediv_of_nonneg (by omega)]; exact rq
  have s1 : IntKind.i64.wrap q = q := IntWalk.i64_in _ (by omega)
  have s2 : IntKind.i64.wrap 1 = 1 := rfl
  have z2 : (r == 0) = false := by simp; omega
  have G := Lib.hid (fun w' => gcd_whole n r w' hr0 (by omega) n0 nm)
  have b0 : Below w.heap.size w (w.alloc (.cells #[.int .i64 0, .int .i64 0] 32)) := (Below.refl _ _).alloc (Nat.le_refl _) _
  have hB0 := Blk.new_ w 32 #[.int .i64 0, .int .i64 0]
  have l1 : decide (n < -4000000000000000000) = false := decide_eq_false (by omega)
  have l2 : decide (4000000000000000000 < n) = false := decide_eq_false (by omega)
  have l3 : decide (r < -4000000000000000000) = false := decide_eq_false (by omega)
  have l4 : decide (4000000000000000000 < r) = false := decide_eq_false (by omega)
  have l5 : decide (r < 0) = false := decide_eq_false (by omega)
  clear hn nm nq rq
  go_enter Try.func26, Try.ntmps26
  go_wp2_with fail
  refine (G.out _).mono ?_
  rintro e w1 ⟨rfl, b1⟩
  have b2 := b0.trans (b1.mono b0.size)
  have hB1 := hB0.below b1 hB0.lt
  clear b0 b1 hB0
  go_wp2_with fail
  refine wp_region_plan (fun _ => True) [([0, 1, 2, 3, 4, 5, 6], 7), ([], 8)] [] (by kernel_rfl) (by kernel_rfl) trivial fun hne => ?_
  simp only [wpPlan, wpEff, effOf, opsAt, optCons, List.getElem?_toArray, List.getElem?_cons_zero, List.getElem?_cons_succ]
  repeat (go_big_quiet_step (fail))
  refine wpQuiet_nil ?_
  go_wp2
  refine effQ_normal trivial ?_
  refine wpQuiet_nil ?_
  have hB := Blk.new_ (w1.drewN 1) 32 #[.int .i64 0, .int .i64 0]
  have b3 := (below_drewN b2 1).alloc b2.size (.cells #[.int .i64 0, .int .i64 0] 32)
  have hR := (hB1.drewN 1).alloc (.cells #[.int .i64 0, .int .i64 0] 32)
  have hg : w.heap.size < w1.heap.size := hB1.lt
  have hgz : (w1.drewN 1).heap.size = w1.heap.size := rfl
  rw [hgz] at hB
  clear hgz hB1
  generalize (w1.drewN 1).alloc (.cells #[.int .i64 0, .int .i64 0] 32) = wz at hB b3 hR ⊢
  generalize w1.heap.size = g at hB hg ⊢
  have c0 := hB.cell 0
  have f0 := hB.frozen 0
  have c1 : ∀ u, (wz.setCell ⟨g, 0, none⟩ u).cell? ⟨g, 1, none⟩ = some (.int .i64 0) := fun u => (hB.set 0 u).cell 1
  have f1 : ∀ u, (wz.setCell ⟨g, 0, none⟩ u).frozen? ⟨g, 1, none⟩ = false := fun u => (hB.set 0 u).frozen 1
  go_wp2
  refine effQ_normal trivial ?_
  refine wpQuiet_nil ?_
  refine noPan_normal ?_
  have hB4 : Blk ((wz.setCell ⟨g, 0, none⟩ (.int .i64 q)).setCell ⟨g, 1, none⟩ (.int .i64 1)) g 32 #[.int .i64 q, .int .i64 1] := (hB.set 0 (.int .i64 q)).set 1 (.int .i64 1)
  have hR4 : Blk ((wz.setCell ⟨g, 0, none⟩ (.int .i64 q)).setCell ⟨g, 1, none⟩ (.int .i64 1)) w.heap.size 32 #[.int .i64 0, .int .i64 0] := (hR.far (p := ⟨g, 0, none⟩) (by show w.heap.size ≠ g; omega) (.int .i64 q)).far (p := ⟨g, 1, none⟩) (by show w.heap.size ≠ g; omega) (.int .i64 1)
  have b4 := (b3.setCell (p := ⟨g, 0, none⟩) (by show w.heap.size ≤ g; omega) (.int .i64 q)).setCell (p := ⟨g, 1, none⟩) (by show w.heap.size ≤ g; omega) (.int .i64 1)
  clear c0 f0 c1 f1 hB hR b3 b2
  generalize (wz.setCell ⟨g, 0, none⟩ (.int .i64 q)).setCell ⟨g, 1, none⟩ (.int .i64 1) = wy at hB4 hR4 b4 ⊢
  have c0 := hB4.cell 0
  have c1 := hB4.cell 1
  go_wp2_with fail
  refine (fracValid_whole q _ hq0 hq).mono ?_
  rintro e w2 ⟨rfl, b5⟩
  have hB5 := hB4.below b5 hB4.lt
  have hR5 := hR4.below b5 hR4.lt
  have b6 := b4.trans (b5.mono b4.size)
  clear c0 c1 hB4 hR4 b4 b5
  have c0 := hB5.cell 0
  have c1 := hB5.cell 1
  have d0 := hR5.cell 0
  have g0 := hR5.frozen 0
  have d1' : ∀ u, (w2.setCell ⟨w.heap.size, 0, none⟩ u).cell? ⟨w.heap.size, 1, none⟩ = some (.int .i64 0) := fun u => (hR5.set 0 u).cell 1
  have g1 : ∀ u, (w2.setCell ⟨w.heap.size, 0, none⟩ u).frozen? ⟨w.heap.size, 1, none⟩ = false := fun u => (hR5.set 0 u).frozen 1
  go_wp2
  have hR6 : Blk ((w2.setCell ⟨w.heap.size, 0, none⟩ (.int .i64 q)).setCell ⟨w.heap.size, 1, none⟩ (.int .i64 1)) w.heap.size 32 #[.int .i64 q, .int .i64 1] := (hR5.set 0 (.int .i64 q)).set 1 (.int .i64 1)
  have e0 := hR6.cell 0
  have e1 := hR6.cell 1
  refine bodyPost_ret (v := .tuple #[.agg #[.int .i64 q, .int .i64 1], .bool true]) (by simp [results, Try.results26, go_sem, e0, e1]) rfl ⟨rfl, ?_⟩
  exact (b6.setCell (p := ⟨w.heap.size, 0, none⟩) (Nat.le_refl _) _).setCell (p := ⟨w.heap.size, 1, none⟩) (Nat.le_refl _) _
end Go.Proofs.Ytpaeajfjjklpnaa
