/- The statement FnExactMatchManySaid: for all arguments the Go function laws.FnExactMatchMany returns true and leaves its arguments as they were. No condition. -/
import Derived.Test.YtgfahnmkfgfibaaMany
import Derived.Test.YtgfahnmkfgfibaaPairEvent
import Derived.Test.YtgfahnmkfgfibaaInts
import Derived.Test.YtgfahnmkfgfibaaObj
import Derived.Test.YtgfahnmkfgfibaaFrame
namespace Go.Proofs.Ytgfahnmkfgfibaa
open Go.ChangeShapes Go.WideShapes Go.ChangeAt Go.RowKit

set_option maxHeartbeats 4000000 in
theorem walkFnExactMatchMany (A0 : Option Addr) (c0 : Nat) (l0 : List (Int × Int)) (A1 : Option Addr) (c1 : Nat) (l1 : List (Int × Int)) (n2 : Int) (A3 : Option Addr) (c3 : Nat) (l3 : List Int) (w : World) (r0 : Rd w w.heap.size A0 l0) (k0 : l0.length ≤ c0) (m0 : c0 ≤ 9223372036854775807) (r1 : Rd w w.heap.size A1 l1) (k1 : l1.length ≤ c1) (m1 : c1 ≤ 9223372036854775807)  (r3 : RdI w w.heap.size .i64 A3 l3) (k3 : l3.length ≤ c3) (m3 : c3 ≤ 9223372036854775807) :
    Calls Try.prog 4 #[.slice A0 l0.length c0, .slice A1 l1.length c1, .int .i64 n2, .slice A3 l3.length c3] w fun e w' => e = .returned (.bool true) ∧ Below w.heap.size w w' := by
  have hm0 := Nat.le_trans k0 m0
  have hm1 := Nat.le_trans k1 m1
  have hm3 := Nat.le_trans k3 m3
  by_cases z3 : 1048576 < l3.length
  · clear r0 r1 r3
    go_enter Try.func4, Try.ntmps4
    go_wp2
    go_ret
    exact ⟨rfl, Below.refl _ _⟩
  by_cases z0 : (1048576 : Int) < (l0.length : Int)
  · clear r0 r1 r3
    go_enter Try.func4, Try.ntmps4
    go_wp2_with fail
    refine (szEventS_any _ c0 l0.length _ _ (by omega) (by omega) (by omega)).mono ?_
    rintro e us0 ⟨rfl, rfl⟩
    rw [if_pos (by omega)]
    go_wp2
    go_ret
    exact ⟨rfl, Below.refl _ _⟩
  by_cases z1 : (1048576 : Int) - (l0.length : Int) < (l1.length : Int)
  · clear r0 r1 r3
    go_enter Try.func4, Try.ntmps4
    go_wp2_with fail
    refine (szEventS_any _ c0 l0.length _ _ (by omega) (by omega) (by omega)).mono ?_
    rintro e us0 ⟨rfl, rfl⟩
    rw [if_neg (by omega)]
    go_wp2_with fail
    refine (szEventS_any _ c1 l1.length _ _ (by omega) (by omega) (by omega)).mono ?_
    rintro e us1 ⟨rfl, rfl⟩
    rw [if_pos (by omega)]
    go_wp2
    go_ret
    exact ⟨rfl, Below.refl _ _⟩
  go_enter Try.func4, Try.ntmps4
  go_wp2_with fail
  refine (szEventS_any _ c0 l0.length _ _ (by omega) (by omega) (by omega)).mono ?_
  rintro e us0 ⟨rfl, rfl⟩
  rw [if_neg (by omega)]
  go_wp2_with fail
  refine (szEventS_any _ c1 l1.length _ _ (by omega) (by omega) (by omega)).mono ?_
  rintro e us1 ⟨rfl, rfl⟩
  rw [if_neg (by omega)]
  have t0 : Below w.heap.size w w := Below.refl _ _
  go_wp2_with fail
  refine (toEventS_any A0 c0 l0 _ (r0.to t0) (by omega)).mono ?_
  rintro e u1 ⟨Ap0, cp0, rfl, op0, b1⟩
  have s1 := b1.size
  have t1 := t0.trans (b1.mono t0.size)
  go_wp2_with fail
  refine (toEventS_any A1 c1 l1 _ (r1.to t1) (by omega)).mono ?_
  rintro e u2 ⟨Ap1, cp1, rfl, op1, b2⟩
  have s2 := b2.size
  have t2 := t1.trans (b2.mono t1.size)
  have op0 := own_keep op0 b2
  go_wp2_with fail
  refine (toIntS_any A3 c3 l3 _ (r3.to t2) (by omega)).mono ?_
  rintro e u3 ⟨Ap3, cp3, rfl, op3, b3⟩
  have s3 := b3.size
  have t3 := t2.trans (b3.mono t2.size)
  have op0 := own_keep op0 b3
  have op1 := own_keep op1 b3
  go_wp2_with fail
  refine (specMatchMany_any Ap0 Ap1 Ap3 cp0 cp1 cp3 l0 l1 n2 l3 _ (Rd.of_own op0) (Rd.of_own op1) (RdI.of_own op3) (by omega) (by omega)).mono ?_
  rintro e u4 ⟨rfl, b4⟩
  have s4 := b4.size
  have t4 := t3.trans (b4.mono t3.size)
  have op0 := own_keep op0 b4
  have op1 := own_keep op1 b4
  have op3 := own_keep op3 b4
  go_wp2_with fail
  refine (toEventS_any A0 c0 l0 _ (r0.to t4) (by omega)).mono ?_
  rintro e u5 ⟨Ax0, cx0, rfl, ox0, b5⟩
  have s5 := b5.size
  have t5 := t4.trans (b5.mono t4.size)
  go_wp2_with fail
  refine (toEventS_any A1 c1 l1 _ (r1.to t5) (by omega)).mono ?_
  rintro e u6 ⟨Ax1, cx1, rfl, ox1, b6⟩
  have s6 := b6.size
  have t6 := t5.trans (b6.mono t5.size)
  have ox0 := own_keep ox0 b6
  go_wp2_with fail
  refine (toIntS_any A3 c3 l3 _ (r3.to t6) (by omega)).mono ?_
  rintro e u7 ⟨Ax3, cx3, rfl, ox3, b7⟩
  have s7 := b7.size
  have t7 := t6.trans (b7.mono t6.size)
  have ox0 := own_keep ox0 b7
  have ox1 := own_keep ox1 b7
  go_wp2_with fail
  refine (matchMany_any Ax0 Ax1 Ax3 cx0 cx1 cx3 l0 l1 n2 l3 _ (Rd.of_own ox0) (Rd.of_own ox1) (RdI.of_own ox3) (by omega) (by omega)).mono ?_
  rintro e u8 ⟨rfl, b8⟩
  have s8 := b8.size
  have t8 := t7.trans (b8.mono t7.size)
  have ox0 := own_keep ox0 b8
  have ox1 := own_keep ox1 b8
  have ox3 := own_keep ox3 b8
  go_wp2_with fail
  refine (toEventS_any A0 c0 l0 _ (r0.to t8) (by omega)).mono ?_
  rintro e u9 ⟨Aq0, cq0, rfl, oq0, b9⟩
  have s9 := b9.size
  have t9 := t8.trans (b9.mono t8.size)
  have ox0 := own_keep ox0 b9
  have ox1 := own_keep ox1 b9
  have ox3 := own_keep ox3 b9
  go_wp2_with fail
  refine (eqEventS_any Ax0 Aq0 cx0 cq0 _ _ _ (Rd.of_own ox0) (Rd.of_own oq0) (by omega)).mono ?_
  rintro e u10 ⟨rfl, b10⟩
  have s10 := b10.size
  have t10 := t9.trans (b10.mono t9.size)
  have ox0 := own_keep ox0 b10
  have ox1 := own_keep ox1 b10
  have ox3 := own_keep ox3 b10
  have oq0 := own_keep oq0 b10
  go_wp2_with fail
  refine (toEventS_any A1 c1 l1 _ (r1.to t10) (by omega)).mono ?_
  rintro e u11 ⟨Aq1, cq1, rfl, oq1, b11⟩
  have s11 := b11.size
  have t11 := t10.trans (b11.mono t10.size)
  have ox0 := own_keep ox0 b11
  have ox1 := own_keep ox1 b11
  have ox3 := own_keep ox3 b11
  go_wp2_with fail
  refine (eqEventS_any Ax1 Aq1 cx1 cq1 _ _ _ (Rd.of_own ox1) (Rd.of_own oq1) (by omega)).mono ?_
  rintro e u12 ⟨rfl, b12⟩
  have s12 := b12.size
  have t12 := t11.trans (b12.mono t11.size)
  have ox0 := own_keep ox0 b12
  have ox1 := own_keep ox1 b12
  have ox3 := own_keep ox3 b12
  have oq1 := own_keep oq1 b12
  go_wp2_with fail
  refine (toIntS_any A3 c3 l3 _ (r3.to t12) (by omega)).mono ?_
  rintro e u13 ⟨Aq3, cq3, rfl, oq3, b13⟩
  have s13 := b13.size
  have t13 := t12.trans (b13.mono t12.size)
  have ox0 := own_keep ox0 b13
  have ox1 := own_keep ox1 b13
  have ox3 := own_keep ox3 b13
  go_wp2_with fail
  refine (eqIntS_any Ax3 Aq3 cx3 cq3 _ _ _ (RdI.of_own ox3) (RdI.of_own oq3) (by omega)).mono ?_
  rintro e u14 ⟨rfl, b14⟩
  have s14 := b14.size
  have t14 := t13.trans (b14.mono t13.size)
  have ox0 := own_keep ox0 b14
  have ox1 := own_keep ox1 b14
  have ox3 := own_keep ox3 b14
  have oq3 := own_keep oq3 b14
  go_wp2
  go_ret
  exact ⟨ret_bool (by simp), t14⟩

set_option maxRecDepth 100000 in
theorem liftedFnExactMatchMany (os : Os) (started : os.Started) (H : Type) (enc : TypeId × Value → H) :
    ReturnsInHanded {} Try.checked os 4 .any (Rows.fnExactMatchManySpec.pre6 enc Try.prog Try.f4 Rows.fnExactMatchManyRow.domain false) (Rows.fnExactMatchManySpec.post enc Try.prog Try.f4 false true false false) := by
  refine returnsInHanded_of_change (C := Try.checked) own_ started (by kernel_rfl) Try.func4
    (ChangeSpec.witness6 (enc := enc) (C := Try.checked) false ⟨#[], #[.slice none 0 0, .slice none 0 0, .int .i64 0, .slice none 0 0], []⟩ 8 (by kernel_rfl) (by kernel_rfl) (by kernel_rfl) (by kernel_rfl)) ?_
  intro W base args ds gs before hval0 hW hcnd _
  have hval : ∀ (j : Nat) t v, Try.f4.params[j]? = some t → args[j]? = some v → Value.okWide Try.prog W .any base t v := hval0
  have hW' := hW
  obtain ⟨p, q, hA0, hV, rfl, hfz, hnd⟩ := hW
  have hA : DataW.TrodAll enc Try.prog W 0 (fun _ => true) true Try.f4.params.toList args.toList ds p := hA0
  rw [Try.params4] at hA hval
  obtain ⟨v0, vs0, d0, ds0, p0, q0, hargs, rfl, rfl, h0, r0⟩ := trodAll_cons hA
  obtain ⟨v1, vs1, d1, ds1, p1, q1, rfl, rfl, rfl, h1, r1⟩ := trodAll_cons r0
  obtain ⟨v2, vs2, d2, ds2, p2, q2, rfl, rfl, rfl, h2, r2⟩ := trodAll_cons r1
  obtain ⟨v3, vs3, d3, ds3, p3, q3, rfl, rfl, rfl, h3, r3⟩ := trodAll_cons r2
  obtain ⟨rfl, rfl, rfl⟩ := trodAll_nil r3
  obtain rfl : args = #[v0, v1, v2, v3] := by cases args; simp_all
  obtain ⟨rfl, rfl⟩ := trodVars_none hV
  obtain ⟨a0, n0, c0, rfl⟩ := okWide_slice Try.underlying31 (hval 0 31 v0 rfl rfl)
  have kk0 := h0
  have lt0 : ∀ x ∈ p0, x.block < W.heap.size := by obtain ⟨m, hm⟩ := kk0; exact DataW.trod_lt m _ _ _ hm
  obtain ⟨l0, e0, g0, w0, b0, bm0⟩ : ∃ l : List (Int × Int), l.length = n0 ∧ Rd W W.heap.size a0 l ∧ (∀ q ∈ l, (Lit.int .i64 q.1).wf = true ∧ (Lit.int .i64 q.2).wf = true) ∧ n0 ≤ c0 ∧ c0 ≤ maxLen := by
    obtain ⟨fuel, hf⟩ := h0
    exact openS Try.underlying31 Try.underlying64 (by kernel_rfl) (by kernel_rfl) rfl rfl Try.underlying3 (by simpa [Value.cells] using hf)
  subst e0
  obtain ⟨a1, n1, c1, rfl⟩ := okWide_slice Try.underlying31 (hval 1 31 v1 rfl rfl)
  have kk1 := h1
  have lt1 : ∀ x ∈ p1, x.block < W.heap.size := by obtain ⟨m, hm⟩ := kk1; exact DataW.trod_lt m _ _ _ hm
  obtain ⟨l1, e1, g1, w1, b1, bm1⟩ : ∃ l : List (Int × Int), l.length = n1 ∧ Rd W W.heap.size a1 l ∧ (∀ q ∈ l, (Lit.int .i64 q.1).wf = true ∧ (Lit.int .i64 q.2).wf = true) ∧ n1 ≤ c1 ∧ c1 ≤ maxLen := by
    obtain ⟨fuel, hf⟩ := h1
    exact openS Try.underlying31 Try.underlying64 (by kernel_rfl) (by kernel_rfl) rfl rfl Try.underlying3 (by simpa [Value.cells] using hf)
  subst e1
  obtain ⟨n2, rfl, rfl, rfl, w2⟩ := open_int Try.underlying3 (hval 2 3 v2 rfl rfl) h2
  obtain ⟨a3, n3, c3, rfl⟩ := okWide_slice Try.underlying27 (hval 3 27 v3 rfl rfl)
  have kk3 := h3
  have lt3 : ∀ x ∈ p3, x.block < W.heap.size := by obtain ⟨m, hm⟩ := kk3; exact DataW.trod_lt m _ _ _ hm
  obtain ⟨l3, e3, g3, w3, b3, bm3⟩ : ∃ l : List Int, l.length = n3 ∧ RdI W W.heap.size .i64 a3 l ∧ (∀ z ∈ l, (Lit.int .i64 z).wf = true) ∧ n3 ≤ c3 ∧ c3 ≤ maxLen := by
    obtain ⟨fuel, hf⟩ := h3
    exact openI Try.underlying27 Try.underlying3 (by kernel_rfl) (by simpa [Value.cells] using hf)
  subst e3
  clear hA0 hval0
  refine (walkFnExactMatchMany a0 c0 l0 a1 c1 l1 n2 a3 c3 l3 W g0 b0 (by unfold maxLen at bm0; omega) g1 b1 (by unfold maxLen at bm1; omega) g3 b3 (by unfold maxLen at bm3; omega)).mono fun e W' ⟨he, bel⟩ => ?_
  subst he
  exact ⟨_, rfl, _, _, _, [], _, [], hW', trodAll_mk1 (shut_bool Try.underlying4 _), (trodAll_cons_mk (Below.trod laidOut_ (by kernel_rfl) (of_decide_eq_true (by kernel_rfl)) kk0 bel lt0) (trodAll_cons_mk (Below.trod laidOut_ (by kernel_rfl) (of_decide_eq_true (by kernel_rfl)) kk1 bel lt1) (trodAll_cons_mk (shut_int Try.underlying3 w2) (trodAll_cons_mk (Below.trod laidOut_ (by kernel_rfl) (of_decide_eq_true (by kernel_rfl)) kk3 bel lt3) trodAll_mk0)))), rfl, bel.frame _, fun h => by cases h⟩

theorem fnExactMatchMany_holds : Rows.FnExactMatchManySaid :=
  OpenClaim.holds_of_wide 4 Try.f4 rfl rfl rfl rfl rfl rfl rfl ⟨rfl, rfl, rfl, rfl, rfl⟩ rfl rfl rfl rfl rfl (by kernel_rfl) Try.func4 (by kernel_rfl)
    (of_decide_eq_true (by kernel_rfl)) (by unfold Func.isWrapper; first | (rw [if_pos (by decide +kernel)]; kernel_rfl) | (rw [if_neg (by decide +kernel)]; exact ⟨rfl, rfl⟩))
    (fun os started H enc _ => liftedFnExactMatchMany os started H enc)

end Go.Proofs.Ytgfahnmkfgfibaa
