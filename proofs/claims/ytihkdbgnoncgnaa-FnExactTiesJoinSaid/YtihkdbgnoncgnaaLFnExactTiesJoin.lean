/- The statement FnExactTiesJoinSaid: for all arguments the Go function laws.FnExactTiesJoin returns true and leaves its arguments as they were. No condition. -/
import Derived.Test.YtihkdbgnoncgnaaJoinTop
import Derived.Test.YtihkdbgnoncgnaaJoinSpec
import Derived.Test.YtihkdbgnoncgnaaAllTies
import Derived.Test.YtihkdbgnoncgnaaRowMark
import Derived.Test.YtihkdbgnoncgnaaPairTie
import Derived.Test.YtihkdbgnoncgnaaObj
import Derived.Test.YtihkdbgnoncgnaaTiesMore
import Derived.Test.YtihkdbgnoncgnaaFrame
namespace Go.Proofs.Ytihkdbgnoncgnaa
open Go.ChangeShapes Go.WideShapes Go.ChangeAt Go.RowKit

set_option maxHeartbeats 4000000 in
theorem walkFnExactTiesJoin (A0 : Option Addr) (c0 : Nat) (l0 : List (Int × Int)) (A1 : Option Addr) (c1 : Nat) (l1 : List (Int × Int)) (w : World) (r0 : Rd w w.heap.size A0 l0) (k0 : l0.length ≤ c0) (m0 : c0 ≤ 9223372036854775807) (r1 : Rd w w.heap.size A1 l1) (k1 : l1.length ≤ c1) (m1 : c1 ≤ 9223372036854775807) :
    Calls Try.prog 9 #[.slice A0 l0.length c0, .slice A1 l1.length c1] w fun e w' => e = .returned (.bool true) ∧ Below w.heap.size w w' := by
  have hm0 := Nat.le_trans k0 m0
  have hm1 := Nat.le_trans k1 m1
  by_cases z0 : (1048576 : Int) < (l0.length : Int)
  · clear r0 r1
    go_enter Try.func9, Try.ntmps9
    go_wp2_with fail
    refine (szTieS_any _ c0 l0.length _ _ (by omega) (by omega) (by omega)).mono ?_
    rintro e us0 ⟨rfl, rfl⟩
    rw [if_pos (by omega)]
    go_wp2
    go_ret
    exact ⟨rfl, Below.refl _ _⟩
  by_cases z1 : (1048576 : Int) - (l0.length : Int) < (l1.length : Int)
  · clear r0 r1
    go_enter Try.func9, Try.ntmps9
    go_wp2_with fail
    refine (szTieS_any _ c0 l0.length _ _ (by omega) (by omega) (by omega)).mono ?_
    rintro e us0 ⟨rfl, rfl⟩
    rw [if_neg (by omega)]
    go_wp2_with fail
    refine (szTieS_any _ c1 l1.length _ _ (by omega) (by omega) (by omega)).mono ?_
    rintro e us1 ⟨rfl, rfl⟩
    rw [if_pos (by omega)]
    go_wp2
    go_ret
    exact ⟨rfl, Below.refl _ _⟩
  have hres := jL_len l0 l1
  go_enter Try.func9, Try.ntmps9
  go_wp2_with fail
  refine (szTieS_any _ c0 l0.length _ _ (by omega) (by omega) (by omega)).mono ?_
  rintro e us0 ⟨rfl, rfl⟩
  rw [if_neg (by omega)]
  go_wp2_with fail
  refine (szTieS_any _ c1 l1.length _ _ (by omega) (by omega) (by omega)).mono ?_
  rintro e us1 ⟨rfl, rfl⟩
  rw [if_neg (by omega)]
  have t0 : Below w.heap.size w w := Below.refl _ _
  go_wp2_with fail
  refine (toTieS_any A0 c0 l0 _ (r0.to t0) (by omega)).mono ?_
  rintro e u1 ⟨Ap0, cp0, rfl, op0, b1⟩
  have s1 := b1.size
  have t1 := t0.trans (b1.mono t0.size)
  go_wp2_with fail
  refine (toTieS_any A1 c1 l1 _ (r1.to t1) (by omega)).mono ?_
  rintro e u2 ⟨Ap1, cp1, rfl, op1, b2⟩
  have s2 := b2.size
  have t2 := t1.trans (b2.mono t1.size)
  have op0 := own_keep op0 b2
  go_wp2_with fail
  refine (specTiesJoin_any Ap0 Ap1 cp0 cp1 l0 l1 _ (Rd.of_own op0) (Rd.of_own op1) (by omega) (by omega)).mono ?_
  rintro e u3 ⟨Aw, cw, rfl, ow, b3⟩
  have kw := ow
  have s3 := b3.size
  have t3 := t2.trans (b3.mono t2.size)
  have op0 := own_keep op0 b3
  have op1 := own_keep op1 b3
  go_wp2_with fail
  refine (toTieS_any A0 c0 l0 _ (r0.to t3) (by omega)).mono ?_
  rintro e u4 ⟨Ax0, cx0, rfl, ox0, b4⟩
  have kx0 := ox0
  have s4 := b4.size
  have t4 := t3.trans (b4.mono t3.size)
  have op0 := own_keep op0 b4
  have op1 := own_keep op1 b4
  have ow := own_keep ow b4
  go_wp2_with fail
  refine (toTieS_any A1 c1 l1 _ (r1.to t4) (by omega)).mono ?_
  rintro e u5 ⟨Ax1, cx1, rfl, ox1, b5⟩
  have kx1 := ox1
  have s5 := b5.size
  have t5 := t4.trans (b5.mono t4.size)
  have op0 := own_keep op0 b5
  have op1 := own_keep op1 b5
  have ow := own_keep ow b5
  have ox0 := own_keep ox0 b5
  go_wp2_with fail
  refine (tiesJoin_any Ax0 Ax1 cx0 cx1 l0 l1 _ (Rd.of_own ox0) (Rd.of_own ox1) (by omega) (by omega)).mono ?_
  rintro e u6 ⟨Ag, rfl, og, b6⟩
  have s6 := b6.size
  have t6 := t5.trans (b6.mono t5.size)
  have op0 := own_keep op0 b6
  have op1 := own_keep op1 b6
  have ow := own_keep ow b6
  have ox0 := own_keep ox0 b6
  have ox1 := own_keep ox1 b6
  go_wp2_with fail
  refine (eqTieS_any Ag Aw (jL l0 l1).length cw _ _ _ og.rd (Rd.of_own ow) (by omega)).mono ?_
  rintro e u7 ⟨rfl, b7⟩
  have s7 := b7.size
  have t7 := t6.trans (b7.mono t6.size)
  have op0 := own_keep op0 b7
  have op1 := own_keep op1 b7
  have ow := own_keep ow b7
  have ox0 := own_keep ox0 b7
  have ox1 := own_keep ox1 b7
  have og := og.below b7
  go_wp2_with fail
  refine (toTieS_any A0 c0 l0 _ (r0.to t7) (by omega)).mono ?_
  rintro e u8 ⟨Aq0, cq0, rfl, oq0, b8⟩
  have s8 := b8.size
  have t8 := t7.trans (b8.mono t7.size)
  have op0 := own_keep op0 b8
  have op1 := own_keep op1 b8
  have ow := own_keep ow b8
  have ox0 := own_keep ox0 b8
  have ox1 := own_keep ox1 b8
  have og := og.below b8
  go_wp2_with fail
  refine (eqTieS_any Ax0 Aq0 cx0 cq0 _ _ _ (Rd.of_own ox0) (Rd.of_own oq0) (by omega)).mono ?_
  rintro e u9 ⟨rfl, b9⟩
  have s9 := b9.size
  have t9 := t8.trans (b9.mono t8.size)
  have op0 := own_keep op0 b9
  have op1 := own_keep op1 b9
  have ow := own_keep ow b9
  have ox0 := own_keep ox0 b9
  have ox1 := own_keep ox1 b9
  have og := og.below b9
  have oq0 := own_keep oq0 b9
  go_wp2_with fail
  refine (toTieS_any A1 c1 l1 _ (r1.to t9) (by omega)).mono ?_
  rintro e u10 ⟨Aq1, cq1, rfl, oq1, b10⟩
  have s10 := b10.size
  have t10 := t9.trans (b10.mono t9.size)
  have op0 := own_keep op0 b10
  have op1 := own_keep op1 b10
  have ow := own_keep ow b10
  have ox0 := own_keep ox0 b10
  have ox1 := own_keep ox1 b10
  have og := og.below b10
  go_wp2_with fail
  refine (eqTieS_any Ax1 Aq1 cx1 cq1 _ _ _ (Rd.of_own ox1) (Rd.of_own oq1) (by omega)).mono ?_
  rintro e u11 ⟨rfl, b11⟩
  have s11 := b11.size
  have t11 := t10.trans (b11.mono t10.size)
  have op0 := own_keep op0 b11
  have op1 := own_keep op1 b11
  have ow := own_keep ow b11
  have ox0 := own_keep ox0 b11
  have ox1 := own_keep ox1 b11
  have og := og.below b11
  have oq1 := own_keep oq1 b11
  go_wp2_with fail
  refine (markTieS_any _ Ax0 cx0 (l0).length _ (1) _ ox0 (by omega) (by omega) (by omega)).mono ?_
  rintro e u12 ⟨rfl, mx0, gr12⟩
  have s12 := gr12.size
  have t12 := below_mark t11 ox0 gr12 (by omega)
  have ow := ow.kept gr12 (own_apart kw kx0 (by omega)).1
  have ox1 := ox1.kept gr12 (own_apart kx0 kx1 (by omega)).2
  have og := og.kept gr12 (fun i hi => by have := (kx0.lt i hi).2; omega)
  go_wp2_with fail
  refine (markTieS_any _ Ax1 cx1 (l1).length _ (1 + 2 * ((l0).length : Nat)) _ ox1 (by omega) (by omega) (by omega)).mono ?_
  rintro e u13 ⟨rfl, mx1, gr13⟩
  have s13 := gr13.size
  have t13 := below_mark t12 ox1 gr13 (by omega)
  have ow := ow.kept gr13 (own_apart kw kx1 (by omega)).1
  have og := og.kept gr13 (fun i hi => by have := (kx1.lt i hi).2; omega)
  go_wp2_with fail
  refine (eqTieS_any Ag Aw (jL l0 l1).length cw _ _ _ og.rd (Rd.of_own ow) (by omega)).mono ?_
  rintro e u14 ⟨rfl, b14⟩
  have s14 := b14.size
  have t14 := t13.trans (b14.mono t13.size)
  have ow := own_keep ow b14
  have og := og.below b14
  go_wp2_with fail
  refine (markR_any _ Ag (jL l0 l1) _ rfl (1) _ og (by omega) (by omega) (by omega)).mono ?_
  rintro e u15 ⟨rfl, mg, row, hrow, gr15⟩
  have s15 := gr15.size
  have t15 := t14.grown gr15 t14.size (fun k hk => by have := hrow k hk; omega)
  have ow := ow.kept gr15 (own_apartR kw (by omega) hrow)
  go_wp2_with fail
  refine (heldTieS_any Ag (jL l0 l1).length (jL l0 l1).length 1 _ mg (by omega) (by omega) (by omega)).mono ?_
  rintro e uh ⟨rfl, rfl⟩
  go_wp2_with fail
  refine (toTieS_any A0 c0 l0 _ (r0.to t15) (by omega)).mono ?_
  rintro e u16 ⟨Ay0, cy0, rfl, oy0, b16⟩
  have s16 := b16.size
  have t16 := t15.trans (b16.mono t15.size)
  have ow := own_keep ow b16
  have mg := mg.to b16
  go_wp2_with fail
  refine (toTieS_any A1 c1 l1 _ (r1.to t16) (by omega)).mono ?_
  rintro e u17 ⟨Ay1, cy1, rfl, oy1, b17⟩
  have s17 := b17.size
  have t17 := t16.trans (b17.mono t16.size)
  have ow := own_keep ow b17
  have oy0 := own_keep oy0 b17
  have mg := mg.to b17
  go_wp2_with fail
  refine (tiesJoin_any Ay0 Ay1 cy0 cy1 l0 l1 _ (Rd.of_own oy0) (Rd.of_own oy1) (by omega) (by omega)).mono ?_
  rintro e u18 ⟨Ah, rfl, oh, b18⟩
  have s18 := b18.size
  have t18 := t17.trans (b18.mono t17.size)
  have ow := own_keep ow b18
  have oy0 := own_keep oy0 b18
  have oy1 := own_keep oy1 b18
  have mg := mg.to b18
  go_wp2_with fail
  refine (eqTieS_any Ah Aw (jL l0 l1).length cw _ _ _ oh.rd (Rd.of_own ow) (by omega)).mono ?_
  rintro e u19 ⟨rfl, b19⟩
  have s19 := b19.size
  have t19 := t18.trans (b19.mono t18.size)
  have ow := own_keep ow b19
  have oy0 := own_keep oy0 b19
  have oy1 := own_keep oy1 b19
  have oh := oh.below b19
  have mg := mg.to b19
  go_wp2_with fail
  refine (heldTieS_any Ag (jL l0 l1).length (jL l0 l1).length 1 _ mg (by omega) (by omega) (by omega)).mono ?_
  rintro e uh ⟨rfl, rfl⟩
  go_wp2
  go_ret
  exact ⟨ret_bool (by simp), t19⟩

set_option maxRecDepth 100000 in
theorem liftedFnExactTiesJoin (os : Os) (started : os.Started) (H : Type) (enc : TypeId × Value → H) :
    ReturnsInHanded {} Try.checked os 9 .any (Rows.fnExactTiesJoinSpec.pre6 enc Try.prog Try.f9 Rows.fnExactTiesJoinRow.domain false) (Rows.fnExactTiesJoinSpec.post enc Try.prog Try.f9 false true false false) := by
  refine returnsInHanded_of_change (C := Try.checked) own_ started (by kernel_rfl) Try.func9
    (ChangeSpec.witness6 (enc := enc) (C := Try.checked) false ⟨#[], #[.slice none 0 0, .slice none 0 0], []⟩ 8 (by kernel_rfl) (by kernel_rfl) (by kernel_rfl) (by kernel_rfl)) ?_
  intro W base args ds gs before hval0 hW hcnd _
  have hval : ∀ (j : Nat) t v, Try.f9.params[j]? = some t → args[j]? = some v → Value.okWide Try.prog W .any base t v := hval0
  have hW' := hW
  obtain ⟨p, q, hA0, hV, rfl, hfz, hnd⟩ := hW
  have hA : DataW.TrodAll enc Try.prog W 0 (fun _ => true) true Try.f9.params.toList args.toList ds p := hA0
  rw [Try.params9] at hA hval
  obtain ⟨v0, vs0, d0, ds0, p0, q0, hargs, rfl, rfl, h0, r0⟩ := trodAll_cons hA
  obtain ⟨v1, vs1, d1, ds1, p1, q1, rfl, rfl, rfl, h1, r1⟩ := trodAll_cons r0
  obtain ⟨rfl, rfl, rfl⟩ := trodAll_nil r1
  obtain rfl : args = #[v0, v1] := by cases args; simp_all
  obtain ⟨rfl, rfl⟩ := trodVars_none hV
  obtain ⟨a0, n0, c0, rfl⟩ := okWide_slice Try.underlying33 (hval 0 33 v0 rfl rfl)
  have kk0 := h0
  have lt0 : ∀ x ∈ p0, x.block < W.heap.size := by obtain ⟨m, hm⟩ := kk0; exact DataW.trod_lt m _ _ _ hm
  obtain ⟨l0, e0, g0, w0, b0, bm0⟩ : ∃ l : List (Int × Int), l.length = n0 ∧ Rd W W.heap.size a0 l ∧ (∀ q ∈ l, (Lit.int .i64 q.1).wf = true ∧ (Lit.int .i64 q.2).wf = true) ∧ n0 ≤ c0 ∧ c0 ≤ maxLen := by
    obtain ⟨fuel, hf⟩ := h0
    exact openS Try.underlying33 Try.underlying54 (by kernel_rfl) (by kernel_rfl) rfl rfl Try.underlying3 (by simpa [Value.cells] using hf)
  subst e0
  obtain ⟨a1, n1, c1, rfl⟩ := okWide_slice Try.underlying33 (hval 1 33 v1 rfl rfl)
  have kk1 := h1
  have lt1 : ∀ x ∈ p1, x.block < W.heap.size := by obtain ⟨m, hm⟩ := kk1; exact DataW.trod_lt m _ _ _ hm
  obtain ⟨l1, e1, g1, w1, b1, bm1⟩ : ∃ l : List (Int × Int), l.length = n1 ∧ Rd W W.heap.size a1 l ∧ (∀ q ∈ l, (Lit.int .i64 q.1).wf = true ∧ (Lit.int .i64 q.2).wf = true) ∧ n1 ≤ c1 ∧ c1 ≤ maxLen := by
    obtain ⟨fuel, hf⟩ := h1
    exact openS Try.underlying33 Try.underlying54 (by kernel_rfl) (by kernel_rfl) rfl rfl Try.underlying3 (by simpa [Value.cells] using hf)
  subst e1
  clear hA0 hval0
  refine (walkFnExactTiesJoin a0 c0 l0 a1 c1 l1 W g0 b0 (by unfold maxLen at bm0; omega) g1 b1 (by unfold maxLen at bm1; omega)).mono fun e W' ⟨he, bel⟩ => ?_
  subst he
  exact ⟨_, rfl, _, _, _, [], _, [], hW', trodAll_mk1 (shut_bool Try.underlying4 _), (trodAll_cons_mk (Below.trod laidOut_ (by kernel_rfl) (of_decide_eq_true (by kernel_rfl)) kk0 bel lt0) (trodAll_cons_mk (Below.trod laidOut_ (by kernel_rfl) (of_decide_eq_true (by kernel_rfl)) kk1 bel lt1) trodAll_mk0)), rfl, bel.frame _, fun h => by cases h⟩

theorem fnExactTiesJoin_holds : Rows.FnExactTiesJoinSaid :=
  OpenClaim.holds_of_wide 9 Try.f9 rfl rfl rfl rfl rfl rfl rfl ⟨rfl, rfl, rfl, rfl, rfl⟩ rfl rfl rfl rfl rfl (by kernel_rfl) Try.func9 (by kernel_rfl)
    (of_decide_eq_true (by kernel_rfl)) (by unfold Func.isWrapper; first | (rw [if_pos (by decide +kernel)]; kernel_rfl) | (rw [if_neg (by decide +kernel)]; exact ⟨rfl, rfl⟩))
    (fun os started H enc _ => liftedFnExactTiesJoin os started H enc)

end Go.Proofs.Ytihkdbgnoncgnaa
