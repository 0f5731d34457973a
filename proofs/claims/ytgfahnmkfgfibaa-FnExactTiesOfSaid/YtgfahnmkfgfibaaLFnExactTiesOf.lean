/- The statement FnExactTiesOfSaid: for all arguments the Go function laws.FnExactTiesOf returns true and leaves its arguments as they were. No condition. -/
import Derived.Test.YtgfahnmkfgfibaaTiesOf
import Derived.Test.YtgfahnmkfgfibaaPairEvent
import Derived.Test.YtgfahnmkfgfibaaPairTie
import Derived.Test.YtgfahnmkfgfibaaInts
import Derived.Test.YtgfahnmkfgfibaaObj
import Derived.Test.YtgfahnmkfgfibaaFrame
namespace Go.Proofs.Ytgfahnmkfgfibaa
open Go.ChangeShapes Go.WideShapes Go.ChangeAt Go.RowKit

set_option maxHeartbeats 4000000 in
theorem walkFnExactTiesOf (A0 : Option Addr) (c0 : Nat) (l0 : List (Int × Int)) (A1 : Option Addr) (c1 : Nat) (l1 : List (Int × Int)) (n2 : Int) (A3 : Option Addr) (c3 : Nat) (l3 : List Int) (w : World) (r0 : Rd w w.heap.size A0 l0) (k0 : l0.length ≤ c0) (m0 : c0 ≤ 9223372036854775807) (r1 : Rd w w.heap.size A1 l1) (k1 : l1.length ≤ c1) (m1 : c1 ≤ 9223372036854775807)  (r3 : RdI w w.heap.size .i64 A3 l3) (k3 : l3.length ≤ c3) (m3 : c3 ≤ 9223372036854775807) :
    Calls Try.prog 12 #[.slice A0 l0.length c0, .slice A1 l1.length c1, .int .i64 n2, .slice A3 l3.length c3] w fun e w' => e = .returned (.bool true) ∧ Below w.heap.size w w' := by
  have hm0 := Nat.le_trans k0 m0
  have hm1 := Nat.le_trans k1 m1
  have hm3 := Nat.le_trans k3 m3
  by_cases z3 : 1048576 < l3.length
  · clear r0 r1 r3
    go_enter Try.func12, Try.ntmps12
    go_wp2
    go_ret
    exact ⟨rfl, Below.refl _ _⟩
  by_cases z0 : (1048576 : Int) < (l0.length : Int)
  · clear r0 r1 r3
    go_enter Try.func12, Try.ntmps12
    go_wp2_with fail
    refine (szEventS_any _ c0 l0.length _ _ (by omega) (by omega) (by omega)).mono ?_
    rintro e us0 ⟨rfl, rfl⟩
    rw [if_pos (by omega)]
    go_wp2
    go_ret
    exact ⟨rfl, Below.refl _ _⟩
  by_cases z1 : (1048576 : Int) - (l0.length : Int) < (l1.length : Int)
  · clear r0 r1 r3
    go_enter Try.func12, Try.ntmps12
    go_wp2_with fail
    refine (szEventS_any _ c0 l0.length _ _ (by omega) (by omega) (by omega)).mono ?_
    rintro e us0 ⟨rfl, rfl⟩
    rw [if_neg (by omega)]
    go_wp2_with fail
    refine (szEventS_any _ c1 l1.length _ _ (by omega) (by omega) (by omega)).mono ?_
    rintro e us1 ⟨rfl, rfl⟩
    rw [if_pos (by omega)]
    go_wp2
    go_ret
    exact ⟨rfl, Below.refl _ _⟩
  have hres := tieV_len l0 l1 n2 l3
  go_enter Try.func12, Try.ntmps12
  go_wp2_with fail
  refine (szEventS_any _ c0 l0.length _ _ (by omega) (by omega) (by omega)).mono ?_
  rintro e us0 ⟨rfl, rfl⟩
  rw [if_neg (by omega)]
  go_wp2_with fail
  refine (szEventS_any _ c1 l1.length _ _ (by omega) (by omega) (by omega)).mono ?_
  rintro e us1 ⟨rfl, rfl⟩
  rw [if_neg (by omega)]
  have t0 : Below w.heap.size w w := Below.refl _ _
  go_wp2_with fail
  refine (toEventS_any A0 c0 l0 _ (r0.to t0) (by omega)).mono ?_
  rintro e u1 ⟨Ap0, cp0, rfl, op0, b1⟩
  have s1 := b1.size
  have t1 := t0.trans (b1.mono t0.size)
  go_wp2_with fail
  refine (toEventS_any A1 c1 l1 _ (r1.to t1) (by omega)).mono ?_
  rintro e u2 ⟨Ap1, cp1, rfl, op1, b2⟩
  have s2 := b2.size
  have t2 := t1.trans (b2.mono t1.size)
  have op0 := own_keep op0 b2
  go_wp2_with fail
  refine (toIntS_any A3 c3 l3 _ (r3.to t2) (by omega)).mono ?_
  rintro e u3 ⟨Ap3, cp3, rfl, op3, b3⟩
  have s3 := b3.size
  have t3 := t2.trans (b3.mono t2.size)
  have op0 := own_keep op0 b3
  have op1 := own_keep op1 b3
  go_wp2_with fail
  refine (specTiesOf_any Ap0 Ap1 Ap3 cp0 cp1 cp3 l0 l1 n2 l3 _ (Rd.of_own op0) (Rd.of_own op1) (RdI.of_own op3) (by omega) (by omega)).mono ?_
  rintro e u4 ⟨Aw, cw, rfl, ow, b4⟩
  have kw := ow
  have s4 := b4.size
  have t4 := t3.trans (b4.mono t3.size)
  have op0 := own_keep op0 b4
  have op1 := own_keep op1 b4
  have op3 := own_keep op3 b4
  go_wp2_with fail
  refine (toEventS_any A0 c0 l0 _ (r0.to t4) (by omega)).mono ?_
  rintro e u5 ⟨Ax0, cx0, rfl, ox0, b5⟩
  have kx0 := ox0
  have s5 := b5.size
  have t5 := t4.trans (b5.mono t4.size)
  have op0 := own_keep op0 b5
  have op1 := own_keep op1 b5
  have op3 := own_keep op3 b5
  have ow := own_keep ow b5
  go_wp2_with fail
  refine (toEventS_any A1 c1 l1 _ (r1.to t5) (by omega)).mono ?_
  rintro e u6 ⟨Ax1, cx1, rfl, ox1, b6⟩
  have kx1 := ox1
  have s6 := b6.size
  have t6 := t5.trans (b6.mono t5.size)
  have op0 := own_keep op0 b6
  have op1 := own_keep op1 b6
  have op3 := own_keep op3 b6
  have ow := own_keep ow b6
  have ox0 := own_keep ox0 b6
  go_wp2_with fail
  refine (toIntS_any A3 c3 l3 _ (r3.to t6) (by omega)).mono ?_
  rintro e u7 ⟨Ax3, cx3, rfl, ox3, b7⟩
  have kx3 := ox3
  have s7 := b7.size
  have t7 := t6.trans (b7.mono t6.size)
  have op0 := own_keep op0 b7
  have op1 := own_keep op1 b7
  have op3 := own_keep op3 b7
  have ow := own_keep ow b7
  have ox0 := own_keep ox0 b7
  have ox1 := own_keep ox1 b7
  go_wp2_with fail
  refine (tiesOf_any Ax0 Ax1 Ax3 cx0 cx1 cx3 l0 l1 n2 l3 _ (Rd.of_own ox0) (Rd.of_own ox1) (RdI.of_own ox3) (by omega) (by omega)).mono ?_
  rintro e u8 ⟨Ag, cg, rfl, og, b8⟩
  have kg := og
  have s8 := b8.size
  have t8 := t7.trans (b8.mono t7.size)
  have op0 := own_keep op0 b8
  have op1 := own_keep op1 b8
  have op3 := own_keep op3 b8
  have ow := own_keep ow b8
  have ox0 := own_keep ox0 b8
  have ox1 := own_keep ox1 b8
  have ox3 := own_keep ox3 b8
  go_wp2_with fail
  refine (eqTieS_any Ag Aw cg cw _ _ _ (Rd.of_own og) (Rd.of_own ow) (by omega)).mono ?_
  rintro e u9 ⟨rfl, b9⟩
  have s9 := b9.size
  have t9 := t8.trans (b9.mono t8.size)
  have op0 := own_keep op0 b9
  have op1 := own_keep op1 b9
  have op3 := own_keep op3 b9
  have ow := own_keep ow b9
  have ox0 := own_keep ox0 b9
  have ox1 := own_keep ox1 b9
  have ox3 := own_keep ox3 b9
  have og := own_keep og b9
  go_wp2_with fail
  refine (toEventS_any A0 c0 l0 _ (r0.to t9) (by omega)).mono ?_
  rintro e u10 ⟨Aq0, cq0, rfl, oq0, b10⟩
  have s10 := b10.size
  have t10 := t9.trans (b10.mono t9.size)
  have op0 := own_keep op0 b10
  have op1 := own_keep op1 b10
  have op3 := own_keep op3 b10
  have ow := own_keep ow b10
  have ox0 := own_keep ox0 b10
  have ox1 := own_keep ox1 b10
  have ox3 := own_keep ox3 b10
  have og := own_keep og b10
  go_wp2_with fail
  refine (eqEventS_any Ax0 Aq0 cx0 cq0 _ _ _ (Rd.of_own ox0) (Rd.of_own oq0) (by omega)).mono ?_
  rintro e u11 ⟨rfl, b11⟩
  have s11 := b11.size
  have t11 := t10.trans (b11.mono t10.size)
  have op0 := own_keep op0 b11
  have op1 := own_keep op1 b11
  have op3 := own_keep op3 b11
  have ow := own_keep ow b11
  have ox0 := own_keep ox0 b11
  have ox1 := own_keep ox1 b11
  have ox3 := own_keep ox3 b11
  have og := own_keep og b11
  have oq0 := own_keep oq0 b11
  go_wp2_with fail
  refine (toEventS_any A1 c1 l1 _ (r1.to t11) (by omega)).mono ?_
  rintro e u12 ⟨Aq1, cq1, rfl, oq1, b12⟩
  have s12 := b12.size
  have t12 := t11.trans (b12.mono t11.size)
  have op0 := own_keep op0 b12
  have op1 := own_keep op1 b12
  have op3 := own_keep op3 b12
  have ow := own_keep ow b12
  have ox0 := own_keep ox0 b12
  have ox1 := own_keep ox1 b12
  have ox3 := own_keep ox3 b12
  have og := own_keep og b12
  go_wp2_with fail
  refine (eqEventS_any Ax1 Aq1 cx1 cq1 _ _ _ (Rd.of_own ox1) (Rd.of_own oq1) (by omega)).mono ?_
  rintro e u13 ⟨rfl, b13⟩
  have s13 := b13.size
  have t13 := t12.trans (b13.mono t12.size)
  have op0 := own_keep op0 b13
  have op1 := own_keep op1 b13
  have op3 := own_keep op3 b13
  have ow := own_keep ow b13
  have ox0 := own_keep ox0 b13
  have ox1 := own_keep ox1 b13
  have ox3 := own_keep ox3 b13
  have og := own_keep og b13
  have oq1 := own_keep oq1 b13
  go_wp2_with fail
  refine (toIntS_any A3 c3 l3 _ (r3.to t13) (by omega)).mono ?_
  rintro e u14 ⟨Aq3, cq3, rfl, oq3, b14⟩
  have s14 := b14.size
  have t14 := t13.trans (b14.mono t13.size)
  have op0 := own_keep op0 b14
  have op1 := own_keep op1 b14
  have op3 := own_keep op3 b14
  have ow := own_keep ow b14
  have ox0 := own_keep ox0 b14
  have ox1 := own_keep ox1 b14
  have ox3 := own_keep ox3 b14
  have og := own_keep og b14
  go_wp2_with fail
  refine (eqIntS_any Ax3 Aq3 cx3 cq3 _ _ _ (RdI.of_own ox3) (RdI.of_own oq3) (by omega)).mono ?_
  rintro e u15 ⟨rfl, b15⟩
  have s15 := b15.size
  have t15 := t14.trans (b15.mono t14.size)
  have op0 := own_keep op0 b15
  have op1 := own_keep op1 b15
  have op3 := own_keep op3 b15
  have ow := own_keep ow b15
  have ox0 := own_keep ox0 b15
  have ox1 := own_keep ox1 b15
  have ox3 := own_keep ox3 b15
  have og := own_keep og b15
  have oq3 := own_keep oq3 b15
  go_wp2_with fail
  refine (markEventS_any _ Ax0 cx0 (l0).length _ (1) _ ox0 (by omega) (by omega) (by omega)).mono ?_
  rintro e u16 ⟨rfl, mx0, gr16⟩
  have s16 := gr16.size
  have t16 := below_mark t15 ox0 gr16 (by omega)
  have ow := ow.kept gr16 (own_apart kw kx0 (by omega)).1
  have ox1 := ox1.kept gr16 (own_apart kx0 kx1 (by omega)).2
  have ox3 := ox3.kept gr16 (own_apart kx0 kx3 (by omega)).2
  have og := og.kept gr16 (own_apart kx0 kg (by omega)).2
  go_wp2_with fail
  refine (markEventS_any _ Ax1 cx1 (l1).length _ (1 + 2 * ((l0).length : Nat)) _ ox1 (by omega) (by omega) (by omega)).mono ?_
  rintro e u17 ⟨rfl, mx1, gr17⟩
  have s17 := gr17.size
  have t17 := below_mark t16 ox1 gr17 (by omega)
  have ow := ow.kept gr17 (own_apart kw kx1 (by omega)).1
  have ox3 := ox3.kept gr17 (own_apart kx1 kx3 (by omega)).2
  have og := og.kept gr17 (own_apart kx1 kg (by omega)).2
  go_wp2_with fail
  refine (markIntS_any _ Ax3 cx3 (l3).length _ (1 + 2 * ((l0).length : Nat) + 2 * ((l1).length : Nat)) _ ox3 (by omega) (by omega) (by omega)).mono ?_
  rintro e u18 ⟨rfl, mx3, gr18⟩
  have s18 := gr18.size
  have t18 := below_mark t17 ox3 gr18 (by omega)
  have ow := ow.kept gr18 (own_apart kw kx3 (by omega)).1
  have og := og.kept gr18 (own_apart kx3 kg (by omega)).2
  go_wp2_with fail
  refine (eqTieS_any Ag Aw cg cw _ _ _ (Rd.of_own og) (Rd.of_own ow) (by omega)).mono ?_
  rintro e u19 ⟨rfl, b19⟩
  have s19 := b19.size
  have t19 := t18.trans (b19.mono t18.size)
  have ow := own_keep ow b19
  have og := own_keep og b19
  go_wp2_with fail
  refine (markTieS_any _ Ag cg (tieV l0 l1 n2 l3).length _ (1) _ og (by omega) (by omega) (by omega)).mono ?_
  rintro e u20 ⟨rfl, mg, gr20⟩
  have s20 := gr20.size
  have t20 := below_mark t19 og gr20 (by omega)
  have ow := ow.kept gr20 (own_apart kw kg (by omega)).1
  go_wp2_with fail
  refine (heldTieS_any Ag cg (tieV l0 l1 n2 l3).length 1 _ mg (by omega) (by omega) (by omega)).mono ?_
  rintro e uh ⟨rfl, rfl⟩
  go_wp2_with fail
  refine (toEventS_any A0 c0 l0 _ (r0.to t20) (by omega)).mono ?_
  rintro e u21 ⟨Ay0, cy0, rfl, oy0, b21⟩
  have s21 := b21.size
  have t21 := t20.trans (b21.mono t20.size)
  have ow := own_keep ow b21
  have mg := mg.to b21
  go_wp2_with fail
  refine (toEventS_any A1 c1 l1 _ (r1.to t21) (by omega)).mono ?_
  rintro e u22 ⟨Ay1, cy1, rfl, oy1, b22⟩
  have s22 := b22.size
  have t22 := t21.trans (b22.mono t21.size)
  have ow := own_keep ow b22
  have oy0 := own_keep oy0 b22
  have mg := mg.to b22
  go_wp2_with fail
  refine (toIntS_any A3 c3 l3 _ (r3.to t22) (by omega)).mono ?_
  rintro e u23 ⟨Ay3, cy3, rfl, oy3, b23⟩
  have s23 := b23.size
  have t23 := t22.trans (b23.mono t22.size)
  have ow := own_keep ow b23
  have oy0 := own_keep oy0 b23
  have oy1 := own_keep oy1 b23
  have mg := mg.to b23
  go_wp2_with fail
  refine (tiesOf_any Ay0 Ay1 Ay3 cy0 cy1 cy3 l0 l1 n2 l3 _ (Rd.of_own oy0) (Rd.of_own oy1) (RdI.of_own oy3) (by omega) (by omega)).mono ?_
  rintro e u24 ⟨Ah, ch, rfl, oh, b24⟩
  have s24 := b24.size
  have t24 := t23.trans (b24.mono t23.size)
  have ow := own_keep ow b24
  have oy0 := own_keep oy0 b24
  have oy1 := own_keep oy1 b24
  have oy3 := own_keep oy3 b24
  have mg := mg.to b24
  go_wp2_with fail
  refine (eqTieS_any Ah Aw ch cw _ _ _ (Rd.of_own oh) (Rd.of_own ow) (by omega)).mono ?_
  rintro e u25 ⟨rfl, b25⟩
  have s25 := b25.size
  have t25 := t24.trans (b25.mono t24.size)
  have ow := own_keep ow b25
  have oy0 := own_keep oy0 b25
  have oy1 := own_keep oy1 b25
  have oy3 := own_keep oy3 b25
  have oh := own_keep oh b25
  have mg := mg.to b25
  go_wp2_with fail
  refine (heldTieS_any Ag cg (tieV l0 l1 n2 l3).length 1 _ mg (by omega) (by omega) (by omega)).mono ?_
  rintro e uh ⟨rfl, rfl⟩
  go_wp2
  go_ret
  exact ⟨ret_bool (by simp), t25⟩

set_option maxRecDepth 100000 in
theorem liftedFnExactTiesOf (os : Os) (started : os.Started) (H : Type) (enc : TypeId × Value → H) :
    ReturnsInHanded {} Try.checked os 12 .any (Rows.fnExactTiesOfSpec.pre6 enc Try.prog Try.f12 Rows.fnExactTiesOfRow.domain false) (Rows.fnExactTiesOfSpec.post enc Try.prog Try.f12 false true false false) := by
  refine returnsInHanded_of_change (C := Try.checked) own_ started (by kernel_rfl) Try.func12
    (ChangeSpec.witness6 (enc := enc) (C := Try.checked) false ⟨#[], #[.slice none 0 0, .slice none 0 0, .int .i64 0, .slice none 0 0], []⟩ 8 (by kernel_rfl) (by kernel_rfl) (by kernel_rfl) (by kernel_rfl)) ?_
  intro W base args ds gs before hval0 hW hcnd _
  have hval : ∀ (j : Nat) t v, Try.f12.params[j]? = some t → args[j]? = some v → Value.okWide Try.prog W .any base t v := hval0
  have hW' := hW
  obtain ⟨p, q, hA0, hV, rfl, hfz, hnd⟩ := hW
  have hA : DataW.TrodAll enc Try.prog W 0 (fun _ => true) true Try.f12.params.toList args.toList ds p := hA0
  rw [Try.params12] at hA hval
  obtain ⟨v0, vs0, d0, ds0, p0, q0, hargs, rfl, rfl, h0, r0⟩ := trodAll_cons hA
  obtain ⟨v1, vs1, d1, ds1, p1, q1, rfl, rfl, rfl, h1, r1⟩ := trodAll_cons r0
  obtain ⟨v2, vs2, d2, ds2, p2, q2, rfl, rfl, rfl, h2, r2⟩ := trodAll_cons r1
  obtain ⟨v3, vs3, d3, ds3, p3, q3, rfl, rfl, rfl, h3, r3⟩ := trodAll_cons r2
  obtain ⟨rfl, rfl, rfl⟩ := trodAll_nil r3
  obtain rfl : args = #[v0, v1, v2, v3] := by cases args; simp_all
  obtain ⟨rfl, rfl⟩ := trodVars_none hV
  obtain ⟨a0, n0, c0, rfl⟩ := okWide_slice Try.underlying31 (hval 0 31 v0 rfl rfl)
  have kk0 := h0
  have lt0 : ∀ x ∈ p0, x.block < W.heap.size := by obtain ⟨m, hm⟩ := kk0; exact DataW.trod_lt m _ _ _ hm
  obtain ⟨l0, e0, g0, w0, b0, bm0⟩ : ∃ l : List (Int × Int), l.length = n0 ∧ Rd W W.heap.size a0 l ∧ (∀ q ∈ l, (Lit.int .i64 q.1).wf = true ∧ (Lit.int .i64 q.2).wf = true) ∧ n0 ≤ c0 ∧ c0 ≤ maxLen := by
    obtain ⟨fuel, hf⟩ := h0
    exact openS Try.underlying31 Try.underlying64 (by kernel_rfl) (by kernel_rfl) rfl rfl Try.underlying3 (by simpa [Value.cells] using hf)
  subst e0
  obtain ⟨a1, n1, c1, rfl⟩ := okWide_slice Try.underlying31 (hval 1 31 v1 rfl rfl)
  have kk1 := h1
  have lt1 : ∀ x ∈ p1, x.block < W.heap.size := by obtain ⟨m, hm⟩ := kk1; exact DataW.trod_lt m _ _ _ hm
  obtain ⟨l1, e1, g1, w1, b1, bm1⟩ : ∃ l : List (Int × Int), l.length = n1 ∧ Rd W W.heap.size a1 l ∧ (∀ q ∈ l, (Lit.int .i64 q.1).wf = true ∧ (Lit.int .i64 q.2).wf = true) ∧ n1 ≤ c1 ∧ c1 ≤ maxLen := by
    obtain ⟨fuel, hf⟩ := h1
    exact openS Try.underlying31 Try.underlying64 (by kernel_rfl) (by kernel_rfl) rfl rfl Try.underlying3 (by simpa [Value.cells] using hf)
  subst e1
  obtain ⟨n2, rfl, rfl, rfl, w2⟩ := open_int Try.underlying3 (hval 2 3 v2 rfl rfl) h2
  obtain ⟨a3, n3, c3, rfl⟩ := okWide_slice Try.underlying27 (hval 3 27 v3 rfl rfl)
  have kk3 := h3
  have lt3 : ∀ x ∈ p3, x.block < W.heap.size := by obtain ⟨m, hm⟩ := kk3; exact DataW.trod_lt m _ _ _ hm
  obtain ⟨l3, e3, g3, w3, b3, bm3⟩ : ∃ l : List Int, l.length = n3 ∧ RdI W W.heap.size .i64 a3 l ∧ (∀ z ∈ l, (Lit.int .i64 z).wf = true) ∧ n3 ≤ c3 ∧ c3 ≤ maxLen := by
    obtain ⟨fuel, hf⟩ := h3
    exact openI Try.underlying27 Try.underlying3 (by kernel_rfl) (by simpa [Value.cells] using hf)
  subst e3
  clear hA0 hval0
  refine (walkFnExactTiesOf a0 c0 l0 a1 c1 l1 n2 a3 c3 l3 W g0 b0 (by unfold maxLen at bm0; omega) g1 b1 (by unfold maxLen at bm1; omega) g3 b3 (by unfold maxLen at bm3; omega)).mono fun e W' ⟨he, bel⟩ => ?_
  subst he
  exact ⟨_, rfl, _, _, _, [], _, [], hW', trodAll_mk1 (shut_bool Try.underlying4 _), (trodAll_cons_mk (Below.trod laidOut_ (by kernel_rfl) (of_decide_eq_true (by kernel_rfl)) kk0 bel lt0) (trodAll_cons_mk (Below.trod laidOut_ (by kernel_rfl) (of_decide_eq_true (by kernel_rfl)) kk1 bel lt1) (trodAll_cons_mk (shut_int Try.underlying3 w2) (trodAll_cons_mk (Below.trod laidOut_ (by kernel_rfl) (of_decide_eq_true (by kernel_rfl)) kk3 bel lt3) trodAll_mk0)))), rfl, bel.frame _, fun h => by cases h⟩

theorem fnExactTiesOf_holds : Rows.FnExactTiesOfSaid :=
  OpenClaim.holds_of_wide 12 Try.f12 rfl rfl rfl rfl rfl rfl rfl ⟨rfl, rfl, rfl, rfl, rfl⟩ rfl rfl rfl rfl rfl (by kernel_rfl) Try.func12 (by kernel_rfl)
    (of_decide_eq_true (by kernel_rfl)) (by unfold Func.isWrapper; first | (rw [if_pos (by decide +kernel)]; kernel_rfl) | (rw [if_neg (by decide +kernel)]; exact ⟨rfl, rfl⟩))
    (fun os started H enc _ => liftedFnExactTiesOf os started H enc)

end Go.Proofs.Ytgfahnmkfgfibaa
