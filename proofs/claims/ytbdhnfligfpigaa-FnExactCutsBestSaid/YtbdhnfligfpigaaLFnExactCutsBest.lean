/- The statement FnExactCutsBestSaid: for all arguments the Go function laws.FnExactCutsBest returns true and leaves its arguments as they were. No condition. -/
import Derived.Test.YtbdhnfligfpigaaCBest
import Derived.Test.YtbdhnfligfpigaaCBestS
import Derived.Test.YtbdhnfligfpigaaInts
import Derived.Test.YtbdhnfligfpigaaObj
import Derived.Test.YtbdhnfligfpigaaFrame
namespace Go.Proofs.Ytbdhnfligfpigaa
open Go.ChangeShapes Go.WideShapes Go.ChangeAt Go.RowKit

set_option maxHeartbeats 4000000 in
theorem walkFnExactCutsBest (A0 : Option Addr) (c0 : Nat) (l0 : List Int) (n1 : Int) (n2 : Int) (w : World) (r0 : RdI w w.heap.size .i64 A0 l0) (k0 : l0.length ≤ c0) (m0 : c0 ≤ 9223372036854775807)   :
    Calls Try.prog 3 #[.slice A0 l0.length c0, .int .i64 n1, .int .i64 n2] w fun e w' => e = .returned (.bool true) ∧ Below w.heap.size w w' := by
  have hm0 := Nat.le_trans k0 m0
  by_cases z0 : 1048576 < l0.length
  · clear r0
    go_enter Try.func3, Try.ntmps3
    go_wp2
    go_ret
    exact ⟨rfl, Below.refl _ _⟩
  have hres := bestC_len l0 n1 n2
  go_enter Try.func3, Try.ntmps3
  have t0 : Below w.heap.size w w := Below.refl _ _
  go_wp2_with fail
  refine (toIntS_any A0 c0 l0 _ (r0.to t0) (by omega)).mono ?_
  rintro e u1 ⟨Ap0, cp0, rfl, op0, b1⟩
  have s1 := b1.size
  have t1 := t0.trans (b1.mono t0.size)
  go_wp2_with fail
  refine (specCutsBest_any Ap0 cp0 l0 n1 n2 _ (RdI.of_own op0) (by omega)).mono ?_
  rintro e u2 ⟨Aw, cw, rfl, ow, b2⟩
  have kw := ow
  have s2 := b2.size
  have t2 := t1.trans (b2.mono t1.size)
  have op0 := own_keep op0 b2
  go_wp2_with fail
  refine (toIntS_any A0 c0 l0 _ (r0.to t2) (by omega)).mono ?_
  rintro e u3 ⟨Ax0, cx0, rfl, ox0, b3⟩
  have kx0 := ox0
  have s3 := b3.size
  have t3 := t2.trans (b3.mono t2.size)
  have op0 := own_keep op0 b3
  have ow := own_keep ow b3
  go_wp2_with fail
  refine (cutsBest_any Ax0 cx0 l0 n1 n2 _ (RdI.of_own ox0) (by omega)).mono ?_
  rintro e u4 ⟨Ag, cg, rfl, og, b4⟩
  have kg := og
  have s4 := b4.size
  have t4 := t3.trans (b4.mono t3.size)
  have op0 := own_keep op0 b4
  have ow := own_keep ow b4
  have ox0 := own_keep ox0 b4
  go_wp2_with fail
  refine (eqIntS_any Ag Aw cg cw _ _ _ (RdI.of_own og) (RdI.of_own ow) (by omega)).mono ?_
  rintro e u5 ⟨rfl, b5⟩
  have s5 := b5.size
  have t5 := t4.trans (b5.mono t4.size)
  have op0 := own_keep op0 b5
  have ow := own_keep ow b5
  have ox0 := own_keep ox0 b5
  have og := own_keep og b5
  go_wp2_with fail
  refine (toIntS_any A0 c0 l0 _ (r0.to t5) (by omega)).mono ?_
  rintro e u6 ⟨Aq0, cq0, rfl, oq0, b6⟩
  have s6 := b6.size
  have t6 := t5.trans (b6.mono t5.size)
  have op0 := own_keep op0 b6
  have ow := own_keep ow b6
  have ox0 := own_keep ox0 b6
  have og := own_keep og b6
  go_wp2_with fail
  refine (eqIntS_any Ax0 Aq0 cx0 cq0 _ _ _ (RdI.of_own ox0) (RdI.of_own oq0) (by omega)).mono ?_
  rintro e u7 ⟨rfl, b7⟩
  have s7 := b7.size
  have t7 := t6.trans (b7.mono t6.size)
  have op0 := own_keep op0 b7
  have ow := own_keep ow b7
  have ox0 := own_keep ox0 b7
  have og := own_keep og b7
  have oq0 := own_keep oq0 b7
  go_wp2_with fail
  refine (markIntS_any _ Ax0 cx0 (l0).length _ (1) _ ox0 (by omega) (by omega) (by omega)).mono ?_
  rintro e u8 ⟨rfl, mx0, gr8⟩
  have s8 := gr8.size
  have t8 := below_mark t7 ox0 gr8 (by omega)
  have ow := ow.kept gr8 (own_apart kw kx0 (by omega)).1
  have og := og.kept gr8 (own_apart kx0 kg (by omega)).2
  go_wp2_with fail
  refine (eqIntS_any Ag Aw cg cw _ _ _ (RdI.of_own og) (RdI.of_own ow) (by omega)).mono ?_
  rintro e u9 ⟨rfl, b9⟩
  have s9 := b9.size
  have t9 := t8.trans (b9.mono t8.size)
  have ow := own_keep ow b9
  have og := own_keep og b9
  go_wp2_with fail
  refine (markIntS_any _ Ag cg (bestC l0 n1 n2).length _ (1) _ og (by omega) (by omega) (by omega)).mono ?_
  rintro e u10 ⟨rfl, mg, gr10⟩
  have s10 := gr10.size
  have t10 := below_mark t9 og gr10 (by omega)
  have ow := ow.kept gr10 (own_apart kw kg (by omega)).1
  go_wp2_with fail
  refine (heldIntS_any Ag cg (bestC l0 n1 n2).length 1 _ mg (by omega) (by omega) (by omega)).mono ?_
  rintro e uh ⟨rfl, rfl⟩
  go_wp2_with fail
  refine (toIntS_any A0 c0 l0 _ (r0.to t10) (by omega)).mono ?_
  rintro e u11 ⟨Ay0, cy0, rfl, oy0, b11⟩
  have s11 := b11.size
  have t11 := t10.trans (b11.mono t10.size)
  have ow := own_keep ow b11
  have mg := mg.to b11
  go_wp2_with fail
  refine (cutsBest_any Ay0 cy0 l0 n1 n2 _ (RdI.of_own oy0) (by omega)).mono ?_
  rintro e u12 ⟨Ah, ch, rfl, oh, b12⟩
  have s12 := b12.size
  have t12 := t11.trans (b12.mono t11.size)
  have ow := own_keep ow b12
  have oy0 := own_keep oy0 b12
  have mg := mg.to b12
  go_wp2_with fail
  refine (eqIntS_any Ah Aw ch cw _ _ _ (RdI.of_own oh) (RdI.of_own ow) (by omega)).mono ?_
  rintro e u13 ⟨rfl, b13⟩
  have s13 := b13.size
  have t13 := t12.trans (b13.mono t12.size)
  have ow := own_keep ow b13
  have oy0 := own_keep oy0 b13
  have oh := own_keep oh b13
  have mg := mg.to b13
  go_wp2_with fail
  refine (heldIntS_any Ag cg (bestC l0 n1 n2).length 1 _ mg (by omega) (by omega) (by omega)).mono ?_
  rintro e uh ⟨rfl, rfl⟩
  go_wp2
  go_ret
  exact ⟨ret_bool (by simp), t13⟩

set_option maxRecDepth 100000 in
theorem liftedFnExactCutsBest (os : Os) (started : os.Started) (H : Type) (enc : TypeId × Value → H) :
    ReturnsInHanded {} Try.checked os 3 .any (Rows.fnExactCutsBestSpec.pre6 enc Try.prog Try.f3 Rows.fnExactCutsBestRow.domain false) (Rows.fnExactCutsBestSpec.post enc Try.prog Try.f3 false true false false) := by
  refine returnsInHanded_of_change (C := Try.checked) own_ started (by kernel_rfl) Try.func3
    (ChangeSpec.witness6 (enc := enc) (C := Try.checked) false ⟨#[], #[.slice none 0 0, .int .i64 0, .int .i64 0], []⟩ 8 (by kernel_rfl) (by kernel_rfl) (by kernel_rfl) (by kernel_rfl)) ?_
  intro W base args ds gs before hval0 hW hcnd _
  have hval : ∀ (j : Nat) t v, Try.f3.params[j]? = some t → args[j]? = some v → Value.okWide Try.prog W .any base t v := hval0
  have hW' := hW
  obtain ⟨p, q, hA0, hV, rfl, hfz, hnd⟩ := hW
  have hA : DataW.TrodAll enc Try.prog W 0 (fun _ => true) true Try.f3.params.toList args.toList ds p := hA0
  rw [Try.params3] at hA hval
  obtain ⟨v0, vs0, d0, ds0, p0, q0, hargs, rfl, rfl, h0, r0⟩ := trodAll_cons hA
  obtain ⟨v1, vs1, d1, ds1, p1, q1, rfl, rfl, rfl, h1, r1⟩ := trodAll_cons r0
  obtain ⟨v2, vs2, d2, ds2, p2, q2, rfl, rfl, rfl, h2, r2⟩ := trodAll_cons r1
  obtain ⟨rfl, rfl, rfl⟩ := trodAll_nil r2
  obtain rfl : args = #[v0, v1, v2] := by cases args; simp_all
  obtain ⟨rfl, rfl⟩ := trodVars_none hV
  obtain ⟨a0, n0, c0, rfl⟩ := okWide_slice Try.underlying22 (hval 0 22 v0 rfl rfl)
  have kk0 := h0
  have lt0 : ∀ x ∈ p0, x.block < W.heap.size := by obtain ⟨m, hm⟩ := kk0; exact DataW.trod_lt m _ _ _ hm
  obtain ⟨l0, e0, g0, w0, b0, bm0⟩ : ∃ l : List Int, l.length = n0 ∧ RdI W W.heap.size .i64 a0 l ∧ (∀ z ∈ l, (Lit.int .i64 z).wf = true) ∧ n0 ≤ c0 ∧ c0 ≤ maxLen := by
    obtain ⟨fuel, hf⟩ := h0
    exact openI Try.underlying22 Try.underlying3 (by kernel_rfl) (by simpa [Value.cells] using hf)
  subst e0
  obtain ⟨n1, rfl, rfl, rfl, w1⟩ := open_int Try.underlying3 (hval 1 3 v1 rfl rfl) h1
  obtain ⟨n2, rfl, rfl, rfl, w2⟩ := open_int Try.underlying3 (hval 2 3 v2 rfl rfl) h2
  clear hA0 hval0
  refine (walkFnExactCutsBest a0 c0 l0 n1 n2 W g0 b0 (by unfold maxLen at bm0; omega)).mono fun e W' ⟨he, bel⟩ => ?_
  subst he
  exact ⟨_, rfl, _, _, _, [], _, [], hW', trodAll_mk1 (shut_bool Try.underlying4 _), (trodAll_cons_mk (Below.trod laidOut_ (by kernel_rfl) (of_decide_eq_true (by kernel_rfl)) kk0 bel lt0) (trodAll_cons_mk (shut_int Try.underlying3 w1) (trodAll_cons_mk (shut_int Try.underlying3 w2) trodAll_mk0))), rfl, bel.frame _, fun h => by cases h⟩

theorem fnExactCutsBest_holds : Rows.FnExactCutsBestSaid :=
  OpenClaim.holds_of_wide 3 Try.f3 rfl rfl rfl rfl rfl rfl rfl ⟨rfl, rfl, rfl, rfl, rfl⟩ rfl rfl rfl rfl rfl (by kernel_rfl) Try.func3 (by kernel_rfl)
    (of_decide_eq_true (by kernel_rfl)) (by unfold Func.isWrapper; first | (rw [if_pos (by decide +kernel)]; kernel_rfl) | (rw [if_neg (by decide +kernel)]; exact ⟨rfl, rfl⟩))
    (fun os started H enc _ => liftedFnExactCutsBest os started H enc)

end Go.Proofs.Ytbdhnfligfpigaa
