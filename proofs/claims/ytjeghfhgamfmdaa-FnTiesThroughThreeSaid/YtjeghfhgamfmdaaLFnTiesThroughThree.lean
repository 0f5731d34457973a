/- The statement FnTiesThroughThreeSaid: for all arguments the Go function laws.FnTiesThroughThree returns true and leaves its arguments as they were. No condition. -/
import Derived.Test.YtjeghfhgamfmdaaThrough
import Derived.Test.YtjeghfhgamfmdaaThroughS
import Derived.Test.YtjeghfhgamfmdaaTop
import Derived.Test.YtjeghfhgamfmdaaDrawTT
import Derived.Test.YtjeghfhgamfmdaaTiesMore
import Derived.Test.YtjeghfhgamfmdaaFrame
namespace Go.Proofs.Ytjeghfhgamfmdaa
open Go.ChangeShapes Go.WideShapes Go.ChangeAt Go.RowKit

set_option maxHeartbeats 4000000 in
theorem walkFnTiesThroughThree (A0 : Option Addr) (c0 : Nat) (l0 : List Int) (w : World) (r0 : RdI w w.heap.size .u8 A0 l0) (y0 : ∀ x ∈ l0, 0 ≤ x ∧ x ≤ 255) (k0 : l0.length ≤ c0) (m0 : c0 ≤ 9223372036854775807) :
    Calls Try.prog 11 #[.slice A0 l0.length c0] w fun e w' => e = .returned (.bool true) ∧ Below w.heap.size w w' := by
  by_cases z0 : 1048576 < l0.length
  · clear r0 y0
    go_enter Try.func11, Try.ntmps11
    go_wp2_with fail
    go_ret
    exact ⟨rfl, Below.refl _ _⟩
  have Y0 := Lib.hid y0
  clear y0
  go_enter Try.func11, Try.ntmps11
  go_wp2_with fail
  refine (DrawTiesThrough_any A0 c0 l0 _ r0 Y0.out (by omega) k0 m0).mono ?_
  rintro e u1 ⟨AL, cL, L, AM, cM, M, rfl, hL, hM, _, _, oL, oM, b1⟩
  have s1 := b1.size
  have t1 := b1
  have rL := Rd.of_own oL
  clear oL
  have rM := Rd.of_own oM
  clear oM
  clear b1
  clear r0
  have hr := thrL_len L M
  go_wp2_with fail
  refine (through_any AL AM cL cM (L) (M) _ rL rM (by omega) (by omega)).mono ?_
  rintro e u2 ⟨Ao, co, rfl, oo, b2⟩
  have s2 := b2.size
  have t2 := t1.trans (b2.mono t1.size)
  have rL := rL.to b2
  have rM := rM.to b2
  have ro := Rd.of_own oo
  clear oo
  clear b2 t1
  go_wp2_with fail
  refine (specThrough_any AL AM cL cM (L) (M) _ rL rM (by omega) (by omega)).mono ?_
  rintro e u3 ⟨Aw, cw, rfl, ow, b3⟩
  have s3 := b3.size
  have t3 := t2.trans (b3.mono t2.size)
  have rL := rL.to b3
  have rM := rM.to b3
  have ro := ro.to b3
  have rw := Rd.of_own ow
  clear ow
  clear b3 t2
  go_wp2_with fail
  generalize hok : (tv L && tv M) = ok
  cases ok with
  | false =>
    go_wp2_with fail
    refine (sameTies_any Ao Aw co cw (thrL L M) (thrL L M) _ ro rw (by omega)).mono ?_
    rintro e u4 ⟨rfl, b4⟩
    have s4 := b4.size
    have t4 := t3.trans (b4.mono t3.size)
    have rL := rL.to b4
    have rM := rM.to b4
    have ro := ro.to b4
    have rw := rw.to b4
    clear b4 t3
    go_wp2_with fail
    refine (sameTies_any Ao Aw co cw (thrL L M) (thrL L M) _ ro rw (by omega)).mono ?_
    rintro e u5 ⟨rfl, b5⟩
    have s5 := b5.size
    have t5 := t4.trans (b5.mono t4.size)
    have rL := rL.to b5
    have rM := rM.to b5
    have ro := ro.to b5
    have rw := rw.to b5
    clear b5 t4
    go_wp2_with fail
    go_ret
    exact ⟨ret_bool (by simp), t5⟩
  | true =>
    go_wp2_with fail
    refine (sameTies_any Ao Aw co cw (thrL L M) (thrL L M) _ ro rw (by omega)).mono ?_
    rintro e u4 ⟨rfl, b4⟩
    have s4 := b4.size
    have t4 := t3.trans (b4.mono t3.size)
    have rL := rL.to b4
    have rM := rM.to b4
    have ro := ro.to b4
    have rw := rw.to b4
    clear b4 t3
    clear rw
    have hvL : tv L = true := by cases h : tv L <;> simp_all
    have hvM : tv M = true := by cases h : tv M <;> simp_all
    have pL := ((tv_iff L).1 hvL).2.1
    have pM := ((tv_iff M).1 hvM).2.1
    have E := Lib.hid (thrL_yes hok)
    clear hok
    have v1 := tv_turnL hvL
    have hvT : tv (thrL L M) = true := by rw [E.out]; exact tv_thr hvL hvM
    have hvU : tv (thrL M (turnL L)) = true := by rw [thrL_yes (by rw [hvM, v1]; rfl)]; exact tv_thr hvM v1
    have e1 : thrL (thrL L M) (turnL L) = thrL L (thrL M (turnL L)) := by
      rw [thrL_yes (by rw [hvT, v1]; rfl), thrL_yes (a := L) (b := thrL M (turnL L)) (by rw [hvL, hvU]; rfl), E.out, thrL_yes (a := M) (b := turnL L) (by rw [hvM, v1]; rfl), thr_assoc pL pM ((tv_iff _).1 v1).2.1]
    have E1 := Lib.hid e1
    clear e1
    have n1 := turnL_len L
    have n2 := thrL_len (thrL L M) (turnL L)
    have n3 := thrL_len M (turnL L)
    have n4 := thrL_len L (thrL M (turnL L))
    go_wp2_with fail
    refine (tiesTurn_any AL cL (L) _ rL (by omega)).mono ?_
    rintro e u5 ⟨Ax, cx, rfl, ox, b5⟩
    have s5 := b5.size
    have t5 := t4.trans (b5.mono t4.size)
    have rL := rL.to b5
    have rM := rM.to b5
    have ro := ro.to b5
    have rx := Rd.of_own ox
    clear ox
    clear b5 t4
    go_wp2_with fail
    refine (through_any Ao Ax co cx (thrL L M) (turnL L) _ ro rx (by omega) (by omega)).mono ?_
    rintro e u6 ⟨Ap, cp, rfl, op, b6⟩
    have s6 := b6.size
    have t6 := t5.trans (b6.mono t5.size)
    have rL := rL.to b6
    have rM := rM.to b6
    have ro := ro.to b6
    have rx := rx.to b6
    have rp := Rd.of_own op
    clear op
    clear b6 t5
    go_wp2_with fail
    refine (through_any AM Ax cM cx (M) (turnL L) _ rM rx (by omega) (by omega)).mono ?_
    rintro e u7 ⟨Aq, cq, rfl, oq, b7⟩
    have s7 := b7.size
    have t7 := t6.trans (b7.mono t6.size)
    have rL := rL.to b7
    have rM := rM.to b7
    have ro := ro.to b7
    have rx := rx.to b7
    have rp := rp.to b7
    have rq := Rd.of_own oq
    clear oq
    clear b7 t6
    go_wp2_with fail
    refine (through_any AL Aq cL cq (L) (thrL M (turnL L)) _ rL rq (by omega) (by omega)).mono ?_
    rintro e u8 ⟨Az, cz, rfl, oz, b8⟩
    have s8 := b8.size
    have t8 := t7.trans (b8.mono t7.size)
    have rL := rL.to b8
    have rM := rM.to b8
    have ro := ro.to b8
    have rx := rx.to b8
    have rp := rp.to b8
    have rq := rq.to b8
    have rz := Rd.of_own oz
    clear oz
    clear b8 t7
    have hd : decide (thrL (thrL L M) (turnL L) = thrL L (thrL M (turnL L))) = true := by rw [E1.out]; simp
    go_wp2_with fail
    refine (sameTies_any Ap Az cp cz (thrL (thrL L M) (turnL L)) (thrL L (thrL M (turnL L))) _ rp rz (by omega)).mono ?_
    rintro e u9 ⟨rfl, b9⟩
    have s9 := b9.size
    have t9 := t8.trans (b9.mono t8.size)
    have rL := rL.to b9
    have rM := rM.to b9
    have ro := ro.to b9
    have rx := rx.to b9
    have rp := rp.to b9
    have rq := rq.to b9
    have rz := rz.to b9
    clear b9 t8
    go_wp2_with fail
    go_ret
    exact ⟨ret_bool (rfl), t9⟩

set_option maxRecDepth 100000 in
theorem liftedFnTiesThroughThree (os : Os) (started : os.Started) (H : Type) (enc : TypeId × Value → H) :
    ReturnsInHanded {} Try.checked os 11 .any (Rows.fnTiesThroughThreeSpec.pre6 enc Try.prog Try.f11 Rows.fnTiesThroughThreeRow.domain false) (Rows.fnTiesThroughThreeSpec.post enc Try.prog Try.f11 false true false false) := by
  refine returnsInHanded_of_change (C := Try.checked) own_ started (by kernel_rfl) Try.func11
    (ChangeSpec.witness6 (enc := enc) (C := Try.checked) false ⟨#[], #[.slice none 0 0], []⟩ 8 (by kernel_rfl) (by kernel_rfl) (by kernel_rfl) (by kernel_rfl)) ?_
  intro W base args ds gs before hval0 hW hcnd _
  have hval : ∀ (j : Nat) t v, Try.f11.params[j]? = some t → args[j]? = some v → Value.okWide Try.prog W .any base t v := hval0
  have hW' := hW
  obtain ⟨p, q, hA0, hV, rfl, hfz, hnd⟩ := hW
  have hA : DataW.TrodAll enc Try.prog W 0 (fun _ => true) true Try.f11.params.toList args.toList ds p := hA0
  rw [Try.params11] at hA hval
  obtain ⟨v0, vs0, d0, ds0, p0, q0, hargs, rfl, rfl, h0, r0⟩ := trodAll_cons hA
  obtain ⟨rfl, rfl, rfl⟩ := trodAll_nil r0
  obtain rfl : args = #[v0] := by cases args; simp_all
  obtain ⟨rfl, rfl⟩ := trodVars_none hV
  obtain ⟨a0, n0, c0, rfl⟩ := okWide_slice Try.underlying29 (hval 0 29 v0 rfl rfl)
  have kk0 := h0
  have lt0 : ∀ x ∈ p0, x.block < W.heap.size := by obtain ⟨m, hm⟩ := kk0; exact DataW.trod_lt m _ _ _ hm
  obtain ⟨l0, e0, g0, w0, b0, bm0⟩ : ∃ l : List Int, l.length = n0 ∧ RdI W W.heap.size .u8 a0 l ∧ (∀ z ∈ l, (Lit.int .u8 z).wf = true) ∧ n0 ≤ c0 ∧ c0 ≤ maxLen := by
    obtain ⟨fuel, hf⟩ := h0
    exact openI Try.underlying29 Try.underlying5 (by kernel_rfl) (by simpa [Value.cells] using hf)
  subst e0
  clear hA0 hval0
  refine (walkFnTiesThroughThree a0 c0 l0 W g0 (wf_bytes w0) b0 (by unfold maxLen at bm0; omega)).mono fun e W' ⟨he, bel⟩ => ?_
  subst he
  exact ⟨_, rfl, _, _, _, [], _, [], hW', trodAll_mk1 (shut_bool Try.underlying4 _), (trodAll_cons_mk (Below.trod laidOut_ (by kernel_rfl) (of_decide_eq_true (by kernel_rfl)) kk0 bel lt0) trodAll_mk0), rfl, bel.frame _, fun h => by cases h⟩

theorem fnTiesThroughThree_holds : Rows.FnTiesThroughThreeSaid :=
  OpenClaim.holds_of_wide 11 Try.f11 rfl rfl rfl rfl rfl rfl rfl ⟨rfl, rfl, rfl, rfl, rfl⟩ rfl rfl rfl rfl rfl (by kernel_rfl) Try.func11 (by kernel_rfl)
    (of_decide_eq_true (by kernel_rfl)) (by unfold Func.isWrapper; first | (rw [if_pos (by decide +kernel)]; kernel_rfl) | (rw [if_neg (by decide +kernel)]; exact ⟨rfl, rfl⟩))
    (fun os started H enc _ => liftedFnTiesThroughThree os started H enc)

end Go.Proofs.Ytjeghfhgamfmdaa
