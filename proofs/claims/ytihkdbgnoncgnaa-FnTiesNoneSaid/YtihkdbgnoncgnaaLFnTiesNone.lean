/- The statement FnTiesNoneSaid: for all arguments the Go function laws.FnTiesNone returns true and leaves its arguments as they were. No condition. -/
import Derived.Test.YtihkdbgnoncgnaaJoinTop
import Derived.Test.YtihkdbgnoncgnaaJoinSpec
import Derived.Test.YtihkdbgnoncgnaaThrough
import Derived.Test.YtihkdbgnoncgnaaTop
import Derived.Test.YtihkdbgnoncgnaaDrawT
import Derived.Test.YtihkdbgnoncgnaaTiesMore
import Derived.Test.YtihkdbgnoncgnaaFrame
namespace Go.Proofs.Ytihkdbgnoncgnaa
open Go.ChangeShapes Go.WideShapes Go.ChangeAt Go.RowKit

set_option maxRecDepth 100000 in
set_option maxHeartbeats 4000000 in
theorem walkFnTiesNone (A0 : Option Addr) (c0 : Nat) (l0 : List Int) (w : World) (r0 : RdI w w.heap.size .u8 A0 l0) (y0 : ∀ x ∈ l0, 0 ≤ x ∧ x ≤ 255) (k0 : l0.length ≤ c0) (m0 : c0 ≤ 9223372036854775807) :
    Calls Try.prog 5 #[.slice A0 l0.length c0] w fun e w' => e = .returned (.bool true) ∧ Below w.heap.size w w' := by
  by_cases z0 : 1048576 < l0.length
  · clear r0 y0
    go_enter Try.func5, Try.ntmps5
    go_wp2_with fail
    go_ret
    exact ⟨rfl, Below.refl _ _⟩
  have Y0 := Lib.hid y0
  clear y0
  go_enter Try.func5, Try.ntmps5
  go_wp2_with fail
  refine (DrawTiesValid_any A0 c0 l0 _ r0 Y0.out (by omega) k0 m0).mono ?_
  rintro e u1 ⟨AL, cL, L, rfl, hL, _, oL, b1⟩
  have s1 := b1.size
  have t1 := b1
  have rL := Rd.of_own oL
  clear oL
  clear b1
  clear r0
  go_wp2_with fail
  refine (tiesValid_any AL cL (L) _ rL (by omega)).mono ?_
  rintro e u2 ⟨rfl, b2⟩
  have s2 := b2.size
  have t2 := t1.trans (b2.mono t1.size)
  have rL := rL.to b2
  clear b2 t1
  go_wp2_with fail
  refine (specTiesValid_any AL cL (L) _ rL (by omega)).mono ?_
  rintro e u3 ⟨rfl, b3⟩
  have s3 := b3.size
  have t3 := t2.trans (b3.mono t2.size)
  have rL := rL.to b3
  clear b3 t2
  cases hv : tv L with
  | false =>
    go_wp2_with fail
    go_ret
    exact ⟨ret_bool (by simp), t3⟩
  | true =>
    obtain ⟨f1, f2⟩ := fit_none hv
    have F1 := Lib.hid f1
    have F2 := Lib.hid f2
    have V1 := Lib.hid (show (tv L && tv []) = true by rw [hv, tv_nil]; rfl)
    have V2 := Lib.hid (show (tv [] && tv L) = true by rw [hv, tv_nil]; rfl)
    have T1 := Lib.hid (show thrL L [] = [] by rw [thrL_yes V1.out]; exact List.eq_nil_of_length_eq_zero (by have := length_thr_right (a := L) (b := []) ((tv_iff L).1 hv).2.1 List.Pairwise.nil; simpa using this))
    have T2 := Lib.hid (show thrL [] L = [] by rw [thrL_yes V2.out]; rfl)
    clear f1 f2 hv
    go_wp2_with fail
    have b4 : Below u3.heap.size u3 (u3.alloc (.cells #[] 40)) := (Below.refl _ _).alloc (Nat.le_refl _) _
    have s4 := b4.size
    have t4 := t3.trans (b4.mono t3.size)
    have rL := rL.to b4
    generalize u3.alloc (.cells #[] 40) = u4 at *
    clear b4 t3
    go_wp2_with fail
    refine (through_any AL _ cL _ L [] _ rL Rd.nil_ (by omega) (by simp)).mono ?_
    rintro e u5 ⟨Ax, cx, rfl, ox, b5⟩
    have s5 := b5.size
    have t5 := t4.trans (b5.mono t4.size)
    have rL := rL.to b5
    clear b5 t4
    clear ox
    rw [T1.out, V1.out]
    go_wp2_with fail
    refine (through_any _ AL _ cL [] L _ Rd.nil_ rL (by simp) (by omega)).mono ?_
    rintro e u6 ⟨Ay, cy, rfl, oy, b6⟩
    have s6 := b6.size
    have t6 := t5.trans (b6.mono t5.size)
    have rL := rL.to b6
    clear b6 t5
    clear oy
    rw [T2.out, V2.out]
    go_wp2_with fail
    refine (tiesFit_any AL _ cL _ L [] _ rL Rd.nil_ (by omega) (by simp)).mono ?_
    rintro e u7 ⟨rfl, b7⟩
    have s7 := b7.size
    have t7 := t6.trans (b7.mono t6.size)
    have rL := rL.to b7
    clear b7 t6
    rw [F1.out]
    go_wp2_with fail
    refine (tiesFit_any _ AL _ cL [] L _ Rd.nil_ rL (by simp) (by omega)).mono ?_
    rintro e u8 ⟨rfl, b8⟩
    have s8 := b8.size
    have t8 := t7.trans (b8.mono t7.size)
    have rL := rL.to b8
    clear b8 t7
    rw [F2.out]
    go_wp2_with fail
    go_ret
    exact ⟨ret_bool (by first | rfl | simp), t8⟩

set_option maxRecDepth 100000 in
theorem liftedFnTiesNone (os : Os) (started : os.Started) (H : Type) (enc : TypeId × Value → H) :
    ReturnsInHanded {} Try.checked os 5 .any (Rows.fnTiesNoneSpec.pre6 enc Try.prog Try.f5 Rows.fnTiesNoneRow.domain false) (Rows.fnTiesNoneSpec.post enc Try.prog Try.f5 false true false false) := by
  refine returnsInHanded_of_change (C := Try.checked) own_ started (by kernel_rfl) Try.func5
    (ChangeSpec.witness6 (enc := enc) (C := Try.checked) false ⟨#[], #[.slice none 0 0], []⟩ 8 (by kernel_rfl) (by kernel_rfl) (by kernel_rfl) (by kernel_rfl)) ?_
  intro W base args ds gs before hval0 hW hcnd _
  have hval : ∀ (j : Nat) t v, Try.f5.params[j]? = some t → args[j]? = some v → Value.okWide Try.prog W .any base t v := hval0
  have hW' := hW
  obtain ⟨p, q, hA0, hV, rfl, hfz, hnd⟩ := hW
  have hA : DataW.TrodAll enc Try.prog W 0 (fun _ => true) true Try.f5.params.toList args.toList ds p := hA0
  rw [Try.params5] at hA hval
  obtain ⟨v0, vs0, d0, ds0, p0, q0, hargs, rfl, rfl, h0, r0⟩ := trodAll_cons hA
  obtain ⟨rfl, rfl, rfl⟩ := trodAll_nil r0
  obtain rfl : args = #[v0] := by cases args; simp_all
  obtain ⟨rfl, rfl⟩ := trodVars_none hV
  obtain ⟨a0, n0, c0, rfl⟩ := okWide_slice Try.underlying22 (hval 0 22 v0 rfl rfl)
  have kk0 := h0
  have lt0 : ∀ x ∈ p0, x.block < W.heap.size := by obtain ⟨m, hm⟩ := kk0; exact DataW.trod_lt m _ _ _ hm
  obtain ⟨l0, e0, g0, w0, b0, bm0⟩ : ∃ l : List Int, l.length = n0 ∧ RdI W W.heap.size .u8 a0 l ∧ (∀ z ∈ l, (Lit.int .u8 z).wf = true) ∧ n0 ≤ c0 ∧ c0 ≤ maxLen := by
    obtain ⟨fuel, hf⟩ := h0
    exact openI Try.underlying22 Try.underlying5 (by kernel_rfl) (by simpa [Value.cells] using hf)
  subst e0
  clear hA0 hval0
  refine (walkFnTiesNone a0 c0 l0 W g0 (wf_bytes w0) b0 (by unfold maxLen at bm0; omega)).mono fun e W' ⟨he, bel⟩ => ?_
  subst he
  exact ⟨_, rfl, _, _, _, [], _, [], hW', trodAll_mk1 (shut_bool Try.underlying4 _), (trodAll_cons_mk (Below.trod laidOut_ (by kernel_rfl) (of_decide_eq_true (by kernel_rfl)) kk0 bel lt0) trodAll_mk0), rfl, bel.frame _, fun h => by cases h⟩

theorem fnTiesNone_holds : Rows.FnTiesNoneSaid :=
  OpenClaim.holds_of_wide 5 Try.f5 rfl rfl rfl rfl rfl rfl rfl ⟨rfl, rfl, rfl, rfl, rfl⟩ rfl rfl rfl rfl rfl (by kernel_rfl) Try.func5 (by kernel_rfl)
    (of_decide_eq_true (by kernel_rfl)) (by unfold Func.isWrapper; first | (rw [if_pos (by decide +kernel)]; kernel_rfl) | (rw [if_neg (by decide +kernel)]; exact ⟨rfl, rfl⟩))
    (fun os started H enc _ => liftedFnTiesNone os started H enc)

end Go.Proofs.Ytihkdbgnoncgnaa
