/- The statement FnTiesFitSaid: for all arguments the Go function laws.FnTiesFit returns true and leaves its arguments as they were. No condition. -/
import Derived.Test.YtihkdbgnoncgnaaJoinTop
import Derived.Test.YtihkdbgnoncgnaaJoinSpec
import Derived.Test.YtihkdbgnoncgnaaTop
import Derived.Test.YtihkdbgnoncgnaaMore
import Derived.Test.YtihkdbgnoncgnaaTiesMore
import Derived.Test.YtihkdbgnoncgnaaFrame
namespace Go.Proofs.Ytihkdbgnoncgnaa
open Go.ChangeShapes Go.WideShapes Go.ChangeAt Go.RowKit

set_option maxRecDepth 100000 in
set_option maxHeartbeats 4000000 in
theorem walkFnTiesFit (A0 : Option Addr) (c0 : Nat) (l0 : List Int) (w : World) (r0 : RdI w w.heap.size .u8 A0 l0) (y0 : ∀ x ∈ l0, 0 ≤ x ∧ x ≤ 255) (k0 : l0.length ≤ c0) (m0 : c0 ≤ 9223372036854775807) :
    Calls Try.prog 8 #[.slice A0 l0.length c0] w fun e w' => e = .returned (.bool true) ∧ Below w.heap.size w w' := by
  by_cases z0 : 1048576 < l0.length
  · clear r0 y0
    go_enter Try.func8, Try.ntmps8
    go_wp2_with fail
    go_ret
    exact ⟨rfl, Below.refl _ _⟩
  have Y0 := Lib.hid y0
  clear y0
  go_enter Try.func8, Try.ntmps8
  go_wp2_with fail
  refine (DrawTiesFit_any A0 c0 l0 _ r0 Y0.out (by omega) k0 m0).mono ?_
  rintro e u1 ⟨AL, cL, L, AM, cM, M, rfl, hL, hM, oL, oM, b1⟩
  have s1 := b1.size
  have t1 := b1
  have wL := own_cap oL
  have rL := Rd.of_own oL
  clear oL
  have wM := own_cap oM
  have rM := Rd.of_own oM
  clear oM
  clear b1
  clear r0
  go_wp2_with fail
  refine (tiesFit_any AL AM cL cM (L) (M) _ rL rM (by omega) (by omega)).mono ?_
  rintro e u2 ⟨rfl, b2⟩
  have s2 := b2.size
  have t2 := t1.trans (b2.mono t1.size)
  have rL := rL.to b2
  have rM := rM.to b2
  clear b2 t1
  go_wp2_with fail
  refine (specTiesFit_any AL AM cL cM (L) (M) _ rL rM (by omega) (by omega)).mono ?_
  rintro e u3 ⟨rfl, b3⟩
  have s3 := b3.size
  have t3 := t2.trans (b3.mono t2.size)
  have rL := rL.to b3
  have rM := rM.to b3
  clear b3 t2
  cases hok : fitV L M with
  | false =>
    go_wp2_with fail
    go_ret
    exact ⟨ret_bool (by simp), t3⟩
  | true =>
    obtain ⟨v1, v2, _⟩ := fitV_iff.1 hok
    have V1 := Lib.hid v1
    have V2 := Lib.hid v2
    have E1 := Lib.hid (fit_comm hok)
    have E2 := Lib.hid (fit_swap hok)
    have E3 := Lib.hid (fit_self v1)
    have E4 := Lib.hid (fit_self v2)
    have n1 := turnL_len L
    have n2 := turnL_len M
    clear v1 v2 hok
    go_wp2_with fail
    refine (tiesTurn_any AL cL (L) _ rL (by omega)).mono ?_
    rintro e u4 ⟨Ax, cx, rfl, ox, b4⟩
    have s4 := b4.size
    have t4 := t3.trans (b4.mono t3.size)
    have rL := rL.to b4
    have rM := rM.to b4
    have wx := own_cap ox
    have rx := Rd.of_own ox
    clear ox
    clear b4 t3
    rw [V1.out]
    go_wp2_with fail
    refine (tiesTurn_any AM cM (M) _ rM (by omega)).mono ?_
    rintro e u5 ⟨Ay, cy, rfl, oy, b5⟩
    have s5 := b5.size
    have t5 := t4.trans (b5.mono t4.size)
    have rL := rL.to b5
    have rM := rM.to b5
    have rx := rx.to b5
    have wy := own_cap oy
    have ry := Rd.of_own oy
    clear oy
    clear b5 t4
    rw [V2.out]
    go_wp2_with fail
    refine (tiesFit_any AM AL cM cL (M) (L) _ rM rL (by omega) (by omega)).mono ?_
    rintro e u6 ⟨rfl, b6⟩
    have s6 := b6.size
    have t6 := t5.trans (b6.mono t5.size)
    have rL := rL.to b6
    have rM := rM.to b6
    have rx := rx.to b6
    have ry := ry.to b6
    clear b6 t5
    rw [E1.out]
    go_wp2_with fail
    refine (tiesFit_any Ax Ay cx cy (turnL L) (turnL M) _ rx ry (by omega) (by omega)).mono ?_
    rintro e u7 ⟨rfl, b7⟩
    have s7 := b7.size
    have t7 := t6.trans (b7.mono t6.size)
    have rL := rL.to b7
    have rM := rM.to b7
    have rx := rx.to b7
    have ry := ry.to b7
    clear b7 t6
    rw [E2.out]
    go_wp2_with fail
    refine (tiesFit_any AL AL cL cL (L) (L) _ rL rL (by omega) (by omega)).mono ?_
    rintro e u8 ⟨rfl, b8⟩
    have s8 := b8.size
    have t8 := t7.trans (b8.mono t7.size)
    have rL := rL.to b8
    have rM := rM.to b8
    have rx := rx.to b8
    have ry := ry.to b8
    clear b8 t7
    rw [E3.out]
    go_wp2_with fail
    refine (tiesFit_any AM AM cM cM (M) (M) _ rM rM (by omega) (by omega)).mono ?_
    rintro e u9 ⟨rfl, b9⟩
    have s9 := b9.size
    have t9 := t8.trans (b9.mono t8.size)
    have rL := rL.to b9
    have rM := rM.to b9
    have rx := rx.to b9
    have ry := ry.to b9
    clear b9 t8
    rw [E4.out]
    go_wp2_with fail
    go_ret
    exact ⟨ret_bool (rfl), t9⟩

set_option maxRecDepth 100000 in
theorem liftedFnTiesFit (os : Os) (started : os.Started) (H : Type) (enc : TypeId × Value → H) :
    ReturnsInHanded {} Try.checked os 8 .any (Rows.fnTiesFitSpec.pre6 enc Try.prog Try.f8 Rows.fnTiesFitRow.domain false) (Rows.fnTiesFitSpec.post enc Try.prog Try.f8 false true false false) := by
  refine returnsInHanded_of_change (C := Try.checked) own_ started (by kernel_rfl) Try.func8
    (ChangeSpec.witness6 (enc := enc) (C := Try.checked) false ⟨#[], #[.slice none 0 0], []⟩ 8 (by kernel_rfl) (by kernel_rfl) (by kernel_rfl) (by kernel_rfl)) ?_
  intro W base args ds gs before hval0 hW hcnd _
  have hval : ∀ (j : Nat) t v, Try.f8.params[j]? = some t → args[j]? = some v → Value.okWide Try.prog W .any base t v := hval0
  have hW' := hW
  obtain ⟨p, q, hA0, hV, rfl, hfz, hnd⟩ := hW
  have hA : DataW.TrodAll enc Try.prog W 0 (fun _ => true) true Try.f8.params.toList args.toList ds p := hA0
  rw [Try.params8] at hA hval
  obtain ⟨v0, vs0, d0, ds0, p0, q0, hargs, rfl, rfl, h0, r0⟩ := trodAll_cons hA
  obtain ⟨rfl, rfl, rfl⟩ := trodAll_nil r0
  obtain rfl : args = #[v0] := by cases args; simp_all
  obtain ⟨rfl, rfl⟩ := trodVars_none hV
  obtain ⟨a0, n0, c0, rfl⟩ := okWide_slice Try.underlying22 (hval 0 22 v0 rfl rfl)
  have kk0 := h0
  have lt0 : ∀ x ∈ p0, x.block < W.heap.size := by obtain ⟨m, hm⟩ := kk0; exact DataW.trod_lt m _ _ _ hm
  obtain ⟨l0, e0, g0, w0, b0, bm0⟩ : ∃ l : List Int, l.length = n0 ∧ RdI W W.heap.size .u8 a0 l ∧ (∀ z ∈ l, (Lit.int .u8 z).wf = true) ∧ n0 ≤ c0 ∧ c0 ≤ maxLen := by
    obtain ⟨fuel, hf⟩ := h0
    exact openI Try.underlying22 Try.underlying5 (by kernel_rfl) (by simpa [Value.cells] using hf)
  subst e0
  clear hA0 hval0
  refine (walkFnTiesFit a0 c0 l0 W g0 (wf_bytes w0) b0 (by unfold maxLen at bm0; omega)).mono fun e W' ⟨he, bel⟩ => ?_
  subst he
  exact ⟨_, rfl, _, _, _, [], _, [], hW', trodAll_mk1 (shut_bool Try.underlying4 _), (trodAll_cons_mk (Below.trod laidOut_ (by kernel_rfl) (of_decide_eq_true (by kernel_rfl)) kk0 bel lt0) trodAll_mk0), rfl, bel.frame _, fun h => by cases h⟩

theorem fnTiesFit_holds : Rows.FnTiesFitSaid :=
  OpenClaim.holds_of_wide 8 Try.f8 rfl rfl rfl rfl rfl rfl rfl ⟨rfl, rfl, rfl, rfl, rfl⟩ rfl rfl rfl rfl rfl (by kernel_rfl) Try.func8 (by kernel_rfl)
    (of_decide_eq_true (by kernel_rfl)) (by unfold Func.isWrapper; first | (rw [if_pos (by decide +kernel)]; kernel_rfl) | (rw [if_neg (by decide +kernel)]; exact ⟨rfl, rfl⟩))
    (fun os started H enc _ => liftedFnTiesFit os started H enc)

end Go.Proofs.Ytihkdbgnoncgnaa
