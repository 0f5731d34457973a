/- The statement FnTiesJoinNoneSaid: for all arguments the Go function laws.FnTiesJoinNone returns true and leaves its arguments as they were. No condition. -/
import Derived.Test.YtihkdbgnoncgnaaJoinTop
import Derived.Test.YtihkdbgnoncgnaaJoinSpec
import Derived.Test.YtihkdbgnoncgnaaTop
import Derived.Test.YtihkdbgnoncgnaaMore
import Derived.Test.YtihkdbgnoncgnaaTiesMore
import Derived.Test.YtihkdbgnoncgnaaFrame
namespace Go.Proofs.Ytihkdbgnoncgnaa
open Go.ChangeShapes Go.WideShapes Go.ChangeAt Go.RowKit

set_option maxRecDepth 100000 in
set_option maxHeartbeats 4000000 in
theorem walkFnTiesJoinNone (A0 : Option Addr) (c0 : Nat) (l0 : List Int) (w : World) (r0 : RdI w w.heap.size .u8 A0 l0) (y0 : ∀ x ∈ l0, 0 ≤ x ∧ x ≤ 255) (k0 : l0.length ≤ c0) (m0 : c0 ≤ 9223372036854775807) :
    Calls Try.prog 3 #[.slice A0 l0.length c0] w fun e w' => e = .returned (.bool true) ∧ Below w.heap.size w w' := by
  by_cases z0 : 1048576 < l0.length
  · clear r0 y0
    go_enter Try.func3, Try.ntmps3
    go_wp2_with fail
    go_ret
    exact ⟨rfl, Below.refl _ _⟩
  have Y0 := Lib.hid y0
  clear y0
  go_enter Try.func3, Try.ntmps3
  go_wp2_with fail
  refine (DrawTiesJoin_any A0 c0 l0 _ r0 Y0.out (by omega) k0 m0).mono ?_
  rintro e u1 ⟨AL, cL, L, AM, cM, M, rfl, hL, hM, oL, oM, b1⟩
  have s1 := b1.size
  have t1 := b1
  have wL := own_cap oL
  have rL := Rd.of_own oL
  clear oL
  have wM := own_cap oM
  have rM := Rd.of_own oM
  clear oM
  clear b1
  clear r0
  have hbl := jL_len L M
  go_wp2_with fail
  refine (tiesJoin_any AL AM cL cM (L) (M) _ rL rM (by omega) (by omega)).mono ?_
  rintro e u2 ⟨Ao, rfl, oo, b2⟩
  have s2 := b2.size
  have t2 := t1.trans (b2.mono t1.size)
  have rL := rL.to b2
  have rM := rM.to b2
  clear b2 t1
  have ro := oo.rd
  clear oo
  go_wp2_with fail
  refine (specTiesJoin_any AL AM cL cM (L) (M) _ rL rM (by omega) (by omega)).mono ?_
  rintro e u3 ⟨Aw, cw, rfl, ow, b3⟩
  have s3 := b3.size
  have t3 := t2.trans (b3.mono t2.size)
  have rL := rL.to b3
  have rM := rM.to b3
  have ro := ro.to b3
  have ww := own_cap ow
  have rw := Rd.of_own ow
  clear ow
  clear b3 t2
  go_wp2_with fail
  generalize hok : (jOk L M) = ok
  cases ok with
  | false =>
    go_wp2_with fail
    refine (sameTies_any Ao Aw (jL L M).length cw (jL L M) (jL L M) _ ro rw (by omega)).mono ?_
    rintro e u4 ⟨rfl, b4⟩
    have s4 := b4.size
    have t4 := t3.trans (b4.mono t3.size)
    have rL := rL.to b4
    have rM := rM.to b4
    have ro := ro.to b4
    have rw := rw.to b4
    clear b4 t3
    go_wp2_with fail
    refine (sameTies_any Ao Aw (jL L M).length cw (jL L M) (jL L M) _ ro rw (by omega)).mono ?_
    rintro e u5 ⟨rfl, b5⟩
    have s5 := b5.size
    have t5 := t4.trans (b5.mono t4.size)
    have rL := rL.to b5
    have rM := rM.to b5
    have ro := ro.to b5
    have rw := rw.to b5
    clear b5 t4
    go_wp2_with fail
    go_ret
    exact ⟨ret_bool (by simp), t5⟩
  | true =>
    go_wp2_with fail
    refine (sameTies_any Ao Aw (jL L M).length cw (jL L M) (jL L M) _ ro rw (by omega)).mono ?_
    rintro e u4 ⟨rfl, b4⟩
    have s4 := b4.size
    have t4 := t3.trans (b4.mono t3.size)
    have rL := rL.to b4
    have rM := rM.to b4
    have ro := ro.to b4
    have rw := rw.to b4
    clear b4 t3
    clear rw
    obtain ⟨⟨e1, e2⟩, ⟨e3, e4⟩, e5, e6, e7⟩ := join_none hok
    have E1 := Lib.hid e1
    have E2 := Lib.hid e2
    have E3 := Lib.hid e3
    have E4 := Lib.hid e4
    clear e1 e2 e3 e4 hok
    go_wp2_with fail
    have b5 : Below u4.heap.size u4 (u4.alloc (.cells #[] 40)) := (Below.refl _ _).alloc (Nat.le_refl _) _
    have s5 := b5.size
    have t5 := t4.trans (b5.mono t4.size)
    have rL := rL.to b5
    have rM := rM.to b5
    have ro := ro.to b5
    generalize u4.alloc (.cells #[] 40) = u5 at *
    clear b5 t4
    go_wp2_with fail
    refine (tiesJoin_any AL _ cL _ L [] _ rL Rd.nil_ (by omega) (by simp)).mono ?_
    rintro e u6 ⟨Ax, rfl, ox, b6⟩
    have s6 := b6.size
    have t6 := t5.trans (b6.mono t5.size)
    have rL := rL.to b6
    have rM := rM.to b6
    have ro := ro.to b6
    clear b6 t5
    have rx := ox.rd
    clear ox
    rw [E2.out] at rx ⊢
    rw [E1.out]
    go_wp2_with fail
    have b7 : Below u6.heap.size u6 (u6.alloc (.cells #[] 40)) := (Below.refl _ _).alloc (Nat.le_refl _) _
    have s7 := b7.size
    have t7 := t6.trans (b7.mono t6.size)
    have rL := rL.to b7
    have rM := rM.to b7
    have ro := ro.to b7
    have rx := rx.to b7
    generalize u6.alloc (.cells #[] 40) = u7 at *
    clear b7 t6
    go_wp2_with fail
    refine (tiesJoin_any _ AM _ cM [] M _ Rd.nil_ rM (by simp) (by omega)).mono ?_
    rintro e u8 ⟨Ay, rfl, oy, b8⟩
    have s8 := b8.size
    have t8 := t7.trans (b8.mono t7.size)
    have rL := rL.to b8
    have rM := rM.to b8
    have ro := ro.to b8
    have rx := rx.to b8
    clear b8 t7
    have ry := oy.rd
    clear oy
    rw [E4.out] at ry ⊢
    rw [E3.out]
    go_wp2_with fail
    refine (sameTies_any Ax AL L.length cL (L) (L) _ rx rL (by omega)).mono ?_
    rintro e u9 ⟨rfl, b9⟩
    have s9 := b9.size
    have t9 := t8.trans (b9.mono t8.size)
    have rL := rL.to b9
    have rM := rM.to b9
    have ro := ro.to b9
    have rx := rx.to b9
    have ry := ry.to b9
    clear b9 t8
    go_wp2_with fail
    refine (sameTies_any Ay AM M.length cM (M) (M) _ ry rM (by omega)).mono ?_
    rintro e u10 ⟨rfl, b10⟩
    have s10 := b10.size
    have t10 := t9.trans (b10.mono t9.size)
    have rL := rL.to b10
    have rM := rM.to b10
    have ro := ro.to b10
    have rx := rx.to b10
    have ry := ry.to b10
    clear b10 t9
    generalize (jL L M).length = n at *
    by_cases hmx : M.length ≤ L.length
    · have g1 : decide (L.length < M.length) = false := decide_eq_false (by omega)
      go_wp2_with fail
      all_goals
        go_ret
        exact ⟨ret_bool (by first | rfl | (simp <;> omega)), t10⟩
    · have g1 : decide (M.length ≤ L.length) = false := decide_eq_false hmx
      go_wp2_with fail
      all_goals
        go_ret
        exact ⟨ret_bool (by first | rfl | (simp <;> omega)), t10⟩

set_option maxRecDepth 100000 in
theorem liftedFnTiesJoinNone (os : Os) (started : os.Started) (H : Type) (enc : TypeId × Value → H) :
    ReturnsInHanded {} Try.checked os 3 .any (Rows.fnTiesJoinNoneSpec.pre6 enc Try.prog Try.f3 Rows.fnTiesJoinNoneRow.domain false) (Rows.fnTiesJoinNoneSpec.post enc Try.prog Try.f3 false true false false) := by
  refine returnsInHanded_of_change (C := Try.checked) own_ started (by kernel_rfl) Try.func3
    (ChangeSpec.witness6 (enc := enc) (C := Try.checked) false ⟨#[], #[.slice none 0 0], []⟩ 8 (by kernel_rfl) (by kernel_rfl) (by kernel_rfl) (by kernel_rfl)) ?_
  intro W base args ds gs before hval0 hW hcnd _
  have hval : ∀ (j : Nat) t v, Try.f3.params[j]? = some t → args[j]? = some v → Value.okWide Try.prog W .any base t v := hval0
  have hW' := hW
  obtain ⟨p, q, hA0, hV, rfl, hfz, hnd⟩ := hW
  have hA : DataW.TrodAll enc Try.prog W 0 (fun _ => true) true Try.f3.params.toList args.toList ds p := hA0
  rw [Try.params3] at hA hval
  obtain ⟨v0, vs0, d0, ds0, p0, q0, hargs, rfl, rfl, h0, r0⟩ := trodAll_cons hA
  obtain ⟨rfl, rfl, rfl⟩ := trodAll_nil r0
  obtain rfl : args = #[v0] := by cases args; simp_all
  obtain ⟨rfl, rfl⟩ := trodVars_none hV
  obtain ⟨a0, n0, c0, rfl⟩ := okWide_slice Try.underlying22 (hval 0 22 v0 rfl rfl)
  have kk0 := h0
  have lt0 : ∀ x ∈ p0, x.block < W.heap.size := by obtain ⟨m, hm⟩ := kk0; exact DataW.trod_lt m _ _ _ hm
  obtain ⟨l0, e0, g0, w0, b0, bm0⟩ : ∃ l : List Int, l.length = n0 ∧ RdI W W.heap.size .u8 a0 l ∧ (∀ z ∈ l, (Lit.int .u8 z).wf = true) ∧ n0 ≤ c0 ∧ c0 ≤ maxLen := by
    obtain ⟨fuel, hf⟩ := h0
    exact openI Try.underlying22 Try.underlying5 (by kernel_rfl) (by simpa [Value.cells] using hf)
  subst e0
  clear hA0 hval0
  refine (walkFnTiesJoinNone a0 c0 l0 W g0 (wf_bytes w0) b0 (by unfold maxLen at bm0; omega)).mono fun e W' ⟨he, bel⟩ => ?_
  subst he
  exact ⟨_, rfl, _, _, _, [], _, [], hW', trodAll_mk1 (shut_bool Try.underlying4 _), (trodAll_cons_mk (Below.trod laidOut_ (by kernel_rfl) (of_decide_eq_true (by kernel_rfl)) kk0 bel lt0) trodAll_mk0), rfl, bel.frame _, fun h => by cases h⟩

theorem fnTiesJoinNone_holds : Rows.FnTiesJoinNoneSaid :=
  OpenClaim.holds_of_wide 3 Try.f3 rfl rfl rfl rfl rfl rfl rfl ⟨rfl, rfl, rfl, rfl, rfl⟩ rfl rfl rfl rfl rfl (by kernel_rfl) Try.func3 (by kernel_rfl)
    (of_decide_eq_true (by kernel_rfl)) (by unfold Func.isWrapper; first | (rw [if_pos (by decide +kernel)]; kernel_rfl) | (rw [if_neg (by decide +kernel)]; exact ⟨rfl, rfl⟩))
    (fun os started H enc _ => liftedFnTiesJoinNone os started H enc)

end Go.Proofs.Ytihkdbgnoncgnaa
