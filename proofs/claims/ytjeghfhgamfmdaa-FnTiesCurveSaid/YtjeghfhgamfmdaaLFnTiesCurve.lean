/- The statement FnTiesCurveSaid: for all arguments the Go function laws.FnTiesCurve returns true and leaves its arguments as they were. No condition. -/
import Derived.Test.YtjeghfhgamfmdaaCurve
import Derived.Test.YtjeghfhgamfmdaaDrawT
import Derived.Test.YtjeghfhgamfmdaaTop
import Derived.Test.YtjeghfhgamfmdaaTiesMore
import Derived.Test.YtjeghfhgamfmdaaFrame
namespace Go.Proofs.Ytjeghfhgamfmdaa
open Go.ChangeShapes Go.WideShapes Go.ChangeAt Go.RowKit

set_option maxHeartbeats 4000000 in
theorem walkFnTiesCurve (A0 : Option Addr) (c0 : Nat) (l0 : List Int) (w : World) (r0 : RdI w w.heap.size .u8 A0 l0) (y0 : ∀ x ∈ l0, 0 ≤ x ∧ x ≤ 255) (k0 : l0.length ≤ c0) (m0 : c0 ≤ 9223372036854775807) :
    Calls Try.prog 12 #[.slice A0 l0.length c0] w fun e w' => e = .returned (.bool true) ∧ Below w.heap.size w w' := by
  by_cases z0 : 1048576 < l0.length
  · clear r0 y0
    go_enter Try.func12, Try.ntmps12
    go_wp2_with fail
    go_ret
    exact ⟨rfl, Below.refl _ _⟩
  have Y0 := Lib.hid y0
  clear y0
  go_enter Try.func12, Try.ntmps12
  go_wp2_with fail
  refine (DrawTiesCurve_any A0 c0 l0 _ r0 Y0.out (by omega) k0 m0).mono ?_
  rintro e u1 ⟨AL, cL, L, rfl, hL, _, oL, b1⟩
  have s1 := b1.size
  have t1 := b1
  have rL := Rd.of_own oL
  clear oL
  clear b1
  clear r0
  have hr := curL_len L
  go_wp2_with fail
  refine (tiesCurve_any AL cL (L) _ rL (by omega)).mono ?_
  rintro e u2 ⟨Ao, co, rfl, oo, b2⟩
  have s2 := b2.size
  have t2 := t1.trans (b2.mono t1.size)
  have rL := rL.to b2
  have ro := Rd.of_own oo
  clear oo
  clear b2 t1
  go_wp2_with fail
  refine (specTiesCurve_any AL cL (L) _ rL (by omega)).mono ?_
  rintro e u3 ⟨Aw, cw, rfl, ow, b3⟩
  have s3 := b3.size
  have t3 := t2.trans (b3.mono t2.size)
  have rL := rL.to b3
  have ro := ro.to b3
  have rw := Rd.of_own ow
  clear ow
  clear b3 t2
  go_wp2_with fail
  generalize hok : (curOk L) = ok
  cases ok with
  | false =>
    go_wp2_with fail
    refine (sameKnots_any Ao Aw co cw (curL L) (curL L) _ ro rw (by omega)).mono ?_
    rintro e u4 ⟨rfl, b4⟩
    have s4 := b4.size
    have t4 := t3.trans (b4.mono t3.size)
    have rL := rL.to b4
    have ro := ro.to b4
    have rw := rw.to b4
    clear b4 t3
    go_wp2_with fail
    refine (sameKnots_any Ao Aw co cw (curL L) (curL L) _ ro rw (by omega)).mono ?_
    rintro e u5 ⟨rfl, b5⟩
    have s5 := b5.size
    have t5 := t4.trans (b5.mono t4.size)
    have rL := rL.to b5
    have ro := ro.to b5
    have rw := rw.to b5
    clear b5 t4
    go_wp2_with fail
    go_ret
    exact ⟨ret_bool (by simp), t5⟩
  | true =>
    go_wp2_with fail
    refine (sameKnots_any Ao Aw co cw (curL L) (curL L) _ ro rw (by omega)).mono ?_
    rintro e u4 ⟨rfl, b4⟩
    have s4 := b4.size
    have t4 := t3.trans (b4.mono t3.size)
    have rL := rL.to b4
    have ro := ro.to b4
    have rw := rw.to b4
    clear b4 t3
    clear rw
    have hv : tv L = true := by simp only [curOk, Bool.and_eq_true] at hok; exact hok.1
    have v1 := tv_turnL hv
    have et := turnL_yes hv
    have n1 := turnL_len L
    have k1 : curOk (turnL L) = true := by rw [et, curOk_swapL]; exact hok
    have e1 : curL (turnL L) = swapL L := by rw [curL_yes k1, et]
    have eo : curL L = L := curL_yes hok
    have ko : curOk (curL L) = true := by rw [eo]; exact hok
    have e2 : curTurn (curL L) = swapL L := by rw [eo]; unfold curTurn; rw [if_pos hok]
    have n2 : (curTurn (curL L)).length ≤ L.length := by rw [e2, length_swapL]; exact Nat.le_refl _
    have n3 := curL_len (turnL L)
    have n4 : (curL L).length = L.length := by rw [eo]
    have hd : decide (curL (turnL L) = curTurn (curL L)) = true := by rw [e1, e2]; simp
    have g4 : ((curL L).length : Int) = (L.length : Int) := by rw [n4]
    have G4 := Lib.hid g4
    have g5 : decide (((curL L).length : Int) = (L.length : Int)) = true := by rw [g4]; simp
    have g6 : (((curL L).length : Int) == (L.length : Int)) = true := by rw [g4]; simp
    clear e1 e2 eo et hok v1 g4 n4
    have V := fun (B : Option Addr) (c : Nat) (w : World) (r : Rd w w.heap.size B (curL L)) => curveValid_any B c (curL L) w r (by omega)
    go_wp2_with fail
    refine (tiesTurn_any AL cL (L) _ rL (by omega)).mono ?_
    rintro e u5 ⟨Ax, cx, rfl, ox, b5⟩
    have s5 := b5.size
    have t5 := t4.trans (b5.mono t4.size)
    have rL := rL.to b5
    have ro := ro.to b5
    have rx := Rd.of_own ox
    clear ox
    clear b5 t4
    go_wp2_with fail
    refine (tiesCurve_any Ax cx (turnL L) _ rx (by omega)).mono ?_
    rintro e u6 ⟨Ay, cy, rfl, oy, b6⟩
    have s6 := b6.size
    have t6 := t5.trans (b6.mono t5.size)
    have rL := rL.to b6
    have ro := ro.to b6
    have rx := rx.to b6
    have ry := Rd.of_own oy
    clear oy
    clear b6 t5
    go_wp2_with fail
    refine (curveTurn_any Ao co (curL L) _ ro (by omega)).mono ?_
    rintro e u7 ⟨Az, cz, rfl, oz, b7⟩
    have s7 := b7.size
    have t7 := t6.trans (b7.mono t6.size)
    have rL := rL.to b7
    have ro := ro.to b7
    have rx := rx.to b7
    have ry := ry.to b7
    have rz := Rd.of_own oz
    clear oz
    clear b7 t6
    go_wp2_with fail
    refine (sameKnots_any Ay Az cy cz (curL (turnL L)) (curTurn (curL L)) _ ry rz (by omega)).mono ?_
    rintro e u8 ⟨rfl, b8⟩
    have s8 := b8.size
    have t8 := t7.trans (b8.mono t7.size)
    have rL := rL.to b8
    have ro := ro.to b8
    have rx := rx.to b8
    have ry := ry.to b8
    have rz := rz.to b8
    clear b8 t7
    go_wp2_with fail
    refine (curveValid_any Ao co (curL L) _ ro (by omega)).mono ?_
    rintro e u9 ⟨rfl, b9⟩
    have s9 := b9.size
    have t9 := t8.trans (b9.mono t8.size)
    have rL := rL.to b9
    have ro := ro.to b9
    have rx := rx.to b9
    have ry := ry.to b9
    have rz := rz.to b9
    clear b9 t8
    go_wp2_with fail
    all_goals
      go_ret
      exact ⟨ret_bool (rfl), t9⟩

set_option maxRecDepth 100000 in
theorem liftedFnTiesCurve (os : Os) (started : os.Started) (H : Type) (enc : TypeId × Value → H) :
    ReturnsInHanded {} Try.checked os 12 .any (Rows.fnTiesCurveSpec.pre6 enc Try.prog Try.f12 Rows.fnTiesCurveRow.domain false) (Rows.fnTiesCurveSpec.post enc Try.prog Try.f12 false true false false) := by
  refine returnsInHanded_of_change (C := Try.checked) own_ started (by kernel_rfl) Try.func12
    (ChangeSpec.witness6 (enc := enc) (C := Try.checked) false ⟨#[], #[.slice none 0 0], []⟩ 8 (by kernel_rfl) (by kernel_rfl) (by kernel_rfl) (by kernel_rfl)) ?_
  intro W base args ds gs before hval0 hW hcnd _
  have hval : ∀ (j : Nat) t v, Try.f12.params[j]? = some t → args[j]? = some v → Value.okWide Try.prog W .any base t v := hval0
  have hW' := hW
  obtain ⟨p, q, hA0, hV, rfl, hfz, hnd⟩ := hW
  have hA : DataW.TrodAll enc Try.prog W 0 (fun _ => true) true Try.f12.params.toList args.toList ds p := hA0
  rw [Try.params12] at hA hval
  obtain ⟨v0, vs0, d0, ds0, p0, q0, hargs, rfl, rfl, h0, r0⟩ := trodAll_cons hA
  obtain ⟨rfl, rfl, rfl⟩ := trodAll_nil r0
  obtain rfl : args = #[v0] := by cases args; simp_all
  obtain ⟨rfl, rfl⟩ := trodVars_none hV
  obtain ⟨a0, n0, c0, rfl⟩ := okWide_slice Try.underlying29 (hval 0 29 v0 rfl rfl)
  have kk0 := h0
  have lt0 : ∀ x ∈ p0, x.block < W.heap.size := by obtain ⟨m, hm⟩ := kk0; exact DataW.trod_lt m _ _ _ hm
  obtain ⟨l0, e0, g0, w0, b0, bm0⟩ : ∃ l : List Int, l.length = n0 ∧ RdI W W.heap.size .u8 a0 l ∧ (∀ z ∈ l, (Lit.int .u8 z).wf = true) ∧ n0 ≤ c0 ∧ c0 ≤ maxLen := by
    obtain ⟨fuel, hf⟩ := h0
    exact openI Try.underlying29 Try.underlying5 (by kernel_rfl) (by simpa [Value.cells] using hf)
  subst e0
  clear hA0 hval0
  refine (walkFnTiesCurve a0 c0 l0 W g0 (wf_bytes w0) b0 (by unfold maxLen at bm0; omega)).mono fun e W' ⟨he, bel⟩ => ?_
  subst he
  exact ⟨_, rfl, _, _, _, [], _, [], hW', trodAll_mk1 (shut_bool Try.underlying4 _), (trodAll_cons_mk (Below.trod laidOut_ (by kernel_rfl) (of_decide_eq_true (by kernel_rfl)) kk0 bel lt0) trodAll_mk0), rfl, bel.frame _, fun h => by cases h⟩

theorem fnTiesCurve_holds : Rows.FnTiesCurveSaid :=
  OpenClaim.holds_of_wide 12 Try.f12 rfl rfl rfl rfl rfl rfl rfl ⟨rfl, rfl, rfl, rfl, rfl⟩ rfl rfl rfl rfl rfl (by kernel_rfl) Try.func12 (by kernel_rfl)
    (of_decide_eq_true (by kernel_rfl)) (by unfold Func.isWrapper; first | (rw [if_pos (by decide +kernel)]; kernel_rfl) | (rw [if_neg (by decide +kernel)]; exact ⟨rfl, rfl⟩))
    (fun os started H enc _ => liftedFnTiesCurve os started H enc)

end Go.Proofs.Ytjeghfhgamfmdaa
