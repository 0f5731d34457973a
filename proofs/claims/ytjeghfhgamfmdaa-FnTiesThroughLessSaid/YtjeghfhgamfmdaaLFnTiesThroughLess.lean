/- The statement FnTiesThroughLessSaid: for all arguments the Go function laws.FnTiesThroughLess returns true and leaves its arguments as they were. No condition. -/
import Derived.Test.YtjeghfhgamfmdaaThrough
import Derived.Test.YtjeghfhgamfmdaaThroughS
import Derived.Test.YtjeghfhgamfmdaaTop
import Derived.Test.YtjeghfhgamfmdaaDrawTT
import Derived.Test.YtjeghfhgamfmdaaTiesMore
import Derived.Test.YtjeghfhgamfmdaaMore
import Derived.Test.YtjeghfhgamfmdaaFrame
namespace Go.Proofs.Ytjeghfhgamfmdaa
open Go.ChangeShapes Go.WideShapes Go.ChangeAt Go.RowKit

set_option maxHeartbeats 4000000 in
theorem walkFnTiesThroughLess (A0 : Option Addr) (c0 : Nat) (l0 : List Int) (A1 : Option Addr) (c1 : Nat) (l1 : List Int) (w : World) (r0 : RdI w w.heap.size .u8 A0 l0) (y0 : ∀ x ∈ l0, 0 ≤ x ∧ x ≤ 255) (k0 : l0.length ≤ c0) (m0 : c0 ≤ 9223372036854775807)  :
    Calls Try.prog 8 #[.slice A0 l0.length c0, .slice A1 l1.length c1] w fun e w' => e = .returned (.bool true) ∧ Below w.heap.size w w' := by
  by_cases z0 : 1048576 < l0.length
  · clear r0 y0
    go_enter Try.func8, Try.ntmps8
    go_wp2_with fail
    go_ret
    exact ⟨rfl, Below.refl _ _⟩
  by_cases z1 : 1048576 < l1.length
  · clear r0 y0
    go_enter Try.func8, Try.ntmps8
    go_wp2_with fail
    go_ret
    exact ⟨rfl, Below.refl _ _⟩
  have Y0 := Lib.hid y0
  clear y0
  go_enter Try.func8, Try.ntmps8
  go_wp2_with fail
  refine (DrawTiesThrough_any A0 c0 l0 _ r0 Y0.out (by omega) k0 m0).mono ?_
  rintro e u1 ⟨AL, cL, L, AM, cM, M, rfl, hL, hM, _, _, oL, oM, b1⟩
  have s1 := b1.size
  have t1 := b1
  have wL := own_cap oL
  have rL := Rd.of_own oL
  clear oL
  have wM := own_cap oM
  have rM := Rd.of_own oM
  clear oM
  clear b1
  clear r0
  have hr := thrL_len L M
  go_wp2_with fail
  refine (through_any AL AM cL cM (L) (M) _ rL rM (by omega) (by omega)).mono ?_
  rintro e u2 ⟨Ao, co, rfl, oo, b2⟩
  have s2 := b2.size
  have t2 := t1.trans (b2.mono t1.size)
  have rL := rL.to b2
  have rM := rM.to b2
  have wo := own_cap oo
  have ro := Rd.of_own oo
  clear oo
  clear b2 t1
  go_wp2_with fail
  refine (specThrough_any AL AM cL cM (L) (M) _ rL rM (by omega) (by omega)).mono ?_
  rintro e u3 ⟨Aw, cw, rfl, ow, b3⟩
  have s3 := b3.size
  have t3 := t2.trans (b3.mono t2.size)
  have rL := rL.to b3
  have rM := rM.to b3
  have ro := ro.to b3
  have ww := own_cap ow
  have rw := Rd.of_own ow
  clear ow
  clear b3 t2
  go_wp2_with fail
  generalize hok : (tv L && tv M) = ok
  cases ok with
  | false =>
    go_wp2_with fail
    refine (sameTies_any Ao Aw co cw (thrL L M) (thrL L M) _ ro rw (by omega)).mono ?_
    rintro e u4 ⟨rfl, b4⟩
    have s4 := b4.size
    have t4 := t3.trans (b4.mono t3.size)
    have rL := rL.to b4
    have rM := rM.to b4
    have ro := ro.to b4
    have rw := rw.to b4
    clear b4 t3
    go_wp2_with fail
    refine (sameTies_any Ao Aw co cw (thrL L M) (thrL L M) _ ro rw (by omega)).mono ?_
    rintro e u5 ⟨rfl, b5⟩
    have s5 := b5.size
    have t5 := t4.trans (b5.mono t4.size)
    have rL := rL.to b5
    have rM := rM.to b5
    have ro := ro.to b5
    have rw := rw.to b5
    clear b5 t4
    go_wp2_with fail
    go_ret
    exact ⟨ret_bool (by simp), t5⟩
  | true =>
    go_wp2_with fail
    refine (sameTies_any Ao Aw co cw (thrL L M) (thrL L M) _ ro rw (by omega)).mono ?_
    rintro e u4 ⟨rfl, b4⟩
    have s4 := b4.size
    have t4 := t3.trans (b4.mono t3.size)
    have rL := rL.to b4
    have rM := rM.to b4
    have ro := ro.to b4
    have rw := rw.to b4
    clear b4 t3
    clear rw
    have hvL : tv L = true := by cases h : tv L <;> simp_all
    have hvM : tv M = true := by cases h : tv M <;> simp_all
    have pL := ((tv_iff L).1 hvL).2.1
    have pM := ((tv_iff M).1 hvM).2.1
    have E := Lib.hid (thrL_yes hok)
    clear hok
    have hj : l1.length % (L.length + 1) ≤ L.length := by have := Nat.mod_lt l1.length (show 0 < L.length + 1 by omega); omega
    have g0 : (l1.length : Int) % ((L.length : Int) + 1) = ((l1.length % (L.length + 1) : Nat) : Int) := by simp
    have g1 : (0 : Int) ≤ (l1.length : Int) % ((L.length : Int) + 1) ∧ (l1.length : Int) % ((L.length : Int) + 1) ≤ (cL : Int) := by rw [g0]; omega
    clear g0
    have ej : (L.take (l1.length % (L.length + 1))).length = (l1.length % (L.length + 1)) := by rw [List.length_take]; omega
    have vj : tv (L.take (l1.length % (L.length + 1))) = true := tv_take hvL _
    have eX : thrL L M = thrL (L.take (l1.length % (L.length + 1))) M ++ thrOf (L.drop (l1.length % (L.length + 1))) M := by rw [E.out, thrL_yes (by rw [vj, hvM]; rfl), ← thrOf_append, List.take_append_drop]
    have nX : (thrL (L.take (l1.length % (L.length + 1))) M).length ≤ (thrL L M).length := by rw [eX, List.length_append]; omega
    have pX : (thrL L M).take (thrL (L.take (l1.length % (L.length + 1))) M).length = thrL (L.take (l1.length % (L.length + 1))) M := by rw [eX, List.take_left]
    have nT : ((thrL L M).take (thrL (L.take (l1.length % (L.length + 1))) M).length).length = (thrL (L.take (l1.length % (L.length + 1))) M).length := by rw [pX]
    have EP := Lib.hid pX
    clear pX eX
    have hX := through_any AL AM cL cM (L.take (l1.length % (L.length + 1))) M _ (rL.take _) rM (by omega) (by omega)
    rw [ej] at hX
    rw [vj, hvM] at hX
    go_wp2_with fail
    refine (hX).mono ?_
    rintro e u5 ⟨AX, cX, rfl, oX, b5⟩
    have s5 := b5.size
    have t5 := t4.trans (b5.mono t4.size)
    have rL := rL.to b5
    have rM := rM.to b5
    have ro := ro.to b5
    have wX := own_cap oX
    have rX := Rd.of_own oX
    clear oX
    clear b5 t4
    have hS := sameTies_any AX Ao cX co (thrL (L.take (l1.length % (L.length + 1))) M) ((thrL L M).take (thrL (L.take (l1.length % (L.length + 1))) M).length) _ rX (ro.take _) (by omega)
    rw [nT] at hS
    have HS := Lib.hid hS
    clear hS
    have hd : decide (thrL (L.take (l1.length % (L.length + 1))) M = (thrL L M).take (thrL (L.take (l1.length % (L.length + 1))) M).length) = true := by rw [EP.out]; simp
    go_wp2_with fail
    refine (HS.out).mono ?_
    rintro e u6 ⟨rfl, b6⟩
    have s6 := b6.size
    have t6 := t5.trans (b6.mono t5.size)
    have rL := rL.to b6
    have rM := rM.to b6
    have ro := ro.to b6
    have rX := rX.to b6
    clear b6 t5
    rw [hd]
    go_wp2_with fail
    go_ret
    exact ⟨ret_bool (rfl), t6⟩

set_option maxRecDepth 100000 in
theorem liftedFnTiesThroughLess (os : Os) (started : os.Started) (H : Type) (enc : TypeId × Value → H) :
    ReturnsInHanded {} Try.checked os 8 .any (Rows.fnTiesThroughLessSpec.pre6 enc Try.prog Try.f8 Rows.fnTiesThroughLessRow.domain false) (Rows.fnTiesThroughLessSpec.post enc Try.prog Try.f8 false true false false) := by
  refine returnsInHanded_of_change (C := Try.checked) own_ started (by kernel_rfl) Try.func8
    (ChangeSpec.witness6 (enc := enc) (C := Try.checked) false ⟨#[], #[.slice none 0 0, .slice none 0 0], []⟩ 8 (by kernel_rfl) (by kernel_rfl) (by kernel_rfl) (by kernel_rfl)) ?_
  intro W base args ds gs before hval0 hW hcnd _
  have hval : ∀ (j : Nat) t v, Try.f8.params[j]? = some t → args[j]? = some v → Value.okWide Try.prog W .any base t v := hval0
  have hW' := hW
  obtain ⟨p, q, hA0, hV, rfl, hfz, hnd⟩ := hW
  have hA : DataW.TrodAll enc Try.prog W 0 (fun _ => true) true Try.f8.params.toList args.toList ds p := hA0
  rw [Try.params8] at hA hval
  obtain ⟨v0, vs0, d0, ds0, p0, q0, hargs, rfl, rfl, h0, r0⟩ := trodAll_cons hA
  obtain ⟨v1, vs1, d1, ds1, p1, q1, rfl, rfl, rfl, h1, r1⟩ := trodAll_cons r0
  obtain ⟨rfl, rfl, rfl⟩ := trodAll_nil r1
  obtain rfl : args = #[v0, v1] := by cases args; simp_all
  obtain ⟨rfl, rfl⟩ := trodVars_none hV
  obtain ⟨a0, n0, c0, rfl⟩ := okWide_slice Try.underlying29 (hval 0 29 v0 rfl rfl)
  have kk0 := h0
  have lt0 : ∀ x ∈ p0, x.block < W.heap.size := by obtain ⟨m, hm⟩ := kk0; exact DataW.trod_lt m _ _ _ hm
  obtain ⟨l0, e0, g0, w0, b0, bm0⟩ : ∃ l : List Int, l.length = n0 ∧ RdI W W.heap.size .u8 a0 l ∧ (∀ z ∈ l, (Lit.int .u8 z).wf = true) ∧ n0 ≤ c0 ∧ c0 ≤ maxLen := by
    obtain ⟨fuel, hf⟩ := h0
    exact openI Try.underlying29 Try.underlying5 (by kernel_rfl) (by simpa [Value.cells] using hf)
  subst e0
  obtain ⟨a1, n1, c1, rfl⟩ := okWide_slice Try.underlying29 (hval 1 29 v1 rfl rfl)
  have kk1 := h1
  have lt1 : ∀ x ∈ p1, x.block < W.heap.size := by obtain ⟨m, hm⟩ := kk1; exact DataW.trod_lt m _ _ _ hm
  obtain ⟨l1, e1, g1, w1, b1, bm1⟩ : ∃ l : List Int, l.length = n1 ∧ RdI W W.heap.size .u8 a1 l ∧ (∀ z ∈ l, (Lit.int .u8 z).wf = true) ∧ n1 ≤ c1 ∧ c1 ≤ maxLen := by
    obtain ⟨fuel, hf⟩ := h1
    exact openI Try.underlying29 Try.underlying5 (by kernel_rfl) (by simpa [Value.cells] using hf)
  subst e1
  clear hA0 hval0
  refine (walkFnTiesThroughLess a0 c0 l0 a1 c1 l1 W g0 (wf_bytes w0) b0 (by unfold maxLen at bm0; omega)).mono fun e W' ⟨he, bel⟩ => ?_
  subst he
  exact ⟨_, rfl, _, _, _, [], _, [], hW', trodAll_mk1 (shut_bool Try.underlying4 _), (trodAll_cons_mk (Below.trod laidOut_ (by kernel_rfl) (of_decide_eq_true (by kernel_rfl)) kk0 bel lt0) (trodAll_cons_mk (Below.trod laidOut_ (by kernel_rfl) (of_decide_eq_true (by kernel_rfl)) kk1 bel lt1) trodAll_mk0)), rfl, bel.frame _, fun h => by cases h⟩

theorem fnTiesThroughLess_holds : Rows.FnTiesThroughLessSaid :=
  OpenClaim.holds_of_wide 8 Try.f8 rfl rfl rfl rfl rfl rfl rfl ⟨rfl, rfl, rfl, rfl, rfl⟩ rfl rfl rfl rfl rfl (by kernel_rfl) Try.func8 (by kernel_rfl)
    (of_decide_eq_true (by kernel_rfl)) (by unfold Func.isWrapper; first | (rw [if_pos (by decide +kernel)]; kernel_rfl) | (rw [if_neg (by decide +kernel)]; exact ⟨rfl, rfl⟩))
    (fun os started H enc _ => liftedFnTiesThroughLess os started H enc)

end Go.Proofs.Ytjeghfhgamfmdaa
