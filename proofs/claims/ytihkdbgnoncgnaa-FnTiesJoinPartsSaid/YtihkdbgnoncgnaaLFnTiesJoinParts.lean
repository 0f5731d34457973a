/- The statement FnTiesJoinPartsSaid: for all arguments the Go function laws.FnTiesJoinParts returns true and leaves its arguments as they were. No condition. -/
import Derived.Test.YtihkdbgnoncgnaaJoinTop
import Derived.Test.YtihkdbgnoncgnaaJoinSpec
import Derived.Test.YtihkdbgnoncgnaaTop
import Derived.Test.YtihkdbgnoncgnaaMore
import Derived.Test.YtihkdbgnoncgnaaTiesMore
import Derived.Test.YtihkdbgnoncgnaaPlan
import Derived.Test.YtihkdbgnoncgnaaFrame
namespace Go.Proofs.Ytihkdbgnoncgnaa
open Go.ChangeShapes Go.WideShapes Go.ChangeAt Go.RowKit

set_option maxRecDepth 100000 in
set_option maxHeartbeats 4000000 in
theorem walkFnTiesJoinParts (A0 : Option Addr) (c0 : Nat) (l0 : List Int) (A1 : Option Addr) (c1 : Nat) (l1 : List Int) (w : World) (r0 : RdI w w.heap.size .u8 A0 l0) (y0 : ∀ x ∈ l0, 0 ≤ x ∧ x ≤ 255) (k0 : l0.length ≤ c0) (m0 : c0 ≤ 9223372036854775807)  :
    Calls Try.prog 4 #[.slice A0 l0.length c0, .slice A1 l1.length c1] w fun e w' => e = .returned (.bool true) ∧ Below w.heap.size w w' := by
  by_cases z0 : 1048576 < l0.length
  · clear r0 y0
    go_enter Try.func4, Try.ntmps4
    go_wp2_with fail
    go_ret
    exact ⟨rfl, Below.refl _ _⟩
  by_cases z1 : 1048576 < l1.length
  · clear r0 y0
    go_enter Try.func4, Try.ntmps4
    go_wp2_with fail
    go_ret
    exact ⟨rfl, Below.refl _ _⟩
  have Y0 := Lib.hid y0
  clear y0
  go_enter Try.func4, Try.ntmps4
  go_wp2_with fail
  refine (DrawTiesJoin_any A0 c0 l0 _ r0 Y0.out (by omega) k0 m0).mono ?_
  rintro e u1 ⟨AL, cL, L, AM, cM, M, rfl, hL, hM, oL, oM, b1⟩
  have s1 := b1.size
  have t1 := b1
  have wL := own_cap oL
  have rL := Rd.of_own oL
  clear oL
  have wM := own_cap oM
  have rM := Rd.of_own oM
  clear oM
  clear b1
  clear r0
  have hbl := jL_len L M
  go_wp2_with fail
  refine (tiesJoin_any AL AM cL cM (L) (M) _ rL rM (by omega) (by omega)).mono ?_
  rintro e u2 ⟨Ao, rfl, oo, b2⟩
  have s2 := b2.size
  have t2 := t1.trans (b2.mono t1.size)
  have rL := rL.to b2
  have rM := rM.to b2
  clear b2 t1
  have ro := oo.rd
  clear oo
  go_wp2_with fail
  refine (specTiesJoin_any AL AM cL cM (L) (M) _ rL rM (by omega) (by omega)).mono ?_
  rintro e u3 ⟨Aw, cw, rfl, ow, b3⟩
  have s3 := b3.size
  have t3 := t2.trans (b3.mono t2.size)
  have rL := rL.to b3
  have rM := rM.to b3
  have ro := ro.to b3
  have ww := own_cap ow
  have rw := Rd.of_own ow
  clear ow
  clear b3 t2
  go_wp2_with fail
  generalize hok : (jOk L M) = ok
  cases ok with
  | false =>
    go_wp2_with fail
    refine (sameTies_any Ao Aw (jL L M).length cw (jL L M) (jL L M) _ ro rw (by omega)).mono ?_
    rintro e u4 ⟨rfl, b4⟩
    have s4 := b4.size
    have t4 := t3.trans (b4.mono t3.size)
    have rL := rL.to b4
    have rM := rM.to b4
    have ro := ro.to b4
    have rw := rw.to b4
    clear b4 t3
    go_wp2_with fail
    refine (sameTies_any Ao Aw (jL L M).length cw (jL L M) (jL L M) _ ro rw (by omega)).mono ?_
    rintro e u5 ⟨rfl, b5⟩
    have s5 := b5.size
    have t5 := t4.trans (b5.mono t4.size)
    have rL := rL.to b5
    have rM := rM.to b5
    have ro := ro.to b5
    have rw := rw.to b5
    clear b5 t4
    go_wp2_with fail
    go_ret
    exact ⟨ret_bool (by simp), t5⟩
  | true =>
    go_wp2_with fail
    refine (sameTies_any Ao Aw (jL L M).length cw (jL L M) (jL L M) _ ro rw (by omega)).mono ?_
    rintro e u4 ⟨rfl, b4⟩
    have s4 := b4.size
    have t4 := t3.trans (b4.mono t3.size)
    have rL := rL.to b4
    have rM := rM.to b4
    have ro := ro.to b4
    have rw := rw.to b4
    clear b4 t3
    clear rw
    have hv := (jOk_tv hok).1
    generalize jL L M = Z at *
    have hP := join_parts hv (l1.length % (Z.length + 1))
    obtain ⟨⟨e1, e2⟩, e3, e4⟩ := hP
    clear hok hv
    have hj : (l1.length % (Z.length + 1)) ≤ Z.length := by have := Nat.mod_lt l1.length (show 0 < Z.length + 1 by omega); omega
    have g0 : (l1.length : Int) % ((Z.length : Int) + 1) = (((l1.length % (Z.length + 1)) : Nat) : Int) := by simp
    have g1 : (0 : Int) ≤ (l1.length : Int) % ((Z.length : Int) + 1) ∧ (l1.length : Int) % ((Z.length : Int) + 1) ≤ (Z.length : Int) := by rw [g0]; omega
    clear g0
    have ej : (Z.take (l1.length % (Z.length + 1))).length = (l1.length % (Z.length + 1)) := by rw [List.length_take]; omega
    have ed : (Z.drop (l1.length % (Z.length + 1))).length = Z.length - (l1.length % (Z.length + 1)) := by rw [List.length_drop]
    have EJ := Lib.hid ej
    have ED := Lib.hid ed
    have E1 := Lib.hid e1
    have E2 := Lib.hid e2
    have E3 := Lib.hid e3
    have E4 := Lib.hid e4
    clear ej ed e1 e2 e3 e4
    by_cases hcJ : (l1.length % (Z.length + 1)) = Z.length
    · have HC := Lib.hid hcJ
      have ez : Z.length - (l1.length % (Z.length + 1)) = 0 := by omega
      have rD : ∀ u : World, Rd u u.heap.size Ao Z → Rd u u.heap.size Ao (Z.drop (l1.length % (Z.length + 1))) := fun u _ h => absurd h (by rw [ED.out]; omega)
      have X1 := fun (u : World) (r : Rd u u.heap.size Ao Z) => tiesJoin_any Ao Ao Z.length 0 (Z.take (l1.length % (Z.length + 1))) (Z.drop (l1.length % (Z.length + 1))) u (r.take _) (rD u r) (by rw [EJ.out]; omega) (by rw [ED.out]; omega)
      have X2 := fun (u : World) (r : Rd u u.heap.size Ao Z) => tiesJoin_any Ao Ao 0 Z.length (Z.drop (l1.length % (Z.length + 1))) (Z.take (l1.length % (Z.length + 1))) u (rD u r) (r.take _) (by rw [ED.out]; omega) (by rw [EJ.out]; omega)
      rw [ED.out, EJ.out, E2.out, E1.out, ez, hcJ] at X1
      rw [ED.out, EJ.out, E4.out, E3.out, ez, hcJ] at X2
      clear ez E1 E2 E3 E4 ED EJ
      have g2 : (l1.length : Int) % ((Z.length : Int) + 1) = (Z.length : Int) := (show (l1.length : Int) % ((Z.length : Int) + 1) = (((l1.length % (Z.length + 1)) : Nat) : Int) by simp).trans (by rw [hcJ])
      clear HC hcJ hj g1 rD
      have X1 := Lib.hid X1
      have X2 := Lib.hid X2
      go_wp2_with fail
      refine wp_region_plan (Below u4.heap.size u4) [([0, 1, 2, 3, 4, 5], 6)] [7, 8, 9, 10, 11] (by kernel_rfl) (by kernel_rfl) (below_drewN (Below.refl _ _) 1) fun hne => ?_
      simp only [wpPlan, wpEff, effOf, opsAt, optCons, List.getElem?_toArray, List.getElem?_cons_zero, List.getElem?_cons_succ]
      have S0 := below_drewN (Below.refl u4.heap.size u4) 1
      repeat (go_big_quiet_step (fail))
      refine wpQuiet_nil ?_
      go_wp2_with fail
      refine (X1.out _ (ro.to S0)).mono ?_
      rintro e v1 ⟨Ax, rfl, ox, c1⟩
      have S1 := S0.trans (c1.mono S0.size)
      go_wp2_with fail
      refine effQ_normal S1 ?_
      repeat (go_big_quiet_step (fail))
      refine wpQuiet_nil ?_
      refine noPan_normal ?_
      have tv1 := t4.trans (S1.mono t4.size)
      have ro := ro.to S1
      clear S0 c1 X1
      have rx := ox.rd
      clear ox S1
      go_wp2_with fail
      refine wp_region_plan (Below v1.heap.size v1) [([0, 1, 2, 3, 4, 5], 6)] [7, 8, 9, 10, 11] (by kernel_rfl) (by kernel_rfl) (below_drewN (Below.refl _ _) 1) fun hne => ?_
      simp only [wpPlan, wpEff, effOf, opsAt, optCons, List.getElem?_toArray, List.getElem?_cons_zero, List.getElem?_cons_succ]
      have S0 := below_drewN (Below.refl v1.heap.size v1) 1
      repeat (go_big_quiet_step (fail))
      refine wpQuiet_nil ?_
      go_wp2_with fail
      refine (X2.out _ (ro.to S0)).mono ?_
      rintro e v2 ⟨Ay, rfl, oy, c1⟩
      have S1 := S0.trans (c1.mono S0.size)
      go_wp2_with fail
      refine effQ_normal S1 ?_
      repeat (go_big_quiet_step (fail))
      refine wpQuiet_nil ?_
      refine noPan_normal ?_
      have tv2 := tv1.trans (S1.mono tv1.size)
      have ro := ro.to S1
      clear S0 c1 X2
      have rx := rx.to S1
      have ry := oy.rd
      clear oy S1
      go_wp2_with fail
      refine (sameTies_any Ax Ao Z.length Z.length Z Z _ rx ro (by omega)).mono ?_
      rintro e v3 ⟨rfl, c3⟩
      have t3 := tv2.trans (c3.mono tv2.size)
      have ro := ro.to c3
      have ry := ry.to c3
      go_wp2_with fail
      refine (sameTies_any Ay Ao Z.length Z.length Z Z _ ry ro (by omega)).mono ?_
      rintro e v4 ⟨rfl, c4⟩
      have t4 := t3.trans (c4.mono t3.size)
      go_wp2_with fail
      go_ret
      exact ⟨ret_bool (by first | rfl | simp), t4⟩
    · have rD : ∀ u : World, Rd u u.heap.size Ao Z → Rd u u.heap.size (Ao.map (·.add ((l1.length % (Z.length + 1)) * 2))) (Z.drop (l1.length % (Z.length + 1))) := fun u h => by have h2 := h.from Z.length (l1.length % (Z.length + 1)) (Nat.le_refl _); rwa [if_neg (fun e => hcJ e.symm)] at h2
      have X1 := fun (u : World) (r : Rd u u.heap.size Ao Z) => tiesJoin_any Ao (Ao.map (·.add ((l1.length % (Z.length + 1)) * 2))) Z.length (Z.length - (l1.length % (Z.length + 1))) (Z.take (l1.length % (Z.length + 1))) (Z.drop (l1.length % (Z.length + 1))) u (r.take _) (rD u r) (by rw [EJ.out]; omega) (by rw [ED.out]; omega)
      have X2 := fun (u : World) (r : Rd u u.heap.size Ao Z) => tiesJoin_any (Ao.map (·.add ((l1.length % (Z.length + 1)) * 2))) Ao (Z.length - (l1.length % (Z.length + 1))) Z.length (Z.drop (l1.length % (Z.length + 1))) (Z.take (l1.length % (Z.length + 1))) u (rD u r) (r.take _) (by rw [ED.out]; omega) (by rw [EJ.out]; omega)
      rw [ED.out, EJ.out, E2.out, E1.out] at X1
      rw [ED.out, EJ.out, E4.out, E3.out] at X2
      clear rD E1 E2 E3 E4 ED EJ
      have hcJ2 : ¬ Z.length = (l1.length % (Z.length + 1)) := fun e => hcJ e.symm
      have X1 := Lib.hid X1
      have X2 := Lib.hid X2
      go_wp2_with fail
      refine wp_region_plan (Below u4.heap.size u4) [([0, 1, 2, 3, 4, 5], 6)] [7, 8, 9, 10, 11] (by kernel_rfl) (by kernel_rfl) (below_drewN (Below.refl _ _) 1) fun hne => ?_
      simp only [wpPlan, wpEff, effOf, opsAt, optCons, List.getElem?_toArray, List.getElem?_cons_zero, List.getElem?_cons_succ]
      have S0 := below_drewN (Below.refl u4.heap.size u4) 1
      repeat (go_big_quiet_step (fail))
      refine wpQuiet_nil ?_
      go_wp2_with fail
      refine (X1.out _ (ro.to S0)).mono ?_
      rintro e v1 ⟨Ax, rfl, ox, c1⟩
      have S1 := S0.trans (c1.mono S0.size)
      go_wp2_with fail
      refine effQ_normal S1 ?_
      repeat (go_big_quiet_step (fail))
      refine wpQuiet_nil ?_
      refine noPan_normal ?_
      have tv1 := t4.trans (S1.mono t4.size)
      have ro := ro.to S1
      clear S0 c1 X1
      have rx := ox.rd
      clear ox S1
      go_wp2_with fail
      refine wp_region_plan (Below v1.heap.size v1) [([0, 1, 2, 3, 4, 5], 6)] [7, 8, 9, 10, 11] (by kernel_rfl) (by kernel_rfl) (below_drewN (Below.refl _ _) 1) fun hne => ?_
      simp only [wpPlan, wpEff, effOf, opsAt, optCons, List.getElem?_toArray, List.getElem?_cons_zero, List.getElem?_cons_succ]
      have S0 := below_drewN (Below.refl v1.heap.size v1) 1
      repeat (go_big_quiet_step (fail))
      refine wpQuiet_nil ?_
      go_wp2_with fail
      refine (X2.out _ (ro.to S0)).mono ?_
      rintro e v2 ⟨Ay, rfl, oy, c1⟩
      have S1 := S0.trans (c1.mono S0.size)
      go_wp2_with fail
      refine effQ_normal S1 ?_
      repeat (go_big_quiet_step (fail))
      refine wpQuiet_nil ?_
      refine noPan_normal ?_
      have tv2 := tv1.trans (S1.mono tv1.size)
      have ro := ro.to S1
      clear S0 c1 X2
      have rx := rx.to S1
      have ry := oy.rd
      clear oy S1
      go_wp2_with fail
      refine (sameTies_any Ax Ao Z.length Z.length Z Z _ rx ro (by omega)).mono ?_
      rintro e v3 ⟨rfl, c3⟩
      have t3 := tv2.trans (c3.mono tv2.size)
      have ro := ro.to c3
      have ry := ry.to c3
      go_wp2_with fail
      refine (sameTies_any Ay Ao Z.length Z.length Z Z _ ry ro (by omega)).mono ?_
      rintro e v4 ⟨rfl, c4⟩
      have t4 := t3.trans (c4.mono t3.size)
      go_wp2_with fail
      go_ret
      exact ⟨ret_bool (by first | rfl | simp), t4⟩

set_option maxRecDepth 100000 in
theorem liftedFnTiesJoinParts (os : Os) (started : os.Started) (H : Type) (enc : TypeId × Value → H) :
    ReturnsInHanded {} Try.checked os 4 .any (Rows.fnTiesJoinPartsSpec.pre6 enc Try.prog Try.f4 Rows.fnTiesJoinPartsRow.domain false) (Rows.fnTiesJoinPartsSpec.post enc Try.prog Try.f4 false true false false) := by
  refine returnsInHanded_of_change (C := Try.checked) own_ started (by kernel_rfl) Try.func4
    (ChangeSpec.witness6 (enc := enc) (C := Try.checked) false ⟨#[], #[.slice none 0 0, .slice none 0 0], []⟩ 8 (by kernel_rfl) (by kernel_rfl) (by kernel_rfl) (by kernel_rfl)) ?_
  intro W base args ds gs before hval0 hW hcnd _
  have hval : ∀ (j : Nat) t v, Try.f4.params[j]? = some t → args[j]? = some v → Value.okWide Try.prog W .any base t v := hval0
  have hW' := hW
  obtain ⟨p, q, hA0, hV, rfl, hfz, hnd⟩ := hW
  have hA : DataW.TrodAll enc Try.prog W 0 (fun _ => true) true Try.f4.params.toList args.toList ds p := hA0
  rw [Try.params4] at hA hval
  obtain ⟨v0, vs0, d0, ds0, p0, q0, hargs, rfl, rfl, h0, r0⟩ := trodAll_cons hA
  obtain ⟨v1, vs1, d1, ds1, p1, q1, rfl, rfl, rfl, h1, r1⟩ := trodAll_cons r0
  obtain ⟨rfl, rfl, rfl⟩ := trodAll_nil r1
  obtain rfl : args = #[v0, v1] := by cases args; simp_all
  obtain ⟨rfl, rfl⟩ := trodVars_none hV
  obtain ⟨a0, n0, c0, rfl⟩ := okWide_slice Try.underlying22 (hval 0 22 v0 rfl rfl)
  have kk0 := h0
  have lt0 : ∀ x ∈ p0, x.block < W.heap.size := by obtain ⟨m, hm⟩ := kk0; exact DataW.trod_lt m _ _ _ hm
  obtain ⟨l0, e0, g0, w0, b0, bm0⟩ : ∃ l : List Int, l.length = n0 ∧ RdI W W.heap.size .u8 a0 l ∧ (∀ z ∈ l, (Lit.int .u8 z).wf = true) ∧ n0 ≤ c0 ∧ c0 ≤ maxLen := by
    obtain ⟨fuel, hf⟩ := h0
    exact openI Try.underlying22 Try.underlying5 (by kernel_rfl) (by simpa [Value.cells] using hf)
  subst e0
  obtain ⟨a1, n1, c1, rfl⟩ := okWide_slice Try.underlying22 (hval 1 22 v1 rfl rfl)
  have kk1 := h1
  have lt1 : ∀ x ∈ p1, x.block < W.heap.size := by obtain ⟨m, hm⟩ := kk1; exact DataW.trod_lt m _ _ _ hm
  obtain ⟨l1, e1, g1, w1, b1, bm1⟩ : ∃ l : List Int, l.length = n1 ∧ RdI W W.heap.size .u8 a1 l ∧ (∀ z ∈ l, (Lit.int .u8 z).wf = true) ∧ n1 ≤ c1 ∧ c1 ≤ maxLen := by
    obtain ⟨fuel, hf⟩ := h1
    exact openI Try.underlying22 Try.underlying5 (by kernel_rfl) (by simpa [Value.cells] using hf)
  subst e1
  clear hA0 hval0
  refine (walkFnTiesJoinParts a0 c0 l0 a1 c1 l1 W g0 (wf_bytes w0) b0 (by unfold maxLen at bm0; omega)).mono fun e W' ⟨he, bel⟩ => ?_
  subst he
  exact ⟨_, rfl, _, _, _, [], _, [], hW', trodAll_mk1 (shut_bool Try.underlying4 _), (trodAll_cons_mk (Below.trod laidOut_ (by kernel_rfl) (of_decide_eq_true (by kernel_rfl)) kk0 bel lt0) (trodAll_cons_mk (Below.trod laidOut_ (by kernel_rfl) (of_decide_eq_true (by kernel_rfl)) kk1 bel lt1) trodAll_mk0)), rfl, bel.frame _, fun h => by cases h⟩

theorem fnTiesJoinParts_holds : Rows.FnTiesJoinPartsSaid :=
  OpenClaim.holds_of_wide 4 Try.f4 rfl rfl rfl rfl rfl rfl rfl ⟨rfl, rfl, rfl, rfl, rfl⟩ rfl rfl rfl rfl rfl (by kernel_rfl) Try.func4 (by kernel_rfl)
    (of_decide_eq_true (by kernel_rfl)) (by unfold Func.isWrapper; first | (rw [if_pos (by decide +kernel)]; kernel_rfl) | (rw [if_neg (by decide +kernel)]; exact ⟨rfl, rfl⟩))
    (fun os started H enc _ => liftedFnTiesJoinParts os started H enc)

end Go.Proofs.Ytihkdbgnoncgnaa
