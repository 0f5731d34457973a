/- The statement FnTiesFitLessSaid: for all arguments the Go function laws.FnTiesFitLess returns true and leaves its arguments as they were. No condition. -/
import Derived.Test.YtihkdbgnoncgnaaJoinTop
import Derived.Test.YtihkdbgnoncgnaaJoinSpec
import Derived.Test.YtihkdbgnoncgnaaTop
import Derived.Test.YtihkdbgnoncgnaaMore
import Derived.Test.YtihkdbgnoncgnaaTiesMore
import Derived.Test.YtihkdbgnoncgnaaPlan
import Derived.Test.YtihkdbgnoncgnaaFrame
namespace Go.Proofs.Ytihkdbgnoncgnaa
open Go.ChangeShapes Go.WideShapes Go.ChangeAt Go.RowKit

set_option maxRecDepth 100000 in
set_option maxHeartbeats 4000000 in
theorem walkFnTiesFitLess (A0 : Option Addr) (c0 : Nat) (l0 : List Int) (A1 : Option Addr) (c1 : Nat) (l1 : List Int) (w : World) (r0 : RdI w w.heap.size .u8 A0 l0) (y0 : ∀ x ∈ l0, 0 ≤ x ∧ x ≤ 255) (k0 : l0.length ≤ c0) (m0 : c0 ≤ 9223372036854775807)  :
    Calls Try.prog 7 #[.slice A0 l0.length c0, .slice A1 l1.length c1] w fun e w' => e = .returned (.bool true) ∧ Below w.heap.size w w' := by
  by_cases z0 : 1048576 < l0.length
  · clear r0 y0
    go_enter Try.func7, Try.ntmps7
    go_wp2_with fail
    go_ret
    exact ⟨rfl, Below.refl _ _⟩
  by_cases z1 : 1048576 < l1.length
  · clear r0 y0
    go_enter Try.func7, Try.ntmps7
    go_wp2_with fail
    go_ret
    exact ⟨rfl, Below.refl _ _⟩
  have Y0 := Lib.hid y0
  clear y0
  go_enter Try.func7, Try.ntmps7
  go_wp2_with fail
  refine (DrawTiesFit_any A0 c0 l0 _ r0 Y0.out (by omega) k0 m0).mono ?_
  rintro e u1 ⟨AL, cL, L, AM, cM, M, rfl, hL, hM, oL, oM, b1⟩
  have s1 := b1.size
  have t1 := b1
  have wL := own_cap oL
  have rL := Rd.of_own oL
  clear oL
  have wM := own_cap oM
  have rM := Rd.of_own oM
  clear oM
  clear b1
  clear r0
  go_wp2_with fail
  refine (tiesFit_any AL AM cL cM (L) (M) _ rL rM (by omega) (by omega)).mono ?_
  rintro e u2 ⟨rfl, b2⟩
  have s2 := b2.size
  have t2 := t1.trans (b2.mono t1.size)
  have rL := rL.to b2
  have rM := rM.to b2
  clear b2 t1
  go_wp2_with fail
  refine (specTiesFit_any AL AM cL cM (L) (M) _ rL rM (by omega) (by omega)).mono ?_
  rintro e u3 ⟨rfl, b3⟩
  have s3 := b3.size
  have t3 := t2.trans (b3.mono t2.size)
  have rL := rL.to b3
  have rM := rM.to b3
  clear b3 t2
  cases hok : fitV L M with
  | false =>
    go_wp2_with fail
    go_ret
    exact ⟨ret_bool (by simp), t3⟩
  | true =>
    obtain ⟨e1, e2⟩ := fit_less hok (l1.length % (L.length + 1)) (l1.length / 13 % (M.length + 1))
    have hj : (l1.length % (L.length + 1)) ≤ L.length := by have := Nat.mod_lt l1.length (show 0 < L.length + 1 by omega); omega
    have hk : (l1.length / 13 % (M.length + 1)) ≤ M.length := by have := Nat.mod_lt (l1.length / 13) (show 0 < M.length + 1 by omega); omega
    have g0 : (l1.length : Int) % ((L.length : Int) + 1) = (((l1.length % (L.length + 1)) : Nat) : Int) := by simp
    have g1 : (0 : Int) ≤ (l1.length : Int) % ((L.length : Int) + 1) ∧ (l1.length : Int) % ((L.length : Int) + 1) ≤ (cL : Int) ∧ (l1.length : Int) % ((L.length : Int) + 1) ≤ (L.length : Int) := by rw [g0]; omega
    clear g0
    have g0 : (l1.length : Int) / 13 % ((M.length : Int) + 1) = (((l1.length / 13 % (M.length + 1)) : Nat) : Int) := by simp
    have g2 : (0 : Int) ≤ (l1.length : Int) / 13 % ((M.length : Int) + 1) ∧ (l1.length : Int) / 13 % ((M.length : Int) + 1) ≤ (cM : Int) := by rw [g0]; omega
    clear g0
    have ej : (L.take (l1.length % (L.length + 1))).length = (l1.length % (L.length + 1)) := by rw [List.length_take]; omega
    have ek : (M.take (l1.length / 13 % (M.length + 1))).length = (l1.length / 13 % (M.length + 1)) := by rw [List.length_take]; omega
    have ed : (L.drop (l1.length % (L.length + 1))).length = L.length - (l1.length % (L.length + 1)) := by rw [List.length_drop]
    have X1 := fun (u : World) (r : Rd u u.heap.size AL L) (s : Rd u u.heap.size AM M) => tiesFit_any AL AM cL cM (L.take (l1.length % (L.length + 1))) (M.take (l1.length / 13 % (M.length + 1))) u (r.take _) (s.take _) (by omega) (by omega)
    rw [ej, ek, e1] at X1
    have X1 := Lib.hid X1
    have E2 := Lib.hid e2
    have ED := Lib.hid ed
    clear ej ek e1 e2 hok ed
    by_cases hcJ : cL = (l1.length % (L.length + 1))
    · subst hcJ
      have X2 := fun (u : World) (_ : Rd u u.heap.size AL L) (s : Rd u u.heap.size AM M) => tiesFit_any AL AM 0 cM (L.drop (l1.length % (L.length + 1))) M u (fun h => absurd h (by rw [ED.out]; omega)) s (by rw [ED.out]; omega) (by omega)
      rw [show (L.drop (l1.length % (L.length + 1))).length = 0 by rw [ED.out]; omega, E2.out] at X2
      have X2 := Lib.hid X2
      go_wp2_with fail
      refine wp_region_plan (Below u3.heap.size u3) [([0, 1, 2, 3, 4, 5], 6), ([7, 8, 9, 10, 11], 12)] [13, 14] (by kernel_rfl) (by kernel_rfl) (below_drewN (Below.refl _ _) 1) fun hne => ?_
      simp only [wpPlan, wpEff, effOf, opsAt, optCons, List.getElem?_toArray, List.getElem?_cons_zero, List.getElem?_cons_succ]
      have S0 := below_drewN (Below.refl u3.heap.size u3) 1
      repeat (go_big_quiet_step (fail))
      refine wpQuiet_nil ?_
      go_wp2_with fail
      refine (X1.out _ (rL.to S0) (rM.to S0)).mono ?_
      rintro e v1 ⟨rfl, c1⟩
      have S1 := S0.trans (c1.mono S0.size)
      go_wp2_with fail
      refine effQ_normal S1 ?_
      repeat (go_big_quiet_step (fail))
      refine wpQuiet_nil ?_
      go_wp2_with fail
      refine (X2.out _ (rL.to S1) (rM.to S1)).mono ?_
      rintro e v2 ⟨rfl, c2⟩
      have S2 := S1.trans (c2.mono S1.size)
      go_wp2_with fail
      refine effQ_normal S2 ?_
      repeat (go_big_quiet_step (fail))
      refine wpQuiet_nil ?_
      refine noPan_normal ?_
      go_wp2
      go_ret
      exact ⟨ret_bool rfl, t3.trans (S2.mono t3.size)⟩
    · have X2 := fun (u : World) (r : Rd u u.heap.size AL L) (s : Rd u u.heap.size AM M) => tiesFit_any (AL.map (·.add ((l1.length % (L.length + 1)) * 2))) AM (cL - (l1.length % (L.length + 1))) cM (L.drop (l1.length % (L.length + 1))) M u (by have h2 := r.from cL (l1.length % (L.length + 1)) wL; rwa [if_neg hcJ] at h2) s (by rw [ED.out]; omega) (by omega)
      rw [ED.out, E2.out] at X2
      have X2 := Lib.hid X2
      go_wp2_with fail
      refine wp_region_plan (Below u3.heap.size u3) [([0, 1, 2, 3, 4, 5], 6), ([7, 8, 9, 10, 11], 12)] [13, 14] (by kernel_rfl) (by kernel_rfl) (below_drewN (Below.refl _ _) 1) fun hne => ?_
      simp only [wpPlan, wpEff, effOf, opsAt, optCons, List.getElem?_toArray, List.getElem?_cons_zero, List.getElem?_cons_succ]
      have S0 := below_drewN (Below.refl u3.heap.size u3) 1
      repeat (go_big_quiet_step (fail))
      refine wpQuiet_nil ?_
      go_wp2_with fail
      refine (X1.out _ (rL.to S0) (rM.to S0)).mono ?_
      rintro e v1 ⟨rfl, c1⟩
      have S1 := S0.trans (c1.mono S0.size)
      go_wp2_with fail
      refine effQ_normal S1 ?_
      repeat (go_big_quiet_step (fail))
      refine wpQuiet_nil ?_
      go_wp2_with fail
      refine (X2.out _ (rL.to S1) (rM.to S1)).mono ?_
      rintro e v2 ⟨rfl, c2⟩
      have S2 := S1.trans (c2.mono S1.size)
      go_wp2_with fail
      refine effQ_normal S2 ?_
      repeat (go_big_quiet_step (fail))
      refine wpQuiet_nil ?_
      refine noPan_normal ?_
      go_wp2
      go_ret
      exact ⟨ret_bool rfl, t3.trans (S2.mono t3.size)⟩

set_option maxRecDepth 100000 in
theorem liftedFnTiesFitLess (os : Os) (started : os.Started) (H : Type) (enc : TypeId × Value → H) :
    ReturnsInHanded {} Try.checked os 7 .any (Rows.fnTiesFitLessSpec.pre6 enc Try.prog Try.f7 Rows.fnTiesFitLessRow.domain false) (Rows.fnTiesFitLessSpec.post enc Try.prog Try.f7 false true false false) := by
  refine returnsInHanded_of_change (C := Try.checked) own_ started (by kernel_rfl) Try.func7
    (ChangeSpec.witness6 (enc := enc) (C := Try.checked) false ⟨#[], #[.slice none 0 0, .slice none 0 0], []⟩ 8 (by kernel_rfl) (by kernel_rfl) (by kernel_rfl) (by kernel_rfl)) ?_
  intro W base args ds gs before hval0 hW hcnd _
  have hval : ∀ (j : Nat) t v, Try.f7.params[j]? = some t → args[j]? = some v → Value.okWide Try.prog W .any base t v := hval0
  have hW' := hW
  obtain ⟨p, q, hA0, hV, rfl, hfz, hnd⟩ := hW
  have hA : DataW.TrodAll enc Try.prog W 0 (fun _ => true) true Try.f7.params.toList args.toList ds p := hA0
  rw [Try.params7] at hA hval
  obtain ⟨v0, vs0, d0, ds0, p0, q0, hargs, rfl, rfl, h0, r0⟩ := trodAll_cons hA
  obtain ⟨v1, vs1, d1, ds1, p1, q1, rfl, rfl, rfl, h1, r1⟩ := trodAll_cons r0
  obtain ⟨rfl, rfl, rfl⟩ := trodAll_nil r1
  obtain rfl : args = #[v0, v1] := by cases args; simp_all
  obtain ⟨rfl, rfl⟩ := trodVars_none hV
  obtain ⟨a0, n0, c0, rfl⟩ := okWide_slice Try.underlying22 (hval 0 22 v0 rfl rfl)
  have kk0 := h0
  have lt0 : ∀ x ∈ p0, x.block < W.heap.size := by obtain ⟨m, hm⟩ := kk0; exact DataW.trod_lt m _ _ _ hm
  obtain ⟨l0, e0, g0, w0, b0, bm0⟩ : ∃ l : List Int, l.length = n0 ∧ RdI W W.heap.size .u8 a0 l ∧ (∀ z ∈ l, (Lit.int .u8 z).wf = true) ∧ n0 ≤ c0 ∧ c0 ≤ maxLen := by
    obtain ⟨fuel, hf⟩ := h0
    exact openI Try.underlying22 Try.underlying5 (by kernel_rfl) (by simpa [Value.cells] using hf)
  subst e0
  obtain ⟨a1, n1, c1, rfl⟩ := okWide_slice Try.underlying22 (hval 1 22 v1 rfl rfl)
  have kk1 := h1
  have lt1 : ∀ x ∈ p1, x.block < W.heap.size := by obtain ⟨m, hm⟩ := kk1; exact DataW.trod_lt m _ _ _ hm
  obtain ⟨l1, e1, g1, w1, b1, bm1⟩ : ∃ l : List Int, l.length = n1 ∧ RdI W W.heap.size .u8 a1 l ∧ (∀ z ∈ l, (Lit.int .u8 z).wf = true) ∧ n1 ≤ c1 ∧ c1 ≤ maxLen := by
    obtain ⟨fuel, hf⟩ := h1
    exact openI Try.underlying22 Try.underlying5 (by kernel_rfl) (by simpa [Value.cells] using hf)
  subst e1
  clear hA0 hval0
  refine (walkFnTiesFitLess a0 c0 l0 a1 c1 l1 W g0 (wf_bytes w0) b0 (by unfold maxLen at bm0; omega)).mono fun e W' ⟨he, bel⟩ => ?_
  subst he
  exact ⟨_, rfl, _, _, _, [], _, [], hW', trodAll_mk1 (shut_bool Try.underlying4 _), (trodAll_cons_mk (Below.trod laidOut_ (by kernel_rfl) (of_decide_eq_true (by kernel_rfl)) kk0 bel lt0) (trodAll_cons_mk (Below.trod laidOut_ (by kernel_rfl) (of_decide_eq_true (by kernel_rfl)) kk1 bel lt1) trodAll_mk0)), rfl, bel.frame _, fun h => by cases h⟩

theorem fnTiesFitLess_holds : Rows.FnTiesFitLessSaid :=
  OpenClaim.holds_of_wide 7 Try.f7 rfl rfl rfl rfl rfl rfl rfl ⟨rfl, rfl, rfl, rfl, rfl⟩ rfl rfl rfl rfl rfl (by kernel_rfl) Try.func7 (by kernel_rfl)
    (of_decide_eq_true (by kernel_rfl)) (by unfold Func.isWrapper; first | (rw [if_pos (by decide +kernel)]; kernel_rfl) | (rw [if_neg (by decide +kernel)]; exact ⟨rfl, rfl⟩))
    (fun os started H enc _ => liftedFnTiesFitLess os started H enc)

end Go.Proofs.Ytihkdbgnoncgnaa
