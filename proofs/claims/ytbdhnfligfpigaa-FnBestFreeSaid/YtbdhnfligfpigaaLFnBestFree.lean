/- The statement FnBestFreeSaid: for all arguments the Go function laws.FnBestFree returns true and leaves its arguments as they were. No condition. -/
import Derived.Test.YtbdhnfligfpigaaCBest
import Derived.Test.YtbdhnfligfpigaaCBestS
import Derived.Test.YtbdhnfligfpigaaDrawC
import Derived.Test.YtbdhnfligfpigaaCutMore
import Derived.Test.YtbdhnfligfpigaaInts
import Derived.Test.YtbdhnfligfpigaaFrame
namespace Go.Proofs.Ytbdhnfligfpigaa
open Go.ChangeShapes Go.WideShapes Go.ChangeAt Go.RowKit

set_option maxRecDepth 100000 in
set_option maxHeartbeats 4000000 in
theorem walkFnBestFree (A0 : Option Addr) (c0 : Nat) (l0 : List Int) (w : World) (r0 : RdI w w.heap.size .u8 A0 l0) (y0 : ∀ x ∈ l0, 0 ≤ x ∧ x ≤ 255) (k0 : l0.length ≤ c0) (m0 : c0 ≤ 9223372036854775807) :
    Calls Try.prog 12 #[.slice A0 l0.length c0] w fun e w' => e = .returned (.bool true) ∧ Below w.heap.size w w' := by
  by_cases z0 : 1048576 < l0.length
  · clear r0 y0
    go_enter Try.func12, Try.ntmps12
    go_wp2_with fail
    go_ret
    exact ⟨rfl, Below.refl _ _⟩
  have Y0 := Lib.hid y0
  clear y0
  go_enter Try.func12, Try.ntmps12
  go_wp2_with fail
  refine (DrawCutsBest_any A0 c0 l0 _ r0 Y0.out (by omega) k0 m0).mono ?_
  rintro e u1 ⟨AL, cL, L, lo, hi, rfl, hL, hsm, ⟨lo0, lo1⟩, ⟨hi0, hi1⟩, oL, b1⟩
  have s1 := b1.size
  have t1 := b1
  have rL := RdI.of_own oL
  clear oL
  clear b1
  clear r0
  have hbl := bestC_len L lo hi
  go_wp2_with fail
  refine (cutsBest_any AL cL (L) lo hi _ rL (by omega)).mono ?_
  rintro e u2 ⟨Ao, co, rfl, oo, b2⟩
  have s2 := b2.size
  have t2 := t1.trans (b2.mono t1.size)
  have rL := rL.to b2
  have ro := RdI.of_own oo
  clear oo
  clear b2 t1
  go_wp2_with fail
  refine (specCutsBest_any AL cL (L) lo hi _ rL (by omega)).mono ?_
  rintro e u3 ⟨Aw, cw, rfl, ow, b3⟩
  have s3 := b3.size
  have t3 := t2.trans (b3.mono t2.size)
  have rL := rL.to b3
  have ro := ro.to b3
  have rw := RdI.of_own ow
  clear ow
  clear b3 t2
  go_wp2_with fail
  generalize hok : (bestOk L lo hi) = ok
  cases ok with
  | false =>
    go_wp2_with fail
    refine (sameInts_any Ao Aw co cw (bestC L lo hi) (bestC L lo hi) _ ro rw (by omega)).mono ?_
    rintro e u4 ⟨rfl, b4⟩
    have s4 := b4.size
    have t4 := t3.trans (b4.mono t3.size)
    have rL := rL.to b4
    have ro := ro.to b4
    have rw := rw.to b4
    clear b4 t3
    go_wp2_with fail
    refine (sameInts_any Ao Aw co cw (bestC L lo hi) (bestC L lo hi) _ ro rw (by omega)).mono ?_
    rintro e u5 ⟨rfl, b5⟩
    have s5 := b5.size
    have t5 := t4.trans (b5.mono t4.size)
    have rL := rL.to b5
    have ro := ro.to b5
    have rw := rw.to b5
    clear b5 t4
    go_wp2_with fail
    go_ret
    exact ⟨ret_bool (by simp), t5⟩
  | true =>
    go_wp2_with fail
    refine (sameInts_any Ao Aw co cw (bestC L lo hi) (bestC L lo hi) _ ro rw (by omega)).mono ?_
    rintro e u4 ⟨rfl, b4⟩
    have s4 := b4.size
    have t4 := t3.trans (b4.mono t3.size)
    have rL := rL.to b4
    have ro := ro.to b4
    have rw := rw.to b4
    clear b4 t3
    clear rw
    obtain ⟨e1, e2, e3, e4⟩ := best_free hok
    have E1 := Lib.hid e1
    generalize hz : costV L 1 16 (bestC L 1 16) = z at e2
    generalize hv : costV L lo hi (bestC L lo hi) = v at e3
    have HV := Lib.hid hv
    have HZ := Lib.hid hz
    clear e1 hv hz hok
    subst e2
    have hbm := bestC_len L 1 16
    go_wp2_with fail
    refine (cutsBest_any AL cL (L) 1 16 _ rL (by omega)).mono ?_
    rintro e u5 ⟨Ax, cx, rfl, ox, b5⟩
    have s5 := b5.size
    have t5 := t4.trans (b5.mono t4.size)
    have rL := rL.to b5
    have ro := ro.to b5
    have rx := RdI.of_own ox
    clear ox
    clear b5 t4
    rw [E1.out]
    have rL2 := rL
    obtain ⟨b, o, hA, hB, hcs⟩ := rL2 (by omega)
    subst hA
    have q1 := hcs (L.length - 1) (by omega)
    clear hcs
    have wr1 : IntKind.i64.wrap ((L.length : Int) - 1) = ((L.length - 1 : Nat) : Int) := by rw [IntWalk.i64_in _ (by omega)]; omega
    have l1 : (0 : Int) ≤ ((L.length - 1 : Nat) : Int) := by omega
    have l2 : ((L.length - 1 : Nat) : Int) < (L.length : Int) := by omega
    generalize hj : L.length - 1 = j at *
    have HJ := Lib.hid hj
    clear hj
    have BD : ∀ m, Below u5.heap.size u5 (u5.drewN m) := fun m => below_drewN (Below.refl _ _) m
    have rLd := fun m => rL.to (BD m)
    have rod := fun m => ro.to (BD m)
    have rxd := fun m => rx.to (BD m)
    have he1 : ∀ i : SW (Below u5.heap.size u5), (sw i).cell? ⟨b, o + j, none⟩ = some (.int .i64 (gI L j)) := fun i => ((sw_is i).cell (p := ⟨b, _, none⟩) hB).trans q1
    go_wp2_with fail
    refine wp_region_plan (Below u5.heap.size u5) [([0, 1, 2, 3, 5, 6, 7, 8, 9], 4), ([10, 11, 12, 13, 14, 15, 16, 18, 19, 20, 21, 22], 17)] [23, 24, 25] (by kernel_rfl) (by kernel_rfl) (BD 1) fun hne => ?_
    simp only [wpPlan, wpEff, effOf, opsAt, optCons, List.getElem?_toArray, List.getElem?_cons_zero, List.getElem?_cons_succ]
    repeat (go_big_quiet_step (fail))
    refine wpQuiet_nil ?_
    go_wp2_with fail
    refine (cutsCost_any (some ⟨b, o, none⟩) Ax cL cx L (bestC L 1 16) 1 16 _ (rLd _) (rxd _) (by omega) (by omega)).mono ?_
    rintro e w6 ⟨rfl, rfl⟩
    rw [HZ.out]
    go_wp2_with fail
    refine effQ_normal (BD _) ?_
    repeat (go_big_quiet_step (fail))
    refine wpQuiet_nil ?_
    go_wp2_with fail
    refine (cutsCost_any (some ⟨b, o, none⟩) Ao cL co L (bestC L lo hi) lo hi _ (rLd _) (rod _) (by omega) (by omega)).mono ?_
    rintro e w7 ⟨rfl, rfl⟩
    rw [HV.out]
    go_wp2_with fail
    refine effQ_normal (BD _) ?_
    repeat (go_big_quiet_step (fail))
    refine wpQuiet_nil ?_
    refine noPan_normal ?_
    go_wp2
    go_ret
    exact ⟨ret_bool (by simp <;> omega), t5.trans ((BD _).mono t5.size)⟩

set_option maxRecDepth 100000 in
theorem liftedFnBestFree (os : Os) (started : os.Started) (H : Type) (enc : TypeId × Value → H) :
    ReturnsInHanded {} Try.checked os 12 .any (Rows.fnBestFreeSpec.pre6 enc Try.prog Try.f12 Rows.fnBestFreeRow.domain false) (Rows.fnBestFreeSpec.post enc Try.prog Try.f12 false true false false) := by
  refine returnsInHanded_of_change (C := Try.checked) own_ started (by kernel_rfl) Try.func12
    (ChangeSpec.witness6 (enc := enc) (C := Try.checked) false ⟨#[], #[.slice none 0 0], []⟩ 8 (by kernel_rfl) (by kernel_rfl) (by kernel_rfl) (by kernel_rfl)) ?_
  intro W base args ds gs before hval0 hW hcnd _
  have hval : ∀ (j : Nat) t v, Try.f12.params[j]? = some t → args[j]? = some v → Value.okWide Try.prog W .any base t v := hval0
  have hW' := hW
  obtain ⟨p, q, hA0, hV, rfl, hfz, hnd⟩ := hW
  have hA : DataW.TrodAll enc Try.prog W 0 (fun _ => true) true Try.f12.params.toList args.toList ds p := hA0
  rw [Try.params12] at hA hval
  obtain ⟨v0, vs0, d0, ds0, p0, q0, hargs, rfl, rfl, h0, r0⟩ := trodAll_cons hA
  obtain ⟨rfl, rfl, rfl⟩ := trodAll_nil r0
  obtain rfl : args = #[v0] := by cases args; simp_all
  obtain ⟨rfl, rfl⟩ := trodVars_none hV
  obtain ⟨a0, n0, c0, rfl⟩ := okWide_slice Try.underlying29 (hval 0 29 v0 rfl rfl)
  have kk0 := h0
  have lt0 : ∀ x ∈ p0, x.block < W.heap.size := by obtain ⟨m, hm⟩ := kk0; exact DataW.trod_lt m _ _ _ hm
  obtain ⟨l0, e0, g0, w0, b0, bm0⟩ : ∃ l : List Int, l.length = n0 ∧ RdI W W.heap.size .u8 a0 l ∧ (∀ z ∈ l, (Lit.int .u8 z).wf = true) ∧ n0 ≤ c0 ∧ c0 ≤ maxLen := by
    obtain ⟨fuel, hf⟩ := h0
    exact openI Try.underlying29 Try.underlying5 (by kernel_rfl) (by simpa [Value.cells] using hf)
  subst e0
  clear hA0 hval0
  refine (walkFnBestFree a0 c0 l0 W g0 (wf_bytes w0) b0 (by unfold maxLen at bm0; omega)).mono fun e W' ⟨he, bel⟩ => ?_
  subst he
  exact ⟨_, rfl, _, _, _, [], _, [], hW', trodAll_mk1 (shut_bool Try.underlying4 _), (trodAll_cons_mk (Below.trod laidOut_ (by kernel_rfl) (of_decide_eq_true (by kernel_rfl)) kk0 bel lt0) trodAll_mk0), rfl, bel.frame _, fun h => by cases h⟩

theorem fnBestFree_holds : Rows.FnBestFreeSaid :=
  OpenClaim.holds_of_wide 12 Try.f12 rfl rfl rfl rfl rfl rfl rfl ⟨rfl, rfl, rfl, rfl, rfl⟩ rfl rfl rfl rfl rfl (by kernel_rfl) Try.func12 (by kernel_rfl)
    (of_decide_eq_true (by kernel_rfl)) (by unfold Func.isWrapper; first | (rw [if_pos (by decide +kernel)]; kernel_rfl) | (rw [if_neg (by decide +kernel)]; exact ⟨rfl, rfl⟩))
    (fun os started H enc _ => liftedFnBestFree os started H enc)

end Go.Proofs.Ytbdhnfligfpigaa
