/- The statement FnTiesCurveAtSaid: for all arguments the Go function laws.FnTiesCurveAt returns true and leaves its arguments as they were. No condition. -/
import Derived.Test.YtpaeajfjjklpnaaCurveAt
import Derived.Test.YtpaeajfjjklpnaaDrawT
import Derived.Test.YtpaeajfjjklpnaaTiesMore
import Derived.Test.YtpaeajfjjklpnaaPairKnot
import Derived.Test.YtpaeajfjjklpnaaFrame
namespace Go.Proofs.Ytpaeajfjjklpnaa
open Go.ChangeShapes Go.WideShapes Go.ChangeAt Go.RowKit

set_option maxRecDepth 100000 in
set_option maxHeartbeats 4000000 in
theorem walkFnTiesCurveAt (A0 : Option Addr) (c0 : Nat) (l0 : List Int) (A1 : Option Addr) (c1 : Nat) (l1 : List Int) (w : World) (r0 : RdI w w.heap.size .u8 A0 l0) (y0 : ∀ x ∈ l0, 0 ≤ x ∧ x ≤ 255) (k0 : l0.length ≤ c0) (m0 : c0 ≤ 9223372036854775807)  :
    Calls Try.prog 3 #[.slice A0 l0.length c0, .slice A1 l1.length c1] w fun e w' => e = .returned (.bool true) ∧ Below w.heap.size w w' := by
  by_cases z0 : 1048576 < l0.length
  · clear r0 y0
    go_enter Try.func3, Try.ntmps3
    go_wp2_with fail
    go_ret
    exact ⟨rfl, Below.refl _ _⟩
  by_cases z1 : 1048576 < l1.length
  · clear r0 y0
    go_enter Try.func3, Try.ntmps3
    go_wp2_with fail
    go_ret
    exact ⟨rfl, Below.refl _ _⟩
  have Y0 := Lib.hid y0
  clear y0
  go_enter Try.func3, Try.ntmps3
  go_wp2_with fail
  refine (DrawTiesCurve_any A0 c0 l0 _ r0 Y0.out (by omega) k0 m0).mono ?_
  rintro e u1 ⟨AL, cL, L, rfl, hL, _, oL, b1⟩
  have s1 := b1.size
  have t1 := b1
  have rL := Rd.of_own oL
  clear oL
  clear b1
  clear r0
  have hr := curL_len L
  go_wp2_with fail
  refine (tiesCurve_any AL cL (L) _ rL (by omega)).mono ?_
  rintro e u2 ⟨Ao, co, rfl, oo, b2⟩
  have s2 := b2.size
  have t2 := t1.trans (b2.mono t1.size)
  have rL := rL.to b2
  have ro := Rd.of_own oo
  clear oo
  clear b2 t1
  go_wp2_with fail
  refine (specTiesCurve_any AL cL (L) _ rL (by omega)).mono ?_
  rintro e u3 ⟨Aw, cw, rfl, ow, b3⟩
  have s3 := b3.size
  have t3 := t2.trans (b3.mono t2.size)
  have rL := rL.to b3
  have ro := ro.to b3
  have rw := Rd.of_own ow
  clear ow
  clear b3 t2
  go_wp2_with fail
  generalize hok : (curOk L) = ok
  cases ok with
  | false =>
    go_wp2_with fail
    refine (sameKnots_any Ao Aw co cw (curL L) (curL L) _ ro rw (by omega)).mono ?_
    rintro e u4 ⟨rfl, b4⟩
    have s4 := b4.size
    have t4 := t3.trans (b4.mono t3.size)
    have rL := rL.to b4
    have ro := ro.to b4
    have rw := rw.to b4
    clear b4 t3
    go_wp2_with fail
    refine (sameKnots_any Ao Aw co cw (curL L) (curL L) _ ro rw (by omega)).mono ?_
    rintro e u5 ⟨rfl, b5⟩
    have s5 := b5.size
    have t5 := t4.trans (b5.mono t4.size)
    have rL := rL.to b5
    have ro := ro.to b5
    have rw := rw.to b5
    clear b5 t4
    go_wp2_with fail
    go_ret
    exact ⟨ret_bool (by simp), t5⟩
  | true =>
    go_wp2_with fail
    refine (sameKnots_any Ao Aw co cw (curL L) (curL L) _ ro rw (by omega)).mono ?_
    rintro e u4 ⟨rfl, b4⟩
    have s4 := b4.size
    have t4 := t3.trans (b4.mono t3.size)
    have rL := rL.to b4
    have ro := ro.to b4
    have rw := rw.to b4
    clear b4 t3
    clear rw hr
    rw [curL_yes hok] at ro ⊢
    obtain ⟨n1, n2, n3, _⟩ := cur_parts hok
    have hj : (l1.length % L.length) < L.length := Nat.mod_lt _ (by omega)
    have bj := n3 (l1.length % L.length) hj
    have HOK := Lib.hid hok
    clear hok n3
    have j1 : (0 : Int) ≤ (l1.length : Int) % (L.length : Int) ∧ (l1.length : Int) % (L.length : Int) < (L.length : Int) := ⟨Int.emod_nonneg _ (by omega), Int.emod_lt_of_pos _ (by omega)⟩
    have j2 : ((l1.length : Int) % (L.length : Int)).toNat = (l1.length % L.length) := by rw [← Int.natCast_emod]; exact Int.toNat_natCast _
    have j3 : (1 : Int) ≤ (L.length : Int) := by omega
    obtain ⟨b, o, hA, hB, hcs⟩ := rL (by omega)
    subst hA
    obtain ⟨q1, q2⟩ := hcs (l1.length % L.length) hj
    clear hcs
    have CJ := Lib.hid (fun (u : World) (r : Rd u u.heap.size Ao L) => curveAtX_knot Ao co L (l1.length % L.length) u r HOK.out hj)
    generalize hx : fA L (l1.length % L.length) = x at *
    generalize hy : fB L (l1.length % L.length) = y at *
    clear hx hy
    go_wp2_with fail
    have hT := Blk.new_ u4 30 #[.int .i64 x, .int .i64 y]
    have bT : Below u4.heap.size u4 (u4.alloc (.cells #[.int .i64 x, .int .i64 y] 30)) := (Below.refl _ _).alloc (Nat.le_refl _) _
    have ro := ro.to bT
    have tT := t4.trans (bT.mono t4.size)
    generalize u4.heap.size = gT at hT ⊢
    generalize u4.alloc (.cells #[.int .i64 x, .int .i64 y] 30) = v1 at hT ro tT ⊢
    have e0 := hT.cell 0
    clear q1 q2 bT rL
    go_wp2_with fail
    refine (CJ.out _ ro).mono ?_
    rintro e v2 ⟨rfl, b2⟩
    have hT2 := hT.below b2 hT.lt
    have t2z := tT.trans (b2.mono tT.size)
    clear hT e0 ro CJ tT b2
    go_wp2_with fail
    have hF := Blk.new_ v2 32 #[.int .i64 y, .int .i64 1]
    have hT3 := hT2.alloc (.cells #[.int .i64 y, .int .i64 1] 32)
    have t3z := t2z.alloc t2z.size (.cells #[.int .i64 y, .int .i64 1] 32)
    generalize v2.heap.size = gF at hF ⊢
    generalize v2.alloc (.cells #[.int .i64 y, .int .i64 1] 32) = v3 at hF hT3 t3z ⊢
    clear hT2 t2z
    have he1 : ∀ i : SW (Below v3.heap.size v3), (sw i).cell? ⟨gF, 0, none⟩ = some (.int .i64 y) := fun i => ((sw_is i).cell (p := ⟨gF, _, none⟩) hF.lt).trans (hF.cell 0)
    have he2 : ∀ i : SW (Below v3.heap.size v3), (sw i).cell? ⟨gF, 1, none⟩ = some (.int .i64 1) := fun i => ((sw_is i).cell (p := ⟨gF, _, none⟩) hF.lt).trans (hF.cell 1)
    have he3 : ∀ i : SW (Below v3.heap.size v3), (sw i).cell? ⟨gT, 1, none⟩ = some (.int .i64 y) := fun i => ((sw_is i).cell (p := ⟨gT, _, none⟩) hT3.lt).trans (hT3.cell 1)
    have GF := fun op xo yo u v w => grdFrac op xo yo u v w
    refine wp_region_plan (Below v3.heap.size v3) [([0, 1, 2, 3, 4], 5)] [6, 7, 8] (by kernel_rfl) (by kernel_rfl) (below_drewN (Below.refl _ _) 1) fun hne => ?_
    simp only [wpPlan, wpEff, effOf, opsAt, optCons, List.getElem?_toArray, List.getElem?_cons_zero, List.getElem?_cons_succ]
    repeat (go_big_quiet_step (fail))
    refine wpQuiet_nil ?_
    go_wp2_with fail
    refine (frac_any y _).mono ?_
    rintro e v4 ⟨rfl, b4⟩
    have S1 := (below_drewN (Below.refl v3.heap.size v3) 1).trans b4
    go_wp2_with fail
    refine effQ_normal S1 ?_
    repeat (go_big_quiet_step (fail))
    refine wpQuiet_nil ?_
    refine noPan_normal ?_
    go_wp2
    go_ret
    exact ⟨ret_bool (by simp), t3z.trans (S1.mono t3z.size)⟩

set_option maxRecDepth 100000 in
theorem liftedFnTiesCurveAt (os : Os) (started : os.Started) (H : Type) (enc : TypeId × Value → H) :
    ReturnsInHanded {} Try.checked os 3 .any (Rows.fnTiesCurveAtSpec.pre6 enc Try.prog Try.f3 Rows.fnTiesCurveAtRow.domain false) (Rows.fnTiesCurveAtSpec.post enc Try.prog Try.f3 false true false false) := by
  refine returnsInHanded_of_change (C := Try.checked) own_ started (by kernel_rfl) Try.func3
    (ChangeSpec.witness6 (enc := enc) (C := Try.checked) false ⟨#[], #[.slice none 0 0, .slice none 0 0], []⟩ 8 (by kernel_rfl) (by kernel_rfl) (by kernel_rfl) (by kernel_rfl)) ?_
  intro W base args ds gs before hval0 hW hcnd _
  have hval : ∀ (j : Nat) t v, Try.f3.params[j]? = some t → args[j]? = some v → Value.okWide Try.prog W .any base t v := hval0
  have hW' := hW
  obtain ⟨p, q, hA0, hV, rfl, hfz, hnd⟩ := hW
  have hA : DataW.TrodAll enc Try.prog W 0 (fun _ => true) true Try.f3.params.toList args.toList ds p := hA0
  rw [Try.params3] at hA hval
  obtain ⟨v0, vs0, d0, ds0, p0, q0, hargs, rfl, rfl, h0, r0⟩ := trodAll_cons hA
  obtain ⟨v1, vs1, d1, ds1, p1, q1, rfl, rfl, rfl, h1, r1⟩ := trodAll_cons r0
  obtain ⟨rfl, rfl, rfl⟩ := trodAll_nil r1
  obtain rfl : args = #[v0, v1] := by cases args; simp_all
  obtain ⟨rfl, rfl⟩ := trodVars_none hV
  obtain ⟨a0, n0, c0, rfl⟩ := okWide_slice Try.underlying22 (hval 0 22 v0 rfl rfl)
  have kk0 := h0
  have lt0 : ∀ x ∈ p0, x.block < W.heap.size := by obtain ⟨m, hm⟩ := kk0; exact DataW.trod_lt m _ _ _ hm
  obtain ⟨l0, e0, g0, w0, b0, bm0⟩ : ∃ l : List Int, l.length = n0 ∧ RdI W W.heap.size .u8 a0 l ∧ (∀ z ∈ l, (Lit.int .u8 z).wf = true) ∧ n0 ≤ c0 ∧ c0 ≤ maxLen := by
    obtain ⟨fuel, hf⟩ := h0
    exact openI Try.underlying22 Try.underlying5 (by kernel_rfl) (by simpa [Value.cells] using hf)
  subst e0
  obtain ⟨a1, n1, c1, rfl⟩ := okWide_slice Try.underlying22 (hval 1 22 v1 rfl rfl)
  have kk1 := h1
  have lt1 : ∀ x ∈ p1, x.block < W.heap.size := by obtain ⟨m, hm⟩ := kk1; exact DataW.trod_lt m _ _ _ hm
  obtain ⟨l1, e1, g1, w1, b1, bm1⟩ : ∃ l : List Int, l.length = n1 ∧ RdI W W.heap.size .u8 a1 l ∧ (∀ z ∈ l, (Lit.int .u8 z).wf = true) ∧ n1 ≤ c1 ∧ c1 ≤ maxLen := by
    obtain ⟨fuel, hf⟩ := h1
    exact openI Try.underlying22 Try.underlying5 (by kernel_rfl) (by simpa [Value.cells] using hf)
  subst e1
  clear hA0 hval0
  refine (walkFnTiesCurveAt a0 c0 l0 a1 c1 l1 W g0 (wf_bytes w0) b0 (by unfold maxLen at bm0; omega)).mono fun e W' ⟨he, bel⟩ => ?_
  subst he
  exact ⟨_, rfl, _, _, _, [], _, [], hW', trodAll_mk1 (shut_bool Try.underlying4 _), (trodAll_cons_mk (Below.trod laidOut_ (by kernel_rfl) (of_decide_eq_true (by kernel_rfl)) kk0 bel lt0) (trodAll_cons_mk (Below.trod laidOut_ (by kernel_rfl) (of_decide_eq_true (by kernel_rfl)) kk1 bel lt1) trodAll_mk0)), rfl, bel.frame _, fun h => by cases h⟩

theorem fnTiesCurveAt_holds : Rows.FnTiesCurveAtSaid :=
  OpenClaim.holds_of_wide 3 Try.f3 rfl rfl rfl rfl rfl rfl rfl ⟨rfl, rfl, rfl, rfl, rfl⟩ rfl rfl rfl rfl rfl (by kernel_rfl) Try.func3 (by kernel_rfl)
    (of_decide_eq_true (by kernel_rfl)) (by unfold Func.isWrapper; first | (rw [if_pos (by decide +kernel)]; kernel_rfl) | (rw [if_neg (by decide +kernel)]; exact ⟨rfl, rfl⟩))
    (fun os started H enc _ => liftedFnTiesCurveAt os started H enc)

end Go.Proofs.Ytpaeajfjjklpnaa
