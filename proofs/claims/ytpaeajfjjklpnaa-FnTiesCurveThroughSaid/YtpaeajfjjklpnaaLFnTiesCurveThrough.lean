/- The statement FnTiesCurveThroughSaid: for all arguments the Go function laws.FnTiesCurveThrough returns true and leaves its arguments as they were. No condition. -/
import Derived.Test.YtpaeajfjjklpnaaThrough
import Derived.Test.YtpaeajfjjklpnaaThroughS
import Derived.Test.YtpaeajfjjklpnaaTop
import Derived.Test.YtpaeajfjjklpnaaDrawTT
import Derived.Test.YtpaeajfjjklpnaaTiesMore
import Derived.Test.YtpaeajfjjklpnaaCurveAt
import Derived.Test.YtpaeajfjjklpnaaObj
import Derived.Test.YtpaeajfjjklpnaaFrame
namespace Go.Proofs.Ytpaeajfjjklpnaa
open Go.ChangeShapes Go.WideShapes Go.ChangeAt Go.RowKit

theorem thr_at {L M : List (Int × Int)} {k : Nat} (hk : k < (thrOf L M).length) : ∃ j i, j < L.length ∧ i < M.length ∧ fA (thrOf L M) k = fA L j ∧ fB (thrOf L M) k = fB M i ∧ fB L j = fA M i := by
  obtain ⟨y, h1, h2⟩ := mem_thrOf.1 (List.getElem_mem hk)
  obtain ⟨j, hj, e1⟩ := List.getElem_of_mem h1
  obtain ⟨i, hi, e2⟩ := List.getElem_of_mem h2
  refine ⟨j, i, hj, hi, ?_, ?_, ?_⟩
  · rw [fA_lt hk, fA_lt hj, e1]
  · rw [fB_lt hk, fB_lt hi, e2]
  · rw [fB_lt hj, fA_lt hi, e1, e2]
set_option maxRecDepth 100000 in
set_option maxHeartbeats 4000000 in
theorem walkFnTiesCurveThrough (A0 : Option Addr) (c0 : Nat) (l0 : List Int) (w : World) (r0 : RdI w w.heap.size .u8 A0 l0) (y0 : ∀ x ∈ l0, 0 ≤ x ∧ x ≤ 255) (k0 : l0.length ≤ c0) (m0 : c0 ≤ 9223372036854775807) :
    Calls Try.prog 4 #[.slice A0 l0.length c0] w fun e w' => e = .returned (.bool true) ∧ Below w.heap.size w w' := by
  by_cases z0 : 1048576 < l0.length
  · clear r0 y0
    go_enter Try.func4, Try.ntmps4
    go_wp2_with fail
    go_ret
    exact ⟨rfl, Below.refl _ _⟩
  have Y0 := Lib.hid y0
  clear y0
  go_enter Try.func4, Try.ntmps4
  go_wp2_with fail
  refine (DrawTiesThrough_any A0 c0 l0 _ r0 Y0.out (by omega) k0 m0).mono ?_
  rintro e u1 ⟨AL, cL, L, AM, cM, M, rfl, hL, hM, _, _, oL, oM, b1⟩
  have s1 := b1.size
  have t1 := b1
  have rL := Rd.of_own oL
  clear oL
  have rM := Rd.of_own oM
  clear oM
  clear b1
  clear r0
  have hr := thrL_len L M
  go_wp2_with fail
  refine (through_any AL AM cL cM (L) (M) _ rL rM (by omega) (by omega)).mono ?_
  rintro e u2 ⟨Ao, co, rfl, oo, b2⟩
  have s2 := b2.size
  have t2 := t1.trans (b2.mono t1.size)
  have rL := rL.to b2
  have rM := rM.to b2
  have ro := Rd.of_own oo
  clear oo
  clear b2 t1
  go_wp2_with fail
  refine (specThrough_any AL AM cL cM (L) (M) _ rL rM (by omega) (by omega)).mono ?_
  rintro e u3 ⟨Aw, cw, rfl, ow, b3⟩
  have s3 := b3.size
  have t3 := t2.trans (b3.mono t2.size)
  have rL := rL.to b3
  have rM := rM.to b3
  have ro := ro.to b3
  have rw := Rd.of_own ow
  clear ow
  clear b3 t2
  go_wp2_with fail
  generalize hok : (tv L && tv M) = ok
  cases ok with
  | false =>
    go_wp2_with fail
    refine (sameTies_any Ao Aw co cw (thrL L M) (thrL L M) _ ro rw (by omega)).mono ?_
    rintro e u4 ⟨rfl, b4⟩
    have s4 := b4.size
    have t4 := t3.trans (b4.mono t3.size)
    have rL := rL.to b4
    have rM := rM.to b4
    have ro := ro.to b4
    have rw := rw.to b4
    clear b4 t3
    go_wp2_with fail
    refine (sameTies_any Ao Aw co cw (thrL L M) (thrL L M) _ ro rw (by omega)).mono ?_
    rintro e u5 ⟨rfl, b5⟩
    have s5 := b5.size
    have t5 := t4.trans (b5.mono t4.size)
    have rL := rL.to b5
    have rM := rM.to b5
    have ro := ro.to b5
    have rw := rw.to b5
    clear b5 t4
    go_wp2_with fail
    go_ret
    exact ⟨ret_bool (by simp), t5⟩
  | true =>
    go_wp2_with fail
    refine (sameTies_any Ao Aw co cw (thrL L M) (thrL L M) _ ro rw (by omega)).mono ?_
    rintro e u4 ⟨rfl, b4⟩
    have s4 := b4.size
    have t4 := t3.trans (b4.mono t3.size)
    have rL := rL.to b4
    have rM := rM.to b4
    have ro := ro.to b4
    have rw := rw.to b4
    clear b4 t3
    clear rw
    have hvL : tv L = true := by cases h : tv L <;> simp_all
    have hvM : tv M = true := by cases h : tv M <;> simp_all
    have pL := ((tv_iff L).1 hvL).2.1
    have pM := ((tv_iff M).1 hvM).2.1
    have E := Lib.hid (thrL_yes hok)
    clear hok
    rw [E.out] at ro ⊢
    have hlt : (thrOf L M).length ≤ M.length := length_thr_right pL pM
    have hle : decide (((thrOf L M).length : Int) ≤ (M.length : Int)) = true := decide_eq_true (by omega)
    have HP := Lib.hid (fun (k : Nat) (hk : k < (thrOf L M).length) => thr_at (L := L) (M := M) hk)
    have hcl := curL_len L
    have hcm := curL_len M
    have hz : (thrOf L M).length ≤ 1048576 := by omega
    clear E hvL hvM pL pM hr
    generalize thrOf L M = Z at *
    go_wp2_with fail
    refine (tiesCurve_any AL cL (L) _ rL (by omega)).mono ?_
    rintro e u5 ⟨Ax, cx, rfl, ox, b5⟩
    have s5 := b5.size
    have t5 := t4.trans (b5.mono t4.size)
    have rL := rL.to b5
    have rM := rM.to b5
    have ro := ro.to b5
    have rx := Rd.of_own ox
    clear ox
    clear b5 t4
    go_wp2_with fail
    refine (tiesCurve_any AM cM (M) _ rM (by omega)).mono ?_
    rintro e u6 ⟨Ay, cy, rfl, oy, b6⟩
    have s6 := b6.size
    have t6 := t5.trans (b6.mono t5.size)
    have rL := rL.to b6
    have rM := rM.to b6
    have ro := ro.to b6
    have rx := rx.to b6
    have ry := Rd.of_own oy
    clear oy
    clear b6 t5
    clear rL rM
    generalize hp : curOk L = p
    generalize hq : curOk M = q
    cases p with
    | false =>
      go_wp2_with fail
      go_loopw [13] (fun i wr => ∃ k : Nat, k ≤ Z.length ∧ i = .int .i64 k ∧ Below u6.heap.size u6 wr) (fun i _ => Z.length - (intOf i).toNat)
      case atStart => exact ⟨0, Nat.zero_le _, rfl, Below.refl _ _⟩
      case round =>
        obtain ⟨k, hk, rfl, hb⟩ := hrel
        by_cases hlt : k < Z.length
        · go_wp2
          go_ret
          exact ⟨ret_bool (by first | rfl | simp <;> omega), t6.trans (hb.mono t6.size)⟩
        · go_wp2
          go_ret
          exact ⟨ret_bool (by first | rfl | simp <;> omega), t6.trans (hb.mono t6.size)⟩
    | true =>
      cases q with
      | false =>
        go_wp2_with fail
        go_loopw [13] (fun i wr => ∃ k : Nat, k ≤ Z.length ∧ i = .int .i64 k ∧ Below u6.heap.size u6 wr) (fun i _ => Z.length - (intOf i).toNat)
        case atStart => exact ⟨0, Nat.zero_le _, rfl, Below.refl _ _⟩
        case round =>
          obtain ⟨k, hk, rfl, hb⟩ := hrel
          by_cases hlt : k < Z.length
          · go_wp2
            go_ret
            exact ⟨ret_bool (by first | rfl | simp <;> omega), t6.trans (hb.mono t6.size)⟩
          · go_wp2
            go_ret
            exact ⟨ret_bool (by first | rfl | simp <;> omega), t6.trans (hb.mono t6.size)⟩
      | true =>
        rw [curL_yes hp] at rx ⊢
        rw [curL_yes hq] at ry ⊢
        have HX := Lib.hid hp
        have HY := Lib.hid hq
        clear hp hq
        go_wp2_with fail
        go_loopw [13] (fun i wr => ∃ k : Nat, k ≤ Z.length ∧ i = .int .i64 k ∧ Below u6.heap.size u6 wr) (fun i _ => Z.length - (intOf i).toNat)
        case atStart => exact ⟨0, Nat.zero_le _, rfl, Below.refl _ _⟩
        case round =>
          obtain ⟨k, hk, rfl, hb⟩ := hrel
          by_cases hlt : k < Z.length
          · obtain ⟨j, i, hj, hi, h1, h2, h3⟩ := HP.out k hlt
            obtain ⟨bz, oz, hA, hB, hcs⟩ := ro (by omega)
            subst hA
            obtain ⟨q1, q2⟩ := hcs k hlt
            clear hcs
            have rx2 := rx.to hb
            have ry2 := ry.to hb
            have e1 := (hb.cell (p := ⟨bz, _, none⟩) hB).trans q1
            have e2 := (hb.cell (p := ⟨bz, _, none⟩) hB).trans q2
            have CT := fun (u : World) (r : Rd u u.heap.size Ax L) (s : Rd u u.heap.size Ay M) => curveThen_knot Ax Ay cx cy L M j i u r s HX.out HY.out hj hi h3
            rw [← h1, ← h2] at CT
            have CT := Lib.hid CT
            generalize fA Z k = x at *
            generalize fB Z k = y at *
            clear q1 q2 h1 h2 h3
            have l1 : (0 : Int) ≤ (k : Int) := by omega
            have l2 : (k : Int) < (Z.length : Int) := by omega
            go_wp2_with fail
            refine (CT.out _ rx2 ry2).mono ?_
            rintro e v2 ⟨rfl, b2⟩
            have hb2 := hb.trans (b2.mono hb.size)
            clear CT rx2 ry2 e1
            go_wp2_with fail
            have hF := Blk.new_ v2 32 #[.int .i64 y, .int .i64 1]
            have hb3 := hb2.alloc hb2.size (.cells #[.int .i64 y, .int .i64 1] 32)
            have e3 := (((hb2.alloc hb2.size (.cells #[.int .i64 y, .int .i64 1] 32)).cell (p := ⟨bz, oz + k * 2 + 1, none⟩) hB).trans ((hb.cell (p := ⟨bz, oz + k * 2 + 1, none⟩) hB).symm.trans e2))
            have hbz : bz < (v2.alloc (.cells #[.int .i64 y, .int .i64 1] 32)).heap.size := by have := hb3.size; omega
            generalize v2.heap.size = gF at hF ⊢
            generalize v2.alloc (.cells #[.int .i64 y, .int .i64 1] 32) = v3 at hF hb3 e3 hbz ⊢
            clear hb2 b2 e2
            have he1 : ∀ i : SW (Below v3.heap.size v3), (sw i).cell? ⟨gF, 0, none⟩ = some (.int .i64 y) := fun i => ((sw_is i).cell (p := ⟨gF, _, none⟩) hF.lt).trans (hF.cell 0)
            have he2 : ∀ i : SW (Below v3.heap.size v3), (sw i).cell? ⟨gF, 1, none⟩ = some (.int .i64 1) := fun i => ((sw_is i).cell (p := ⟨gF, _, none⟩) hF.lt).trans (hF.cell 1)
            have he3 : ∀ i : SW (Below v3.heap.size v3), (sw i).cell? ⟨bz, oz + k * 2 + 1, none⟩ = some (.int .i64 y) := fun i => ((sw_is i).cell (p := ⟨bz, _, none⟩) hbz).trans e3
            have GF := fun op xo yo u v w => grdFrac op xo yo u v w
            refine wp_region_plan (Below v3.heap.size v3) [([0, 1, 2, 3, 4, 5, 6, 7, 8], 9)] [10, 11] (by kernel_rfl) (by kernel_rfl) (below_drewN (Below.refl _ _) 1) fun hne => ?_
            simp only [wpPlan, wpEff, effOf, opsAt, optCons, List.getElem?_toArray, List.getElem?_cons_zero, List.getElem?_cons_succ]
            repeat (go_big_quiet_step (fail))
            refine wpQuiet_nil ?_
            go_wp2_with fail
            refine (frac_any y _).mono ?_
            rintro e v4 ⟨rfl, b4⟩
            have S1 := (below_drewN (Below.refl v3.heap.size v3) 1).trans b4
            have hb5 := hb3.trans (S1.mono hb3.size)
            go_wp2_with fail
            refine effQ_normal S1 ?_
            repeat (go_big_quiet_step (fail))
            refine wpQuiet_nil ?_
            refine noPan_normal ?_
            go_wp2
            exact ⟨⟨k + 1, hlt, by go_num, hb5⟩, by simp [intOf]; omega⟩
          · go_wp2
            go_ret
            exact ⟨ret_bool (by first | rfl | simp <;> omega), t6.trans (hb.mono t6.size)⟩

set_option maxRecDepth 100000 in
theorem liftedFnTiesCurveThrough (os : Os) (started : os.Started) (H : Type) (enc : TypeId × Value → H) :
    ReturnsInHanded {} Try.checked os 4 .any (Rows.fnTiesCurveThroughSpec.pre6 enc Try.prog Try.f4 Rows.fnTiesCurveThroughRow.domain false) (Rows.fnTiesCurveThroughSpec.post enc Try.prog Try.f4 false true false false) := by
  refine returnsInHanded_of_change (C := Try.checked) own_ started (by kernel_rfl) Try.func4
    (ChangeSpec.witness6 (enc := enc) (C := Try.checked) false ⟨#[], #[.slice none 0 0], []⟩ 8 (by kernel_rfl) (by kernel_rfl) (by kernel_rfl) (by kernel_rfl)) ?_
  intro W base args ds gs before hval0 hW hcnd _
  have hval : ∀ (j : Nat) t v, Try.f4.params[j]? = some t → args[j]? = some v → Value.okWide Try.prog W .any base t v := hval0
  have hW' := hW
  obtain ⟨p, q, hA0, hV, rfl, hfz, hnd⟩ := hW
  have hA : DataW.TrodAll enc Try.prog W 0 (fun _ => true) true Try.f4.params.toList args.toList ds p := hA0
  rw [Try.params4] at hA hval
  obtain ⟨v0, vs0, d0, ds0, p0, q0, hargs, rfl, rfl, h0, r0⟩ := trodAll_cons hA
  obtain ⟨rfl, rfl, rfl⟩ := trodAll_nil r0
  obtain rfl : args = #[v0] := by cases args; simp_all
  obtain ⟨rfl, rfl⟩ := trodVars_none hV
  obtain ⟨a0, n0, c0, rfl⟩ := okWide_slice Try.underlying22 (hval 0 22 v0 rfl rfl)
  have kk0 := h0
  have lt0 : ∀ x ∈ p0, x.block < W.heap.size := by obtain ⟨m, hm⟩ := kk0; exact DataW.trod_lt m _ _ _ hm
  obtain ⟨l0, e0, g0, w0, b0, bm0⟩ : ∃ l : List Int, l.length = n0 ∧ RdI W W.heap.size .u8 a0 l ∧ (∀ z ∈ l, (Lit.int .u8 z).wf = true) ∧ n0 ≤ c0 ∧ c0 ≤ maxLen := by
    obtain ⟨fuel, hf⟩ := h0
    exact openI Try.underlying22 Try.underlying5 (by kernel_rfl) (by simpa [Value.cells] using hf)
  subst e0
  clear hA0 hval0
  refine (walkFnTiesCurveThrough a0 c0 l0 W g0 (wf_bytes w0) b0 (by unfold maxLen at bm0; omega)).mono fun e W' ⟨he, bel⟩ => ?_
  subst he
  exact ⟨_, rfl, _, _, _, [], _, [], hW', trodAll_mk1 (shut_bool Try.underlying4 _), (trodAll_cons_mk (Below.trod laidOut_ (by kernel_rfl) (of_decide_eq_true (by kernel_rfl)) kk0 bel lt0) trodAll_mk0), rfl, bel.frame _, fun h => by cases h⟩

theorem fnTiesCurveThrough_holds : Rows.FnTiesCurveThroughSaid :=
  OpenClaim.holds_of_wide 4 Try.f4 rfl rfl rfl rfl rfl rfl rfl ⟨rfl, rfl, rfl, rfl, rfl⟩ rfl rfl rfl rfl rfl (by kernel_rfl) Try.func4 (by kernel_rfl)
    (of_decide_eq_true (by kernel_rfl)) (by unfold Func.isWrapper; first | (rw [if_pos (by decide +kernel)]; kernel_rfl) | (rw [if_neg (by decide +kernel)]; exact ⟨rfl, rfl⟩))
    (fun os started H enc _ => liftedFnTiesCurveThrough os started H enc)

end Go.Proofs.Ytpaeajfjjklpnaa
