/- The statement FnEventsDepthSaid: for all arguments the Go function laws.FnEventsDepth returns true and leaves its arguments as they were. No condition. -/
import Derived.Test.YtbpafjlfpdnnhaaMM
import Derived.Test.YtbpafjlfpdnnhaaMatchTop
import Derived.Test.YtbpafjlfpdnnhaaDrawE
import Derived.Test.YtbpafjlfpdnnhaaFrame
namespace Go.Proofs.Ytbpafjlfpdnnhaa
open Go.ChangeShapes Go.WideShapes Go.ChangeAt Go.RowKit

set_option maxHeartbeats 4000000 in
theorem walkFnEventsDepth (A0 : Option Addr) (c0 : Nat) (l0 : List Int) (w : World) (r0 : RdI w w.heap.size .u8 A0 l0) (y0 : ∀ x ∈ l0, 0 ≤ x ∧ x ≤ 255) (k0 : l0.length ≤ c0) (m0 : c0 ≤ 9223372036854775807) :
    Calls Try.prog 8 #[.slice A0 l0.length c0] w fun e w' => e = .returned (.bool true) ∧ Below w.heap.size w w' := by
  by_cases z0 : 1048576 < l0.length
  · clear r0 y0
    go_enter Try.func8, Try.ntmps8
    go_wp2_with fail
    go_ret
    exact ⟨rfl, Below.refl _ _⟩
  have Y0 := Lib.hid y0
  clear y0
  go_enter Try.func8, Try.ntmps8
  go_wp2_with fail
  refine (DrawMatchMost_any A0 c0 l0 _ r0 Y0.out (by omega) k0 m0).mono ?_
  rintro e u1 ⟨AL, cL, L, AM, cM, M, t, rfl, hL, hM, hsL, hsM, ⟨ht0, ht1⟩, oL, oM, b1⟩
  have s1 := b1.size
  have t1 := b1
  have rL := Rd.of_own oL
  clear oL
  have rM := Rd.of_own oM
  clear oM
  clear b1
  clear r0
  go_wp2_with fail
  refine (matchMost_any AL AM cL cM (L) (M) t _ rL rM (by omega) (by omega)).mono ?_
  rintro e u2 ⟨rfl, b2⟩
  have s2 := b2.size
  have t2 := t1.trans (b2.mono t1.size)
  have rL := rL.to b2
  have rM := rM.to b2
  clear b2 t1
  go_wp2_with fail
  refine (specMatchMost_any AL AM cL cM (L) (M) t _ rL rM (by omega) (by omega)).mono ?_
  rintro e u3 ⟨rfl, b3⟩
  have s3 := b3.size
  have t3 := t2.trans (b3.mono t2.size)
  have rL := rL.to b3
  have rM := rM.to b3
  clear b3 t2
  cases hok : mtb L M t with
  | false =>
    rw [mmV_no hok]
    go_wp2_with fail
    go_ret
    exact ⟨ret_bool (by simp), t3⟩
  | true =>
    rw [mmV_yes hok]
    generalize hm : mostL t (szL L) (szL M) = m
    have HOK := Lib.hid hok
    have HM := Lib.hid hm
    obtain ⟨v1, _, _, _⟩ := mtb_parts hok
    have e1 := mmV_shift hok
    rw [hm] at e1
    have E1 := Lib.hid e1
    have HS := Lib.hid hsL
    clear e1 hok hm
    have hb0 : Below u3.heap.size u3 (u3.alloc (.cells #[] 32)) := (Below.refl _ _).alloc (Nat.le_refl _) _
    have hacc0 : Acc2 u3 (u3.alloc (.cells #[] 32)) 32 (.slice (some ⟨u3.heap.size, 0, none⟩) 0 0) (shiftD (L.take 0)) := ⟨World.ownsRow_made u3 #[] 0 (Nat.le_refl _) (by decide) rfl, hb0⟩
    go_wp2_with fail
    go_loopw [9, 8] (fun i v wr => ∃ k : Nat, k ≤ L.length ∧ i = .int .i64 k ∧ Acc2 u3 wr 32 v (shiftD (L.take k))) (fun i _ _ => L.length - (intOf i).toNat)
    case atStart => exact ⟨0, Nat.zero_le _, rfl, hacc0⟩
    case round =>
      obtain ⟨k, hk, rfl, hacc⟩ := hrel
      clear hacc0 hb0
      by_cases hlt : k < L.length
      · obtain ⟨b, o, hA, hB, hcs⟩ := rL (by omega)
        subst hA
        obtain ⟨q1, q2⟩ := hcs k hlt
        have hln : (shiftD (L.take k)).length + 1 ≤ 4294967296 := by rw [length_shiftD, List.length_take]; omega
        obtain ⟨z1, z2, _, _⟩ := HS.out.at_ hlt
        have s1 : IntKind.i64.wrap (fA L k + 1) = fA L k + 1 := IntWalk.i64_in _ (by omega)
        have hkz : (0 : Int) ≤ (k : Int) := by omega
        have hkl : (k : Int) < (L.length : Int) := by omega
        clear hcs
        go_wp2_with fail
        have he1 : ∀ i : SW (Below u3.heap.size u3), (sw i).cell? ⟨b, o + k * 2, none⟩ = some (.int .i64 (fA L k)) := fun i => ((sw_is i).cell (p := ⟨b, _, none⟩) hB).trans q1
        have he2 : ∀ i : SW (Below u3.heap.size u3), (sw i).cell? ⟨b, o + k * 2 + 1, none⟩ = some (.int .i64 (fB L k)) := fun i => ((sw_is i).cell (p := ⟨b, _, none⟩) hB).trans q2
        refine wp_region_plan (Below u3.heap.size u3) [([0, 1, 2, 3, 4, 5, 6, 7, 8, 9, 10, 11, 12], 13), ([], 14)] [15] (by kernel_rfl) (by kernel_rfl) (below_drewN hacc.2 1) fun hne => ?_
        simp only [wpPlan, wpEff, effOf, opsAt, optCons, List.getElem?_toArray, List.getElem?_cons_zero, List.getElem?_cons_succ]
        repeat (go_big_quiet_step (fail))
        refine wpQuiet_nil ?_
        go_wp2
        refine effQ_normal ((hacc.drewN 1).alloc _).2 ?_
        refine wpQuiet_nil ?_
        go_wp2_with (at_builtin; refine wpList_app2 rfl _ _ _ rfl Try.underlying25 infoEvent rfl (hacc.drewN 1) _ _ _ _ (by simp) rfl hln ?_; intro v1 w2 hacc1)
        refine effQ_normal hacc1.2 ?_
        repeat (go_big_quiet_step (fail))
        refine wpQuiet_nil ?_
        refine noPan_normal ?_
        go_wp2
        exact ⟨⟨k + 1, hlt, by go_num, by rw [shiftD_take L k hlt]; exact hacc1⟩, by simp [intOf]; omega⟩
      · obtain ⟨AX, cX, rfl⟩ := hacc.shape
        have eX : L.take k = L := List.take_of_length_le (by omega)
        rw [eX] at hacc ⊢
        have b4 := hacc.2
        have rX := Rd.of_own hacc.1
        have s4 := b4.size
        have t4 := t3.trans (b4.mono t3.size)
        have rL := rL.to b4
        have rM := rM.to b4
        clear hacc eX b4 t3
        have hlX := length_shiftD L
        have hkn : (L.length : Int) ≤ (k : Int) := by omega
        have HX := Lib.hid hlX
        have hlX2 : (shiftD L).length ≤ 1048576 := by omega
        clear hlX
        go_wp2_with fail
        refine (matchMost_any AX AM cX cM (shiftD L) M t _ rX rM hlX2 (by omega)).mono ?_
        rintro e u5 ⟨rfl, b5⟩
        have s5 := b5.size
        have t5 := t4.trans (b5.mono t4.size)
        have rX := rX.to b5
        have rM := rM.to b5
        clear b5 t4
        have e1 := E1.out
        rcases e1 with ⟨e1, e2⟩ | ⟨e1, e2⟩
        · rw [e2]
          clear e1 e2 E1
          go_wp2_with fail
          go_ret
          exact ⟨ret_bool (rfl), t5⟩
        · rw [e2]
          clear e2 E1
          have g1 : ((-1 : Int) == (m : Int)) = false := by simp <;> omega
          go_wp2_with fail
          refine (eventsValid_any AX cX (shiftD L) _ rX hlX2).mono ?_
          rintro e u6 ⟨rfl, b6⟩
          have s6 := b6.size
          have t6 := t5.trans (b6.mono t5.size)
          have rX := rX.to b6
          have rM := rM.to b6
          clear b6 t5
          rw [e1]
          go_wp2_with fail
          go_ret
          exact ⟨ret_bool (rfl), t6⟩

set_option maxRecDepth 100000 in
theorem liftedFnEventsDepth (os : Os) (started : os.Started) (H : Type) (enc : TypeId × Value → H) :
    ReturnsInHanded {} Try.checked os 8 .any (Rows.fnEventsDepthSpec.pre6 enc Try.prog Try.f8 Rows.fnEventsDepthRow.domain false) (Rows.fnEventsDepthSpec.post enc Try.prog Try.f8 false true false false) := by
  refine returnsInHanded_of_change (C := Try.checked) own_ started (by kernel_rfl) Try.func8
    (ChangeSpec.witness6 (enc := enc) (C := Try.checked) false ⟨#[], #[.slice none 0 0], []⟩ 8 (by kernel_rfl) (by kernel_rfl) (by kernel_rfl) (by kernel_rfl)) ?_
  intro W base args ds gs before hval0 hW hcnd _
  have hval : ∀ (j : Nat) t v, Try.f8.params[j]? = some t → args[j]? = some v → Value.okWide Try.prog W .any base t v := hval0
  have hW' := hW
  obtain ⟨p, q, hA0, hV, rfl, hfz, hnd⟩ := hW
  have hA : DataW.TrodAll enc Try.prog W 0 (fun _ => true) true Try.f8.params.toList args.toList ds p := hA0
  rw [Try.params8] at hA hval
  obtain ⟨v0, vs0, d0, ds0, p0, q0, hargs, rfl, rfl, h0, r0⟩ := trodAll_cons hA
  obtain ⟨rfl, rfl, rfl⟩ := trodAll_nil r0
  obtain rfl : args = #[v0] := by cases args; simp_all
  obtain ⟨rfl, rfl⟩ := trodVars_none hV
  obtain ⟨a0, n0, c0, rfl⟩ := okWide_slice Try.underlying29 (hval 0 29 v0 rfl rfl)
  have kk0 := h0
  have lt0 : ∀ x ∈ p0, x.block < W.heap.size := by obtain ⟨m, hm⟩ := kk0; exact DataW.trod_lt m _ _ _ hm
  obtain ⟨l0, e0, g0, w0, b0, bm0⟩ : ∃ l : List Int, l.length = n0 ∧ RdI W W.heap.size .u8 a0 l ∧ (∀ z ∈ l, (Lit.int .u8 z).wf = true) ∧ n0 ≤ c0 ∧ c0 ≤ maxLen := by
    obtain ⟨fuel, hf⟩ := h0
    exact openI Try.underlying29 Try.underlying5 (by kernel_rfl) (by simpa [Value.cells] using hf)
  subst e0
  clear hA0 hval0
  refine (walkFnEventsDepth a0 c0 l0 W g0 (wf_bytes w0) b0 (by unfold maxLen at bm0; omega)).mono fun e W' ⟨he, bel⟩ => ?_
  subst he
  exact ⟨_, rfl, _, _, _, [], _, [], hW', trodAll_mk1 (shut_bool Try.underlying4 _), (trodAll_cons_mk (Below.trod laidOut_ (by kernel_rfl) (of_decide_eq_true (by kernel_rfl)) kk0 bel lt0) trodAll_mk0), rfl, bel.frame _, fun h => by cases h⟩

theorem fnEventsDepth_holds : Rows.FnEventsDepthSaid :=
  OpenClaim.holds_of_wide 8 Try.f8 rfl rfl rfl rfl rfl rfl rfl ⟨rfl, rfl, rfl, rfl, rfl⟩ rfl rfl rfl rfl rfl (by kernel_rfl) Try.func8 (by kernel_rfl)
    (of_decide_eq_true (by kernel_rfl)) (by unfold Func.isWrapper; first | (rw [if_pos (by decide +kernel)]; kernel_rfl) | (rw [if_neg (by decide +kernel)]; exact ⟨rfl, rfl⟩))
    (fun os started H enc _ => liftedFnEventsDepth os started H enc)

end Go.Proofs.Ytbpafjlfpdnnhaa
