/- The statement FnTiesJoinSaid: for all arguments the Go function laws.FnTiesJoin returns true and leaves its arguments as they were. No condition. -/
import Derived.Test.YtihkdbgnoncgnaaJoinTop
import Derived.Test.YtihkdbgnoncgnaaJoinSpec
import Derived.Test.YtihkdbgnoncgnaaTop
import Derived.Test.YtihkdbgnoncgnaaMore
import Derived.Test.YtihkdbgnoncgnaaTiesMore
import Derived.Test.YtihkdbgnoncgnaaFrame
namespace Go.Proofs.Ytihkdbgnoncgnaa
open Go.ChangeShapes Go.WideShapes Go.ChangeAt Go.RowKit

set_option maxRecDepth 100000 in
set_option maxHeartbeats 4000000 in
theorem walkFnTiesJoin (A0 : Option Addr) (c0 : Nat) (l0 : List Int) (w : World) (r0 : RdI w w.heap.size .u8 A0 l0) (y0 : ∀ x ∈ l0, 0 ≤ x ∧ x ≤ 255) (k0 : l0.length ≤ c0) (m0 : c0 ≤ 9223372036854775807) :
    Calls Try.prog 10 #[.slice A0 l0.length c0] w fun e w' => e = .returned (.bool true) ∧ Below w.heap.size w w' := by
  by_cases z0 : 1048576 < l0.length
  · clear r0 y0
    go_enter Try.func10, Try.ntmps10
    go_wp2_with fail
    go_ret
    exact ⟨rfl, Below.refl _ _⟩
  have Y0 := Lib.hid y0
  clear y0
  go_enter Try.func10, Try.ntmps10
  go_wp2_with fail
  refine (DrawTiesJoin_any A0 c0 l0 _ r0 Y0.out (by omega) k0 m0).mono ?_
  rintro e u1 ⟨AL, cL, L, AM, cM, M, rfl, hL, hM, oL, oM, b1⟩
  have s1 := b1.size
  have t1 := b1
  have wL := own_cap oL
  have rL := Rd.of_own oL
  clear oL
  have wM := own_cap oM
  have rM := Rd.of_own oM
  clear oM
  clear b1
  clear r0
  have hbl := jL_len L M
  go_wp2_with fail
  refine (tiesJoin_any AL AM cL cM (L) (M) _ rL rM (by omega) (by omega)).mono ?_
  rintro e u2 ⟨Ao, rfl, oo, b2⟩
  have s2 := b2.size
  have t2 := t1.trans (b2.mono t1.size)
  have rL := rL.to b2
  have rM := rM.to b2
  clear b2 t1
  have ro := oo.rd
  clear oo
  go_wp2_with fail
  refine (specTiesJoin_any AL AM cL cM (L) (M) _ rL rM (by omega) (by omega)).mono ?_
  rintro e u3 ⟨Aw, cw, rfl, ow, b3⟩
  have s3 := b3.size
  have t3 := t2.trans (b3.mono t2.size)
  have rL := rL.to b3
  have rM := rM.to b3
  have ro := ro.to b3
  have ww := own_cap ow
  have rw := Rd.of_own ow
  clear ow
  clear b3 t2
  go_wp2_with fail
  generalize hok : (jOk L M) = ok
  cases ok with
  | false =>
    go_wp2_with fail
    refine (sameTies_any Ao Aw (jL L M).length cw (jL L M) (jL L M) _ ro rw (by omega)).mono ?_
    rintro e u4 ⟨rfl, b4⟩
    have s4 := b4.size
    have t4 := t3.trans (b4.mono t3.size)
    have rL := rL.to b4
    have rM := rM.to b4
    have ro := ro.to b4
    have rw := rw.to b4
    clear b4 t3
    go_wp2_with fail
    refine (sameTies_any Ao Aw (jL L M).length cw (jL L M) (jL L M) _ ro rw (by omega)).mono ?_
    rintro e u5 ⟨rfl, b5⟩
    have s5 := b5.size
    have t5 := t4.trans (b5.mono t4.size)
    have rL := rL.to b5
    have rM := rM.to b5
    have ro := ro.to b5
    have rw := rw.to b5
    clear b5 t4
    go_wp2_with fail
    go_ret
    exact ⟨ret_bool (by simp), t5⟩
  | true =>
    go_wp2_with fail
    refine (sameTies_any Ao Aw (jL L M).length cw (jL L M) (jL L M) _ ro rw (by omega)).mono ?_
    rintro e u4 ⟨rfl, b4⟩
    have s4 := b4.size
    have t4 := t3.trans (b4.mono t3.size)
    have rL := rL.to b4
    have rM := rM.to b4
    have ro := ro.to b4
    have rw := rw.to b4
    clear b4 t3
    clear rw
    obtain ⟨⟨e1, e2⟩, e3, e4⟩ := join_both hok
    obtain ⟨hv, _, _, hm⟩ := jOk_tv hok
    have hmem : ∀ i, i < M.length → ∃ j, j < (jL L M).length ∧ fA (jL L M) j = fA M i ∧ fB (jL L M) j = fB M i := by
      intro i hi
      obtain ⟨j, hj, e⟩ := List.getElem_of_mem ((hm (M[i]'hi)).2 (.inr (List.getElem_mem hi)))
      exact ⟨j, hj, by rw [fA_lt hj, fA_lt hi, e], by rw [fB_lt hj, fB_lt hi, e]⟩
    have E1 := Lib.hid e1
    have E2 := Lib.hid e2
    have E3 := Lib.hid e3
    have E4 := Lib.hid e4
    have HV := Lib.hid hv
    have HM := Lib.hid hmem
    clear e1 e2 e3 e4 hv hm hmem hok
    go_wp2_with fail
    refine (tiesJoin_any AM AL cM cL (M) (L) _ rM rL (by omega) (by omega)).mono ?_
    rintro e u5 ⟨Ax, rfl, ox, b5⟩
    have s5 := b5.size
    have t5 := t4.trans (b5.mono t4.size)
    have rL := rL.to b5
    have rM := rM.to b5
    have ro := ro.to b5
    clear b5 t4
    have rx := ox.rd
    clear ox
    rw [E2.out] at rx ⊢
    rw [E1.out]
    clear E1 E2
    go_wp2_with fail
    refine (tiesJoin_any Ao AL (jL L M).length cL (jL L M) (L) _ ro rL (by omega) (by omega)).mono ?_
    rintro e u6 ⟨Ay, rfl, oy, b6⟩
    have s6 := b6.size
    have t6 := t5.trans (b6.mono t5.size)
    have rL := rL.to b6
    have rM := rM.to b6
    have ro := ro.to b6
    have rx := rx.to b6
    clear b6 t5
    have ry := oy.rd
    clear oy
    rw [E4.out] at ry ⊢
    rw [E3.out]
    clear E3 E4
    generalize jL L M = Z at *
    clear rL
    have GF := fun op xo yo u v w => grdTie op xo yo u v w
    go_wp2_with fail
    go_loopw [13] (fun i wr => ∃ k : Nat, k ≤ M.length ∧ i = .int .i64 k ∧ Below u6.heap.size u6 wr) (fun i _ => M.length - (intOf i).toNat)
    case atStart => exact ⟨0, Nat.zero_le _, rfl, Below.refl _ _⟩
    case round =>
      obtain ⟨i, hi, rfl, hb⟩ := hrel
      by_cases hlt : i < M.length
      · have HMi := Lib.hid (HM.out i hlt)
        obtain ⟨bm, om, hA, hB, hcs⟩ := rM (by omega)
        subst hA
        obtain ⟨q1, q2⟩ := hcs i hlt
        clear hcs
        have e1 := (hb.cell (p := ⟨bm, _, none⟩) hB).trans q1
        have e2 := (hb.cell (p := ⟨bm, _, none⟩) hB).trans q2
        have hBm : bm < wr.heap.size := by have := hb.size; omega
        clear q1 q2
        have rZ := ro.to hb
        generalize fA M i = x at *
        generalize fB M i = y at *
        have l1 : (0 : Int) ≤ (i : Int) ∧ (i : Int) < (M.length : Int) := by omega
        have hsz := hb.size
        go_wp2_with fail
        go_loopw [14, 15] (fun f j wx => ∃ (k : Nat) (fd : Bool), k ≤ Z.length ∧ f = .bool fd ∧ j = .int .i64 k ∧ (fd = false → ∀ j, j < k → ¬ (fA Z j = x ∧ fB Z j = y)) ∧ Below wr.heap.size wr wx) (fun _ j _ => Z.length - (intOf j).toNat)
        case atStart => exact ⟨0, false, Nat.zero_le _, rfl, rfl, fun _ j h => absurd h (Nat.not_lt_zero _), Below.refl _ _⟩
        case round =>
          obtain ⟨k, fd, hk, rfl, rfl, hno, hbx⟩ := hrel
          have HN := Lib.hid hno
          clear hno
          by_cases hlk : k < Z.length
          · obtain ⟨bz, oz, hA, hBz, hcs⟩ := rZ (by omega)
            subst hA
            obtain ⟨q1, q2⟩ := hcs k hlk
            clear hcs
            have d1 := (hbx.cell (p := ⟨bz, _, none⟩) hBz).trans q1
            have d2 := (hbx.cell (p := ⟨bz, _, none⟩) hBz).trans q2
            have d3 := (hbx.cell (p := ⟨bm, _, none⟩) hBm).trans e1
            have d4 := (hbx.cell (p := ⟨bm, _, none⟩) hBm).trans e2
            have l2 : (0 : Int) ≤ (k : Int) ∧ (k : Int) < (Z.length : Int) := by omega
            clear q1 q2 e1 e2
            have hP : ∀ p q : Int, fA Z k = p → fB Z k = q → ¬ (p = x ∧ q = y) → ∀ fd : Bool, Hid (fd = false → ∀ j, j < k → ¬ (fA Z j = x ∧ fB Z j = y)) → (fd = false → ∀ j, j < k + 1 → ¬ (fA Z j = x ∧ fB Z j = y)) := by
              intro p q hp hq hn fd h1 h2 j hj
              by_cases hjk : j = k
              · subst hjk
                rw [hp, hq]
                exact hn
              · exact h1.out h2 j (by omega)
            have HP := Lib.hid (hP _ _ rfl rfl)
            clear hP
            generalize fA Z k = x0 at *
            generalize fB Z k = y0 at *
            cases fd with
            | true =>
              go_wp2_with fail
              go_quiet (fail)
              go_wp2
              exact ⟨⟨k + 1, true, by omega, rfl, by go_num, fun h => Bool.noConfusion h, below_drewN hbx _⟩, by simp [intOf]; omega⟩
            | false =>
              by_cases c1 : x0 = x
              · subst c1
                by_cases c2 : y0 = y
                · subst c2
                  go_wp2_with fail
                  go_quiet (fail)
                  go_wp2
                  exact ⟨⟨k + 1, true, by omega, rfl, by go_num, fun h => Bool.noConfusion h, below_drewN hbx _⟩, by simp [intOf]; omega⟩
                · have HQ := Lib.hid (HP.out (fun h => c2 h.2) false HN)
                  clear HP HN
                  go_wp2_with fail
                  go_quiet (fail)
                  go_wp2
                  exact ⟨⟨k + 1, false, by omega, rfl, by go_num, fun _ => HQ.out trivial, below_drewN hbx _⟩, by simp [intOf]; omega⟩
              · have HQ := Lib.hid (HP.out (fun h => c1 h.1) false HN)
                clear HP HN
                go_wp2_with fail
                go_quiet (fail)
                go_wp2
                exact ⟨⟨k + 1, false, by omega, rfl, by go_num, fun _ => HQ.out trivial, below_drewN hbx _⟩, by simp [intOf]; omega⟩
          · have hkz : k = Z.length := by omega
            have hfd : fd = true := by
              cases hfd : fd with
              | true => rfl
              | false =>
                obtain ⟨j, hj, h1, h2⟩ := HMi.out
                exact absurd ⟨h1, h2⟩ (HN.out hfd j (by omega))
            subst hfd
            clear HN HMi hkz
            go_wp2
            exact ⟨⟨i + 1, by omega, by go_num, hb.trans (hbx.mono hb.size)⟩, by simp [intOf]; omega⟩
      · clear HM rM
        have tz := t6.trans (hb.mono t6.size)
        have ro := ro.to hb
        have rx := rx.to hb
        have ry := ry.to hb
        go_wp2_with fail
        refine (sameTies_any Ax Ao Z.length Z.length Z Z _ rx ro (by omega)).mono ?_
        rintro e v3 ⟨rfl, c3⟩
        have t3 := tz.trans (c3.mono tz.size)
        have ro := ro.to c3
        have ry := ry.to c3
        go_wp2_with fail
        refine (sameTies_any Ay Ao Z.length Z.length Z Z _ ry ro (by omega)).mono ?_
        rintro e v4 ⟨rfl, c4⟩
        have t4 := t3.trans (c4.mono t3.size)
        have ro := ro.to c4
        go_wp2_with fail
        refine (tiesValid_any Ao Z.length Z _ ro (by omega)).mono ?_
        rintro e v5 ⟨rfl, c5⟩
        have t5 := t4.trans (c5.mono t4.size)
        rw [HV.out]
        go_wp2_with fail
        go_ret
        exact ⟨ret_bool (by first | rfl | simp), t5⟩

set_option maxRecDepth 100000 in
theorem liftedFnTiesJoin (os : Os) (started : os.Started) (H : Type) (enc : TypeId × Value → H) :
    ReturnsInHanded {} Try.checked os 10 .any (Rows.fnTiesJoinSpec.pre6 enc Try.prog Try.f10 Rows.fnTiesJoinRow.domain false) (Rows.fnTiesJoinSpec.post enc Try.prog Try.f10 false true false false) := by
  refine returnsInHanded_of_change (C := Try.checked) own_ started (by kernel_rfl) Try.func10
    (ChangeSpec.witness6 (enc := enc) (C := Try.checked) false ⟨#[], #[.slice none 0 0], []⟩ 8 (by kernel_rfl) (by kernel_rfl) (by kernel_rfl) (by kernel_rfl)) ?_
  intro W base args ds gs before hval0 hW hcnd _
  have hval : ∀ (j : Nat) t v, Try.f10.params[j]? = some t → args[j]? = some v → Value.okWide Try.prog W .any base t v := hval0
  have hW' := hW
  obtain ⟨p, q, hA0, hV, rfl, hfz, hnd⟩ := hW
  have hA : DataW.TrodAll enc Try.prog W 0 (fun _ => true) true Try.f10.params.toList args.toList ds p := hA0
  rw [Try.params10] at hA hval
  obtain ⟨v0, vs0, d0, ds0, p0, q0, hargs, rfl, rfl, h0, r0⟩ := trodAll_cons hA
  obtain ⟨rfl, rfl, rfl⟩ := trodAll_nil r0
  obtain rfl : args = #[v0] := by cases args; simp_all
  obtain ⟨rfl, rfl⟩ := trodVars_none hV
  obtain ⟨a0, n0, c0, rfl⟩ := okWide_slice Try.underlying22 (hval 0 22 v0 rfl rfl)
  have kk0 := h0
  have lt0 : ∀ x ∈ p0, x.block < W.heap.size := by obtain ⟨m, hm⟩ := kk0; exact DataW.trod_lt m _ _ _ hm
  obtain ⟨l0, e0, g0, w0, b0, bm0⟩ : ∃ l : List Int, l.length = n0 ∧ RdI W W.heap.size .u8 a0 l ∧ (∀ z ∈ l, (Lit.int .u8 z).wf = true) ∧ n0 ≤ c0 ∧ c0 ≤ maxLen := by
    obtain ⟨fuel, hf⟩ := h0
    exact openI Try.underlying22 Try.underlying5 (by kernel_rfl) (by simpa [Value.cells] using hf)
  subst e0
  clear hA0 hval0
  refine (walkFnTiesJoin a0 c0 l0 W g0 (wf_bytes w0) b0 (by unfold maxLen at bm0; omega)).mono fun e W' ⟨he, bel⟩ => ?_
  subst he
  exact ⟨_, rfl, _, _, _, [], _, [], hW', trodAll_mk1 (shut_bool Try.underlying4 _), (trodAll_cons_mk (Below.trod laidOut_ (by kernel_rfl) (of_decide_eq_true (by kernel_rfl)) kk0 bel lt0) trodAll_mk0), rfl, bel.frame _, fun h => by cases h⟩

theorem fnTiesJoin_holds : Rows.FnTiesJoinSaid :=
  OpenClaim.holds_of_wide 10 Try.f10 rfl rfl rfl rfl rfl rfl rfl ⟨rfl, rfl, rfl, rfl, rfl⟩ rfl rfl rfl rfl rfl (by kernel_rfl) Try.func10 (by kernel_rfl)
    (of_decide_eq_true (by kernel_rfl)) (by unfold Func.isWrapper; first | (rw [if_pos (by decide +kernel)]; kernel_rfl) | (rw [if_neg (by decide +kernel)]; exact ⟨rfl, rfl⟩))
    (fun os started H enc _ => liftedFnTiesJoin os started H enc)

end Go.Proofs.Ytihkdbgnoncgnaa
