/- The statement FnCostSaid: for all arguments the Go function laws.FnCost returns true and leaves its arguments as they were. No condition. -/
import Derived.Test.YtbdhnfligfpigaaDrawCA
import Derived.Test.YtbdhnfligfpigaaYears
import Derived.Test.YtbdhnfligfpigaaCutAdd
import Derived.Test.YtbdhnfligfpigaaInts
import Derived.Test.YtbdhnfligfpigaaIntsMore
import Derived.Test.YtbdhnfligfpigaaMore
import Derived.Test.YtbdhnfligfpigaaFrame
namespace Go.Proofs.Ytbdhnfligfpigaa
open Go.ChangeShapes Go.WideShapes Go.ChangeAt Go.RowKit

set_option maxRecDepth 100000 in
set_option maxHeartbeats 4000000 in
theorem walkFnCost (A0 : Option Addr) (c0 : Nat) (l0 : List Int) (w : World) (r0 : RdI w w.heap.size .u8 A0 l0) (y0 : ∀ x ∈ l0, 0 ≤ x ∧ x ≤ 255) (k0 : l0.length ≤ c0) (m0 : c0 ≤ 9223372036854775807) :
    Calls Try.prog 10 #[.slice A0 l0.length c0] w fun e w' => e = .returned (.bool true) ∧ Below w.heap.size w w' := by
  by_cases z0 : 1048576 < l0.length
  · clear r0 y0
    go_enter Try.func10, Try.ntmps10
    go_wp2_with fail
    go_ret
    exact ⟨rfl, Below.refl _ _⟩
  have Y0 := Lib.hid y0
  clear y0
  go_enter Try.func10, Try.ntmps10
  go_wp2_with fail
  refine (DrawCutsCost_any A0 c0 l0 _ r0 Y0.out (by omega) k0 m0).mono ?_
  rintro e u1 ⟨AL, cL, L, lo, hi, AN, cN, N, rfl, hL, hN, hsm, ⟨lo0, lo1⟩, ⟨hi0, hi1⟩, oL, oN, b1⟩
  have s1 := b1.size
  have t1 := b1
  have wL := own_cap oL
  have rL := RdI.of_own oL
  clear oL
  have wN := own_cap oN
  have rN := RdI.of_own oN
  clear oN
  clear b1
  clear r0 hsm
  go_wp2_with fail
  refine (cutsCostB_any AL AN cL cN (L) (N) lo hi _ rL rN (by omega) (by omega)).mono ?_
  rintro e u2 ⟨rfl, b2⟩
  have s2 := b2.size
  have t2 := t1.trans (b2.mono t1.size)
  have rL := rL.to b2
  have rN := rN.to b2
  clear b2 t1
  go_wp2_with fail
  refine (specCutsCostB_any AL AN cL cN (L) (N) lo hi _ rL rN (by omega) (by omega)).mono ?_
  rintro e u3 ⟨rfl, b3⟩
  have s3 := b3.size
  have t3 := t2.trans (b3.mono t2.size)
  have rL := rL.to b3
  have rN := rN.to b3
  clear b3 t2
  cases hok : allowed L lo hi N with
  | false =>
    rw [costV_no hok]
    go_wp2_with fail
    go_ret
    exact ⟨ret_bool (by simp), t3⟩
  | true =>
    rw [costV_yes hok]
    have EB := Lib.hid (fun k hk => costOf_bd hok k hk)
    have EA := Lib.hid (fun i (hi : i < N.length) => allowed_at hok hi)
    have ET := Lib.hid (fun k (hk : k < N.length) => costOf_take L N k hk)
    have hg := sig_nonneg (allowed_sg hok).1
    have HG := Lib.hid hg
    have EI := Lib.hid (cost_incs hok)
    have hb0 := costOf_bd hok N.length (Nat.le_refl _)
    rw [List.take_length] at hb0
    have hL1 := ((sig_iff L).1 (allowed_sg hok).1).2.1
    generalize hv : costOf L N = v at *
    have HV := Lib.hid hv
    clear hv hok hg
    go_wp2_with fail
    go_loopw [10, 9] (fun i s wr => ∃ k : Nat, k ≤ N.length ∧ i = .int .i64 k ∧ s = .int .i64 (costOf L (N.take k)) ∧ u3 = wr) (fun i _ _ => N.length - (intOf i).toNat)
    case atStart => exact ⟨0, Nat.zero_le _, rfl, rfl, rfl⟩
    case round =>
      obtain ⟨k, hk, rfl, rfl, rfl⟩ := hrel
      by_cases hlt : k < N.length
      · obtain ⟨b, o, hA, hB, hcs⟩ := rN (by omega)
        obtain ⟨b2, o2, hA2, hB2, hcs2⟩ := rL (by omega)
        subst hA hA2
        have q1 := hcs k hlt
        obtain ⟨p0, p1⟩ := EA.out k hlt
        have e1 := ET.out k hlt
        have c0 := EB.out k hk
        generalize gI N k = x at q1 p0 p1 e1
        obtain ⟨p, rfl⟩ := Int.eq_ofNat_of_zero_le p0
        rw [Int.toNat_natCast] at e1
        have q2 := hcs2 p (by omega)
        have g0 := HG.out p
        generalize costOf L (N.take k) = S at *
        generalize gI L p = y at *
        have HE := Lib.hid e1
        have s1 : IntKind.i64.wrap (S + y) = S + y := IntWalk.i64_in _ (by omega)
        have l1 : (0 : Int) ≤ (k : Int) := by omega
        have l2 : (k : Int) < (N.length : Int) := by omega
        have l3 : (0 : Int) ≤ (p : Int) := by omega
        clear hcs hcs2 e1
        go_wp2
        exact ⟨⟨k + 1, hlt, by go_num, by rw [HE.out], by first | rfl | trivial⟩, by simp [intOf]; omega⟩
      · obtain rfl : k = N.length := by omega
        rw [List.take_length, HV.out]
        have hacc0 : Acc1 u3 (u3.alloc (.cells #[] 3)) 3 .i64 (.slice (some ⟨u3.heap.size, 0, none⟩) 0 0) (incs (L.take 0)) := ⟨World.ownsRow_made u3 #[] 0 (Nat.le_refl _) (by decide) rfl, (Below.refl _ _).alloc (Nat.le_refl _) _⟩
        go_wp2_with fail
        go_loopw [12, 11] (fun i v wr => ∃ k : Nat, k ≤ L.length ∧ i = .int .i64 k ∧ Acc1 u3 wr 3 .i64 v (incs (L.take k))) (fun i _ _ => L.length - (intOf i).toNat)
        case atStart => exact ⟨0, Nat.zero_le _, rfl, hacc0⟩
        case round =>
          obtain ⟨k, hk2, rfl, hacc⟩ := hrel
          clear hacc0
          by_cases hlt : k < L.length
          · have rLk := rL.to hacc.2
            obtain ⟨b, o, hA, hB, hcs⟩ := rLk (by omega)
            subst hA
            have q1 := hcs k hlt
            clear hcs rLk
            obtain ⟨g0, g1⟩ := HG.out k
            have hw : IntKind.i64.wrap (gI L k + 1) = gI L k + 1 := IntWalk.i64_in _ (by omega)
            have hln : (incs (L.take k)).length + 1 ≤ 4294967296 := by rw [incs_len, List.length_take]; omega
            have l1 : (0 : Int) ≤ (k : Int) := by omega
            have l2 : (k : Int) < (L.length : Int) := by omega
            go_wp2_with (at_builtin; refine wpList_app1 rfl _ _ _ rfl Try.underlying22 infoI64 rfl hacc _ _ _ rfl rfl hln ?_; intro v1 w2 hacc1)
            exact ⟨⟨k + 1, hlt, by go_num, by rw [incs_take hlt]; exact hacc1⟩, by simp [intOf]; omega⟩
          · obtain rfl : k = L.length := by omega
            obtain ⟨AX, cX, rfl⟩ := hacc.shape
            rw [List.take_length] at hacc ⊢
            have bX := hacc.2
            have rX := RdI.of_own hacc.1
            have tX := t3.trans (bX.mono t3.size)
            have rNX := rN.to bX
            have hx1 : (incs L).length ≤ 1048576 := by rw [incs_len]; omega
            clear hacc rL rN t3
            go_wp2_with fail
            refine (cutsCostB_any AX AN cX cN (incs L) N lo hi _ rX rNX hx1 (by omega)).mono ?_
            rintro e uy ⟨rfl, bY⟩
            have tY := tX.trans (bY.mono tX.size)
            have ei := EI.out
            have sw1 : IntKind.i64.wrap (v + (N.length : Int)) = v + (N.length : Int) := IntWalk.i64_in _ (by omega)
            generalize costV (incs L) lo hi N = y at ei ⊢
            have g1 : (v == v) = true := by simp
            rcases ei with ei | ei
            · have g2 : (y == v + (N.length : Int)) = true := by simp [ei]
              clear ei
              go_wp2_with fail
              go_ret
              exact ⟨ret_bool (by first | rfl | simp), tY⟩
            · have g2 : (y == v + (N.length : Int)) = false := by simp; omega
              have g3 : (y == -1) = true := by simp [ei]
              clear ei
              go_wp2_with fail
              go_ret
              exact ⟨ret_bool (by first | rfl | simp), tY⟩

set_option maxRecDepth 100000 in
theorem liftedFnCost (os : Os) (started : os.Started) (H : Type) (enc : TypeId × Value → H) :
    ReturnsInHanded {} Try.checked os 10 .any (Rows.fnCostSpec.pre6 enc Try.prog Try.f10 Rows.fnCostRow.domain false) (Rows.fnCostSpec.post enc Try.prog Try.f10 false true false false) := by
  refine returnsInHanded_of_change (C := Try.checked) own_ started (by kernel_rfl) Try.func10
    (ChangeSpec.witness6 (enc := enc) (C := Try.checked) false ⟨#[], #[.slice none 0 0], []⟩ 8 (by kernel_rfl) (by kernel_rfl) (by kernel_rfl) (by kernel_rfl)) ?_
  intro W base args ds gs before hval0 hW hcnd _
  have hval : ∀ (j : Nat) t v, Try.f10.params[j]? = some t → args[j]? = some v → Value.okWide Try.prog W .any base t v := hval0
  have hW' := hW
  obtain ⟨p, q, hA0, hV, rfl, hfz, hnd⟩ := hW
  have hA : DataW.TrodAll enc Try.prog W 0 (fun _ => true) true Try.f10.params.toList args.toList ds p := hA0
  rw [Try.params10] at hA hval
  obtain ⟨v0, vs0, d0, ds0, p0, q0, hargs, rfl, rfl, h0, r0⟩ := trodAll_cons hA
  obtain ⟨rfl, rfl, rfl⟩ := trodAll_nil r0
  obtain rfl : args = #[v0] := by cases args; simp_all
  obtain ⟨rfl, rfl⟩ := trodVars_none hV
  obtain ⟨a0, n0, c0, rfl⟩ := okWide_slice Try.underlying29 (hval 0 29 v0 rfl rfl)
  have kk0 := h0
  have lt0 : ∀ x ∈ p0, x.block < W.heap.size := by obtain ⟨m, hm⟩ := kk0; exact DataW.trod_lt m _ _ _ hm
  obtain ⟨l0, e0, g0, w0, b0, bm0⟩ : ∃ l : List Int, l.length = n0 ∧ RdI W W.heap.size .u8 a0 l ∧ (∀ z ∈ l, (Lit.int .u8 z).wf = true) ∧ n0 ≤ c0 ∧ c0 ≤ maxLen := by
    obtain ⟨fuel, hf⟩ := h0
    exact openI Try.underlying29 Try.underlying5 (by kernel_rfl) (by simpa [Value.cells] using hf)
  subst e0
  clear hA0 hval0
  refine (walkFnCost a0 c0 l0 W g0 (wf_bytes w0) b0 (by unfold maxLen at bm0; omega)).mono fun e W' ⟨he, bel⟩ => ?_
  subst he
  exact ⟨_, rfl, _, _, _, [], _, [], hW', trodAll_mk1 (shut_bool Try.underlying4 _), (trodAll_cons_mk (Below.trod laidOut_ (by kernel_rfl) (of_decide_eq_true (by kernel_rfl)) kk0 bel lt0) trodAll_mk0), rfl, bel.frame _, fun h => by cases h⟩

theorem fnCost_holds : Rows.FnCostSaid :=
  OpenClaim.holds_of_wide 10 Try.f10 rfl rfl rfl rfl rfl rfl rfl ⟨rfl, rfl, rfl, rfl, rfl⟩ rfl rfl rfl rfl rfl (by kernel_rfl) Try.func10 (by kernel_rfl)
    (of_decide_eq_true (by kernel_rfl)) (by unfold Func.isWrapper; first | (rw [if_pos (by decide +kernel)]; kernel_rfl) | (rw [if_neg (by decide +kernel)]; exact ⟨rfl, rfl⟩))
    (fun os started H enc _ => liftedFnCost os started H enc)

end Go.Proofs.Ytbdhnfligfpigaa
