/- The statement FnCostBestSaid: for all arguments the Go function laws.FnCostBest returns true and leaves its arguments as they were. No condition. -/
import Derived.Test.YtbdhnfligfpigaaDrawCA
import Derived.Test.YtbdhnfligfpigaaYears
import Derived.Test.YtbdhnfligfpigaaCutAdd
import Derived.Test.YtbdhnfligfpigaaInts
import Derived.Test.YtbdhnfligfpigaaIntsMore
import Derived.Test.YtbdhnfligfpigaaMore
import Derived.Test.YtbdhnfligfpigaaCBest
import Derived.Test.YtbdhnfligfpigaaFrame
namespace Go.Proofs.Ytbdhnfligfpigaa
open Go.ChangeShapes Go.WideShapes Go.ChangeAt Go.RowKit

set_option maxRecDepth 100000 in
set_option maxHeartbeats 4000000 in
theorem walkFnCostBest (A0 : Option Addr) (c0 : Nat) (l0 : List Int) (w : World) (r0 : RdI w w.heap.size .u8 A0 l0) (y0 : ∀ x ∈ l0, 0 ≤ x ∧ x ≤ 255) (k0 : l0.length ≤ c0) (m0 : c0 ≤ 9223372036854775807) :
    Calls Try.prog 15 #[.slice A0 l0.length c0] w fun e w' => e = .returned (.bool true) ∧ Below w.heap.size w w' := by
  by_cases z0 : 1048576 < l0.length
  · clear r0 y0
    go_enter Try.func15, Try.ntmps15
    go_wp2_with fail
    go_ret
    exact ⟨rfl, Below.refl _ _⟩
  have Y0 := Lib.hid y0
  clear y0
  go_enter Try.func15, Try.ntmps15
  go_wp2_with fail
  refine (DrawCutsCost_any A0 c0 l0 _ r0 Y0.out (by omega) k0 m0).mono ?_
  rintro e u1 ⟨AL, cL, L, lo, hi, AN, cN, N, rfl, hL, hN, hsm, ⟨lo0, lo1⟩, ⟨hi0, hi1⟩, oL, oN, b1⟩
  have s1 := b1.size
  have t1 := b1
  have wL := own_cap oL
  have rL := RdI.of_own oL
  clear oL
  have wN := own_cap oN
  have rN := RdI.of_own oN
  clear oN
  clear b1
  clear r0 hsm
  go_wp2_with fail
  refine (cutsCostB_any AL AN cL cN (L) (N) lo hi _ rL rN (by omega) (by omega)).mono ?_
  rintro e u2 ⟨rfl, b2⟩
  have s2 := b2.size
  have t2 := t1.trans (b2.mono t1.size)
  have rL := rL.to b2
  have rN := rN.to b2
  clear b2 t1
  go_wp2_with fail
  refine (specCutsCostB_any AL AN cL cN (L) (N) lo hi _ rL rN (by omega) (by omega)).mono ?_
  rintro e u3 ⟨rfl, b3⟩
  have s3 := b3.size
  have t3 := t2.trans (b3.mono t2.size)
  have rL := rL.to b3
  have rN := rN.to b3
  clear b3 t2
  cases hok : allowed L lo hi N with
  | false =>
    rw [costV_no hok]
    go_wp2_with fail
    go_ret
    exact ⟨ret_bool (by simp), t3⟩
  | true =>
    have c1 := costV_yes hok
    rw [c1]
    obtain ⟨e1, e2⟩ := best_min hok
    have e3 := best_allowed e1
    have e4 := fun he => best_lex hok he
    have hb0 := costOf_bd hok N.length (Nat.le_refl _)
    rw [List.take_length] at hb0
    have e5 : 0 ≤ costV L lo hi (bestC L lo hi) := by rw [e3.2.1]; exact e3.2.2.1
    have hbl := bestC_len L lo hi
    have E1 := Lib.hid e1
    generalize costOf L N = v at *
    generalize hm : costV L lo hi (bestC L lo hi) = m at *
    have HM := Lib.hid hm
    have E4 := Lib.hid e4
    clear hm e4 e3 e1 c1 hok
    go_wp2_with fail
    refine (cutsBest_any AL cL (L) lo hi _ rL (by omega)).mono ?_
    rintro e u4 ⟨Ax, cx, rfl, ox, b4⟩
    have s4 := b4.size
    have t4 := t3.trans (b4.mono t3.size)
    have rL := rL.to b4
    have rN := rN.to b4
    have wx := own_cap ox
    have rx := RdI.of_own ox
    clear ox
    clear b4 t3
    rw [E1.out]
    go_wp2_with fail
    refine (cutsCostB_any AL Ax cL cx (L) (bestC L lo hi) lo hi _ rL rx (by omega) (by omega)).mono ?_
    rintro e u5 ⟨rfl, b5⟩
    have s5 := b5.size
    have t5 := t4.trans (b5.mono t4.size)
    have rL := rL.to b5
    have rN := rN.to b5
    have rx := rx.to b5
    clear b5 t4
    rw [HM.out]
    go_wp2_with fail
    go_loopw [13, 12] (fun i f wr => ∃ k : Nat, k ≤ (bestC L lo hi).length ∧ i = .int .i64 k ∧ f = .bool true ∧ lexL (bestC L lo hi) N = lexL ((bestC L lo hi).drop k) (N.drop k) ∧ Below u5.heap.size u5 wr) (fun i _ _ => (bestC L lo hi).length - (intOf i).toNat)
    case atStart => exact ⟨0, Nat.zero_le _, rfl, rfl, rfl, Below.refl _ _⟩
    case round =>
      obtain ⟨k, hk, rfl, rfl, hlex, hb⟩ := hrel
      have HX := Lib.hid hlex
      clear hlex
      have mv : m < v ∨ m = v := by omega
      have tz := t5.trans (hb.mono t5.size)
      by_cases hlt : k < (bestC L lo hi).length
      · by_cases hlt2 : k < N.length
        · obtain ⟨b, o, hA, hB, hcs⟩ := (rx.to hb) (by omega)
          obtain ⟨b2, o2, hA2, hB2, hcs2⟩ := (rN.to hb) (by omega)
          subst hA hA2
          have q1 := hcs k hlt
          have q2 := hcs2 k hlt2
          have e1 := drop_two (l := bestC L lo hi) (m := N) hlt hlt2
          clear hcs hcs2
          have l1 : (0 : Int) ≤ (k : Int) := by omega
          have l2 : (k : Int) < ((bestC L lo hi).length : Int) ∧ (k : Int) < (N.length : Int) := by omega
          by_cases he : gI (bestC L lo hi) k = gI N k
          · rw [if_pos he] at e1
            have HE := Lib.hid (HX.out.trans e1)
            rw [he] at q1
            clear e1 he
            have g1 : (gI N k != gI N k) = false := by simp
            go_wp2_with fail
            go_quiet (fail)
            go_wp2
            exact ⟨⟨k + 1, hlt, by go_num, by first | rfl | trivial, HE.out, below_drewN hb _⟩, by simp [intOf]; omega⟩
          · rw [if_neg he] at e1
            have HE := Lib.hid (HX.out.trans e1)
            have g1 : (gI (bestC L lo hi) k != gI N k) = true := by simpa using he
            clear e1 he
            generalize gI (bestC L lo hi) k = x at *
            generalize gI N k = y at *
            go_wp2_with fail
            go_quiet (fail)
            go_wp2_with fail
            go_quiet (fail)
            rcases mv with mv | mv
            · have g2 : decide (0 ≤ m) = true := decide_eq_true e5
              go_wp2_with fail
              go_ret
              exact ⟨ret_bool (by first | rfl | (simp <;> omega)), by first | exact tz | exact below_drewN tz _ | exact below_drewN (below_drewN tz _) _⟩
            · have hle := E4.out mv.symm
              rw [HE.out] at hle
              subst mv
              have g3 : decide (m < m) = false := by simp
              go_wp2_with fail
              go_ret
              exact ⟨ret_bool (by first | rfl | (simp at hle ⊢ <;> omega)), by first | exact tz | exact below_drewN tz _ | exact below_drewN (below_drewN tz _) _⟩
        · rcases mv with mv | mv
          · go_wp2_with fail
            go_ret
            exact ⟨ret_bool (by first | rfl | (simp <;> omega)), tz⟩
          · subst mv
            have g3 : decide (m < m) = false := by simp
            go_wp2_with fail
            go_ret
            exact ⟨ret_bool (by first | rfl | (simp <;> omega)), tz⟩
      · rcases mv with mv | mv
        · go_wp2_with fail
          go_ret
          exact ⟨ret_bool (by first | rfl | (simp <;> omega)), tz⟩
        · subst mv
          have g3 : decide (m < m) = false := by simp
          go_wp2_with fail
          go_ret
          exact ⟨ret_bool (by first | rfl | (simp <;> omega)), tz⟩

set_option maxRecDepth 100000 in
theorem liftedFnCostBest (os : Os) (started : os.Started) (H : Type) (enc : TypeId × Value → H) :
    ReturnsInHanded {} Try.checked os 15 .any (Rows.fnCostBestSpec.pre6 enc Try.prog Try.f15 Rows.fnCostBestRow.domain false) (Rows.fnCostBestSpec.post enc Try.prog Try.f15 false true false false) := by
  refine returnsInHanded_of_change (C := Try.checked) own_ started (by kernel_rfl) Try.func15
    (ChangeSpec.witness6 (enc := enc) (C := Try.checked) false ⟨#[], #[.slice none 0 0], []⟩ 8 (by kernel_rfl) (by kernel_rfl) (by kernel_rfl) (by kernel_rfl)) ?_
  intro W base args ds gs before hval0 hW hcnd _
  have hval : ∀ (j : Nat) t v, Try.f15.params[j]? = some t → args[j]? = some v → Value.okWide Try.prog W .any base t v := hval0
  have hW' := hW
  obtain ⟨p, q, hA0, hV, rfl, hfz, hnd⟩ := hW
  have hA : DataW.TrodAll enc Try.prog W 0 (fun _ => true) true Try.f15.params.toList args.toList ds p := hA0
  rw [Try.params15] at hA hval
  obtain ⟨v0, vs0, d0, ds0, p0, q0, hargs, rfl, rfl, h0, r0⟩ := trodAll_cons hA
  obtain ⟨rfl, rfl, rfl⟩ := trodAll_nil r0
  obtain rfl : args = #[v0] := by cases args; simp_all
  obtain ⟨rfl, rfl⟩ := trodVars_none hV
  obtain ⟨a0, n0, c0, rfl⟩ := okWide_slice Try.underlying29 (hval 0 29 v0 rfl rfl)
  have kk0 := h0
  have lt0 : ∀ x ∈ p0, x.block < W.heap.size := by obtain ⟨m, hm⟩ := kk0; exact DataW.trod_lt m _ _ _ hm
  obtain ⟨l0, e0, g0, w0, b0, bm0⟩ : ∃ l : List Int, l.length = n0 ∧ RdI W W.heap.size .u8 a0 l ∧ (∀ z ∈ l, (Lit.int .u8 z).wf = true) ∧ n0 ≤ c0 ∧ c0 ≤ maxLen := by
    obtain ⟨fuel, hf⟩ := h0
    exact openI Try.underlying29 Try.underlying5 (by kernel_rfl) (by simpa [Value.cells] using hf)
  subst e0
  clear hA0 hval0
  refine (walkFnCostBest a0 c0 l0 W g0 (wf_bytes w0) b0 (by unfold maxLen at bm0; omega)).mono fun e W' ⟨he, bel⟩ => ?_
  subst he
  exact ⟨_, rfl, _, _, _, [], _, [], hW', trodAll_mk1 (shut_bool Try.underlying4 _), (trodAll_cons_mk (Below.trod laidOut_ (by kernel_rfl) (of_decide_eq_true (by kernel_rfl)) kk0 bel lt0) trodAll_mk0), rfl, bel.frame _, fun h => by cases h⟩

theorem fnCostBest_holds : Rows.FnCostBestSaid :=
  OpenClaim.holds_of_wide 15 Try.f15 rfl rfl rfl rfl rfl rfl rfl ⟨rfl, rfl, rfl, rfl, rfl⟩ rfl rfl rfl rfl rfl (by kernel_rfl) Try.func15 (by kernel_rfl)
    (of_decide_eq_true (by kernel_rfl)) (by unfold Func.isWrapper; first | (rw [if_pos (by decide +kernel)]; kernel_rfl) | (rw [if_neg (by decide +kernel)]; exact ⟨rfl, rfl⟩))
    (fun os started H enc _ => liftedFnCostBest os started H enc)

end Go.Proofs.Ytbdhnfligfpigaa
