/- The statement FnBestIffSaid: for all arguments the Go function laws.FnBestIff returns true and leaves its arguments as they were. No condition. -/
import Derived.Test.YtbdhnfligfpigaaCBest
import Derived.Test.YtbdhnfligfpigaaCBestS
import Derived.Test.YtbdhnfligfpigaaDrawC
import Derived.Test.YtbdhnfligfpigaaCutTop
import Derived.Test.YtbdhnfligfpigaaInts
import Derived.Test.YtbdhnfligfpigaaFrame
namespace Go.Proofs.Ytbdhnfligfpigaa
open Go.ChangeShapes Go.WideShapes Go.ChangeAt Go.RowKit

set_option maxRecDepth 100000 in
set_option maxHeartbeats 4000000 in
theorem walkFnBestIff (A0 : Option Addr) (c0 : Nat) (l0 : List Int) (w : World) (r0 : RdI w w.heap.size .u8 A0 l0) (y0 : ∀ x ∈ l0, 0 ≤ x ∧ x ≤ 255) (k0 : l0.length ≤ c0) (m0 : c0 ≤ 9223372036854775807) :
    Calls Try.prog 6 #[.slice A0 l0.length c0] w fun e w' => e = .returned (.bool true) ∧ Below w.heap.size w w' := by
  by_cases z0 : 1048576 < l0.length
  · clear r0 y0
    go_enter Try.func6, Try.ntmps6
    go_wp2_with fail
    go_ret
    exact ⟨rfl, Below.refl _ _⟩
  have Y0 := Lib.hid y0
  clear y0
  go_enter Try.func6, Try.ntmps6
  go_wp2_with fail
  refine (DrawCutsBest_any A0 c0 l0 _ r0 Y0.out (by omega) k0 m0).mono ?_
  rintro e u1 ⟨AL, cL, L, lo, hi, rfl, hL, hsm, ⟨lo0, lo1⟩, ⟨hi0, hi1⟩, oL, b1⟩
  have s1 := b1.size
  have t1 := b1
  have rL := RdI.of_own oL
  clear oL
  clear b1
  clear r0
  have hbl := bestC_len L lo hi
  go_wp2_with fail
  refine (cutsBest_any AL cL (L) lo hi _ rL (by omega)).mono ?_
  rintro e u2 ⟨Ao, co, rfl, oo, b2⟩
  have s2 := b2.size
  have t2 := t1.trans (b2.mono t1.size)
  have rL := rL.to b2
  have ro := RdI.of_own oo
  clear oo
  clear b2 t1
  go_wp2_with fail
  refine (specCutsBest_any AL cL (L) lo hi _ rL (by omega)).mono ?_
  rintro e u3 ⟨Aw, cw, rfl, ow, b3⟩
  have s3 := b3.size
  have t3 := t2.trans (b3.mono t2.size)
  have rL := rL.to b3
  have ro := ro.to b3
  have rw := RdI.of_own ow
  clear ow
  clear b3 t2
  have HI := Lib.hid (best_iff L lo hi)
  go_wp2_with fail
  generalize hok : (bestOk L lo hi) = ok
  cases ok with
  | false =>
    go_wp2_with fail
    refine (sameInts_any Ao Aw co cw (bestC L lo hi) (bestC L lo hi) _ ro rw (by omega)).mono ?_
    rintro e u4 ⟨rfl, b4⟩
    have s4 := b4.size
    have t4 := t3.trans (b4.mono t3.size)
    have rL := rL.to b4
    have ro := ro.to b4
    have rw := rw.to b4
    clear b4 t3
    clear ro rw
    have HV := Lib.hid (HI.out.symm.trans hok)
    clear hok HI
    have TK := t4
    clear t4
    go_wp2_with fail
    go_loopw [11, 10] (fun i v wr => ∃ k : Nat, k ≤ L.length ∧ i = .int .i64 k ∧ v = .bool (sigTo L k) ∧ wr = u4) (fun i _ _ => L.length - (intOf i).toNat)
    case atStart => exact ⟨0, Nat.zero_le _, rfl, rfl, rfl⟩
    case round =>
      obtain ⟨k, hk, rfl, rfl, rfl⟩ := hrel
      by_cases hlt : k < L.length
      · obtain ⟨b, o, hA, hB, hcs⟩ := rL (by omega)
        subst hA
        have q1 := hcs k hlt
        clear hcs rL
        have e9 : sigTo L (k + 1) = (sigTo L k && (decide (0 ≤ gI L k) && decide (gI L k ≤ 1000))) := rfl
        cases hs : sigTo L k with
        | false =>
          rw [hs, Bool.false_and] at e9
          go_wp2
          exact ⟨⟨k + 1, hlt, by go_num, by rw [e9], by first | rfl | trivial⟩, by simp [intOf]; omega⟩
        | true =>
          rw [hs, Bool.true_and] at e9
          by_cases g0 : 0 ≤ gI L k
          · by_cases g1 : gI L k ≤ 1000
            · rw [decide_eq_true g0, decide_eq_true g1] at e9
              go_wp2
              exact ⟨⟨k + 1, hlt, by go_num, by rw [e9]; rfl, by first | rfl | trivial⟩, by simp [intOf]; omega⟩
            · have g1' : decide (gI L k ≤ 1000) = false := decide_eq_false g1
              rw [decide_eq_true g0, g1'] at e9
              go_wp2
              exact ⟨⟨k + 1, hlt, by go_num, by rw [e9]; rfl, by first | rfl | trivial⟩, by simp [intOf]; omega⟩
          · have g0' : decide (0 ≤ gI L k) = false := decide_eq_false g0
            rw [g0', Bool.false_and] at e9
            go_wp2
            exact ⟨⟨k + 1, hlt, by go_num, by rw [e9], by first | rfl | trivial⟩, by simp [intOf]; omega⟩
      · obtain rfl : k = L.length := by omega
        go_wp2_with fail
        refine (cutsMany_any _ lo hi _).mono ?_
        rintro e uz ⟨rfl, bz⟩
        have tz := TK.trans (bz.mono TK.size)
        cases hs : sigTo L L.length with
        | false =>
          have e8 := HV.out
          rw [hs] at e8
          clear e8
          go_wp2
          go_ret
          exact ⟨ret_bool (by simp), tz⟩
        | true =>
          have e8 := HV.out
          rw [hs] at e8
          rw [Bool.true_and] at e8
          go_wp2
          go_ret
          exact ⟨ret_bool (by simp at e8 ⊢ <;> omega), tz⟩
  | true =>
    go_wp2_with fail
    refine (sameInts_any Ao Aw co cw (bestC L lo hi) (bestC L lo hi) _ ro rw (by omega)).mono ?_
    rintro e u4 ⟨rfl, b4⟩
    have s4 := b4.size
    have t4 := t3.trans (b4.mono t3.size)
    have rL := rL.to b4
    have ro := ro.to b4
    have rw := rw.to b4
    clear b4 t3
    clear ro rw
    have HV := Lib.hid (HI.out.symm.trans hok)
    clear hok HI
    have TK := t4
    clear t4
    go_wp2_with fail
    go_loopw [11, 10] (fun i v wr => ∃ k : Nat, k ≤ L.length ∧ i = .int .i64 k ∧ v = .bool (sigTo L k) ∧ wr = u4) (fun i _ _ => L.length - (intOf i).toNat)
    case atStart => exact ⟨0, Nat.zero_le _, rfl, rfl, rfl⟩
    case round =>
      obtain ⟨k, hk, rfl, rfl, rfl⟩ := hrel
      by_cases hlt : k < L.length
      · obtain ⟨b, o, hA, hB, hcs⟩ := rL (by omega)
        subst hA
        have q1 := hcs k hlt
        clear hcs rL
        have e9 : sigTo L (k + 1) = (sigTo L k && (decide (0 ≤ gI L k) && decide (gI L k ≤ 1000))) := rfl
        cases hs : sigTo L k with
        | false =>
          rw [hs, Bool.false_and] at e9
          go_wp2
          exact ⟨⟨k + 1, hlt, by go_num, by rw [e9], by first | rfl | trivial⟩, by simp [intOf]; omega⟩
        | true =>
          rw [hs, Bool.true_and] at e9
          by_cases g0 : 0 ≤ gI L k
          · by_cases g1 : gI L k ≤ 1000
            · rw [decide_eq_true g0, decide_eq_true g1] at e9
              go_wp2
              exact ⟨⟨k + 1, hlt, by go_num, by rw [e9]; rfl, by first | rfl | trivial⟩, by simp [intOf]; omega⟩
            · have g1' : decide (gI L k ≤ 1000) = false := decide_eq_false g1
              rw [decide_eq_true g0, g1'] at e9
              go_wp2
              exact ⟨⟨k + 1, hlt, by go_num, by rw [e9]; rfl, by first | rfl | trivial⟩, by simp [intOf]; omega⟩
          · have g0' : decide (0 ≤ gI L k) = false := decide_eq_false g0
            rw [g0', Bool.false_and] at e9
            go_wp2
            exact ⟨⟨k + 1, hlt, by go_num, by rw [e9], by first | rfl | trivial⟩, by simp [intOf]; omega⟩
      · obtain rfl : k = L.length := by omega
        go_wp2_with fail
        refine (cutsMany_any _ lo hi _).mono ?_
        rintro e uz ⟨rfl, bz⟩
        have tz := TK.trans (bz.mono TK.size)
        cases hs : sigTo L L.length with
        | false =>
          have e8 := HV.out
          rw [hs] at e8
          simp at e8
        | true =>
          have e8 := HV.out
          rw [hs] at e8
          rw [Bool.true_and] at e8
          go_wp2
          go_ret
          exact ⟨ret_bool (by simp at e8 ⊢ <;> omega), tz⟩

set_option maxRecDepth 100000 in
theorem liftedFnBestIff (os : Os) (started : os.Started) (H : Type) (enc : TypeId × Value → H) :
    ReturnsInHanded {} Try.checked os 6 .any (Rows.fnBestIffSpec.pre6 enc Try.prog Try.f6 Rows.fnBestIffRow.domain false) (Rows.fnBestIffSpec.post enc Try.prog Try.f6 false true false false) := by
  refine returnsInHanded_of_change (C := Try.checked) own_ started (by kernel_rfl) Try.func6
    (ChangeSpec.witness6 (enc := enc) (C := Try.checked) false ⟨#[], #[.slice none 0 0], []⟩ 8 (by kernel_rfl) (by kernel_rfl) (by kernel_rfl) (by kernel_rfl)) ?_
  intro W base args ds gs before hval0 hW hcnd _
  have hval : ∀ (j : Nat) t v, Try.f6.params[j]? = some t → args[j]? = some v → Value.okWide Try.prog W .any base t v := hval0
  have hW' := hW
  obtain ⟨p, q, hA0, hV, rfl, hfz, hnd⟩ := hW
  have hA : DataW.TrodAll enc Try.prog W 0 (fun _ => true) true Try.f6.params.toList args.toList ds p := hA0
  rw [Try.params6] at hA hval
  obtain ⟨v0, vs0, d0, ds0, p0, q0, hargs, rfl, rfl, h0, r0⟩ := trodAll_cons hA
  obtain ⟨rfl, rfl, rfl⟩ := trodAll_nil r0
  obtain rfl : args = #[v0] := by cases args; simp_all
  obtain ⟨rfl, rfl⟩ := trodVars_none hV
  obtain ⟨a0, n0, c0, rfl⟩ := okWide_slice Try.underlying29 (hval 0 29 v0 rfl rfl)
  have kk0 := h0
  have lt0 : ∀ x ∈ p0, x.block < W.heap.size := by obtain ⟨m, hm⟩ := kk0; exact DataW.trod_lt m _ _ _ hm
  obtain ⟨l0, e0, g0, w0, b0, bm0⟩ : ∃ l : List Int, l.length = n0 ∧ RdI W W.heap.size .u8 a0 l ∧ (∀ z ∈ l, (Lit.int .u8 z).wf = true) ∧ n0 ≤ c0 ∧ c0 ≤ maxLen := by
    obtain ⟨fuel, hf⟩ := h0
    exact openI Try.underlying29 Try.underlying5 (by kernel_rfl) (by simpa [Value.cells] using hf)
  subst e0
  clear hA0 hval0
  refine (walkFnBestIff a0 c0 l0 W g0 (wf_bytes w0) b0 (by unfold maxLen at bm0; omega)).mono fun e W' ⟨he, bel⟩ => ?_
  subst he
  exact ⟨_, rfl, _, _, _, [], _, [], hW', trodAll_mk1 (shut_bool Try.underlying4 _), (trodAll_cons_mk (Below.trod laidOut_ (by kernel_rfl) (of_decide_eq_true (by kernel_rfl)) kk0 bel lt0) trodAll_mk0), rfl, bel.frame _, fun h => by cases h⟩

theorem fnBestIff_holds : Rows.FnBestIffSaid :=
  OpenClaim.holds_of_wide 6 Try.f6 rfl rfl rfl rfl rfl rfl rfl ⟨rfl, rfl, rfl, rfl, rfl⟩ rfl rfl rfl rfl rfl (by kernel_rfl) Try.func6 (by kernel_rfl)
    (of_decide_eq_true (by kernel_rfl)) (by unfold Func.isWrapper; first | (rw [if_pos (by decide +kernel)]; kernel_rfl) | (rw [if_neg (by decide +kernel)]; exact ⟨rfl, rfl⟩))
    (fun os started H enc _ => liftedFnBestIff os started H enc)

end Go.Proofs.Ytbdhnfligfpigaa
