/- The statement FnBestSuffixSaid: for all arguments the Go function laws.FnBestSuffix returns true and leaves its arguments as they were. No condition. -/
import Derived.Test.YtbdhnfligfpigaaCBest
import Derived.Test.YtbdhnfligfpigaaCBestS
import Derived.Test.YtbdhnfligfpigaaDrawC
import Derived.Test.YtbdhnfligfpigaaCutSuffix
import Derived.Test.YtbdhnfligfpigaaCutAdd
import Derived.Test.YtbdhnfligfpigaaInts
import Derived.Test.YtbdhnfligfpigaaIntsMore
import Derived.Test.YtbdhnfligfpigaaMore
import Derived.Test.YtbdhnfligfpigaaFrame
namespace Go.Proofs.Ytbdhnfligfpigaa
open Go.ChangeShapes Go.WideShapes Go.ChangeAt Go.RowKit

set_option maxRecDepth 100000 in
set_option maxHeartbeats 4000000 in
theorem walkFnBestSuffix (A0 : Option Addr) (c0 : Nat) (l0 : List Int) (w : World) (r0 : RdI w w.heap.size .u8 A0 l0) (y0 : ∀ x ∈ l0, 0 ≤ x ∧ x ≤ 255) (k0 : l0.length ≤ c0) (m0 : c0 ≤ 9223372036854775807) :
    Calls Try.prog 7 #[.slice A0 l0.length c0] w fun e w' => e = .returned (.bool true) ∧ Below w.heap.size w w' := by
  by_cases z0 : 1048576 < l0.length
  · clear r0 y0
    go_enter Try.func7, Try.ntmps7
    go_wp2_with fail
    go_ret
    exact ⟨rfl, Below.refl _ _⟩
  have Y0 := Lib.hid y0
  clear y0
  go_enter Try.func7, Try.ntmps7
  go_wp2_with fail
  refine (DrawCutsBest_any A0 c0 l0 _ r0 Y0.out (by omega) k0 m0).mono ?_
  rintro e u1 ⟨AL, cL, L, lo, hi, rfl, hL, hsm, ⟨lo0, lo1⟩, ⟨hi0, hi1⟩, oL, b1⟩
  have s1 := b1.size
  have t1 := b1
  have wL := own_cap oL
  have rL := RdI.of_own oL
  clear oL
  clear b1
  clear r0
  have hbl := bestC_len L lo hi
  go_wp2_with fail
  refine (cutsBest_any AL cL (L) lo hi _ rL (by omega)).mono ?_
  rintro e u2 ⟨Ao, co, rfl, oo, b2⟩
  have s2 := b2.size
  have t2 := t1.trans (b2.mono t1.size)
  have rL := rL.to b2
  have wo := own_cap oo
  have ro := RdI.of_own oo
  clear oo
  clear b2 t1
  go_wp2_with fail
  refine (specCutsBest_any AL cL (L) lo hi _ rL (by omega)).mono ?_
  rintro e u3 ⟨Aw, cw, rfl, ow, b3⟩
  have s3 := b3.size
  have t3 := t2.trans (b3.mono t2.size)
  have rL := rL.to b3
  have ro := ro.to b3
  have ww := own_cap ow
  have rw := RdI.of_own ow
  clear ow
  clear b3 t2
  go_wp2_with fail
  generalize hok : (bestOk L lo hi) = ok
  cases ok with
  | false =>
    go_wp2_with fail
    refine (sameInts_any Ao Aw co cw (bestC L lo hi) (bestC L lo hi) _ ro rw (by omega)).mono ?_
    rintro e u4 ⟨rfl, b4⟩
    have s4 := b4.size
    have t4 := t3.trans (b4.mono t3.size)
    have rL := rL.to b4
    have ro := ro.to b4
    have rw := rw.to b4
    clear b4 t3
    go_wp2_with fail
    refine (sameInts_any Ao Aw co cw (bestC L lo hi) (bestC L lo hi) _ ro rw (by omega)).mono ?_
    rintro e u5 ⟨rfl, b5⟩
    have s5 := b5.size
    have t5 := t4.trans (b5.mono t4.size)
    have rL := rL.to b5
    have ro := ro.to b5
    have rw := rw.to b5
    clear b5 t4
    go_wp2_with fail
    go_ret
    exact ⟨ret_bool (by simp), t5⟩
  | true =>
    go_wp2_with fail
    refine (sameInts_any Ao Aw co cw (bestC L lo hi) (bestC L lo hi) _ ro rw (by omega)).mono ?_
    rintro e u4 ⟨rfl, b4⟩
    have s4 := b4.size
    have t4 := t3.trans (b4.mono t3.size)
    have rL := rL.to b4
    have ro := ro.to b4
    have rw := rw.to b4
    clear b4 t3
    clear rw
    obtain ⟨t, T1, T2, xs, ho, hx⟩ := best_suffix hok
    have hol : (bestC L lo hi).length = xs.length + 1 := by rw [ho]; rfl
    by_cases hne : xs = []
    · have g1 : (((bestC L lo hi).length : Int) == 1) = true := by rw [hol, hne]; rfl
      have h2 : ((bestC L lo hi).length : Int) < 2 := by rw [hol, hne]; decide
      clear hol ho hx hok hne
      go_wp2_with fail
      go_ret
      exact ⟨ret_bool (rfl), t4⟩
    · obtain ⟨tl, okd, hcd⟩ := hx hne
      have hxl : (bestC (L.drop t) lo hi).length = xs.length := by rw [hcd]; simp
      have h0 : 0 < xs.length := List.length_pos_iff.2 hne
      have EX := Lib.hid (fun k (hk : k < xs.length) => show gI (bestC L lo hi) (k + 1) = gI (bestC (L.drop t) lo hi) k + (t : Int) from by rw [ho, hcd, gI_lt (by simp; omega), gI_lt (by simp; omega)]; simp)
      have EB := Lib.hid (fun k (hk : k < xs.length) => show 0 ≤ gI (bestC L lo hi) (k + 1) ∧ gI (bestC L lo hi) (k + 1) < L.length from allowed_at (best_allowed hok).1 (by rw [ho]; simp; omega))
      have E0 : gI (bestC L lo hi) 0 = (t : Int) - 1 := by rw [ho]; rfl
      have h2 : (2 : Int) ≤ ((bestC L lo hi).length : Int) := by omega
      have hlx1 : (bestC (L.drop t) lo hi).length + 1 ≤ (bestC L lo hi).length := by omega
      have hlx2 : (bestC L lo hi).length ≤ (bestC (L.drop t) lo hi).length + 1 := by omega
      have hlx3 : xs.length ≤ (bestC (L.drop t) lo hi).length := by omega
      have hlx4 : (bestC (L.drop t) lo hi).length ≤ xs.length := by omega
      clear hol hxl h0 hne hx hcd ho hok
      have hct : ¬ cL = t := by omega
      have rD := rL.from cL t wL
      rw [if_neg hct] at rD
      obtain ⟨bo, oo, hA, hB, hcs⟩ := ro (by omega)
      subst hA
      have q0 := hcs 0 (by omega)
      rw [E0, Nat.add_zero] at q0
      clear hcs E0
      have z1 : (0 : Int) ≤ (t : Int) ∧ (t : Int) ≤ (cL : Int) ∧ (t : Int) ≤ (L.length : Int) := by omega
      have z2 : IntKind.i64.wrap ((t : Int) - 1 + 1) = (t : Int) := by rw [IntWalk.i64_in _ (by omega)]; omega
      have X1 := cutsBest_any _ (cL - t) (L.drop t) lo hi u4 rD (by rw [List.length_drop]; omega)
      rw [List.length_drop, okd] at X1
      have XH := Lib.hid X1
      clear X1 okd rD rL
      go_wp2_with fail
      refine XH.out.mono ?_
      rintro e u5 ⟨Ax, cx, rfl, ox, b5⟩
      have t5 := t4.trans (b5.mono t4.size)
      have ro := ro.to b5
      have rx := RdI.of_own ox
      clear b5 t4 ox q0 XH
      go_wp2_with fail
      go_loopw [13] (fun i wr => ∃ k : Nat, k ≤ (bestC (L.drop t) lo hi).length ∧ i = .int .i64 k ∧ Below u5.heap.size u5 wr) (fun i _ => (bestC (L.drop t) lo hi).length - (intOf i).toNat)
      case atStart => exact ⟨0, Nat.zero_le _, rfl, Below.refl _ _⟩
      case round =>
        obtain ⟨k, hk, rfl, hb⟩ := hrel
        have s1 : IntKind.i64.wrap (((bestC L lo hi).length : Int) - 1) = ((bestC (L.drop t) lo hi).length : Int) := by rw [IntWalk.i64_in _ (by omega)]; omega
        by_cases hlt : k < (bestC (L.drop t) lo hi).length
        · obtain ⟨bo2, oo2, hA, hB2, hcs⟩ := (ro.to hb) (by omega)
          obtain ⟨bx, ox, hA2, hBx, hcx⟩ := (rx.to hb) (by omega)
          injection hA with hA
          injection hA with hA3 hA4
          subst hA3 hA4
          subst hA2
          have q1 := hcs (k + 1) (by omega)
          have q2 := hcx k hlt
          have e1 := EX.out k (by omega)
          have e2 := EB.out k (by omega)
          rw [e1] at q1 e2
          generalize gI (bestC (L.drop t) lo hi) k = y at q1 q2 e2
          have HE := Lib.hid e1
          have g2 : ((((bestC (L.drop t) lo hi).length : Int)) != ((bestC (L.drop t) lo hi).length : Int)) = false := by simp
          have g3 : ((y + (t : Int)) != (y + (t : Int))) = false := by simp
          have s2 : IntKind.i64.wrap (y + (t : Int)) = y + (t : Int) := IntWalk.i64_in _ (by omega)
          have s3 : IntKind.i64.wrap ((k : Int) + 1) = (k : Int) + 1 := IntWalk.i64_in _ (by omega)
          have s4 : ((k : Int) + 1).toNat = k + 1 := by omega
          have l1 : (0 : Int) ≤ (k : Int) := by omega
          have l2 : (k : Int) < ((bestC (L.drop t) lo hi).length : Int) := by omega
          have l3 : (k : Int) + 1 < ((bestC L lo hi).length : Int) ∧ (0 : Int) ≤ (k : Int) + 1 := by omega
          clear hcs hcx e1
          go_wp2_with fail
          go_quiet (fail)
          go_wp2_with fail
          exact ⟨⟨k + 1, hlt, by go_num, below_drewN hb _⟩, by simp [intOf]; omega⟩
        · have g2 : ((((bestC (L.drop t) lo hi).length : Int)) == ((bestC (L.drop t) lo hi).length : Int)) = true := by simp
          go_wp2_with fail
          go_ret
          exact ⟨ret_bool (by first | rfl | simp), t5.trans (hb.mono t5.size)⟩

set_option maxRecDepth 100000 in
theorem liftedFnBestSuffix (os : Os) (started : os.Started) (H : Type) (enc : TypeId × Value → H) :
    ReturnsInHanded {} Try.checked os 7 .any (Rows.fnBestSuffixSpec.pre6 enc Try.prog Try.f7 Rows.fnBestSuffixRow.domain false) (Rows.fnBestSuffixSpec.post enc Try.prog Try.f7 false true false false) := by
  refine returnsInHanded_of_change (C := Try.checked) own_ started (by kernel_rfl) Try.func7
    (ChangeSpec.witness6 (enc := enc) (C := Try.checked) false ⟨#[], #[.slice none 0 0], []⟩ 8 (by kernel_rfl) (by kernel_rfl) (by kernel_rfl) (by kernel_rfl)) ?_
  intro W base args ds gs before hval0 hW hcnd _
  have hval : ∀ (j : Nat) t v, Try.f7.params[j]? = some t → args[j]? = some v → Value.okWide Try.prog W .any base t v := hval0
  have hW' := hW
  obtain ⟨p, q, hA0, hV, rfl, hfz, hnd⟩ := hW
  have hA : DataW.TrodAll enc Try.prog W 0 (fun _ => true) true Try.f7.params.toList args.toList ds p := hA0
  rw [Try.params7] at hA hval
  obtain ⟨v0, vs0, d0, ds0, p0, q0, hargs, rfl, rfl, h0, r0⟩ := trodAll_cons hA
  obtain ⟨rfl, rfl, rfl⟩ := trodAll_nil r0
  obtain rfl : args = #[v0] := by cases args; simp_all
  obtain ⟨rfl, rfl⟩ := trodVars_none hV
  obtain ⟨a0, n0, c0, rfl⟩ := okWide_slice Try.underlying29 (hval 0 29 v0 rfl rfl)
  have kk0 := h0
  have lt0 : ∀ x ∈ p0, x.block < W.heap.size := by obtain ⟨m, hm⟩ := kk0; exact DataW.trod_lt m _ _ _ hm
  obtain ⟨l0, e0, g0, w0, b0, bm0⟩ : ∃ l : List Int, l.length = n0 ∧ RdI W W.heap.size .u8 a0 l ∧ (∀ z ∈ l, (Lit.int .u8 z).wf = true) ∧ n0 ≤ c0 ∧ c0 ≤ maxLen := by
    obtain ⟨fuel, hf⟩ := h0
    exact openI Try.underlying29 Try.underlying5 (by kernel_rfl) (by simpa [Value.cells] using hf)
  subst e0
  clear hA0 hval0
  refine (walkFnBestSuffix a0 c0 l0 W g0 (wf_bytes w0) b0 (by unfold maxLen at bm0; omega)).mono fun e W' ⟨he, bel⟩ => ?_
  subst he
  exact ⟨_, rfl, _, _, _, [], _, [], hW', trodAll_mk1 (shut_bool Try.underlying4 _), (trodAll_cons_mk (Below.trod laidOut_ (by kernel_rfl) (of_decide_eq_true (by kernel_rfl)) kk0 bel lt0) trodAll_mk0), rfl, bel.frame _, fun h => by cases h⟩

theorem fnBestSuffix_holds : Rows.FnBestSuffixSaid :=
  OpenClaim.holds_of_wide 7 Try.f7 rfl rfl rfl rfl rfl rfl rfl ⟨rfl, rfl, rfl, rfl, rfl⟩ rfl rfl rfl rfl rfl (by kernel_rfl) Try.func7 (by kernel_rfl)
    (of_decide_eq_true (by kernel_rfl)) (by unfold Func.isWrapper; first | (rw [if_pos (by decide +kernel)]; kernel_rfl) | (rw [if_neg (by decide +kernel)]; exact ⟨rfl, rfl⟩))
    (fun os started H enc _ => liftedFnBestSuffix os started H enc)

end Go.Proofs.Ytbdhnfligfpigaa
