/- The statement FnBestTwiceSaid: for all arguments the Go function laws.FnBestTwice returns true and leaves its arguments as they were. No condition. -/
import Derived.Test.YtbdhnfligfpigaaCBest
import Derived.Test.YtbdhnfligfpigaaCBestS
import Derived.Test.YtbdhnfligfpigaaDrawC
import Derived.Test.YtbdhnfligfpigaaCutTwice
import Derived.Test.YtbdhnfligfpigaaInts
import Derived.Test.YtbdhnfligfpigaaFrame
namespace Go.Proofs.Ytbdhnfligfpigaa
open Go.ChangeShapes Go.WideShapes Go.ChangeAt Go.RowKit

theorem twice_take (L : List Int) (k : Nat) (h : k < L.length) : twice (L.take (k + 1)) = twice (L.take k) ++ [2 * gI L k] := by
  unfold twice
  rw [List.take_succ_eq_append_getElem h, List.map_append, gI_lt h]; rfl
set_option maxRecDepth 100000 in
set_option maxHeartbeats 4000000 in
theorem walkFnBestTwice (A0 : Option Addr) (c0 : Nat) (l0 : List Int) (w : World) (r0 : RdI w w.heap.size .u8 A0 l0) (y0 : ∀ x ∈ l0, 0 ≤ x ∧ x ≤ 255) (k0 : l0.length ≤ c0) (m0 : c0 ≤ 9223372036854775807) :
    Calls Try.prog 8 #[.slice A0 l0.length c0] w fun e w' => e = .returned (.bool true) ∧ Below w.heap.size w w' := by
  by_cases z0 : 1048576 < l0.length
  · clear r0 y0
    go_enter Try.func8, Try.ntmps8
    go_wp2_with fail
    go_ret
    exact ⟨rfl, Below.refl _ _⟩
  have Y0 := Lib.hid y0
  clear y0
  go_enter Try.func8, Try.ntmps8
  go_wp2_with fail
  refine (DrawCutsBest_any A0 c0 l0 _ r0 Y0.out (by omega) k0 m0).mono ?_
  rintro e u1 ⟨AL, cL, L, lo, hi, rfl, hL, hsm, ⟨lo0, lo1⟩, ⟨hi0, hi1⟩, oL, b1⟩
  have s1 := b1.size
  have t1 := b1
  have rL := RdI.of_own oL
  clear oL
  clear b1
  clear r0
  have hbl := bestC_len L lo hi
  go_wp2_with fail
  refine (cutsBest_any AL cL (L) lo hi _ rL (by omega)).mono ?_
  rintro e u2 ⟨Ao, co, rfl, oo, b2⟩
  have s2 := b2.size
  have t2 := t1.trans (b2.mono t1.size)
  have rL := rL.to b2
  have ro := RdI.of_own oo
  clear oo
  clear b2 t1
  go_wp2_with fail
  refine (specCutsBest_any AL cL (L) lo hi _ rL (by omega)).mono ?_
  rintro e u3 ⟨Aw, cw, rfl, ow, b3⟩
  have s3 := b3.size
  have t3 := t2.trans (b3.mono t2.size)
  have rL := rL.to b3
  have ro := ro.to b3
  have rw := RdI.of_own ow
  clear ow
  clear b3 t2
  go_wp2_with fail
  generalize hok : (bestOk L lo hi) = ok
  cases ok with
  | false =>
    go_wp2_with fail
    refine (sameInts_any Ao Aw co cw (bestC L lo hi) (bestC L lo hi) _ ro rw (by omega)).mono ?_
    rintro e u4 ⟨rfl, b4⟩
    have s4 := b4.size
    have t4 := t3.trans (b4.mono t3.size)
    have rL := rL.to b4
    have ro := ro.to b4
    have rw := rw.to b4
    clear b4 t3
    go_wp2_with fail
    refine (sameInts_any Ao Aw co cw (bestC L lo hi) (bestC L lo hi) _ ro rw (by omega)).mono ?_
    rintro e u5 ⟨rfl, b5⟩
    have s5 := b5.size
    have t5 := t4.trans (b5.mono t4.size)
    have rL := rL.to b5
    have ro := ro.to b5
    have rw := rw.to b5
    clear b5 t4
    go_wp2_with fail
    go_ret
    exact ⟨ret_bool (by simp), t5⟩
  | true =>
    go_wp2_with fail
    refine (sameInts_any Ao Aw co cw (bestC L lo hi) (bestC L lo hi) _ ro rw (by omega)).mono ?_
    rintro e u4 ⟨rfl, b4⟩
    have s4 := b4.size
    have t4 := t3.trans (b4.mono t3.size)
    have rL := rL.to b4
    have ro := ro.to b4
    have rw := rw.to b4
    clear b4 t3
    clear rw
    have HB := Lib.hid (best_twice hok)
    have hsg : sig L = true := by have h9 := hok; simp only [bestOk, Bool.and_eq_true] at h9; exact h9.1.1
    have HG := Lib.hid (sig_nonneg hsg)
    clear hsg hok
    have hacc0 : Acc1 u4 (u4.alloc (.cells #[] 3)) 3 .i64 (.slice (some ⟨u4.heap.size, 0, none⟩) 0 0) (twice (L.take 0)) := ⟨World.ownsRow_made u4 #[] 0 (Nat.le_refl _) (by decide) rfl, (Below.refl _ _).alloc (Nat.le_refl _) _⟩
    go_wp2_with fail
    go_loopw [11, 10] (fun i v wr => ∃ k : Nat, k ≤ L.length ∧ i = .int .i64 k ∧ Acc1 u4 wr 3 .i64 v (twice (L.take k))) (fun i _ _ => L.length - (intOf i).toNat)
    case atStart => exact ⟨0, Nat.zero_le _, rfl, hacc0⟩
    case round =>
      obtain ⟨k, hk, rfl, hacc⟩ := hrel
      clear hacc0
      by_cases hlt : k < L.length
      · have rLk := rL.to hacc.2
        obtain ⟨b, o, hA, hB, hcs⟩ := rLk (by omega)
        subst hA
        have q1 := hcs k hlt
        clear hcs rLk
        obtain ⟨g0, g1⟩ := HG.out k
        have hw : IntKind.i64.wrap (2 * gI L k) = 2 * gI L k := IntWalk.i64_in _ (by omega)
        have hln : (twice (L.take k)).length + 1 ≤ 4294967296 := by rw [twice_len, List.length_take]; omega
        have l1 : (0 : Int) ≤ (k : Int) := by omega
        have l2 : (k : Int) < (L.length : Int) := by omega
        go_wp2_with (at_builtin; refine wpList_app1 rfl _ _ _ rfl Try.underlying22 infoI64 rfl hacc _ _ _ rfl rfl hln ?_; intro v1 w2 hacc1)
        exact ⟨⟨k + 1, hlt, by go_num, by rw [twice_take L k hlt]; exact hacc1⟩, by simp [intOf]; omega⟩
      · obtain rfl : k = L.length := by omega
        obtain ⟨AX, cX, rfl⟩ := hacc.shape
        rw [List.take_length] at hacc ⊢
        have bX := hacc.2
        have rX := RdI.of_own hacc.1
        have tX := t4.trans (bX.mono t4.size)
        have roX := ro.to bX
        have hx1 : (twice L).length ≤ 1048576 := by rw [twice_len]; omega
        have hbx := bestC_len (twice L) lo hi
        clear hacc rL ro t4
        go_wp2_with fail
        refine (cutsBest_any AX cX (twice L) lo hi _ rX hx1).mono ?_
        rintro e uy ⟨Ay, cy, rfl, oy, bY⟩
        have tY := tX.trans (bY.mono tX.size)
        have roY := roX.to bY
        have ry := RdI.of_own oy
        clear oy tX bY roX rX bX
        have hb9 := HB.out
        rcases hb9 with ⟨z1, z2⟩ | ⟨z1, z2⟩
        · rw [z1, z2]
          clear z1 z2 HB
          go_wp2_with fail
          go_ret
          exact ⟨ret_bool (by first | rfl | simp), tY⟩
        · rw [z2] at ry
          rw [z1, z2]
          clear z1 z2 HB
          go_wp2_with fail
          refine (sameInts_any Ay Ao cy co (bestC L lo hi) (bestC L lo hi) _ ry roY (by omega)).mono ?_
          rintro e uz ⟨rfl, bz⟩
          go_wp2_with fail
          go_ret
          exact ⟨ret_bool (by simp), tY.trans (bz.mono tY.size)⟩

set_option maxRecDepth 100000 in
theorem liftedFnBestTwice (os : Os) (started : os.Started) (H : Type) (enc : TypeId × Value → H) :
    ReturnsInHanded {} Try.checked os 8 .any (Rows.fnBestTwiceSpec.pre6 enc Try.prog Try.f8 Rows.fnBestTwiceRow.domain false) (Rows.fnBestTwiceSpec.post enc Try.prog Try.f8 false true false false) := by
  refine returnsInHanded_of_change (C := Try.checked) own_ started (by kernel_rfl) Try.func8
    (ChangeSpec.witness6 (enc := enc) (C := Try.checked) false ⟨#[], #[.slice none 0 0], []⟩ 8 (by kernel_rfl) (by kernel_rfl) (by kernel_rfl) (by kernel_rfl)) ?_
  intro W base args ds gs before hval0 hW hcnd _
  have hval : ∀ (j : Nat) t v, Try.f8.params[j]? = some t → args[j]? = some v → Value.okWide Try.prog W .any base t v := hval0
  have hW' := hW
  obtain ⟨p, q, hA0, hV, rfl, hfz, hnd⟩ := hW
  have hA : DataW.TrodAll enc Try.prog W 0 (fun _ => true) true Try.f8.params.toList args.toList ds p := hA0
  rw [Try.params8] at hA hval
  obtain ⟨v0, vs0, d0, ds0, p0, q0, hargs, rfl, rfl, h0, r0⟩ := trodAll_cons hA
  obtain ⟨rfl, rfl, rfl⟩ := trodAll_nil r0
  obtain rfl : args = #[v0] := by cases args; simp_all
  obtain ⟨rfl, rfl⟩ := trodVars_none hV
  obtain ⟨a0, n0, c0, rfl⟩ := okWide_slice Try.underlying29 (hval 0 29 v0 rfl rfl)
  have kk0 := h0
  have lt0 : ∀ x ∈ p0, x.block < W.heap.size := by obtain ⟨m, hm⟩ := kk0; exact DataW.trod_lt m _ _ _ hm
  obtain ⟨l0, e0, g0, w0, b0, bm0⟩ : ∃ l : List Int, l.length = n0 ∧ RdI W W.heap.size .u8 a0 l ∧ (∀ z ∈ l, (Lit.int .u8 z).wf = true) ∧ n0 ≤ c0 ∧ c0 ≤ maxLen := by
    obtain ⟨fuel, hf⟩ := h0
    exact openI Try.underlying29 Try.underlying5 (by kernel_rfl) (by simpa [Value.cells] using hf)
  subst e0
  clear hA0 hval0
  refine (walkFnBestTwice a0 c0 l0 W g0 (wf_bytes w0) b0 (by unfold maxLen at bm0; omega)).mono fun e W' ⟨he, bel⟩ => ?_
  subst he
  exact ⟨_, rfl, _, _, _, [], _, [], hW', trodAll_mk1 (shut_bool Try.underlying4 _), (trodAll_cons_mk (Below.trod laidOut_ (by kernel_rfl) (of_decide_eq_true (by kernel_rfl)) kk0 bel lt0) trodAll_mk0), rfl, bel.frame _, fun h => by cases h⟩

theorem fnBestTwice_holds : Rows.FnBestTwiceSaid :=
  OpenClaim.holds_of_wide 8 Try.f8 rfl rfl rfl rfl rfl rfl rfl ⟨rfl, rfl, rfl, rfl, rfl⟩ rfl rfl rfl rfl rfl (by kernel_rfl) Try.func8 (by kernel_rfl)
    (of_decide_eq_true (by kernel_rfl)) (by unfold Func.isWrapper; first | (rw [if_pos (by decide +kernel)]; kernel_rfl) | (rw [if_neg (by decide +kernel)]; exact ⟨rfl, rfl⟩))
    (fun os started H enc _ => liftedFnBestTwice os started H enc)

end Go.Proofs.Ytbdhnfligfpigaa
