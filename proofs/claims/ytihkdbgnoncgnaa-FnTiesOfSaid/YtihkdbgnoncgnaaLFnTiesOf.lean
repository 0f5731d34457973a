/- The statement FnTiesOfSaid: for all arguments the Go function laws.FnTiesOf returns true and leaves its arguments as they were. No condition. -/
import Derived.Test.YtihkdbgnoncgnaaTieMore
import Derived.Test.YtihkdbgnoncgnaaTop
import Derived.Test.YtihkdbgnoncgnaaMatTop
import Derived.Test.YtihkdbgnoncgnaaIntsMore
import Derived.Test.YtihkdbgnoncgnaaDrawM
import Derived.Test.YtihkdbgnoncgnaaMany
import Derived.Test.YtihkdbgnoncgnaaFrame
namespace Go.Proofs.Ytihkdbgnoncgnaa
open Go.ChangeShapes Go.WideShapes Go.ChangeAt Go.RowKit

set_option maxRecDepth 100000 in
set_option maxHeartbeats 4000000 in
theorem walkFnTiesOf (A0 : Option Addr) (c0 : Nat) (l0 : List Int) (w : World) (r0 : RdI w w.heap.size .u8 A0 l0) (y0 : ∀ x ∈ l0, 0 ≤ x ∧ x ≤ 255) (k0 : l0.length ≤ c0) (m0 : c0 ≤ 9223372036854775807) :
    Calls Try.prog 12 #[.slice A0 l0.length c0] w fun e w' => e = .returned (.bool true) ∧ Below w.heap.size w w' := by
  by_cases z0 : 1048576 < l0.length
  · clear r0 y0
    go_enter Try.func12, Try.ntmps12
    go_wp2_with fail
    go_ret
    exact ⟨rfl, Below.refl _ _⟩
  have Y0 := Lib.hid y0
  clear y0
  go_enter Try.func12, Try.ntmps12
  go_wp2_with fail
  refine (DrawTiesOf_any A0 c0 l0 _ r0 Y0.out (by omega) k0 m0).mono ?_
  rintro e u1 ⟨AL, cL, L, AM, cM, M, t, AN, cN, N, rfl, hL, hM, hN, ⟨ht0, ht1⟩, oL, oM, oN, b1⟩
  have s1 := b1.size
  have t1 := b1
  have rL := Rd.of_own oL
  clear oL
  have rM := Rd.of_own oM
  clear oM
  have rN := RdI.of_own oN
  clear oN
  clear b1
  clear r0
  have hbl := tieV_len L M t N
  go_wp2_with fail
  refine (tiesOf_any AL AM AN cL cM cN (L) (M) t (N) _ rL rM rN (by omega) (by omega)).mono ?_
  rintro e u2 ⟨Ao, co, rfl, oo, b2⟩
  have s2 := b2.size
  have t2 := t1.trans (b2.mono t1.size)
  have rL := rL.to b2
  have rM := rM.to b2
  have rN := rN.to b2
  have ro := Rd.of_own oo
  clear oo
  clear b2 t1
  go_wp2_with fail
  refine (specTiesOf_any AL AM AN cL cM cN (L) (M) t (N) _ rL rM rN (by omega) (by omega)).mono ?_
  rintro e u3 ⟨Aw, cw, rfl, ow, b3⟩
  have s3 := b3.size
  have t3 := t2.trans (b3.mono t2.size)
  have rL := rL.to b3
  have rM := rM.to b3
  have rN := rN.to b3
  have ro := ro.to b3
  have rw := Rd.of_own ow
  clear ow
  clear b3 t2
  go_wp2_with fail
  generalize hok : (okV L M t N) = ok
  cases ok with
  | false =>
    go_wp2_with fail
    refine (sameTies_any Ao Aw co cw (tieV L M t N) (tieV L M t N) _ ro rw (by omega)).mono ?_
    rintro e u4 ⟨rfl, b4⟩
    have s4 := b4.size
    have t4 := t3.trans (b4.mono t3.size)
    have rL := rL.to b4
    have rM := rM.to b4
    have rN := rN.to b4
    have ro := ro.to b4
    have rw := rw.to b4
    clear b4 t3
    go_wp2_with fail
    refine (sameTies_any Ao Aw co cw (tieV L M t N) (tieV L M t N) _ ro rw (by omega)).mono ?_
    rintro e u5 ⟨rfl, b5⟩
    have s5 := b5.size
    have t5 := t4.trans (b5.mono t4.size)
    have rL := rL.to b5
    have rM := rM.to b5
    have rN := rN.to b5
    have ro := ro.to b5
    have rw := rw.to b5
    clear b5 t4
    go_wp2_with fail
    go_ret
    exact ⟨ret_bool (by simp), t5⟩
  | true =>
    go_wp2_with fail
    refine (sameTies_any Ao Aw co cw (tieV L M t N) (tieV L M t N) _ ro rw (by omega)).mono ?_
    rintro e u4 ⟨rfl, b4⟩
    have s4 := b4.size
    have t4 := t3.trans (b4.mono t3.size)
    have rL := rL.to b4
    have rM := rM.to b4
    have rN := rN.to b4
    have ro := ro.to b4
    have rw := rw.to b4
    clear b4 t3
    clear rw
    obtain ⟨e1, _⟩ := okV_inv hok
    have E1 := Lib.hid e1
    have E2 := Lib.hid (tie_turn hok)
    have E3 := Lib.hid (tie_tv hok)
    have E4 := Lib.hid (tie_many hok)
    have hlt := turnL_len (tieV L M t N)
    clear e1
    go_wp2_with fail
    refine (none_any M.length _ (by omega)).mono ?_
    rintro e u5 ⟨AX, cX, rfl, oX, bX⟩
    rw [length_noneL] at oX ⊢
    have hN0 := okV_parts hok
    have hNl : N.length ≤ L.length := by omega
    have hNl2 : L.length ≤ N.length := by omega
    have EA := Lib.hid (fun i (hi : i < L.length) => okV_at hok hi)
    clear hN0
    have oX0 : u5.ownsRow u4.heap.size 3 1 (.slice AX M.length cX) M.length (cells1 .i64 (invTo N M.length 0)) := oX
    clear oX
    go_wp2_with fail
    go_loopw [12] (fun i wr => ∃ k : Nat, k ≤ N.length ∧ i = .int .i64 k ∧ wr.ownsRow u4.heap.size 3 1 (.slice AX M.length cX) M.length (cells1 .i64 (invTo N M.length k)) ∧ Below u4.heap.size u4 wr) (fun i _ => N.length - (intOf i).toNat)
    case atStart => exact ⟨0, Nat.zero_le _, rfl, oX0, bX⟩
    case round =>
      obtain ⟨k, hk, rfl, ho, hb⟩ := hrel
      clear oX0 bX
      by_cases hlt : k < N.length
      · obtain ⟨bn, on, hA, hB, hcs⟩ := (rN.to hb) (by omega)
        have e0 := hcs k hlt
        subst hA
        have l1 : (0 : Int) ≤ (k : Int) := by omega
        have l2 : (k : Int) < (N.length : Int) := by omega
        clear hcs
        rcases EA.out k (by omega) with hn | ⟨hn1, hn2⟩
        · have hs : invTo N M.length (k + 1) = invTo N M.length k := by rw [invTo, if_neg (by omega)]
          have HS := Lib.hid hs
          rw [hn] at e0
          clear hs hn
          go_wp2
          exact ⟨⟨k + 1, hlt, by go_num, by rw [HS.out]; exact ho, hb⟩, by simp [intOf]; omega⟩
        · obtain ⟨p, hp⟩ := Int.eq_ofNat_of_zero_le hn1
          have hs : invTo N M.length (k + 1) = putI (invTo N M.length k) p k := by rw [invTo, if_pos hn1, hp, Int.toNat_natCast]; rfl
          have HS := Lib.hid hs
          rw [hp] at e0 hn2
          have hpm : p < M.length := by omega
          obtain ⟨gx, cap, hv, hgx, _⟩ := ho.form (by omega)
          injection hv with hAX _ hC
          subst hC
          subst hAX
          have q1 := (ho.cellAt p (by omega)).trans (cells1_get .i64 _ p (by rw [length_invTo]; exact hpm))
          have f1 := ho.frozenAt p
          obtain ⟨ho2, _⟩ := ho.stored p (.int .i64 k)
          rw [← cells1_putI] at ho2
          have hb2 := hb.setCell (p := ⟨gx, p, none⟩) (by exact hgx) (.int .i64 k)
          have l3 : (0 : Int) ≤ (p : Int) := by omega
          have l4 : (p : Int) < (M.length : Int) := by omega
          have l5 : decide (0 ≤ (p : Int)) = true := decide_eq_true l3
          clear hs hp hn1
          go_wp2
          exact ⟨⟨k + 1, hlt, by go_num, by rw [HS.out]; exact ho2, hb2⟩, by simp [intOf]; omega⟩
      · have hkl : k = L.length := by omega
        rw [hkl] at ho
        have rX := RdI.of_own' ho (by rw [length_invTo])
        have t5 := t4.trans (hb.mono t4.size)
        have rL := rL.to hb
        have rM := rM.to hb
        have rN := rN.to hb
        have ro := ro.to hb
        have hlx : (invTo N M.length L.length).length = M.length := length_invTo ..
        have HLX := Lib.hid hlx
        clear ho hb t4 hlx
        have hge : N.length ≤ k := by omega
        clear hkl
        go_wp2_with fail
        have X1 := tiesOf_any AM AL AX cM cL cX M L t (invTo N M.length L.length) wr rM rL rX (by omega) (by omega)
        rw [HLX.out, E1.out, E2.out] at X1
        refine X1.mono ?_
        rintro e v1 ⟨Ay, cy, rfl, oy, c1⟩
        have t6 := t5.trans (c1.mono t5.size)
        have rL := rL.to c1
        have rM := rM.to c1
        have rN := rN.to c1
        have ro := ro.to c1
        have ry := Rd.of_own oy
        clear oy rX c1 X1 hok
        go_wp2_with fail
        refine (tiesTurn_any Ao co (tieV L M t N) _ ro (by omega)).mono ?_
        rintro e v2 ⟨Az, cz, rfl, oz, c2⟩
        have t7 := t6.trans (c2.mono t6.size)
        have rL := rL.to c2
        have rM := rM.to c2
        have rN := rN.to c2
        have ro := ro.to c2
        have ry := ry.to c2
        have rz := Rd.of_own oz
        clear oz c2
        rw [E3.out]
        go_wp2_with fail
        refine (sameTies_any Ay Az cy cz (turnL (tieV L M t N)) (turnL (tieV L M t N)) _ ry rz (by omega)).mono ?_
        rintro e v3 ⟨rfl, c3⟩
        have t8 := t7.trans (c3.mono t7.size)
        have rL := rL.to c3
        have rM := rM.to c3
        have rN := rN.to c3
        have ro := ro.to c3
        clear c3 ry rz
        go_wp2_with fail
        refine (tiesValid_any Ao co (tieV L M t N) _ ro (by omega)).mono ?_
        rintro e v4 ⟨rfl, c4⟩
        have t9 := t8.trans (c4.mono t8.size)
        have rL := rL.to c4
        have rM := rM.to c4
        have rN := rN.to c4
        clear c4
        rw [E3.out]
        go_wp2_with fail
        refine (matchMany_any AL AM AN cL cM cN L M t N _ rL rM rN (by omega) (by omega)).mono ?_
        rintro e v5 ⟨rfl, c5⟩
        have t10 := t9.trans (c5.mono t9.size)
        rw [E4.out]
        go_wp2_with fail
        all_goals
          go_ret
          exact ⟨ret_bool (by simp), t10⟩

set_option maxRecDepth 100000 in
theorem liftedFnTiesOf (os : Os) (started : os.Started) (H : Type) (enc : TypeId × Value → H) :
    ReturnsInHanded {} Try.checked os 12 .any (Rows.fnTiesOfSpec.pre6 enc Try.prog Try.f12 Rows.fnTiesOfRow.domain false) (Rows.fnTiesOfSpec.post enc Try.prog Try.f12 false true false false) := by
  refine returnsInHanded_of_change (C := Try.checked) own_ started (by kernel_rfl) Try.func12
    (ChangeSpec.witness6 (enc := enc) (C := Try.checked) false ⟨#[], #[.slice none 0 0], []⟩ 8 (by kernel_rfl) (by kernel_rfl) (by kernel_rfl) (by kernel_rfl)) ?_
  intro W base args ds gs before hval0 hW hcnd _
  have hval : ∀ (j : Nat) t v, Try.f12.params[j]? = some t → args[j]? = some v → Value.okWide Try.prog W .any base t v := hval0
  have hW' := hW
  obtain ⟨p, q, hA0, hV, rfl, hfz, hnd⟩ := hW
  have hA : DataW.TrodAll enc Try.prog W 0 (fun _ => true) true Try.f12.params.toList args.toList ds p := hA0
  rw [Try.params12] at hA hval
  obtain ⟨v0, vs0, d0, ds0, p0, q0, hargs, rfl, rfl, h0, r0⟩ := trodAll_cons hA
  obtain ⟨rfl, rfl, rfl⟩ := trodAll_nil r0
  obtain rfl : args = #[v0] := by cases args; simp_all
  obtain ⟨rfl, rfl⟩ := trodVars_none hV
  obtain ⟨a0, n0, c0, rfl⟩ := okWide_slice Try.underlying22 (hval 0 22 v0 rfl rfl)
  have kk0 := h0
  have lt0 : ∀ x ∈ p0, x.block < W.heap.size := by obtain ⟨m, hm⟩ := kk0; exact DataW.trod_lt m _ _ _ hm
  obtain ⟨l0, e0, g0, w0, b0, bm0⟩ : ∃ l : List Int, l.length = n0 ∧ RdI W W.heap.size .u8 a0 l ∧ (∀ z ∈ l, (Lit.int .u8 z).wf = true) ∧ n0 ≤ c0 ∧ c0 ≤ maxLen := by
    obtain ⟨fuel, hf⟩ := h0
    exact openI Try.underlying22 Try.underlying5 (by kernel_rfl) (by simpa [Value.cells] using hf)
  subst e0
  clear hA0 hval0
  refine (walkFnTiesOf a0 c0 l0 W g0 (wf_bytes w0) b0 (by unfold maxLen at bm0; omega)).mono fun e W' ⟨he, bel⟩ => ?_
  subst he
  exact ⟨_, rfl, _, _, _, [], _, [], hW', trodAll_mk1 (shut_bool Try.underlying4 _), (trodAll_cons_mk (Below.trod laidOut_ (by kernel_rfl) (of_decide_eq_true (by kernel_rfl)) kk0 bel lt0) trodAll_mk0), rfl, bel.frame _, fun h => by cases h⟩

theorem fnTiesOf_holds : Rows.FnTiesOfSaid :=
  OpenClaim.holds_of_wide 12 Try.f12 rfl rfl rfl rfl rfl rfl rfl ⟨rfl, rfl, rfl, rfl, rfl⟩ rfl rfl rfl rfl rfl (by kernel_rfl) Try.func12 (by kernel_rfl)
    (of_decide_eq_true (by kernel_rfl)) (by unfold Func.isWrapper; first | (rw [if_pos (by decide +kernel)]; kernel_rfl) | (rw [if_neg (by decide +kernel)]; exact ⟨rfl, rfl⟩))
    (fun os started H enc _ => liftedFnTiesOf os started H enc)

end Go.Proofs.Ytihkdbgnoncgnaa
