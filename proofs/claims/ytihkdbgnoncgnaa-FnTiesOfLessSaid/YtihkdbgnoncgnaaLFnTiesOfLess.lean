/- The statement FnTiesOfLessSaid: for all arguments the Go function laws.FnTiesOfLess returns true and leaves its arguments as they were. No condition. -/
import Derived.Test.YtihkdbgnoncgnaaTieMore
import Derived.Test.YtihkdbgnoncgnaaJoinTop
import Derived.Test.YtihkdbgnoncgnaaJoinSpec
import Derived.Test.YtihkdbgnoncgnaaJoinLaw
import Derived.Test.YtihkdbgnoncgnaaTop
import Derived.Test.YtihkdbgnoncgnaaMatTop
import Derived.Test.YtihkdbgnoncgnaaIntsMore
import Derived.Test.YtihkdbgnoncgnaaDrawM
import Derived.Test.YtihkdbgnoncgnaaMany
import Derived.Test.YtihkdbgnoncgnaaFrame
namespace Go.Proofs.Ytihkdbgnoncgnaa
open Go.ChangeShapes Go.WideShapes Go.ChangeAt Go.RowKit

set_option maxRecDepth 100000 in
set_option maxHeartbeats 4000000 in
theorem walkFnTiesOfLess (A0 : Option Addr) (c0 : Nat) (l0 : List Int) (A1 : Option Addr) (c1 : Nat) (l1 : List Int) (w : World) (r0 : RdI w w.heap.size .u8 A0 l0) (y0 : ∀ x ∈ l0, 0 ≤ x ∧ x ≤ 255) (k0 : l0.length ≤ c0) (m0 : c0 ≤ 9223372036854775807)  :
    Calls Try.prog 11 #[.slice A0 l0.length c0, .slice A1 l1.length c1] w fun e w' => e = .returned (.bool true) ∧ Below w.heap.size w w' := by
  by_cases z0 : 1048576 < l0.length
  · clear r0 y0
    go_enter Try.func11, Try.ntmps11
    go_wp2_with fail
    go_ret
    exact ⟨rfl, Below.refl _ _⟩
  by_cases z1 : 1048576 < l1.length
  · clear r0 y0
    go_enter Try.func11, Try.ntmps11
    go_wp2_with fail
    go_ret
    exact ⟨rfl, Below.refl _ _⟩
  have Y0 := Lib.hid y0
  clear y0
  go_enter Try.func11, Try.ntmps11
  go_wp2_with fail
  refine (DrawTiesOf_any A0 c0 l0 _ r0 Y0.out (by omega) k0 m0).mono ?_
  rintro e u1 ⟨AL, cL, L, AM, cM, M, t, AN, cN, N, rfl, hL, hM, hN, ⟨ht0, ht1⟩, oL, oM, oN, b1⟩
  have s1 := b1.size
  have t1 := b1
  have rL := Rd.of_own oL
  clear oL
  have rM := Rd.of_own oM
  clear oM
  have rN := RdI.of_own oN
  clear oN
  clear b1
  clear r0
  have hbl := tieV_len L M t N
  go_wp2_with fail
  refine (tiesOf_any AL AM AN cL cM cN (L) (M) t (N) _ rL rM rN (by omega) (by omega)).mono ?_
  rintro e u2 ⟨Ao, co, rfl, oo, b2⟩
  have s2 := b2.size
  have t2 := t1.trans (b2.mono t1.size)
  have rL := rL.to b2
  have rM := rM.to b2
  have rN := rN.to b2
  have ro := Rd.of_own oo
  clear oo
  clear b2 t1
  go_wp2_with fail
  refine (specTiesOf_any AL AM AN cL cM cN (L) (M) t (N) _ rL rM rN (by omega) (by omega)).mono ?_
  rintro e u3 ⟨Aw, cw, rfl, ow, b3⟩
  have s3 := b3.size
  have t3 := t2.trans (b3.mono t2.size)
  have rL := rL.to b3
  have rM := rM.to b3
  have rN := rN.to b3
  have ro := ro.to b3
  have rw := Rd.of_own ow
  clear ow
  clear b3 t2
  go_wp2_with fail
  generalize hok : (okV L M t N) = ok
  cases ok with
  | false =>
    go_wp2_with fail
    refine (sameTies_any Ao Aw co cw (tieV L M t N) (tieV L M t N) _ ro rw (by omega)).mono ?_
    rintro e u4 ⟨rfl, b4⟩
    have s4 := b4.size
    have t4 := t3.trans (b4.mono t3.size)
    have rL := rL.to b4
    have rM := rM.to b4
    have rN := rN.to b4
    have ro := ro.to b4
    have rw := rw.to b4
    clear b4 t3
    go_wp2_with fail
    refine (sameTies_any Ao Aw co cw (tieV L M t N) (tieV L M t N) _ ro rw (by omega)).mono ?_
    rintro e u5 ⟨rfl, b5⟩
    have s5 := b5.size
    have t5 := t4.trans (b5.mono t4.size)
    have rL := rL.to b5
    have rM := rM.to b5
    have rN := rN.to b5
    have ro := ro.to b5
    have rw := rw.to b5
    clear b5 t4
    go_wp2_with fail
    go_ret
    exact ⟨ret_bool (by simp), t5⟩
  | true =>
    go_wp2_with fail
    refine (sameTies_any Ao Aw co cw (tieV L M t N) (tieV L M t N) _ ro rw (by omega)).mono ?_
    rintro e u4 ⟨rfl, b4⟩
    have s4 := b4.size
    have t4 := t3.trans (b4.mono t3.size)
    have rL := rL.to b4
    have rM := rM.to b4
    have rN := rN.to b4
    have ro := ro.to b4
    have rw := rw.to b4
    clear b4 t3
    clear rw
    have HV : ∀ x, okV L M t x = true → (∀ p ∈ tieV L M t x, p ∈ tieV L M t N) → okV L M t x = true ∧ fitV (tieV L M t N) (tieV L M t x) = true ∧ jOk (tieV L M t N) (tieV L M t x) = true ∧ jL (tieV L M t N) (tieV L M t x) = tieV L M t N := fun x h1 h2 => ⟨h1, join_sub (tie_tv hok) (tie_tv h1) h2⟩
    have H0 := Lib.hid (HV N hok fun _ h => h)
    have H1 := Lib.hid (fun i => HV (putI N i (-1)) (tie_less hok i).1 (tie_less hok i).2)
    clear HV hok
    have o0 : (u4.alloc (.cells #[] 3)).ownsRow u4.heap.size 3 1 (.slice (some ⟨u4.heap.size, 0, none⟩) 0 0) ([] : List Int).length (cells1 .i64 []) := World.ownsRow_made u4 #[] 0 (Nat.le_refl _) (by decide) rfl
    have b0 : Below u4.heap.size u4 (u4.alloc (.cells #[] 3)) := (Below.refl _ _).alloc (Nat.le_refl _) _
    have rD := rN.to b0
    have hnD : ([] : List Int).length + N.length ≤ 4294967296 := by simp only [List.length_nil]; omega
    by_cases hz : N.length = 0
    · have g0 : decide (0 < N.length) = false := decide_eq_false (by omega)
      have g00 : decide ((0 : Int) < (N.length : Int)) = false := decide_eq_false (by omega)
      have HZ := Lib.hid hz
      clear hz
      go_wp2_with (at_builtin; refine wpList_appMany1 rfl _ _ _ rfl Try.underlying42 infoI64 rfl o0 b0.size rfl rD hnD ?_; intro v1 w1 o1 hg1 hat1; have b1 : Below u4.heap.size u4 w1 := b0.grown hg1 b0.size fun k hk => (o0.lt k hk).1; rw [List.nil_append] at o1; obtain ⟨AX, cX, hvx⟩ := own_shape o1; subst hvx)
      have rX := RdI.of_own o1
      have t5 := t4.trans (b1.mono t4.size)
      have rL := rL.to b1
      have rM := rM.to b1
      have rN := rN.to b1
      have ro := ro.to b1
      have s5 := b1.size
      clear o0 b0 rD o1 hg1 hat1 b1 t4
      revert rX t5 rL rM rN ro s5
      generalize w1 = u5
      intro rX t5 rL rM rN ro s5
      go_wp2_with fail
      have X1 := tiesOf_any AL AM AX cL cM cX L M t (N) u5 rL rM rX (by omega) (by omega)
      have hy := tieV_len L M t (N)
      obtain ⟨q1, q2, q3, q4⟩ := H0.out
      rw [q1] at X1
      have Q2 := Lib.hid q2
      have Q3 := Lib.hid q3
      have Q4 := Lib.hid q4
      clear q1 q2 q3 q4 H0 H1
      skip
      refine X1.mono ?_
      rintro e u6 ⟨Ay, cy, rfl, oy, b6⟩
      have t6 := t5.trans (b6.mono t5.size)
      have s6 := b6.size
      have rL := rL.to b6
      have rM := rM.to b6
      have rN := rN.to b6
      have ro := ro.to b6
      have ry := Rd.of_own oy
      clear X1 rX oy b6
      go_wp2_with fail
      refine (tiesJoin_any Ao Ay co cy (tieV L M t N) (tieV L M t N) _ ro ry (by omega) (by omega)).mono ?_
      rintro e u7 ⟨Az, rfl, oz, b7⟩
      have s7 := b7.size
      have t7 := t6.trans (b7.mono t6.size)
      have rL := rL.to b7
      have rM := rM.to b7
      have ro := ro.to b7
      have ry := ry.to b7
      clear b7 t6
      have rz := oz.rd
      clear oz
      rw [Q4.out] at rz ⊢
      rw [Q3.out]
      go_wp2_with fail
      refine (tiesFit_any Ao Ay co cy (tieV L M t N) (tieV L M t N) _ ro ry (by omega) (by omega)).mono ?_
      rintro e u8 ⟨rfl, b8⟩
      have s8 := b8.size
      have t8 := t7.trans (b8.mono t7.size)
      have rL := rL.to b8
      have rM := rM.to b8
      have ro := ro.to b8
      have ry := ry.to b8
      have rz := rz.to b8
      clear b8 t7
      rw [Q2.out]
      go_wp2_with fail
      refine (sameTies_any Az Ao (tieV L M t N).length co (tieV L M t N) (tieV L M t N) _ rz ro (by omega)).mono ?_
      rintro e u9 ⟨rfl, b9⟩
      have s9 := b9.size
      have t9 := t8.trans (b9.mono t8.size)
      have rL := rL.to b9
      have rM := rM.to b9
      have ro := ro.to b9
      have ry := ry.to b9
      have rz := rz.to b9
      clear b9 t8
      go_wp2_with fail
      go_ret
      exact ⟨ret_bool (by first | rfl | simp), t9⟩
    · have hi : l1.length % N.length < N.length := Nat.mod_lt _ (by omega)
      have g0 : decide (0 < N.length) = true := decide_eq_true (by omega)
      have hi1 : (0 : Int) ≤ (l1.length : Int) % (N.length : Int) ∧ (l1.length : Int) % (N.length : Int) < (N.length : Int) := ⟨Int.emod_nonneg _ (by omega), Int.emod_lt_of_pos _ (by omega)⟩
      have hi3 : (1 : Int) ≤ (N.length : Int) := by omega
      go_wp2_with (at_builtin; refine wpList_appMany1 rfl _ _ _ rfl Try.underlying42 infoI64 rfl o0 b0.size rfl rD hnD ?_; intro v1 w1 o1 hg1 hat1; have b1 : Below u4.heap.size u4 w1 := b0.grown hg1 b0.size fun k hk => (o0.lt k hk).1; rw [List.nil_append] at o1; obtain ⟨gx, cX, hvx, hgx, hgxl⟩ := o1.form (by omega); subst hvx; have qx := (o1.cellAt (l1.length % N.length) (by omega)).trans (cells1_get .i64 N (l1.length % N.length) hi); have fx := o1.frozenAt (l1.length % N.length))
      obtain ⟨oX0, _⟩ := o1.stored (l1.length % N.length) (.int .i64 (-1))
      rw [← cells1_putI] at oX0
      have rX := RdI.of_own' oX0 (by rw [length_putI])
      have bz := b1.setCell (p := ⟨gx, l1.length % N.length, none⟩) (by exact hgx) (.int .i64 (-1))
      generalize w1.setCell ⟨gx, l1.length % N.length, none⟩ (.int .i64 (-1)) = u5 at rX bz ⊢
      have t5 := t4.trans (bz.mono t4.size)
      have rL := rL.to bz
      have rM := rM.to bz
      have rN := rN.to bz
      have ro := ro.to bz
      have s5 := bz.size
      clear o0 b0 rD o1 hg1 hat1 b1 qx fx oX0 bz t4
      generalize hAX : (some ⟨gx, 0, none⟩ : Option Addr) = AX at rX ⊢
      clear hAX
      go_wp2_with fail
      have X1 := tiesOf_any AL AM AX cL cM cX L M t (putI N (l1.length % N.length) (-1)) u5 rL rM rX (by omega) (by omega)
      have hy := tieV_len L M t (putI N (l1.length % N.length) (-1))
      obtain ⟨q1, q2, q3, q4⟩ := (show Hid _ from Lib.hid (H1.out (l1.length % N.length))).out
      rw [length_putI, q1] at X1
      have Q2 := Lib.hid q2
      have Q3 := Lib.hid q3
      have Q4 := Lib.hid q4
      clear q1 q2 q3 q4 H0 H1
      generalize tieV L M t (putI N (l1.length % N.length) (-1)) = Y at *
      refine X1.mono ?_
      rintro e u6 ⟨Ay, cy, rfl, oy, b6⟩
      have t6 := t5.trans (b6.mono t5.size)
      have s6 := b6.size
      have rL := rL.to b6
      have rM := rM.to b6
      have rN := rN.to b6
      have ro := ro.to b6
      have ry := Rd.of_own oy
      clear X1 rX oy b6
      go_wp2_with fail
      refine (tiesJoin_any Ao Ay co cy (tieV L M t N) (Y) _ ro ry (by omega) (by omega)).mono ?_
      rintro e u7 ⟨Az, rfl, oz, b7⟩
      have s7 := b7.size
      have t7 := t6.trans (b7.mono t6.size)
      have rL := rL.to b7
      have rM := rM.to b7
      have ro := ro.to b7
      have ry := ry.to b7
      clear b7 t6
      have rz := oz.rd
      clear oz
      rw [Q4.out] at rz ⊢
      rw [Q3.out]
      go_wp2_with fail
      refine (tiesFit_any Ao Ay co cy (tieV L M t N) (Y) _ ro ry (by omega) (by omega)).mono ?_
      rintro e u8 ⟨rfl, b8⟩
      have s8 := b8.size
      have t8 := t7.trans (b8.mono t7.size)
      have rL := rL.to b8
      have rM := rM.to b8
      have ro := ro.to b8
      have ry := ry.to b8
      have rz := rz.to b8
      clear b8 t7
      rw [Q2.out]
      go_wp2_with fail
      refine (sameTies_any Az Ao (tieV L M t N).length co (tieV L M t N) (tieV L M t N) _ rz ro (by omega)).mono ?_
      rintro e u9 ⟨rfl, b9⟩
      have s9 := b9.size
      have t9 := t8.trans (b9.mono t8.size)
      have rL := rL.to b9
      have rM := rM.to b9
      have ro := ro.to b9
      have ry := ry.to b9
      have rz := rz.to b9
      clear b9 t8
      go_wp2_with fail
      go_ret
      exact ⟨ret_bool (by first | rfl | simp), t9⟩

set_option maxRecDepth 100000 in
theorem liftedFnTiesOfLess (os : Os) (started : os.Started) (H : Type) (enc : TypeId × Value → H) :
    ReturnsInHanded {} Try.checked os 11 .any (Rows.fnTiesOfLessSpec.pre6 enc Try.prog Try.f11 Rows.fnTiesOfLessRow.domain false) (Rows.fnTiesOfLessSpec.post enc Try.prog Try.f11 false true false false) := by
  refine returnsInHanded_of_change (C := Try.checked) own_ started (by kernel_rfl) Try.func11
    (ChangeSpec.witness6 (enc := enc) (C := Try.checked) false ⟨#[], #[.slice none 0 0, .slice none 0 0], []⟩ 8 (by kernel_rfl) (by kernel_rfl) (by kernel_rfl) (by kernel_rfl)) ?_
  intro W base args ds gs before hval0 hW hcnd _
  have hval : ∀ (j : Nat) t v, Try.f11.params[j]? = some t → args[j]? = some v → Value.okWide Try.prog W .any base t v := hval0
  have hW' := hW
  obtain ⟨p, q, hA0, hV, rfl, hfz, hnd⟩ := hW
  have hA : DataW.TrodAll enc Try.prog W 0 (fun _ => true) true Try.f11.params.toList args.toList ds p := hA0
  rw [Try.params11] at hA hval
  obtain ⟨v0, vs0, d0, ds0, p0, q0, hargs, rfl, rfl, h0, r0⟩ := trodAll_cons hA
  obtain ⟨v1, vs1, d1, ds1, p1, q1, rfl, rfl, rfl, h1, r1⟩ := trodAll_cons r0
  obtain ⟨rfl, rfl, rfl⟩ := trodAll_nil r1
  obtain rfl : args = #[v0, v1] := by cases args; simp_all
  obtain ⟨rfl, rfl⟩ := trodVars_none hV
  obtain ⟨a0, n0, c0, rfl⟩ := okWide_slice Try.underlying22 (hval 0 22 v0 rfl rfl)
  have kk0 := h0
  have lt0 : ∀ x ∈ p0, x.block < W.heap.size := by obtain ⟨m, hm⟩ := kk0; exact DataW.trod_lt m _ _ _ hm
  obtain ⟨l0, e0, g0, w0, b0, bm0⟩ : ∃ l : List Int, l.length = n0 ∧ RdI W W.heap.size .u8 a0 l ∧ (∀ z ∈ l, (Lit.int .u8 z).wf = true) ∧ n0 ≤ c0 ∧ c0 ≤ maxLen := by
    obtain ⟨fuel, hf⟩ := h0
    exact openI Try.underlying22 Try.underlying5 (by kernel_rfl) (by simpa [Value.cells] using hf)
  subst e0
  obtain ⟨a1, n1, c1, rfl⟩ := okWide_slice Try.underlying22 (hval 1 22 v1 rfl rfl)
  have kk1 := h1
  have lt1 : ∀ x ∈ p1, x.block < W.heap.size := by obtain ⟨m, hm⟩ := kk1; exact DataW.trod_lt m _ _ _ hm
  obtain ⟨l1, e1, g1, w1, b1, bm1⟩ : ∃ l : List Int, l.length = n1 ∧ RdI W W.heap.size .u8 a1 l ∧ (∀ z ∈ l, (Lit.int .u8 z).wf = true) ∧ n1 ≤ c1 ∧ c1 ≤ maxLen := by
    obtain ⟨fuel, hf⟩ := h1
    exact openI Try.underlying22 Try.underlying5 (by kernel_rfl) (by simpa [Value.cells] using hf)
  subst e1
  clear hA0 hval0
  refine (walkFnTiesOfLess a0 c0 l0 a1 c1 l1 W g0 (wf_bytes w0) b0 (by unfold maxLen at bm0; omega)).mono fun e W' ⟨he, bel⟩ => ?_
  subst he
  exact ⟨_, rfl, _, _, _, [], _, [], hW', trodAll_mk1 (shut_bool Try.underlying4 _), (trodAll_cons_mk (Below.trod laidOut_ (by kernel_rfl) (of_decide_eq_true (by kernel_rfl)) kk0 bel lt0) (trodAll_cons_mk (Below.trod laidOut_ (by kernel_rfl) (of_decide_eq_true (by kernel_rfl)) kk1 bel lt1) trodAll_mk0)), rfl, bel.frame _, fun h => by cases h⟩

theorem fnTiesOfLess_holds : Rows.FnTiesOfLessSaid :=
  OpenClaim.holds_of_wide 11 Try.f11 rfl rfl rfl rfl rfl rfl rfl ⟨rfl, rfl, rfl, rfl, rfl⟩ rfl rfl rfl rfl rfl (by kernel_rfl) Try.func11 (by kernel_rfl)
    (of_decide_eq_true (by kernel_rfl)) (by unfold Func.isWrapper; first | (rw [if_pos (by decide +kernel)]; kernel_rfl) | (rw [if_neg (by decide +kernel)]; exact ⟨rfl, rfl⟩))
    (fun os started H enc _ => liftedFnTiesOfLess os started H enc)

end Go.Proofs.Ytihkdbgnoncgnaa
