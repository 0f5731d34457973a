/- The statement FnMatchSaid: for all arguments the Go function laws.FnMatch returns true and leaves its arguments as they were. No condition. -/
import Derived.Test.YtgfahnmkfgfibaaMatchOk
import Derived.Test.YtgfahnmkfgfibaaMatTop
import Derived.Test.YtgfahnmkfgfibaaIntsMore
import Derived.Test.YtgfahnmkfgfibaaDrawM
import Derived.Test.YtgfahnmkfgfibaaFrame
namespace Go.Proofs.Ytgfahnmkfgfibaa
open Go.ChangeShapes Go.WideShapes Go.ChangeAt Go.RowKit

set_option maxRecDepth 100000 in
set_option maxHeartbeats 4000000 in
theorem walkFnMatch (A0 : Option Addr) (c0 : Nat) (l0 : List Int) (A1 : Option Addr) (c1 : Nat) (l1 : List Int) (w : World) (r0 : RdI w w.heap.size .u8 A0 l0) (y0 : ∀ x ∈ l0, 0 ≤ x ∧ x ≤ 255) (k0 : l0.length ≤ c0) (m0 : c0 ≤ 9223372036854775807)  :
    Calls Try.prog 5 #[.slice A0 l0.length c0, .slice A1 l1.length c1] w fun e w' => e = .returned (.bool true) ∧ Below w.heap.size w w' := by
  by_cases z0 : 1048576 < l0.length
  · clear r0 y0
    go_enter Try.func5, Try.ntmps5
    go_wp2_with fail
    go_ret
    exact ⟨rfl, Below.refl _ _⟩
  by_cases z1 : 1048576 < l1.length
  · clear r0 y0
    go_enter Try.func5, Try.ntmps5
    go_wp2_with fail
    go_ret
    exact ⟨rfl, Below.refl _ _⟩
  have Y0 := Lib.hid y0
  clear y0
  go_enter Try.func5, Try.ntmps5
  go_wp2_with fail
  refine (DrawMatchOk_any A0 c0 l0 _ r0 Y0.out (by omega) k0 m0).mono ?_
  rintro e u1 ⟨AL, cL, L, AM, cM, M, t, AN, cN, N, rfl, hL, hM, hN, ⟨ht0, ht1⟩, oL, oM, oN, b1⟩
  have s1 := b1.size
  have t1 := b1
  have rL := Rd.of_own oL
  clear oL
  have rM := Rd.of_own oM
  clear oM
  have rN := RdI.of_own oN
  clear oN
  clear b1
  clear r0
  go_wp2_with fail
  refine (matchOk_any AL AM AN cL cM cN (L) (M) t (N) _ rL rM rN (by omega) (by omega)).mono ?_
  rintro e u2 ⟨rfl, b2⟩
  have s2 := b2.size
  have t2 := t1.trans (b2.mono t1.size)
  have rL := rL.to b2
  have rM := rM.to b2
  have rN := rN.to b2
  clear b2 t1
  go_wp2_with fail
  refine (specMatchOk_any AL AM AN cL cM cN (L) (M) t (N) _ rL rM rN (by omega) (by omega)).mono ?_
  rintro e u3 ⟨rfl, b3⟩
  have s3 := b3.size
  have t3 := t2.trans (b3.mono t2.size)
  have rL := rL.to b3
  have rM := rM.to b3
  have rN := rN.to b3
  clear b3 t2
  cases hok : okV L M t N with
  | false =>
    go_wp2_with fail
    go_ret
    exact ⟨ret_bool (by simp), t3⟩
  | true =>
    have HOK := Lib.hid hok
    have h1 := (okV_parts hok).1
    obtain ⟨_, _, f1, f2⟩ := mtb_parts h1
    have E1 := Lib.hid (fun j => okV_drop hok j)
    have E2 := Lib.hid (fun h => okV_more hok h)
    have E3 := Lib.hid (okV_none h1)
    clear hok h1
    have o0 : (u3.alloc (.cells #[] 3)).ownsRow u3.heap.size 3 1 (.slice (some ⟨u3.heap.size, 0, none⟩) 0 0) ([] : List Int).length (cells1 .i64 []) := World.ownsRow_made u3 #[] 0 (Nat.le_refl _) (by decide) rfl
    have b0 : Below u3.heap.size u3 (u3.alloc (.cells #[] 3)) := (Below.refl _ _).alloc (Nat.le_refl _) _
    have rD := rN.to b0
    have hnD : ([] : List Int).length + N.length ≤ 4294967296 := by simp only [List.length_nil]; omega
    by_cases hz : N.length = 0
    · have g0 : decide (0 < N.length) = false := decide_eq_false (by omega)
      have g00 : decide ((0 : Int) < (N.length : Int)) = false := decide_eq_false (by omega)
      have HZ := Lib.hid hz
      clear hz
      go_wp2_with (at_builtin; refine wpList_appMany1 rfl _ _ _ rfl Try.underlying27 infoI64 rfl o0 b0.size rfl rD hnD ?_; intro v1 w1 o1 hg1 hat1; have b1 : Below u3.heap.size u3 w1 := b0.grown hg1 b0.size fun k hk => (o0.lt k hk).1; rw [List.nil_append] at o1; obtain ⟨AX, cX, hvx⟩ := own_shape o1; subst hvx)
      have rX := RdI.of_own o1
      have t4 := t3.trans (b1.mono t3.size)
      have rL := rL.to b1
      have rM := rM.to b1
      have rN := rN.to b1
      have s4 := b1.size
      have EN := Lib.hid HOK.out
      clear o0 b0 rD o1 hg1 hat1 b1 t3
      skip
      revert rX t4 rL rM rN s4
      generalize w1 = u4
      intro rX t4 rL rM rN s4
      go_wp2_with fail
      have X1 := matchOk_any AL AM AX cL cM cX L M t (N) u4 rL rM rX (by omega) (by omega)
      rw [HOK.out] at X1
      refine X1.mono ?_
      rintro e u5 ⟨rfl, b5⟩
      have t5 := t4.trans (b5.mono t4.size)
      have rL := rL.to b5
      have rM := rM.to b5
      have rN := rN.to b5
      clear X1 rX
      by_cases ht : t = 1000
      · have g1 : (t == 1000) = true := by simp [ht]
        have HT := Lib.hid ht
        clear ht
        go_wp2_with fail
        refine (none_any L.length _ (by omega)).mono ?_
        rintro e u6 ⟨AZ, cZ, rfl, oZ, b6⟩
        have s6 := b6.size
        have t6 := t5.trans (b6.mono t5.size)
        have rL := rL.to b6
        have rM := rM.to b6
        have rN := rN.to b6
        have rZ := RdI.of_own oZ
        clear oZ
        clear b6 t5
        have hlz := length_noneL L.length
        rw [hlz]
        go_wp2_with fail
        have X2 := matchOk_any AL AM AZ cL cM cZ L M t (noneL L.length) u6 rL rM rZ (by omega) (by omega)
        rw [hlz, E3.out] at X2
        refine X2.mono ?_
        rintro e u7 ⟨rfl, b7⟩
        have t7 := t6.trans (b7.mono t6.size)
        go_wp2_with fail
        all_goals
          go_ret
          exact ⟨ret_bool (rfl), t7⟩
      · have g1 : (t == 1000) = false := by simpa using ht
        have e2 := E2.out (by omega)
        have EE := Lib.hid e2
        clear e2
        go_wp2_with fail
        refine (matchOk_any AL AM AN cL cM cN (L) (M) (t + 1) (N) _ rL rM rN (by omega) (by omega)).mono ?_
        rintro e u6 ⟨rfl, b6⟩
        have s6 := b6.size
        have t6 := t5.trans (b6.mono t5.size)
        have rL := rL.to b6
        have rM := rM.to b6
        have rN := rN.to b6
        clear b6 t5
        rw [EE.out]
        go_wp2_with fail
        refine (none_any L.length _ (by omega)).mono ?_
        rintro e u7 ⟨AZ, cZ, rfl, oZ, b7⟩
        have s7 := b7.size
        have t7 := t6.trans (b7.mono t6.size)
        have rL := rL.to b7
        have rM := rM.to b7
        have rN := rN.to b7
        have rZ := RdI.of_own oZ
        clear oZ
        clear b7 t6
        have hlz := length_noneL L.length
        rw [hlz]
        go_wp2_with fail
        have X2 := matchOk_any AL AM AZ cL cM cZ L M t (noneL L.length) u7 rL rM rZ (by omega) (by omega)
        rw [hlz, E3.out] at X2
        refine X2.mono ?_
        rintro e u8 ⟨rfl, b8⟩
        have t8 := t7.trans (b8.mono t7.size)
        go_wp2_with fail
        all_goals
          go_ret
          exact ⟨ret_bool (rfl), t8⟩
    · have hi : l1.length % N.length < N.length := Nat.mod_lt _ (by omega)
      have g0 : decide (0 < N.length) = true := decide_eq_true (by omega)
      have hi1 : (0 : Int) ≤ (l1.length : Int) % (N.length : Int) ∧ (l1.length : Int) % (N.length : Int) < (N.length : Int) := ⟨Int.emod_nonneg _ (by omega), Int.emod_lt_of_pos _ (by omega)⟩
      have hi3 : (1 : Int) ≤ (N.length : Int) := by omega
      go_wp2_with (at_builtin; refine wpList_appMany1 rfl _ _ _ rfl Try.underlying27 infoI64 rfl o0 b0.size rfl rD hnD ?_; intro v1 w1 o1 hg1 hat1; have b1 : Below u3.heap.size u3 w1 := b0.grown hg1 b0.size fun k hk => (o0.lt k hk).1; rw [List.nil_append] at o1; obtain ⟨gx, cX, hvx, hgx, hgxl⟩ := o1.form (by omega); subst hvx; have qx := (o1.cellAt (l1.length % N.length) (by omega)).trans (cells1_get .i64 N (l1.length % N.length) hi); have fx := o1.frozenAt (l1.length % N.length))
      obtain ⟨oX0, _⟩ := o1.stored (l1.length % N.length) (.int .i64 (-1))
      rw [← cells1_putI] at oX0
      have rX := RdI.of_own' oX0 (by rw [length_putI])
      have bz := b1.setCell (p := ⟨gx, l1.length % N.length, none⟩) (by exact hgx) (.int .i64 (-1))
      generalize w1.setCell ⟨gx, l1.length % N.length, none⟩ (.int .i64 (-1)) = u4 at rX bz ⊢
      have t4 := t3.trans (bz.mono t3.size)
      have rL := rL.to bz
      have rM := rM.to bz
      have rN := rN.to bz
      have s4 := bz.size
      clear o0 b0 rD o1 hg1 hat1 b1 qx fx oX0 bz t3
      generalize hAX : (some ⟨gx, 0, none⟩ : Option Addr) = AX at rX ⊢
      clear hAX
      go_wp2_with fail
      have X1 := matchOk_any AL AM AX cL cM cX L M t (putI N (l1.length % N.length) (-1)) u4 rL rM rX (by omega) (by omega)
      rw [length_putI, E1.out] at X1
      refine X1.mono ?_
      rintro e u5 ⟨rfl, b5⟩
      have t5 := t4.trans (b5.mono t4.size)
      have rL := rL.to b5
      have rM := rM.to b5
      have rN := rN.to b5
      clear X1 rX
      by_cases ht : t = 1000
      · have g1 : (t == 1000) = true := by simp [ht]
        have HT := Lib.hid ht
        clear ht
        go_wp2_with fail
        refine (none_any L.length _ (by omega)).mono ?_
        rintro e u6 ⟨AZ, cZ, rfl, oZ, b6⟩
        have s6 := b6.size
        have t6 := t5.trans (b6.mono t5.size)
        have rL := rL.to b6
        have rM := rM.to b6
        have rN := rN.to b6
        have rZ := RdI.of_own oZ
        clear oZ
        clear b6 t5
        have hlz := length_noneL L.length
        rw [hlz]
        go_wp2_with fail
        have X2 := matchOk_any AL AM AZ cL cM cZ L M t (noneL L.length) u6 rL rM rZ (by omega) (by omega)
        rw [hlz, E3.out] at X2
        refine X2.mono ?_
        rintro e u7 ⟨rfl, b7⟩
        have t7 := t6.trans (b7.mono t6.size)
        go_wp2_with fail
        all_goals
          go_ret
          exact ⟨ret_bool (rfl), t7⟩
      · have g1 : (t == 1000) = false := by simpa using ht
        have e2 := E2.out (by omega)
        have EE := Lib.hid e2
        clear e2
        go_wp2_with fail
        refine (matchOk_any AL AM AN cL cM cN (L) (M) (t + 1) (N) _ rL rM rN (by omega) (by omega)).mono ?_
        rintro e u6 ⟨rfl, b6⟩
        have s6 := b6.size
        have t6 := t5.trans (b6.mono t5.size)
        have rL := rL.to b6
        have rM := rM.to b6
        have rN := rN.to b6
        clear b6 t5
        rw [EE.out]
        go_wp2_with fail
        refine (none_any L.length _ (by omega)).mono ?_
        rintro e u7 ⟨AZ, cZ, rfl, oZ, b7⟩
        have s7 := b7.size
        have t7 := t6.trans (b7.mono t6.size)
        have rL := rL.to b7
        have rM := rM.to b7
        have rN := rN.to b7
        have rZ := RdI.of_own oZ
        clear oZ
        clear b7 t6
        have hlz := length_noneL L.length
        rw [hlz]
        go_wp2_with fail
        have X2 := matchOk_any AL AM AZ cL cM cZ L M t (noneL L.length) u7 rL rM rZ (by omega) (by omega)
        rw [hlz, E3.out] at X2
        refine X2.mono ?_
        rintro e u8 ⟨rfl, b8⟩
        have t8 := t7.trans (b8.mono t7.size)
        go_wp2_with fail
        all_goals
          go_ret
          exact ⟨ret_bool (rfl), t8⟩

set_option maxRecDepth 100000 in
theorem liftedFnMatch (os : Os) (started : os.Started) (H : Type) (enc : TypeId × Value → H) :
    ReturnsInHanded {} Try.checked os 5 .any (Rows.fnMatchSpec.pre6 enc Try.prog Try.f5 Rows.fnMatchRow.domain false) (Rows.fnMatchSpec.post enc Try.prog Try.f5 false true false false) := by
  refine returnsInHanded_of_change (C := Try.checked) own_ started (by kernel_rfl) Try.func5
    (ChangeSpec.witness6 (enc := enc) (C := Try.checked) false ⟨#[], #[.slice none 0 0, .slice none 0 0], []⟩ 8 (by kernel_rfl) (by kernel_rfl) (by kernel_rfl) (by kernel_rfl)) ?_
  intro W base args ds gs before hval0 hW hcnd _
  have hval : ∀ (j : Nat) t v, Try.f5.params[j]? = some t → args[j]? = some v → Value.okWide Try.prog W .any base t v := hval0
  have hW' := hW
  obtain ⟨p, q, hA0, hV, rfl, hfz, hnd⟩ := hW
  have hA : DataW.TrodAll enc Try.prog W 0 (fun _ => true) true Try.f5.params.toList args.toList ds p := hA0
  rw [Try.params5] at hA hval
  obtain ⟨v0, vs0, d0, ds0, p0, q0, hargs, rfl, rfl, h0, r0⟩ := trodAll_cons hA
  obtain ⟨v1, vs1, d1, ds1, p1, q1, rfl, rfl, rfl, h1, r1⟩ := trodAll_cons r0
  obtain ⟨rfl, rfl, rfl⟩ := trodAll_nil r1
  obtain rfl : args = #[v0, v1] := by cases args; simp_all
  obtain ⟨rfl, rfl⟩ := trodVars_none hV
  obtain ⟨a0, n0, c0, rfl⟩ := okWide_slice Try.underlying22 (hval 0 22 v0 rfl rfl)
  have kk0 := h0
  have lt0 : ∀ x ∈ p0, x.block < W.heap.size := by obtain ⟨m, hm⟩ := kk0; exact DataW.trod_lt m _ _ _ hm
  obtain ⟨l0, e0, g0, w0, b0, bm0⟩ : ∃ l : List Int, l.length = n0 ∧ RdI W W.heap.size .u8 a0 l ∧ (∀ z ∈ l, (Lit.int .u8 z).wf = true) ∧ n0 ≤ c0 ∧ c0 ≤ maxLen := by
    obtain ⟨fuel, hf⟩ := h0
    exact openI Try.underlying22 Try.underlying5 (by kernel_rfl) (by simpa [Value.cells] using hf)
  subst e0
  obtain ⟨a1, n1, c1, rfl⟩ := okWide_slice Try.underlying22 (hval 1 22 v1 rfl rfl)
  have kk1 := h1
  have lt1 : ∀ x ∈ p1, x.block < W.heap.size := by obtain ⟨m, hm⟩ := kk1; exact DataW.trod_lt m _ _ _ hm
  obtain ⟨l1, e1, g1, w1, b1, bm1⟩ : ∃ l : List Int, l.length = n1 ∧ RdI W W.heap.size .u8 a1 l ∧ (∀ z ∈ l, (Lit.int .u8 z).wf = true) ∧ n1 ≤ c1 ∧ c1 ≤ maxLen := by
    obtain ⟨fuel, hf⟩ := h1
    exact openI Try.underlying22 Try.underlying5 (by kernel_rfl) (by simpa [Value.cells] using hf)
  subst e1
  clear hA0 hval0
  refine (walkFnMatch a0 c0 l0 a1 c1 l1 W g0 (wf_bytes w0) b0 (by unfold maxLen at bm0; omega)).mono fun e W' ⟨he, bel⟩ => ?_
  subst he
  exact ⟨_, rfl, _, _, _, [], _, [], hW', trodAll_mk1 (shut_bool Try.underlying4 _), (trodAll_cons_mk (Below.trod laidOut_ (by kernel_rfl) (of_decide_eq_true (by kernel_rfl)) kk0 bel lt0) (trodAll_cons_mk (Below.trod laidOut_ (by kernel_rfl) (of_decide_eq_true (by kernel_rfl)) kk1 bel lt1) trodAll_mk0)), rfl, bel.frame _, fun h => by cases h⟩

theorem fnMatch_holds : Rows.FnMatchSaid :=
  OpenClaim.holds_of_wide 5 Try.f5 rfl rfl rfl rfl rfl rfl rfl ⟨rfl, rfl, rfl, rfl, rfl⟩ rfl rfl rfl rfl rfl (by kernel_rfl) Try.func5 (by kernel_rfl)
    (of_decide_eq_true (by kernel_rfl)) (by unfold Func.isWrapper; first | (rw [if_pos (by decide +kernel)]; kernel_rfl) | (rw [if_neg (by decide +kernel)]; exact ⟨rfl, rfl⟩))
    (fun os started H enc _ => liftedFnMatch os started H enc)

end Go.Proofs.Ytgfahnmkfgfibaa
