/- The statement FnBestMoreSaid: for all arguments the Go function laws.FnBestMore returns true and leaves its arguments as they were. No condition. -/
import Derived.Test.YtbdhnfligfpigaaCBest
import Derived.Test.YtbdhnfligfpigaaCBestS
import Derived.Test.YtbdhnfligfpigaaDrawC
import Derived.Test.YtbdhnfligfpigaaCutAdd
import Derived.Test.YtbdhnfligfpigaaInts
import Derived.Test.YtbdhnfligfpigaaIntsMore
import Derived.Test.YtbdhnfligfpigaaMore
import Derived.Test.YtbdhnfligfpigaaFrame
namespace Go.Proofs.Ytbdhnfligfpigaa
open Go.ChangeShapes Go.WideShapes Go.ChangeAt Go.RowKit

set_option maxRecDepth 100000 in
set_option maxHeartbeats 4000000 in
theorem walkFnBestMore (A0 : Option Addr) (c0 : Nat) (l0 : List Int) (A1 : Option Addr) (c1 : Nat) (l1 : List Int) (w : World) (r0 : RdI w w.heap.size .u8 A0 l0) (y0 : ∀ x ∈ l0, 0 ≤ x ∧ x ≤ 255) (k0 : l0.length ≤ c0) (m0 : c0 ≤ 9223372036854775807)  :
    Calls Try.prog 13 #[.slice A0 l0.length c0, .slice A1 l1.length c1] w fun e w' => e = .returned (.bool true) ∧ Below w.heap.size w w' := by
  by_cases z0 : 1048576 < l0.length
  · clear r0 y0
    go_enter Try.func13, Try.ntmps13
    go_wp2_with fail
    go_ret
    exact ⟨rfl, Below.refl _ _⟩
  by_cases z1 : 1048576 < l1.length
  · clear r0 y0
    go_enter Try.func13, Try.ntmps13
    go_wp2_with fail
    go_ret
    exact ⟨rfl, Below.refl _ _⟩
  have Y0 := Lib.hid y0
  clear y0
  go_enter Try.func13, Try.ntmps13
  go_wp2_with fail
  refine (DrawCutsBest_any A0 c0 l0 _ r0 Y0.out (by omega) k0 m0).mono ?_
  rintro e u1 ⟨AL, cL, L, lo, hi, rfl, hL, hsm, ⟨lo0, lo1⟩, ⟨hi0, hi1⟩, oL, b1⟩
  have s1 := b1.size
  have t1 := b1
  have wL := own_cap oL
  have rL := RdI.of_own oL
  clear oL
  clear b1
  clear r0
  have hbl := bestC_len L lo hi
  go_wp2_with fail
  refine (cutsBest_any AL cL (L) lo hi _ rL (by omega)).mono ?_
  rintro e u2 ⟨Ao, co, rfl, oo, b2⟩
  have s2 := b2.size
  have t2 := t1.trans (b2.mono t1.size)
  have rL := rL.to b2
  have wo := own_cap oo
  have ro := RdI.of_own oo
  clear oo
  clear b2 t1
  go_wp2_with fail
  refine (specCutsBest_any AL cL (L) lo hi _ rL (by omega)).mono ?_
  rintro e u3 ⟨Aw, cw, rfl, ow, b3⟩
  have s3 := b3.size
  have t3 := t2.trans (b3.mono t2.size)
  have rL := rL.to b3
  have ro := ro.to b3
  have ww := own_cap ow
  have rw := RdI.of_own ow
  clear ow
  clear b3 t2
  go_wp2_with fail
  generalize hok : (bestOk L lo hi) = ok
  cases ok with
  | false =>
    go_wp2_with fail
    refine (sameInts_any Ao Aw co cw (bestC L lo hi) (bestC L lo hi) _ ro rw (by omega)).mono ?_
    rintro e u4 ⟨rfl, b4⟩
    have s4 := b4.size
    have t4 := t3.trans (b4.mono t3.size)
    have rL := rL.to b4
    have ro := ro.to b4
    have rw := rw.to b4
    clear b4 t3
    go_wp2_with fail
    refine (sameInts_any Ao Aw co cw (bestC L lo hi) (bestC L lo hi) _ ro rw (by omega)).mono ?_
    rintro e u5 ⟨rfl, b5⟩
    have s5 := b5.size
    have t5 := t4.trans (b5.mono t4.size)
    have rL := rL.to b5
    have ro := ro.to b5
    have rw := rw.to b5
    clear b5 t4
    go_wp2_with fail
    go_ret
    exact ⟨ret_bool (by simp), t5⟩
  | true =>
    go_wp2_with fail
    refine (sameInts_any Ao Aw co cw (bestC L lo hi) (bestC L lo hi) _ ro rw (by omega)).mono ?_
    rintro e u4 ⟨rfl, b4⟩
    have s4 := b4.size
    have t4 := t3.trans (b4.mono t3.size)
    have rL := rL.to b4
    have ro := ro.to b4
    have rw := rw.to b4
    clear b4 t3
    clear rw
    obtain ⟨e1, e2, e3, e4, e5⟩ := best_allowed hok
    have hL1 := ((sig_iff L).1 (allowed_sg e1).1).2.1
    have hj : (l1.length % L.length) < L.length := Nat.mod_lt _ (by omega)
    have HM := Lib.hid (best_more hok hj)
    have hv0 : 0 ≤ costV L lo hi (bestC L lo hi) ∧ costV L lo hi (bestC L lo hi) ≤ 16000 := by rw [e2]; exact ⟨e3, e4⟩
    have hg := sig_nonneg (allowed_sg e1).1 (l1.length % L.length)
    clear e1 e2 e3 e4 e5 hok
    have j1 : (0 : Int) ≤ (l1.length : Int) % (L.length : Int) ∧ (l1.length : Int) % (L.length : Int) < (L.length : Int) := ⟨Int.emod_nonneg _ (by omega), Int.emod_lt_of_pos _ (by omega)⟩
    have j2 : ((l1.length : Int) % (L.length : Int)).toNat = (l1.length % L.length) := by rw [← Int.natCast_emod]; exact Int.toNat_natCast _
    have j3 : (1 : Int) ≤ (L.length : Int) := by omega
    have o0 : (u4.alloc (.cells #[] 3)).ownsRow u4.heap.size 3 1 (.slice (some ⟨u4.heap.size, 0, none⟩) 0 0) ([] : List Int).length (cells1 .i64 []) := World.ownsRow_made u4 #[] 0 (Nat.le_refl _) (by decide) rfl
    have b0 : Below u4.heap.size u4 (u4.alloc (.cells #[] 3)) := (Below.refl _ _).alloc (Nat.le_refl _) _
    have rD := rL.to b0
    have hnD : ([] : List Int).length + (L).length ≤ 4294967296 := by simp only [List.length_nil]; omega
    go_wp2_with (at_builtin; refine wpList_appMany1 rfl _ _ _ rfl Try.underlying22 infoI64 rfl o0 b0.size rfl rD hnD ?_; intro v1 w1 o1 hg1 hat1; have b1 : Below u4.heap.size u4 w1 := b0.grown hg1 b0.size fun k hk => (o0.lt k hk).1; rw [List.nil_append] at o1; obtain ⟨gx, cX, hvx, hgx, hgxl⟩ := o1.form (by omega); subst hvx; have qx := (o1.cellAt (l1.length % L.length) (by omega)).trans (cells1_get .i64 L (l1.length % L.length) hj); have fx := o1.frozenAt (l1.length % L.length))
    obtain ⟨oX0, _⟩ := o1.stored (l1.length % L.length) (.int .i64 (gI L (l1.length % L.length) + 1))
    rw [← cells1_putI] at oX0
    have rX : RdI _ _ .i64 (some ⟨gx, 0, none⟩) (inc L (l1.length % L.length)) := RdI.of_own' oX0 (inc_len _ _)
    have bz := b1.setCell (p := ⟨gx, (l1.length % L.length), none⟩) (by exact hgx) (.int .i64 (gI L (l1.length % L.length) + 1))
    generalize w1.setCell ⟨gx, (l1.length % L.length), none⟩ (.int .i64 (gI L (l1.length % L.length) + 1)) = u5 at rX bz ⊢
    have t5 := t4.trans (bz.mono t4.size)
    have rL := rL.to bz
    have ro := ro.to bz
    clear o0 b0 rD o1 hg1 hat1 b1 qx fx oX0 bz t4
    have hxl := inc_len L (l1.length % L.length)
    have hxl2 : (inc L (l1.length % L.length)).length ≤ 1048576 := by omega
    have hgx2 : gI (inc L (l1.length % L.length)) (l1.length % L.length) = gI L (l1.length % L.length) + 1 := by rw [inc_gI hj, if_pos rfl]
    generalize hX : inc L (l1.length % L.length) = X at *
    have HX := Lib.hid hX
    have HL := Lib.hid hxl
    have HG := Lib.hid hgx2
    have J2 := Lib.hid j2
    have hbx := bestC_len X lo hi
    clear hX hxl hgx2 j2
    have C1 := fun (u : World) (r : RdI u u.heap.size .i64 (some ⟨gx, 0, none⟩) X) => cutsBest_any (some ⟨gx, 0, none⟩) cX X lo hi u r hxl2
    rw [HL.out] at C1
    have C1 := Lib.hid C1
    have C2 := fun (u : World) (B : Option Addr) (d : Nat) (r : RdI u u.heap.size .i64 (some ⟨gx, 0, none⟩) X) (s : RdI u u.heap.size .i64 B (bestC X lo hi)) => cutsCostB_any (some ⟨gx, 0, none⟩) B cX d X (bestC X lo hi) lo hi u r s hxl2 (by omega)
    rw [HL.out] at C2
    have C2 := Lib.hid C2
    go_wp2_with fail
    refine (C1.out _ rX).mono ?_
    rintro e u6 ⟨Ay, cy, rfl, oy, b6⟩
    have t6 := t5.trans (b6.mono t5.size)
    have rL := rL.to b6
    have ro := ro.to b6
    have rX := rX.to b6
    have ry := RdI.of_own oy
    clear oy b6 t5
    have hm := HM.out
    rcases hm with ⟨z1, z2⟩ | ⟨z1, z2, z3⟩
    · rw [z1]
      go_wp2_with fail
      refine (C2.out _ _ _ rX ry).mono ?_
      rintro e u7 ⟨rfl, b7⟩
      have t7 := t6.trans (b7.mono t6.size)
      have rL := rL.to b7
      have ro := ro.to b7
      have rX := rX.to b7
      have hc : costV X lo hi (bestC X lo hi) = -1 := by rw [bestC_no z1]; exact costV_no (by cases h : allowed X lo hi [] with | false => rfl | true => rw [(best_min h).1] at z1; cases z1)
      rw [hc]
      clear z1 hc
      go_wp2_with fail
      refine (cutsCostB_any AL Ao cL co L (bestC L lo hi) lo hi _ rL ro (by omega) (by omega)).mono ?_
      rintro e u8 ⟨rfl, b8⟩
      have t8 := t7.trans (b8.mono t7.size)
      have rX := rX.to b8
      generalize costV L lo hi (bestC L lo hi) = v at *
      obtain ⟨bx, ox, hA, hB, hcs⟩ := rX (by rw [HL.out]; omega)
      injection hA with hA
      injection hA with hA1 hA2
      subst hA1 hA2
      have q1 := hcs (l1.length % L.length) (by rw [HL.out]; omega)
      rw [HG.out, Nat.zero_add] at q1
      have j2 := J2.out
      have hg9 : decide ((1000 : Int) < gI L (l1.length % L.length) + 1) = true := decide_eq_true (by omega)
      clear hcs
      go_wp2_with fail
      go_ret
      exact ⟨ret_bool (by first | rfl | simp), t8⟩
    · rw [z1]
      go_wp2_with fail
      refine (C2.out _ _ _ rX ry).mono ?_
      rintro e u7 ⟨rfl, b7⟩
      have t7 := t6.trans (b7.mono t6.size)
      have rL := rL.to b7
      have ro := ro.to b7
      have rX := rX.to b7
      generalize costV X lo hi (bestC X lo hi) = y at z2 z3 ⊢
      clear z1
      go_wp2_with fail
      refine (cutsCostB_any AL Ao cL co L (bestC L lo hi) lo hi _ rL ro (by omega) (by omega)).mono ?_
      rintro e u8 ⟨rfl, b8⟩
      have t8 := t7.trans (b8.mono t7.size)
      have rX := rX.to b8
      generalize costV L lo hi (bestC L lo hi) = v at *
      have hd : y = v ∨ y = v + 1 := by omega
      have hw : IntKind.i64.wrap (y - v) = y - v := IntWalk.i64_in _ (by omega)
      rcases hd with hd | hd
      · have g1 : ((y - v) == 0) = true := by simp; omega
        clear hd
        go_wp2_with fail
        go_ret
        exact ⟨ret_bool (by first | rfl | simp), t8⟩
      · have g1 : ((y - v) == 0) = false := by simp; omega
        have g2 : ((y - v) == 1) = true := by simp; omega
        clear hd
        go_wp2_with fail
        go_ret
        exact ⟨ret_bool (by first | rfl | simp), t8⟩

set_option maxRecDepth 100000 in
theorem liftedFnBestMore (os : Os) (started : os.Started) (H : Type) (enc : TypeId × Value → H) :
    ReturnsInHanded {} Try.checked os 13 .any (Rows.fnBestMoreSpec.pre6 enc Try.prog Try.f13 Rows.fnBestMoreRow.domain false) (Rows.fnBestMoreSpec.post enc Try.prog Try.f13 false true false false) := by
  refine returnsInHanded_of_change (C := Try.checked) own_ started (by kernel_rfl) Try.func13
    (ChangeSpec.witness6 (enc := enc) (C := Try.checked) false ⟨#[], #[.slice none 0 0, .slice none 0 0], []⟩ 8 (by kernel_rfl) (by kernel_rfl) (by kernel_rfl) (by kernel_rfl)) ?_
  intro W base args ds gs before hval0 hW hcnd _
  have hval : ∀ (j : Nat) t v, Try.f13.params[j]? = some t → args[j]? = some v → Value.okWide Try.prog W .any base t v := hval0
  have hW' := hW
  obtain ⟨p, q, hA0, hV, rfl, hfz, hnd⟩ := hW
  have hA : DataW.TrodAll enc Try.prog W 0 (fun _ => true) true Try.f13.params.toList args.toList ds p := hA0
  rw [Try.params13] at hA hval
  obtain ⟨v0, vs0, d0, ds0, p0, q0, hargs, rfl, rfl, h0, r0⟩ := trodAll_cons hA
  obtain ⟨v1, vs1, d1, ds1, p1, q1, rfl, rfl, rfl, h1, r1⟩ := trodAll_cons r0
  obtain ⟨rfl, rfl, rfl⟩ := trodAll_nil r1
  obtain rfl : args = #[v0, v1] := by cases args; simp_all
  obtain ⟨rfl, rfl⟩ := trodVars_none hV
  obtain ⟨a0, n0, c0, rfl⟩ := okWide_slice Try.underlying29 (hval 0 29 v0 rfl rfl)
  have kk0 := h0
  have lt0 : ∀ x ∈ p0, x.block < W.heap.size := by obtain ⟨m, hm⟩ := kk0; exact DataW.trod_lt m _ _ _ hm
  obtain ⟨l0, e0, g0, w0, b0, bm0⟩ : ∃ l : List Int, l.length = n0 ∧ RdI W W.heap.size .u8 a0 l ∧ (∀ z ∈ l, (Lit.int .u8 z).wf = true) ∧ n0 ≤ c0 ∧ c0 ≤ maxLen := by
    obtain ⟨fuel, hf⟩ := h0
    exact openI Try.underlying29 Try.underlying5 (by kernel_rfl) (by simpa [Value.cells] using hf)
  subst e0
  obtain ⟨a1, n1, c1, rfl⟩ := okWide_slice Try.underlying29 (hval 1 29 v1 rfl rfl)
  have kk1 := h1
  have lt1 : ∀ x ∈ p1, x.block < W.heap.size := by obtain ⟨m, hm⟩ := kk1; exact DataW.trod_lt m _ _ _ hm
  obtain ⟨l1, e1, g1, w1, b1, bm1⟩ : ∃ l : List Int, l.length = n1 ∧ RdI W W.heap.size .u8 a1 l ∧ (∀ z ∈ l, (Lit.int .u8 z).wf = true) ∧ n1 ≤ c1 ∧ c1 ≤ maxLen := by
    obtain ⟨fuel, hf⟩ := h1
    exact openI Try.underlying29 Try.underlying5 (by kernel_rfl) (by simpa [Value.cells] using hf)
  subst e1
  clear hA0 hval0
  refine (walkFnBestMore a0 c0 l0 a1 c1 l1 W g0 (wf_bytes w0) b0 (by unfold maxLen at bm0; omega)).mono fun e W' ⟨he, bel⟩ => ?_
  subst he
  exact ⟨_, rfl, _, _, _, [], _, [], hW', trodAll_mk1 (shut_bool Try.underlying4 _), (trodAll_cons_mk (Below.trod laidOut_ (by kernel_rfl) (of_decide_eq_true (by kernel_rfl)) kk0 bel lt0) (trodAll_cons_mk (Below.trod laidOut_ (by kernel_rfl) (of_decide_eq_true (by kernel_rfl)) kk1 bel lt1) trodAll_mk0)), rfl, bel.frame _, fun h => by cases h⟩

theorem fnBestMore_holds : Rows.FnBestMoreSaid :=
  OpenClaim.holds_of_wide 13 Try.f13 rfl rfl rfl rfl rfl rfl rfl ⟨rfl, rfl, rfl, rfl, rfl⟩ rfl rfl rfl rfl rfl (by kernel_rfl) Try.func13 (by kernel_rfl)
    (of_decide_eq_true (by kernel_rfl)) (by unfold Func.isWrapper; first | (rw [if_pos (by decide +kernel)]; kernel_rfl) | (rw [if_neg (by decide +kernel)]; exact ⟨rfl, rfl⟩))
    (fun os started H enc _ => liftedFnBestMore os started H enc)

end Go.Proofs.Ytbdhnfligfpigaa
