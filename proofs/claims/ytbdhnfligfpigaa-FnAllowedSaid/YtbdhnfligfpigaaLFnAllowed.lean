/- The statement FnAllowedSaid: for all arguments the Go function laws.FnAllowed returns true and leaves its arguments as they were. No condition. -/
import Derived.Test.YtbdhnfligfpigaaDrawCA
import Derived.Test.YtbdhnfligfpigaaYears
import Derived.Test.YtbdhnfligfpigaaCutAdd
import Derived.Test.YtbdhnfligfpigaaInts
import Derived.Test.YtbdhnfligfpigaaIntsMore
import Derived.Test.YtbdhnfligfpigaaMore
import Derived.Test.YtbdhnfligfpigaaFrame
namespace Go.Proofs.Ytbdhnfligfpigaa
open Go.ChangeShapes Go.WideShapes Go.ChangeAt Go.RowKit

set_option maxRecDepth 100000 in
set_option maxHeartbeats 4000000 in
theorem walkFnAllowed (A0 : Option Addr) (c0 : Nat) (l0 : List Int) (w : World) (r0 : RdI w w.heap.size .u8 A0 l0) (y0 : ∀ x ∈ l0, 0 ≤ x ∧ x ≤ 255) (k0 : l0.length ≤ c0) (m0 : c0 ≤ 9223372036854775807) :
    Calls Try.prog 4 #[.slice A0 l0.length c0] w fun e w' => e = .returned (.bool true) ∧ Below w.heap.size w w' := by
  by_cases z0 : 1048576 < l0.length
  · clear r0 y0
    go_enter Try.func4, Try.ntmps4
    go_wp2_with fail
    go_ret
    exact ⟨rfl, Below.refl _ _⟩
  have Y0 := Lib.hid y0
  clear y0
  go_enter Try.func4, Try.ntmps4
  go_wp2_with fail
  refine (DrawCutsAllowed_any A0 c0 l0 _ r0 Y0.out (by omega) k0 m0).mono ?_
  rintro e u1 ⟨AL, cL, L, lo, hi, AN, cN, N, rfl, hL, hN, hsm, ⟨lo0, lo1⟩, ⟨hi0, hi1⟩, oL, oN, b1⟩
  have s1 := b1.size
  have t1 := b1
  have wL := own_cap oL
  have rL := RdI.of_own oL
  clear oL
  have wN := own_cap oN
  have rN := RdI.of_own oN
  clear oN
  clear b1
  clear r0 hsm
  go_wp2_with fail
  refine (cutsAllowedB_any AL AN cL cN (L) (N) lo hi _ rL rN (by omega) (by omega)).mono ?_
  rintro e u2 ⟨rfl, b2⟩
  have s2 := b2.size
  have t2 := t1.trans (b2.mono t1.size)
  have rL := rL.to b2
  have rN := rN.to b2
  clear b2 t1
  go_wp2_with fail
  refine (specCutsAllowedB_any AL AN cL cN (L) (N) lo hi _ rL rN (by omega) (by omega)).mono ?_
  rintro e u3 ⟨rfl, b3⟩
  have s3 := b3.size
  have t3 := t2.trans (b3.mono t2.size)
  have rL := rL.to b3
  have rN := rN.to b3
  clear b3 t2
  cases hok : allowed L lo hi N with
  | false =>
    go_wp2_with fail
    go_ret
    exact ⟨ret_bool (by simp), t3⟩
  | true =>
    obtain ⟨e1, e2⟩ := allowed_last hok
    have E3 := Lib.hid (allowed_free hok)
    have hL1 := ((sig_iff L).1 (allowed_sg hok).1).2.1
    have E4 := Lib.hid (allowed_past L lo hi N)
    clear hok
    obtain ⟨b, o, hA, hB, hcs⟩ := rN e1
    subst hA
    have q1 := hcs (N.length - 1) (by omega)
    rw [e2] at q1
    clear hcs e2
    have wr1 : IntKind.i64.wrap ((N.length : Int) - 1) = ((N.length - 1 : Nat) : Int) := by rw [IntWalk.i64_in _ (by omega)]; omega
    have l1 : (0 : Int) ≤ (N.length : Int) - 1 ∧ (N.length : Int) - 1 < (N.length : Int) := by omega
    have l2 : ((N.length : Int) - 1).toNat = N.length - 1 := by omega
    have l3 : (1 : Int) ≤ (N.length : Int) ∧ (1 : Int) ≤ (L.length : Int) := by omega
    have g1 : (((L.length : Int) - 1) == ((L.length : Int) - 1)) = true := by simp
    go_wp2_with fail
    refine (cutsAllowedB_any AL (some ⟨b, o, none⟩) cL cN L N 1 16 _ rL rN (by omega) (by omega)).mono ?_
    rintro e u4 ⟨rfl, b4⟩
    have s4 := b4.size
    have t4 := t3.trans (b4.mono t3.size)
    have rL := rL.to b4
    have rN := rN.to b4
    rw [E3.out]
    clear b4 t3 q1
    have o0 : (u4.alloc (.cells #[] 3)).ownsRow u4.heap.size 3 1 (.slice (some ⟨u4.heap.size, 0, none⟩) 0 0) ([] : List Int).length (cells1 .i64 []) := World.ownsRow_made u4 #[] 0 (Nat.le_refl _) (by decide) rfl
    have b0 : Below u4.heap.size u4 (u4.alloc (.cells #[] 3)) := (Below.refl _ _).alloc (Nat.le_refl _) _
    have rD := rN.to b0
    have hnD : ([] : List Int).length + (N).length ≤ 4294967296 := by simp only [List.length_nil]; omega
    have hn1 : N.length + 1 ≤ 4294967296 := by omega
    go_wp2_with (at_builtin; first | ((try refine wpList_unguard (by rfl) ?_); refine wpList_appMany1 rfl _ _ _ rfl Try.underlying22 infoI64 rfl o0 b0.size rfl rD hnD ?_; intro v1 w1 o1 hg1 hat1; have b1 : Below u4.heap.size u4 w1 := b0.grown hg1 b0.size fun k hk => (o0.lt k hk).1; rw [List.nil_append] at o1) | ((try refine wpList_unguard (by rfl) ?_); refine wpList_app1_base rfl _ _ _ rfl Try.underlying22 infoI64 rfl o1 b1.size _ _ _ rfl rfl hn1 ?_; intro v2 w5 o2 hg2 hat2))
    have b5 : Below u4.heap.size u4 w5 := (b1.alloc b1.size _).grown hg2 (b1.alloc b1.size _).size fun k hk => (o1.lt k hk).1
    obtain ⟨A5, c5, rfl⟩ := own_shape o2
    have rX := RdI.of_own o2
    have t5 := t4.trans (b5.mono t4.size)
    have rL := rL.to b5
    clear o0 b0 rD hnD o1 hg1 hat1 b1 o2 hg2 hat2 b5 t4
    have hlx : (N ++ [(L.length : Int)]).length ≤ 1048576 := by simp; omega
    go_wp2_with fail
    refine (cutsAllowedB_any AL A5 cL c5 L (N ++ [(L.length : Int)]) lo hi _ rL rX (by omega) hlx).mono ?_
    rintro e u6 ⟨rfl, b6⟩
    have t6 := t5.trans (b6.mono t5.size)
    rw [E4.out]
    go_wp2_with fail
    go_ret
    exact ⟨ret_bool (by first | rfl | simp), t6⟩

set_option maxRecDepth 100000 in
theorem liftedFnAllowed (os : Os) (started : os.Started) (H : Type) (enc : TypeId × Value → H) :
    ReturnsInHanded {} Try.checked os 4 .any (Rows.fnAllowedSpec.pre6 enc Try.prog Try.f4 Rows.fnAllowedRow.domain false) (Rows.fnAllowedSpec.post enc Try.prog Try.f4 false true false false) := by
  refine returnsInHanded_of_change (C := Try.checked) own_ started (by kernel_rfl) Try.func4
    (ChangeSpec.witness6 (enc := enc) (C := Try.checked) false ⟨#[], #[.slice none 0 0], []⟩ 8 (by kernel_rfl) (by kernel_rfl) (by kernel_rfl) (by kernel_rfl)) ?_
  intro W base args ds gs before hval0 hW hcnd _
  have hval : ∀ (j : Nat) t v, Try.f4.params[j]? = some t → args[j]? = some v → Value.okWide Try.prog W .any base t v := hval0
  have hW' := hW
  obtain ⟨p, q, hA0, hV, rfl, hfz, hnd⟩ := hW
  have hA : DataW.TrodAll enc Try.prog W 0 (fun _ => true) true Try.f4.params.toList args.toList ds p := hA0
  rw [Try.params4] at hA hval
  obtain ⟨v0, vs0, d0, ds0, p0, q0, hargs, rfl, rfl, h0, r0⟩ := trodAll_cons hA
  obtain ⟨rfl, rfl, rfl⟩ := trodAll_nil r0
  obtain rfl : args = #[v0] := by cases args; simp_all
  obtain ⟨rfl, rfl⟩ := trodVars_none hV
  obtain ⟨a0, n0, c0, rfl⟩ := okWide_slice Try.underlying29 (hval 0 29 v0 rfl rfl)
  have kk0 := h0
  have lt0 : ∀ x ∈ p0, x.block < W.heap.size := by obtain ⟨m, hm⟩ := kk0; exact DataW.trod_lt m _ _ _ hm
  obtain ⟨l0, e0, g0, w0, b0, bm0⟩ : ∃ l : List Int, l.length = n0 ∧ RdI W W.heap.size .u8 a0 l ∧ (∀ z ∈ l, (Lit.int .u8 z).wf = true) ∧ n0 ≤ c0 ∧ c0 ≤ maxLen := by
    obtain ⟨fuel, hf⟩ := h0
    exact openI Try.underlying29 Try.underlying5 (by kernel_rfl) (by simpa [Value.cells] using hf)
  subst e0
  clear hA0 hval0
  refine (walkFnAllowed a0 c0 l0 W g0 (wf_bytes w0) b0 (by unfold maxLen at bm0; omega)).mono fun e W' ⟨he, bel⟩ => ?_
  subst he
  exact ⟨_, rfl, _, _, _, [], _, [], hW', trodAll_mk1 (shut_bool Try.underlying4 _), (trodAll_cons_mk (Below.trod laidOut_ (by kernel_rfl) (of_decide_eq_true (by kernel_rfl)) kk0 bel lt0) trodAll_mk0), rfl, bel.frame _, fun h => by cases h⟩

theorem fnAllowed_holds : Rows.FnAllowedSaid :=
  OpenClaim.holds_of_wide 4 Try.f4 rfl rfl rfl rfl rfl rfl rfl ⟨rfl, rfl, rfl, rfl, rfl⟩ rfl rfl rfl rfl rfl (by kernel_rfl) Try.func4 (by kernel_rfl)
    (of_decide_eq_true (by kernel_rfl)) (by unfold Func.isWrapper; first | (rw [if_pos (by decide +kernel)]; kernel_rfl) | (rw [if_neg (by decide +kernel)]; exact ⟨rfl, rfl⟩))
    (fun os started H enc _ => liftedFnAllowed os started H enc)

end Go.Proofs.Ytbdhnfligfpigaa
