/- The statement FnMatchManySaid: for all arguments the Go function laws.FnMatchMany returns true and leaves its arguments as they were. No condition. -/
import Derived.Test.YtgfahnmkfgfibaaMany
import Derived.Test.YtgfahnmkfgfibaaMatTop
import Derived.Test.YtgfahnmkfgfibaaDrawM
import Derived.Test.YtgfahnmkfgfibaaFrame
namespace Go.Proofs.Ytgfahnmkfgfibaa
open Go.ChangeShapes Go.WideShapes Go.ChangeAt Go.RowKit

set_option maxRecDepth 100000 in
set_option maxHeartbeats 4000000 in
theorem walkFnMatchMany (A0 : Option Addr) (c0 : Nat) (l0 : List Int) (w : World) (r0 : RdI w w.heap.size .u8 A0 l0) (y0 : ∀ x ∈ l0, 0 ≤ x ∧ x ≤ 255) (k0 : l0.length ≤ c0) (m0 : c0 ≤ 9223372036854775807) :
    Calls Try.prog 11 #[.slice A0 l0.length c0] w fun e w' => e = .returned (.bool true) ∧ Below w.heap.size w w' := by
  by_cases z0 : 1048576 < l0.length
  · clear r0 y0
    go_enter Try.func11, Try.ntmps11
    go_wp2_with fail
    go_ret
    exact ⟨rfl, Below.refl _ _⟩
  have Y0 := Lib.hid y0
  clear y0
  go_enter Try.func11, Try.ntmps11
  go_wp2_with fail
  refine (DrawMatchMany_any A0 c0 l0 _ r0 Y0.out (by omega) k0 m0).mono ?_
  rintro e u1 ⟨AL, cL, L, AM, cM, M, t, AN, cN, N, rfl, hL, hM, hN, ⟨ht0, ht1⟩, oL, oM, oN, b1⟩
  have s1 := b1.size
  have t1 := b1
  have rL := Rd.of_own oL
  clear oL
  have rM := Rd.of_own oM
  clear oM
  have rN := RdI.of_own oN
  clear oN
  clear b1
  clear r0
  go_wp2_with fail
  refine (matchMany_any AL AM AN cL cM cN (L) (M) t (N) _ rL rM rN (by omega) (by omega)).mono ?_
  rintro e u2 ⟨rfl, b2⟩
  have s2 := b2.size
  have t2 := t1.trans (b2.mono t1.size)
  have rL := rL.to b2
  have rM := rM.to b2
  have rN := rN.to b2
  clear b2 t1
  go_wp2_with fail
  refine (specMatchMany_any AL AM AN cL cM cN (L) (M) t (N) _ rL rM rN (by omega) (by omega)).mono ?_
  rintro e u3 ⟨rfl, b3⟩
  have s3 := b3.size
  have t3 := t2.trans (b3.mono t2.size)
  have rL := rL.to b3
  have rM := rM.to b3
  have rN := rN.to b3
  clear b3 t2
  cases hok : okV L M t N with
  | false =>
    rw [manyV_no hok]
    go_wp2_with fail
    go_ret
    exact ⟨ret_bool (by simp), t3⟩
  | true =>
    rw [manyV_yes hok]
    have HOK := Lib.hid hok
    obtain ⟨e1, e2, e3⟩ := many_bd hok
    generalize prs N = m at e1 e2 e3 ⊢
    have e4 : (m : Int) ≤ (L.length : Int) := by omega
    have e5 : (m : Int) ≤ (M.length : Int) := by omega
    clear hok
    go_wp2_with fail
    refine (matchMost_any AL AM cL cM (L) (M) t _ rL rM (by omega) (by omega)).mono ?_
    rintro e u4 ⟨rfl, b4⟩
    have s4 := b4.size
    have t4 := t3.trans (b4.mono t3.size)
    have rL := rL.to b4
    have rM := rM.to b4
    have rN := rN.to b4
    clear b4 t3
    generalize mmV L M t = q at e1 ⊢
    go_wp2_with fail
    all_goals
      go_ret
      exact ⟨ret_bool (rfl), t4⟩

set_option maxRecDepth 100000 in
theorem liftedFnMatchMany (os : Os) (started : os.Started) (H : Type) (enc : TypeId × Value → H) :
    ReturnsInHanded {} Try.checked os 11 .any (Rows.fnMatchManySpec.pre6 enc Try.prog Try.f11 Rows.fnMatchManyRow.domain false) (Rows.fnMatchManySpec.post enc Try.prog Try.f11 false true false false) := by
  refine returnsInHanded_of_change (C := Try.checked) own_ started (by kernel_rfl) Try.func11
    (ChangeSpec.witness6 (enc := enc) (C := Try.checked) false ⟨#[], #[.slice none 0 0], []⟩ 8 (by kernel_rfl) (by kernel_rfl) (by kernel_rfl) (by kernel_rfl)) ?_
  intro W base args ds gs before hval0 hW hcnd _
  have hval : ∀ (j : Nat) t v, Try.f11.params[j]? = some t → args[j]? = some v → Value.okWide Try.prog W .any base t v := hval0
  have hW' := hW
  obtain ⟨p, q, hA0, hV, rfl, hfz, hnd⟩ := hW
  have hA : DataW.TrodAll enc Try.prog W 0 (fun _ => true) true Try.f11.params.toList args.toList ds p := hA0
  rw [Try.params11] at hA hval
  obtain ⟨v0, vs0, d0, ds0, p0, q0, hargs, rfl, rfl, h0, r0⟩ := trodAll_cons hA
  obtain ⟨rfl, rfl, rfl⟩ := trodAll_nil r0
  obtain rfl : args = #[v0] := by cases args; simp_all
  obtain ⟨rfl, rfl⟩ := trodVars_none hV
  obtain ⟨a0, n0, c0, rfl⟩ := okWide_slice Try.underlying22 (hval 0 22 v0 rfl rfl)
  have kk0 := h0
  have lt0 : ∀ x ∈ p0, x.block < W.heap.size := by obtain ⟨m, hm⟩ := kk0; exact DataW.trod_lt m _ _ _ hm
  obtain ⟨l0, e0, g0, w0, b0, bm0⟩ : ∃ l : List Int, l.length = n0 ∧ RdI W W.heap.size .u8 a0 l ∧ (∀ z ∈ l, (Lit.int .u8 z).wf = true) ∧ n0 ≤ c0 ∧ c0 ≤ maxLen := by
    obtain ⟨fuel, hf⟩ := h0
    exact openI Try.underlying22 Try.underlying5 (by kernel_rfl) (by simpa [Value.cells] using hf)
  subst e0
  clear hA0 hval0
  refine (walkFnMatchMany a0 c0 l0 W g0 (wf_bytes w0) b0 (by unfold maxLen at bm0; omega)).mono fun e W' ⟨he, bel⟩ => ?_
  subst he
  exact ⟨_, rfl, _, _, _, [], _, [], hW', trodAll_mk1 (shut_bool Try.underlying4 _), (trodAll_cons_mk (Below.trod laidOut_ (by kernel_rfl) (of_decide_eq_true (by kernel_rfl)) kk0 bel lt0) trodAll_mk0), rfl, bel.frame _, fun h => by cases h⟩

theorem fnMatchMany_holds : Rows.FnMatchManySaid :=
  OpenClaim.holds_of_wide 11 Try.f11 rfl rfl rfl rfl rfl rfl rfl ⟨rfl, rfl, rfl, rfl, rfl⟩ rfl rfl rfl rfl rfl (by kernel_rfl) Try.func11 (by kernel_rfl)
    (of_decide_eq_true (by kernel_rfl)) (by unfold Func.isWrapper; first | (rw [if_pos (by decide +kernel)]; kernel_rfl) | (rw [if_neg (by decide +kernel)]; exact ⟨rfl, rfl⟩))
    (fun os started H enc _ => liftedFnMatchMany os started H enc)

end Go.Proofs.Ytgfahnmkfgfibaa
