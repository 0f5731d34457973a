/- The statement FnExactEventsValidSaid: for all arguments the Go function laws.FnExactEventsValid returns true and leaves its arguments as they were. No condition. -/
import Derived.Test.YtbpafjlfpdnnhaaEv
import Derived.Test.YtbpafjlfpdnnhaaPairEvent
import Derived.Test.YtbpafjlfpdnnhaaObj
import Derived.Test.YtbpafjlfpdnnhaaFrame
namespace Go.Proofs.Ytbpafjlfpdnnhaa
open Go.ChangeShapes Go.WideShapes Go.ChangeAt Go.RowKit

set_option maxHeartbeats 4000000 in
theorem walkFnExactEventsValid (A0 : Option Addr) (c0 : Nat) (l0 : List (Int × Int)) (w : World) (r0 : Rd w w.heap.size A0 l0) (k0 : l0.length ≤ c0) (m0 : c0 ≤ 9223372036854775807) :
    Calls Try.prog 3 #[.slice A0 l0.length c0] w fun e w' => e = .returned (.bool true) ∧ Below w.heap.size w w' := by
  have hm0 := Nat.le_trans k0 m0
  by_cases z0 : (1048576 : Int) < (l0.length : Int)
  · clear r0
    go_enter Try.func3, Try.ntmps3
    go_wp2_with fail
    refine (szEventS_any _ c0 l0.length _ _ (by omega) (by omega) (by omega)).mono ?_
    rintro e us0 ⟨rfl, rfl⟩
    rw [if_pos (by omega)]
    go_wp2
    go_ret
    exact ⟨rfl, Below.refl _ _⟩
  go_enter Try.func3, Try.ntmps3
  go_wp2_with fail
  refine (szEventS_any _ c0 l0.length _ _ (by omega) (by omega) (by omega)).mono ?_
  rintro e us0 ⟨rfl, rfl⟩
  rw [if_neg (by omega)]
  have t0 : Below w.heap.size w w := Below.refl _ _
  go_wp2_with fail
  refine (toEventS_any A0 c0 l0 _ (r0.to t0) (by omega)).mono ?_
  rintro e u1 ⟨Ap0, cp0, rfl, op0, b1⟩
  have s1 := b1.size
  have t1 := t0.trans (b1.mono t0.size)
  go_wp2_with fail
  refine (specEventsValid_any Ap0 cp0 l0 _ (Rd.of_own op0) (by omega)).mono ?_
  rintro e u2 ⟨rfl, b2⟩
  have s2 := b2.size
  have t2 := t1.trans (b2.mono t1.size)
  have op0 := own_keep op0 b2
  go_wp2_with fail
  refine (toEventS_any A0 c0 l0 _ (r0.to t2) (by omega)).mono ?_
  rintro e u3 ⟨Ax0, cx0, rfl, ox0, b3⟩
  have s3 := b3.size
  have t3 := t2.trans (b3.mono t2.size)
  go_wp2_with fail
  refine (eventsValid_any Ax0 cx0 l0 _ (Rd.of_own ox0) (by omega)).mono ?_
  rintro e u4 ⟨rfl, b4⟩
  have s4 := b4.size
  have t4 := t3.trans (b4.mono t3.size)
  have ox0 := own_keep ox0 b4
  go_wp2_with fail
  refine (toEventS_any A0 c0 l0 _ (r0.to t4) (by omega)).mono ?_
  rintro e u5 ⟨Aq0, cq0, rfl, oq0, b5⟩
  have s5 := b5.size
  have t5 := t4.trans (b5.mono t4.size)
  have ox0 := own_keep ox0 b5
  go_wp2_with fail
  refine (eqEventS_any Ax0 Aq0 cx0 cq0 _ _ _ (Rd.of_own ox0) (Rd.of_own oq0) (by omega)).mono ?_
  rintro e u6 ⟨rfl, b6⟩
  have s6 := b6.size
  have t6 := t5.trans (b6.mono t5.size)
  have ox0 := own_keep ox0 b6
  have oq0 := own_keep oq0 b6
  go_wp2
  go_ret
  exact ⟨ret_bool (by simp), t6⟩

set_option maxRecDepth 100000 in
theorem liftedFnExactEventsValid (os : Os) (started : os.Started) (H : Type) (enc : TypeId × Value → H) :
    ReturnsInHanded {} Try.checked os 3 .any (Rows.fnExactEventsValidSpec.pre6 enc Try.prog Try.f3 Rows.fnExactEventsValidRow.domain false) (Rows.fnExactEventsValidSpec.post enc Try.prog Try.f3 false true false false) := by
  refine returnsInHanded_of_change (C := Try.checked) own_ started (by kernel_rfl) Try.func3
    (ChangeSpec.witness6 (enc := enc) (C := Try.checked) false ⟨#[], #[.slice none 0 0], []⟩ 8 (by kernel_rfl) (by kernel_rfl) (by kernel_rfl) (by kernel_rfl)) ?_
  intro W base args ds gs before hval0 hW hcnd _
  have hval : ∀ (j : Nat) t v, Try.f3.params[j]? = some t → args[j]? = some v → Value.okWide Try.prog W .any base t v := hval0
  have hW' := hW
  obtain ⟨p, q, hA0, hV, rfl, hfz, hnd⟩ := hW
  have hA : DataW.TrodAll enc Try.prog W 0 (fun _ => true) true Try.f3.params.toList args.toList ds p := hA0
  rw [Try.params3] at hA hval
  obtain ⟨v0, vs0, d0, ds0, p0, q0, hargs, rfl, rfl, h0, r0⟩ := trodAll_cons hA
  obtain ⟨rfl, rfl, rfl⟩ := trodAll_nil r0
  obtain rfl : args = #[v0] := by cases args; simp_all
  obtain ⟨rfl, rfl⟩ := trodVars_none hV
  obtain ⟨a0, n0, c0, rfl⟩ := okWide_slice Try.underlying22 (hval 0 22 v0 rfl rfl)
  have kk0 := h0
  have lt0 : ∀ x ∈ p0, x.block < W.heap.size := by obtain ⟨m, hm⟩ := kk0; exact DataW.trod_lt m _ _ _ hm
  obtain ⟨l0, e0, g0, w0, b0, bm0⟩ : ∃ l : List (Int × Int), l.length = n0 ∧ Rd W W.heap.size a0 l ∧ (∀ q ∈ l, (Lit.int .i64 q.1).wf = true ∧ (Lit.int .i64 q.2).wf = true) ∧ n0 ≤ c0 ∧ c0 ≤ maxLen := by
    obtain ⟨fuel, hf⟩ := h0
    exact openS Try.underlying22 Try.underlying47 (by kernel_rfl) (by kernel_rfl) rfl rfl Try.underlying3 (by simpa [Value.cells] using hf)
  subst e0
  clear hA0 hval0
  refine (walkFnExactEventsValid a0 c0 l0 W g0 b0 (by unfold maxLen at bm0; omega)).mono fun e W' ⟨he, bel⟩ => ?_
  subst he
  exact ⟨_, rfl, _, _, _, [], _, [], hW', trodAll_mk1 (shut_bool Try.underlying4 _), (trodAll_cons_mk (Below.trod laidOut_ (by kernel_rfl) (of_decide_eq_true (by kernel_rfl)) kk0 bel lt0) trodAll_mk0), rfl, bel.frame _, fun h => by cases h⟩

theorem fnExactEventsValid_holds : Rows.FnExactEventsValidSaid :=
  OpenClaim.holds_of_wide 3 Try.f3 rfl rfl rfl rfl rfl rfl rfl ⟨rfl, rfl, rfl, rfl, rfl⟩ rfl rfl rfl rfl rfl (by kernel_rfl) Try.func3 (by kernel_rfl)
    (of_decide_eq_true (by kernel_rfl)) (by unfold Func.isWrapper; first | (rw [if_pos (by decide +kernel)]; kernel_rfl) | (rw [if_neg (by decide +kernel)]; exact ⟨rfl, rfl⟩))
    (fun os started H enc _ => liftedFnExactEventsValid os started H enc)

end Go.Proofs.Ytbpafjlfpdnnhaa
