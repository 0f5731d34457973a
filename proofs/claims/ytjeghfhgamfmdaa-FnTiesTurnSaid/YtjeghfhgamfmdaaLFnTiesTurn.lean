/- The statement FnTiesTurnSaid: for all arguments the Go function laws.FnTiesTurn returns true and leaves its arguments as they were. No condition. -/
import Derived.Test.YtjeghfhgamfmdaaTop
import Derived.Test.YtjeghfhgamfmdaaDrawT
import Derived.Test.YtjeghfhgamfmdaaTiesMore
import Derived.Test.YtjeghfhgamfmdaaFrame
namespace Go.Proofs.Ytjeghfhgamfmdaa
open Go.ChangeShapes Go.WideShapes Go.ChangeAt Go.RowKit

set_option maxHeartbeats 1000000 in
theorem walkFnTiesTurn (A0 : Option Addr) (c0 : Nat) (l0 : List Int) (w : World) (r0 : RdI w w.heap.size .u8 A0 l0) (y0 : ∀ x ∈ l0, 0 ≤ x ∧ x ≤ 255) (k0 : l0.length ≤ c0) (m0 : c0 ≤ 9223372036854775807) :
    Calls Try.prog 5 #[.slice A0 l0.length c0] w fun e w' => e = .returned (.bool true) ∧ Below w.heap.size w w' := by
  by_cases h1 : 1048576 < l0.length
  · clear r0 y0
    go_enter Try.func5, Try.ntmps5
    go_wp2_with fail
    go_ret
    exact ⟨rfl, Below.refl _ _⟩
  · have Y := Lib.hid y0
    clear y0
    go_enter Try.func5, Try.ntmps5
    go_wp2_with fail
    refine (DrawTiesTurn_any A0 c0 l0 _ r0 Y.out (by omega) k0 m0).mono ?_
    rintro e w1 ⟨A1, c1, L, rfl, hL, hsm, ho1, hb1⟩
    have q1 := Rd.of_own ho1
    clear hsm ho1 r0
    go_wp2_with fail
    refine (tiesTurn_any A1 c1 L _ q1 (by omega)).mono ?_
    rintro e w2 ⟨A2, c2, rfl, ho2, hb2⟩
    have hn2 := turnL_len L
    have q2 := Rd.of_own ho2
    clear ho2
    go_wp2_with fail
    refine (specTiesTurn_any A1 c1 L _ (q1.to hb2) (by omega)).mono ?_
    rintro e w3 ⟨A3, c3, rfl, ho3, hb3⟩
    have q3 := Rd.of_own ho3
    clear ho3
    have b3 := hb1.trans ((hb2.trans (hb3.mono hb2.size)).mono hb1.size)
    have r1 := (q1.to hb2).to hb3
    have r2 := q2.to hb3
    clear hb1 hb2 hb3 q1 q2
    cases hv : tv L with
    | false =>
      go_wp2_with fail
      refine (sameTies_any A2 A3 c2 c3 _ _ _ r2 q3 (by omega)).mono ?_
      rintro e w4 ⟨rfl, hb4⟩
      go_wp2_with fail
      refine (sameTies_any A2 A3 c2 c3 _ _ _ (r2.to hb4) (q3.to hb4) (by omega)).mono ?_
      rintro e w5 ⟨rfl, hb5⟩
      go_wp2
      go_ret
      exact ⟨ret_bool (by simp), b3.trans ((hb4.trans (hb5.mono hb4.size)).mono b3.size)⟩
    | true =>
      go_wp2_with fail
      refine (sameTies_any A2 A3 c2 c3 _ _ _ r2 q3 (by omega)).mono ?_
      rintro e w4 ⟨rfl, hb4⟩
      go_wp2_with fail
      refine (tiesTurn_any A2 c2 (turnL L) _ (r2.to hb4) (by omega)).mono ?_
      rintro e w5 ⟨A5, c5, rfl, ho5, hb5⟩
      have q5 := Rd.of_own ho5
      have hv2 := tv_turnL hv
      have hn5 := turnL_len (turnL L)
      have e5 := turn_turn hv
      have E5 := Lib.hid e5
      clear ho5 e5
      go_wp2_with fail
      refine (sameTies_any A5 A1 c5 c1 (turnL (turnL L)) L _ q5 ((r1.to hb4).to hb5) (by omega)).mono ?_
      rintro e w6 ⟨rfl, hb6⟩
      have hd : decide (turnL (turnL L) = L) = true := by rw [E5.out]; simp
      go_wp2_with fail
      refine (tiesValid_any A2 c2 (turnL L) _ (((r2.to hb4).to hb5).to hb6) (by omega)).mono ?_
      rintro e w7 ⟨rfl, hb7⟩
      go_wp2
      go_ret
      have t4 := b3.trans (hb4.mono b3.size)
      have t5 := t4.trans (hb5.mono t4.size)
      have t6 := t5.trans (hb6.mono t5.size)
      exact ⟨ret_bool rfl, t6.trans (hb7.mono t6.size)⟩

set_option maxRecDepth 100000 in
theorem liftedFnTiesTurn (os : Os) (started : os.Started) (H : Type) (enc : TypeId × Value → H) :
    ReturnsInHanded {} Try.checked os 5 .any (Rows.fnTiesTurnSpec.pre6 enc Try.prog Try.f5 Rows.fnTiesTurnRow.domain false) (Rows.fnTiesTurnSpec.post enc Try.prog Try.f5 false true false false) := by
  refine returnsInHanded_of_change (C := Try.checked) own_ started (by kernel_rfl) Try.func5
    (ChangeSpec.witness6 (enc := enc) (C := Try.checked) false ⟨#[], #[.slice none 0 0], []⟩ 8 (by kernel_rfl) (by kernel_rfl) (by kernel_rfl) (by kernel_rfl)) ?_
  intro W base args ds gs before hval0 hW hcnd _
  have hval : ∀ (j : Nat) t v, Try.f5.params[j]? = some t → args[j]? = some v → Value.okWide Try.prog W .any base t v := hval0
  have hW' := hW
  obtain ⟨p, q, hA0, hV, rfl, hfz, hnd⟩ := hW
  have hA : DataW.TrodAll enc Try.prog W 0 (fun _ => true) true Try.f5.params.toList args.toList ds p := hA0
  rw [Try.params5] at hA hval
  obtain ⟨v0, vs0, d0, ds0, p0, q0, hargs, rfl, rfl, h0, r0⟩ := trodAll_cons hA
  obtain ⟨rfl, rfl, rfl⟩ := trodAll_nil r0
  obtain rfl : args = #[v0] := by cases args; simp_all
  obtain ⟨rfl, rfl⟩ := trodVars_none hV
  obtain ⟨a0, n0, c0, rfl⟩ := okWide_slice Try.underlying29 (hval 0 29 v0 rfl rfl)
  have kk0 := h0
  have lt0 : ∀ x ∈ p0, x.block < W.heap.size := by obtain ⟨m, hm⟩ := kk0; exact DataW.trod_lt m _ _ _ hm
  obtain ⟨l0, e0, g0, w0, b0, bm0⟩ : ∃ l : List Int, l.length = n0 ∧ RdI W W.heap.size .u8 a0 l ∧ (∀ z ∈ l, (Lit.int .u8 z).wf = true) ∧ n0 ≤ c0 ∧ c0 ≤ maxLen := by
    obtain ⟨fuel, hf⟩ := h0
    exact openI Try.underlying29 Try.underlying5 (by kernel_rfl) (by simpa [Value.cells] using hf)
  subst e0
  clear hA0 hval0
  refine (walkFnTiesTurn a0 c0 l0 W g0 (wf_bytes w0) b0 (by unfold maxLen at bm0; omega)).mono fun e W' ⟨he, bel⟩ => ?_
  subst he
  exact ⟨_, rfl, _, _, _, [], _, [], hW', trodAll_mk1 (shut_bool Try.underlying4 _), (trodAll_cons_mk (Below.trod laidOut_ (by kernel_rfl) (of_decide_eq_true (by kernel_rfl)) kk0 bel lt0) trodAll_mk0), rfl, bel.frame _, fun h => by cases h⟩

theorem fnTiesTurn_holds : Rows.FnTiesTurnSaid :=
  OpenClaim.holds_of_wide 5 Try.f5 rfl rfl rfl rfl rfl rfl rfl ⟨rfl, rfl, rfl, rfl, rfl⟩ rfl rfl rfl rfl rfl (by kernel_rfl) Try.func5 (by kernel_rfl)
    (of_decide_eq_true (by kernel_rfl)) (by unfold Func.isWrapper; first | (rw [if_pos (by decide +kernel)]; kernel_rfl) | (rw [if_neg (by decide +kernel)]; exact ⟨rfl, rfl⟩))
    (fun os started H enc _ => liftedFnTiesTurn os started H enc)

end Go.Proofs.Ytjeghfhgamfmdaa
