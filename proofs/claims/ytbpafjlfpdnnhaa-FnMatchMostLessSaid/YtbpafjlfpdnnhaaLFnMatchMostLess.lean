/- The statement FnMatchMostLessSaid: for all arguments the Go function laws.FnMatchMostLess returns true and leaves its arguments as they were. No condition. -/
import Derived.Test.YtbpafjlfpdnnhaaMM
import Derived.Test.YtbpafjlfpdnnhaaMatchTop
import Derived.Test.YtbpafjlfpdnnhaaDrawE
import Derived.Test.YtbpafjlfpdnnhaaMore
import Derived.Test.YtbpafjlfpdnnhaaFrame
namespace Go.Proofs.Ytbpafjlfpdnnhaa
open Go.ChangeShapes Go.WideShapes Go.ChangeAt Go.RowKit

set_option maxHeartbeats 4000000 in
theorem walkFnMatchMostLess (A0 : Option Addr) (c0 : Nat) (l0 : List Int) (w : World) (r0 : RdI w w.heap.size .u8 A0 l0) (y0 : ∀ x ∈ l0, 0 ≤ x ∧ x ≤ 255) (k0 : l0.length ≤ c0) (m0 : c0 ≤ 9223372036854775807) :
    Calls Try.prog 11 #[.slice A0 l0.length c0] w fun e w' => e = .returned (.bool true) ∧ Below w.heap.size w w' := by
  by_cases z0 : 1048576 < l0.length
  · clear r0 y0
    go_enter Try.func11, Try.ntmps11
    go_wp2_with fail
    go_ret
    exact ⟨rfl, Below.refl _ _⟩
  have Y0 := Lib.hid y0
  clear y0
  go_enter Try.func11, Try.ntmps11
  go_wp2_with fail
  refine (DrawMatchMost_any A0 c0 l0 _ r0 Y0.out (by omega) k0 m0).mono ?_
  rintro e u1 ⟨AL, cL, L, AM, cM, M, t, rfl, hL, hM, hsL, hsM, ⟨ht0, ht1⟩, oL, oM, b1⟩
  have s1 := b1.size
  have t1 := b1
  have wL := own_cap oL
  have rL := Rd.of_own oL
  clear oL
  have wM := own_cap oM
  have rM := Rd.of_own oM
  clear oM
  clear b1
  clear r0
  go_wp2_with fail
  refine (matchMost_any AL AM cL cM (L) (M) t _ rL rM (by omega) (by omega)).mono ?_
  rintro e u2 ⟨rfl, b2⟩
  have s2 := b2.size
  have t2 := t1.trans (b2.mono t1.size)
  have rL := rL.to b2
  have rM := rM.to b2
  clear b2 t1
  go_wp2_with fail
  refine (specMatchMost_any AL AM cL cM (L) (M) t _ rL rM (by omega) (by omega)).mono ?_
  rintro e u3 ⟨rfl, b3⟩
  have s3 := b3.size
  have t3 := t2.trans (b3.mono t2.size)
  have rL := rL.to b3
  have rM := rM.to b3
  clear b3 t2
  cases hok : mtb L M t with
  | false =>
    rw [mmV_no hok]
    go_wp2_with fail
    go_ret
    exact ⟨ret_bool (by simp), t3⟩
  | true =>
    rw [mmV_yes hok]
    generalize hm : mostL t (szL L) (szL M) = m
    have HOK := Lib.hid hok
    have HM := Lib.hid hm
    obtain ⟨_, _, f1, f2⟩ := mtb_parts hok
    have e1 := mmV_bd L M (t + 1)
    have e2 : t < 1000 → (m : Int) ≤ mmV L M (t + 1) := fun h => by rw [← hm]; exact mmV_more hok h
    have e3 : 0 < L.length → mmV (L.take (L.length - 1)) M t = (m : Int) ∨ mmV (L.take (L.length - 1)) M t = (m : Int) - 1 := fun h => by rw [← hm]; exact mmV_less hok h
    have e4 : L.length = 0 → m = 0 := fun h => by rw [← hm]; exact most_nil h
    have e8 := (mostL_le t (szL L) (szL M)).1
    rw [hm, length_szL] at e8
    have E2 := Lib.hid e2
    have E3 := Lib.hid e3
    have E4 := Lib.hid e4
    clear e2 e3 e4 hok hm
    go_wp2_with fail
    refine (matchMost_any AL AM cL cM (L) (M) (t + 1) _ rL rM (by omega) (by omega)).mono ?_
    rintro e u4 ⟨rfl, b4⟩
    have s4 := b4.size
    have t4 := t3.trans (b4.mono t3.size)
    have rL := rL.to b4
    have rM := rM.to b4
    clear b4 t3
    generalize hq : mmV L M (t + 1) = q at e1 E2 ⊢
    clear hq
    by_cases h0 : L.length = 0
    · have g1 : ((L.length : Int) == 0) = true := by simp [h0]
      have e5 := E4.out h0
      have g2 : ((m : Int) == 0) = true := by simp [e5]
      have H0 := Lib.hid h0
      clear h0 e5
      go_wp2_with fail
      go_ret
      exact ⟨ret_bool (rfl), t4⟩
    · have g1 : ((L.length : Int) == 0) = false := by simp; intro h; simp [h] at h0
      have g3 : (1 : Int) ≤ (L.length : Int) := by omega
      have g4 : ((L.length : Int) - 1).toNat = L.length - 1 := by omega
      have g5 : (0 : Int) ≤ (L.length : Int) - 1 ∧ (L.length : Int) - 1 ≤ (cL : Int) := by omega
      have g6 : (L.take (L.length - 1)).length = L.length - 1 := by rw [List.length_take]; omega
      have e6 := E3.out (by omega)
      have C1 := fun (u : World) (r : Rd u u.heap.size AL L) (s : Rd u u.heap.size AM M) => matchMost_any AL AM cL cM (L.take (L.length - 1)) M t u (r.take _) s (by omega) (by omega)
      rw [g6] at C1
      generalize mmV (L.take (L.length - 1)) M t = x at e6 C1
      have E6 := Lib.hid e6
      have C2 := Lib.hid C1
      clear C1 e6 g6 h0
      go_wp2_with fail
      refine (C2.out _ rL rM).mono ?_
      rintro e u5 ⟨rfl, b5⟩
      have s5 := b5.size
      have t5 := t4.trans (b5.mono t4.size)
      have rL := rL.to b5
      have rM := rM.to b5
      clear b5 t4
      have e6 := E6.out
      have e7 := E2.out
      clear C2 E6 E2 E3 E4
      have g7 : t < 1000 ∨ t = 1000 := by omega
      have g8 : decide ((m : Int) ≤ q) = true ∨ (t == 1000) = true := by rcases g7 with h | h; (have := e7 h; left; simpa using this); (right; simp [h])
      have g9 : (x == (m : Int)) = true ∨ (x == (m : Int)) = false ∧ (x == (m : Int) - 1) = true := by rcases e6 with h | h; (left; simp [h]); (right; simp [h]; omega)
      clear e6 e7 g7
      rcases g9 with g9 | ⟨g9, g10⟩
      all_goals
        cases hq2 : decide ((m : Int) ≤ q) with
        | true =>
          go_wp2_with fail
          all_goals
            go_ret
            exact ⟨ret_bool (rfl), t5⟩
        | false =>
          have g11 : (t == 1000) = true := by rcases g8 with h | h; (rw [hq2] at h; cases h); exact h
          go_wp2_with fail
          all_goals
            go_ret
            exact ⟨ret_bool (rfl), t5⟩

set_option maxRecDepth 100000 in
theorem liftedFnMatchMostLess (os : Os) (started : os.Started) (H : Type) (enc : TypeId × Value → H) :
    ReturnsInHanded {} Try.checked os 11 .any (Rows.fnMatchMostLessSpec.pre6 enc Try.prog Try.f11 Rows.fnMatchMostLessRow.domain false) (Rows.fnMatchMostLessSpec.post enc Try.prog Try.f11 false true false false) := by
  refine returnsInHanded_of_change (C := Try.checked) own_ started (by kernel_rfl) Try.func11
    (ChangeSpec.witness6 (enc := enc) (C := Try.checked) false ⟨#[], #[.slice none 0 0], []⟩ 8 (by kernel_rfl) (by kernel_rfl) (by kernel_rfl) (by kernel_rfl)) ?_
  intro W base args ds gs before hval0 hW hcnd _
  have hval : ∀ (j : Nat) t v, Try.f11.params[j]? = some t → args[j]? = some v → Value.okWide Try.prog W .any base t v := hval0
  have hW' := hW
  obtain ⟨p, q, hA0, hV, rfl, hfz, hnd⟩ := hW
  have hA : DataW.TrodAll enc Try.prog W 0 (fun _ => true) true Try.f11.params.toList args.toList ds p := hA0
  rw [Try.params11] at hA hval
  obtain ⟨v0, vs0, d0, ds0, p0, q0, hargs, rfl, rfl, h0, r0⟩ := trodAll_cons hA
  obtain ⟨rfl, rfl, rfl⟩ := trodAll_nil r0
  obtain rfl : args = #[v0] := by cases args; simp_all
  obtain ⟨rfl, rfl⟩ := trodVars_none hV
  obtain ⟨a0, n0, c0, rfl⟩ := okWide_slice Try.underlying29 (hval 0 29 v0 rfl rfl)
  have kk0 := h0
  have lt0 : ∀ x ∈ p0, x.block < W.heap.size := by obtain ⟨m, hm⟩ := kk0; exact DataW.trod_lt m _ _ _ hm
  obtain ⟨l0, e0, g0, w0, b0, bm0⟩ : ∃ l : List Int, l.length = n0 ∧ RdI W W.heap.size .u8 a0 l ∧ (∀ z ∈ l, (Lit.int .u8 z).wf = true) ∧ n0 ≤ c0 ∧ c0 ≤ maxLen := by
    obtain ⟨fuel, hf⟩ := h0
    exact openI Try.underlying29 Try.underlying5 (by kernel_rfl) (by simpa [Value.cells] using hf)
  subst e0
  clear hA0 hval0
  refine (walkFnMatchMostLess a0 c0 l0 W g0 (wf_bytes w0) b0 (by unfold maxLen at bm0; omega)).mono fun e W' ⟨he, bel⟩ => ?_
  subst he
  exact ⟨_, rfl, _, _, _, [], _, [], hW', trodAll_mk1 (shut_bool Try.underlying4 _), (trodAll_cons_mk (Below.trod laidOut_ (by kernel_rfl) (of_decide_eq_true (by kernel_rfl)) kk0 bel lt0) trodAll_mk0), rfl, bel.frame _, fun h => by cases h⟩

theorem fnMatchMostLess_holds : Rows.FnMatchMostLessSaid :=
  OpenClaim.holds_of_wide 11 Try.f11 rfl rfl rfl rfl rfl rfl rfl ⟨rfl, rfl, rfl, rfl, rfl⟩ rfl rfl rfl rfl rfl (by kernel_rfl) Try.func11 (by kernel_rfl)
    (of_decide_eq_true (by kernel_rfl)) (by unfold Func.isWrapper; first | (rw [if_pos (by decide +kernel)]; kernel_rfl) | (rw [if_neg (by decide +kernel)]; exact ⟨rfl, rfl⟩))
    (fun os started H enc _ => liftedFnMatchMostLess os started H enc)

end Go.Proofs.Ytbpafjlfpdnnhaa
