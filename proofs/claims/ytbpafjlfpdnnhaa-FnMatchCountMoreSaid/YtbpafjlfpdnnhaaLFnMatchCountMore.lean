/- The statement FnMatchCountMoreSaid: for all arguments the Go function laws.FnMatchCountMore returns true and leaves its arguments as they were. No condition. -/
import Derived.Test.YtbpafjlfpdnnhaaMM
import Derived.Test.YtbpafjlfpdnnhaaCount
import Derived.Test.YtbpafjlfpdnnhaaCountTop
import Derived.Test.YtbpafjlfpdnnhaaDrawE
import Derived.Test.YtbpafjlfpdnnhaaFrame
namespace Go.Proofs.Ytbpafjlfpdnnhaa
open Go.ChangeShapes Go.WideShapes Go.ChangeAt Go.RowKit

set_option maxHeartbeats 4000000 in
theorem walkFnMatchCountMore (A0 : Option Addr) (c0 : Nat) (l0 : List Int) (w : World) (r0 : RdI w w.heap.size .u8 A0 l0) (y0 : ∀ x ∈ l0, 0 ≤ x ∧ x ≤ 255) (k0 : l0.length ≤ c0) (m0 : c0 ≤ 9223372036854775807) :
    Calls Try.prog 13 #[.slice A0 l0.length c0] w fun e w' => e = .returned (.bool true) ∧ Below w.heap.size w w' := by
  by_cases z0 : 1048576 < l0.length
  · clear r0 y0
    go_enter Try.func13, Try.ntmps13
    go_wp2_with fail
    go_ret
    exact ⟨rfl, Below.refl _ _⟩
  have Y0 := Lib.hid y0
  clear y0
  go_enter Try.func13, Try.ntmps13
  go_wp2_with fail
  refine (DrawMatchCount_any A0 c0 l0 _ r0 Y0.out (by omega) k0 m0).mono ?_
  rintro e u1 ⟨AL, cL, L, AM, cM, M, t, rfl, hL, hM, hsL, hsM, ⟨ht0, ht1⟩, oL, oM, b1⟩
  have s1 := b1.size
  have t1 := b1
  have rL := Rd.of_own oL
  clear oL
  have rM := Rd.of_own oM
  clear oM
  clear b1
  clear r0
  go_wp2_with fail
  refine (matchCount_any AL AM cL cM (L) (M) t _ rL rM (by omega) (by omega)).mono ?_
  rintro e u2 ⟨rfl, b2⟩
  have s2 := b2.size
  have t2 := t1.trans (b2.mono t1.size)
  have rL := rL.to b2
  have rM := rM.to b2
  clear b2 t1
  go_wp2_with fail
  refine (specMatchCount_any AL AM cL cM (L) (M) t _ rL rM (by omega) (by omega)).mono ?_
  rintro e u3 ⟨rfl, b3⟩
  have s3 := b3.size
  have t3 := t2.trans (b3.mono t2.size)
  have rL := rL.to b3
  have rM := rM.to b3
  clear b3 t2
  cases hok : mtb L M t with
  | false =>
    rw [mcV_no hok]
    go_wp2_with fail
    go_ret
    exact ⟨ret_bool (by simp), t3⟩
  | true =>
    rw [mcV_yes hok]
    generalize hm : countL t (szL L) (szL M) = m
    have HOK := Lib.hid hok
    have HM := Lib.hid hm
    obtain ⟨v1, v2, f1, f2⟩ := mtb_parts hok
    have e1 := mcV_bd L M (t + 1)
    have e2 : t < 1000 → (m : Int) ≤ mcV L M (t + 1) := fun h => by rw [← hm]; exact mcV_more hok h
    have e3 := mcV_all (a := L) (b := M) v1 v2
    have E2 := Lib.hid e2
    have E3 := Lib.hid e3
    clear e2 e3 hok hm v1 v2
    go_wp2_with fail
    refine (matchCount_any AL AM cL cM (L) (M) (t + 1) _ rL rM (by omega) (by omega)).mono ?_
    rintro e u4 ⟨rfl, b4⟩
    have s4 := b4.size
    have t4 := t3.trans (b4.mono t3.size)
    have rL := rL.to b4
    have rM := rM.to b4
    clear b4 t3
    generalize hq : mcV L M (t + 1) = q at e1 E2 ⊢
    clear hq
    go_wp2_with fail
    refine (matchCount_any AL AM cL cM (L) (M) 1000 _ rL rM (by omega) (by omega)).mono ?_
    rintro e u5 ⟨rfl, b5⟩
    have s5 := b5.size
    have t5 := t4.trans (b5.mono t4.size)
    have rL := rL.to b5
    have rM := rM.to b5
    clear b5 t4
    rw [E3.out]
    go_wp2_with fail
    go_loopw [13, 12] (fun i v wr => ∃ k : Nat, k ≤ L.length ∧ i = .int .i64 ((k : Int) + 1) ∧ v = .int .i64 (pas k M.length : Nat) ∧ wr = u5) (fun i _ _ => L.length + 1 - (intOf i).toNat)
    case atStart => exact ⟨0, Nat.zero_le _, by go_num, rfl, rfl⟩
    case round =>
      obtain ⟨k, hk, rfl, rfl, rfl⟩ := hrel
      by_cases hlt : k < L.length
      · have g0 := pas_small k (by omega) M.length (by omega)
        have g1 := pas_step k (by omega) M.length (by omega)
        generalize pas k M.length = p at *
        have g2 : p * (M.length + (k + 1)) ≤ 12870 * 20 := Nat.mul_le_mul g0 (by omega)
        have g3 : (p : Int) * ((M.length : Int) + ((k : Int) + 1)) = ((p * (M.length + (k + 1)) : Nat) : Int) := by simp
        have g4 : ((p * (M.length + (k + 1)) : Nat) : Int) / ((k : Int) + 1) = (pas (k + 1) M.length : Nat) := by rw [← g1]; simp
        have g5 : IntKind.i64.wrap ((p : Int) * ((M.length : Int) + ((k : Int) + 1))) = ((p * (M.length + (k + 1)) : Nat) : Int) := by rw [g3]; exact IntWalk.i64_in _ (by omega)
        have g6 : (0 : Int) ≤ ((p * (M.length + (k + 1)) : Nat) : Int) ∧ ((p * (M.length + (k + 1)) : Nat) : Int) ≤ 1000000 := by omega
        have g9 := pas_small (k + 1) (by omega) M.length (by omega)
        have G4 := Lib.hid g4
        have g10 : (0 : Int) ≤ ((p * (M.length + (k + 1)) : Nat) : Int) / ((k : Int) + 1) ∧ ((p * (M.length + (k + 1)) : Nat) : Int) / ((k : Int) + 1) ≤ 12870 := by rw [g4]; omega
        clear g9
        generalize p * (M.length + (k + 1)) = P at *
        clear g1 g2 g3 g4
        have k1 : (k : Int) + 1 ≤ (L.length : Int) := by omega
        go_wp2
        exact ⟨⟨k + 1, hlt, by go_num, by rw [← G4.out], by first | rfl | trivial⟩, by simp [intOf]; omega⟩
      · obtain rfl : k = L.length := by omega
        have g7 : t < 1000 ∨ t = 1000 := by omega
        have e7 := E2.out
        have g8 : decide ((m : Int) ≤ q) = true ∨ (t == 1000) = true := by rcases g7 with h | h; (have := e7 h; left; simpa using this); (right; simp [h])
        clear e7 g7 E2
        cases hq2 : decide ((m : Int) ≤ q) with
        | true =>
          go_wp2_with fail
          all_goals
            go_ret
            exact ⟨ret_bool (rfl), t5⟩
        | false =>
          have g11 : (t == 1000) = true := by rcases g8 with h | h; (rw [hq2] at h; cases h); exact h
          go_wp2_with fail
          all_goals
            go_ret
            exact ⟨ret_bool (rfl), t5⟩

set_option maxRecDepth 100000 in
theorem liftedFnMatchCountMore (os : Os) (started : os.Started) (H : Type) (enc : TypeId × Value → H) :
    ReturnsInHanded {} Try.checked os 13 .any (Rows.fnMatchCountMoreSpec.pre6 enc Try.prog Try.f13 Rows.fnMatchCountMoreRow.domain false) (Rows.fnMatchCountMoreSpec.post enc Try.prog Try.f13 false true false false) := by
  refine returnsInHanded_of_change (C := Try.checked) own_ started (by kernel_rfl) Try.func13
    (ChangeSpec.witness6 (enc := enc) (C := Try.checked) false ⟨#[], #[.slice none 0 0], []⟩ 8 (by kernel_rfl) (by kernel_rfl) (by kernel_rfl) (by kernel_rfl)) ?_
  intro W base args ds gs before hval0 hW hcnd _
  have hval : ∀ (j : Nat) t v, Try.f13.params[j]? = some t → args[j]? = some v → Value.okWide Try.prog W .any base t v := hval0
  have hW' := hW
  obtain ⟨p, q, hA0, hV, rfl, hfz, hnd⟩ := hW
  have hA : DataW.TrodAll enc Try.prog W 0 (fun _ => true) true Try.f13.params.toList args.toList ds p := hA0
  rw [Try.params13] at hA hval
  obtain ⟨v0, vs0, d0, ds0, p0, q0, hargs, rfl, rfl, h0, r0⟩ := trodAll_cons hA
  obtain ⟨rfl, rfl, rfl⟩ := trodAll_nil r0
  obtain rfl : args = #[v0] := by cases args; simp_all
  obtain ⟨rfl, rfl⟩ := trodVars_none hV
  obtain ⟨a0, n0, c0, rfl⟩ := okWide_slice Try.underlying29 (hval 0 29 v0 rfl rfl)
  have kk0 := h0
  have lt0 : ∀ x ∈ p0, x.block < W.heap.size := by obtain ⟨m, hm⟩ := kk0; exact DataW.trod_lt m _ _ _ hm
  obtain ⟨l0, e0, g0, w0, b0, bm0⟩ : ∃ l : List Int, l.length = n0 ∧ RdI W W.heap.size .u8 a0 l ∧ (∀ z ∈ l, (Lit.int .u8 z).wf = true) ∧ n0 ≤ c0 ∧ c0 ≤ maxLen := by
    obtain ⟨fuel, hf⟩ := h0
    exact openI Try.underlying29 Try.underlying5 (by kernel_rfl) (by simpa [Value.cells] using hf)
  subst e0
  clear hA0 hval0
  refine (walkFnMatchCountMore a0 c0 l0 W g0 (wf_bytes w0) b0 (by unfold maxLen at bm0; omega)).mono fun e W' ⟨he, bel⟩ => ?_
  subst he
  exact ⟨_, rfl, _, _, _, [], _, [], hW', trodAll_mk1 (shut_bool Try.underlying4 _), (trodAll_cons_mk (Below.trod laidOut_ (by kernel_rfl) (of_decide_eq_true (by kernel_rfl)) kk0 bel lt0) trodAll_mk0), rfl, bel.frame _, fun h => by cases h⟩

theorem fnMatchCountMore_holds : Rows.FnMatchCountMoreSaid :=
  OpenClaim.holds_of_wide 13 Try.f13 rfl rfl rfl rfl rfl rfl rfl ⟨rfl, rfl, rfl, rfl, rfl⟩ rfl rfl rfl rfl rfl (by kernel_rfl) Try.func13 (by kernel_rfl)
    (of_decide_eq_true (by kernel_rfl)) (by unfold Func.isWrapper; first | (rw [if_pos (by decide +kernel)]; kernel_rfl) | (rw [if_neg (by decide +kernel)]; exact ⟨rfl, rfl⟩))
    (fun os started H enc _ => liftedFnMatchCountMore os started H enc)

end Go.Proofs.Ytbpafjlfpdnnhaa
