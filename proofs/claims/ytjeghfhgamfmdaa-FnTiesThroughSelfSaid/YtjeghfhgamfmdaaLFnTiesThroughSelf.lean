/- The statement FnTiesThroughSelfSaid: for all arguments the Go function laws.FnTiesThroughSelf returns true and leaves its arguments as they were. No condition. -/
import Derived.Test.YtjeghfhgamfmdaaThrough
import Derived.Test.YtjeghfhgamfmdaaThroughS
import Derived.Test.YtjeghfhgamfmdaaTop
import Derived.Test.YtjeghfhgamfmdaaDrawTT
import Derived.Test.YtjeghfhgamfmdaaTiesMore
import Derived.Test.YtjeghfhgamfmdaaFrame
namespace Go.Proofs.Ytjeghfhgamfmdaa
open Go.ChangeShapes Go.WideShapes Go.ChangeAt Go.RowKit

set_option maxHeartbeats 4000000 in
theorem walkFnTiesThroughSelf (A0 : Option Addr) (c0 : Nat) (l0 : List Int) (w : World) (r0 : RdI w w.heap.size .u8 A0 l0) (y0 : ∀ x ∈ l0, 0 ≤ x ∧ x ≤ 255) (k0 : l0.length ≤ c0) (m0 : c0 ≤ 9223372036854775807) :
    Calls Try.prog 10 #[.slice A0 l0.length c0] w fun e w' => e = .returned (.bool true) ∧ Below w.heap.size w w' := by
  by_cases z0 : 1048576 < l0.length
  · clear r0 y0
    go_enter Try.func10, Try.ntmps10
    go_wp2_with fail
    go_ret
    exact ⟨rfl, Below.refl _ _⟩
  have Y0 := Lib.hid y0
  clear y0
  go_enter Try.func10, Try.ntmps10
  go_wp2_with fail
  refine (DrawTiesThrough_any A0 c0 l0 _ r0 Y0.out (by omega) k0 m0).mono ?_
  rintro e u1 ⟨AL, cL, L, AM, cM, M, rfl, hL, hM, _, _, oL, oM, b1⟩
  have s1 := b1.size
  have t1 := b1
  have rL := Rd.of_own oL
  clear oL
  have rM := Rd.of_own oM
  clear oM
  clear b1
  clear r0
  have hr := thrL_len L M
  go_wp2_with fail
  refine (through_any AL AM cL cM (L) (M) _ rL rM (by omega) (by omega)).mono ?_
  rintro e u2 ⟨Ao, co, rfl, oo, b2⟩
  have s2 := b2.size
  have t2 := t1.trans (b2.mono t1.size)
  have rL := rL.to b2
  have rM := rM.to b2
  have ro := Rd.of_own oo
  clear oo
  clear b2 t1
  go_wp2_with fail
  refine (specThrough_any AL AM cL cM (L) (M) _ rL rM (by omega) (by omega)).mono ?_
  rintro e u3 ⟨Aw, cw, rfl, ow, b3⟩
  have s3 := b3.size
  have t3 := t2.trans (b3.mono t2.size)
  have rL := rL.to b3
  have rM := rM.to b3
  have ro := ro.to b3
  have rw := Rd.of_own ow
  clear ow
  clear b3 t2
  go_wp2_with fail
  generalize hok : (tv L && tv M) = ok
  cases ok with
  | false =>
    go_wp2_with fail
    refine (sameTies_any Ao Aw co cw (thrL L M) (thrL L M) _ ro rw (by omega)).mono ?_
    rintro e u4 ⟨rfl, b4⟩
    have s4 := b4.size
    have t4 := t3.trans (b4.mono t3.size)
    have rL := rL.to b4
    have rM := rM.to b4
    have ro := ro.to b4
    have rw := rw.to b4
    clear b4 t3
    go_wp2_with fail
    refine (sameTies_any Ao Aw co cw (thrL L M) (thrL L M) _ ro rw (by omega)).mono ?_
    rintro e u5 ⟨rfl, b5⟩
    have s5 := b5.size
    have t5 := t4.trans (b5.mono t4.size)
    have rL := rL.to b5
    have rM := rM.to b5
    have ro := ro.to b5
    have rw := rw.to b5
    clear b5 t4
    go_wp2_with fail
    go_ret
    exact ⟨ret_bool (by simp), t5⟩
  | true =>
    go_wp2_with fail
    refine (sameTies_any Ao Aw co cw (thrL L M) (thrL L M) _ ro rw (by omega)).mono ?_
    rintro e u4 ⟨rfl, b4⟩
    have s4 := b4.size
    have t4 := t3.trans (b4.mono t3.size)
    have rL := rL.to b4
    have rM := rM.to b4
    have ro := ro.to b4
    have rw := rw.to b4
    clear b4 t3
    clear rw
    have hvL : tv L = true := by cases h : tv L <;> simp_all
    have hvM : tv M = true := by cases h : tv M <;> simp_all
    have pL := ((tv_iff L).1 hvL).2.1
    have pM := ((tv_iff M).1 hvM).2.1
    have E := Lib.hid (thrL_yes hok)
    clear hok
    have v1 := tv_turnL hvL
    have hz : (thrL L M).length ≤ L.length := by rw [E.out]; exact length_thr_left pM
    have e1 : thrL L (turnL L) = L.map fun p => (p.1, p.1) := by rw [thrL_yes (by rw [hvL, v1]; rfl), turnL_yes hvL, thr_self pL]
    have n1 := turnL_len L
    have el : (thrL L (turnL L)).length = L.length := by rw [e1, List.length_map]
    have eA : ∀ k, k < L.length → fA (thrL L (turnL L)) k = fA L k ∧ fB (thrL L (turnL L)) k = fA L k := fun k hk => by rw [e1]; simp [fA, fB, hk]
    have EA := Lib.hid eA
    clear eA e1
    go_wp2_with fail
    refine (tiesTurn_any AL cL (L) _ rL (by omega)).mono ?_
    rintro e u5 ⟨Ax, cx, rfl, ox, b5⟩
    have s5 := b5.size
    have t5 := t4.trans (b5.mono t4.size)
    have rL := rL.to b5
    have rM := rM.to b5
    have ro := ro.to b5
    have rx := Rd.of_own ox
    clear ox
    clear b5 t4
    go_wp2_with fail
    refine (through_any AL Ax cL cx (L) (turnL L) _ rL rx (by omega) (by omega)).mono ?_
    rintro e u6 ⟨Ay, cy, rfl, oy, b6⟩
    have s6 := b6.size
    have t6 := t5.trans (b6.mono t5.size)
    have rL := rL.to b6
    have rM := rM.to b6
    have ro := ro.to b6
    have rx := rx.to b6
    have ry := Rd.of_own oy
    clear oy
    clear b6 t5
    have el2 : ((thrL L (turnL L)).length : Int) = (L.length : Int) := by rw [el]
    have EL := Lib.hid el
    have el3 : (((thrL L (turnL L)).length : Int) != (L.length : Int)) = false := by simp [el]
    have el4 : (((thrL L (turnL L)).length : Int) == (L.length : Int)) = true := by simp [el]
    have el5 : (thrL L (turnL L)).length ≤ L.length := by omega
    have el6 : L.length ≤ (thrL L (turnL L)).length := by omega
    clear el el2
    go_wp2_with fail
    go_loopw [13] (fun i wr => ∃ k : Nat, k ≤ L.length ∧ i = .int .i64 k ∧ Below u6.heap.size u6 wr) (fun i _ => L.length - (intOf i).toNat)
    case atStart => exact ⟨0, Nat.zero_le _, rfl, Below.refl _ _⟩
    case round =>
      obtain ⟨k, hk, rfl, hb⟩ := hrel
      by_cases hlt : k < L.length
      · have hlt2 : k < (thrL L (turnL L)).length := by omega
        obtain ⟨q1, q2⟩ := EA.out k hlt
        obtain ⟨b, o, hLA, hB, hcs⟩ := (rL.to hb) (by omega)
        obtain ⟨b2, o2, hyA, hB2, hct⟩ := (ry.to hb) (by omega)
        obtain ⟨c1, _⟩ := hcs k hlt
        obtain ⟨c3, c4⟩ := hct k hlt2
        rw [q1] at c3
        rw [q2] at c4
        have hkz : (0 : Int) ≤ (k : Int) := by omega
        have hkl : (k : Int) < (L.length : Int) := by omega
        have hkl2 : (k : Int) < ((thrL L (turnL L)).length : Int) := by omega
        have hne : (fA L k != fA L k) = false := by simp
        clear hcs hct q1 q2 ro rM rL ry rx
        subst hLA hyA
        go_wp2_with fail
        go_quiet (fail)
        go_wp2
        exact ⟨⟨k + 1, hlt, by go_num, below_drewN hb _⟩, by simp [intOf]; omega⟩
      · have hge : (thrL L (turnL L)).length ≤ k := by omega
        clear ro rM rL ry rx
        go_wp2
        go_ret
        exact ⟨ret_bool rfl, t6.trans (hb.mono t6.size)⟩

set_option maxRecDepth 100000 in
theorem liftedFnTiesThroughSelf (os : Os) (started : os.Started) (H : Type) (enc : TypeId × Value → H) :
    ReturnsInHanded {} Try.checked os 10 .any (Rows.fnTiesThroughSelfSpec.pre6 enc Try.prog Try.f10 Rows.fnTiesThroughSelfRow.domain false) (Rows.fnTiesThroughSelfSpec.post enc Try.prog Try.f10 false true false false) := by
  refine returnsInHanded_of_change (C := Try.checked) own_ started (by kernel_rfl) Try.func10
    (ChangeSpec.witness6 (enc := enc) (C := Try.checked) false ⟨#[], #[.slice none 0 0], []⟩ 8 (by kernel_rfl) (by kernel_rfl) (by kernel_rfl) (by kernel_rfl)) ?_
  intro W base args ds gs before hval0 hW hcnd _
  have hval : ∀ (j : Nat) t v, Try.f10.params[j]? = some t → args[j]? = some v → Value.okWide Try.prog W .any base t v := hval0
  have hW' := hW
  obtain ⟨p, q, hA0, hV, rfl, hfz, hnd⟩ := hW
  have hA : DataW.TrodAll enc Try.prog W 0 (fun _ => true) true Try.f10.params.toList args.toList ds p := hA0
  rw [Try.params10] at hA hval
  obtain ⟨v0, vs0, d0, ds0, p0, q0, hargs, rfl, rfl, h0, r0⟩ := trodAll_cons hA
  obtain ⟨rfl, rfl, rfl⟩ := trodAll_nil r0
  obtain rfl : args = #[v0] := by cases args; simp_all
  obtain ⟨rfl, rfl⟩ := trodVars_none hV
  obtain ⟨a0, n0, c0, rfl⟩ := okWide_slice Try.underlying29 (hval 0 29 v0 rfl rfl)
  have kk0 := h0
  have lt0 : ∀ x ∈ p0, x.block < W.heap.size := by obtain ⟨m, hm⟩ := kk0; exact DataW.trod_lt m _ _ _ hm
  obtain ⟨l0, e0, g0, w0, b0, bm0⟩ : ∃ l : List Int, l.length = n0 ∧ RdI W W.heap.size .u8 a0 l ∧ (∀ z ∈ l, (Lit.int .u8 z).wf = true) ∧ n0 ≤ c0 ∧ c0 ≤ maxLen := by
    obtain ⟨fuel, hf⟩ := h0
    exact openI Try.underlying29 Try.underlying5 (by kernel_rfl) (by simpa [Value.cells] using hf)
  subst e0
  clear hA0 hval0
  refine (walkFnTiesThroughSelf a0 c0 l0 W g0 (wf_bytes w0) b0 (by unfold maxLen at bm0; omega)).mono fun e W' ⟨he, bel⟩ => ?_
  subst he
  exact ⟨_, rfl, _, _, _, [], _, [], hW', trodAll_mk1 (shut_bool Try.underlying4 _), (trodAll_cons_mk (Below.trod laidOut_ (by kernel_rfl) (of_decide_eq_true (by kernel_rfl)) kk0 bel lt0) trodAll_mk0), rfl, bel.frame _, fun h => by cases h⟩

theorem fnTiesThroughSelf_holds : Rows.FnTiesThroughSelfSaid :=
  OpenClaim.holds_of_wide 10 Try.f10 rfl rfl rfl rfl rfl rfl rfl ⟨rfl, rfl, rfl, rfl, rfl⟩ rfl rfl rfl rfl rfl (by kernel_rfl) Try.func10 (by kernel_rfl)
    (of_decide_eq_true (by kernel_rfl)) (by unfold Func.isWrapper; first | (rw [if_pos (by decide +kernel)]; kernel_rfl) | (rw [if_neg (by decide +kernel)]; exact ⟨rfl, rfl⟩))
    (fun os started H enc _ => liftedFnTiesThroughSelf os started H enc)

end Go.Proofs.Ytjeghfhgamfmdaa
