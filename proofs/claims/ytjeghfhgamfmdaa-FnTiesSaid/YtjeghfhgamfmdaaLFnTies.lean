/- The statement FnTiesSaid: for all arguments the Go function laws.FnTies returns true and leaves its arguments as they were. No condition. -/
import Derived.Test.YtjeghfhgamfmdaaTv
import Derived.Test.YtjeghfhgamfmdaaDrawT
import Derived.Test.YtjeghfhgamfmdaaTop
import Derived.Test.YtjeghfhgamfmdaaTiesMore
import Derived.Test.YtjeghfhgamfmdaaMore
import Derived.Test.YtjeghfhgamfmdaaFrame
namespace Go.Proofs.Ytjeghfhgamfmdaa
open Go.ChangeShapes Go.WideShapes Go.ChangeAt Go.RowKit

set_option maxHeartbeats 4000000 in
theorem walkFnTies (A0 : Option Addr) (c0 : Nat) (l0 : List Int) (A1 : Option Addr) (c1 : Nat) (l1 : List Int) (w : World) (r0 : RdI w w.heap.size .u8 A0 l0) (y0 : ∀ x ∈ l0, 0 ≤ x ∧ x ≤ 255) (k0 : l0.length ≤ c0) (m0 : c0 ≤ 9223372036854775807)  :
    Calls Try.prog 4 #[.slice A0 l0.length c0, .slice A1 l1.length c1] w fun e w' => e = .returned (.bool true) ∧ Below w.heap.size w w' := by
  by_cases z0 : 1048576 < l0.length
  · clear r0 y0
    go_enter Try.func4, Try.ntmps4
    go_wp2_with fail
    go_ret
    exact ⟨rfl, Below.refl _ _⟩
  by_cases z1 : 1048576 < l1.length
  · clear r0 y0
    go_enter Try.func4, Try.ntmps4
    go_wp2_with fail
    go_ret
    exact ⟨rfl, Below.refl _ _⟩
  have Y0 := Lib.hid y0
  clear y0
  go_enter Try.func4, Try.ntmps4
  go_wp2_with fail
  refine (DrawTiesValid_any A0 c0 l0 _ r0 Y0.out (by omega) k0 m0).mono ?_
  rintro e u1 ⟨AL, cL, L, rfl, hL, _, oL, b1⟩
  have s1 := b1.size
  have t1 := b1
  have wL := own_cap oL
  have rL := Rd.of_own oL
  clear oL
  clear b1
  clear r0
  go_wp2_with fail
  refine (tiesValid_any AL cL (L) _ rL (by omega)).mono ?_
  rintro e u2 ⟨rfl, b2⟩
  have s2 := b2.size
  have t2 := t1.trans (b2.mono t1.size)
  have rL := rL.to b2
  clear b2 t1
  go_wp2_with fail
  refine (specTiesValid_any AL cL (L) _ rL (by omega)).mono ?_
  rintro e u3 ⟨rfl, b3⟩
  have s3 := b3.size
  have t3 := t2.trans (b3.mono t2.size)
  have rL := rL.to b3
  clear b3 t2
  have hj : l1.length % (L.length + 1) ≤ L.length := by have := Nat.mod_lt l1.length (show 0 < L.length + 1 by omega); omega
  have g0 : (l1.length : Int) % ((L.length : Int) + 1) = ((l1.length % (L.length + 1) : Nat) : Int) := by simp
  have g1 : (0 : Int) ≤ (l1.length : Int) % ((L.length : Int) + 1) ∧ (l1.length : Int) % ((L.length : Int) + 1) ≤ (cL : Int) := by rw [g0]; omega
  have g2 : (0 : Int) ≤ (l1.length : Int) % ((L.length : Int) + 1) ∧ (l1.length : Int) % ((L.length : Int) + 1) ≤ (L.length : Int) := by rw [g0]; omega
  clear g0
  cases hv : tv L with
  | false =>
    go_wp2_with fail
    go_ret
    exact ⟨rfl, t3⟩
  | true =>
    have ej : (L.take (l1.length % (L.length + 1))).length = (l1.length % (L.length + 1)) := by rw [List.length_take]; omega
    have ed : (L.drop (l1.length % (L.length + 1))).length = L.length - (l1.length % (L.length + 1)) := by rw [List.length_drop]
    have vt : tv (L.take (l1.length % (L.length + 1))) = true := tv_take hv _
    have vd : tv (L.drop (l1.length % (L.length + 1))) = true := tv_drop hv _
    have o0 : (u3.alloc (.cells #[] 32)).ownsRow u3.heap.size 32 2 (.slice (some ⟨u3.heap.size, 0, none⟩) 0 0) ([] : List (Int × Int)).length (cells2 []) := World.ownsRow_made u3 #[] 0 (Nat.le_refl _) (by decide) rfl
    have b0 : Below u3.heap.size u3 (u3.alloc (.cells #[] 32)) := (Below.refl _ _).alloc (Nat.le_refl _) _
    have rL0 := rL.to b0
    have hn0 : ([] : List (Int × Int)).length + L.length ≤ 4294967296 := by simp only [List.length_nil]; omega
    by_cases hz : L.length = 0
    · have hLn : L = [] := List.eq_nil_of_length_eq_zero hz
      have HZ := Lib.hid hLn
      clear hLn
      have hz1 : decide (0 < L.length) = false := decide_eq_false (by omega)
      have hz2 : decide ((L.length : Int) = 0) = true := decide_eq_true (by omega)
      have hz0 := Nat.le_of_eq hz
      clear hz
      go_wp2_with (at_builtin; refine wpList_appMany2 rfl _ _ _ rfl Try.underlying25 infoTie rfl o0 b0.size rfl rL0 hn0 ?_; intro v1 w1 o1 hg1 hat1; have b1 : Below u3.heap.size u3 w1 := b0.grown hg1 b0.size fun k hk => (o0.lt k hk).1)
      rw [List.nil_append] at o1
      clear hg1 hat1
      have rL1 := rL.to b1
      have tt := t3.trans (b1.mono t3.size)
      obtain ⟨A5, c5, rfl⟩ := own_shape o1
      have rT := Rd.of_own o1
      clear o0 b0 rL0 rL
      go_wp2_with fail
      have X1 := tiesValid_any AL cL (L.take (l1.length % (L.length + 1))) w1 (rL1.take _) (by omega)
      rw [ej, vt] at X1
      refine X1.mono ?_
      rintro e w12 ⟨rfl, b12⟩
      have rL2 := rL1.to b12
      have r2 := rT.to b12
      have tt2 := tt.trans (b12.mono tt.size)
      clear X1
      by_cases hcJ : cL = (l1.length % (L.length + 1))
      · subst hcJ
        have X2 := tiesValid_any AL 0 (L.drop (l1.length % (L.length + 1))) w12 (fun h => absurd h (by rw [ed]; omega)) (by omega)
        rw [show (L.drop (l1.length % (L.length + 1))).length = 0 by rw [ed]; omega, vd] at X2
        go_wp2_with fail
        refine X2.mono ?_
        rintro e w13 ⟨rfl, b13⟩
        have r3 := r2.to b13
        have tt3 := tt2.trans (b13.mono tt2.size)
        clear X2
        go_wp2_with fail
        have X3 := tiesValid_any A5 c5 (L) w13 r3 (by omega)
        refine X3.mono ?_
        rintro e w14 ⟨rfl, b14⟩
        have tt4 := tt3.trans (b14.mono tt3.size)
        go_wp2_with fail
        all_goals
          go_ret
          exact ⟨ret_bool (by first | rfl | (have q : L.length = 0 := Nat.le_zero.1 hz0; simp [q])), tt4⟩
      · have rF := rL2.from cL (l1.length % (L.length + 1)) wL
        rw [if_neg hcJ] at rF
        have X2 := tiesValid_any _ (cL - (l1.length % (L.length + 1))) (L.drop (l1.length % (L.length + 1))) w12 rF (by omega)
        rw [ed, vd] at X2
        go_wp2_with fail
        refine X2.mono ?_
        rintro e w13 ⟨rfl, b13⟩
        have r3 := r2.to b13
        have tt3 := tt2.trans (b13.mono tt2.size)
        clear X2
        go_wp2_with fail
        have X3 := tiesValid_any A5 c5 (L) w13 r3 (by omega)
        refine X3.mono ?_
        rintro e w14 ⟨rfl, b14⟩
        have tt4 := tt3.trans (b14.mono tt3.size)
        go_wp2_with fail
        all_goals
          go_ret
          exact ⟨ret_bool (by first | rfl | (have q : L.length = 0 := Nat.le_zero.1 hz0; simp [q])), tt4⟩
    · obtain ⟨b, o, rfl, hB, hcs⟩ := rL (by omega)
      obtain ⟨q1, q2⟩ := hcs (L.length - 1) (by omega)
      have hz0 : 0 < L.length := by omega
      have hz1 : (0 : Int) ≤ (L.length : Int) - 1 := by omega
      have hz2 : (L.length : Int) - 1 < (L.length : Int) := by omega
      have hz3 : ((L.length : Int) - 1).toNat = L.length - 1 := by omega
      have hz4 : decide (0 < L.length) = true := by simpa using hz0
      have hz5 : IntKind.i64.wrap ((L.length : Int) - 1) = (L.length : Int) - 1 := IntWalk.i64_in _ (by omega)
      clear hcs
      have hn1 : L.length + 1 ≤ 4294967296 := by omega
      have hz6 : decide ((L.length : Int) = 0) = false := decide_eq_false (by omega)
      go_wp2_with (at_builtin; first | (refine wpList_appMany2 rfl _ _ _ rfl Try.underlying25 infoTie rfl o0 b0.size rfl rL0 hn0 ?_; intro v1 w1 o1 hg1 hat1; have b1 : Below u3.heap.size u3 w1 := b0.grown hg1 b0.size fun k hk => (o0.lt k hk).1; rw [List.nil_append] at o1; have q3 := (b1.cell (p := ⟨b, _, none⟩) hB).trans q1; have q4 := (b1.cell (p := ⟨b, _, none⟩) hB).trans q2) | (refine wpList_app2_base rfl _ _ _ rfl Try.underlying25 infoTie rfl o1 b1.size _ _ _ _ rfl rfl hn1 ?_; intro v2 w5 o2 hg2 hat2))
      have b5 : Below u3.heap.size u3 w5 := (b1.alloc b1.size _).grown hg2 (b1.alloc b1.size _).size fun k hk => (o1.lt k hk).1
      replace b1 := b5
      have n5 : (L ++ [(fA L (L.length - 1), fB L (L.length - 1))]).length ≤ 1048576 := by rw [List.length_append]; simp only [List.length_singleton]; omega
      have N6 := Lib.hid (show (L ++ [(fA L (L.length - 1), fB L (L.length - 1))]).length = L.length + 1 by simp)
      have vv : tv (L ++ [(fA L (L.length - 1), fB L (L.length - 1))]) = false := by
        have e1 : L = L.take (L.length - 1) ++ [(fA L (L.length - 1), fB L (L.length - 1))] := by rw [← take_succ_pair L (L.length - 1) (by omega), List.take_of_length_le (by omega)]
        generalize (fA L (L.length - 1), fB L (L.length - 1)) = p at e1 ⊢
        rw [e1, List.append_assoc]; exact tv_twice _ p
      clear hg1 hat1 hg2 hat2 o1 q1 q2 q3 q4
      have rL1 := rL.to b1
      have tt := t3.trans (b1.mono t3.size)
      obtain ⟨A5, c5, rfl⟩ := own_shape o2
      have rT := Rd.of_own o2
      clear o0 b0 rL0 rL
      go_wp2_with fail
      have X1 := tiesValid_any (some ⟨b, o, none⟩) cL (L.take (l1.length % (L.length + 1))) w5 (rL1.take _) (by omega)
      rw [ej, vt] at X1
      refine X1.mono ?_
      rintro e w12 ⟨rfl, b12⟩
      have rL2 := rL1.to b12
      have r2 := rT.to b12
      have tt2 := tt.trans (b12.mono tt.size)
      clear X1
      by_cases hcJ : cL = (l1.length % (L.length + 1))
      · subst hcJ
        have X2 := tiesValid_any (some ⟨b, o, none⟩) 0 (L.drop (l1.length % (L.length + 1))) w12 (fun h => absurd h (by rw [ed]; omega)) (by omega)
        rw [show (L.drop (l1.length % (L.length + 1))).length = 0 by rw [ed]; omega, vd] at X2
        go_wp2_with fail
        refine X2.mono ?_
        rintro e w13 ⟨rfl, b13⟩
        have r3 := r2.to b13
        have tt3 := tt2.trans (b13.mono tt2.size)
        clear X2
        go_wp2_with fail
        have X3 := tiesValid_any A5 c5 (L ++ [(fA L (L.length - 1), fB L (L.length - 1))]) w13 r3 (by omega)
        rw [N6.out] at X3
        refine X3.mono ?_
        rintro e w14 ⟨rfl, b14⟩
        have tt4 := tt3.trans (b14.mono tt3.size)
        go_wp2_with fail
        all_goals
          go_ret
          exact ⟨ret_bool (by first | rfl | (have q : ((L.length : Int) == 0) = false := beq_eq_false_iff_ne.2 (by omega); rw [q]; rfl)), tt4⟩
      · have rF := rL2.from cL (l1.length % (L.length + 1)) wL
        rw [if_neg hcJ] at rF
        have X2 := tiesValid_any _ (cL - (l1.length % (L.length + 1))) (L.drop (l1.length % (L.length + 1))) w12 rF (by omega)
        simp only [Option.map_some] at X2
        rw [show (⟨b, o, none⟩ : Addr).add ((l1.length % (L.length + 1)) * 2) = ⟨b, o + (l1.length % (L.length + 1)) * 2, none⟩ by unfold Addr.add; split <;> simp_all] at X2
        rw [ed, vd] at X2
        go_wp2_with fail
        refine X2.mono ?_
        rintro e w13 ⟨rfl, b13⟩
        have r3 := r2.to b13
        have tt3 := tt2.trans (b13.mono tt2.size)
        clear X2
        go_wp2_with fail
        have X3 := tiesValid_any A5 c5 (L ++ [(fA L (L.length - 1), fB L (L.length - 1))]) w13 r3 (by omega)
        rw [N6.out] at X3
        refine X3.mono ?_
        rintro e w14 ⟨rfl, b14⟩
        have tt4 := tt3.trans (b14.mono tt3.size)
        go_wp2_with fail
        all_goals
          go_ret
          exact ⟨ret_bool (by first | rfl | (have q : ((L.length : Int) == 0) = false := beq_eq_false_iff_ne.2 (by omega); rw [q]; rfl)), tt4⟩

set_option maxRecDepth 100000 in
theorem liftedFnTies (os : Os) (started : os.Started) (H : Type) (enc : TypeId × Value → H) :
    ReturnsInHanded {} Try.checked os 4 .any (Rows.fnTiesSpec.pre6 enc Try.prog Try.f4 Rows.fnTiesRow.domain false) (Rows.fnTiesSpec.post enc Try.prog Try.f4 false true false false) := by
  refine returnsInHanded_of_change (C := Try.checked) own_ started (by kernel_rfl) Try.func4
    (ChangeSpec.witness6 (enc := enc) (C := Try.checked) false ⟨#[], #[.slice none 0 0, .slice none 0 0], []⟩ 8 (by kernel_rfl) (by kernel_rfl) (by kernel_rfl) (by kernel_rfl)) ?_
  intro W base args ds gs before hval0 hW hcnd _
  have hval : ∀ (j : Nat) t v, Try.f4.params[j]? = some t → args[j]? = some v → Value.okWide Try.prog W .any base t v := hval0
  have hW' := hW
  obtain ⟨p, q, hA0, hV, rfl, hfz, hnd⟩ := hW
  have hA : DataW.TrodAll enc Try.prog W 0 (fun _ => true) true Try.f4.params.toList args.toList ds p := hA0
  rw [Try.params4] at hA hval
  obtain ⟨v0, vs0, d0, ds0, p0, q0, hargs, rfl, rfl, h0, r0⟩ := trodAll_cons hA
  obtain ⟨v1, vs1, d1, ds1, p1, q1, rfl, rfl, rfl, h1, r1⟩ := trodAll_cons r0
  obtain ⟨rfl, rfl, rfl⟩ := trodAll_nil r1
  obtain rfl : args = #[v0, v1] := by cases args; simp_all
  obtain ⟨rfl, rfl⟩ := trodVars_none hV
  obtain ⟨a0, n0, c0, rfl⟩ := okWide_slice Try.underlying29 (hval 0 29 v0 rfl rfl)
  have kk0 := h0
  have lt0 : ∀ x ∈ p0, x.block < W.heap.size := by obtain ⟨m, hm⟩ := kk0; exact DataW.trod_lt m _ _ _ hm
  obtain ⟨l0, e0, g0, w0, b0, bm0⟩ : ∃ l : List Int, l.length = n0 ∧ RdI W W.heap.size .u8 a0 l ∧ (∀ z ∈ l, (Lit.int .u8 z).wf = true) ∧ n0 ≤ c0 ∧ c0 ≤ maxLen := by
    obtain ⟨fuel, hf⟩ := h0
    exact openI Try.underlying29 Try.underlying5 (by kernel_rfl) (by simpa [Value.cells] using hf)
  subst e0
  obtain ⟨a1, n1, c1, rfl⟩ := okWide_slice Try.underlying29 (hval 1 29 v1 rfl rfl)
  have kk1 := h1
  have lt1 : ∀ x ∈ p1, x.block < W.heap.size := by obtain ⟨m, hm⟩ := kk1; exact DataW.trod_lt m _ _ _ hm
  obtain ⟨l1, e1, g1, w1, b1, bm1⟩ : ∃ l : List Int, l.length = n1 ∧ RdI W W.heap.size .u8 a1 l ∧ (∀ z ∈ l, (Lit.int .u8 z).wf = true) ∧ n1 ≤ c1 ∧ c1 ≤ maxLen := by
    obtain ⟨fuel, hf⟩ := h1
    exact openI Try.underlying29 Try.underlying5 (by kernel_rfl) (by simpa [Value.cells] using hf)
  subst e1
  clear hA0 hval0
  refine (walkFnTies a0 c0 l0 a1 c1 l1 W g0 (wf_bytes w0) b0 (by unfold maxLen at bm0; omega)).mono fun e W' ⟨he, bel⟩ => ?_
  subst he
  exact ⟨_, rfl, _, _, _, [], _, [], hW', trodAll_mk1 (shut_bool Try.underlying4 _), (trodAll_cons_mk (Below.trod laidOut_ (by kernel_rfl) (of_decide_eq_true (by kernel_rfl)) kk0 bel lt0) (trodAll_cons_mk (Below.trod laidOut_ (by kernel_rfl) (of_decide_eq_true (by kernel_rfl)) kk1 bel lt1) trodAll_mk0)), rfl, bel.frame _, fun h => by cases h⟩

theorem fnTies_holds : Rows.FnTiesSaid :=
  OpenClaim.holds_of_wide 4 Try.f4 rfl rfl rfl rfl rfl rfl rfl ⟨rfl, rfl, rfl, rfl, rfl⟩ rfl rfl rfl rfl rfl (by kernel_rfl) Try.func4 (by kernel_rfl)
    (of_decide_eq_true (by kernel_rfl)) (by unfold Func.isWrapper; first | (rw [if_pos (by decide +kernel)]; kernel_rfl) | (rw [if_neg (by decide +kernel)]; exact ⟨rfl, rfl⟩))
    (fun os started H enc _ => liftedFnTies os started H enc)

end Go.Proofs.Ytjeghfhgamfmdaa
