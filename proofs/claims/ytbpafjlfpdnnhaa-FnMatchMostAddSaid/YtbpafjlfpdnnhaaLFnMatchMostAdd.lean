/- The statement FnMatchMostAddSaid: for all arguments the Go function laws.FnMatchMostAdd returns true and leaves its arguments as they were. No condition. -/
import Derived.Test.YtbpafjlfpdnnhaaMM
import Derived.Test.YtbpafjlfpdnnhaaMatchTop
import Derived.Test.YtbpafjlfpdnnhaaDrawE
import Derived.Test.YtbpafjlfpdnnhaaMore
import Derived.Test.YtbpafjlfpdnnhaaFrame
namespace Go.Proofs.Ytbpafjlfpdnnhaa
open Go.ChangeShapes Go.WideShapes Go.ChangeAt Go.RowKit

set_option maxRecDepth 100000 in
set_option maxHeartbeats 4000000 in
theorem walkFnMatchMostAdd (A0 : Option Addr) (c0 : Nat) (l0 : List Int) (A1 : Option Addr) (c1 : Nat) (l1 : List Int) (w : World) (r0 : RdI w w.heap.size .u8 A0 l0) (y0 : ∀ x ∈ l0, 0 ≤ x ∧ x ≤ 255) (k0 : l0.length ≤ c0) (m0 : c0 ≤ 9223372036854775807)  :
    Calls Try.prog 10 #[.slice A0 l0.length c0, .slice A1 l1.length c1] w fun e w' => e = .returned (.bool true) ∧ Below w.heap.size w w' := by
  by_cases z0 : 1048576 < l0.length
  · clear r0 y0
    go_enter Try.func10, Try.ntmps10
    go_wp2_with fail
    go_ret
    exact ⟨rfl, Below.refl _ _⟩
  by_cases z1 : 1048576 < l1.length
  · clear r0 y0
    go_enter Try.func10, Try.ntmps10
    go_wp2_with fail
    go_ret
    exact ⟨rfl, Below.refl _ _⟩
  have Y0 := Lib.hid y0
  clear y0
  go_enter Try.func10, Try.ntmps10
  go_wp2_with fail
  refine (DrawMatchMost_any A0 c0 l0 _ r0 Y0.out (by omega) k0 m0).mono ?_
  rintro e u1 ⟨AL, cL, L, AM, cM, M, t, rfl, hL, hM, hsL, hsM, ⟨ht0, ht1⟩, oL, oM, b1⟩
  have s1 := b1.size
  have t1 := b1
  have wL := own_cap oL
  have rL := Rd.of_own oL
  clear oL
  have wM := own_cap oM
  have rM := Rd.of_own oM
  clear oM
  clear b1
  clear r0
  go_wp2_with fail
  refine (matchMost_any AL AM cL cM (L) (M) t _ rL rM (by omega) (by omega)).mono ?_
  rintro e u2 ⟨rfl, b2⟩
  have s2 := b2.size
  have t2 := t1.trans (b2.mono t1.size)
  have rL := rL.to b2
  have rM := rM.to b2
  clear b2 t1
  go_wp2_with fail
  refine (specMatchMost_any AL AM cL cM (L) (M) t _ rL rM (by omega) (by omega)).mono ?_
  rintro e u3 ⟨rfl, b3⟩
  have s3 := b3.size
  have t3 := t2.trans (b3.mono t2.size)
  have rL := rL.to b3
  have rM := rM.to b3
  clear b3 t2
  cases hok : mtb L M t with
  | false =>
    rw [mmV_no hok]
    go_wp2_with fail
    go_ret
    exact ⟨ret_bool (by simp), t3⟩
  | true =>
    rw [mmV_yes hok]
    generalize hm : mostL t (szL L) (szL M) = m
    have HOK := Lib.hid hok
    have HM := Lib.hid hm
    obtain ⟨v1, v2, _, _⟩ := mtb_parts hok
    have e8 := (mostL_le t (szL L) (szL M)).1
    rw [hm, length_szL] at e8
    have V2 := Lib.hid v2
    clear hok v1 hm
    have g8 : ((M.length : Int) == 8) = false := by simp; omega
    have hs2 : (0 : Int) ≤ (l1.length : Int) % 9 ∧ (l1.length : Int) % 9 ≤ 8 := by omega
    by_cases hz : M.length = 0
    · have hE : M = [] := List.eq_nil_of_length_eq_zero hz
      have g0 : decide (0 < M.length) = false := decide_eq_false (by omega)
      have e1 := fun s (h1 : 1 ≤ s) (h2 : s ≤ 1000) => mmV_add (d := 0) (s := s) HOK.out (by omega) (by omega) (by omega) h1 h2 (fun h => by omega)
      have hz0 := Nat.le_of_eq hz
      clear hE hz
      have e2 := e1 (1 + (l1.length : Int) % 9) (by omega) (by omega)
      rw [HM.out] at e2
      have E2 := Lib.hid e2
      clear e1 e2
      have o0 : (u3.alloc (.cells #[] 32)).ownsRow u3.heap.size 32 2 (.slice (some ⟨u3.heap.size, 0, none⟩) 0 0) ([] : List (Int × Int)).length (cells2 []) := World.ownsRow_made u3 #[] 0 (Nat.le_refl _) (by decide) rfl
      have b0 : Below u3.heap.size u3 (u3.alloc (.cells #[] 32)) := (Below.refl _ _).alloc (Nat.le_refl _) _
      have rM0 := rM.to b0
      have hn0 : ([] : List (Int × Int)).length + M.length ≤ 4294967296 := by simp only [List.length_nil]; omega
      have hn1 : M.length + 1 ≤ 4294967296 := by omega
      go_wp2_with (at_builtin; first | (refine wpList_appMany2 rfl _ _ _ rfl Try.underlying25 infoEvent rfl o0 b0.size rfl rM0 hn0 ?_; intro v1 w1 o1 hg1 hat1; have b1 : Below u3.heap.size u3 w1 := b0.grown hg1 b0.size fun k hk => (o0.lt k hk).1; rw [List.nil_append] at o1) | (refine wpList_app2_base rfl _ _ _ rfl Try.underlying25 infoEvent rfl o1 b1.size _ _ _ _ rfl rfl hn1 ?_; intro v2 w5 o2 hg2 hat2))
      have b4 : Below u3.heap.size u3 w5 := (b1.alloc b1.size _).grown hg2 (b1.alloc b1.size _).size fun k hk => (o1.lt k hk).1
      obtain ⟨A5, c5, rfl⟩ := own_shape o2
      have rX := Rd.of_own o2
      have s4 := b4.size
      have t4 := t3.trans (b4.mono t3.size)
      have rL := rL.to b4
      clear o0 b0 rM0 hn0 o1 hg1 hat1 b1 o2 hg2 hat2 b4 t3
      have hlx : (M ++ [(0, 1 + (l1.length : Int) % 9)]).length ≤ 1048576 := by simp; omega
      go_wp2_with fail
      refine (matchMost_any AL A5 cL c5 L (M ++ [(0, 1 + (l1.length : Int) % 9)]) t _ rL rX (by omega) hlx).mono ?_
      rintro e u5 ⟨rfl, b5⟩
      have s5 := b5.size
      have t5 := t4.trans (b5.mono t4.size)
      have rL := rL.to b5
      have rX := rX.to b5
      clear b5 t4
      have e2 := E2.out
      generalize mmV L (M ++ [(0, 1 + (l1.length : Int) % 9)]) t = x at e2 ⊢
      have g9 : (x == (m : Int)) = true ∨ (x == (m : Int)) = false ∧ (x == (m : Int) + 1) = true := by rcases e2 with h | h; (left; simp [h]); (right; refine ⟨?_, ?_⟩ <;> simp [h] <;> omega)
      clear e2 E2
      rcases g9 with g9 | ⟨g9, g10⟩
      go_wp2_with fail
      all_goals
        (try go_ret)
        first | exact ⟨ret_bool rfl, t5⟩ | skip
      all_goals (go_wp2_with fail; go_ret; exact ⟨ret_bool rfl, t5⟩)
    · obtain ⟨b, o, hA, hB, hcs⟩ := rM (by omega)
      subst hA
      obtain ⟨q1, _⟩ := hcs (M.length - 1) (by omega)
      have zd := ev_depth V2.out (k := M.length - 1) (by omega)
      have g0 : decide (0 < M.length) = true := decide_eq_true (by omega)
      have g1 : (0 : Int) ≤ (M.length : Int) - 1 ∧ (M.length : Int) - 1 < (M.length : Int) := by omega
      have g2 : ((M.length : Int) - 1).toNat = M.length - 1 := by omega
      have g3 : (1 : Int) ≤ (M.length : Int) := by omega
      clear hcs
      by_cases hd : 30000 < fA M (M.length - 1) + 1
      · have g4 : decide (30000 < fA M (M.length - 1) + 1) = true := decide_eq_true hd
        have g5 : decide (0 ≤ (m : Int)) = true := decide_eq_true (by omega)
        clear hd
        go_wp2_with fail
        all_goals
          go_ret
          exact ⟨ret_bool (rfl), t3⟩
      have g4 : decide (30000 < fA M (M.length - 1) + 1) = false := decide_eq_false hd
      have e1 := fun s (h1 : 1 ≤ s) (h2 : s ≤ 1000) => mmV_add (d := fA M (M.length - 1) + 1) (s := s) HOK.out (by omega) (by omega) (by omega) h1 h2 (fun h => by omega)
      clear hd
      have e2 := e1 (1 + (l1.length : Int) % 9) (by omega) (by omega)
      rw [HM.out] at e2
      have E2 := Lib.hid e2
      clear e1 e2
      have o0 : (u3.alloc (.cells #[] 32)).ownsRow u3.heap.size 32 2 (.slice (some ⟨u3.heap.size, 0, none⟩) 0 0) ([] : List (Int × Int)).length (cells2 []) := World.ownsRow_made u3 #[] 0 (Nat.le_refl _) (by decide) rfl
      have b0 : Below u3.heap.size u3 (u3.alloc (.cells #[] 32)) := (Below.refl _ _).alloc (Nat.le_refl _) _
      have rM0 := rM.to b0
      have hn0 : ([] : List (Int × Int)).length + M.length ≤ 4294967296 := by simp only [List.length_nil]; omega
      have hn1 : M.length + 1 ≤ 4294967296 := by omega
      go_wp2_with (at_builtin; first | (refine wpList_appMany2 rfl _ _ _ rfl Try.underlying25 infoEvent rfl o0 b0.size rfl rM0 hn0 ?_; intro v1 w1 o1 hg1 hat1; have b1 : Below u3.heap.size u3 w1 := b0.grown hg1 b0.size fun k hk => (o0.lt k hk).1; rw [List.nil_append] at o1) | (refine wpList_app2_base rfl _ _ _ rfl Try.underlying25 infoEvent rfl o1 b1.size _ _ _ _ rfl rfl hn1 ?_; intro v2 w5 o2 hg2 hat2))
      have b4 : Below u3.heap.size u3 w5 := (b1.alloc b1.size _).grown hg2 (b1.alloc b1.size _).size fun k hk => (o1.lt k hk).1
      obtain ⟨A5, c5, rfl⟩ := own_shape o2
      have rX := Rd.of_own o2
      have s4 := b4.size
      have t4 := t3.trans (b4.mono t3.size)
      have rL := rL.to b4
      clear o0 b0 rM0 hn0 o1 hg1 hat1 b1 o2 hg2 hat2 b4 t3
      have hlx : (M ++ [((fA M (M.length - 1) + 1), 1 + (l1.length : Int) % 9)]).length ≤ 1048576 := by simp; omega
      go_wp2_with fail
      refine (matchMost_any AL A5 cL c5 L (M ++ [((fA M (M.length - 1) + 1), 1 + (l1.length : Int) % 9)]) t _ rL rX (by omega) hlx).mono ?_
      rintro e u5 ⟨rfl, b5⟩
      have s5 := b5.size
      have t5 := t4.trans (b5.mono t4.size)
      have rL := rL.to b5
      have rX := rX.to b5
      clear b5 t4
      have e2 := E2.out
      generalize mmV L (M ++ [((fA M (M.length - 1) + 1), 1 + (l1.length : Int) % 9)]) t = x at e2 ⊢
      have g9 : (x == (m : Int)) = true ∨ (x == (m : Int)) = false ∧ (x == (m : Int) + 1) = true := by rcases e2 with h | h; (left; simp [h]); (right; refine ⟨?_, ?_⟩ <;> simp [h] <;> omega)
      clear e2 E2
      rcases g9 with g9 | ⟨g9, g10⟩
      go_wp2_with fail
      all_goals
        (try go_ret)
        first | exact ⟨ret_bool rfl, t5⟩ | skip
      all_goals (go_wp2_with fail; go_ret; exact ⟨ret_bool rfl, t5⟩)

set_option maxRecDepth 100000 in
theorem liftedFnMatchMostAdd (os : Os) (started : os.Started) (H : Type) (enc : TypeId × Value → H) :
    ReturnsInHanded {} Try.checked os 10 .any (Rows.fnMatchMostAddSpec.pre6 enc Try.prog Try.f10 Rows.fnMatchMostAddRow.domain false) (Rows.fnMatchMostAddSpec.post enc Try.prog Try.f10 false true false false) := by
  refine returnsInHanded_of_change (C := Try.checked) own_ started (by kernel_rfl) Try.func10
    (ChangeSpec.witness6 (enc := enc) (C := Try.checked) false ⟨#[], #[.slice none 0 0, .slice none 0 0], []⟩ 8 (by kernel_rfl) (by kernel_rfl) (by kernel_rfl) (by kernel_rfl)) ?_
  intro W base args ds gs before hval0 hW hcnd _
  have hval : ∀ (j : Nat) t v, Try.f10.params[j]? = some t → args[j]? = some v → Value.okWide Try.prog W .any base t v := hval0
  have hW' := hW
  obtain ⟨p, q, hA0, hV, rfl, hfz, hnd⟩ := hW
  have hA : DataW.TrodAll enc Try.prog W 0 (fun _ => true) true Try.f10.params.toList args.toList ds p := hA0
  rw [Try.params10] at hA hval
  obtain ⟨v0, vs0, d0, ds0, p0, q0, hargs, rfl, rfl, h0, r0⟩ := trodAll_cons hA
  obtain ⟨v1, vs1, d1, ds1, p1, q1, rfl, rfl, rfl, h1, r1⟩ := trodAll_cons r0
  obtain ⟨rfl, rfl, rfl⟩ := trodAll_nil r1
  obtain rfl : args = #[v0, v1] := by cases args; simp_all
  obtain ⟨rfl, rfl⟩ := trodVars_none hV
  obtain ⟨a0, n0, c0, rfl⟩ := okWide_slice Try.underlying29 (hval 0 29 v0 rfl rfl)
  have kk0 := h0
  have lt0 : ∀ x ∈ p0, x.block < W.heap.size := by obtain ⟨m, hm⟩ := kk0; exact DataW.trod_lt m _ _ _ hm
  obtain ⟨l0, e0, g0, w0, b0, bm0⟩ : ∃ l : List Int, l.length = n0 ∧ RdI W W.heap.size .u8 a0 l ∧ (∀ z ∈ l, (Lit.int .u8 z).wf = true) ∧ n0 ≤ c0 ∧ c0 ≤ maxLen := by
    obtain ⟨fuel, hf⟩ := h0
    exact openI Try.underlying29 Try.underlying5 (by kernel_rfl) (by simpa [Value.cells] using hf)
  subst e0
  obtain ⟨a1, n1, c1, rfl⟩ := okWide_slice Try.underlying29 (hval 1 29 v1 rfl rfl)
  have kk1 := h1
  have lt1 : ∀ x ∈ p1, x.block < W.heap.size := by obtain ⟨m, hm⟩ := kk1; exact DataW.trod_lt m _ _ _ hm
  obtain ⟨l1, e1, g1, w1, b1, bm1⟩ : ∃ l : List Int, l.length = n1 ∧ RdI W W.heap.size .u8 a1 l ∧ (∀ z ∈ l, (Lit.int .u8 z).wf = true) ∧ n1 ≤ c1 ∧ c1 ≤ maxLen := by
    obtain ⟨fuel, hf⟩ := h1
    exact openI Try.underlying29 Try.underlying5 (by kernel_rfl) (by simpa [Value.cells] using hf)
  subst e1
  clear hA0 hval0
  refine (walkFnMatchMostAdd a0 c0 l0 a1 c1 l1 W g0 (wf_bytes w0) b0 (by unfold maxLen at bm0; omega)).mono fun e W' ⟨he, bel⟩ => ?_
  subst he
  exact ⟨_, rfl, _, _, _, [], _, [], hW', trodAll_mk1 (shut_bool Try.underlying4 _), (trodAll_cons_mk (Below.trod laidOut_ (by kernel_rfl) (of_decide_eq_true (by kernel_rfl)) kk0 bel lt0) (trodAll_cons_mk (Below.trod laidOut_ (by kernel_rfl) (of_decide_eq_true (by kernel_rfl)) kk1 bel lt1) trodAll_mk0)), rfl, bel.frame _, fun h => by cases h⟩

theorem fnMatchMostAdd_holds : Rows.FnMatchMostAddSaid :=
  OpenClaim.holds_of_wide 10 Try.f10 rfl rfl rfl rfl rfl rfl rfl ⟨rfl, rfl, rfl, rfl, rfl⟩ rfl rfl rfl rfl rfl (by kernel_rfl) Try.func10 (by kernel_rfl)
    (of_decide_eq_true (by kernel_rfl)) (by unfold Func.isWrapper; first | (rw [if_pos (by decide +kernel)]; kernel_rfl) | (rw [if_neg (by decide +kernel)]; exact ⟨rfl, rfl⟩))
    (fun os started H enc _ => liftedFnMatchMostAdd os started H enc)

end Go.Proofs.Ytbpafjlfpdnnhaa
