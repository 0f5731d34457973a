/- The statement FnMatchCountLastSaid: for all arguments the Go function laws.FnMatchCountLast returns true and leaves its arguments as they were. No condition. -/
import Derived.Test.YtbpafjlfpdnnhaaMM
import Derived.Test.YtbpafjlfpdnnhaaCount
import Derived.Test.YtbpafjlfpdnnhaaCountTop
import Derived.Test.YtbpafjlfpdnnhaaDrawE
import Derived.Test.YtbpafjlfpdnnhaaMore
import Derived.Test.YtbpafjlfpdnnhaaFrame
namespace Go.Proofs.Ytbpafjlfpdnnhaa
open Go.ChangeShapes Go.WideShapes Go.ChangeAt Go.RowKit

set_option maxHeartbeats 4000000 in
theorem walkFnMatchCountLast (A0 : Option Addr) (c0 : Nat) (l0 : List Int) (w : World) (r0 : RdI w w.heap.size .u8 A0 l0) (y0 : ∀ x ∈ l0, 0 ≤ x ∧ x ≤ 255) (k0 : l0.length ≤ c0) (m0 : c0 ≤ 9223372036854775807) :
    Calls Try.prog 12 #[.slice A0 l0.length c0] w fun e w' => e = .returned (.bool true) ∧ Below w.heap.size w w' := by
  by_cases z0 : 1048576 < l0.length
  · clear r0 y0
    go_enter Try.func12, Try.ntmps12
    go_wp2_with fail
    go_ret
    exact ⟨rfl, Below.refl _ _⟩
  have Y0 := Lib.hid y0
  clear y0
  go_enter Try.func12, Try.ntmps12
  go_wp2_with fail
  refine (DrawMatchCount_any A0 c0 l0 _ r0 Y0.out (by omega) k0 m0).mono ?_
  rintro e u1 ⟨AL, cL, L, AM, cM, M, t, rfl, hL, hM, hsL, hsM, ⟨ht0, ht1⟩, oL, oM, b1⟩
  have s1 := b1.size
  have t1 := b1
  have wL := own_cap oL
  have rL := Rd.of_own oL
  clear oL
  have wM := own_cap oM
  have rM := Rd.of_own oM
  clear oM
  clear b1
  clear r0
  go_wp2_with fail
  refine (matchCount_any AL AM cL cM (L) (M) t _ rL rM (by omega) (by omega)).mono ?_
  rintro e u2 ⟨rfl, b2⟩
  have s2 := b2.size
  have t2 := t1.trans (b2.mono t1.size)
  have rL := rL.to b2
  have rM := rM.to b2
  clear b2 t1
  go_wp2_with fail
  refine (specMatchCount_any AL AM cL cM (L) (M) t _ rL rM (by omega) (by omega)).mono ?_
  rintro e u3 ⟨rfl, b3⟩
  have s3 := b3.size
  have t3 := t2.trans (b3.mono t2.size)
  have rL := rL.to b3
  have rM := rM.to b3
  clear b3 t2
  cases hok : mtb L M t with
  | false =>
    rw [mcV_no hok]
    go_wp2_with fail
    go_ret
    exact ⟨ret_bool (by simp), t3⟩
  | true =>
    rw [mcV_yes hok]
    generalize hm : countL t (szL L) (szL M) = m
    have HOK := Lib.hid hok
    have HM := Lib.hid hm
    obtain ⟨v1, v2, f1, f2⟩ := mtb_parts hok
    have e4 : L.length = 0 → m = 1 := fun h => by rw [← hm]; exact count_nil h
    by_cases h0 : L.length = 0
    · have g1 : ((L.length : Int) == 0) = true := by simp [h0]
      have e5 := e4 h0
      have g2 : ((m : Int) == 1) = true := by simp [e5]
      have H0 := Lib.hid h0
      clear h0 e5 e4 hok hm
      go_wp2_with fail
      go_ret
      exact ⟨ret_bool (rfl), t3⟩
    · have g1 : ((L.length : Int) == 0) = false := by simp; intro h; simp [h] at h0
      have g3 : (1 : Int) ≤ (L.length : Int) := by omega
      have g4 : ((L.length : Int) - 1).toNat = L.length - 1 := by omega
      have g5 : (0 : Int) ≤ (L.length : Int) - 1 ∧ (L.length : Int) - 1 ≤ (cL : Int) ∧ (L.length : Int) - 1 < (L.length : Int) := by omega
      have g6 : (L.take (L.length - 1)).length = L.length - 1 := by rw [List.length_take]; omega
      have z1 := ev_size v1 (k := L.length - 1) (by omega)
      have VB := Lib.hid v2
      have EC := Lib.hid (fun k (hk : k ≤ M.length) => mcV_part hok (by omega) hk)
      have ET := Lib.hid (mcV_total hok (by omega))
      have CC := fun (k : Nat) (hk : k ≤ M.length) (u : World) (r : Rd u u.heap.size AL L) (s : Rd u u.heap.size AM M) => matchCount_any AL AM cL cM (L.take (L.length - 1)) (M.take k) t u (r.take _) (s.take _) (by omega) (by rw [List.length_take]; omega)
      have CD : ∀ (k : Nat) (hk : k ≤ M.length) (u : World) (r : Rd u u.heap.size AL L) (s : Rd u u.heap.size AM M), Calls Try.prog 25 #[.slice AL (L.length - 1) cL, .slice AM k cM, .int .i64 t] u fun e w' => e = .returned (.int .i64 (partC t L M k : Nat)) ∧ Below u.heap.size u w' := fun k hk u r s => by have h := CC k hk u r s; rw [g6, List.length_take, Nat.min_eq_left hk, EC.out k hk] at h; exact h
      have C0 := CD M.length (Nat.le_refl _)
      have CD := Lib.hid CD
      have C0 := Lib.hid C0
      clear CC g6 hok h0 e4 v1 v2
      have HT := Lib.hid (show (m : Int) = (partC t L M M.length + partS t L M M.length : Nat) by rw [← hm]; exact congrArg _ ET.out)
      have PL := Lib.hid (fun k (hk : k ≤ M.length) => partS_le HOK.out (show 0 < L.length by omega) hk)
      clear hm
      obtain ⟨b, o, hA, hB, hcs⟩ := rL (by omega)
      obtain ⟨q1, q2⟩ := hcs (L.length - 1) (by omega)
      subst hA
      clear hcs
      have hp0 := PL.out 0 (by omega)
      go_wp2_with fail
      have b4 : Below u3.heap.size u3 (u3.alloc (.cells #[.int .i64 (fA L (L.length - 1)), .int .i64 (fB L (L.length - 1))] 32)) := (Below.refl _ _).alloc (Nat.le_refl _) _
      have qe := (Blk.new_ u3 32 #[.int .i64 (fA L (L.length - 1)), .int .i64 (fB L (L.length - 1))]).cell 1
      have qz := (Blk.new_ u3 32 #[.int .i64 (fA L (L.length - 1)), .int .i64 (fB L (L.length - 1))]).lt
      have s4 := b4.size
      have t4 := t3.trans (b4.mono t3.size)
      have rL := rL.to b4
      have rM := rM.to b4
      generalize u3.alloc (.cells #[.int .i64 (fA L (L.length - 1)), .int .i64 (fB L (L.length - 1))] 32) = u4 at *
      clear b4 t3 q1 q2
      go_wp2_with fail
      refine (C0.out _ rL rM).mono ?_
      rintro e u5 ⟨rfl, b5⟩
      have s5 := b5.size
      have t5 := t4.trans (b5.mono t4.size)
      have rL := rL.to b5
      have rM := rM.to b5
      have qe := (b5.cell (p := ⟨u3.heap.size, 1, none⟩) qz).trans qe
      have qz : u3.heap.size < u5.heap.size := by omega
      generalize u3.heap.size = ge at qe qz ⊢
      clear b5 t4 C0
      go_wp2_with fail
      go_loopw [10, 9] (fun j v wr => ∃ k S : Nat, k ≤ M.length ∧ j = .int .i64 k ∧ v = .int .i64 S ∧ S = partC t L M M.length + partS t L M k ∧ Below u5.heap.size u5 wr) (fun j _ _ => M.length - (intOf j).toNat)
      case atStart => exact ⟨0, partC t L M M.length, Nat.zero_le _, rfl, rfl, rfl, Below.refl _ _⟩
      case round =>
        obtain ⟨k, S, hk, rfl, rfl, hS, hb⟩ := hrel
        have HS := Lib.hid hS
        by_cases hlt : k < M.length
        · obtain ⟨b2, o2, hA2, hB2, hcs2⟩ := (rM.to hb) (by omega)
          obtain ⟨_, e4⟩ := hcs2 k hlt
          have e3 := (hb.cell (p := ⟨ge, 1, none⟩) qz).trans qe
          have qz2 : ge < wr.heap.size := by have := hb.size; omega
          have rL2 := rL.to hb
          have rM2 := rM.to hb
          have z2 := ev_size VB.out hlt
          have hp1 := PL.out k hk
          have hp2 := PL.out (k + 1) hlt
          have hkz : (0 : Int) ≤ (k : Int) := by omega
          have hkl : (k : Int) < (M.length : Int) := by omega
          have hkc : (k : Int) ≤ (cM : Int) := by omega
          have CK := CD.out k hk
          have CK := Lib.hid CK
          clear hcs2 hS
          subst hA2
          have s11 : IntKind.i64.wrap (fB L (L.length - 1) - fB M k) = fB L (L.length - 1) - fB M k := IntWalk.i64_in _ (by omega)
          have s12 : IntKind.i64.wrap (fB M k - fB L (L.length - 1)) = fB M k - fB L (L.length - 1) := IntWalk.i64_in _ (by omega)
          cases hlk : lk t (fB L (L.length - 1)) (fB M k) with
          | true =>
            have hl : lk t (fB L (L.length - 1)) (fB M k) = true := hlk
            unfold lk at hl
            rw [← Bool.decide_and] at hl
            simp only [decide_eq_true_eq] at hl
            have hy := partS_yes hlk
            have HY := Lib.hid hy
            have s13 : IntKind.i64.wrap ((S : Int) + (partC t L M k : Int)) = (S : Int) + (partC t L M k : Int) := IntWalk.i64_in _ (by have := HS.out; omega)
            clear hy
            clear hlk hp1 hp2
            by_cases hmx : fB M k - fB L (L.length - 1) ≤ fB L (L.length - 1) - fB M k
            · have g10 : decide (fB L (L.length - 1) - fB M k ≤ t) = true := decide_eq_true (by omega)
              go_wp2_with fail
              go_quiet (fail)
              go_wp2_with fail
              refine wp_region_bw (by kernel_rfl) (by kernel_rfl) ?_
              repeat (go_big_quiet_step ((go_at_call 25; exact bw_ret (CK.out _ ((rL2.to (below_drewN (Below.refl _ _) _)).to (bw_below _ _)) ((rM2.to (below_drewN (Below.refl _ _) _)).to (bw_below _ _))))))
              refine wpQuiet_nil ?_
              intro wx hx
              go_wp2_with fail
              exact ⟨⟨k + 1, S + partC t L M k, hlt, by go_num, by go_num, by rw [HS.out, HY.out]; omega, (below_drewN hb _).trans (hx.mono hb.size)⟩, by simp [intOf]; omega⟩
            · have g10 : decide (fB M k - fB L (L.length - 1) ≤ t) = true := decide_eq_true (by omega)
              have g11 : decide (fB M k - fB L (L.length - 1) ≤ fB L (L.length - 1) - fB M k) = false := decide_eq_false hmx
              go_wp2_with fail
              go_quiet (fail)
              go_wp2_with fail
              refine wp_region_bw (by kernel_rfl) (by kernel_rfl) ?_
              repeat (go_big_quiet_step ((go_at_call 25; exact bw_ret (CK.out _ ((rL2.to (below_drewN (Below.refl _ _) _)).to (bw_below _ _)) ((rM2.to (below_drewN (Below.refl _ _) _)).to (bw_below _ _))))))
              refine wpQuiet_nil ?_
              intro wx hx
              go_wp2_with fail
              exact ⟨⟨k + 1, S + partC t L M k, hlt, by go_num, by go_num, by rw [HS.out, HY.out]; omega, (below_drewN hb _).trans (hx.mono hb.size)⟩, by simp [intOf]; omega⟩
          | false =>
            have hl : lk t (fB L (L.length - 1)) (fB M k) = false := hlk
            unfold lk at hl
            rw [← Bool.decide_and] at hl
            simp only [decide_eq_false_iff_not] at hl
            have hy := partS_no hlk
            have HY := Lib.hid hy
            clear hy
            clear hlk hp1 hp2
            by_cases hmx : fB M k - fB L (L.length - 1) ≤ fB L (L.length - 1) - fB M k
            · have g10 : decide (fB L (L.length - 1) - fB M k ≤ t) = false := decide_eq_false (by omega)
              go_wp2_with fail
              go_quiet (fail)
              go_wp2_with fail
              exact ⟨⟨k + 1, S, hlt, by go_num, rfl, by rw [HS.out, HY.out], below_drewN hb _⟩, by simp [intOf]; omega⟩
            · have g10 : decide (fB M k - fB L (L.length - 1) ≤ t) = false := decide_eq_false (by omega)
              have g11 : decide (fB M k - fB L (L.length - 1) ≤ fB L (L.length - 1) - fB M k) = false := decide_eq_false hmx
              go_wp2_with fail
              go_quiet (fail)
              go_wp2_with fail
              exact ⟨⟨k + 1, S, hlt, by go_num, rfl, by rw [HS.out, HY.out], below_drewN hb _⟩, by simp [intOf]; omega⟩
        · obtain rfl : k = M.length := by omega
          have e5 : (S : Int) = (m : Int) := by rw [HT.out, hS]
          have g12 : ((S : Int) == (m : Int)) = true := by simp [e5]
          clear hS e5
          go_wp2_with fail
          go_ret
          exact ⟨ret_bool rfl, t5.trans (hb.mono t5.size)⟩

set_option maxRecDepth 100000 in
theorem liftedFnMatchCountLast (os : Os) (started : os.Started) (H : Type) (enc : TypeId × Value → H) :
    ReturnsInHanded {} Try.checked os 12 .any (Rows.fnMatchCountLastSpec.pre6 enc Try.prog Try.f12 Rows.fnMatchCountLastRow.domain false) (Rows.fnMatchCountLastSpec.post enc Try.prog Try.f12 false true false false) := by
  refine returnsInHanded_of_change (C := Try.checked) own_ started (by kernel_rfl) Try.func12
    (ChangeSpec.witness6 (enc := enc) (C := Try.checked) false ⟨#[], #[.slice none 0 0], []⟩ 8 (by kernel_rfl) (by kernel_rfl) (by kernel_rfl) (by kernel_rfl)) ?_
  intro W base args ds gs before hval0 hW hcnd _
  have hval : ∀ (j : Nat) t v, Try.f12.params[j]? = some t → args[j]? = some v → Value.okWide Try.prog W .any base t v := hval0
  have hW' := hW
  obtain ⟨p, q, hA0, hV, rfl, hfz, hnd⟩ := hW
  have hA : DataW.TrodAll enc Try.prog W 0 (fun _ => true) true Try.f12.params.toList args.toList ds p := hA0
  rw [Try.params12] at hA hval
  obtain ⟨v0, vs0, d0, ds0, p0, q0, hargs, rfl, rfl, h0, r0⟩ := trodAll_cons hA
  obtain ⟨rfl, rfl, rfl⟩ := trodAll_nil r0
  obtain rfl : args = #[v0] := by cases args; simp_all
  obtain ⟨rfl, rfl⟩ := trodVars_none hV
  obtain ⟨a0, n0, c0, rfl⟩ := okWide_slice Try.underlying29 (hval 0 29 v0 rfl rfl)
  have kk0 := h0
  have lt0 : ∀ x ∈ p0, x.block < W.heap.size := by obtain ⟨m, hm⟩ := kk0; exact DataW.trod_lt m _ _ _ hm
  obtain ⟨l0, e0, g0, w0, b0, bm0⟩ : ∃ l : List Int, l.length = n0 ∧ RdI W W.heap.size .u8 a0 l ∧ (∀ z ∈ l, (Lit.int .u8 z).wf = true) ∧ n0 ≤ c0 ∧ c0 ≤ maxLen := by
    obtain ⟨fuel, hf⟩ := h0
    exact openI Try.underlying29 Try.underlying5 (by kernel_rfl) (by simpa [Value.cells] using hf)
  subst e0
  clear hA0 hval0
  refine (walkFnMatchCountLast a0 c0 l0 W g0 (wf_bytes w0) b0 (by unfold maxLen at bm0; omega)).mono fun e W' ⟨he, bel⟩ => ?_
  subst he
  exact ⟨_, rfl, _, _, _, [], _, [], hW', trodAll_mk1 (shut_bool Try.underlying4 _), (trodAll_cons_mk (Below.trod laidOut_ (by kernel_rfl) (of_decide_eq_true (by kernel_rfl)) kk0 bel lt0) trodAll_mk0), rfl, bel.frame _, fun h => by cases h⟩

theorem fnMatchCountLast_holds : Rows.FnMatchCountLastSaid :=
  OpenClaim.holds_of_wide 12 Try.f12 rfl rfl rfl rfl rfl rfl rfl ⟨rfl, rfl, rfl, rfl, rfl⟩ rfl rfl rfl rfl rfl (by kernel_rfl) Try.func12 (by kernel_rfl)
    (of_decide_eq_true (by kernel_rfl)) (by unfold Func.isWrapper; first | (rw [if_pos (by decide +kernel)]; kernel_rfl) | (rw [if_neg (by decide +kernel)]; exact ⟨rfl, rfl⟩))
    (fun os started H enc _ => liftedFnMatchCountLast os started H enc)

end Go.Proofs.Ytbpafjlfpdnnhaa
