/- The statement FnMatchMostSaid: for all arguments the Go function laws.FnMatchMost returns true and leaves its arguments as they were. No condition. -/
import Derived.Test.YtbpafjlfpdnnhaaMM
import Derived.Test.YtbpafjlfpdnnhaaMatchTop
import Derived.Test.YtbpafjlfpdnnhaaDrawE
import Derived.Test.YtbpafjlfpdnnhaaFrame
namespace Go.Proofs.Ytbpafjlfpdnnhaa
open Go.ChangeShapes Go.WideShapes Go.ChangeAt Go.RowKit

set_option maxHeartbeats 4000000 in
theorem walkFnMatchMost (A0 : Option Addr) (c0 : Nat) (l0 : List Int) (w : World) (r0 : RdI w w.heap.size .u8 A0 l0) (y0 : ∀ x ∈ l0, 0 ≤ x ∧ x ≤ 255) (k0 : l0.length ≤ c0) (m0 : c0 ≤ 9223372036854775807) :
    Calls Try.prog 9 #[.slice A0 l0.length c0] w fun e w' => e = .returned (.bool true) ∧ Below w.heap.size w w' := by
  by_cases z0 : 1048576 < l0.length
  · clear r0 y0
    go_enter Try.func9, Try.ntmps9
    go_wp2_with fail
    go_ret
    exact ⟨rfl, Below.refl _ _⟩
  have Y0 := Lib.hid y0
  clear y0
  go_enter Try.func9, Try.ntmps9
  go_wp2_with fail
  refine (DrawMatchMost_any A0 c0 l0 _ r0 Y0.out (by omega) k0 m0).mono ?_
  rintro e u1 ⟨AL, cL, L, AM, cM, M, t, rfl, hL, hM, hsL, hsM, ⟨ht0, ht1⟩, oL, oM, b1⟩
  have s1 := b1.size
  have t1 := b1
  have rL := Rd.of_own oL
  clear oL
  have rM := Rd.of_own oM
  clear oM
  clear b1
  clear r0
  go_wp2_with fail
  refine (matchMost_any AL AM cL cM (L) (M) t _ rL rM (by omega) (by omega)).mono ?_
  rintro e u2 ⟨rfl, b2⟩
  have s2 := b2.size
  have t2 := t1.trans (b2.mono t1.size)
  have rL := rL.to b2
  have rM := rM.to b2
  clear b2 t1
  go_wp2_with fail
  refine (specMatchMost_any AL AM cL cM (L) (M) t _ rL rM (by omega) (by omega)).mono ?_
  rintro e u3 ⟨rfl, b3⟩
  have s3 := b3.size
  have t3 := t2.trans (b3.mono t2.size)
  have rL := rL.to b3
  have rM := rM.to b3
  clear b3 t2
  cases hok : mtb L M t with
  | false =>
    rw [mmV_no hok]
    go_wp2_with fail
    go_ret
    exact ⟨ret_bool (by simp), t3⟩
  | true =>
    rw [mmV_yes hok]
    generalize hm : mostL t (szL L) (szL M) = m
    have HOK := Lib.hid hok
    have HM := Lib.hid hm
    have e1 := mmV_rev hok
    have e2 : mmV M L t = (m : Int) := by rw [mmV_comm, mmV_yes hok, hm]
    rw [hm] at e1
    have E1 := Lib.hid e1
    have E2 := Lib.hid e2
    clear e1 e2 hok hm hsL hsM
    have hb0 : Below u3.heap.size u3 ((u3.alloc (.cells #[] 32)).alloc (.cells #[] 32)) := ((Below.refl _ _).alloc (Nat.le_refl _) _).alloc (by simp) _
    have hacc0 : Acc2 u3 ((u3.alloc (.cells #[] 32)).alloc (.cells #[] 32)) 32 (.slice (some ⟨u3.heap.size, 0, none⟩) 0 0) (revTo L 0) := ⟨(World.ownsRow_made u3 #[] 0 (Nat.le_refl _) (by decide) rfl).alloc _, hb0⟩
    have hy0 : Blk ((u3.alloc (.cells #[] 32)).alloc (.cells #[] 32)) (u3.heap.size + 1) 32 #[] := by have := Blk.new_ (u3.alloc (.cells #[] 32)) 32 #[]; rwa [World.size_alloc] at this
    go_wp2_with fail
    go_loopw [10, 8] (fun i v wr => ∃ k : Nat, k ≤ L.length ∧ i = .int .i64 k ∧ Acc2 u3 wr 32 v (revTo L k) ∧ Blk wr (u3.heap.size + 1) 32 #[] ∧ v.ownBlock ≠ some (u3.heap.size + 1)) (fun i _ _ => L.length - (intOf i).toNat)
    case atStart => exact ⟨0, Nat.zero_le _, rfl, hacc0, hy0, by simp [Value.ownBlock]⟩
    case round =>
      obtain ⟨k, hk, rfl, hacc, hx1, hx2⟩ := hrel
      by_cases hlt : k < L.length
      · obtain ⟨b, o, hA, hB, hcs⟩ := rL (by omega)
        subst hA
        obtain ⟨q1, _⟩ := hcs k hlt
        obtain ⟨_, q2⟩ := hcs (L.length - 1 - k) (by omega)
        have hln : (revTo L k).length + 1 ≤ 4294967296 := by rw [length_revTo]; omega
        have s1 : IntKind.i64.wrap ((L.length : Int) - 1) = (L.length : Int) - 1 := IntWalk.i64_in _ (by omega)
        have s2 : IntKind.i64.wrap ((L.length : Int) - 1 - (k : Int)) = (L.length : Int) - 1 - (k : Int) := IntWalk.i64_in _ (by omega)
        have s3 : (0 : Int) ≤ (L.length : Int) - 1 - (k : Int) := by omega
        have s4 : (L.length : Int) - 1 - (k : Int) < (L.length : Int) := by omega
        have s5 : ((L.length : Int) - 1 - (k : Int)).toNat = L.length - 1 - k := by omega
        have hkz : (0 : Int) ≤ (k : Int) := by omega
        have hkl : (k : Int) < (L.length : Int) := by omega
        have s6 : (k : Int) ≤ (L.length : Int) - 1 := by omega
        clear hcs
        go_wp2_with fail
        have he1 : ∀ i : SW (Below u3.heap.size u3), (sw i).cell? ⟨b, o + k * 2, none⟩ = some (.int .i64 (fA L k)) := fun i => ((sw_is i).cell (p := ⟨b, _, none⟩) hB).trans q1
        have he2 : ∀ i : SW (Below u3.heap.size u3), (sw i).cell? ⟨b, o + (L.length - 1 - k) * 2 + 1, none⟩ = some (.int .i64 (fB L (L.length - 1 - k))) := fun i => ((sw_is i).cell (p := ⟨b, _, none⟩) hB).trans q2
        refine wp_region_plan (Below u3.heap.size u3) [([0, 1, 2, 3, 4, 5, 6, 7, 8, 9, 10, 11, 12, 13, 14, 15], 16), ([], 17)] [18] (by kernel_rfl) (by kernel_rfl) (below_drewN hacc.2 1) fun hne => ?_
        simp only [wpPlan, wpEff, effOf, opsAt, optCons, List.getElem?_toArray, List.getElem?_cons_zero, List.getElem?_cons_succ]
        repeat (go_big_quiet_step (fail))
        refine wpQuiet_nil ?_
        go_wp2
        refine effQ_normal ((hacc.drewN 1).alloc _).2 ?_
        refine wpQuiet_nil ?_
        go_wp2_with (at_builtin; refine wpList_app2_at rfl _ _ _ rfl Try.underlying25 infoEvent rfl (hacc.drewN 1) _ _ _ _ (by simp) rfl hln ?_; intro v1 w2 hacc1 hg1 hat1)
        refine effQ_normal hacc1.2 ?_
        repeat (go_big_quiet_step (fail))
        refine wpQuiet_nil ?_
        refine noPan_normal ?_
        go_wp2
        have hwz : u3.heap.size ≤ wr.heap.size := hacc.2.size
        have hlb := hx1.lt
        have hn1 : Blk w2 (u3.heap.size + 1) 32 #[] := ((hx1.drewN 1).alloc (.cells #[.int .i64 (fA L k), .int .i64 (fB L (L.length - 1 - k))] 32)).grown hg1 hx2
        have hn2 : v1.ownBlock ≠ some (u3.heap.size + 1) := fun e => by rcases hat1 with h | h; exact hx2 (h ▸ e); rw [h] at e; injection e with e; simp at e; omega
        exact ⟨⟨k + 1, hlt, by go_num, by rw [revTo_succ]; exact hacc1, hn1, hn2⟩, by simp [intOf]; omega⟩
      · obtain rfl : k = L.length := by omega
        obtain ⟨AX, cX, rfl⟩ := hacc.shape
        have hlx := length_revTo L L.length
        have hox := hacc.1
        rw [hlx] at hox ⊢
        have HX := Lib.hid hlx
        have hbz := hacc.2
        have hacc2 : Acc2 u3 wr 32 (.slice (some ⟨u3.heap.size + 1, 0, none⟩) 0 0) (revTo M 0) := ⟨⟨rfl, .inr ⟨u3.heap.size + 1, 0, #[], rfl, by omega, hx1, Nat.le_refl _, by decide, rfl, rfl⟩⟩, hbz⟩
        clear hlx hacc hacc0 hy0 hb0
        go_wp2_with fail
        go_loopw [11, 9] (fun i v wr => ∃ k : Nat, k ≤ M.length ∧ i = .int .i64 k ∧ Acc2 u3 wr 32 v (revTo M k) ∧ wr.ownsRow u3.heap.size 32 2 (.slice AX L.length cX) L.length (cells2 (revTo L L.length)) ∧ (∀ g, (.slice AX L.length cX : Value).ownBlock = some g → v.ownBlock ≠ some g)) (fun i _ _ => M.length - (intOf i).toNat)
        case atStart => exact ⟨0, Nat.zero_le _, rfl, hacc2, hox, fun g hg e => hx2 (by have e : some (u3.heap.size + 1) = some g := e; rw [e, length_revTo]; exact hg)⟩
        case round =>
          obtain ⟨k, hk, rfl, hacc, hx1, hx2⟩ := hrel
          by_cases hlt : k < M.length
          · obtain ⟨b, o, hA, hB, hcs⟩ := rM (by omega)
            subst hA
            obtain ⟨q1, _⟩ := hcs k hlt
            obtain ⟨_, q2⟩ := hcs (M.length - 1 - k) (by omega)
            have hln : (revTo M k).length + 1 ≤ 4294967296 := by rw [length_revTo]; omega
            have s1 : IntKind.i64.wrap ((M.length : Int) - 1) = (M.length : Int) - 1 := IntWalk.i64_in _ (by omega)
            have s2 : IntKind.i64.wrap ((M.length : Int) - 1 - (k : Int)) = (M.length : Int) - 1 - (k : Int) := IntWalk.i64_in _ (by omega)
            have s3 : (0 : Int) ≤ (M.length : Int) - 1 - (k : Int) := by omega
            have s4 : (M.length : Int) - 1 - (k : Int) < (M.length : Int) := by omega
            have s5 : ((M.length : Int) - 1 - (k : Int)).toNat = M.length - 1 - k := by omega
            have hkz : (0 : Int) ≤ (k : Int) := by omega
            have hkl : (k : Int) < (M.length : Int) := by omega
            have s6 : (k : Int) ≤ (M.length : Int) - 1 := by omega
            clear hcs
            go_wp2_with fail
            have he1 : ∀ i : SW (Below u3.heap.size u3), (sw i).cell? ⟨b, o + k * 2, none⟩ = some (.int .i64 (fA M k)) := fun i => ((sw_is i).cell (p := ⟨b, _, none⟩) hB).trans q1
            have he2 : ∀ i : SW (Below u3.heap.size u3), (sw i).cell? ⟨b, o + (M.length - 1 - k) * 2 + 1, none⟩ = some (.int .i64 (fB M (M.length - 1 - k))) := fun i => ((sw_is i).cell (p := ⟨b, _, none⟩) hB).trans q2
            refine wp_region_plan (Below u3.heap.size u3) [([0, 1, 2, 3, 4, 5, 6, 7, 8, 9, 10, 11, 12, 13, 14, 15], 16), ([], 17)] [18] (by kernel_rfl) (by kernel_rfl) (below_drewN hacc.2 1) fun hne => ?_
            simp only [wpPlan, wpEff, effOf, opsAt, optCons, List.getElem?_toArray, List.getElem?_cons_zero, List.getElem?_cons_succ]
            repeat (go_big_quiet_step (fail))
            refine wpQuiet_nil ?_
            go_wp2
            refine effQ_normal ((hacc.drewN 1).alloc _).2 ?_
            refine wpQuiet_nil ?_
            go_wp2_with (at_builtin; refine wpList_app2_at rfl _ _ _ rfl Try.underlying25 infoEvent rfl (hacc.drewN 1) _ _ _ _ (by simp) rfl hln ?_; intro v1 w2 hacc1 hg1 hat1)
            refine effQ_normal hacc1.2 ?_
            repeat (go_big_quiet_step (fail))
            refine wpQuiet_nil ?_
            refine noPan_normal ?_
            go_wp2
            have hwz : u3.heap.size ≤ wr.heap.size := hacc.2.size
            have hn1 : w2.ownsRow u3.heap.size 32 2 (.slice AX L.length cX) L.length (cells2 (revTo L L.length)) := ((own_drewN hx1 1).alloc (.cells #[.int .i64 (fA M k), .int .i64 (fB M (M.length - 1 - k))] 32)).kept hg1 (by cases hb : (Value.slice AX L.length cX).ownBlock with | none => exact .inl rfl | some g => exact .inr (fun e => hx2 g hb e.symm))
            have hn2 : ∀ g, (.slice AX L.length cX : Value).ownBlock = some g → v1.ownBlock ≠ some g := fun g hg e => by have hl := (hx1.lt g hg).2; rcases hat1 with h | h; exact hx2 g hg (h ▸ e); rw [h] at e; injection e with e; simp at e; omega
            exact ⟨⟨k + 1, hlt, by go_num, by rw [revTo_succ]; exact hacc1, hn1, hn2⟩, by simp [intOf]; omega⟩
          · obtain rfl : k = M.length := by omega
            obtain ⟨AY, cY, rfl⟩ := hacc.shape
            have hly := length_revTo M M.length
            have b4 := hacc.2
            have rY := Rd.of_own hacc.1
            have rX := Rd.of_own (w := wr) (l := revD L) (A := AX) (c := cX) (base := u3.heap.size) (e := 32) (by rw [show (revD L).length = L.length from length_revTo L L.length]; exact hx1)
            have s4 := b4.size
            have t4 := t3.trans (b4.mono t3.size)
            have rL := rL.to b4
            have rM := rM.to b4
            have hl1 : (revD L).length ≤ 1048576 := by unfold revD; rw [length_revTo]; omega
            have hl2 : (revD M).length ≤ 1048576 := by unfold revD; rw [length_revTo]; omega
            clear hacc hacc2 hox hx1 hx2 b4 t3
            go_wp2_with fail
            refine (matchMost_any AM AL cM cL (M) (L) t _ rM rL (by omega) (by omega)).mono ?_
            rintro e u5 ⟨rfl, b5⟩
            have s5 := b5.size
            have t5 := t4.trans (b5.mono t4.size)
            have rX := rX.to b5
            have rY := rY.to b5
            have rL := rL.to b5
            have rM := rM.to b5
            clear b5 t4
            rw [E2.out]
            have C1 := fun (u : World) (r : Rd u u.heap.size AX (revD L)) (s : Rd u u.heap.size AY (revD M)) => matchMost_any AX AY cX cY (revD L) (revD M) t u r s hl1 hl2
            rw [E1.out] at C1
            rw [show (revD L).length = L.length from length_revTo L L.length] at C1
            have C2 := Lib.hid C1
            clear C1 hly
            go_wp2_with fail
            refine (C2.out _ rX rY).mono ?_
            rintro e u6 ⟨rfl, b6⟩
            have s6 := b6.size
            have t6 := t5.trans (b6.mono t5.size)
            have rX := rX.to b6
            have rY := rY.to b6
            have rL := rL.to b6
            have rM := rM.to b6
            clear b6 t5
            go_wp2_with fail
            go_ret
            exact ⟨ret_bool (rfl), t6⟩

set_option maxRecDepth 100000 in
theorem liftedFnMatchMost (os : Os) (started : os.Started) (H : Type) (enc : TypeId × Value → H) :
    ReturnsInHanded {} Try.checked os 9 .any (Rows.fnMatchMostSpec.pre6 enc Try.prog Try.f9 Rows.fnMatchMostRow.domain false) (Rows.fnMatchMostSpec.post enc Try.prog Try.f9 false true false false) := by
  refine returnsInHanded_of_change (C := Try.checked) own_ started (by kernel_rfl) Try.func9
    (ChangeSpec.witness6 (enc := enc) (C := Try.checked) false ⟨#[], #[.slice none 0 0], []⟩ 8 (by kernel_rfl) (by kernel_rfl) (by kernel_rfl) (by kernel_rfl)) ?_
  intro W base args ds gs before hval0 hW hcnd _
  have hval : ∀ (j : Nat) t v, Try.f9.params[j]? = some t → args[j]? = some v → Value.okWide Try.prog W .any base t v := hval0
  have hW' := hW
  obtain ⟨p, q, hA0, hV, rfl, hfz, hnd⟩ := hW
  have hA : DataW.TrodAll enc Try.prog W 0 (fun _ => true) true Try.f9.params.toList args.toList ds p := hA0
  rw [Try.params9] at hA hval
  obtain ⟨v0, vs0, d0, ds0, p0, q0, hargs, rfl, rfl, h0, r0⟩ := trodAll_cons hA
  obtain ⟨rfl, rfl, rfl⟩ := trodAll_nil r0
  obtain rfl : args = #[v0] := by cases args; simp_all
  obtain ⟨rfl, rfl⟩ := trodVars_none hV
  obtain ⟨a0, n0, c0, rfl⟩ := okWide_slice Try.underlying29 (hval 0 29 v0 rfl rfl)
  have kk0 := h0
  have lt0 : ∀ x ∈ p0, x.block < W.heap.size := by obtain ⟨m, hm⟩ := kk0; exact DataW.trod_lt m _ _ _ hm
  obtain ⟨l0, e0, g0, w0, b0, bm0⟩ : ∃ l : List Int, l.length = n0 ∧ RdI W W.heap.size .u8 a0 l ∧ (∀ z ∈ l, (Lit.int .u8 z).wf = true) ∧ n0 ≤ c0 ∧ c0 ≤ maxLen := by
    obtain ⟨fuel, hf⟩ := h0
    exact openI Try.underlying29 Try.underlying5 (by kernel_rfl) (by simpa [Value.cells] using hf)
  subst e0
  clear hA0 hval0
  refine (walkFnMatchMost a0 c0 l0 W g0 (wf_bytes w0) b0 (by unfold maxLen at bm0; omega)).mono fun e W' ⟨he, bel⟩ => ?_
  subst he
  exact ⟨_, rfl, _, _, _, [], _, [], hW', trodAll_mk1 (shut_bool Try.underlying4 _), (trodAll_cons_mk (Below.trod laidOut_ (by kernel_rfl) (of_decide_eq_true (by kernel_rfl)) kk0 bel lt0) trodAll_mk0), rfl, bel.frame _, fun h => by cases h⟩

theorem fnMatchMost_holds : Rows.FnMatchMostSaid :=
  OpenClaim.holds_of_wide 9 Try.f9 rfl rfl rfl rfl rfl rfl rfl ⟨rfl, rfl, rfl, rfl, rfl⟩ rfl rfl rfl rfl rfl (by kernel_rfl) Try.func9 (by kernel_rfl)
    (of_decide_eq_true (by kernel_rfl)) (by unfold Func.isWrapper; first | (rw [if_pos (by decide +kernel)]; kernel_rfl) | (rw [if_neg (by decide +kernel)]; exact ⟨rfl, rfl⟩))
    (fun os started H enc _ => liftedFnMatchMost os started H enc)

end Go.Proofs.Ytbpafjlfpdnnhaa
