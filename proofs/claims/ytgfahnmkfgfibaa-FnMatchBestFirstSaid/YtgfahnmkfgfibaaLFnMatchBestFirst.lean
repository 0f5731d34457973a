/- The statement FnMatchBestFirstSaid: for all arguments the Go function laws.FnMatchBestFirst returns true and leaves its arguments as they were. No condition. -/
import Derived.Test.YtgfahnmkfgfibaaBest
import Derived.Test.YtgfahnmkfgfibaaMany
import Derived.Test.YtgfahnmkfgfibaaBestTop
import Derived.Test.YtgfahnmkfgfibaaIntsMore
import Derived.Test.YtgfahnmkfgfibaaDrawE
import Derived.Test.YtgfahnmkfgfibaaFrame
namespace Go.Proofs.Ytgfahnmkfgfibaa
open Go.ChangeShapes Go.WideShapes Go.ChangeAt Go.RowKit

set_option maxRecDepth 100000 in
set_option maxHeartbeats 4000000 in
theorem walkFnMatchBestFirst (A0 : Option Addr) (c0 : Nat) (l0 : List Int) (w : World) (r0 : RdI w w.heap.size .u8 A0 l0) (y0 : ∀ x ∈ l0, 0 ≤ x ∧ x ≤ 255) (k0 : l0.length ≤ c0) (m0 : c0 ≤ 9223372036854775807) :
    Calls Try.prog 7 #[.slice A0 l0.length c0] w fun e w' => e = .returned (.bool true) ∧ Below w.heap.size w w' := by
  by_cases z0 : 1048576 < l0.length
  · clear r0 y0
    go_enter Try.func7, Try.ntmps7
    go_wp2_with fail
    go_ret
    exact ⟨rfl, Below.refl _ _⟩
  have Y0 := Lib.hid y0
  clear y0
  go_enter Try.func7, Try.ntmps7
  go_wp2_with fail
  refine (DrawMatchBest_any A0 c0 l0 _ r0 Y0.out (by omega) k0 m0).mono ?_
  rintro e u1 ⟨AL, cL, L, AM, cM, M, t, rfl, hL, hM, hsL, hsM, ⟨ht0, ht1⟩, oL, oM, b1⟩
  have s1 := b1.size
  have t1 := b1
  have rL := Rd.of_own oL
  clear oL
  have rM := Rd.of_own oM
  clear oM
  clear b1
  clear r0 hsL hsM
  have hbl := bestV_len L M t
  go_wp2_with fail
  refine (matchBest_any AL AM cL cM (L) (M) t _ rL rM (by omega) (by omega)).mono ?_
  rintro e u2 ⟨Ao, co, rfl, oo, b2⟩
  have s2 := b2.size
  have t2 := t1.trans (b2.mono t1.size)
  have rL := rL.to b2
  have rM := rM.to b2
  have ro := RdI.of_own oo
  clear oo
  clear b2 t1
  go_wp2_with fail
  refine (specMatchBest_any AL AM cL cM (L) (M) t _ rL rM (by omega) (by omega)).mono ?_
  rintro e u3 ⟨Aw, cw, rfl, ow, b3⟩
  have s3 := b3.size
  have t3 := t2.trans (b3.mono t2.size)
  have rL := rL.to b3
  have rM := rM.to b3
  have ro := ro.to b3
  have rw := RdI.of_own ow
  clear ow
  clear b3 t2
  go_wp2_with fail
  generalize hok : (mtb L M t) = ok
  cases ok with
  | false =>
    go_wp2_with fail
    refine (sameInts_any Ao Aw co cw (bestV L M t) (bestV L M t) _ ro rw (by omega)).mono ?_
    rintro e u4 ⟨rfl, b4⟩
    have s4 := b4.size
    have t4 := t3.trans (b4.mono t3.size)
    have rL := rL.to b4
    have rM := rM.to b4
    have ro := ro.to b4
    have rw := rw.to b4
    clear b4 t3
    go_wp2_with fail
    refine (sameInts_any Ao Aw co cw (bestV L M t) (bestV L M t) _ ro rw (by omega)).mono ?_
    rintro e u5 ⟨rfl, b5⟩
    have s5 := b5.size
    have t5 := t4.trans (b5.mono t4.size)
    have rL := rL.to b5
    have rM := rM.to b5
    have ro := ro.to b5
    have rw := rw.to b5
    clear b5 t4
    go_wp2_with fail
    go_ret
    exact ⟨ret_bool (by simp), t5⟩
  | true =>
    go_wp2_with fail
    refine (sameInts_any Ao Aw co cw (bestV L M t) (bestV L M t) _ ro rw (by omega)).mono ?_
    rintro e u4 ⟨rfl, b4⟩
    have s4 := b4.size
    have t4 := t3.trans (b4.mono t3.size)
    have rL := rL.to b4
    have rM := rM.to b4
    have ro := ro.to b4
    have rw := rw.to b4
    clear b4 t3
    clear rw
    have E1 := Lib.hid (fun (i k : Nat) (hi : i < L.length) h1 h2 => best_first hok (k := k) hi h1 h2)
    have EB := Lib.hid (fun (i : Nat) (hi : i < L.length) => best_bd hok hi)
    have hD1 : (bestV L M t).length ≤ L.length := Nat.le_of_eq (bestV_length hok)
    have hD2 : L.length ≤ (bestV L M t).length := Nat.le_of_eq (bestV_length hok).symm
    have hD3 : (((bestV L M t).length : Int) == (L.length : Int)) = true := by simp [bestV_length hok]
    have EL := Lib.hid (fun (i : Nat) (hi : i ≤ (bestV L M t).length) => lastTo_bd (l := bestV L M t) (B := (M.length : Int)) (by omega) (fun k hk => by have := best_bd hok (i := k) (by omega); omega) i hi)
    clear hok
    go_wp2_with fail
    go_loopw [10] (fun i wr => ∃ k : Nat, k ≤ (bestV L M t).length ∧ i = .int .i64 k ∧ Below u4.heap.size u4 wr) (fun i _ => (bestV L M t).length - (intOf i).toNat)
    case atStart => exact ⟨0, Nat.zero_le _, rfl, Below.refl _ _⟩
    case round =>
      obtain ⟨i, hi0, rfl, hb⟩ := hrel
      by_cases hi : i < (bestV L M t).length
      · have l1 : (0 : Int) ≤ (i : Int) := by omega
        have l2 : (i : Int) < ((bestV L M t).length : Int) := by omega
        go_wp2_with fail
        go_loopw [12, 11] (fun j v wx => ∃ q : Nat, q ≤ i ∧ j = .int .i64 q ∧ v = .int .i64 (lastTo (bestV L M t) q) ∧ wx = wr) (fun j _ _ => i - (intOf j).toNat)
        case atStart => exact ⟨0, Nat.zero_le _, rfl, rfl, rfl⟩
        case round =>
          obtain ⟨q, hq0, rfl, rfl, hwx⟩ := hrel
          try subst hwx
          obtain ⟨bo, oo, hA, hB, hcs⟩ := (ro.to hb) (by omega)
          by_cases hq : q < i
          · subst hA
            have e0 := hcs q (by omega)
            have l3 : (0 : Int) ≤ (q : Int) := by omega
            have l4 : (q : Int) < ((bestV L M t).length : Int) := by omega
            clear hcs
            by_cases hmx : gI (bestV L M t) q ≤ lastTo (bestV L M t) q
            · go_wp2
              exact ⟨⟨q + 1, hq, by go_num, by rw [lastTo]; congr 1; omega, by first | rfl | trivial⟩, by simp [intOf]; omega⟩
            · have hmx2 : decide (gI (bestV L M t) q ≤ lastTo (bestV L M t) q) = false := decide_eq_false hmx
              go_wp2
              exact ⟨⟨q + 1, hq, by go_num, by rw [lastTo]; congr 1; omega, by first | rfl | trivial⟩, by simp [intOf]; omega⟩
          · obtain rfl : q = i := by omega
            subst hA
            have e0 := hcs q hi
            clear hcs
            have hbd := EB.out q (by omega)
            have hlb := EL.out q (by omega)
            by_cases hg : gI (bestV L M t) q < 0
            · go_wp2
              exact ⟨⟨q + 1, hi, by go_num, hb⟩, by simp [intOf]; omega⟩
            · have g1 : decide (gI (bestV L M t) q < 0) = false := decide_eq_false hg
              obtain ⟨lo, hlo⟩ := Int.eq_ofNat_of_zero_le (show 0 ≤ lastTo (bestV L M t) q + 1 by omega)
              have s1 : IntKind.i64.wrap (lastTo (bestV L M t) q + 1) = (lo : Int) := by rw [← hlo]; exact IntWalk.i64_in _ (by omega)
              have HLO := Lib.hid hlo
              have hlo2 : (lo : Int) ≤ (M.length : Int) + 1 := by omega
              obtain ⟨hg2, hhi⟩ := Int.eq_ofNat_of_zero_le (show 0 ≤ gI (bestV L M t) q by omega)
              have HHI := Lib.hid hhi
              rw [hhi] at e0 g1 hbd
              have hlb2 := hlb
              clear hlo hg hhi
              go_wp2_with fail
              go_loopw [14] (fun j wx => ∃ p : Nat, lo ≤ p ∧ j = .int .i64 p ∧ Below u4.heap.size u4 wx) (fun j _ => hg2 - (intOf j).toNat)
              case atStart => exact ⟨lo, Nat.le_refl _, rfl, hb⟩
              case round =>
                obtain ⟨p, hp0, rfl, hb⟩ := hrel
                by_cases hp : p < hg2
                · have F := E1.out q p (by omega) (by have := HLO.out; omega) (by rw [HHI.out]; omega)
                  have FH := Lib.hid F
                  clear F s1 e0
                  have hi := hi
                  have rOo := ro.to hb
                  have rLo := rL.to hb
                  have rMo := rM.to hb
                  have o0 : (wr.alloc (.cells #[] 3)).ownsRow wr.heap.size 3 1 (.slice (some ⟨wr.heap.size, 0, none⟩) 0 0) ([] : List Int).length (cells1 .i64 []) := World.ownsRow_made wr #[] 0 (Nat.le_refl _) (by decide) rfl
                  have b0 : Below wr.heap.size wr (wr.alloc (.cells #[] 3)) := (Below.refl _ _).alloc (Nat.le_refl _) _
                  have rD := rOo.to b0
                  have hnD : ([] : List Int).length + (bestV L M t).length ≤ 4294967296 := by simp only [List.length_nil]; omega
                  go_wp2_with (at_builtin; refine wpList_appMany1 rfl _ _ _ rfl Try.underlying27 infoI64 rfl o0 b0.size rfl rD hnD ?_; intro v1 w1 o1 hg1 hat1; have b1 : Below wr.heap.size wr w1 := b0.grown hg1 b0.size fun k hk => (o0.lt k hk).1; rw [List.nil_append] at o1; obtain ⟨gx, cX, hvx, hgx, hgxl⟩ := o1.form (by omega); subst hvx; have qx := (o1.cellAt q (by omega)).trans (cells1_get .i64 (bestV L M t) q hi); have fx := o1.frozenAt q)
                  obtain ⟨oX0, _⟩ := o1.stored q (.int .i64 p)
                  rw [← cells1_putI] at oX0
                  have rX := RdI.of_own' oX0 (by rw [length_putI])
                  have bz := b1.setCell (p := ⟨gx, q, none⟩) (by exact hgx) (.int .i64 p)
                  generalize w1.setCell ⟨gx, q, none⟩ (.int .i64 p) = wz at rX bz ⊢
                  clear o0 b0 rD o1 hg1 hat1 b1 qx fx oX0 rOo
                  go_wp2_with fail
                  have X1 := matchOk_any AL AM (some ⟨gx, 0, none⟩) cL cM cX L M t (putI (bestV L M t) q p) wz (rLo.to bz) (rMo.to bz) rX (by omega) (by omega)
                  rw [length_putI] at X1
                  rw [show putI (bestV L M t) q p = (bestV L M t).set q p from rfl, FH.out] at X1
                  refine X1.mono ?_
                  rintro e wy ⟨rfl, hy⟩
                  have hbe := hb.trans ((bz.trans (hy.mono bz.size)).mono hb.size)
                  clear X1 bz hy rX
                  go_wp2
                  exact ⟨⟨p + 1, by omega, by go_num, hbe⟩, by simp [intOf]; omega⟩
                · clear s1 e0
                  go_wp2
                  exact ⟨⟨q + 1, hi, by go_num, hb⟩, by simp [intOf]; omega⟩
      · go_wp2
        go_ret
        exact ⟨ret_bool rfl, t4.trans (hb.mono t4.size)⟩

set_option maxRecDepth 100000 in
theorem liftedFnMatchBestFirst (os : Os) (started : os.Started) (H : Type) (enc : TypeId × Value → H) :
    ReturnsInHanded {} Try.checked os 7 .any (Rows.fnMatchBestFirstSpec.pre6 enc Try.prog Try.f7 Rows.fnMatchBestFirstRow.domain false) (Rows.fnMatchBestFirstSpec.post enc Try.prog Try.f7 false true false false) := by
  refine returnsInHanded_of_change (C := Try.checked) own_ started (by kernel_rfl) Try.func7
    (ChangeSpec.witness6 (enc := enc) (C := Try.checked) false ⟨#[], #[.slice none 0 0], []⟩ 8 (by kernel_rfl) (by kernel_rfl) (by kernel_rfl) (by kernel_rfl)) ?_
  intro W base args ds gs before hval0 hW hcnd _
  have hval : ∀ (j : Nat) t v, Try.f7.params[j]? = some t → args[j]? = some v → Value.okWide Try.prog W .any base t v := hval0
  have hW' := hW
  obtain ⟨p, q, hA0, hV, rfl, hfz, hnd⟩ := hW
  have hA : DataW.TrodAll enc Try.prog W 0 (fun _ => true) true Try.f7.params.toList args.toList ds p := hA0
  rw [Try.params7] at hA hval
  obtain ⟨v0, vs0, d0, ds0, p0, q0, hargs, rfl, rfl, h0, r0⟩ := trodAll_cons hA
  obtain ⟨rfl, rfl, rfl⟩ := trodAll_nil r0
  obtain rfl : args = #[v0] := by cases args; simp_all
  obtain ⟨rfl, rfl⟩ := trodVars_none hV
  obtain ⟨a0, n0, c0, rfl⟩ := okWide_slice Try.underlying22 (hval 0 22 v0 rfl rfl)
  have kk0 := h0
  have lt0 : ∀ x ∈ p0, x.block < W.heap.size := by obtain ⟨m, hm⟩ := kk0; exact DataW.trod_lt m _ _ _ hm
  obtain ⟨l0, e0, g0, w0, b0, bm0⟩ : ∃ l : List Int, l.length = n0 ∧ RdI W W.heap.size .u8 a0 l ∧ (∀ z ∈ l, (Lit.int .u8 z).wf = true) ∧ n0 ≤ c0 ∧ c0 ≤ maxLen := by
    obtain ⟨fuel, hf⟩ := h0
    exact openI Try.underlying22 Try.underlying5 (by kernel_rfl) (by simpa [Value.cells] using hf)
  subst e0
  clear hA0 hval0
  refine (walkFnMatchBestFirst a0 c0 l0 W g0 (wf_bytes w0) b0 (by unfold maxLen at bm0; omega)).mono fun e W' ⟨he, bel⟩ => ?_
  subst he
  exact ⟨_, rfl, _, _, _, [], _, [], hW', trodAll_mk1 (shut_bool Try.underlying4 _), (trodAll_cons_mk (Below.trod laidOut_ (by kernel_rfl) (of_decide_eq_true (by kernel_rfl)) kk0 bel lt0) trodAll_mk0), rfl, bel.frame _, fun h => by cases h⟩

theorem fnMatchBestFirst_holds : Rows.FnMatchBestFirstSaid :=
  OpenClaim.holds_of_wide 7 Try.f7 rfl rfl rfl rfl rfl rfl rfl ⟨rfl, rfl, rfl, rfl, rfl⟩ rfl rfl rfl rfl rfl (by kernel_rfl) Try.func7 (by kernel_rfl)
    (of_decide_eq_true (by kernel_rfl)) (by unfold Func.isWrapper; first | (rw [if_pos (by decide +kernel)]; kernel_rfl) | (rw [if_neg (by decide +kernel)]; exact ⟨rfl, rfl⟩))
    (fun os started H enc _ => liftedFnMatchBestFirst os started H enc)

end Go.Proofs.Ytgfahnmkfgfibaa
