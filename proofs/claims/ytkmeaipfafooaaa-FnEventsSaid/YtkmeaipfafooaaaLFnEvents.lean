/- The statement FnEventsSaid: for all arguments the Go function laws.FnEvents returns true and leaves its arguments as they were. No condition. -/
import Derived.Test.YtkmeaipfafooaaaEv
import Derived.Test.YtkmeaipfafooaaaDrawE
import Derived.Test.YtkmeaipfafooaaaMore
import Derived.Test.YtkmeaipfafooaaaEvTop
import Derived.Test.YtkmeaipfafooaaaTree
import Derived.Test.YtkmeaipfafooaaaObj
import Derived.Test.YtkmeaipfafooaaaEvLaw
import Derived.Test.YtkmeaipfafooaaaPlan
import Derived.Test.YtkmeaipfafooaaaFrame
namespace Go.Proofs.Ytkmeaipfafooaaa
open Go.ChangeShapes Go.WideShapes Go.ChangeAt Go.RowKit

set_option maxRecDepth 100000 in
set_option maxHeartbeats 20000000 in
theorem walkFnEvents (A0 : Option Addr) (c0 : Nat) (l0 : List Int) (A1 : Option Addr) (c1 : Nat) (l1 : List Int) (w : World) (r0 : RdI w w.heap.size .u8 A0 l0) (y0 : ∀ x ∈ l0, 0 ≤ x ∧ x ≤ 255) (k0 : l0.length ≤ c0) (m0 : c0 ≤ 9223372036854775807)  :
    Calls Try.prog 3 #[.slice A0 l0.length c0, .slice A1 l1.length c1] w fun e w' => e = .returned (.bool true) ∧ Below w.heap.size w w' := by
  by_cases z0 : 1048576 < l0.length
  · clear r0 y0
    go_enter Try.func3, Try.ntmps3
    go_wp2_with fail
    go_ret
    exact ⟨rfl, Below.refl _ _⟩
  by_cases z1 : 1048576 < l1.length
  · clear r0 y0
    go_enter Try.func3, Try.ntmps3
    go_wp2_with fail
    go_ret
    exact ⟨rfl, Below.refl _ _⟩
  have Y0 := Lib.hid y0
  clear y0
  go_enter Try.func3, Try.ntmps3
  go_wp2_with fail
  refine (DrawEventsValid_any A0 c0 l0 _ r0 Y0.out (by omega) k0 m0).mono ?_
  rintro e u1 ⟨AL, cL, L, rfl, hL, _, oL, b1⟩
  have s1 := b1.size
  have t1 := b1
  have wL := own_cap oL
  have rL := Rd.of_own oL
  clear oL
  clear b1
  clear r0
  go_wp2_with fail
  refine (eventsValid_any AL cL (L) _ rL (by omega)).mono ?_
  rintro e u2 ⟨rfl, b2⟩
  have s2 := b2.size
  have t2 := t1.trans (b2.mono t1.size)
  have rL := rL.to b2
  clear b2 t1
  go_wp2_with fail
  refine (specEventsValid_any AL cL (L) _ rL (by omega)).mono ?_
  rintro e u3 ⟨rfl, b3⟩
  have s3 := b3.size
  have t3 := t2.trans (b3.mono t2.size)
  have rL := rL.to b3
  clear b3 t2
  have hj : l1.length % (L.length + 1) ≤ L.length := by have := Nat.mod_lt l1.length (show 0 < L.length + 1 by omega); omega
  have g0 : (l1.length : Int) % ((L.length : Int) + 1) = ((l1.length % (L.length + 1) : Nat) : Int) := by simp
  have g1 : (0 : Int) ≤ (l1.length : Int) % ((L.length : Int) + 1) ∧ (l1.length : Int) % ((L.length : Int) + 1) ≤ (cL : Int) := by rw [g0]; omega
  clear g0
  cases hv : ev L with
  | false =>
    go_wp2_with fail
    go_ret
    exact ⟨ret_bool (rfl), t3⟩
  | true =>
    have ej : (L.take (l1.length % (L.length + 1))).length = (l1.length % (L.length + 1)) := by rw [List.length_take]; omega
    have vt : ev (L.take (l1.length % (L.length + 1))) = true := ev_take hv _
    by_cases hz : L.length = 0
    · have hz2 : ((L.length : Int) == 0) = true := by simp [hz]
      have HZ := Lib.hid hz
      clear hz
      go_wp2_with fail
      have X1 := eventsValid_any AL cL (L.take (l1.length % (L.length + 1))) u3 (rL.take _) (by omega)
      rw [ej, vt] at X1
      refine X1.mono ?_
      rintro e u4 ⟨rfl, b4⟩
      have tt := t3.trans (b4.mono t3.size)
      go_wp2_with fail
      go_ret
      exact ⟨rfl, tt⟩
    · have hz2 : ((L.length : Int) == 0) = false := by simp; intro h; simp [h] at hz
      have hz0 : 0 < L.length := by omega
      have hz1 : (0 : Int) ≤ (L.length : Int) - 1 ∧ (L.length : Int) - 1 < (L.length : Int) := by omega
      have hz3 : ((L.length : Int) - 1).toNat = L.length - 1 := by omega
      have hz4 : (1 : Int) ≤ (L.length : Int) := by omega
      have s1 : IntKind.i64.wrap ((L.length : Int) - 1) = (L.length : Int) - 1 := IntWalk.i64_in _ (by omega)
      have hi : l1.length % L.length < L.length := Nat.mod_lt _ hz0
      have hi1 : (0 : Int) ≤ (l1.length : Int) % (L.length : Int) ∧ (l1.length : Int) % (L.length : Int) < (L.length : Int) := ⟨Int.emod_nonneg _ (by omega), Int.emod_lt_of_pos _ (by omega)⟩
      have hi2 : ((l1.length : Int) % (L.length : Int)).toNat = l1.length % L.length := by rw [← Int.natCast_emod]; exact Int.toNat_natCast _
      have o0 : (u3.alloc (.cells #[] 27)).ownsRow u3.heap.size 27 2 (.slice (some ⟨u3.heap.size, 0, none⟩) 0 0) ([] : List (Int × Int)).length (cells2 []) := World.ownsRow_made u3 #[] 0 (Nat.le_refl _) (by decide) rfl
      have b0 : Below u3.heap.size u3 (u3.alloc (.cells #[] 27)) := (Below.refl _ _).alloc (Nat.le_refl _) _
      have rL0 := rL.to b0
      have hn0 : ([] : List (Int × Int)).length + L.length ≤ 4294967296 := by simp only [List.length_nil]; omega
      clear hz
      go_wp2_with (at_builtin; refine wpList_appMany2 rfl _ _ _ rfl Try.underlying23 infoEvent rfl o0 b0.size rfl rL0 hn0 ?_; intro v1 w1 o1 hg1 hat1; have b1 : Below u3.heap.size u3 w1 := b0.grown hg1 b0.size fun k hk => (o0.lt k hk).1; rw [List.nil_append] at o1; obtain ⟨gx, cX, hvx, hgx, hgxl⟩ := o1.form hz0; subst hvx; have qx := (o1.cellAt ((l1.length % L.length) * 2 + 1) (by omega)).trans (cells2_get L (l1.length % L.length) hi).2; have fx := o1.frozenAt ((l1.length % L.length) * 2 + 1))
      obtain ⟨oX0, _⟩ := o1.stored ((l1.length % L.length) * 2 + 1) (.int .i64 0)
      rw [← cells2_putB L (l1.length % L.length) 0 hi] at oX0
      have rX := Rd.of_own (w := w1.setCell ⟨gx, (l1.length % L.length) * 2 + 1, none⟩ (.int .i64 0)) (l := putB L (l1.length % L.length) 0) (A := some ⟨gx, 0, none⟩) (c := cX) (base := u3.heap.size) (e := 27) (by rw [length_putB]; exact oX0)
      have bz := b1.setCell (p := ⟨gx, (l1.length % L.length) * 2 + 1, none⟩) (by exact hgx) (.int .i64 0)
      generalize w1.setCell ⟨gx, (l1.length % L.length) * 2 + 1, none⟩ (.int .i64 0) = wz at rX bz ⊢
      have rL := rL.to bz
      have tz := t3.trans (bz.mono t3.size)
      have HI := Lib.hid hi2
      clear o0 b0 rL0 o1 hg1 hat1 b1 qx fx oX0 bz hi1 hi2 t3
      obtain ⟨b, o, hA, hB, hcs⟩ := rL hz0
      obtain ⟨q1, q2⟩ := hcs (L.length - 1) (by omega)
      subst hA
      clear hcs
      have vv := ev_twice (l := L) hz0
      have vx := ev_zero (l := L) hi
      have hl2 : (L ++ [(fA L (L.length - 1), fB L (L.length - 1))]).length ≤ 1048576 := by simp; omega
      have hl3 : (putB L (l1.length % L.length) 0).length ≤ 1048576 := by rw [length_putB]; omega
      have hn2 : L.length + [(fA L (L.length - 1), fB L (L.length - 1))].length ≤ 4294967296 := by simp; omega
      have he1 : ∀ i : SW (Below wz.heap.size wz), (sw i).cell? ⟨b, o + (L.length - 1) * 2, none⟩ = some (.int .i64 (fA L (L.length - 1))) := fun i => ((sw_is i).cell (p := ⟨b, _, none⟩) hB).trans q1
      have he2 : ∀ i : SW (Below wz.heap.size wz), (sw i).cell? ⟨b, o + (L.length - 1) * 2 + 1, none⟩ = some (.int .i64 (fB L (L.length - 1))) := fun i => ((sw_is i).cell (p := ⟨b, _, none⟩) hB).trans q2
      have AL1 : ∀ v, Below wz.heap.size wz v → Rd v v.heap.size (some ⟨b, o, none⟩) L := fun v h => rL.to h
      have AX1 : ∀ v, Below wz.heap.size wz v → Rd v v.heap.size (some ⟨gx, 0, none⟩) (putB L (l1.length % L.length) 0) := fun v h => rX.to h
      have ALh := Lib.hid AL1
      have AXh := Lib.hid AX1
      have VV := Lib.hid vv
      have VX := Lib.hid vx
      have VT := Lib.hid vt
      have EJ := Lib.hid ej
      clear AL1 AX1 rL rX vv vx vt ej hv q1 q2
      go_wp2_with fail
      refine wp_region_tree (Below wz.heap.size wz) none (.one [0, 1, 2] 3 (.two [4, 6, 8, 9, 10, 11, 12, 13] 5 (.two [] 7 (.one [] 14 (.one [] 15 (.one [] 16 (.one [17, 18, 19, 20] 21 (.fin [22, 23, 24]))))) 14 (.one [] 7 (.one [] 15 (.one [] 16 (.one [17, 18, 19, 20] 21 (.fin [22, 23, 24])))))) 14 (.one [] 5 (.one [] 7 (.one [] 15 (.one [] 16 (.one [17, 18, 19, 20] 21 (.fin [22, 23, 24])))))))) (by kernel_rfl) (by kernel_rfl) (below_drewN (Below.refl _ _) 1) fun hne => ?_
      simp only [wpTree, wpEff, effOf, opsAt, optCons, List.getElem?_toArray, List.getElem?_cons_zero, List.getElem?_cons_succ]
      repeat (go_big_quiet_step (fail))
      refine wpQuiet_nil ?_
      go_wp2_with fail
      have S0 := below_drewN (Below.refl wz.heap.size wz) 1
      have X1 := eventsValid_any (some ⟨b, o, none⟩) cL (L.take (l1.length % (L.length + 1))) (wz.drewN 1) ((ALh.out _ S0).take _) (by rw [EJ.out]; omega)
      rw [EJ.out, VT.out] at X1
      refine X1.mono ?_
      rintro e a1 ⟨rfl, c1⟩
      have S1 := S0.trans (c1.mono S0.size)
      clear X1 c1 S0
      go_wp2_with fail
      refine effQ_normal S1 ⟨Below wz.heap.size wz, fun _ h => h, by first | exact S1 | exact fun _ => S1, ?_⟩
      repeat (go_big_quiet_step (fail))
      refine wpQuiet_nil ?_
      refine ⟨?_, ?_⟩
      ·
        go_wp2
        have oE : (a1.alloc (.cells #[] 27)).ownsRow a1.heap.size 27 2 (.slice (some ⟨a1.heap.size, 0, none⟩) 0 0) ([] : List (Int × Int)).length (cells2 []) := World.ownsRow_made a1 #[] 0 (Nat.le_refl _) (by decide) rfl
        have hEb := S1.size
        have S2 := S1.alloc S1.size (.cells #[] 27)
        refine effQ_normal S2 ⟨Below wz.heap.size wz, fun _ h => h, by first | exact S2 | exact fun _ => S2, ?_⟩
        refine wpQuiet_nil ?_
        refine ⟨?_, ?_⟩
        ·
          have rLn := ALh.out _ S2
          go_wp2_with (at_builtin; refine wpList_unguard (by rfl) ?_; refine wpList_appMany2 rfl _ _ _ rfl Try.underlying23 infoEvent rfl oE (by simp) rfl rLn hn0 ?_; intro v1 w7 o7 hg7 hat7)
          rw [List.nil_append] at o7
          have S3 := S2.grown hg7 S2.size fun k hk => by have := (oE.lt k hk).1; omega
          have hob : a1.heap.size ≤ w7.heap.size := by have := hg7.size; simp at this; omega
          clear oE hg7 hat7 rLn
          refine effQ_normal S3 ⟨Below wz.heap.size wz, fun _ h => h, by first | exact S3 | exact fun _ => S3, ?_⟩
          refine wpQuiet_nil ?_
          go_wp2
          have bL := Blk.new_ w7 27 #[.int .i64 (fA L (L.length - 1)), .int .i64 (fB L (L.length - 1))]
          have S4 := S3.alloc S3.size (.cells #[.int .i64 (fA L (L.length - 1)), .int .i64 (fB L (L.length - 1))] 27)
          have o7 := o7.alloc (.cells #[.int .i64 (fA L (L.length - 1)), .int .i64 (fB L (L.length - 1))] 27)
          refine effQ_normal S4 ⟨Below wz.heap.size wz, fun _ h => h, by first | exact S4 | exact fun _ => S4, ?_⟩
          refine wpQuiet_nil ?_
          have rlit := Rd.of_blk bL
          go_wp2_with (at_builtin; refine wpList_unguard (by rfl) ?_; refine wpList_appMany2 rfl _ _ _ rfl Try.underlying23 infoEvent rfl o7 (by simp; omega) rfl rlit hn2 ?_; intro v2 w8 o8 hg8 hat8)
          have S5 := S4.grown hg8 S4.size fun k hk => by have := (o7.lt k hk).1; omega
          clear o7 bL rlit hg8 hat8
          refine effQ_normal S5 ⟨Below wz.heap.size wz, fun _ h => h, by first | exact S5 | exact fun _ => S5, ?_⟩
          refine wpQuiet_nil ?_
          obtain ⟨A5, c5, rfl⟩ := own_shape o8
          go_wp2_with fail
          have X2 := eventsValid_any A5 c5 _ w8 (Rd.of_own o8) hl2
          rw [VV.out, List.length_append, List.length_singleton] at X2
          refine X2.mono ?_
          rintro e a2 ⟨rfl, c2⟩
          have S6 := S5.trans (c2.mono S5.size)
          clear X2 c2 o8
          go_wp2_with fail
          refine effQ_normal S6 ⟨Below wz.heap.size wz, fun _ h => h, by first | exact S6 | exact fun _ => S6, ?_⟩
          repeat (go_big_quiet_step (fail))
          refine wpQuiet_nil ?_
          go_wp2_with fail
          have X3 := eventsValid_any (some ⟨gx, 0, none⟩) cX (putB L (l1.length % L.length) 0) a2 (AXh.out _ S6) hl3
          rw [length_putB, VX.out] at X3
          refine X3.mono ?_
          rintro e a3 ⟨rfl, c3⟩
          have S7 := S6.trans (c3.mono S6.size)
          clear X3 c3
          go_wp2_with fail
          refine effQ_normal S7 ⟨Below wz.heap.size wz, fun _ h => h, by first | exact S7 | exact fun _ => S7, ?_⟩
          repeat (go_big_quiet_step (fail))
          refine wpQuiet_nil ?_
          refine noPan_normal ?_
          go_wp2
          go_ret
          exact ⟨ret_bool rfl, tz.trans (S7.mono tz.size)⟩
        ·
          go_wp2
          have bL := Blk.new_ (a1.alloc (.cells #[] 27)) 27 #[.int .i64 (fA L (L.length - 1)), .int .i64 (fB L (L.length - 1))]
          have S3 := S2.alloc S2.size (.cells #[.int .i64 (fA L (L.length - 1)), .int .i64 (fB L (L.length - 1))] 27)
          have oE := oE.alloc (.cells #[.int .i64 (fA L (L.length - 1)), .int .i64 (fB L (L.length - 1))] 27)
          refine effQ_normal S3 ⟨Below wz.heap.size wz, fun _ h => h, by first | exact S3 | exact fun _ => S3, ?_⟩
          rw [show (a1.alloc (.cells #[] 27)).heap.size = a1.heap.size + 1 by simp] at bL
          refine wpQuiet_nil ?_
          have rLn := ALh.out _ S3
          go_wp2_with (at_builtin; refine wpList_unguard (by rfl) ?_; refine wpList_appMany2 rfl _ _ _ rfl Try.underlying23 infoEvent rfl oE (by first | omega | (simp <;> omega)) rfl rLn hn0 ?_; intro v1 w7 o7 hg7 hat7)
          rw [List.nil_append] at o7
          have S4 := S3.grown hg7 S3.size fun k hk => by have := (oE.lt k hk).1; omega
          have bL := bL.grown (row := some a1.heap.size) hg7 (by simp)
          have hob : a1.heap.size + 2 ≤ w7.heap.size := by have := hg7.size; simp at this; omega
          clear oE hg7 hat7 rLn
          refine effQ_normal S4 ⟨Below wz.heap.size wz, fun _ h => h, by first | exact S4 | exact fun _ => S4, ?_⟩
          refine wpQuiet_nil ?_
          have rlit := Rd.of_blk bL
          go_wp2_with (at_builtin; refine wpList_unguard (by rfl) ?_; refine wpList_appMany2 rfl _ _ _ rfl Try.underlying23 infoEvent rfl o7 (by first | omega | (simp <;> omega)) rfl rlit hn2 ?_; intro v2 w8 o8 hg8 hat8)
          have S5 := S4.grown hg8 S4.size fun k hk => by have := (o7.lt k hk).1; omega
          clear o7 bL rlit hg8 hat8
          refine effQ_normal S5 ⟨Below wz.heap.size wz, fun _ h => h, by first | exact S5 | exact fun _ => S5, ?_⟩
          refine wpQuiet_nil ?_
          obtain ⟨A5, c5, rfl⟩ := own_shape o8
          go_wp2_with fail
          have X2 := eventsValid_any A5 c5 _ w8 (Rd.of_own o8) hl2
          rw [VV.out, List.length_append, List.length_singleton] at X2
          refine X2.mono ?_
          rintro e a2 ⟨rfl, c2⟩
          have S6 := S5.trans (c2.mono S5.size)
          clear X2 c2 o8
          go_wp2_with fail
          refine effQ_normal S6 ⟨Below wz.heap.size wz, fun _ h => h, by first | exact S6 | exact fun _ => S6, ?_⟩
          repeat (go_big_quiet_step (fail))
          refine wpQuiet_nil ?_
          go_wp2_with fail
          have X3 := eventsValid_any (some ⟨gx, 0, none⟩) cX (putB L (l1.length % L.length) 0) a2 (AXh.out _ S6) hl3
          rw [length_putB, VX.out] at X3
          refine X3.mono ?_
          rintro e a3 ⟨rfl, c3⟩
          have S7 := S6.trans (c3.mono S6.size)
          clear X3 c3
          go_wp2_with fail
          refine effQ_normal S7 ⟨Below wz.heap.size wz, fun _ h => h, by first | exact S7 | exact fun _ => S7, ?_⟩
          repeat (go_big_quiet_step (fail))
          refine wpQuiet_nil ?_
          refine noPan_normal ?_
          go_wp2
          go_ret
          exact ⟨ret_bool rfl, tz.trans (S7.mono tz.size)⟩
      ·
        go_wp2
        have bL := Blk.new_ a1 27 #[.int .i64 (fA L (L.length - 1)), .int .i64 (fB L (L.length - 1))]
        have S2 := S1.alloc S1.size (.cells #[.int .i64 (fA L (L.length - 1)), .int .i64 (fB L (L.length - 1))] 27)
        refine effQ_normal S2 ⟨Below wz.heap.size wz, fun _ h => h, by first | exact S2 | exact fun _ => S2, ?_⟩
        refine wpQuiet_nil ?_
        go_wp2
        have oE : ((a1.alloc (.cells #[.int .i64 (fA L (L.length - 1)), .int .i64 (fB L (L.length - 1))] 27)).alloc (.cells #[] 27)).ownsRow (a1.alloc (.cells #[.int .i64 (fA L (L.length - 1)), .int .i64 (fB L (L.length - 1))] 27)).heap.size 27 2 (.slice (some ⟨(a1.alloc (.cells #[.int .i64 (fA L (L.length - 1)), .int .i64 (fB L (L.length - 1))] 27)).heap.size, 0, none⟩) 0 0) ([] : List (Int × Int)).length (cells2 []) := World.ownsRow_made (a1.alloc (.cells #[.int .i64 (fA L (L.length - 1)), .int .i64 (fB L (L.length - 1))] 27)) #[] 0 (Nat.le_refl _) (by decide) rfl
        have hEb := S2.size
        have S3 := S2.alloc S2.size (.cells #[] 27)
        refine effQ_normal S3 ⟨Below wz.heap.size wz, fun _ h => h, by first | exact S3 | exact fun _ => S3, ?_⟩
        have hEb2 := S1.size
        have bL := bL.alloc (.cells #[] 27)
        rw [show (a1.alloc (.cells #[.int .i64 (fA L (L.length - 1)), .int .i64 (fB L (L.length - 1))] 27)).heap.size = a1.heap.size + 1 by simp] at oE
        refine wpQuiet_nil ?_
        have rLn := ALh.out _ S3
        go_wp2_with (at_builtin; refine wpList_unguard (by rfl) ?_; refine wpList_appMany2 rfl _ _ _ rfl Try.underlying23 infoEvent rfl oE (by first | omega | (simp <;> omega)) rfl rLn hn0 ?_; intro v1 w7 o7 hg7 hat7)
        rw [List.nil_append] at o7
        have S4 := S3.grown hg7 S3.size fun k hk => by have := (oE.lt k hk).1; omega
        have bL := bL.grown (row := some (a1.heap.size + 1)) hg7 (by simp)
        have hob : a1.heap.size + 2 ≤ w7.heap.size := by have := hg7.size; simp at this; omega
        clear oE hg7 hat7 rLn
        refine effQ_normal S4 ⟨Below wz.heap.size wz, fun _ h => h, by first | exact S4 | exact fun _ => S4, ?_⟩
        refine wpQuiet_nil ?_
        have rlit := Rd.of_blk bL
        go_wp2_with (at_builtin; refine wpList_unguard (by rfl) ?_; refine wpList_appMany2 rfl _ _ _ rfl Try.underlying23 infoEvent rfl o7 (by first | omega | (simp <;> omega)) rfl rlit hn2 ?_; intro v2 w8 o8 hg8 hat8)
        have S5 := S4.grown hg8 S4.size fun k hk => by have := (o7.lt k hk).1; omega
        clear o7 bL rlit hg8 hat8
        refine effQ_normal S5 ⟨Below wz.heap.size wz, fun _ h => h, by first | exact S5 | exact fun _ => S5, ?_⟩
        refine wpQuiet_nil ?_
        obtain ⟨A5, c5, rfl⟩ := own_shape o8
        go_wp2_with fail
        have X2 := eventsValid_any A5 c5 _ w8 (Rd.of_own o8) hl2
        rw [VV.out, List.length_append, List.length_singleton] at X2
        refine X2.mono ?_
        rintro e a2 ⟨rfl, c2⟩
        have S6 := S5.trans (c2.mono S5.size)
        clear X2 c2 o8
        go_wp2_with fail
        refine effQ_normal S6 ⟨Below wz.heap.size wz, fun _ h => h, by first | exact S6 | exact fun _ => S6, ?_⟩
        repeat (go_big_quiet_step (fail))
        refine wpQuiet_nil ?_
        go_wp2_with fail
        have X3 := eventsValid_any (some ⟨gx, 0, none⟩) cX (putB L (l1.length % L.length) 0) a2 (AXh.out _ S6) hl3
        rw [length_putB, VX.out] at X3
        refine X3.mono ?_
        rintro e a3 ⟨rfl, c3⟩
        have S7 := S6.trans (c3.mono S6.size)
        clear X3 c3
        go_wp2_with fail
        refine effQ_normal S7 ⟨Below wz.heap.size wz, fun _ h => h, by first | exact S7 | exact fun _ => S7, ?_⟩
        repeat (go_big_quiet_step (fail))
        refine wpQuiet_nil ?_
        refine noPan_normal ?_
        go_wp2
        go_ret
        exact ⟨ret_bool rfl, tz.trans (S7.mono tz.size)⟩

set_option maxRecDepth 100000 in
theorem liftedFnEvents (os : Os) (started : os.Started) (H : Type) (enc : TypeId × Value → H) :
    ReturnsInHanded {} Try.checked os 3 .any (Rows.fnEventsSpec.pre6 enc Try.prog Try.f3 Rows.fnEventsRow.domain false) (Rows.fnEventsSpec.post enc Try.prog Try.f3 false true false false) := by
  refine returnsInHanded_of_change (C := Try.checked) own_ started (by kernel_rfl) Try.func3
    (ChangeSpec.witness6 (enc := enc) (C := Try.checked) false ⟨#[], #[.slice none 0 0, .slice none 0 0], []⟩ 8 (by kernel_rfl) (by kernel_rfl) (by kernel_rfl) (by kernel_rfl)) ?_
  intro W base args ds gs before hval0 hW hcnd _
  have hval : ∀ (j : Nat) t v, Try.f3.params[j]? = some t → args[j]? = some v → Value.okWide Try.prog W .any base t v := hval0
  have hW' := hW
  obtain ⟨p, q, hA0, hV, rfl, hfz, hnd⟩ := hW
  have hA : DataW.TrodAll enc Try.prog W 0 (fun _ => true) true Try.f3.params.toList args.toList ds p := hA0
  rw [Try.params3] at hA hval
  obtain ⟨v0, vs0, d0, ds0, p0, q0, hargs, rfl, rfl, h0, r0⟩ := trodAll_cons hA
  obtain ⟨v1, vs1, d1, ds1, p1, q1, rfl, rfl, rfl, h1, r1⟩ := trodAll_cons r0
  obtain ⟨rfl, rfl, rfl⟩ := trodAll_nil r1
  obtain rfl : args = #[v0, v1] := by cases args; simp_all
  obtain ⟨rfl, rfl⟩ := trodVars_none hV
  obtain ⟨a0, n0, c0, rfl⟩ := okWide_slice Try.underlying22 (hval 0 22 v0 rfl rfl)
  have kk0 := h0
  have lt0 : ∀ x ∈ p0, x.block < W.heap.size := by obtain ⟨m, hm⟩ := kk0; exact DataW.trod_lt m _ _ _ hm
  obtain ⟨l0, e0, g0, w0, b0, bm0⟩ : ∃ l : List Int, l.length = n0 ∧ RdI W W.heap.size .u8 a0 l ∧ (∀ z ∈ l, (Lit.int .u8 z).wf = true) ∧ n0 ≤ c0 ∧ c0 ≤ maxLen := by
    obtain ⟨fuel, hf⟩ := h0
    exact openI Try.underlying22 Try.underlying5 (by kernel_rfl) (by simpa [Value.cells] using hf)
  subst e0
  obtain ⟨a1, n1, c1, rfl⟩ := okWide_slice Try.underlying22 (hval 1 22 v1 rfl rfl)
  have kk1 := h1
  have lt1 : ∀ x ∈ p1, x.block < W.heap.size := by obtain ⟨m, hm⟩ := kk1; exact DataW.trod_lt m _ _ _ hm
  obtain ⟨l1, e1, g1, w1, b1, bm1⟩ : ∃ l : List Int, l.length = n1 ∧ RdI W W.heap.size .u8 a1 l ∧ (∀ z ∈ l, (Lit.int .u8 z).wf = true) ∧ n1 ≤ c1 ∧ c1 ≤ maxLen := by
    obtain ⟨fuel, hf⟩ := h1
    exact openI Try.underlying22 Try.underlying5 (by kernel_rfl) (by simpa [Value.cells] using hf)
  subst e1
  clear hA0 hval0
  refine (walkFnEvents a0 c0 l0 a1 c1 l1 W g0 (wf_bytes w0) b0 (by unfold maxLen at bm0; omega)).mono fun e W' ⟨he, bel⟩ => ?_
  subst he
  exact ⟨_, rfl, _, _, _, [], _, [], hW', trodAll_mk1 (shut_bool Try.underlying4 _), (trodAll_cons_mk (Below.trod laidOut_ (by kernel_rfl) (of_decide_eq_true (by kernel_rfl)) kk0 bel lt0) (trodAll_cons_mk (Below.trod laidOut_ (by kernel_rfl) (of_decide_eq_true (by kernel_rfl)) kk1 bel lt1) trodAll_mk0)), rfl, bel.frame _, fun h => by cases h⟩

theorem fnEvents_holds : Rows.FnEventsSaid :=
  OpenClaim.holds_of_wide 3 Try.f3 rfl rfl rfl rfl rfl rfl rfl ⟨rfl, rfl, rfl, rfl, rfl⟩ rfl rfl rfl rfl rfl (by kernel_rfl) Try.func3 (by kernel_rfl)
    (of_decide_eq_true (by kernel_rfl)) (by unfold Func.isWrapper; first | (rw [if_pos (by decide +kernel)]; kernel_rfl) | (rw [if_neg (by decide +kernel)]; exact ⟨rfl, rfl⟩))
    (fun os started H enc _ => liftedFnEvents os started H enc)

end Go.Proofs.Ytkmeaipfafooaaa
