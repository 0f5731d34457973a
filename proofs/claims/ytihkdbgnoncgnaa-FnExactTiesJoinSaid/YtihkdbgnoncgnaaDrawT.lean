/- Contracts of the functions that draw ties: some list of small pairs in new memory. No condition but the code's length. -/
import Derived.Test.YtihkdbgnoncgnaaDraw
import Derived.Test.YtihkdbgnoncgnaaSmall
import Derived.Test.YtihkdbgnoncgnaaPairTie
namespace Go.Proofs.Ytihkdbgnoncgnaa
open Go.RowKit

set_option maxHeartbeats 4000000 in
theorem l92Ties_any (g : Nat) (l : List Int) (p : Nat) (w : World) (hr : Rdr w g l p) (hp : p ≤ 10000) :
    Calls Try.prog 39 #[.pointer (some ⟨g, 0, none⟩)] w (Got w 40 g l p 20 7) := by
  have hr0 := hr.alloc (.cells #[] 40)
  have hg := hr.lt
  have hG0 : w.grownBy (w.alloc (.cells #[] 40)) (some g) := grownBy_alloc (grownBy_refl _ _) _
  have ho0 : (w.alloc (.cells #[] 40)).ownsRow w.heap.size 40 2 (.slice (some ⟨w.heap.size, 0, none⟩) 0 0) 0 [] := World.ownsRow_made w #[] 0 (Nat.le_refl _) (by decide) rfl
  clear hr
  go_enter Try.func39, Try.ntmps39
  go_wp2_with fail
  refine (pick_any g l p 6 _ hr0 (by omega) (by omega)).mono ?_
  rintro e w1 ⟨x1, rfl, a1, a2, _, hr1, hg1⟩
  go_wp2_with fail
  refine (pick_any g l (p + 1) 6 _ hr1 (by omega) (by omega)).mono ?_
  rintro e w2 ⟨x2, rfl, b1, b2, _, hr2, hg2⟩
  have hG2 : w.grownBy w2 (some g) := grownBy_then (grownBy_then hG0 hg1 (fun j e => .inr e)) hg2 (fun j e => .inr e)
  have ho2 := (ho0.kept hg1 (.inr (by simp [Value.ownBlock]; omega))).kept hg2 (.inr (by simp [Value.ownBlock]; omega))
  clear hg1 hg2 hr1 hr0 ho0 hG0
  go_wp2_with fail
  have hr3 := hr2.alloc (.cells #[.int .i64 x1, .int .i64 x2] 40)
  have hB3 := Blk.new_ w2 40 #[.int .i64 x1, .int .i64 x2]
  have hG3 := grownBy_alloc hG2 (.cells #[.int .i64 x1, .int .i64 x2] 40)
  have ho3 := ho2.alloc (.cells #[.int .i64 x1, .int .i64 x2] 40)
  have hs2 := hG2.size
  refine (pick_any g l (p + 2) 6 _ hr3 (by omega) (by omega)).mono ?_
  rintro e w4 ⟨x3, rfl, c1, c2, _, hr4, hg4⟩
  have hG4 := grownBy_then hG3 hg4 (fun j e => .inr e)
  have ho4 := ho3.kept hg4 (.inr (by simp [Value.ownBlock]; omega))
  have hB4 := hB3.grown hg4 (by simp; omega)
  have hl0 : w.heap.size < w2.heap.size := (ho2.lt w.heap.size rfl).2
  generalize w2.heap.size = gt at *
  clear hg4 hr3 hr2 hB3 hG3 hG2 ho3 ho2
  obtain ⟨n, rfl⟩ := Int.eq_ofNat_of_zero_le c1
  have hn : n ≤ 5 := by omega
  go_wp2_with fail
  go_loopw [6, 3] (fun i v wr => ∃ (k : Nat) (L : List (Int × Int)) (ta tb : Int) (p1 : Nat), k ≤ n ∧ i = .int .i64 k ∧ L.length = k ∧ Small 100000 L ∧ wr.ownsRow w.heap.size 40 2 v L.length (cells2 L) ∧ v.ownBlock ≠ some gt ∧
      Blk wr gt 40 #[.int .i64 ta, .int .i64 tb] ∧ (0 ≤ ta ∧ ta ≤ 10 + 10 * k ∧ 0 ≤ tb ∧ tb ≤ 10 + 10 * k) ∧ Rdr wr g l p1 ∧ p1 ≤ p + 3 + 2 * k ∧ w.grownBy wr (some g)) (fun i _ _ => n - (intOf i).toNat)
  case atStart => exact ⟨0, [], x1, x2, p + 3, Nat.zero_le _, rfl, rfl, Small.nil_, ho4, by simp [Value.ownBlock]; omega, hB4, ⟨a1, by omega, b1, by omega⟩, hr4, by omega, hG4⟩
  case round =>
    obtain ⟨k, L, ta, tb, p1, hk, rfl, hL, hsm, ho, hne, hB, ⟨t1, t2, t3, t4⟩, hrd, hp1, hG⟩ := hrel
    clear ho4 hB4 hr4 hG4
    have HL := Lib.hid hL
    clear hL
    have d1 := hB.cell 0
    have d2 := hB.cell 1
    have f1 := hB.frozen 0
    have f2 := hB.frozen 1
    by_cases hlt : k < n
    · have hln : L.length + 1 ≤ 4294967296 := by have := HL.out; omega
      have hbs : w.heap.size ≤ wr.heap.size := hG.size
      have hgl := hB.lt
      go_wp2_with (at_builtin; refine wpList_app2_base rfl _ _ _ rfl Try.underlying23 infoTie rfl ho hbs _ _ _ _ (by rfl) rfl hln ?_; intro v1 w5 ho5 hg5 hat)
      have hr5 := (hrd.alloc (.cells #[.int .i64 ta, .int .i64 tb] 40)).grown hg5 (fun j e => by have := (ho.lt j e).1; omega)
      have hG5 := grownBy_then (grownBy_alloc hG (.cells #[.int .i64 ta, .int .i64 tb] 40)) hg5 (fun j e => .inl (ho.lt j e).1)
      have hB5 := (hB.alloc (.cells #[.int .i64 ta, .int .i64 tb] 40)).grown hg5 hne
      have hne5 : v1.ownBlock ≠ some gt := by
        rcases hat with e | e <;> rw [e]
        · exact hne
        · simp; omega
      clear hB hrd hG hg5 hat ho hne d1 d2 f1 f2
      refine wp_region_planZ (fun w' => Blk w' gt 40 #[.int .i64 ta, .int .i64 tb]) (some 13) [([0, 1, 2, 3, 6, 7, 8, 9], 4), ([5], 10), ([11, 12], 13)] [] (by kernel_rfl) (by kernel_rfl) (hB5.drewN 1) fun hne => ?_
      simp only [wpPlan, wpEff, effOf, opsAt, optCons, List.getElem?_toArray, List.getElem?_cons_zero, List.getElem?_cons_succ]
      have k1 : ∀ i : SW (fun w' => Blk w' gt 40 #[.int .i64 ta, .int .i64 tb]), (sw i).cell? ⟨gt, 0, none⟩ = some (.int .i64 ta) := fun i => (sw_is i).cell 0
      have k2 : ∀ i : SW (fun w' => Blk w' gt 40 #[.int .i64 ta, .int .i64 tb]), (sw i).cell? ⟨gt, 1, none⟩ = some (.int .i64 tb) := fun i => (sw_is i).cell 1
      have s1 : IntKind.i64.wrap (ta + 1) = ta + 1 := IntWalk.i64_in _ (by omega)
      have s2 : IntKind.i64.wrap (tb + 1) = tb + 1 := IntWalk.i64_in _ (by omega)
      repeat (go_big_quiet_step (fail))
      refine wpQuiet_nil ?_
      go_wp2_with fail
      refine (pick_any g l p1 5 _ (hr5.drewN 1) (by omega) (by omega)).mono ?_
      rintro e w6 ⟨y1, rfl, u1, u2, _, hr6, hg6⟩
      have hB6 := (hB5.drewN 1).grown hg6 (by simp; omega)
      go_wp2_with fail
      refine effQ_normal hB6 ?_
      have s3 : IntKind.i64.wrap (ta + 1 + y1) = ta + 1 + y1 := IntWalk.i64_in _ (by omega)
      repeat (go_big_quiet_step (fail))
      refine wpQuiet_nil ?_
      go_wp2_with fail
      refine (pick_any g l (p1 + 1) 5 _ hr6 (by omega) (by omega)).mono ?_
      rintro e w7 ⟨y2, rfl, v1_, v2_, _, hr7, hg7⟩
      have hB7 := hB6.grown hg7 (by simp; omega)
      go_wp2_with fail
      refine effQ_normal hB7 ?_
      have s4 : IntKind.i64.wrap (tb + 1 + y2) = tb + 1 + y2 := IntWalk.i64_in _ (by omega)
      repeat (go_big_quiet_step (fail))
      refine wpQuiet_nil ?_
      have d1 := hB7.cell 0
      have d2 := hB7.cell 1
      have d3 : ∀ u, (w7.setCell ⟨gt, 0, none⟩ u).cell? ⟨gt, 1, none⟩ = some (.int .i64 tb) := fun u => (hB7.set 0 u).cell 1
      have f1 := hB7.frozen 0
      have f2 := hB7.frozen 1
      have f3 : ∀ u, (w7.setCell ⟨gt, 0, none⟩ u).frozen? ⟨gt, 1, none⟩ = false := fun u => (hB7.set 0 u).frozen 1
      have hB8 := (hB7.set 0 (.int .i64 (ta + 1 + y1))).set 1 (.int .i64 (tb + 1 + y2))
      have hG7 := grownBy_then (grownBy_then (grownBy_drewN hG5 1) hg6 (fun j e => .inr e)) hg7 (fun j e => .inr e)
      have ho7 := ((own_drewN ho5 1).kept hg6 (.inr (fun e => by have := (ho5.lt _ e).1; omega))).kept hg7 (.inr (fun e => by have := (ho5.lt _ e).1; omega))
      have hG8 := grownBy_setFar (p := ⟨gt, 1, none⟩) (grownBy_setFar (p := ⟨gt, 0, none⟩) hG7 (by show w.heap.size ≤ gt; omega) (.int .i64 (ta + 1 + y1))) (by show w.heap.size ≤ gt; omega) (.int .i64 (tb + 1 + y2))
      have hr8 := (hr7.far (q := ⟨gt, 0, none⟩) (by show g < gt; omega) (.int .i64 (ta + 1 + y1))).far (q := ⟨gt, 1, none⟩) (by show g < gt; omega) (.int .i64 (tb + 1 + y2))
      have ho8 : ((w7.setCell ⟨gt, 0, none⟩ (.int .i64 (ta + 1 + y1))).setCell ⟨gt, 1, none⟩ (.int .i64 (tb + 1 + y2))).ownsRow w.heap.size 40 2 v1 (L ++ [(ta, tb)]).length (cells2 (L ++ [(ta, tb)])) := by
        refine (ho7.kept (row := some gt) (grownBy_set (grownBy_refl _ _) 0 _) (.inr hne5)).kept (row := some gt) (grownBy_set (grownBy_refl _ _) 1 _) (.inr hne5)
      go_wp2
      refine effQ_last (by rfl) ?_
      refine wpQuiet_nil ?_
      refine noPan_normal ?_
      go_wp2
      refine ⟨⟨k + 1, L ++ [(ta, tb)], ta + 1 + y1, tb + 1 + y2, p1 + 2, hlt, by go_num, by rw [List.length_append, HL.out]; rfl, hsm.snoc t1 (by omega) t3 (by omega), ho8, hne5, hB8, ⟨by omega, by omega, by omega, by omega⟩, hr8, by omega, hG8⟩, by simp [intOf]; omega⟩
    · have hkn : k = n := by omega
      subst hkn
      by_cases hn0 : k = 0
      · subst hn0
        go_wp2
        go_ret
        obtain ⟨A1, c1, rfl⟩ := own_shape ho
        have hL0 := HL.out
        rw [hL0] at ho
        refine ⟨A1, c1, L, p1, ?_, by omega, hsm, by rw [hL0]; exact ho, hrd, by omega, hG⟩
        rw [hL0]; rfl
      · have hk1 : (1 : Int) ≤ (k : Int) := by omega
        obtain ⟨gv, cap, hv, hgb, hgl⟩ := ho.form (by have := HL.out; omega)
        subst hv
        have hgv : gv ≠ gt := fun e => hne (by simp [Value.ownBlock, e])
        go_wp2_with fail
        refine (pick_any g l p1 40 _ hrd (by omega) (by omega)).mono ?_
        rintro e w5 ⟨x, rfl, u1, u2, _, hr5, hg5⟩
        have ho5 := ho.kept hg5 (.inr (by simp [Value.ownBlock]; omega))
        have hG5 := grownBy_then hG hg5 (fun j e => .inr e)
        have hlt : k - 1 < L.length := by have := HL.out; omega
        obtain ⟨z1, z2⟩ := cells2_get L (k - 1) hlt
        have q1 := (ho5.cellAt ((k - 1) * 2) (by have := HL.out; omega)).trans z1
        have q2 := (ho5.cellAt ((k - 1) * 2 + 1) (by have := HL.out; omega)).trans z2
        have q3 := ho5.frozenAt ((k - 1) * 2)
        obtain ⟨m1, m2, m3, m4⟩ := hsm.at_ hlt
        have hlk : (k : Int) - 1 < (L.length : Int) := by have := HL.out; omega
        have hbs := hG5.size
        have hln : L.length + 1 ≤ 4294967296 := by have := HL.out; omega
        clear hB hrd hG hg5 ho z1 z2 d1 d2 f1 f2
        by_cases hx0 : x = 0
        · subst hx0
          go_wp2_with (at_builtin; refine wpList_app2_base rfl _ _ _ rfl Try.underlying23 infoTie rfl ho5 hbs _ _ _ _ (by rfl) rfl hln ?_; intro v1 w6 ho6 hg6 hat)
          go_ret
          obtain ⟨A1, c1, rfl⟩ := own_shape ho6
          refine ⟨A1, c1, L ++ [(fA L (k - 1), fB L (k - 1))], p1 + 1, rfl, by have := HL.out; simp; omega, hsm.snoc m1 m2 m3 m4, ho6, (hr5.alloc (.cells #[.int .i64 (fA L (k - 1)), .int .i64 (fB L (k - 1))] 40)).grown hg6 (fun j e => by have := (ho5.lt j e).1; omega), by omega,
            grownBy_then (grownBy_alloc hG5 (.cells #[.int .i64 (fA L (k - 1)), .int .i64 (fB L (k - 1))] 40)) hg6 (fun j e => .inl (ho5.lt j e).1)⟩
        · have hx0' : (x == 0) = false := by simpa using hx0
          by_cases hx1 : x = 1
          · subst hx1
            go_wp2
            go_ret
            obtain ⟨ho6, _⟩ := ho5.stored ((k - 1) * 2) (.int .i64 30001)
            rw [← cells2_putA L (k - 1) 30001 hlt, ← length_putA L (k - 1) 30001] at ho6
            refine ⟨_, cap, putA L (k - 1) 30001, p1 + 1, ?_, by rw [length_putA]; have := HL.out; omega, hsm.set_ _ ⟨by show (0 : Int) ≤ 30001; omega, by show (30001 : Int) ≤ 100000; omega, m3, m4⟩, ho6, hr5.far (q := ⟨gv, _, none⟩) (by show g < gv; omega) _, by omega, grownBy_setFar (p := ⟨gv, _, none⟩) hG5 (by show w.heap.size ≤ gv; omega) _⟩
            rw [length_putA]; rfl
          · have hx1' : (x == 1) = false := by simpa using hx1
            go_wp2
            go_ret
            exact ⟨_, cap, L, p1 + 1, rfl, by have := HL.out; omega, hsm, ho5, hr5, by omega, hG5⟩

set_option maxHeartbeats 2000000 in
theorem DrawTiesValid_any (A : Option Addr) (c : Nat) (l : List Int) (w : World) (hr : RdI w w.heap.size .u8 A l) (hby : ∀ x ∈ l, 0 ≤ x ∧ x ≤ 255) (hn : l.length ≤ 1048576) (hc : l.length ≤ c) (hc' : c ≤ 9223372036854775807) :
    Calls Try.prog 17 #[.slice A l.length c] w (DrawnS w 40 7 100001) := by
  have HB := Lib.hid hby
  clear hby
  go_enter Try.func17, Try.ntmps17
  go_wp2_with fail
  refine (open_any A c l _ hr HB.out hn hc hc').mono ?_
  rintro e w1 ⟨g, l1, rfl, hg, hrd, hb1⟩
  go_wp2_with fail
  refine (l92Ties_any g l1 0 _ hrd (by omega)).mono ?_
  rintro e w2 ⟨A2, c2, L, p2, rfl, hL, hsm, ho, hr2, hp2, hG⟩
  have hb2 := below_of_two hb1 hG hg
  have ho2 := own_base ho hb1.size
  have hs1 := hb1.size
  have hgl := hrd.lt
  clear hb1 hG hrd
  by_cases h1 : 1 < L.length
  · obtain ⟨gv, cap, hv, hgv, hgvl⟩ := ho.form (by omega)
    injection hv with hA _ hcap
    subst hA hcap
    clear ho
    go_wp2_with fail
    refine (pick_any g l1 p2 6 _ hr2 (by omega) (by omega)).mono ?_
    rintro e w3 ⟨x, rfl, u1, u2, _, hr3, hg3⟩
    have hb3 := below_of_two hb2 hg3 hg
    have ho3 := ho2.kept hg3 (.inr (by simp [Value.ownBlock]; omega))
    clear hb2 hg3 ho2 hr2
    by_cases hx : x = 0
    · subst hx
      have z2 := (cells2_get L 1 h1).2
      have z0 := (cells2_get L 0 (by omega)).2
      obtain ⟨m1, m2, m3, m4⟩ := hsm.at_ h1
      obtain ⟨n1, n2, n3, n4⟩ := hsm.at_ (show 0 < L.length by omega)
      have hl1 : (1 : Int) < (L.length : Int) := by omega
      have hl0 : (0 : Int) < (L.length : Int) := by omega
      have hS : ∀ i : SW (fun w' => w'.cell? ⟨gv, 3, none⟩ = some (.int .i64 (fB L 1))), (sw i).cell? ⟨gv, 3, none⟩ = some (.int .i64 (fB L 1)) := fun i => sw_is i
      have q2 : w3.cell? ⟨gv, 3, none⟩ = some (.int .i64 (fB L 1)) := (ho3.cellAt 3 (by omega)).trans z2
      go_wp2_with fail
      refine wp_region_planZ (fun w' => w'.cell? ⟨gv, 3, none⟩ = some (.int .i64 (fB L 1))) (some 10) [([0, 1, 2, 3, 4, 5], 6), ([7, 8, 9], 10)] [] (by kernel_rfl) (by kernel_rfl) q2 fun hne => ?_
      simp only [wpPlan, wpEff, effOf, opsAt, optCons, List.getElem?_toArray, List.getElem?_cons_zero, List.getElem?_cons_succ]
      repeat (go_big_quiet_step (fail))
      refine wpQuiet_nil ?_
      go_wp2_with fail
      refine (pick_any g l1 (p2 + 1) 2 _ (hr3.drewN 1) (by omega) (by omega)).mono ?_
      rintro e w4 ⟨y, rfl, v1, v2, _, hr4, hg4⟩
      have ho4 := (own_drewN ho3 1).kept hg4 (.inr (by simp [Value.ownBlock]; omega))
      have hb4 := below_of_two (below_drewN hb3 1) hg4 hg
      have q3 : w4.cell? ⟨gv, 3, none⟩ = some (.int .i64 (fB L 1)) := (ho4.cellAt 3 (by omega)).trans z2
      have q4 : w4.cell? ⟨gv, 1, none⟩ = some (.int .i64 (fB L 0)) := (ho4.cellAt 1 (by omega)).trans z0
      have f4 := ho4.frozenAt 1
      go_wp2_with fail
      refine effQ_normal q3 ?_
      have s3 : IntKind.i64.wrap (fB L 1 + y) = fB L 1 + y := IntWalk.i64_in _ (by omega)
      repeat (go_big_quiet_step (fail))
      refine wpQuiet_nil ?_
      go_wp2
      refine effQ_last (by rfl) ?_
      refine wpQuiet_nil ?_
      refine noPan_normal ?_
      go_wp2
      go_ret
      obtain ⟨ho5, _⟩ := ho4.stored 1 (.int .i64 (fB L 1 + y))
      rw [show (1 : Nat) = 0 * 2 + 1 from rfl, ← cells2_putB L 0 (fB L 1 + y) (by omega), ← length_putB L 0 (fB L 1 + y)] at ho5
      refine ⟨_, c2, putB L 0 (fB L 1 + y), ?_, by rw [length_putB]; omega, ?_, ho5, hb4.setCell (p := ⟨gv, _, none⟩) (by show w.heap.size ≤ gv; omega) _⟩
      · rw [length_putB]; rfl
      · refine (hsm.more (by decide)).set_ _ ⟨n1, by show fA L 0 ≤ 100001; omega, by show 0 ≤ fB L 1 + y; omega, ?_⟩
        show fB L 1 + y ≤ 100001
        omega
    · have hx' : (x == 0) = false := by simpa using hx
      go_wp2
      go_ret
      exact ⟨_, c2, L, rfl, hL, hsm.more (by decide), ho3, hb3⟩
  · go_wp2
    go_ret
    exact ⟨A2, c2, L, rfl, hL, hsm.more (by decide), ho2, hb2⟩

end Go.Proofs.Ytihkdbgnoncgnaa
