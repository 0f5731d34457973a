/- Contracts of the functions that draw signals, distances and cuts. No condition but the code's length. -/
import Derived.Test.YtbdhnfligfpigaaSmall
import Derived.Test.YtbdhnfligfpigaaTree
import Derived.Test.YtbdhnfligfpigaaCBestS
namespace Go.Proofs.Ytbdhnfligfpigaa
open Go.RowKit

/-- A list of at most 9 integers in new memory; of what was there the reader alone has moved. -/
def GotI (w : World) (g : Nat) (l : List Int) (p dp : Nat) (e : Ending) (w' : World) : Prop :=
  ∃ A c L p', e = .returned (.slice A L.length c) ∧ L.length ≤ 9 ∧ (∀ x ∈ L, -1 ≤ x ∧ x ≤ 1001) ∧ w'.ownsRow w.heap.size 3 1 (.slice A L.length c) L.length (cells1 .i64 L) ∧ Rdr w' g l p' ∧ p' ≤ p + dp ∧ w.grownBy w' (some g)

set_option maxHeartbeats 4000000 in
theorem l92Signal_any (g : Nat) (l : List Int) (p : Nat) (w : World) (hr : Rdr w g l p) (hp : p ≤ 10000) :
    Calls Try.prog 37 #[.pointer (some ⟨g, 0, none⟩)] w (GotI w g l p 20) := by
  have hr0 := hr.alloc (.cells #[] 3)
  have hg := hr.lt
  have hG0 : w.grownBy (w.alloc (.cells #[] 3)) (some g) := grownBy_alloc (grownBy_refl _ _) _
  have ho0 : (w.alloc (.cells #[] 3)).ownsRow w.heap.size 3 1 (.slice (some ⟨w.heap.size, 0, none⟩) 0 0) 0 [] := World.ownsRow_made w #[] 0 (Nat.le_refl _) (by decide) rfl
  clear hr
  go_enter Try.func37, Try.ntmps37
  go_wp2_with fail
  refine (pick_any g l p 9 _ hr0 (by omega) (by omega)).mono ?_
  rintro e w1 ⟨x1, rfl, a1, a2, _, hr1, hg1⟩
  have hG1 := grownBy_then hG0 hg1 (fun j e => .inr e)
  have ho1 := ho0.kept hg1 (.inr (by simp [Value.ownBlock]; omega))
  clear hg1 hr0 ho0 hG0
  obtain ⟨n, rfl⟩ := Int.eq_ofNat_of_zero_le a1
  have hn : n ≤ 8 := by omega
  have s1 : IntKind.i64.wrap (1 + (n : Int)) = 1 + (n : Int) := IntWalk.i64_in _ (by omega)
  go_wp2_with fail
  go_loopw [5, 3] (fun i v wr => ∃ (k : Nat) (L : List Int) (p1 : Nat), k ≤ n + 1 ∧ i = .int .i64 k ∧ L.length = k ∧ (∀ x ∈ L, -1 ≤ x ∧ x ≤ 1001) ∧ wr.ownsRow w.heap.size 3 1 v L.length (cells1 .i64 L) ∧ Rdr wr g l p1 ∧ p1 ≤ p + 1 + k ∧ w.grownBy wr (some g)) (fun i _ _ => n + 1 - (intOf i).toNat)
  case atStart => exact ⟨0, [], p + 1, Nat.zero_le _, rfl, rfl, (fun x hx => by simp at hx), ho1, hr1, by omega, hG1⟩
  case round =>
    obtain ⟨k, L, p1, hk, rfl, hL, hsm, ho, hrd, hp1, hG⟩ := hrel
    clear ho1 hr1 hG1
    have HL := Lib.hid hL
    have hL2 : L.length ≤ k := by omega
    clear hL
    by_cases hlt : k < n + 1
    · have hln : L.length + 1 ≤ 4294967296 := by omega
      have l1 : (k : Int) < 1 + (n : Int) := by omega
      go_wp2_with fail
      refine (pick_any g l p1 9 _ hrd (by omega) (by omega)).mono ?_
      rintro e w5 ⟨y1, rfl, u1, u2, _, hr5, hg5⟩
      have ho5 := ho.kept hg5 (.inr (fun e => by have := (ho.lt _ e).1; omega))
      have hG5 := grownBy_then hG hg5 (fun j e => .inr e)
      have hbs : w.heap.size ≤ w5.heap.size := hG5.size
      clear ho hrd hG hg5
      go_wp2_with (at_builtin; refine wpList_app1_base rfl _ _ _ rfl Try.underlying22 infoI64 rfl ho5 hbs _ _ _ rfl rfl hln ?_; intro v1 w6 ho6 hg6 hat)
      have hr6 := (hr5.alloc (.cells #[.int .i64 y1] 3)).grown hg6 (fun j e => by have := (ho5.lt j e).1; omega)
      have hG6 := grownBy_then (grownBy_alloc hG5 (.cells #[.int .i64 y1] 3)) hg6 (fun j e => .inl (ho5.lt j e).1)
      exact ⟨⟨k + 1, L ++ [y1], p1 + 1, hlt, by go_num, by rw [List.length_append, HL.out]; rfl, (fun x hx => by rcases List.mem_append.1 hx with h | h; exact hsm x h; simp only [List.mem_singleton] at h; omega), ho6, hr6, by omega, hG6⟩, by simp [intOf]; omega⟩
    · obtain rfl : k = n + 1 := by omega
      rw [show ((n + 1 : Nat) : Int) = 1 + (n : Int) by omega]
      obtain ⟨gv, cap, hv, hgb, hgl⟩ := ho.form (by have := HL.out; omega)
      subst hv
      go_wp2_with fail
      refine (pick_any g l p1 40 _ hrd (by omega) (by omega)).mono ?_
      rintro e w5 ⟨x, rfl, u1, u2, _, hr5, hg5⟩
      have ho5 := ho.kept hg5 (.inr (by simp [Value.ownBlock]; omega))
      have hG5 := grownBy_then hG hg5 (fun j e => .inr e)
      have hl0 : 0 < L.length := by have := HL.out; omega
      clear ho hrd hG hg5
      by_cases hx0 : x = 0
      · subst hx0
        go_wp2_with fail
        have hr6 := hr5.alloc (.cells #[.int .i64 (-1), .int .i64 1001] 3)
        have hB6 := Blk.new_ w5 3 #[.int .i64 (-1), .int .i64 1001]
        have ho6 := ho5.alloc (.cells #[.int .i64 (-1), .int .i64 1001] 3)
        have hG6 := grownBy_alloc hG5 (.cells #[.int .i64 (-1), .int .i64 1001] 3)
        have hgv : gv < w5.heap.size := (ho5.lt gv rfl).2
        refine (pick_any g l (p1 + 1) 2 _ hr6 (by omega) (by omega)).mono ?_
        rintro e w7 ⟨y, rfl, v1_, v2_, _, hr7, hg7⟩
        have ho7 := ho6.kept hg7 (.inr (by simp [Value.ownBlock]; omega))
        have hB7 := hB6.grown hg7 (by have := hr5.lt; simp; omega)
        have hG7 := grownBy_then hG6 hg7 (fun j e => .inr e)
        have d0 := hB7.cell 0
        have d1 := hB7.cell 1
        have f1 := ho7.frozenAt 0
        have e1 := (ho7.cellAt 0 (by omega)).trans (cells1_get .i64 L 0 hl0)
        clear hr6 hB6 ho6 hG6 ho5 hr5 hG5 hg7
        have key : ∀ z : Int, -1 ≤ z → z ≤ 1001 → (∀ x ∈ putI L 0 z, -1 ≤ x ∧ x ≤ 1001) := fun z h1 h2 x hx => by
          rcases List.mem_or_eq_of_mem_set hx with h | h
          · exact hsm x h
          · omega
        by_cases hy : y = 0
        · subst hy
          go_wp2
          go_ret
          obtain ⟨ho8, _⟩ := ho7.stored 0 (.int .i64 (-1))
          rw [← cells1_putI] at ho8
          refine ⟨_, cap, putI L 0 (-1), p1 + 2, by rw [length_putI]; rfl, by rw [length_putI]; have := HL.out; omega, key _ (by omega) (by omega), by rw [length_putI]; exact ho8, hr7.far (q := ⟨gv, _, none⟩) (by show g < gv; omega) _, by omega, grownBy_setFar (p := ⟨gv, _, none⟩) hG7 (by show w.heap.size ≤ gv; omega) _⟩
        · obtain rfl : y = 1 := by omega
          go_wp2
          go_ret
          obtain ⟨ho8, _⟩ := ho7.stored 0 (.int .i64 1001)
          rw [← cells1_putI] at ho8
          refine ⟨_, cap, putI L 0 1001, p1 + 2, by rw [length_putI]; rfl, by rw [length_putI]; have := HL.out; omega, key _ (by omega) (by omega), by rw [length_putI]; exact ho8, hr7.far (q := ⟨gv, _, none⟩) (by show g < gv; omega) _, by omega, grownBy_setFar (p := ⟨gv, _, none⟩) hG7 (by show w.heap.size ≤ gv; omega) _⟩
      · have hx0' : (x == 0) = false := by simpa using hx0
        by_cases hx1 : x = 1
        · subst hx1
          go_wp2
          go_ret
          exact ⟨_, 0, [], p1 + 1, rfl, by simp, (fun x hx => by simp at hx), own_base (World.ownsRow_made w5 #[] 0 (Nat.le_refl _) (by decide) rfl) hG5.size, hr5.alloc _, by omega, grownBy_alloc hG5 _⟩
        · have hx1' : (x == 1) = false := by simpa using hx1
          go_wp2
          go_ret
          exact ⟨_, cap, L, p1 + 1, rfl, by have := HL.out; omega, hsm, ho5, hr5, by omega, hG5⟩

/-- Two numbers. -/
def GotN (w : World) (g : Nat) (l : List Int) (p dp : Nat) (e : Ending) (w' : World) : Prop :=
  ∃ lo hi p', e = .returned (.tuple #[.int .i64 lo, .int .i64 hi]) ∧ (0 ≤ lo ∧ lo ≤ 20) ∧ (0 ≤ hi ∧ hi ≤ 20) ∧ Rdr w' g l p' ∧ p' ≤ p + dp ∧ w.grownBy w' (some g)
set_option maxHeartbeats 2000000 in
theorem l92Limits_any (g : Nat) (l : List Int) (p : Nat) (w : World) (hr : Rdr w g l p) (hp : p ≤ 10000) :
    Calls Try.prog 38 #[.pointer (some ⟨g, 0, none⟩)] w (GotN w g l p 3) := by
  have hg := hr.lt
  go_enter Try.func38, Try.ntmps38
  go_wp2_with fail
  refine (pick_any g l p 3 _ hr (by omega) (by omega)).mono ?_
  rintro e w1 ⟨x1, rfl, a1, a2, _, hr1, hg1⟩
  have s1 : IntKind.i64.wrap (1 + x1) = 1 + x1 := IntWalk.i64_in _ (by omega)
  go_wp2_with fail
  refine (pick_any g l (p + 1) 24 _ hr1 (by omega) (by omega)).mono ?_
  rintro e w2 ⟨x2, rfl, b1, b2, _, hr2, hg2⟩
  have hG2 := grownBy_then hg1 hg2 (fun j e => .inr e)
  clear hr hr1 hg1 hg2
  by_cases hx : x2 = 0
  · subst hx
    have hgs := hr2.lt
    have s2 : IntKind.i64.wrap (1 + x1 - 1) = 1 + x1 - 1 := IntWalk.i64_in _ (by omega)
    go_wp2_with fail
    refine wp_region_tree (fun _ => True) none (.two [0, 1, 2, 4] 3 (.one [] 5 (.fin [6, 7, 8, 9])) 5 (.one [8] 3 (.fin [6, 7, 9]))) (by kernel_rfl) (by kernel_rfl) trivial fun hne => ?_
    simp only [wpTree, wpEff, effOf, opsAt, optCons, List.getElem?_toArray, List.getElem?_cons_zero, List.getElem?_cons_succ]
    repeat (go_big_quiet_step (fail))
    refine wpQuiet_nil ?_
    have hG3 := grownBy_drewN hG2 1
    have hr3 := hr2.drewN 1
    refine ⟨?_, ?_⟩
    · go_wp2
      refine effQ_normal trivial ⟨fun v => Blk v w2.heap.size 3 #[.int .i64 (1 + x1 - 1), .int .i64 17], fun _ _ => trivial, fun _ => (Blk.new_ (w2.drewN 1) 3 #[.int .i64 (1 + x1 - 1), .int .i64 17]), ?_⟩
      refine wpQuiet_nil ?_
      go_wp2_with fail
      have hG3' := grownBy_alloc hG3 (.cells #[.int .i64 (1 + x1 - 1), .int .i64 17] 3)
      have hB := Blk.new_ (w2.drewN 1) 3 #[.int .i64 (1 + x1 - 1), .int .i64 17]
      refine (pick_any g l (p + 2) 2 _ (hr3.alloc (.cells #[.int .i64 (1 + x1 - 1), .int .i64 17] 3)) (by omega) (by omega)).mono ?_
      rintro e w4 ⟨y, rfl, v1, v2, _, hr4, hg4⟩
      have hG4 := grownBy_then hG3' hg4 (fun j e => .inr e)
      have hB4 : Blk w4 w2.heap.size 3 #[.int .i64 (1 + x1 - 1), .int .i64 17] := hB.grown hg4 (by simp; omega)
      have he0 : ∀ i : SW (fun v => Blk v w2.heap.size 3 #[.int .i64 (1 + x1 - 1), .int .i64 17]), (sw i).cell? ⟨w2.heap.size, 0, none⟩ = some (.int .i64 (1 + x1 - 1)) := fun i => (sw_is i).cell 0
      have he1 : ∀ i : SW (fun v => Blk v w2.heap.size 3 #[.int .i64 (1 + x1 - 1), .int .i64 17]), (sw i).cell? ⟨w2.heap.size, 1, none⟩ = some (.int .i64 17) := fun i => (sw_is i).cell 1
      go_wp2_with fail
      refine effQ_normal hB4 ⟨fun v => Blk v w2.heap.size 3 #[.int .i64 (1 + x1 - 1), .int .i64 17], fun _ h => h, fun _ => hB4, ?_⟩
      have hne4 : Nonempty (SW (fun v => Blk v w2.heap.size 3 #[.int .i64 (1 + x1 - 1), .int .i64 17])) := ⟨⟨_, hB4⟩⟩
      clear hB hG3' hg4 hr3 hG3
      by_cases hy : y = 0
      · subst hy
        repeat (go_big_quiet_step (fail))
        refine wpQuiet_nil ?_
        refine noPan_normal ?_
        go_wp2
        go_ret2
        exact ⟨1 + x1, 1 + x1 - 1, p + 3, rfl, ⟨by omega, by omega⟩, ⟨by omega, by omega⟩, hr4, by omega, hG4⟩
      · obtain rfl : y = 1 := by omega
        repeat (go_big_quiet_step (fail))
        refine wpQuiet_nil ?_
        refine noPan_normal ?_
        go_wp2
        go_ret2
        exact ⟨1 + x1, 17, p + 3, rfl, ⟨by omega, by omega⟩, ⟨by omega, by omega⟩, hr4, by omega, hG4⟩
    · go_wp2_with fail
      refine (pick_any g l (p + 2) 2 _ hr3 (by omega) (by omega)).mono ?_
      rintro e w4' ⟨y, rfl, v1, v2, _, hr4', hg4⟩
      have hG4' := grownBy_then hG3 hg4 (fun j e => .inr e)
      go_wp2_with fail
      refine effQ_normal trivial ⟨fun _ => True, fun _ h => h, fun _ => trivial, ?_⟩
      clear hg4 hr3 hG3
      repeat (go_big_quiet_step (fail))
      refine wpQuiet_nil ?_
      go_wp2
      have hG4 := grownBy_alloc hG4' (.cells #[.int .i64 (1 + x1 - 1), .int .i64 17] 3)
      have hr4 := hr4'.alloc (.cells #[.int .i64 (1 + x1 - 1), .int .i64 17] 3)
      have hB4 := Blk.new_ w4' 3 #[.int .i64 (1 + x1 - 1), .int .i64 17]
      have he0 : ∀ i : SW (fun v => Blk v w4'.heap.size 3 #[.int .i64 (1 + x1 - 1), .int .i64 17]), (sw i).cell? ⟨w4'.heap.size, 0, none⟩ = some (.int .i64 (1 + x1 - 1)) := fun i => (sw_is i).cell 0
      have he1 : ∀ i : SW (fun v => Blk v w4'.heap.size 3 #[.int .i64 (1 + x1 - 1), .int .i64 17]), (sw i).cell? ⟨w4'.heap.size, 1, none⟩ = some (.int .i64 17) := fun i => (sw_is i).cell 1
      have hne4 : Nonempty (SW (fun v => Blk v w4'.heap.size 3 #[.int .i64 (1 + x1 - 1), .int .i64 17])) := ⟨⟨_, hB4⟩⟩
      refine effQ_normal trivial ⟨fun v => Blk v w4'.heap.size 3 #[.int .i64 (1 + x1 - 1), .int .i64 17], hB4, ?_⟩
      by_cases hy : y = 0
      · subst hy
        repeat (go_big_quiet_step (fail))
        refine wpQuiet_nil ?_
        refine noPan_normal ?_
        go_wp2
        go_ret2
        exact ⟨1 + x1, 1 + x1 - 1, p + 3, rfl, ⟨by omega, by omega⟩, ⟨by omega, by omega⟩, hr4, by omega, hG4⟩
      · obtain rfl : y = 1 := by omega
        repeat (go_big_quiet_step (fail))
        refine wpQuiet_nil ?_
        refine noPan_normal ?_
        go_wp2
        go_ret2
        exact ⟨1 + x1, 17, p + 3, rfl, ⟨by omega, by omega⟩, ⟨by omega, by omega⟩, hr4, by omega, hG4⟩
  · have hx' : (x2 == 0) = false := by simpa using hx
    go_wp2_with fail
    refine (pick_any g l (p + 2) 4 _ hr2 (by omega) (by omega)).mono ?_
    rintro e w3 ⟨x3, rfl, d1, d2, _, hr3, hg3⟩
    have hG3 := grownBy_then hG2 hg3 (fun j e => .inr e)
    go_wp2
    go_ret2
    exact ⟨1 + x1, 1 + x1 + x3, p + 3, rfl, ⟨by omega, by omega⟩, ⟨by omega, by omega⟩, hr3, by omega, hG3⟩
/-- A list of at most 9 integers in new memory and two numbers. -/
def DrawnIN (w : World) (e : Ending) (w' : World) : Prop :=
  ∃ A c L lo hi, e = .returned (.tuple #[.slice A L.length c, .int .i64 lo, .int .i64 hi]) ∧ L.length ≤ 9 ∧ (∀ x ∈ L, -1 ≤ x ∧ x ≤ 1001) ∧ (0 ≤ lo ∧ lo ≤ 20) ∧ (0 ≤ hi ∧ hi ≤ 20) ∧ w'.ownsRow w.heap.size 3 1 (.slice A L.length c) L.length (cells1 .i64 L) ∧ Below w.heap.size w w'
set_option maxHeartbeats 2000000 in
theorem DrawCutsBest_any (A : Option Addr) (c : Nat) (l : List Int) (w : World) (hr : RdI w w.heap.size .u8 A l) (hby : ∀ x ∈ l, 0 ≤ x ∧ x ≤ 255) (hn : l.length ≤ 1048576) (hc : l.length ≤ c) (hc' : c ≤ 9223372036854775807) :
    Calls Try.prog 25 #[.slice A l.length c] w (DrawnIN w) := by
  have HB := Lib.hid hby
  clear hby
  go_enter Try.func25, Try.ntmps25
  go_wp2_with fail
  refine (open_any A c l _ hr HB.out hn hc hc').mono ?_
  rintro e w1 ⟨g, l1, rfl, hg, hrd, hb1⟩
  go_wp2_with fail
  refine (l92Signal_any g l1 0 _ hrd (by omega)).mono ?_
  rintro e w2 ⟨A2, c2, L, p2, rfl, hL, hsm, ho, hr2, hp2, hG⟩
  have hb2 := below_of_two hb1 hG hg
  have hgl := hrd.lt
  have hs1 := hb1.size
  clear hb1 hG hrd
  go_wp2_with fail
  refine (l92Limits_any g l1 p2 _ hr2 (by omega)).mono ?_
  rintro e w3 ⟨lo, hi, p3, rfl, hlo, hhi, hr3, hp3, hG3⟩
  have hb3 := below_of_two hb2 hG3 hg
  have ho3 := own_base (ho.kept hG3 (.inr (fun e => by have := (ho.lt _ e).1; omega))) hs1
  clear hb2 hG3 ho hr2
  go_wp2
  go_ret3
  exact ⟨A2, c2, L, lo, hi, rfl, hL, hsm, hlo, hhi, ho3, hb3⟩
end Go.Proofs.Ytbdhnfligfpigaa
