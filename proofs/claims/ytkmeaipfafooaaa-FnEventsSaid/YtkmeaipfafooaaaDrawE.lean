/- Contracts of the functions that draw events: some list of small pairs in new memory. No condition but the code's length. -/
import Derived.Test.YtkmeaipfafooaaaSmall
import Derived.Test.YtkmeaipfafooaaaPairEvent
import Derived.Test.YtkmeaipfafooaaaTree
namespace Go.Proofs.Ytkmeaipfafooaaa
open Go.RowKit

set_option maxHeartbeats 4000000 in
theorem l92Events_any (g : Nat) (l : List Int) (p : Nat) (w : World) (hr : Rdr w g l p) (hp : p ≤ 10000) :
    Calls Try.prog 8 #[.pointer (some ⟨g, 0, none⟩)] w (Got w 27 g l p 20 7) := by
  have hr0 := hr.alloc (.cells #[] 27)
  have hg := hr.lt
  have hG0 : w.grownBy (w.alloc (.cells #[] 27)) (some g) := grownBy_alloc (grownBy_refl _ _) _
  have ho0 : (w.alloc (.cells #[] 27)).ownsRow w.heap.size 27 2 (.slice (some ⟨w.heap.size, 0, none⟩) 0 0) 0 [] := World.ownsRow_made w #[] 0 (Nat.le_refl _) (by decide) rfl
  clear hr
  go_enter Try.func8, Try.ntmps8
  go_wp2_with fail
  refine (pick_any g l p 20 _ hr0 (by omega) (by omega)).mono ?_
  rintro e w1 ⟨x1, rfl, a1, a2, _, hr1, hg1⟩
  go_wp2_with fail
  refine (pick_any g l (p + 1) 6 _ hr1 (by omega) (by omega)).mono ?_
  rintro e w2 ⟨x3, rfl, c1, c2, _, hr2, hg2⟩
  have hG2 : w.grownBy w2 (some g) := grownBy_then (grownBy_then hG0 hg1 (fun j e => .inr e)) hg2 (fun j e => .inr e)
  have ho2 := (ho0.kept hg1 (.inr (by simp [Value.ownBlock]; omega))).kept hg2 (.inr (by simp [Value.ownBlock]; omega))
  clear hg1 hg2 hr1 hr0 ho0 hG0
  obtain ⟨n, rfl⟩ := Int.eq_ofNat_of_zero_le c1
  have hn : n ≤ 5 := by omega
  go_wp2_with fail
  go_loopw [6, 3, 4] (fun i v d wr => ∃ (k : Nat) (L : List (Int × Int)) (dd : Int) (p1 : Nat), k ≤ n ∧ i = .int .i64 k ∧ d = .int .i64 dd ∧ L.length = k ∧ Small 100000 L ∧ wr.ownsRow w.heap.size 27 2 v L.length (cells2 L) ∧
      (0 ≤ dd ∧ dd ≤ 20 + 20 * k) ∧ Rdr wr g l p1 ∧ p1 ≤ p + 2 + 2 * k ∧ w.grownBy wr (some g)) (fun i _ _ _ => n - (intOf i).toNat)
  case atStart => exact ⟨0, [], x1, p + 2, Nat.zero_le _, rfl, rfl, rfl, Small.nil_, ho2, ⟨a1, by omega⟩, hr2, by omega, hG2⟩
  case round =>
    obtain ⟨k, L, dd, p1, hk, rfl, rfl, hL, hsm, ho, ⟨t1, t2⟩, hrd, hp1, hG⟩ := hrel
    clear ho2 hr2 hG2
    have HL := Lib.hid hL
    clear hL
    by_cases hlt : k < n
    · have hln : L.length + 1 ≤ 4294967296 := by have := HL.out; omega
      go_wp2_with fail
      refine (pick_any g l p1 8 _ hrd (by omega) (by omega)).mono ?_
      rintro e w5 ⟨y1, rfl, u1, u2, _, hr5, hg5⟩
      have ho5 := ho.kept hg5 (.inr (fun e => by have := (ho.lt _ e).1; omega))
      have hG5 := grownBy_then hG hg5 (fun j e => .inr e)
      have hbs : w.heap.size ≤ w5.heap.size := hG5.size
      have s1 : IntKind.i64.wrap (1 + y1) = 1 + y1 := IntWalk.i64_in _ (by omega)
      clear ho hrd hG hg5
      go_wp2_with (at_builtin; refine wpList_app2_base rfl _ _ _ rfl Try.underlying23 infoEvent rfl ho5 hbs _ _ _ _ (by rfl) rfl hln ?_; intro v1 w6 ho6 hg6 hat)
      have hr6 := (hr5.alloc (.cells #[.int .i64 dd, .int .i64 (1 + y1)] 27)).grown hg6 (fun j e => by have := (ho5.lt j e).1; omega)
      have hG6 := grownBy_then (grownBy_alloc hG5 (.cells #[.int .i64 dd, .int .i64 (1 + y1)] 27)) hg6 (fun j e => .inl (ho5.lt j e).1)
      clear ho5 hr5 hG5 hg6 hat
      have s2 : IntKind.i64.wrap (dd + 1) = dd + 1 := IntWalk.i64_in _ (by omega)
      refine (pick_any g l (p1 + 1) 20 _ hr6 (by omega) (by omega)).mono ?_
      rintro e w7 ⟨y2, rfl, v1_, v2_, _, hr7, hg7⟩
      have ho7 := ho6.kept hg7 (.inr (fun e => by have := (ho6.lt _ e).1; omega))
      have hG7 := grownBy_then hG6 hg7 (fun j e => .inr e)
      have s3 : IntKind.i64.wrap (dd + 1 + y2) = dd + 1 + y2 := IntWalk.i64_in _ (by omega)
      clear ho6 hr6 hG6 hg7
      go_wp2
      exact ⟨⟨k + 1, L ++ [(dd, 1 + y1)], dd + 1 + y2, p1 + 2, hlt, by go_num, rfl, by rw [List.length_append, HL.out]; rfl, hsm.snoc t1 (by omega) (by omega) (by omega), ho7, ⟨by omega, by omega⟩, hr7, by omega, hG7⟩, by simp [intOf]; omega⟩
    · have hkn : k = n := by omega
      subst hkn
      by_cases hn0 : k = 0
      · subst hn0
        go_wp2
        go_ret
        obtain ⟨A1, c1, rfl⟩ := own_shape ho
        have hL0 := HL.out
        rw [hL0] at ho
        refine ⟨A1, c1, L, p1, ?_, by omega, hsm, by rw [hL0]; exact ho, hrd, by omega, hG⟩
        rw [hL0]; rfl
      · have hk1 : (1 : Int) ≤ (k : Int) := by omega
        obtain ⟨gv, cap, hv, hgb, hgl⟩ := ho.form (by have := HL.out; omega)
        subst hv
        go_wp2_with fail
        refine (pick_any g l p1 50 _ hrd (by omega) (by omega)).mono ?_
        rintro e w5 ⟨x, rfl, u1, u2, _, hr5, hg5⟩
        have ho5 := ho.kept hg5 (.inr (by simp [Value.ownBlock]; omega))
        have hG5 := grownBy_then hG hg5 (fun j e => .inr e)
        have hlt : 0 < L.length := by have := HL.out; omega
        obtain ⟨z1, z2⟩ := cells2_get L 0 hlt
        have q1 := (ho5.cellAt 0 (by omega)).trans z1
        have q2 := (ho5.cellAt 1 (by omega)).trans z2
        have q3 := ho5.frozenAt 1
        obtain ⟨m1, m2, m3, m4⟩ := hsm.at_ hlt
        have hlz : (0 : Int) < (L.length : Int) := by omega
        have hbs := hG5.size
        have hln : L.length + 1 ≤ 4294967296 := by have := HL.out; omega
        clear hrd hG hg5 ho z1 z2
        by_cases hx0 : x = 0
        · subst hx0
          go_wp2_with fail
          have hr6 := hr5.alloc (.cells #[.int .i64 0, .int .i64 1001] 3)
          have hB6 := Blk.new_ w5 3 #[.int .i64 0, .int .i64 1001]
          have ho6 := ho5.alloc (.cells #[.int .i64 0, .int .i64 1001] 3)
          have hG6 := grownBy_alloc hG5 (.cells #[.int .i64 0, .int .i64 1001] 3)
          have hgv : gv < w5.heap.size := (ho5.lt gv rfl).2
          refine (pick_any g l (p1 + 1) 2 _ hr6 (by omega) (by omega)).mono ?_
          rintro e w7 ⟨y, rfl, v1_, v2_, _, hr7, hg7⟩
          have ho7 := ho6.kept hg7 (.inr (by simp [Value.ownBlock]; omega))
          have hB7 := hB6.grown hg7 (by simp; omega)
          have hG7 := grownBy_then hG6 hg7 (fun j e => .inr e)
          have d0 := hB7.cell 0
          have d1 := hB7.cell 1
          have f1 := ho7.frozenAt 1
          have e1 := (ho7.cellAt 1 (by omega)).trans (cells2_get L 0 hlt).2
          clear q1 q2 q3 hr6 hB6 ho6 hG6 ho5 hr5 hG5 hg7
          by_cases hy : y = 0
          · subst hy
            go_wp2
            go_ret
            obtain ⟨ho8, _⟩ := ho7.stored 1 (.int .i64 0)
            have ep : cells2 (putB L 0 0) = (cells2 L).set 1 (.int .i64 0) := cells2_putB L 0 0 hlt
            rw [← ep, ← length_putB L 0 0] at ho8
            refine ⟨_, cap, putB L 0 0, p1 + 2, ?_, by rw [length_putB]; have := HL.out; omega, hsm.set_ _ ⟨m1, m2, by show (0 : Int) ≤ 0; omega, by show (0 : Int) ≤ 100000; omega⟩, ho8, hr7.far (q := ⟨gv, _, none⟩) (by show g < gv; omega) _, by omega, grownBy_setFar (p := ⟨gv, _, none⟩) hG7 (by show w.heap.size ≤ gv; omega) _⟩
            rw [length_putB]; rfl
          · obtain rfl : y = 1 := by omega
            go_wp2
            go_ret
            obtain ⟨ho8, _⟩ := ho7.stored 1 (.int .i64 1001)
            have ep : cells2 (putB L 0 1001) = (cells2 L).set 1 (.int .i64 1001) := cells2_putB L 0 1001 hlt
            rw [← ep, ← length_putB L 0 1001] at ho8
            refine ⟨_, cap, putB L 0 1001, p1 + 2, ?_, by rw [length_putB]; have := HL.out; omega, hsm.set_ _ ⟨m1, m2, by show (0 : Int) ≤ 1001; omega, by show (1001 : Int) ≤ 100000; omega⟩, ho8, hr7.far (q := ⟨gv, _, none⟩) (by show g < gv; omega) _, by omega, grownBy_setFar (p := ⟨gv, _, none⟩) hG7 (by show w.heap.size ≤ gv; omega) _⟩
            rw [length_putB]; rfl
        · have hx0' : (x == 0) = false := by simpa using hx0
          by_cases hx1 : x = 1
          · subst hx1
            go_wp2_with (at_builtin; refine wpList_app2_base rfl _ _ _ rfl Try.underlying23 infoEvent rfl ho5 hbs _ _ _ _ (by rfl) rfl hln ?_; intro v1 w6 ho6 hg6 hat)
            go_ret
            obtain ⟨A1, c1, rfl⟩ := own_shape ho6
            refine ⟨A1, c1, L ++ [(fA L 0, fB L 0)], p1 + 1, rfl, by have := HL.out; simp; omega, hsm.snoc m1 m2 m3 m4, ho6, (hr5.alloc (.cells #[.int .i64 (fA L 0), .int .i64 (fB L 0)] 27)).grown hg6 (fun j e => by have := (ho5.lt j e).1; omega), by omega,
              grownBy_then (grownBy_alloc hG5 (.cells #[.int .i64 (fA L 0), .int .i64 (fB L 0)] 27)) hg6 (fun j e => .inl (ho5.lt j e).1)⟩
          · have hx1' : (x == 1) = false := by simpa using hx1
            go_wp2
            go_ret
            exact ⟨_, cap, L, p1 + 1, rfl, by have := HL.out; omega, hsm, ho5, hr5, by omega, hG5⟩

set_option maxHeartbeats 1000000 in
theorem DrawEventsValid_any (A : Option Addr) (c : Nat) (l : List Int) (w : World) (hr : RdI w w.heap.size .u8 A l) (hby : ∀ x ∈ l, 0 ≤ x ∧ x ≤ 255) (hn : l.length ≤ 1048576) (hc : l.length ≤ c) (hc' : c ≤ 9223372036854775807) :
    Calls Try.prog 4 #[.slice A l.length c] w (DrawnS w 27 7 100001) := by
  have HB := Lib.hid hby
  clear hby
  go_enter Try.func4, Try.ntmps4
  go_wp2_with fail
  refine (open_any A c l _ hr HB.out hn hc hc').mono ?_
  rintro e w1 ⟨g, l1, rfl, hg, hrd, hb1⟩
  go_wp2_with fail
  refine (l92Events_any g l1 0 _ hrd (by omega)).mono ?_
  rintro e w2 ⟨A2, c2, L, p2, rfl, hL, hsm, ho, hr2, hp2, hG⟩
  have hb2 := below_of_two hb1 hG hg
  have ho2 := own_base ho hb1.size
  have hs1 := hb1.size
  have hgl := hrd.lt
  clear hb1 hG hrd
  by_cases h1 : 1 < L.length
  · obtain ⟨gv, cap, hv, hgv, hgvl⟩ := ho.form (by omega)
    injection hv with hA _ hcap
    subst hA hcap
    clear ho
    go_wp2_with fail
    refine (pick_any g l1 p2 6 _ hr2 (by omega) (by omega)).mono ?_
    rintro e w3 ⟨x, rfl, u1, u2, _, hr3, hg3⟩
    have hb3 := below_of_two hb2 hg3 hg
    have ho3 := ho2.kept hg3 (.inr (by simp [Value.ownBlock]; omega))
    clear hb2 hg3 ho2 hr2
    by_cases hx : x = 0
    · subst hx
      have z1 := (cells2_get L 1 h1).1
      obtain ⟨m1, m2, m3, m4⟩ := hsm.at_ h1
      obtain ⟨n1, n2, n3, n4⟩ := hsm.at_ (show 0 < L.length by omega)
      have hl1 : (1 : Int) < (L.length : Int) := by omega
      have hl0 : (0 : Int) < (L.length : Int) := by omega
      have q2 : w3.cell? ⟨gv, 2, none⟩ = some (.int .i64 (fA L 1)) := (ho3.cellAt 2 (by omega)).trans z1
      have q3 := (ho3.cellAt 0 (by omega)).trans (cells2_get L 0 (by omega)).1
      have f3 := ho3.frozenAt 0
      clear z1
      go_wp2
      go_ret
      obtain ⟨ho5, _⟩ := ho3.stored 0 (.int .i64 (fA L 1))
      have ep : cells2 (putA L 0 (fA L 1)) = (cells2 L).set 0 (.int .i64 (fA L 1)) := cells2_putA L 0 (fA L 1) (by omega)
      rw [← ep, ← length_putA L 0 (fA L 1)] at ho5
      refine ⟨_, c2, putA L 0 (fA L 1), ?_, by rw [length_putA]; omega, (hsm.more (by decide)).set_ _ ⟨m1, by show fA L 1 ≤ 100001; omega, n3, by show fB L 0 ≤ 100001; omega⟩, ho5, hb3.setCell (p := ⟨gv, _, none⟩) (by show w.heap.size ≤ gv; omega) _⟩
      rw [length_putA]; rfl
    · have hx' : (x == 0) = false := by simpa using hx
      go_wp2
      go_ret
      exact ⟨_, c2, L, rfl, hL, hsm.more (by decide), ho3, hb3⟩
  · go_wp2
    go_ret
    exact ⟨A2, c2, L, rfl, hL, hsm.more (by decide), ho2, hb2⟩

/-- Two lists of at most mx small pairs in new memory and a number. -/
def GotPair (w : World) (E : TypeId) (g : Nat) (l : List Int) (p dp mx : Nat) (e : Ending) (w' : World) : Prop :=
  ∃ A c L B d M t p', e = .returned (.tuple #[.slice A L.length c, .slice B M.length d, .int .i64 t]) ∧ L.length ≤ mx ∧ M.length ≤ mx ∧ Small 100000 L ∧ Small 100000 M ∧ (-1 ≤ t ∧ t ≤ 1001) ∧
    w'.ownsRow w.heap.size E 2 (.slice A L.length c) L.length (cells2 L) ∧ w'.ownsRow w.heap.size E 2 (.slice B M.length d) M.length (cells2 M) ∧ Rdr w' g l p' ∧ p' ≤ p + dp ∧ w.grownBy w' (some g)


/-- Two lists of at most mx small pairs in new memory and a number. -/
def DrawnP (w : World) (E : TypeId) (mx : Nat) (e : Ending) (w' : World) : Prop :=
  ∃ A c L B d M t, e = .returned (.tuple #[.slice A L.length c, .slice B M.length d, .int .i64 t]) ∧ L.length ≤ mx ∧ M.length ≤ mx ∧ Small 100000 L ∧ Small 100000 M ∧ (-1 ≤ t ∧ t ≤ 1001) ∧
    w'.ownsRow w.heap.size E 2 (.slice A L.length c) L.length (cells2 L) ∧ w'.ownsRow w.heap.size E 2 (.slice B M.length d) M.length (cells2 M) ∧ Below w.heap.size w w'



end Go.Proofs.Ytkmeaipfafooaaa
