/- Contract of the function that draws a signal, two distances and cuts. No condition but the code's length. -/
import Derived.Test.YtbdhnfligfpigaaDrawC
import Derived.Test.YtbdhnfligfpigaaCutMore
import Derived.Test.YtbdhnfligfpigaaObj
namespace Go.Proofs.Ytbdhnfligfpigaa
open Go.RowKit

/-- What has been drawn: a signal, cuts, the reader. -/
def InC (w wr : World) (B D g : Nat) (l : List Int) (p : Nat) (A : Option Addr) (c : Nat) (L : List Int) (C : Option Addr) (k : Nat) (N : List Int) : Prop :=
  wr.ownsRow B 3 1 (.slice A L.length c) L.length (cells1 .i64 L) ∧ (∀ r, (Value.slice A L.length c).ownBlock = some r → r < D) ∧
    wr.ownsRow D 3 1 (.slice C N.length k) N.length (cells1 .i64 N) ∧ Rdr wr g l p ∧ w.heap.size ≤ g ∧ g < B ∧ B ≤ D ∧ D ≤ wr.heap.size ∧ Below w.heap.size w wr
/-- A signal of at most 9 places, two distances and a list of at most 16 places in new memory. -/
def DrawnCI (w : World) (e : Ending) (w' : World) : Prop :=
  ∃ A c L lo hi C k N, e = .returned (.tuple #[.slice A L.length c, .int .i64 lo, .int .i64 hi, .slice C N.length k]) ∧ L.length ≤ 9 ∧ N.length ≤ 16 ∧ (∀ x ∈ L, -1 ≤ x ∧ x ≤ 1001) ∧ (0 ≤ lo ∧ lo ≤ 20) ∧ (0 ≤ hi ∧ hi ≤ 20) ∧
    w'.ownsRow w.heap.size 3 1 (.slice A L.length c) L.length (cells1 .i64 L) ∧ w'.ownsRow w.heap.size 3 1 (.slice C N.length k) N.length (cells1 .i64 N) ∧ Below w.heap.size w w'
theorem allowed_last0 {c cuts : List Int} {lo hi : Int} (h : allowed c lo hi cuts = true) : 0 < cuts.length ∧ cuts.length = cuts.length := by
  obtain ⟨h1, _, _, h4⟩ := allowed_iff.1 h
  have hn := ((sig_iff c).1 h1).2.1
  refine ⟨?_, rfl⟩
  cases cuts with
  | nil => rw [lastOf] at h4; omega
  | cons x xs => simp
section
variable {w wr w' : World} {B D g : Nat} {l : List Int} {p : Nat} {A : Option Addr} {c : Nat} {L : List Int} {C : Option Addr} {k : Nat} {N : List Int}
theorem InC.picked (h : InC w wr B D g l p A c L C k N) (hg5 : wr.grownBy w' (some g)) (hr : Rdr w' g l (p + 1)) : InC w w' B D g l (p + 1) A c L C k N := by
  obtain ⟨h1, h2, h3, h4, h5, h6, h7, h8, h9⟩ := h
  exact ⟨h1.kept hg5 (.inr (fun e => by have := (h1.lt _ e).1; omega)), h2, h3.kept hg5 (.inr (fun e => by have := (h3.lt _ e).1; omega)), hr, h5, h6, h7, Nat.le_trans h8 hg5.size, below_of_two h9 hg5 h5⟩
theorem InC.store {gm : Nat} (h : InC w wr B D g l p A c L (some ⟨gm, 0, none⟩) k N) (j : Nat) (x : Int) : InC w (wr.setCell ⟨gm, j, none⟩ (.int .i64 x)) B D g l p A c L (some ⟨gm, 0, none⟩) k (putI N j x) := by
  obtain ⟨h1, h2, h3, h4, h5, h6, h7, h8, h9⟩ := h
  have hb := (h3.lt gm rfl).1
  have hgr := grownBy_set (grownBy_refl wr (some gm)) j (.int .i64 x)
  obtain ⟨h10, _⟩ := h3.stored j (.int .i64 x)
  rw [← cells1_putI, ← length_putI N j x] at h10
  refine ⟨h1.kept hgr (.inr (fun e => by have := h2 _ e; omega)), h2, ?_, h4.far (q := ⟨gm, _, none⟩) (by show g < gm; omega) _, h5, h6, h7, by simpa [World.setCell] using h8, h9.setCell (p := ⟨gm, _, none⟩) (by show w.heap.size ≤ gm; omega) _⟩
  rw [length_putI] at h10 ⊢
  exact h10
theorem InC.alloc (h : InC w wr B D g l p A c L C k N) (o : Obj) : InC w (wr.alloc o) B D g l p A c L C k N := by
  obtain ⟨h1, h2, h3, h4, h5, h6, h7, h8, h9⟩ := h
  exact ⟨h1.alloc o, h2, h3.alloc o, h4.alloc o, h5, h6, h7, by simp; omega, h9.alloc h9.size o⟩
theorem InC.drewN (h : InC w wr B D g l p A c L C k N) (n : Nat) : InC w (wr.drewN n) B D g l p A c L C k N := by
  obtain ⟨h1, h2, h3, h4, h5, h6, h7, h8, h9⟩ := h
  exact ⟨h1, h2, h3, h4, h5, h6, h7, h8, below_drewN h9 n⟩
theorem InC.grown {C' : Option Addr} {k' : Nat} {N' : List Int} (h : InC w wr B D g l p A c L C k N) (hgr : wr.grownBy w' (Value.slice C N.length k).ownBlock)
    (ho : w'.ownsRow D 3 1 (.slice C' N'.length k') N'.length (cells1 .i64 N')) : InC w w' B D g l p A c L C' k' N' := by
  obtain ⟨h1, h2, h3, h4, h5, h6, h7, h8, h9⟩ := h
  refine ⟨h1.kept hgr ?_, h2, ho, h4.grown hgr (fun q e => by have := (h3.lt q e).1; omega), h5, h6, h7, Nat.le_trans h8 hgr.size, h9.grown hgr h9.size fun q e => by have := (h3.lt q e).1; omega⟩
  cases hb : (Value.slice A L.length c).ownBlock with
  | none => exact .inl rfl
  | some r => exact .inr (fun e => by have := h2 r hb; have := (h3.lt r e.symm).1; omega)
/-- Another, empty list of cuts. -/
theorem InC.made (h : InC w wr B D g l p A c L C k N) : InC w (wr.alloc (.cells #[] 3)) B D g l p A c L (some ⟨wr.heap.size, 0, none⟩) 0 [] := by
  obtain ⟨h1, h2, h3, h4, h5, h6, h7, h8, h9⟩ := h.alloc (.cells #[] 3)
  obtain ⟨_, _, _, _, _, _, _, g8, _⟩ := h
  exact ⟨h1, h2, World.ownsRow_made wr #[] 0 g8 (by decide) rfl, h4, h5, h6, h7, h8, h9⟩
end
set_option maxRecDepth 100000 in
set_option maxHeartbeats 4000000 in
theorem DrawCutsAllowed_any (A : Option Addr) (c : Nat) (l : List Int) (w : World) (hr : RdI w w.heap.size .u8 A l) (hby : ∀ x ∈ l, 0 ≤ x ∧ x ≤ 255) (hn : l.length ≤ 1048576) (hc : l.length ≤ c) (hc' : c ≤ 9223372036854775807) :
    Calls Try.prog 22 #[.slice A l.length c] w (DrawnCI w) := by
  have HB := Lib.hid hby
  clear hby
  go_enter Try.func22, Try.ntmps22
  go_wp2_with fail
  refine (open_any A c l _ hr HB.out hn hc hc').mono ?_
  rintro e w1 ⟨g, l1, rfl, hg, hrd, hb1⟩
  go_wp2_with fail
  refine (l92Signal_any g l1 0 _ hrd (by omega)).mono ?_
  rintro e w2 ⟨A2, c2, L, p2, rfl, hL, hsm, ho, hr2, hp2, hG⟩
  have hb2 := below_of_two hb1 hG hg
  have hgl := hrd.lt
  have hs1 := hb1.size
  have hs2 := hG.size
  have HS := Lib.hid hsm
  clear hb1 hG hrd hsm hr
  go_wp2_with fail
  refine (l92Limits_any g l1 p2 _ hr2 (by omega)).mono ?_
  rintro e w3 ⟨lo, hi, p3, rfl, hlo, hhi, hr3, hp3, hG3⟩
  have hs3 := hG3.size
  have hb3 := below_of_two hb2 hG3 hg
  have ho3 := ho.kept hG3 (.inr (fun e => by have := (ho.lt _ e).1; omega))
  have rL := RdI.of_own ho3
  clear hb2 hG3 ho hr2
  have hbl := bestC_len L lo hi
  go_wp2_with fail
  refine (specCutsBest_any A2 c2 L lo hi _ rL (by omega)).mono ?_
  rintro e w4 ⟨A4, c4, rfl, o4, b4⟩
  have hin : InC w w4 w1.heap.size w3.heap.size g l1 p3 A2 c2 L A4 c4 (bestC L lo hi) := ⟨own_keep ho3 b4, fun r e => (ho3.lt r e).2, o4, hr3.below b4 hr3.lt, hg, hgl, by omega, b4.size, hb3.trans (b4.mono hb3.size)⟩
  clear o4 b4 hb3 ho3 hr3 rL
  cases hok : bestOk L lo hi with
  | false =>
    have hin0 := hin.made
    clear hin
    have s0 : IntKind.i64.wrap ((L.length : Int) - 1) = (L.length : Int) - 1 := IntWalk.i64_in _ (by omega)
    go_wp2_with fail
    go_loopw [14, 13] (fun i v wr => ∃ (k : Nat) (N : List Int) (C : Option Addr) (q p1 : Nat), k ≤ L.length ∧ i = .int .i64 k ∧ v = .slice C N.length q ∧ N.length ≤ k ∧ p1 ≤ p3 + k ∧ InC w wr w1.heap.size w3.heap.size g l1 p1 A2 c2 L C q N) (fun i _ _ => L.length - (intOf i).toNat)
    case atStart => exact ⟨0, [], _, 0, p3, Nat.zero_le _, rfl, rfl, Nat.le_refl _, by omega, hin0⟩
    case round =>
      obtain ⟨k, N, C, q, p1, hk, rfl, rfl, hN, hp1, hin⟩ := hrel
      clear hin0
      by_cases hlt : k < L.length
      · have hln : N.length + 1 ≤ 4294967296 := by omega
        by_cases hk1 : k + 1 = L.length
        · have g1 : ((k : Int) == (L.length : Int) - 1) = true := by simp; omega
          clear hk1
          go_wp2_with (at_builtin; refine wpList_app1_base rfl _ _ _ rfl Try.underlying22 infoI64 rfl hin.2.2.1 hin.2.2.2.2.2.2.2.1 _ _ _ rfl rfl hln ?_; intro v1 w6 o6 hg6 hat6)
          obtain ⟨C6, q6, rfl⟩ := own_shape o6
          have hin6 := (hin.alloc (.cells #[.int .i64 (k : Int)] 3)).grown hg6 o6
          exact ⟨⟨k + 1, N ++ [(k : Int)], C6, q6, p1, hlt, by go_num, rfl, by simp; omega, by omega, hin6⟩, by simp [intOf]; omega⟩
        · have g1 : ((k : Int) == (L.length : Int) - 1) = false := by simp; omega
          clear hk1
          go_wp2_with fail
          refine (pick_any g l1 p1 2 _ hin.2.2.2.1 (by omega) (by omega)).mono ?_
          rintro e w5 ⟨x, rfl, u1, u2, _, hr5, hg5⟩
          have hin5 := hin.picked hg5 hr5
          clear hin hr5 hg5
          by_cases hx : x = 0
          · subst hx
            go_wp2_with (at_builtin; refine wpList_app1_base rfl _ _ _ rfl Try.underlying22 infoI64 rfl hin5.2.2.1 hin5.2.2.2.2.2.2.2.1 _ _ _ rfl rfl hln ?_; intro v1 w6 o6 hg6 hat6)
            obtain ⟨C6, q6, rfl⟩ := own_shape o6
            have hin6 := (hin5.alloc (.cells #[.int .i64 (k : Int)] 3)).grown hg6 o6
            exact ⟨⟨k + 1, N ++ [(k : Int)], C6, q6, (p1 + 1), hlt, by go_num, rfl, by simp; omega, by omega, hin6⟩, by simp [intOf]; omega⟩
          · have hx' : (x == 0) = false := by simpa using hx
            go_wp2
            exact ⟨⟨k + 1, N, C, q, p1 + 1, hlt, by go_num, rfl, by omega, by omega, hin5⟩, by simp [intOf]; omega⟩
      · go_wp2
        refine bodyPost_ret (results_tmp4 rfl _ _ _) rfl ?_
        exact ⟨A2, c2, L, lo, hi, C, q, N, rfl, hL, by omega, HS.out, hlo, hhi, own_base hin.1 hs1, own_base hin.2.2.1 (by omega), hin.2.2.2.2.2.2.2.2⟩
  | true =>
    have hal := (best_allowed hok).1
    have hpos := (allowed_last0 hal).1
    have hat := fun (i : Nat) (hi : i < (bestC L lo hi).length) => allowed_at hal hi
    generalize bestC L lo hi = N0 at hin hpos hat hbl ⊢
    have HA := Lib.hid hat
    clear hal hat hok
    go_wp2_with fail
    refine (pick_any g l1 p3 3 _ hin.2.2.2.1 (by omega) (by omega)).mono ?_
    rintro e w5 ⟨x, rfl, u1, u2, _, hr5, hg5⟩
    have hin5 := hin.picked hg5 hr5
    clear hin hr5 hg5
    by_cases hx : 0 < x
    · go_wp2_with fail
      refine (pick_any g l1 (p3 + 1) 4 _ hin5.2.2.2.1 (by omega) (by omega)).mono ?_
      rintro e w6 ⟨y, rfl, v1, v2, _, hr6, hg6⟩
      have hin6 := hin5.picked hg6 hr6
      clear hin5 hr6 hg6
      by_cases hy : y = 0
      · subst hy
        go_wp2_with fail
        refine (pick_any g l1 (p3 + 1 + 1) (N0.length : Int) _ hin6.2.2.2.1 (by omega) (by omega)).mono ?_
        rintro e w7 ⟨z, rfl, z1, z2, _, hr7, hg7⟩
        have hin7 := hin6.picked hg7 hr7
        clear hin6 hr7 hg7
        obtain ⟨j, rfl⟩ := Int.eq_ofNat_of_zero_le z1
        have hj : j < N0.length := by omega
        obtain ⟨gm, cap, hv, _, _⟩ := hin7.2.2.1.form (by omega)
        injection hv with hA _ hC
        subst hA hC
        have q7 := (hin7.2.2.1.cellAt j (by omega)).trans (cells1_get .i64 N0 j hj)
        have hb0 := HA.out j hj
        generalize gI N0 j = y0 at q7 hb0
        have l1_ : (0 : Int) ≤ (j : Int) := by omega
        have l2_ : (j : Int) < (N0.length : Int) := by omega
        have he1 : ∀ i : SW (fun v => v.cell? ⟨gm, j, none⟩ = some (.int .i64 y0)), (sw i).cell? ⟨gm, j, none⟩ = some (.int .i64 y0) := fun i => sw_is i
        go_wp2_with fail
        refine wp_region_planZ (fun v => v.cell? ⟨gm, j, none⟩ = some (.int .i64 y0)) (some 11) [([0, 1, 2, 3, 4, 5, 6], 7), ([8, 9, 10], 11)] [] (by kernel_rfl) (by kernel_rfl) q7 fun hne => ?_
        simp only [wpPlan, wpEff, effOf, opsAt, optCons, List.getElem?_toArray, List.getElem?_cons_zero, List.getElem?_cons_succ]
        repeat (go_big_quiet_step (fail))
        refine wpQuiet_nil ?_
        go_wp2_with fail
        refine (pick_any g l1 (p3 + 1 + 1 + 1) 3 _ (hin7.drewN 1).2.2.2.1 (by omega) (by omega)).mono ?_
        rintro e w8 ⟨z3, rfl, y1, y2, _, hr8, hg8⟩
        have hin8 := (hin7.drewN 1).picked hg8 hr8
        have q8 : w8.cell? ⟨gm, j, none⟩ = some (.int .i64 y0) := (World.cell?_of_block (a := ⟨gm, j, none⟩) (hg8.block gm (hin7.2.2.1.lt gm rfl).2 (fun e => by injection e with e; have := (hin7.2.2.1.lt gm rfl).1; have := hin7.2.2.2.2.2.2.1; omega))).trans q7
        have f8 := hin8.2.2.1.frozenAt j
        have sA : IntKind.i64.wrap (y0 + z3) = y0 + z3 := IntWalk.i64_in _ (by omega)
        have sB : IntKind.i64.wrap (y0 + z3 - 1) = y0 + z3 - 1 := IntWalk.i64_in _ (by omega)
        have hst := hin8.store j (y0 + z3 - 1)
        clear hr8 hg8
        go_wp2_with fail
        refine effQ_normal q8 ?_
        repeat (go_big_quiet_step (fail))
        refine wpQuiet_nil ?_
        go_wp2_with fail
        refine effQ_last (by rfl) ?_
        refine wpQuiet_nil ?_
        refine noPan_normal ?_
        go_wp2
        refine bodyPost_ret (results_tmp4 rfl _ _ _) rfl ?_
        exact ⟨A2, c2, L, lo, hi, some ⟨gm, 0, none⟩, c4, putI N0 j (y0 + z3 - 1), by rw [length_putI]; rfl, hL, by rw [length_putI]; omega, HS.out, hlo, hhi, own_base hst.1 hs1, own_base hst.2.2.1 (by omega), hst.2.2.2.2.2.2.2.2⟩
      · have hy' : (y == 0) = false := by simpa using hy
        go_wp2
        refine bodyPost_ret (results_tmp4 rfl _ _ _) rfl ?_
        exact ⟨A2, c2, L, lo, hi, A4, c4, N0, rfl, hL, by omega, HS.out, hlo, hhi, own_base hin6.1 hs1, own_base hin6.2.2.1 (by omega), hin6.2.2.2.2.2.2.2.2⟩
    · obtain rfl : x = 0 := by omega
      have hin0 := hin5.made
      clear hin5
      have s0 : IntKind.i64.wrap ((L.length : Int) - 1) = (L.length : Int) - 1 := IntWalk.i64_in _ (by omega)
      go_wp2_with fail
      go_loopw [14, 13] (fun i v wr => ∃ (k : Nat) (N : List Int) (C : Option Addr) (q p1 : Nat), k ≤ L.length ∧ i = .int .i64 k ∧ v = .slice C N.length q ∧ N.length ≤ k ∧ p1 ≤ (p3 + 1) + k ∧ InC w wr w1.heap.size w3.heap.size g l1 p1 A2 c2 L C q N) (fun i _ _ => L.length - (intOf i).toNat)
      case atStart => exact ⟨0, [], _, 0, (p3 + 1), Nat.zero_le _, rfl, rfl, Nat.le_refl _, by omega, hin0⟩
      case round =>
        obtain ⟨k, N, C, q, p1, hk, rfl, rfl, hN, hp1, hin⟩ := hrel
        clear hin0
        by_cases hlt : k < L.length
        · have hln : N.length + 1 ≤ 4294967296 := by omega
          by_cases hk1 : k + 1 = L.length
          · have g1 : ((k : Int) == (L.length : Int) - 1) = true := by simp; omega
            clear hk1
            go_wp2_with (at_builtin; refine wpList_app1_base rfl _ _ _ rfl Try.underlying22 infoI64 rfl hin.2.2.1 hin.2.2.2.2.2.2.2.1 _ _ _ rfl rfl hln ?_; intro v1 w6 o6 hg6 hat6)
            obtain ⟨C6, q6, rfl⟩ := own_shape o6
            have hin6 := (hin.alloc (.cells #[.int .i64 (k : Int)] 3)).grown hg6 o6
            exact ⟨⟨k + 1, N ++ [(k : Int)], C6, q6, p1, hlt, by go_num, rfl, by simp; omega, by omega, hin6⟩, by simp [intOf]; omega⟩
          · have g1 : ((k : Int) == (L.length : Int) - 1) = false := by simp; omega
            clear hk1
            go_wp2_with fail
            refine (pick_any g l1 p1 2 _ hin.2.2.2.1 (by omega) (by omega)).mono ?_
            rintro e w5 ⟨x, rfl, u1, u2, _, hr5, hg5⟩
            have hin5 := hin.picked hg5 hr5
            clear hin hr5 hg5
            by_cases hx : x = 0
            · subst hx
              go_wp2_with (at_builtin; refine wpList_app1_base rfl _ _ _ rfl Try.underlying22 infoI64 rfl hin5.2.2.1 hin5.2.2.2.2.2.2.2.1 _ _ _ rfl rfl hln ?_; intro v1 w6 o6 hg6 hat6)
              obtain ⟨C6, q6, rfl⟩ := own_shape o6
              have hin6 := (hin5.alloc (.cells #[.int .i64 (k : Int)] 3)).grown hg6 o6
              exact ⟨⟨k + 1, N ++ [(k : Int)], C6, q6, (p1 + 1), hlt, by go_num, rfl, by simp; omega, by omega, hin6⟩, by simp [intOf]; omega⟩
            · have hx' : (x == 0) = false := by simpa using hx
              go_wp2
              exact ⟨⟨k + 1, N, C, q, p1 + 1, hlt, by go_num, rfl, by omega, by omega, hin5⟩, by simp [intOf]; omega⟩
        · go_wp2
          refine bodyPost_ret (results_tmp4 rfl _ _ _) rfl ?_
          exact ⟨A2, c2, L, lo, hi, C, q, N, rfl, hL, by omega, HS.out, hlo, hhi, own_base hin.1 hs1, own_base hin.2.2.1 (by omega), hin.2.2.2.2.2.2.2.2⟩
set_option maxHeartbeats 2000000 in
theorem DrawCutsCost_any (A : Option Addr) (c : Nat) (l : List Int) (w : World) (hr : RdI w w.heap.size .u8 A l) (hby : ∀ x ∈ l, 0 ≤ x ∧ x ≤ 255) (hn : l.length ≤ 1048576) (hc : l.length ≤ c) (hc' : c ≤ 9223372036854775807) :
    Calls Try.prog 29 #[.slice A l.length c] w (DrawnCI w) := by
  have HB := Lib.hid hby
  clear hby
  go_enter Try.func29, Try.ntmps29
  go_wp2_with fail
  refine (DrawCutsAllowed_any A c l _ hr HB.out hn hc hc').mono ?_
  rintro e w1 ⟨A2, c2, L, lo, hi, C, q, N, rfl, hL, hN, hS, hlo, hhi, h1, h2, h3⟩
  go_wp2
  refine bodyPost_ret (results_tmp4 rfl _ _ _) rfl ?_
  exact ⟨A2, c2, L, lo, hi, C, q, N, rfl, hL, hN, hS, hlo, hhi, h1, h2, h3⟩
end Go.Proofs.Ytbdhnfligfpigaa
