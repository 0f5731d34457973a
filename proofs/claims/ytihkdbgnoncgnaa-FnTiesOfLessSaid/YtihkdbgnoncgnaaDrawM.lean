/- Contracts of the functions that draw matchings: two lists of small pairs, a number, a list of integers in new memory. No condition but the code's length. -/
import Derived.Test.YtihkdbgnoncgnaaDrawE
import Derived.Test.YtihkdbgnoncgnaaBest
import Derived.Test.YtihkdbgnoncgnaaIntsMore
import Derived.Test.YtihkdbgnoncgnaaObj
namespace Go.Proofs.Ytihkdbgnoncgnaa
open Go.RowKit

/-- What has been drawn: two lists of pairs, a list of integers, the reader. -/
def InM (w wr : World) (D g : Nat) (l : List Int) (p : Nat) (A : Option Addr) (c : Nat) (L : List (Int × Int)) (B : Option Addr) (d : Nat) (M : List (Int × Int)) (C : Option Addr) (k : Nat) (N : List Int) : Prop :=
  wr.ownsRow w.heap.size 60 2 (.slice A L.length c) L.length (cells2 L) ∧ wr.ownsRow w.heap.size 60 2 (.slice B M.length d) M.length (cells2 M) ∧
    (∀ r, (Value.slice A L.length c).ownBlock = some r → r < D) ∧ (∀ r, (Value.slice B M.length d).ownBlock = some r → r < D) ∧
    wr.ownsRow D 3 1 (.slice C N.length k) N.length (cells1 .i64 N) ∧ Rdr wr g l p ∧ w.grownBy wr (some g) ∧ D ≤ wr.heap.size
/-- Two lists of at most seven small pairs, a number and a list of integers in new memory. -/
def GotM (w : World) (g : Nat) (l : List Int) (p dp : Nat) (e : Ending) (w' : World) : Prop :=
  ∃ A c L B d M t C k N p' D, e = .returned (.tuple #[.slice A L.length c, .slice B M.length d, .int .i64 t, .slice C N.length k]) ∧ L.length ≤ 7 ∧ M.length ≤ 7 ∧ N.length ≤ 9 ∧ (-1 ≤ t ∧ t ≤ 1001) ∧ w.heap.size ≤ D ∧
    InM w w' D g l p' A c L B d M C k N ∧ p' ≤ p + dp
section
variable {w wr w' : World} {D g : Nat} {l : List Int} {p : Nat} {A : Option Addr} {c : Nat} {L : List (Int × Int)} {B : Option Addr} {d : Nat} {M : List (Int × Int)} {C : Option Addr} {k : Nat} {N : List Int}
theorem InM.picked (h : InM w wr D g l p A c L B d M C k N) (hg : g < w.heap.size) (hD : w.heap.size ≤ D) (hg5 : wr.grownBy w' (some g)) (hr : Rdr w' g l (p + 1)) : InM w w' D g l (p + 1) A c L B d M C k N := by
  obtain ⟨h1, h2, h3, h4, h5, h6, h7, h9⟩ := h
  exact ⟨h1.kept hg5 (.inr (fun e => by have := (h1.lt _ e).1; omega)), h2.kept hg5 (.inr (fun e => by have := (h2.lt _ e).1; omega)), h3, h4, h5.kept hg5 (.inr (fun e => by have := (h5.lt _ e).1; omega)), hr, grownBy_then h7 hg5 (fun j e => .inr e), Nat.le_trans h9 hg5.size⟩
theorem InM.store {gm : Nat} (h : InM w wr D g l p A c L B d M (some ⟨gm, 0, none⟩) k N) (hg : g < w.heap.size) (hD : w.heap.size ≤ D) (j : Nat) (x : Int) :
    InM w (wr.setCell ⟨gm, j, none⟩ (.int .i64 x)) D g l p A c L B d M (some ⟨gm, 0, none⟩) k (putI N j x) ∧ D ≤ gm := by
  obtain ⟨h1, h2, h3, h4, h5, h6, h7, h9⟩ := h
  have hb := (h5.lt gm rfl).1
  have hgr := grownBy_set (grownBy_refl wr (some gm)) j (.int .i64 x)
  obtain ⟨h8, _⟩ := h5.stored j (.int .i64 x)
  rw [← cells1_putI, ← length_putI N j x] at h8
  refine ⟨⟨h1.kept hgr (.inr (fun e => by have := h3 _ e; omega)), h2.kept hgr (.inr (fun e => by have := h4 _ e; omega)), h3, h4, ?_, h6.far (q := ⟨gm, _, none⟩) (by show g < gm; omega) _, grownBy_setFar (p := ⟨gm, _, none⟩) h7 (by show w.heap.size ≤ gm; omega) _, by simpa [World.setCell] using h9⟩, hb⟩
  rw [length_putI] at h8 ⊢
  exact h8
theorem InM.alloc (h : InM w wr D g l p A c L B d M C k N) (o : Obj) : InM w (wr.alloc o) D g l p A c L B d M C k N := by
  obtain ⟨h1, h2, h3, h4, h5, h6, h7, h9⟩ := h
  exact ⟨h1.alloc o, h2.alloc o, h3, h4, h5.alloc o, h6.alloc o, grownBy_alloc h7 o, by simp; omega⟩

theorem InM.grown {C' : Option Addr} {k' : Nat} {N' : List Int} (h : InM w wr D g l p A c L B d M C k N) (hg : g < w.heap.size) (hD : w.heap.size ≤ D) (hgr : wr.grownBy w' (Value.slice C N.length k).ownBlock)
    (ho : w'.ownsRow D 3 1 (.slice C' N'.length k') N'.length (cells1 .i64 N')) : InM w w' D g l p A c L B d M C' k' N' := by
  obtain ⟨h1, h2, h3, h4, h5, h6, h7, h9⟩ := h
  refine ⟨h1.kept hgr ?_, h2.kept hgr ?_, h3, h4, ho, h6.grown hgr (fun q e => by have := (h5.lt q e).1; omega), grownBy_then h7 hgr (fun q e => .inl (by have := (h5.lt q e).1; omega)), Nat.le_trans h9 hgr.size⟩
  · cases hb : (Value.slice A L.length c).ownBlock with
    | none => exact .inl rfl
    | some r => exact .inr (fun e => by have := h3 r hb; have := (h5.lt r e.symm).1; omega)
  · cases hb : (Value.slice B M.length d).ownBlock with
    | none => exact .inl rfl
    | some r => exact .inr (fun e => by have := h4 r hb; have := (h5.lt r e.symm).1; omega)
end
set_option maxRecDepth 100000 in
set_option maxHeartbeats 4000000 in
theorem l92Match_any (g : Nat) (l : List Int) (p : Nat) (w : World) (hr : Rdr w g l p) (hp : p ≤ 5000) :
    Calls Try.prog 45 #[.pointer (some ⟨g, 0, none⟩)] w (GotM w g l p 100) := by
  have hg := hr.lt
  go_enter Try.func45, Try.ntmps45
  go_wp2_with fail
  refine (l92Pair_any g l p _ hr hp).mono ?_
  rintro e w1 ⟨AL, cL, L, AM, cM, M, t, p1, rfl, hL, hM, hsL, hsM, ⟨ht0, ht1⟩, oL, oM, hr1, hp1, hG1⟩
  clear hr hsL hsM
  have sz1 := hG1.size
  have rL := Rd.of_own oL
  have rM := Rd.of_own oM
  go_wp2_with fail
  refine (specMatchBest_any AL AM cL cM L M t _ rL rM (by omega) (by omega)).mono ?_
  rintro e w2 ⟨A1, c1, rfl, oN, b2⟩
  have hbl := bestV_len L M t
  have hin : InM w w2 w1.heap.size g l p1 AL cL L AM cM M A1 c1 (bestV L M t) := ⟨own_keep oL b2, own_keep oM b2, fun r e => (oL.lt r e).2, fun r e => (oM.lt r e).2, oN, hr1.below b2 hr1.lt, grownBy_then hG1 (grownBy_of_below b2 (some g)) (fun j e => .inr e), b2.size⟩
  have sz2 := b2.size
  clear oL oM oN hr1 hG1 b2 rL rM
  cases hok : mtb L M t with
  | false =>
    have hmk := run_make1 (P := Try.prog) Try.underlying42 infoI64 (by omega) L.length (by omega)
    go_wp2_with fail
    refine wp_region_plan (fun _ => True) [([0, 1, 2, 3, 4, 6, 7, 8], 5)] [9] (by kernel_rfl) (by kernel_rfl) trivial fun hne => ?_
    simp only [wpPlan, wpEff, effOf, opsAt, optCons, List.getElem?_toArray, List.getElem?_cons_zero, List.getElem?_cons_succ]
    repeat (go_big_quiet_step (fail))
    refine wpQuiet_nil ?_
    go_wp2
    refine effQ_normal trivial ?_
    repeat (go_big_quiet_step (fail))
    refine wpQuiet_nil ?_
    refine noPan_normal ?_
    go_wp2
    refine bodyPost_ret (results_tmp4 rfl _ _ _) rfl ?_
    have hrow : ((w2.drewN 1).alloc (.cells (madeCells #[.int .i64 0] L.length) 3)).rowIs w2.heap.size 3 (List.replicate L.length (0 : Int)).length (fun j => .int .i64 (gI (List.replicate L.length (0 : Int)) j)) := by
      refine ⟨_, heap_alloc_new _ _, by rw [size_madeCells, List.length_replicate], fun i hi => ?_⟩
      rw [List.length_replicate] at hi
      simp [madeCells, hi, Nat.mod_one, gI]
    have hsz := hin.2.2.2.2.2.2.1.size
    have hlr : (List.replicate L.length (0 : Int)).length = L.length := List.length_replicate
    refine ⟨AL, cL, L, AM, cM, M, t, some ⟨w2.heap.size, 0, none⟩, L.length, List.replicate L.length 0, p1, w1.heap.size, ?_, hL, hM, by rw [hlr]; omega, ⟨ht0, ht1⟩, sz1, ?_, by omega⟩
    · rw [hlr]; rfl
    · have hx := hin.alloc (.cells (madeCells #[.int .i64 0] L.length) 3)
      obtain ⟨h1, h2, h3, h4, h5, h6, h7, h9⟩ := hx
      have hz : w1.heap.size ≤ w2.heap.size := sz2
      have ho := own1_of_row (base := w1.heap.size) hrow hz (by rw [hlr]; omega)
      rw [hlr] at ho
      refine ⟨h1, h2, h3, h4, ?_, h6, grownBy_drewN h7 1, h9⟩
      rw [hlr]; exact ho
  | true =>
    generalize bestV L M t = N0 at hin hbl ⊢
    go_wp2_with fail
    go_loopw [11] (fun i wr => ∃ (k : Nat) (N : List Int) (p2 : Nat), k ≤ N0.length ∧ i = .int .i64 k ∧ N.length = N0.length ∧ p2 ≤ p1 + 2 * k ∧ InM w wr w1.heap.size g l p2 AL cL L AM cM M A1 c1 N) (fun i _ => N0.length - (intOf i).toNat)
    case atStart => exact ⟨0, N0, p1, Nat.zero_le _, rfl, rfl, by omega, hin⟩
    case round =>
      obtain ⟨k, N, p2, hk, rfl, hN, hp2, hin⟩ := hrel
      have HN := Lib.hid hN
      have hN1 : N.length ≤ N0.length := by omega
      have hN2 : N0.length ≤ N.length := by omega
      clear hN
      by_cases hlt : k < N0.length
      · have l1 : (0 : Int) ≤ (k : Int) := by omega
        have l2 : (k : Int) < (N0.length : Int) := by omega
        go_wp2_with fail
        refine (pick_any g l p2 12 _ hin.2.2.2.2.2.1 (by omega) (by omega)).mono ?_
        rintro e w5 ⟨y, rfl, u1, u2, _, hr5, hg5⟩
        have hin5 := hin.picked hg sz1 hg5 hr5
        clear hin hr5 hg5
        obtain ⟨gm, cap, hv, _, _⟩ := hin5.2.2.2.2.1.form (by omega)
        injection hv with hA _ hC
        subst hC
        by_cases hy : y = 0 ∨ y = 1
        · subst hA
          have q1 := (hin5.2.2.2.2.1.cellAt k (by omega)).trans (cells1_get .i64 N k (by omega))
          have f1 := hin5.2.2.2.2.1.frozenAt k
          have hst := (hin5.store hg sz1 k (-1)).1
          rcases hy with rfl | rfl
          all_goals
            go_wp2
            exact ⟨⟨k + 1, putI N k (-1), p2 + 1, hlt, by go_num, by rw [length_putI, HN.out], by omega, hst⟩, by simp [intOf]; omega⟩
        · have g1 : (y == 0) = false := by simp; omega
          have g2 : (y == 1) = false := by simp; omega
          by_cases hy2 : y = 2
          · subst hy2
            clear g1 g2 hy
            go_wp2_with fail
            refine (pick_any g l (p2 + 1) ((M.length : Int) + 2) _ hin5.2.2.2.2.2.1 (by omega) (by omega)).mono ?_
            rintro e w7 ⟨z, rfl, v1, v2, _, hr7, hg7⟩
            have hin7 := hin5.picked hg sz1 hg7 hr7
            clear hin5 hr7 hg7
            subst hA
            have q1 := (hin7.2.2.2.2.1.cellAt k (by omega)).trans (cells1_get .i64 N k (by omega))
            have f1 := hin7.2.2.2.2.1.frozenAt k
            have s1 : IntKind.i64.wrap (z - 1) = z - 1 := IntWalk.i64_in _ (by omega)
            have hst := (hin7.store hg sz1 k (z - 1)).1
            go_wp2
            exact ⟨⟨k + 1, putI N k (z - 1), p2 + 2, hlt, by go_num, by rw [length_putI, HN.out], by omega, hst⟩, by simp [intOf]; omega⟩
          · have g3 : (y == 2) = false := by simp; omega
            clear hA
            go_wp2
            exact ⟨⟨k + 1, N, p2 + 1, hlt, by go_num, HN.out, by omega, hin5⟩, by simp [intOf]; omega⟩
      · obtain rfl : k = N0.length := by omega
        go_wp2_with fail
        refine (pick_any g l p2 24 _ hin.2.2.2.2.2.1 (by omega) (by omega)).mono ?_
        rintro e w5 ⟨y, rfl, u1, u2, _, hr5, hg5⟩
        have hin5 := hin.picked hg sz1 hg5 hr5
        clear hin hr5 hg5
        by_cases hy : y = 0
        · subst hy
          have h5 : w5.ownsRow w1.heap.size 3 1 (.slice A1 N0.length c1) N.length (cells1 .i64 N) := by have h := hin5.2.2.2.2.1; rw [HN.out] at h ⊢; exact h
          have hz5 : w1.heap.size ≤ w5.heap.size := hin5.2.2.2.2.2.2.2
          have hln : N.length + 1 ≤ 4294967296 := by omega
          go_wp2_with (at_builtin; refine wpList_app1_base rfl _ _ _ rfl Try.underlying42 infoI64 rfl h5 hz5 _ _ _ rfl rfl hln ?_; intro v1 w6 o6 hg6 hat6)
          refine bodyPost_ret (results_tmp4 rfl _ _ _) rfl ?_
          obtain ⟨A2, c2, rfl⟩ := own_shape o6
          have hfin := (hin5.alloc (.cells #[.int .i64 (-1)] 3)).grown hg sz1 (by rw [HN.out]; exact hg6) o6
          exact ⟨AL, cL, L, AM, cM, M, t, A2, c2, N ++ [-1], p2 + 1, w1.heap.size, rfl, hL, hM, by simp; omega, ⟨ht0, ht1⟩, sz1, hfin, by omega⟩
        · have hy' : (y == 0) = false := by simpa using hy
          go_wp2
          refine bodyPost_ret (results_tmp4 rfl _ _ _) rfl ?_
          exact ⟨AL, cL, L, AM, cM, M, t, A1, c1, N, p2 + 1, w1.heap.size, by rw [HN.out]; rfl, hL, hM, by omega, ⟨ht0, ht1⟩, sz1, hin5, by omega⟩

/-- Two lists of small pairs, a number and a list of integers in new memory. -/
def DrawnM (w : World) (e : Ending) (w' : World) : Prop :=
  ∃ A c L B d M t C k N, e = .returned (.tuple #[.slice A L.length c, .slice B M.length d, .int .i64 t, .slice C N.length k]) ∧ L.length ≤ 7 ∧ M.length ≤ 7 ∧ N.length ≤ 9 ∧ (-1 ≤ t ∧ t ≤ 1001) ∧
    w'.ownsRow w.heap.size 60 2 (.slice A L.length c) L.length (cells2 L) ∧ w'.ownsRow w.heap.size 60 2 (.slice B M.length d) M.length (cells2 M) ∧ w'.ownsRow w.heap.size 3 1 (.slice C N.length k) N.length (cells1 .i64 N) ∧ Below w.heap.size w w'


set_option maxHeartbeats 1000000 in
theorem DrawTiesOf_any (A : Option Addr) (c : Nat) (l : List Int) (w : World) (hr : RdI w w.heap.size .u8 A l) (hby : ∀ x ∈ l, 0 ≤ x ∧ x ≤ 255) (hn : l.length ≤ 1048576) (hc : l.length ≤ c) (hc' : c ≤ 9223372036854775807) :
    Calls Try.prog 30 #[.slice A l.length c] w (DrawnM w) := by
  have HB := Lib.hid hby
  clear hby
  go_enter Try.func30, Try.ntmps30
  go_wp2_with fail
  refine (open_any A c l _ hr HB.out hn hc hc').mono ?_
  rintro e w1 ⟨g, l1, rfl, hg, hrd, hb1⟩
  go_wp2_with fail
  refine (l92Match_any g l1 0 _ hrd (by omega)).mono ?_
  rintro e w2 ⟨A2, c2, L, B2, d2, M, t, C2, k2, N, p2, D, rfl, hL, hM, hN, ht, hD, ⟨oL, oM, _, _, oN, hr2, hG, _⟩, hp2⟩
  have hb2 := below_of_two hb1 hG hg
  have oL2 := own_base oL hb1.size
  have oM2 := own_base oM hb1.size
  have oN2 := own_base oN (Nat.le_trans hb1.size hD)
  clear hb1 hG hrd oL oM oN hr2
  go_wp2
  refine bodyPost_ret (results_tmp4 rfl _ _ _) rfl ?_
  exact ⟨A2, c2, L, B2, d2, M, t, C2, k2, N, rfl, hL, hM, hN, ht, oL2, oM2, oN2, hb2⟩

end Go.Proofs.Ytihkdbgnoncgnaa
