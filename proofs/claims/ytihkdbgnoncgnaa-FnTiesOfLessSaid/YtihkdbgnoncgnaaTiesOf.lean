/- Contracts of TiesOf, in the program and in the reference. No condition but that the lists have at most 1048576 elements. -/
import Derived.Test.YtihkdbgnoncgnaaMany
import Derived.Test.YtihkdbgnoncgnaaMatTop
import Derived.Test.YtihkdbgnoncgnaaPairTie
namespace Go.Proofs.Ytihkdbgnoncgnaa
open Go.RowKit

/-- The pairs of the first k events as pairs of depths. -/
def tieTo (a b : List (Int × Int)) (ms : List Int) : Nat → List (Int × Int)
  | 0 => []
  | k + 1 => if 0 ≤ gI ms k then tieTo a b ms k ++ [(fA a k, fA b (gI ms k).toNat)] else tieTo a b ms k
def tieV (a b : List (Int × Int)) (t : Int) (ms : List Int) : List (Int × Int) := if okV a b t ms then tieTo a b ms ms.length else []
theorem tieV_yes {a b : List (Int × Int)} {t : Int} {ms : List Int} (h : okV a b t ms = true) : tieV a b t ms = tieTo a b ms ms.length := by unfold tieV; rw [if_pos h]
theorem tieV_no {a b : List (Int × Int)} {t : Int} {ms : List Int} (h : okV a b t ms = false) : tieV a b t ms = [] := by unfold tieV; rw [h]; rfl
theorem tieTo_len (a b : List (Int × Int)) (ms : List Int) (k : Nat) : (tieTo a b ms k).length ≤ k := by
  induction k with
  | zero => exact Nat.le_refl _
  | succ k ih => rw [tieTo]; split <;> (try simp) <;> omega
theorem tieTo_prs (a b : List (Int × Int)) (ms : List Int) (k : Nat) (hk : k ≤ ms.length) : (tieTo a b ms k).length = prs (ms.take k) := by
  induction k with
  | zero => rfl
  | succ k ih =>
    rw [tieTo, prs_take ms k (by omega)]
    split
    · simp [ih (by omega)]
    · simp [ih (by omega)]
theorem tieV_len (a b : List (Int × Int)) (t : Int) (ms : List Int) : (tieV a b t ms).length ≤ 8 := by
  unfold tieV
  split
  · rename_i h
    obtain ⟨_, _, h3, h4, _⟩ := okV_parts h
    have := tieTo_len a b ms ms.length
    omega
  · simp

set_option maxRecDepth 100000 in
set_option maxHeartbeats 2000000 in
theorem tiesOf_any (A B C : Option Addr) (ca cb cc : Nat) (a b : List (Int × Int)) (t : Int) (ms : List Int) (w : World) (hr : Rd w w.heap.size A a) (hs : Rd w w.heap.size B b) (hq : RdI w w.heap.size .i64 C ms) (hn : a.length ≤ 1048576) (hm : b.length ≤ 1048576) :
    Calls Try.prog 31 #[.slice A a.length ca, .slice B b.length cb, .int .i64 t, .slice C ms.length cc] w (RetSB w 40 (tieV a b t ms) (okV a b t ms)) := by
  go_enter Try.func31, Try.ntmps31
  go_wp2_with fail
  refine (matchOk_any A B C ca cb cc a b t ms _ hr hs hq hn hm).mono ?_
  rintro e w1 ⟨rfl, h1⟩
  have acc1 : Acc2 w w1 40 (.slice none 0 0) [] := ⟨World.ownsRow_nil _ _ _ _, h1⟩
  cases hv : okV a b t ms with
  | false =>
    go_wp2
    go_ret2
    rw [tieV_no hv, hv]
    exact ⟨_, 0, rfl, acc1.1, acc1.2⟩
  | true =>
    obtain ⟨_, _, hl, hl8, hb8⟩ := okV_parts hv
    have hms : ms.length ≤ 8 := by omega
    have hma : ms.length ≤ a.length := by omega
    have HV := Lib.hid hv
    have EA := Lib.hid (fun i (hi : i < a.length) => okV_at hv hi)
    clear hv hl
    go_wp2_with fail
    go_loopw [21, 10] (fun i v wr => ∃ k : Nat, k ≤ ms.length ∧ i = .int .i64 k ∧ Acc2 w wr 40 v (tieTo a b ms k)) (fun i _ _ => ms.length - (intOf i).toNat)
    case atStart => exact ⟨0, Nat.zero_le _, rfl, acc1⟩
    case round =>
      obtain ⟨k, hk, rfl, hacc⟩ := hrel
      clear acc1
      by_cases hlt : k < ms.length
      · obtain ⟨bm, om, hC, hCB, hcC⟩ := (hq.below hacc.2) (by omega)
        obtain ⟨bA, oA, hA, hAB, hcA⟩ := hr (by omega)
        subst hA hC
        have e0 := hcC k hlt
        have q1 := (hcA k (by omega)).1
        have q0 := hcC k hlt
        have l1 : (k : Int) < (a.length : Int) := by omega
        have l2 : (k : Int) < (ms.length : Int) := by omega
        have l3 : (0 : Int) ≤ (k : Int) := by omega
        have htl := tieTo_len a b ms k
        clear hcA hcC
        rcases EA.out k (by omega) with hneg | ⟨hn1, hn2⟩
        · have hs1 : tieTo a b ms (k + 1) = tieTo a b ms k := by rw [tieTo, if_neg (by omega)]
          have HS := Lib.hid hs1
          rw [hneg] at e0
          clear hs1 hneg q0
          go_wp2
          exact ⟨⟨k + 1, hlt, by go_num, by rw [HS.out]; exact hacc⟩, by simp [intOf]; omega⟩
        · obtain ⟨p, hp⟩ := Int.eq_ofNat_of_zero_le hn1
          have hs1 : tieTo a b ms (k + 1) = tieTo a b ms k ++ [(fA a k, fA b p)] := by rw [tieTo, if_pos hn1, hp, Int.toNat_natCast]
          have HS := Lib.hid hs1
          rw [hp] at e0 hn2 q0
          have hpb : p < b.length := by omega
          obtain ⟨bB, oB, hB, hBB, hcB⟩ := hs (by omega)
          subst hB
          have q2 := (hcB p hpb).1
          have l4 : (0 : Int) ≤ (p : Int) := by omega
          have l5 : (p : Int) < (b.length : Int) := by omega
          have l6 : decide (0 ≤ (p : Int)) = true := decide_eq_true l4
          have hln : (tieTo a b ms k).length + 1 ≤ 4294967296 := by omega
          clear hs1 hp hn1 hcB
          go_wp2_with fail
          have he1 : ∀ i : SW (Below w.heap.size w), (sw i).cell? ⟨bA, oA + k * 2, none⟩ = some (.int .i64 (fA a k)) := fun i => ((sw_is i).cell (p := ⟨bA, _, none⟩) hAB).trans q1
          have he2 : ∀ i : SW (Below w.heap.size w), (sw i).cell? ⟨bB, oB + p * 2, none⟩ = some (.int .i64 (fA b p)) := fun i => ((sw_is i).cell (p := ⟨bB, _, none⟩) hBB).trans q2
          refine wp_region_plan (Below w.heap.size w) [([0, 1, 2, 3, 4, 5, 6, 7, 8, 9, 10, 11], 12), ([], 13)] [14] (by kernel_rfl) (by kernel_rfl) (below_drewN hacc.2 1) fun hne => ?_
          simp only [wpPlan, wpEff, effOf, opsAt, optCons, List.getElem?_toArray, List.getElem?_cons_zero, List.getElem?_cons_succ]
          repeat (go_big_quiet_step (fail))
          refine wpQuiet_nil ?_
          go_wp2
          refine effQ_normal ((hacc.drewN 1).alloc _).2 ?_
          refine wpQuiet_nil ?_
          go_wp2_with (at_builtin; refine wpList_app2 rfl _ _ _ rfl Try.underlying23 infoTie rfl (hacc.drewN 1) _ _ _ _ (by simp) rfl hln ?_; intro v1 w2 hacc1)
          refine effQ_normal hacc1.2 ?_
          repeat (go_big_quiet_step (fail))
          refine wpQuiet_nil ?_
          refine noPan_normal ?_
          go_wp2
          exact ⟨⟨k + 1, hlt, by go_num, by rw [HS.out]; exact hacc1⟩, by simp [intOf]; omega⟩
      · obtain rfl : k = ms.length := by omega
        go_wp2
        go_ret2
        obtain ⟨A1, c1, rfl⟩ := hacc.shape
        rw [← tieV_yes HV.out] at hacc
        refine ⟨A1, c1, ?_, hacc⟩
        rw [tieV_yes HV.out, HV.out]; rfl

set_option maxRecDepth 100000 in
set_option maxHeartbeats 2000000 in
theorem specTiesOf_any (A B C : Option Addr) (ca cb cc : Nat) (a b : List (Int × Int)) (t : Int) (ms : List Int) (w : World) (hr : Rd w w.heap.size A a) (hs : Rd w w.heap.size B b) (hq : RdI w w.heap.size .i64 C ms) (hn : a.length ≤ 1048576) (hm : b.length ≤ 1048576) :
    Calls Try.prog 32 #[.slice A a.length ca, .slice B b.length cb, .int .i64 t, .slice C ms.length cc] w (RetSB w 40 (tieV a b t ms) (okV a b t ms)) := by
  have b0 : Below w.heap.size w (w.alloc (.cells #[] 40)) := (Below.refl _ _).alloc (Nat.le_refl _) _
  have acc0 : Acc2 w (w.alloc (.cells #[] 40)) 40 (.slice (some ⟨w.heap.size, 0, none⟩) 0 0) [] := ⟨World.ownsRow_made w #[] 0 (Nat.le_refl _) (by decide) rfl, b0⟩
  go_enter Try.func32, Try.ntmps32
  go_wp2_with fail
  refine (specMatchOk_any A B C ca cb cc a b t ms _ (hr.to b0) (hs.to b0) (hq.to b0) hn hm).mono ?_
  rintro e w1 ⟨rfl, h1⟩
  have acc1 := acc0.below h1
  cases hv : okV a b t ms with
  | false =>
    go_wp2
    go_ret2
    rw [tieV_no hv, hv]
    exact ⟨_, 0, rfl, acc1.1, acc1.2⟩
  | true =>
    obtain ⟨_, _, hl, hl8, hb8⟩ := okV_parts hv
    have hms : ms.length ≤ 8 := by omega
    have hma : ms.length ≤ a.length := by omega
    have HV := Lib.hid hv
    have EA := Lib.hid (fun i (hi : i < a.length) => okV_at hv hi)
    clear hv hl
    go_wp2_with fail
    go_loopw [11, 10] (fun i v wr => ∃ k : Nat, k ≤ ms.length ∧ i = .int .i64 k ∧ Acc2 w wr 40 v (tieTo a b ms k)) (fun i _ _ => ms.length - (intOf i).toNat)
    case atStart => exact ⟨0, Nat.zero_le _, rfl, acc1⟩
    case round =>
      obtain ⟨k, hk, rfl, hacc⟩ := hrel
      clear acc1 acc0
      by_cases hlt : k < ms.length
      · obtain ⟨bm, om, hC, hCB, hcC⟩ := (hq.below hacc.2) (by omega)
        obtain ⟨bA, oA, hA, hAB, hcA⟩ := hr (by omega)
        subst hA hC
        have e0 := hcC k hlt
        have q1 := (hcA k (by omega)).1
        have q0 := hcC k hlt
        have l1 : (k : Int) < (a.length : Int) := by omega
        have l2 : (k : Int) < (ms.length : Int) := by omega
        have l3 : (0 : Int) ≤ (k : Int) := by omega
        have htl := tieTo_len a b ms k
        clear hcA hcC
        rcases EA.out k (by omega) with hneg | ⟨hn1, hn2⟩
        · have hs1 : tieTo a b ms (k + 1) = tieTo a b ms k := by rw [tieTo, if_neg (by omega)]
          have HS := Lib.hid hs1
          rw [hneg] at e0
          clear hs1 hneg q0
          go_wp2
          exact ⟨⟨k + 1, hlt, by go_num, by rw [HS.out]; exact hacc⟩, by simp [intOf]; omega⟩
        · obtain ⟨p, hp⟩ := Int.eq_ofNat_of_zero_le hn1
          have hs1 : tieTo a b ms (k + 1) = tieTo a b ms k ++ [(fA a k, fA b p)] := by rw [tieTo, if_pos hn1, hp, Int.toNat_natCast]
          have HS := Lib.hid hs1
          rw [hp] at e0 hn2 q0
          have hpb : p < b.length := by omega
          obtain ⟨bB, oB, hB, hBB, hcB⟩ := hs (by omega)
          subst hB
          have q2 := (hcB p hpb).1
          have l4 : (0 : Int) ≤ (p : Int) := by omega
          have l5 : (p : Int) < (b.length : Int) := by omega
          have l6 : decide (0 ≤ (p : Int)) = true := decide_eq_true l4
          have hln : (tieTo a b ms k).length + 1 ≤ 4294967296 := by omega
          clear hs1 hp hn1 hcB
          go_wp2_with fail
          have he1 : ∀ i : SW (Below w.heap.size w), (sw i).cell? ⟨bA, oA + k * 2, none⟩ = some (.int .i64 (fA a k)) := fun i => ((sw_is i).cell (p := ⟨bA, _, none⟩) hAB).trans q1
          have he2 : ∀ i : SW (Below w.heap.size w), (sw i).cell? ⟨bB, oB + p * 2, none⟩ = some (.int .i64 (fA b p)) := fun i => ((sw_is i).cell (p := ⟨bB, _, none⟩) hBB).trans q2
          have he3 : ∀ i : SW (Below w.heap.size w), (sw i).cell? ⟨bm, om + k, none⟩ = some (.int .i64 (p : Int)) := fun i => ((sw_is i).cell (p := ⟨bm, _, none⟩) hCB).trans ((hacc.2.cell (p := ⟨bm, _, none⟩) hCB).symm.trans q0)
          refine wp_region_plan (Below w.heap.size w) [([0, 1, 2, 3, 4, 5, 6, 7, 8, 9, 10, 11, 12, 13, 14], 15), ([], 16)] [17] (by kernel_rfl) (by kernel_rfl) (below_drewN hacc.2 1) fun hne => ?_
          simp only [wpPlan, wpEff, effOf, opsAt, optCons, List.getElem?_toArray, List.getElem?_cons_zero, List.getElem?_cons_succ]
          repeat (go_big_quiet_step (fail))
          refine wpQuiet_nil ?_
          go_wp2
          refine effQ_normal ((hacc.drewN 1).alloc _).2 ?_
          refine wpQuiet_nil ?_
          go_wp2_with (at_builtin; refine wpList_app2 rfl _ _ _ rfl Try.underlying23 infoTie rfl (hacc.drewN 1) _ _ _ _ (by simp) rfl hln ?_; intro v1 w2 hacc1)
          refine effQ_normal hacc1.2 ?_
          repeat (go_big_quiet_step (fail))
          refine wpQuiet_nil ?_
          refine noPan_normal ?_
          go_wp2
          exact ⟨⟨k + 1, hlt, by go_num, by rw [HS.out]; exact hacc1⟩, by simp [intOf]; omega⟩
      · obtain rfl : k = ms.length := by omega
        go_wp2
        go_ret2
        obtain ⟨A1, c1, rfl⟩ := hacc.shape
        rw [← tieV_yes HV.out] at hacc
        refine ⟨A1, c1, ?_, hacc⟩
        rw [tieV_yes HV.out, HV.out]; rfl

end Go.Proofs.Ytihkdbgnoncgnaa
