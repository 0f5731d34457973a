/- Contracts of TiesTurn, in the program and in the reference. No condition but that the list has at most 1048576 elements. -/
import Derived.Test.YtjeghfhgamfmdaaTv
import Derived.Test.YtjeghfhgamfmdaaPlan
import Derived.Test.YtjeghfhgamfmdaaPairTie
namespace Go.Proofs.Ytjeghfhgamfmdaa
open Go.RowKit


set_option maxHeartbeats 1000000 in
theorem tiesTurn_any (A : Option Addr) (c : Nat) (l : List (Int × Int)) (w : World) (hr : Rd w w.heap.size A l) (hn : l.length ≤ 1048576) :
    Calls Try.prog 21 #[.slice A l.length c] w (RetSB w 32 (turnL l) (tv l)) := by
  cases ht : tv l with
  | false =>
    go_enter Try.func21, Try.ntmps21
    go_wp2_with (go_at_call 17; refine (tiesValid_any A c l _ hr hn).mono ?_; rintro e w1 ⟨rfl, hb⟩)
    go_ret2
    have e : turnL l = [] := by simp [turnL, ht]
    rw [e]
    exact ⟨none, 0, rfl, World.ownsRow_nil _ _ _ _, hb⟩
  | true =>
    have e : turnL l = swapL l := by simp [turnL, ht]
    have HE := Lib.hid e
    clear e
    go_enter Try.func21, Try.ntmps21
    go_wp2_with (go_at_call 17; refine (tiesValid_any A c l _ hr hn).mono ?_; rintro e w1 ⟨rfl, hb⟩)
    clear ht
    go_loopw [12, 4] (fun i v wr => ∃ k : Nat, k ≤ l.length ∧ i = .int .i64 k ∧ Acc2 w wr 32 v (swapL (l.take k))) (fun i _ _ => l.length - (intOf i).toNat)
    case atStart => exact ⟨0, Nat.zero_le _, rfl, World.ownsRow_nil _ _ _ _, hb⟩
    case round =>
      obtain ⟨k, hk, rfl, hacc⟩ := hrel
      by_cases hlt : k < l.length
      · obtain ⟨b, o, rfl, hB, hcs⟩ := hr (by omega)
        have e1 : wr.cell? ⟨b, o + k * 2, none⟩ = some (.int .i64 (fA l k)) := (hacc.2.cell (p := ⟨b, _, none⟩) hB).trans (hcs k hlt).1
        have e2 : wr.cell? ⟨b, o + k * 2 + 1, none⟩ = some (.int .i64 (fB l k)) := (hacc.2.cell (p := ⟨b, _, none⟩) hB).trans (hcs k hlt).2
        have hln : (swapL (l.take k)).length + 1 ≤ 4294967296 := by rw [length_swapL, List.length_take]; omega
        clear hcs hr
        go_wp2_with (at_builtin; refine wpList_app2 rfl _ _ _ rfl Try.underlying25 infoTie rfl (hacc.alloc _) _ _ _ _ (by simp) rfl hln ?_; intro v1 w2 hacc1)
        exact ⟨⟨k + 1, hlt, by go_num, by rw [swapL_take l k hlt]; exact hacc1⟩, by simp [intOf]; omega⟩
      · clear hr
        go_wp2
        go_ret2
        obtain ⟨A1, c1, rfl⟩ := hacc.shape
        have e : swapL (l.take k) = turnL l := by rw [List.take_of_length_le (by omega), HE.out]
        rw [e] at hacc
        refine ⟨A1, c1, ?_, hacc⟩
        rw [← e]; rfl

set_option maxHeartbeats 1000000 in
theorem specTiesTurn_any (A : Option Addr) (c : Nat) (l : List (Int × Int)) (w : World) (hr : Rd w w.heap.size A l) (hn : l.length ≤ 1048576) :
    Calls Try.prog 22 #[.slice A l.length c] w (RetSB w 32 (turnL l) (tv l)) := by
  have hb0 : Below w.heap.size w (w.alloc (.cells #[] 32)) := (Below.refl _ _).alloc (Nat.le_refl _) _
  have hacc0 : Acc2 w (w.alloc (.cells #[] 32)) 32 (.slice (some ⟨w.heap.size, 0, none⟩) 0 0) [] := ⟨World.ownsRow_made w #[] 0 (Nat.le_refl _) (by decide) rfl, hb0⟩
  cases ht : tv l with
  | false =>
    go_enter Try.func22, Try.ntmps22
    go_wp2_with (go_at_call 15; refine (specTiesValid_any A c l _ (hr.to hb0) hn).mono ?_; rintro e w1 ⟨rfl, hb⟩)
    go_ret2
    have e : turnL l = [] := by simp [turnL, ht]
    rw [e]
    exact ⟨_, 0, rfl, (hacc0.below hb).1, (hacc0.below hb).2⟩
  | true =>
    have e : turnL l = swapL l := by simp [turnL, ht]
    have HE := Lib.hid e
    clear e
    go_enter Try.func22, Try.ntmps22
    go_wp2_with (go_at_call 15; refine (specTiesValid_any A c l _ (hr.to hb0) hn).mono ?_; rintro e w1 ⟨rfl, hb⟩)
    clear ht
    have hacc1 := hacc0.below hb
    clear hb hacc0 hb0
    go_loopw [5, 4] (fun i v wr => ∃ k : Nat, k ≤ l.length ∧ i = .int .i64 k ∧ Acc2 w wr 32 v (swapL (l.take k))) (fun i _ _ => l.length - (intOf i).toNat)
    case atStart => exact ⟨0, Nat.zero_le _, rfl, hacc1⟩
    case round =>
      obtain ⟨k, hk, rfl, hacc⟩ := hrel
      by_cases hlt : k < l.length
      · obtain ⟨b, o, rfl, hB, hcs⟩ := hr (by omega)
        obtain ⟨q1, q2⟩ := hcs k hlt
        have hln : (swapL (l.take k)).length + 1 ≤ 4294967296 := by rw [length_swapL, List.length_take]; omega
        have hkz : (0 : Int) ≤ (k : Int) := by omega
        have hkl : (k : Int) < (l.length : Int) := by omega
        clear hcs hr hacc1
        go_wp2_with fail
        have he1 : ∀ i : SW (Below w.heap.size w), (sw i).cell? ⟨b, o + k * 2, none⟩ = some (.int .i64 (fA l k)) := fun i => ((sw_is i).cell (p := ⟨b, _, none⟩) hB).trans q1
        have he2 : ∀ i : SW (Below w.heap.size w), (sw i).cell? ⟨b, o + k * 2 + 1, none⟩ = some (.int .i64 (fB l k)) := fun i => ((sw_is i).cell (p := ⟨b, _, none⟩) hB).trans q2
        refine wp_region_plan (Below w.heap.size w) [([0, 1, 2, 3, 4, 5, 6, 7, 8, 9, 10, 11], 12), ([], 13)] [14] (by kernel_rfl) (by kernel_rfl) (below_drewN hacc.2 1) fun hne => ?_
        simp only [wpPlan, wpEff, effOf, opsAt, optCons, List.getElem?_toArray, List.getElem?_cons_zero, List.getElem?_cons_succ]
        repeat (go_big_quiet_step (fail))
        refine wpQuiet_nil ?_
        go_wp2
        refine effQ_normal ((hacc.drewN 1).alloc _).2 ?_
        refine wpQuiet_nil ?_
        go_wp2_with (at_builtin; refine wpList_app2 rfl _ _ _ rfl Try.underlying25 infoTie rfl (hacc.drewN 1) _ _ _ _ (by simp) rfl hln ?_; intro v1 w2 hacc1)
        refine effQ_normal hacc1.2 ?_
        repeat (go_big_quiet_step (fail))
        refine wpQuiet_nil ?_
        refine noPan_normal ?_
        go_wp2
        exact ⟨⟨k + 1, hlt, by go_num, by rw [swapL_take l k hlt]; exact hacc1⟩, by simp [intOf]; omega⟩
      · clear hr hacc1
        go_wp2
        go_ret2
        obtain ⟨A1, c1, rfl⟩ := hacc.shape
        have e : swapL (l.take k) = turnL l := by rw [List.take_of_length_le (by omega), HE.out]
        rw [e] at hacc
        refine ⟨A1, c1, ?_, hacc⟩
        rw [← e]; rfl

end Go.Proofs.Ytjeghfhgamfmdaa
