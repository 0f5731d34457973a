/- Contract of the reference's TiesThrough. No condition but that the lists have at most 1048576 elements. -/
import Derived.Test.YtpaeajfjjklpnaaThrough
namespace Go.Proofs.Ytpaeajfjjklpnaa
open Go.RowKit

set_option maxHeartbeats 2000000 in
theorem specThrough_any (A B : Option Addr) (c d : Nat) (a b : List (Int × Int)) (w : World) (hr : Rd w w.heap.size A a) (hs : Rd w w.heap.size B b) (hn : a.length ≤ 1048576) (hm : b.length ≤ 1048576) :
    Calls Try.prog 13 #[.slice A a.length c, .slice B b.length d] w (RetSB w 30 (thrL a b) (tv a && tv b)) := by
  have h0 : Below w.heap.size w (w.alloc (.cells #[] 30)) := (Below.refl _ _).alloc (Nat.le_refl _) _
  have hacc0 : Acc2 w (w.alloc (.cells #[] 30)) 30 (.slice (some ⟨w.heap.size, 0, none⟩) 0 0) [] := ⟨World.ownsRow_made w #[] 0 (Nat.le_refl _) (by decide) rfl, h0⟩
  cases ha : tv a with
  | false =>
    go_enter Try.func13, Try.ntmps13
    go_wp2_with fail
    refine (specTiesValid_any A c a _ (hr.to h0) hn).mono ?_
    rintro e w1 ⟨rfl, hb⟩
    go_wp2_with fail
    go_ret2
    rw [thrL_no (by rw [ha]; rfl)]
    exact ⟨_, 0, rfl, (hacc0.below hb).1, (hacc0.below hb).2⟩
  | true =>
    cases hb : tv b with
    | false =>
      go_enter Try.func13, Try.ntmps13
      go_wp2_with fail
      refine (specTiesValid_any A c a _ (hr.to h0) hn).mono ?_
      rintro e w1 ⟨rfl, h1⟩
      go_wp2_with fail
      refine (specTiesValid_any B d b _ ((hs.to h0).to h1) hm).mono ?_
      rintro e w2 ⟨rfl, h2⟩
      go_wp2_with fail
      go_ret2
      rw [thrL_no (by rw [ha, hb]; rfl)]
      have h3 := (hacc0.below h1).below h2
      exact ⟨_, 0, rfl, h3.1, h3.2⟩
    | true =>
      have HE := Lib.hid (thrL_yes (a := a) (b := b) (by rw [ha, hb]; rfl))
      have hal := tv_len ha
      have hbl := tv_len hb
      go_enter Try.func13, Try.ntmps13
      go_wp2_with fail
      refine (specTiesValid_any A c a _ (hr.to h0) hn).mono ?_
      rintro e w1 ⟨rfl, h1⟩
      go_wp2_with fail
      refine (specTiesValid_any B d b _ ((hs.to h0).to h1) hm).mono ?_
      rintro e w2 ⟨rfl, h2⟩
      have h3 := (hacc0.below h1).below h2
      clear h1 h2 h0 hacc0
      go_wp2_with fail
      clear ha hb
      go_loopw [7, 6] (fun i v wr => ∃ k : Nat, k ≤ a.length ∧ i = .int .i64 k ∧ Acc2 w wr 30 v (thrOf (a.take k) b)) (fun i _ _ => a.length - (intOf i).toNat)
      case atStart => exact ⟨0, Nat.zero_le _, rfl, h3⟩
      case round =>
        obtain ⟨i, hi, rfl, hacc⟩ := hrel
        clear h3
        by_cases hlt : i < a.length
        · obtain ⟨wo, rfl⟩ : ∃ wo : World, wo = wr := ⟨_, rfl⟩
          have hlen : (thrOf (a.take i) b).length ≤ 144 := by
            refine Nat.le_trans (length_thrOf_le _ _) (Nat.le_trans (Nat.mul_le_mul (show (a.take i).length ≤ 12 by rw [List.length_take]; omega) hbl) (by omega))
          obtain ⟨ab, ao, rfl, hA, hcs⟩ := hr (by omega)
          obtain ⟨q1, q2⟩ := hcs i hlt
          have ha1 : ∀ j : SW (Below w.heap.size w), (sw j).cell? ⟨ab, ao + i * 2, none⟩ = some (.int .i64 (fA a i)) := fun j => ((sw_is j).cell (p := ⟨ab, _, none⟩) hA).trans q1
          have ha2 : ∀ j : SW (Below w.heap.size w), (sw j).cell? ⟨ab, ao + i * 2 + 1, none⟩ = some (.int .i64 (fB a i)) := fun j => ((sw_is j).cell (p := ⟨ab, _, none⟩) hA).trans q2
          have hiz : (0 : Int) ≤ (i : Int) := by omega
          have hil : (i : Int) < (a.length : Int) := by omega
          clear hcs
          go_wp2
          go_loopw [8, 6] (fun i2 v wr => ∃ k : Nat, k ≤ b.length ∧ i2 = .int .i64 k ∧ Acc2 w wr 30 v (thrOf (a.take i) b ++ rowOf (fA a i) (fB a i) (b.take k))) (fun i2 _ _ => b.length - (intOf i2).toNat)
          case atStart => exact ⟨0, Nat.zero_le _, rfl, by simpa [rowOf] using hacc⟩
          case round =>
            obtain ⟨k, hk, rfl, hac⟩ := hrel
            clear hacc
            by_cases hltk : k < b.length
            · obtain ⟨bb, bo, rfl, hB, hct⟩ := hs (by omega)
              obtain ⟨q3, q4⟩ := hct k hltk
              have hb1 : ∀ j : SW (Below w.heap.size w), (sw j).cell? ⟨bb, bo + k * 2, none⟩ = some (.int .i64 (fA b k)) := fun j => ((sw_is j).cell (p := ⟨bb, _, none⟩) hB).trans q3
              have hb2 : ∀ j : SW (Below w.heap.size w), (sw j).cell? ⟨bb, bo + k * 2 + 1, none⟩ = some (.int .i64 (fB b k)) := fun j => ((sw_is j).cell (p := ⟨bb, _, none⟩) hB).trans q4
              have e2 : wr.cell? ⟨ab, ao + i * 2 + 1, none⟩ = some (.int .i64 (fB a i)) := (hac.2.cell (p := ⟨ab, _, none⟩) hA).trans q2
              have e3 : wr.cell? ⟨bb, bo + k * 2, none⟩ = some (.int .i64 (fA b k)) := (hac.2.cell (p := ⟨bb, _, none⟩) hB).trans q3
              have hkz : (0 : Int) ≤ (k : Int) := by omega
              have hkl : (k : Int) < (b.length : Int) := by omega
              clear hct
              have hln : (thrOf (a.take i) b ++ rowOf (fA a i) (fB a i) (b.take k)).length + 1 ≤ 4294967296 := by
                have := length_rowOf_le (fA a i) (fB a i) (b.take k)
                rw [List.length_take] at this
                rw [List.length_append]
                omega
              by_cases heq : fB a i = fA b k
              · have hq : (fB a i == fA b k) = true := by simpa using heq
                have Hq := Lib.hid heq
                clear heq
                go_wp2_with fail
                go_quiet (fail)
                go_wp2_with fail
                have hac := hac.drewN nq
                refine wp_region_plan (Below w.heap.size w) [([0, 1, 2, 3, 4, 5, 6, 7, 8, 9, 10, 11], 12), ([], 13)] [14] (by kernel_rfl) (by kernel_rfl) (below_drewN hac.2 1) fun hne => ?_
                simp only [wpPlan, wpEff, effOf, opsAt, optCons, List.getElem?_toArray, List.getElem?_cons_zero, List.getElem?_cons_succ]
                repeat (go_big_quiet_step (fail))
                refine wpQuiet_nil ?_
                go_wp2
                refine effQ_normal ((hac.drewN 1).alloc _).2 ?_
                refine wpQuiet_nil ?_
                go_wp2_with (at_builtin; refine wpList_app2 rfl _ _ _ rfl Try.underlying23 infoTie rfl (hac.drewN 1) _ _ _ _ (by simp) rfl hln ?_; intro v1 w4 hac1)
                refine effQ_normal hac1.2 ?_
                repeat (go_big_quiet_step (fail))
                refine wpQuiet_nil ?_
                refine noPan_normal ?_
                go_wp2
                exact ⟨⟨k + 1, hltk, by go_num, by rw [rowOf_hit _ _ _ _ hltk Hq.out, ← List.append_assoc]; exact hac1⟩, by simp [intOf]; omega⟩
              · have hq : (fB a i == fA b k) = false := by simpa using heq
                have Hq := Lib.hid heq
                clear heq
                go_wp2_with fail
                go_quiet (fail)
                go_wp2
                exact ⟨⟨k + 1, hltk, by go_num, by rw [rowOf_miss _ _ _ _ hltk Hq.out]; exact hac.drewN _⟩, by simp [intOf]; omega⟩
            · go_wp2
              refine ⟨⟨i + 1, hlt, by go_num, ?_⟩, by simp [intOf]; omega⟩
              rw [thrOf_take a b i hlt]
              rw [List.take_of_length_le (show b.length ≤ k by omega)] at hac
              exact hac
        · go_wp2
          go_ret2
          obtain ⟨A1, c1, rfl⟩ := hacc.shape
          have e : thrOf (a.take i) b = thrL a b := by rw [List.take_of_length_le (by omega), HE.out]
          rw [e] at hacc
          refine ⟨A1, c1, ?_, hacc⟩
          rw [← e]; rfl

end Go.Proofs.Ytpaeajfjjklpnaa
