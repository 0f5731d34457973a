/- Contracts of TiesThrough, in the program and in the reference. No condition but that the lists have at most 1048576 elements. -/
import Derived.Test.YtihkdbgnoncgnaaTv
import Derived.Test.YtihkdbgnoncgnaaPairTie
namespace Go.Proofs.Ytihkdbgnoncgnaa
open Go.RowKit

theorem thrL_no {a b : List (Int × Int)} (h : (tv a && tv b) = false) : thrL a b = [] := by simp [thrL, h]
theorem thrL_yes {a b : List (Int × Int)} (h : (tv a && tv b) = true) : thrL a b = thrOf a b := by simp [thrL, h]

set_option maxHeartbeats 2000000 in
theorem through_any (A B : Option Addr) (c d : Nat) (a b : List (Int × Int)) (w : World) (hr : Rd w w.heap.size A a) (hs : Rd w w.heap.size B b) (hn : a.length ≤ 1048576) (hm : b.length ≤ 1048576) :
    Calls Try.prog 20 #[.slice A a.length c, .slice B b.length d] w (RetSB w 40 (thrL a b) (tv a && tv b)) := by
  cases ha : tv a with
  | false =>
    go_enter Try.func20, Try.ntmps20
    go_wp2_with fail
    refine (tiesValid_any A c a _ hr hn).mono ?_
    rintro e w1 ⟨rfl, hb⟩
    go_wp2_with fail
    go_ret2
    rw [thrL_no (by rw [ha]; rfl)]
    exact ⟨none, 0, rfl, World.ownsRow_nil _ _ _ _, hb⟩
  | true =>
    cases hb : tv b with
    | false =>
      go_enter Try.func20, Try.ntmps20
      go_wp2_with fail
      refine (tiesValid_any A c a _ hr hn).mono ?_
      rintro e w1 ⟨rfl, h1⟩
      go_wp2_with fail
      refine (tiesValid_any B d b _ (hs.to h1) hm).mono ?_
      rintro e w2 ⟨rfl, h2⟩
      go_wp2_with fail
      go_ret2
      rw [thrL_no (by rw [ha, hb]; rfl)]
      exact ⟨none, 0, rfl, World.ownsRow_nil _ _ _ _, h1.trans (h2.mono h1.size)⟩
    | true =>
      have HE := Lib.hid (thrL_yes (a := a) (b := b) (by rw [ha, hb]; rfl))
      have hal := tv_len ha
      have hbl := tv_len hb
      go_enter Try.func20, Try.ntmps20
      go_wp2_with fail
      refine (tiesValid_any A c a _ hr hn).mono ?_
      rintro e w1 ⟨rfl, h1⟩
      go_wp2_with fail
      refine (tiesValid_any B d b _ (hs.to h1) hm).mono ?_
      rintro e w2 ⟨rfl, h2⟩
      have h3 : Below w.heap.size w w2 := h1.trans (h2.mono h1.size)
      clear h1 h2
      go_wp2_with fail
      clear ha hb
      go_loopw [21, 6] (fun i v wr => ∃ k : Nat, k ≤ a.length ∧ i = .int .i64 k ∧ Acc2 w wr 40 v (thrOf (a.take k) b)) (fun i _ _ => a.length - (intOf i).toNat)
      case atStart => exact ⟨0, Nat.zero_le _, rfl, World.ownsRow_nil _ _ _ _, h3⟩
      case round =>
        obtain ⟨i, hi, rfl, hacc⟩ := hrel
        clear h3
        by_cases hlt : i < a.length
        · obtain ⟨wo, rfl⟩ : ∃ wo : World, wo = wr := ⟨_, rfl⟩
          have hlen : (thrOf (a.take i) b).length ≤ 144 := by
            refine Nat.le_trans (length_thrOf_le _ _) (Nat.le_trans (Nat.mul_le_mul (show (a.take i).length ≤ 12 by rw [List.length_take]; omega) hbl) (by omega))
          obtain ⟨ab, ao, rfl, hA, hcs⟩ := hr (by omega)
          have e1 : wo.cell? ⟨ab, ao + i * 2, none⟩ = some (.int .i64 (fA a i)) := (hacc.2.cell (p := ⟨ab, _, none⟩) hA).trans (hcs i hlt).1
          have e2 : wo.cell? ⟨ab, ao + i * 2 + 1, none⟩ = some (.int .i64 (fB a i)) := (hacc.2.cell (p := ⟨ab, _, none⟩) hA).trans (hcs i hlt).2
          clear hcs
          go_wp2
          have hg0 : ∀ v : Value, Acc2 w wo 40 v (thrOf (a.take i) b) → v.ownBlock ≠ some wo.heap.size := fun v h he => by have := (h.1.lt _ he).2; omega
          have hown0 := hg0 _ hacc
          have hsz := hacc.2.size
          have hacc0 := hacc.alloc (.cells #[.int .i64 (fA a i), .int .i64 (fB a i)] 40)
          have q1 : (wo.alloc (.cells #[.int .i64 (fA a i), .int .i64 (fB a i)] 40)).cell? ⟨wo.heap.size, 0, none⟩ = some (.int .i64 (fA a i)) := by simp [World.cell?_alloc_new]
          have q2 : (wo.alloc (.cells #[.int .i64 (fA a i), .int .i64 (fB a i)] 40)).cell? ⟨wo.heap.size, 1, none⟩ = some (.int .i64 (fB a i)) := by simp [World.cell?_alloc_new]
          clear e1 e2 hacc hg0
          go_loopw [27, 6] (fun i2 v wr => ∃ k : Nat, k ≤ b.length ∧ i2 = .int .i64 k ∧ Acc2 w wr 40 v (thrOf (a.take i) b ++ rowOf (fA a i) (fB a i) (b.take k)) ∧
              wr.cell? ⟨wo.heap.size, 0, none⟩ = some (.int .i64 (fA a i)) ∧ wr.cell? ⟨wo.heap.size, 1, none⟩ = some (.int .i64 (fB a i)) ∧ v.ownBlock ≠ some wo.heap.size ∧ wo.heap.size < wr.heap.size) (fun i2 _ _ => b.length - (intOf i2).toNat)
          case atStart => exact ⟨0, Nat.zero_le _, rfl, by simpa [rowOf] using hacc0, q1, q2, hown0, by simp⟩
          case round =>
            obtain ⟨k, hk, rfl, hac, p1, p2, hne, hlw⟩ := hrel
            clear q1 q2 hown0 hacc0
            by_cases hltk : k < b.length
            · obtain ⟨bb, bo, rfl, hB, hct⟩ := hs (by omega)
              have e3 : wr.cell? ⟨bb, bo + k * 2, none⟩ = some (.int .i64 (fA b k)) := (hac.2.cell (p := ⟨bb, _, none⟩) hB).trans (hct k hltk).1
              have e4 : wr.cell? ⟨bb, bo + k * 2 + 1, none⟩ = some (.int .i64 (fB b k)) := (hac.2.cell (p := ⟨bb, _, none⟩) hB).trans (hct k hltk).2
              clear hct
              have hln : (thrOf (a.take i) b ++ rowOf (fA a i) (fB a i) (b.take k)).length + 1 ≤ 4294967296 := by
                have := length_rowOf_le (fA a i) (fB a i) (b.take k)
                rw [List.length_take] at this
                rw [List.length_append]
                omega
              by_cases heq : fB a i = fA b k
              · have hq : (fB a i == fA b k) = true := by simpa using heq
                have Hq := Lib.hid heq
                clear heq
                have hne2 : wr.heap.size ≠ wo.heap.size := by omega
                go_wp2_with (at_builtin; refine wpList_app2_at rfl _ _ _ rfl Try.underlying23 infoTie rfl (hac.alloc _) _ _ _ _ (by simp) rfl hln ?_; intro v1 w4 hac1 hgr hat)
                have t1 : w4.cell? ⟨wo.heap.size, 0, none⟩ = some (.int .i64 (fA a i)) := hgr.cell (by rw [World.cell?_alloc_lt _ _ _ (by simp; omega), World.cell?_alloc_lt _ _ _ hlw]; exact p1) (fun e => hne e.symm)
                have t2 : w4.cell? ⟨wo.heap.size, 1, none⟩ = some (.int .i64 (fB a i)) := hgr.cell (by rw [World.cell?_alloc_lt _ _ _ (by simp; omega), World.cell?_alloc_lt _ _ _ hlw]; exact p2) (fun e => hne e.symm)
                refine ⟨⟨k + 1, hltk, by go_num, by rw [rowOf_hit _ _ _ _ hltk Hq.out, ← List.append_assoc]; exact hac1, t1, t2, ?_, ?_⟩, by simp [intOf]; omega⟩
                · rcases hat with e | e <;> rw [e]
                  · exact hne
                  · simp; omega
                · exact World.block_lt_of_cell? _ _ t1
              · have hq : (fB a i == fA b k) = false := by simpa using heq
                have Hq := Lib.hid heq
                clear heq
                go_wp2
                refine ⟨⟨k + 1, hltk, by go_num, by rw [rowOf_miss _ _ _ _ hltk Hq.out]; exact hac.alloc _, ?_, ?_, hne, by simp; omega⟩, by simp [intOf]; omega⟩
                · rw [World.cell?_alloc_lt _ _ _ hlw]; exact p1
                · rw [World.cell?_alloc_lt _ _ _ hlw]; exact p2
            · go_wp2
              refine ⟨⟨i + 1, hlt, by go_num, ?_⟩, by simp [intOf]; omega⟩
              rw [thrOf_take a b i hlt]
              rw [List.take_of_length_le (show b.length ≤ k by omega)] at hac
              exact hac
        · go_wp2
          go_ret2
          obtain ⟨A1, c1, rfl⟩ := hacc.shape
          have e : thrOf (a.take i) b = thrL a b := by rw [List.take_of_length_le (by omega), HE.out]
          rw [e] at hacc
          refine ⟨A1, c1, ?_, hacc⟩
          rw [← e]; rfl

end Go.Proofs.Ytihkdbgnoncgnaa
