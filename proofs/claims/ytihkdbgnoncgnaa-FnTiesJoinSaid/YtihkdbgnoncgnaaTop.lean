/- Contracts of TiesTurn, in the program and in the reference. No condition but that the list has at most 1048576 elements. -/
import Derived.Test.YtihkdbgnoncgnaaTv
import Derived.Test.YtihkdbgnoncgnaaPlan
import Derived.Test.YtihkdbgnoncgnaaPairTie
namespace Go.Proofs.Ytihkdbgnoncgnaa
open Go.RowKit


set_option maxHeartbeats 1000000 in
theorem tiesTurn_any (A : Option Addr) (c : Nat) (l : List (Int × Int)) (w : World) (hr : Rd w w.heap.size A l) (hn : l.length ≤ 1048576) :
    Calls Try.prog 27 #[.slice A l.length c] w (RetSB w 40 (turnL l) (tv l)) := by
  cases ht : tv l with
  | false =>
    go_enter Try.func27, Try.ntmps27
    go_wp2_with (go_at_call 18; refine (tiesValid_any A c l _ hr hn).mono ?_; rintro e w1 ⟨rfl, hb⟩)
    go_ret2
    have e : turnL l = [] := by simp [turnL, ht]
    rw [e]
    exact ⟨none, 0, rfl, World.ownsRow_nil _ _ _ _, hb⟩
  | true =>
    have e : turnL l = swapL l := by simp [turnL, ht]
    have HE := Lib.hid e
    clear e
    go_enter Try.func27, Try.ntmps27
    go_wp2_with (go_at_call 18; refine (tiesValid_any A c l _ hr hn).mono ?_; rintro e w1 ⟨rfl, hb⟩)
    clear ht
    go_loopw [12, 4] (fun i v wr => ∃ k : Nat, k ≤ l.length ∧ i = .int .i64 k ∧ Acc2 w wr 40 v (swapL (l.take k))) (fun i _ _ => l.length - (intOf i).toNat)
    case atStart => exact ⟨0, Nat.zero_le _, rfl, World.ownsRow_nil _ _ _ _, hb⟩
    case round =>
      obtain ⟨k, hk, rfl, hacc⟩ := hrel
      by_cases hlt : k < l.length
      · obtain ⟨b, o, rfl, hB, hcs⟩ := hr (by omega)
        have e1 : wr.cell? ⟨b, o + k * 2, none⟩ = some (.int .i64 (fA l k)) := (hacc.2.cell (p := ⟨b, _, none⟩) hB).trans (hcs k hlt).1
        have e2 : wr.cell? ⟨b, o + k * 2 + 1, none⟩ = some (.int .i64 (fB l k)) := (hacc.2.cell (p := ⟨b, _, none⟩) hB).trans (hcs k hlt).2
        have hln : (swapL (l.take k)).length + 1 ≤ 4294967296 := by rw [length_swapL, List.length_take]; omega
        clear hcs hr
        go_wp2_with (at_builtin; refine wpList_app2 rfl _ _ _ rfl Try.underlying23 infoTie rfl (hacc.alloc _) _ _ _ _ (by simp) rfl hln ?_; intro v1 w2 hacc1)
        exact ⟨⟨k + 1, hlt, by go_num, by rw [swapL_take l k hlt]; exact hacc1⟩, by simp [intOf]; omega⟩
      · clear hr
        go_wp2
        go_ret2
        obtain ⟨A1, c1, rfl⟩ := hacc.shape
        have e : swapL (l.take k) = turnL l := by rw [List.take_of_length_le (by omega), HE.out]
        rw [e] at hacc
        refine ⟨A1, c1, ?_, hacc⟩
        rw [← e]; rfl

end Go.Proofs.Ytihkdbgnoncgnaa
