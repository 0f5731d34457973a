/- Contracts of the tests' own functions on lists of pairs (Tie): comparing, copying, marking. No condition but that the lists have at most 1048576 elements. -/
import Derived.Test.YtpaeajfjjklpnaaPlan
import Derived.Test.YtpaeajfjjklpnaaProg
import Derived.Laws.StructEq
namespace Go.Proofs.Ytpaeajfjjklpnaa
open Go.RowKit

theorem infoTie : (Try.prog.info? 30).map (fun i => (i.zero, i.size, i.bytes)) = some (some (.agg #[.int .i64 0, .int .i64 0]), 2, 16) := by kernel_rfl
theorem guardTie : Try.prog.eqGuardType Try.prog.depth 30 = false := by kernel_rfl
theorem grdTie (op : BinOp) (xo yo : Operand) (u v : Array Value) (w : World) : (eqGuard op 30 xo yo (.agg u) (.agg v)).run Try.prog w = .ok () w := by
  cases op <;> first | (simp [eqGuard]; done) | (simp [eqGuard, guardTie]; done)
attribute [local go_sem] grdTie

set_option maxHeartbeats 1000000 in
theorem sameTies_any (A B : Option Addr) (c d : Nat) (l m : List (Int × Int)) (w : World) (hr : Rd w w.heap.size A l) (hs : Rd w w.heap.size B m) (hn : l.length ≤ 1048576) :
    Calls Try.prog 14 #[.slice A l.length c, .slice B m.length d] w fun e w' => e = .returned (.bool (decide (l = m))) ∧ Below w.heap.size w w' := by
  by_cases hl : l.length = m.length
  · have hl1 : ((l.length : Int) != (m.length : Int)) = false := by simp; omega
    have HL := Lib.hid hl
    clear hl
    go_enter Try.func14, Try.ntmps14
    go_wp2
    go_loopw [5] (fun i wr => ∃ k : Nat, k ≤ l.length ∧ i = .int .i64 k ∧ eqTo l m k ∧ Below w.heap.size w wr) (fun i _ => l.length - (intOf i).toNat)
    case atStart => exact ⟨0, Nat.zero_le _, rfl, eqTo_zero l m, Below.refl _ _⟩
    case round =>
      obtain ⟨k, hk, rfl, hto, hb⟩ := hrel
      have Hto := Lib.hid hto
      clear hto
      by_cases hlt : k < l.length
      · obtain ⟨b, o, rfl, hB, hcs⟩ := hr (by omega)
        obtain ⟨b', o', rfl, hB', hcs'⟩ := hs (by have := HL.out; omega)
        have e1 : wr.cell? ⟨b, o + k * 2, none⟩ = some (.int .i64 (fA l k)) := (hb.cell (p := ⟨b, _, none⟩) hB).trans (hcs k hlt).1
        have e2 : wr.cell? ⟨b, o + k * 2 + 1, none⟩ = some (.int .i64 (fB l k)) := (hb.cell (p := ⟨b, _, none⟩) hB).trans (hcs k hlt).2
        have hltm : k < m.length := by have := HL.out; omega
        have e3 : wr.cell? ⟨b', o' + k * 2, none⟩ = some (.int .i64 (fA m k)) := (hb.cell (p := ⟨b', _, none⟩) hB').trans (hcs' k hltm).1
        have e4 : wr.cell? ⟨b', o' + k * 2 + 1, none⟩ = some (.int .i64 (fB m k)) := (hb.cell (p := ⟨b', _, none⟩) hB').trans (hcs' k hltm).2
        have hkz : (0 : Int) ≤ (k : Int) := by omega
        have hkl : (k : Int) < (l.length : Int) := by omega
        have hkm : (k : Int) < (m.length : Int) := by omega
        clear hcs hr hcs' hs
        go_wp2_with fail
        by_cases h1 : fA l k = fA m k
        · by_cases h2 : fB l k = fB m k
          · have hc : sameAt (fA l k) (fB l k) (fA m k) (fB m k) = true := by simp [sameAt, h1, h2]
            have Hc := Lib.hid hc
            clear hc
            go_quiet (fail)
            clear h1 h2
            go_wp2
            exact ⟨⟨k + 1, hlt, by go_num, eqTo_succ Hto.out Hc.out, below_drewN hb _⟩, by simp [intOf]; omega⟩
          · have hc : sameAt (fA l k) (fB l k) (fA m k) (fB m k) = false := by simp [sameAt, h2]
            have Hc := Lib.hid hc
            clear hc
            go_quiet (fail)
            clear h1 h2
            go_wp2
            go_ret
            exact ⟨ret_bool (by simp [ne_of_not Hc.out]), below_drewN hb _⟩
        · have hc : sameAt (fA l k) (fB l k) (fA m k) (fB m k) = false := by simp [sameAt, h1]
          have Hc := Lib.hid hc
          clear hc
          go_quiet (fail)
          clear h1
          go_wp2
          go_ret
          exact ⟨ret_bool (by simp [ne_of_not Hc.out]), below_drewN hb _⟩
      · clear hr hs
        go_wp2
        go_ret
        have e : l = m := eq_of_eqTo HL.out (by have := Hto.out; rw [show k = l.length by omega] at this; exact this)
        exact ⟨ret_bool (by simp [e]), hb⟩
  · have hl1 : ((l.length : Int) != (m.length : Int)) = true := by simp; omega
    have HL := Lib.hid hl
    clear hl hr hs
    go_enter Try.func14, Try.ntmps14
    go_wp2
    go_ret
    exact ⟨ret_bool (by simp; intro e; exact HL.out (by rw [e])), Below.refl _ _⟩

def mkTo (k : Int) (i : Nat) (f : Nat → Value) : Nat → Value := fun j => if j < 2 * i then .int .i64 (k + j) else f j


end Go.Proofs.Ytpaeajfjjklpnaa
