/- Contracts of the tests' own functions on lists of pairs (Event): comparing, copying, marking. No condition but that the lists have at most 1048576 elements. -/
import Derived.Test.YtbpafjlfpdnnhaaPlan
import Derived.Test.YtbpafjlfpdnnhaaProg
import Derived.Laws.StructEq
namespace Go.Proofs.Ytbpafjlfpdnnhaa
open Go.RowKit

theorem infoEvent : (Try.prog.info? 32).map (fun i => (i.zero, i.size, i.bytes)) = some (some (.agg #[.int .i64 0, .int .i64 0]), 2, 16) := by kernel_rfl

set_option maxHeartbeats 400000 in
theorem eqEvent_any (x y x' y' : Int) (w : World) :
    Calls Try.prog 36 #[.agg #[.int .i64 x, .int .i64 y], .agg #[.int .i64 x', .int .i64 y']] w fun e w' => e = .returned (.bool (sameAt x y x' y')) ∧ Below w.heap.size w w' := by
  have hb : ∀ a b : Array Value, Below w.heap.size w ((w.alloc (.cells a 32)).alloc (.cells b 32)) := fun a b => ((Below.refl _ _).alloc (Nat.le_refl _) _).alloc (by simp) _
  by_cases h1 : x = x'
  · by_cases h2 : y = y'
    · subst h1 h2
      go_enter Try.func36, Try.ntmps36
      go_wp2
      go_ret
      exact ⟨ret_bool (by simp [sameAt]), hb _ _⟩
    · have h2' : (y != y') = true := by simpa using h2
      subst h1
      go_enter Try.func36, Try.ntmps36
      go_wp2
      go_ret
      exact ⟨ret_bool (by simp [sameAt, h2]), hb _ _⟩
  · have h1' : (x != x') = true := by simpa using h1
    go_enter Try.func36, Try.ntmps36
    go_wp2
    go_ret
    exact ⟨ret_bool (by simp [sameAt, h1]), hb _ _⟩

set_option maxHeartbeats 1000000 in
theorem eqEventS_any (A B : Option Addr) (c d : Nat) (l m : List (Int × Int)) (w : World) (hr : Rd w w.heap.size A l) (hs : Rd w w.heap.size B m) (hn : l.length ≤ 1048576) :
    Calls Try.prog 20 #[.slice A l.length c, .slice B m.length d] w fun e w' => e = .returned (.bool (decide (l = m))) ∧ Below w.heap.size w w' := by
  by_cases hl : l.length = m.length
  · have hl1 : ((l.length : Int) != (m.length : Int)) = false := by simp; omega
    have HL := Lib.hid hl
    clear hl
    go_enter Try.func20, Try.ntmps20
    go_wp2
    go_loopw [5] (fun i wr => ∃ k : Nat, k ≤ l.length ∧ i = .int .i64 k ∧ eqTo l m k ∧ Below w.heap.size w wr) (fun i _ => l.length - (intOf i).toNat)
    case atStart => exact ⟨0, Nat.zero_le _, rfl, eqTo_zero l m, Below.refl _ _⟩
    case round =>
      obtain ⟨k, hk, rfl, hto, hb⟩ := hrel
      have Hto := Lib.hid hto
      clear hto
      by_cases hlt : k < l.length
      · obtain ⟨b, o, rfl, hB, hcs⟩ := hr (by omega)
        obtain ⟨b', o', rfl, hB', hcs'⟩ := hs (by have := HL.out; omega)
        have e1 : wr.cell? ⟨b, o + k * 2, none⟩ = some (.int .i64 (fA l k)) := (hb.cell (p := ⟨b, _, none⟩) hB).trans (hcs k hlt).1
        have e2 : wr.cell? ⟨b, o + k * 2 + 1, none⟩ = some (.int .i64 (fB l k)) := (hb.cell (p := ⟨b, _, none⟩) hB).trans (hcs k hlt).2
        have hltm : k < m.length := by have := HL.out; omega
        have e3 : wr.cell? ⟨b', o' + k * 2, none⟩ = some (.int .i64 (fA m k)) := (hb.cell (p := ⟨b', _, none⟩) hB').trans (hcs' k hltm).1
        have e4 : wr.cell? ⟨b', o' + k * 2 + 1, none⟩ = some (.int .i64 (fB m k)) := (hb.cell (p := ⟨b', _, none⟩) hB').trans (hcs' k hltm).2
        have hkz : (0 : Int) ≤ (k : Int) := by omega
        have hkl : (k : Int) < (l.length : Int) := by omega
        have hkm : (k : Int) < (m.length : Int) := by omega
        have hbl : b < wr.heap.size := by have := hb.size; omega
        have hbl' : b' < wr.heap.size := by have := hb.size; omega
        clear hcs hr hcs' hs
        go_wp2_with fail
        cases hc : sameAt (fA l k) (fB l k) (fA m k) (fB m k) with
        | true =>
          refine wp_region_bw (by kernel_rfl) (by kernel_rfl) ?_
          repeat (go_big_quiet_step ((go_at_call 36; exact bw_ret (eqEvent_any _ _ _ _ _))))
          refine wpQuiet_nil ?_
          intro wx hx
          go_wp2
          exact ⟨⟨k + 1, hlt, by go_num, eqTo_succ Hto.out hc, hb.trans (hx.mono hb.size)⟩, by simp [intOf]; omega⟩
        | false =>
          refine wp_region_bw (by kernel_rfl) (by kernel_rfl) ?_
          repeat (go_big_quiet_step ((go_at_call 36; exact bw_ret (eqEvent_any _ _ _ _ _))))
          refine wpQuiet_nil ?_
          intro wx hx
          go_wp2
          go_ret
          exact ⟨ret_bool (by simp [ne_of_not hc]), hb.trans (hx.mono hb.size)⟩
      · clear hr hs
        go_wp2
        go_ret
        have e : l = m := eq_of_eqTo HL.out (by have := Hto.out; rw [show k = l.length by omega] at this; exact this)
        exact ⟨ret_bool (by simp [e]), hb⟩
  · have hl1 : ((l.length : Int) != (m.length : Int)) = true := by simp; omega
    have HL := Lib.hid hl
    clear hl hr hs
    go_enter Try.func20, Try.ntmps20
    go_wp2
    go_ret
    exact ⟨ret_bool (by simp; intro e; exact HL.out (by rw [e])), Below.refl _ _⟩

set_option maxHeartbeats 400000 in
theorem szEventS_any (A : Option Addr) (c n : Nat) (left : Int) (w : World) (hn : n ≤ 9223372036854775807) (h0 : 0 ≤ left) (h1 : left ≤ 1048576) :
    Calls Try.prog 16 #[.slice A n c, .int .i64 left] w fun e w' => e = .returned (.int .i64 (if left < n then -1 else left - n)) ∧ w = w' := by
  by_cases h : left < n
  · go_enter Try.func16, Try.ntmps16
    go_wp2
    go_ret
    exact ⟨ret_int rfl, rfl⟩
  · go_enter Try.func16, Try.ntmps16
    go_wp2
    go_ret
    exact ⟨ret_int rfl, rfl⟩

set_option maxHeartbeats 400000 in
theorem toEvent_any (x y : Int) (w : World) :
    Calls Try.prog 34 #[.agg #[.int .i64 x, .int .i64 y]] w fun e w' => e = .returned (.agg #[.int .i64 x, .int .i64 y]) ∧ Below w.heap.size w w' := by
  go_enter Try.func34, Try.ntmps34
  go_wp2
  refine bodyPost_ret (v := .agg #[.int .i64 x, .int .i64 y]) (by simp [results, Try.results34, go_sem]) rfl ⟨rfl, ?_⟩
  exact (((Below.refl _ _).alloc (Nat.le_refl _) _).alloc (by simp) _).alloc (by simp; omega) _

def toToEvent (l : List (Int × Int)) (k : Nat) : Nat → Value := fun j => if j < 2 * k then cellAt l j else .int .i64 0

set_option maxHeartbeats 1000000 in
theorem toEventS_any (A : Option Addr) (c : Nat) (l : List (Int × Int)) (w : World) (hr : Rd w w.heap.size A l) (hn : l.length ≤ 1048576) :
    Calls Try.prog 18 #[.slice A l.length c] w (RetS w 32 l) := by
  have hmk := run_make2 (P := Try.prog) Try.underlying25 infoEvent l.length (by omega)
  go_enter Try.func18, Try.ntmps18
  go_wp2
  clear hmk
  have hb0 : Below w.heap.size w (w.alloc (.cells (madeCells #[.int .i64 0, .int .i64 0] (l.length * 2)) 32)) := (Below.refl _ _).alloc (Nat.le_refl _) _
  have hr0 : (w.alloc (.cells (madeCells #[.int .i64 0, .int .i64 0] (l.length * 2)) 32)).rowIs w.heap.size 32 (l.length * 2) (toToEvent l 0) := (rowIs_made2 w l.length 32).congr fun i _ => by simp [toToEvent]
  go_loopw [4] (fun i wr => ∃ k : Nat, k ≤ l.length ∧ i = .int .i64 k ∧ wr.rowIs w.heap.size 32 (l.length * 2) (toToEvent l k) ∧ Below w.heap.size w wr) (fun i _ => l.length - (intOf i).toNat)
  case atStart => exact ⟨0, Nat.zero_le _, rfl, hr0, hb0⟩
  case round =>
    obtain ⟨k, hk, rfl, hro, hb⟩ := hrel
    clear hr0 hb0
    by_cases hlt : k < l.length
    · obtain ⟨b, o, rfl, hB, hcs⟩ := hr (by omega)
      have e1 : wr.cell? ⟨b, o + k * 2, none⟩ = some (.int .i64 (fA l k)) := (hb.cell (p := ⟨b, _, none⟩) hB).trans (hcs k hlt).1
      have e2 : wr.cell? ⟨b, o + k * 2 + 1, none⟩ = some (.int .i64 (fB l k)) := (hb.cell (p := ⟨b, _, none⟩) hB).trans (hcs k hlt).2
      clear hcs hr
      go_wp2_with fail
      refine (toEvent_any _ _ _).mono ?_
      rintro e wx ⟨rfl, hx⟩
      have hro1 := hro.of_block (hx.block _ hro.lt)
      have hb1 : Below w.heap.size w wx := hb.trans (hx.mono hb.size)
      clear hro hb hx e1 e2
      have c1 := hro1.cell (i := k * 2) (by omega)
      have c2 := hro1.cell (i := k * 2 + 1) (by omega)
      have c3 : ∀ u, (wx.setCell ⟨w.heap.size, k * 2, none⟩ u).cell? ⟨w.heap.size, k * 2 + 1, none⟩ = some (toToEvent l k (k * 2 + 1)) := fun u => by
        have := (hro1.set (k * 2) u).cell (i := k * 2 + 1) (by omega)
        rw [if_neg (by omega)] at this
        exact this
      have f1 := hro1.frozen (k * 2)
      have f2 := hro1.frozen (k * 2 + 1)
      have f3 : ∀ u, (wx.setCell ⟨w.heap.size, k * 2, none⟩ u).frozen? ⟨w.heap.size, k * 2 + 1, none⟩ = false := fun u => (hro1.set (k * 2) u).frozen _
      go_wp2
      have hro2 := (hro1.set (k * 2) (.int .i64 (fA l k))).set (k * 2 + 1) (.int .i64 (fB l k))
      refine ⟨⟨k + 1, hlt, by go_num, hro2.congr fun i hi => ?_, (hb1.setCell (p := ⟨w.heap.size, _, none⟩) (Nat.le_refl _) _).setCell (p := ⟨w.heap.size, _, none⟩) (Nat.le_refl _) _⟩, by simp [intOf]; omega⟩
      unfold toToEvent
      by_cases q1 : i = k * 2 + 1
      · rw [if_pos q1, if_pos (by omega), q1, cellAt, if_neg (by omega), show (k * 2 + 1) / 2 = k by omega]
      · rw [if_neg q1]
        by_cases q2 : i = k * 2
        · rw [if_pos q2, if_pos (by omega), q2, cellAt, if_pos (by omega), show k * 2 / 2 = k by omega]
        · rw [if_neg q2]
          by_cases q3 : i < 2 * k
          · rw [if_pos q3, if_pos (by omega)]
          · rw [if_neg q3, if_neg (by omega)]
    · clear hr
      go_wp2
      go_ret
      refine ⟨_, l.length, rfl, ?_, hb⟩
      refine own_of_row (E := 32) (hro.congr fun i hi => ?_) (Nat.le_refl _) (by omega)
      unfold toToEvent
      rw [if_pos (by omega)]

end Go.Proofs.Ytbpafjlfpdnnhaa
