/- Contracts of the tests' own functions on lists of pairs (Tie): comparing, copying, marking. No condition but that the lists have at most 1048576 elements. -/
import Derived.Test.YtihkdbgnoncgnaaPlan
import Derived.Test.YtihkdbgnoncgnaaProg
import Derived.Laws.StructEq
namespace Go.Proofs.Ytihkdbgnoncgnaa
open Go.RowKit

theorem infoTie : (Try.prog.info? 40).map (fun i => (i.zero, i.size, i.bytes)) = some (some (.agg #[.int .i64 0, .int .i64 0]), 2, 16) := by kernel_rfl
theorem guardTie : Try.prog.eqGuardType Try.prog.depth 40 = false := by kernel_rfl
theorem grdTie (op : BinOp) (xo yo : Operand) (u v : Array Value) (w : World) : (eqGuard op 40 xo yo (.agg u) (.agg v)).run Try.prog w = .ok () w := by
  cases op <;> first | (simp [eqGuard]; done) | (simp [eqGuard, guardTie]; done)
attribute [local go_sem] grdTie

set_option maxHeartbeats 1000000 in
theorem sameTies_any (A B : Option Addr) (c d : Nat) (l m : List (Int × Int)) (w : World) (hr : Rd w w.heap.size A l) (hs : Rd w w.heap.size B m) (hn : l.length ≤ 1048576) :
    Calls Try.prog 16 #[.slice A l.length c, .slice B m.length d] w fun e w' => e = .returned (.bool (decide (l = m))) ∧ Below w.heap.size w w' := by
  by_cases hl : l.length = m.length
  · have hl1 : ((l.length : Int) != (m.length : Int)) = false := by simp; omega
    have HL := Lib.hid hl
    clear hl
    go_enter Try.func16, Try.ntmps16
    go_wp2
    go_loopw [5] (fun i wr => ∃ k : Nat, k ≤ l.length ∧ i = .int .i64 k ∧ eqTo l m k ∧ Below w.heap.size w wr) (fun i _ => l.length - (intOf i).toNat)
    case atStart => exact ⟨0, Nat.zero_le _, rfl, eqTo_zero l m, Below.refl _ _⟩
    case round =>
      obtain ⟨k, hk, rfl, hto, hb⟩ := hrel
      have Hto := Lib.hid hto
      clear hto
      by_cases hlt : k < l.length
      · obtain ⟨b, o, rfl, hB, hcs⟩ := hr (by omega)
        obtain ⟨b', o', rfl, hB', hcs'⟩ := hs (by have := HL.out; omega)
        have e1 : wr.cell? ⟨b, o + k * 2, none⟩ = some (.int .i64 (fA l k)) := (hb.cell (p := ⟨b, _, none⟩) hB).trans (hcs k hlt).1
        have e2 : wr.cell? ⟨b, o + k * 2 + 1, none⟩ = some (.int .i64 (fB l k)) := (hb.cell (p := ⟨b, _, none⟩) hB).trans (hcs k hlt).2
        have hltm : k < m.length := by have := HL.out; omega
        have e3 : wr.cell? ⟨b', o' + k * 2, none⟩ = some (.int .i64 (fA m k)) := (hb.cell (p := ⟨b', _, none⟩) hB').trans (hcs' k hltm).1
        have e4 : wr.cell? ⟨b', o' + k * 2 + 1, none⟩ = some (.int .i64 (fB m k)) := (hb.cell (p := ⟨b', _, none⟩) hB').trans (hcs' k hltm).2
        have hkz : (0 : Int) ≤ (k : Int) := by omega
        have hkl : (k : Int) < (l.length : Int) := by omega
        have hkm : (k : Int) < (m.length : Int) := by omega
        clear hcs hr hcs' hs
        go_wp2_with fail
        by_cases h1 : fA l k = fA m k
        · by_cases h2 : fB l k = fB m k
          · have hc : sameAt (fA l k) (fB l k) (fA m k) (fB m k) = true := by simp [sameAt, h1, h2]
            have Hc := Lib.hid hc
            clear hc
            go_quiet (fail)
            clear h1 h2
            go_wp2
            exact ⟨⟨k + 1, hlt, by go_num, eqTo_succ Hto.out Hc.out, below_drewN hb _⟩, by simp [intOf]; omega⟩
          · have hc : sameAt (fA l k) (fB l k) (fA m k) (fB m k) = false := by simp [sameAt, h2]
            have Hc := Lib.hid hc
            clear hc
            go_quiet (fail)
            clear h1 h2
            go_wp2
            go_ret
            exact ⟨ret_bool (by simp [ne_of_not Hc.out]), below_drewN hb _⟩
        · have hc : sameAt (fA l k) (fB l k) (fA m k) (fB m k) = false := by simp [sameAt, h1]
          have Hc := Lib.hid hc
          clear hc
          go_quiet (fail)
          clear h1
          go_wp2
          go_ret
          exact ⟨ret_bool (by simp [ne_of_not Hc.out]), below_drewN hb _⟩
      · clear hr hs
        go_wp2
        go_ret
        have e : l = m := eq_of_eqTo HL.out (by have := Hto.out; rw [show k = l.length by omega] at this; exact this)
        exact ⟨ret_bool (by simp [e]), hb⟩
  · have hl1 : ((l.length : Int) != (m.length : Int)) = true := by simp; omega
    have HL := Lib.hid hl
    clear hl hr hs
    go_enter Try.func16, Try.ntmps16
    go_wp2
    go_ret
    exact ⟨ret_bool (by simp; intro e; exact HL.out (by rw [e])), Below.refl _ _⟩

set_option maxHeartbeats 400000 in
theorem eqTie_any (x y x' y' : Int) (w : World) :
    Calls Try.prog 43 #[.agg #[.int .i64 x, .int .i64 y], .agg #[.int .i64 x', .int .i64 y']] w fun e w' => e = .returned (.bool (sameAt x y x' y')) ∧ Below w.heap.size w w' := by
  have hb : ∀ a b : Array Value, Below w.heap.size w ((w.alloc (.cells a 40)).alloc (.cells b 40)) := fun a b => ((Below.refl _ _).alloc (Nat.le_refl _) _).alloc (by simp) _
  by_cases h1 : x = x'
  · by_cases h2 : y = y'
    · subst h1 h2
      go_enter Try.func43, Try.ntmps43
      go_wp2
      go_ret
      exact ⟨ret_bool (by simp [sameAt]), hb _ _⟩
    · have h2' : (y != y') = true := by simpa using h2
      subst h1
      go_enter Try.func43, Try.ntmps43
      go_wp2
      go_ret
      exact ⟨ret_bool (by simp [sameAt, h2]), hb _ _⟩
  · have h1' : (x != x') = true := by simpa using h1
    go_enter Try.func43, Try.ntmps43
    go_wp2
    go_ret
    exact ⟨ret_bool (by simp [sameAt, h1]), hb _ _⟩

set_option maxHeartbeats 1000000 in
theorem eqTieS_any (A B : Option Addr) (c d : Nat) (l m : List (Int × Int)) (w : World) (hr : Rd w w.heap.size A l) (hs : Rd w w.heap.size B m) (hn : l.length ≤ 1048576) :
    Calls Try.prog 25 #[.slice A l.length c, .slice B m.length d] w fun e w' => e = .returned (.bool (decide (l = m))) ∧ Below w.heap.size w w' := by
  by_cases hl : l.length = m.length
  · have hl1 : ((l.length : Int) != (m.length : Int)) = false := by simp; omega
    have HL := Lib.hid hl
    clear hl
    go_enter Try.func25, Try.ntmps25
    go_wp2
    go_loopw [5] (fun i wr => ∃ k : Nat, k ≤ l.length ∧ i = .int .i64 k ∧ eqTo l m k ∧ Below w.heap.size w wr) (fun i _ => l.length - (intOf i).toNat)
    case atStart => exact ⟨0, Nat.zero_le _, rfl, eqTo_zero l m, Below.refl _ _⟩
    case round =>
      obtain ⟨k, hk, rfl, hto, hb⟩ := hrel
      have Hto := Lib.hid hto
      clear hto
      by_cases hlt : k < l.length
      · obtain ⟨b, o, rfl, hB, hcs⟩ := hr (by omega)
        obtain ⟨b', o', rfl, hB', hcs'⟩ := hs (by have := HL.out; omega)
        have e1 : wr.cell? ⟨b, o + k * 2, none⟩ = some (.int .i64 (fA l k)) := (hb.cell (p := ⟨b, _, none⟩) hB).trans (hcs k hlt).1
        have e2 : wr.cell? ⟨b, o + k * 2 + 1, none⟩ = some (.int .i64 (fB l k)) := (hb.cell (p := ⟨b, _, none⟩) hB).trans (hcs k hlt).2
        have hltm : k < m.length := by have := HL.out; omega
        have e3 : wr.cell? ⟨b', o' + k * 2, none⟩ = some (.int .i64 (fA m k)) := (hb.cell (p := ⟨b', _, none⟩) hB').trans (hcs' k hltm).1
        have e4 : wr.cell? ⟨b', o' + k * 2 + 1, none⟩ = some (.int .i64 (fB m k)) := (hb.cell (p := ⟨b', _, none⟩) hB').trans (hcs' k hltm).2
        have hkz : (0 : Int) ≤ (k : Int) := by omega
        have hkl : (k : Int) < (l.length : Int) := by omega
        have hkm : (k : Int) < (m.length : Int) := by omega
        have hbl : b < wr.heap.size := by have := hb.size; omega
        have hbl' : b' < wr.heap.size := by have := hb.size; omega
        clear hcs hr hcs' hs
        go_wp2_with fail
        cases hc : sameAt (fA l k) (fB l k) (fA m k) (fB m k) with
        | true =>
          refine wp_region_bw (by kernel_rfl) (by kernel_rfl) ?_
          repeat (go_big_quiet_step ((go_at_call 43; exact bw_ret (eqTie_any _ _ _ _ _))))
          refine wpQuiet_nil ?_
          intro wx hx
          go_wp2
          exact ⟨⟨k + 1, hlt, by go_num, eqTo_succ Hto.out hc, hb.trans (hx.mono hb.size)⟩, by simp [intOf]; omega⟩
        | false =>
          refine wp_region_bw (by kernel_rfl) (by kernel_rfl) ?_
          repeat (go_big_quiet_step ((go_at_call 43; exact bw_ret (eqTie_any _ _ _ _ _))))
          refine wpQuiet_nil ?_
          intro wx hx
          go_wp2
          go_ret
          exact ⟨ret_bool (by simp [ne_of_not hc]), hb.trans (hx.mono hb.size)⟩
      · clear hr hs
        go_wp2
        go_ret
        have e : l = m := eq_of_eqTo HL.out (by have := Hto.out; rw [show k = l.length by omega] at this; exact this)
        exact ⟨ret_bool (by simp [e]), hb⟩
  · have hl1 : ((l.length : Int) != (m.length : Int)) = true := by simp; omega
    have HL := Lib.hid hl
    clear hl hr hs
    go_enter Try.func25, Try.ntmps25
    go_wp2
    go_ret
    exact ⟨ret_bool (by simp; intro e; exact HL.out (by rw [e])), Below.refl _ _⟩

def mkTo (k : Int) (i : Nat) (f : Nat → Value) : Nat → Value := fun j => if j < 2 * i then .int .i64 (k + j) else f j

set_option maxHeartbeats 1000000 in
theorem markTieS_any (base : Nat) (A : Option Addr) (c n : Nat) (l : List (Int × Int)) (k : Int) (w : World) (hown : w.ownsRow base 40 2 (.slice A n c) n (cells2 l)) (hn : n ≤ 1048576) (hk0 : 0 ≤ k) (hk1 : k ≤ 1000000000000) :
    Calls Try.prog 28 #[.slice A n c, .int .i64 k] w fun e w' => e = .returned (.int .i64 (k + 2 * n)) ∧ Rd w' w'.heap.size A (mkL k n) ∧ w.grownBy w' (Value.slice A n c).ownBlock := by
  by_cases h0 : n = 0
  · subst h0
    go_enter Try.func28, Try.ntmps28
    go_wp2
    go_loop [1, 5] (fun s i => s = .int .i64 k ∧ i = .int .i64 0) (fun _ _ => 0)
    case atStart => exact ⟨rfl, rfl⟩
    case round =>
      obtain ⟨rfl, rfl⟩ := hrel
      go_wp2
      go_ret
      exact ⟨ret_int (by omega), Rd.nil_, grownBy_refl _ _⟩
  · obtain ⟨g, cap, hv, _, _⟩ := hown.form (by omega)
    injection hv with hA _ _
    subst hA
    have hrow := Row.of_own hown
    clear hown
    go_enter Try.func28, Try.ntmps28
    go_wp2
    go_loopw [1, 5] (fun s i wr => ∃ j : Nat, j ≤ n ∧ i = .int .i64 j ∧ s = .int .i64 (k + 2 * j) ∧ Row wr g 40 (n * 2) (mkTo k j (cellAt l)) ∧ w.grownBy wr (some g)) (fun _ i _ => n - (intOf i).toNat)
    case atStart => exact ⟨0, Nat.zero_le _, rfl, by simp, hrow.congr fun i _ => by simp [mkTo], grownBy_refl _ _⟩
    case round =>
      obtain ⟨j, hj, rfl, rfl, hro, hg⟩ := hrel
      by_cases hlt : j < n
      · have c1 := hro.cell (i := j * 2) (by omega)
        have c2 : ∀ u, (wr.setCell ⟨g, j * 2, none⟩ u).cell? ⟨g, j * 2 + 1, none⟩ = some (mkTo k j (cellAt l) (j * 2 + 1)) := fun u => by
          have := (hro.set (j * 2) u).cell (i := j * 2 + 1) (by omega)
          rw [if_neg (by omega)] at this
          exact this
        have f1 := hro.frozen (j * 2)
        have f2 : ∀ u, (wr.setCell ⟨g, j * 2, none⟩ u).frozen? ⟨g, j * 2 + 1, none⟩ = false := fun u => (hro.set (j * 2) u).frozen _
        clear hrow
        go_wp2
        have hro' := (hro.set (j * 2) (.int .i64 (k + 2 * j))).set (j * 2 + 1) (.int .i64 (k + 2 * j + 1))
        refine ⟨⟨j + 1, hlt, by go_num, by go_num, hro'.congr fun i hi => ?_, grownBy_set (grownBy_set hg _ _) _ _⟩, by simp [intOf]; omega⟩
        unfold mkTo
        by_cases e1 : i = j * 2 + 1
        · rw [if_pos e1, if_pos (by omega)]; congr 1; omega
        · rw [if_neg e1]
          by_cases e2 : i = j * 2
          · rw [if_pos e2, if_pos (by omega)]; congr 1; omega
          · rw [if_neg e2]
            by_cases e3 : i < 2 * j
            · rw [if_pos e3, if_pos (by omega)]
            · rw [if_neg e3, if_neg (by omega)]
      · go_wp2
        go_ret
        have e : j = n := by omega
        subst e
        refine ⟨ret_int rfl, ?_, hg⟩
        refine Row.rd (E := 40) ?_
        rw [length_mkL]
        refine hro.congr fun i hi => ?_
        unfold mkTo cellAt
        rw [if_pos (by omega)]
        by_cases e : i % 2 = 0
        · rw [if_pos e, fA_mkL _ _ _ (by omega)]; congr 1; omega
        · rw [if_neg e, fB_mkL _ _ _ (by omega)]; congr 1; omega

set_option maxHeartbeats 1000000 in
theorem heldTieS_any (A : Option Addr) (c n : Nat) (k : Int) (w : World) (hr : Rd w w.heap.size A (mkL k n)) (hn : n ≤ 1048576) (hk0 : 0 ≤ k) (hk1 : k ≤ 1000000000000) :
    Calls Try.prog 29 #[.slice A n c, .int .i64 k] w fun e w' => e = .returned (.int .i64 (k + 2 * n)) ∧ w = w' := by
  go_enter Try.func29, Try.ntmps29
  go_wp2
  go_loop [1, 5] (fun s i => ∃ j : Nat, j ≤ n ∧ i = .int .i64 j ∧ s = .int .i64 (k + 2 * j)) (fun _ i => n - (intOf i).toNat)
  case atStart => exact ⟨0, Nat.zero_le _, rfl, by simp⟩
  case round =>
    obtain ⟨j, hj, rfl, rfl⟩ := hrel
    by_cases hlt : j < n
    · obtain ⟨b, o, rfl, hB, hcs⟩ := hr (by rw [length_mkL]; omega)
      obtain ⟨c1, c2⟩ := hcs j (by rw [length_mkL]; exact hlt)
      rw [fA_mkL k n j hlt] at c1
      rw [fB_mkL k n j hlt] at c2
      clear hcs hr
      go_wp2
      exact ⟨⟨j + 1, hlt, by go_num, by go_num⟩, by simp [intOf]; omega⟩
    · clear hr
      go_wp2
      go_ret
      have e : j = n := by omega
      subst e
      exact ⟨rfl, rfl⟩

set_option maxHeartbeats 400000 in
theorem szTieS_any (A : Option Addr) (c n : Nat) (left : Int) (w : World) (hn : n ≤ 9223372036854775807) (h0 : 0 ≤ left) (h1 : left ≤ 1048576) :
    Calls Try.prog 22 #[.slice A n c, .int .i64 left] w fun e w' => e = .returned (.int .i64 (if left < n then -1 else left - n)) ∧ w = w' := by
  by_cases h : left < n
  · go_enter Try.func22, Try.ntmps22
    go_wp2
    go_ret
    exact ⟨ret_int rfl, rfl⟩
  · go_enter Try.func22, Try.ntmps22
    go_wp2
    go_ret
    exact ⟨ret_int rfl, rfl⟩

set_option maxHeartbeats 400000 in
theorem toTie_any (x y : Int) (w : World) :
    Calls Try.prog 42 #[.agg #[.int .i64 x, .int .i64 y]] w fun e w' => e = .returned (.agg #[.int .i64 x, .int .i64 y]) ∧ Below w.heap.size w w' := by
  go_enter Try.func42, Try.ntmps42
  go_wp2
  refine bodyPost_ret (v := .agg #[.int .i64 x, .int .i64 y]) (by simp [results, Try.results42, go_sem]) rfl ⟨rfl, ?_⟩
  exact (((Below.refl _ _).alloc (Nat.le_refl _) _).alloc (by simp) _).alloc (by simp; omega) _

def toTo (l : List (Int × Int)) (k : Nat) : Nat → Value := fun j => if j < 2 * k then cellAt l j else .int .i64 0

set_option maxHeartbeats 1000000 in
theorem toTieS_any (A : Option Addr) (c : Nat) (l : List (Int × Int)) (w : World) (hr : Rd w w.heap.size A l) (hn : l.length ≤ 1048576) :
    Calls Try.prog 24 #[.slice A l.length c] w (RetS w 40 l) := by
  have hmk := run_make2 (P := Try.prog) Try.underlying23 infoTie l.length (by omega)
  go_enter Try.func24, Try.ntmps24
  go_wp2
  clear hmk
  have hb0 : Below w.heap.size w (w.alloc (.cells (madeCells #[.int .i64 0, .int .i64 0] (l.length * 2)) 40)) := (Below.refl _ _).alloc (Nat.le_refl _) _
  have hr0 : (w.alloc (.cells (madeCells #[.int .i64 0, .int .i64 0] (l.length * 2)) 40)).rowIs w.heap.size 40 (l.length * 2) (toTo l 0) := (rowIs_made2 w l.length 40).congr fun i _ => by simp [toTo]
  go_loopw [4] (fun i wr => ∃ k : Nat, k ≤ l.length ∧ i = .int .i64 k ∧ wr.rowIs w.heap.size 40 (l.length * 2) (toTo l k) ∧ Below w.heap.size w wr) (fun i _ => l.length - (intOf i).toNat)
  case atStart => exact ⟨0, Nat.zero_le _, rfl, hr0, hb0⟩
  case round =>
    obtain ⟨k, hk, rfl, hro, hb⟩ := hrel
    clear hr0 hb0
    by_cases hlt : k < l.length
    · obtain ⟨b, o, rfl, hB, hcs⟩ := hr (by omega)
      have e1 : wr.cell? ⟨b, o + k * 2, none⟩ = some (.int .i64 (fA l k)) := (hb.cell (p := ⟨b, _, none⟩) hB).trans (hcs k hlt).1
      have e2 : wr.cell? ⟨b, o + k * 2 + 1, none⟩ = some (.int .i64 (fB l k)) := (hb.cell (p := ⟨b, _, none⟩) hB).trans (hcs k hlt).2
      clear hcs hr
      go_wp2_with fail
      refine (toTie_any _ _ _).mono ?_
      rintro e wx ⟨rfl, hx⟩
      have hro1 := hro.of_block (hx.block _ hro.lt)
      have hb1 : Below w.heap.size w wx := hb.trans (hx.mono hb.size)
      clear hro hb hx e1 e2
      have c1 := hro1.cell (i := k * 2) (by omega)
      have c2 := hro1.cell (i := k * 2 + 1) (by omega)
      have c3 : ∀ u, (wx.setCell ⟨w.heap.size, k * 2, none⟩ u).cell? ⟨w.heap.size, k * 2 + 1, none⟩ = some (toTo l k (k * 2 + 1)) := fun u => by
        have := (hro1.set (k * 2) u).cell (i := k * 2 + 1) (by omega)
        rw [if_neg (by omega)] at this
        exact this
      have f1 := hro1.frozen (k * 2)
      have f2 := hro1.frozen (k * 2 + 1)
      have f3 : ∀ u, (wx.setCell ⟨w.heap.size, k * 2, none⟩ u).frozen? ⟨w.heap.size, k * 2 + 1, none⟩ = false := fun u => (hro1.set (k * 2) u).frozen _
      go_wp2
      have hro2 := (hro1.set (k * 2) (.int .i64 (fA l k))).set (k * 2 + 1) (.int .i64 (fB l k))
      refine ⟨⟨k + 1, hlt, by go_num, hro2.congr fun i hi => ?_, (hb1.setCell (p := ⟨w.heap.size, _, none⟩) (Nat.le_refl _) _).setCell (p := ⟨w.heap.size, _, none⟩) (Nat.le_refl _) _⟩, by simp [intOf]; omega⟩
      unfold toTo
      by_cases q1 : i = k * 2 + 1
      · rw [if_pos q1, if_pos (by omega), q1, cellAt, if_neg (by omega), show (k * 2 + 1) / 2 = k by omega]
      · rw [if_neg q1]
        by_cases q2 : i = k * 2
        · rw [if_pos q2, if_pos (by omega), q2, cellAt, if_pos (by omega), show k * 2 / 2 = k by omega]
        · rw [if_neg q2]
          by_cases q3 : i < 2 * k
          · rw [if_pos q3, if_pos (by omega)]
          · rw [if_neg q3, if_neg (by omega)]
    · clear hr
      go_wp2
      go_ret
      refine ⟨_, l.length, rfl, ?_, hb⟩
      refine own_of_row (E := 40) (hro.congr fun i hi => ?_) (Nat.le_refl _) (by omega)
      unfold toTo
      rw [if_pos (by omega)]


end Go.Proofs.Ytihkdbgnoncgnaa
