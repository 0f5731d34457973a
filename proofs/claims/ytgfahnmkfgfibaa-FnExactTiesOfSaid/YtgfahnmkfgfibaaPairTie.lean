/- Contracts of the tests' own functions on lists of pairs (Tie): comparing, copying, marking. No condition but that the lists have at most 1048576 elements. -/
import Derived.Test.YtgfahnmkfgfibaaPlan
import Derived.Test.YtgfahnmkfgfibaaProg
import Derived.Laws.StructEq
namespace Go.Proofs.Ytgfahnmkfgfibaa
open Go.RowKit

theorem infoTie : (Try.prog.info? 70).map (fun i => (i.zero, i.size, i.bytes)) = some (some (.agg #[.int .i64 0, .int .i64 0]), 2, 16) := by kernel_rfl
theorem guardTie : Try.prog.eqGuardType Try.prog.depth 70 = false := by kernel_rfl
theorem grdTie (op : BinOp) (xo yo : Operand) (u v : Array Value) (w : World) : (eqGuard op 70 xo yo (.agg u) (.agg v)).run Try.prog w = .ok () w := by
  cases op <;> first | (simp [eqGuard]; done) | (simp [eqGuard, guardTie]; done)
attribute [local go_sem] grdTie

set_option maxHeartbeats 1000000 in
theorem sameTies_any (A B : Option Addr) (c d : Nat) (l m : List (Int × Int)) (w : World) (hr : Rd w w.heap.size A l) (hs : Rd w w.heap.size B m) (hn : l.length ≤ 1048576) :
    Calls Try.prog 42 #[.slice A l.length c, .slice B m.length d] w fun e w' => e = .returned (.bool (decide (l = m))) ∧ Below w.heap.size w w' := by
  by_cases hl : l.length = m.length
  · have hl1 : ((l.length : Int) != (m.length : Int)) = false := by simp; omega
    have HL := Lib.hid hl
    clear hl
    go_enter Try.func42, Try.ntmps42
    go_wp2
    go_loopw [5] (fun i wr => ∃ k : Nat, k ≤ l.length ∧ i = .int .i64 k ∧ eqTo l m k ∧ Below w.heap.size w wr) (fun i _ => l.length - (intOf i).toNat)
    case atStart => exact ⟨0, Nat.zero_le _, rfl, eqTo_zero l m, Below.refl _ _⟩
    case round =>
      obtain ⟨k, hk, rfl, hto, hb⟩ := hrel
      have Hto := Lib.hid hto
      clear hto
      by_cases hlt : k < l.length
      · obtain ⟨b, o, rfl, hB, hcs⟩ := hr (by omega)
        obtain ⟨b', o', rfl, hB', hcs'⟩ := hs (by have := HL.out; omega)
        have e1 : wr.cell? ⟨b, o + k * 2, none⟩ = some (.int .i64 (fA l k)) := (hb.cell (p := ⟨b, _, none⟩) hB).trans (hcs k hlt).1
        have e2 : wr.cell? ⟨b, o + k * 2 + 1, none⟩ = some (.int .i64 (fB l k)) := (hb.cell (p := ⟨b, _, none⟩) hB).trans (hcs k hlt).2
        have hltm : k < m.length := by have := HL.out; omega
        have e3 : wr.cell? ⟨b', o' + k * 2, none⟩ = some (.int .i64 (fA m k)) := (hb.cell (p := ⟨b', _, none⟩) hB').trans (hcs' k hltm).1
        have e4 : wr.cell? ⟨b', o' + k * 2 + 1, none⟩ = some (.int .i64 (fB m k)) := (hb.cell (p := ⟨b', _, none⟩) hB').trans (hcs' k hltm).2
        have hkz : (0 : Int) ≤ (k : Int) := by omega
        have hkl : (k : Int) < (l.length : Int) := by omega
        have hkm : (k : Int) < (m.length : Int) := by omega
        clear hcs hr hcs' hs
        go_wp2_with fail
        by_cases h1 : fA l k = fA m k
        · by_cases h2 : fB l k = fB m k
          · have hc : sameAt (fA l k) (fB l k) (fA m k) (fB m k) = true := by simp [sameAt, h1, h2]
            have Hc := Lib.hid hc
            clear hc
            go_quiet (fail)
            clear h1 h2
            go_wp2
            exact ⟨⟨k + 1, hlt, by go_num, eqTo_succ Hto.out Hc.out, below_drewN hb _⟩, by simp [intOf]; omega⟩
          · have hc : sameAt (fA l k) (fB l k) (fA m k) (fB m k) = false := by simp [sameAt, h2]
            have Hc := Lib.hid hc
            clear hc
            go_quiet (fail)
            clear h1 h2
            go_wp2
            go_ret
            exact ⟨ret_bool (by simp [ne_of_not Hc.out]), below_drewN hb _⟩
        · have hc : sameAt (fA l k) (fB l k) (fA m k) (fB m k) = false := by simp [sameAt, h1]
          have Hc := Lib.hid hc
          clear hc
          go_quiet (fail)
          clear h1
          go_wp2
          go_ret
          exact ⟨ret_bool (by simp [ne_of_not Hc.out]), below_drewN hb _⟩
      · clear hr hs
        go_wp2
        go_ret
        have e : l = m := eq_of_eqTo HL.out (by have := Hto.out; rw [show k = l.length by omega] at this; exact this)
        exact ⟨ret_bool (by simp [e]), hb⟩
  · have hl1 : ((l.length : Int) != (m.length : Int)) = true := by simp; omega
    have HL := Lib.hid hl
    clear hl hr hs
    go_enter Try.func42, Try.ntmps42
    go_wp2
    go_ret
    exact ⟨ret_bool (by simp; intro e; exact HL.out (by rw [e])), Below.refl _ _⟩

set_option maxHeartbeats 400000 in
theorem eqTie_any (x y x' y' : Int) (w : World) :
    Calls Try.prog 58 #[.agg #[.int .i64 x, .int .i64 y], .agg #[.int .i64 x', .int .i64 y']] w fun e w' => e = .returned (.bool (sameAt x y x' y')) ∧ Below w.heap.size w w' := by
  have hb : ∀ a b : Array Value, Below w.heap.size w ((w.alloc (.cells a 70)).alloc (.cells b 70)) := fun a b => ((Below.refl _ _).alloc (Nat.le_refl _) _).alloc (by simp) _
  by_cases h1 : x = x'
  · by_cases h2 : y = y'
    · subst h1 h2
      go_enter Try.func58, Try.ntmps58
      go_wp2
      go_ret
      exact ⟨ret_bool (by simp [sameAt]), hb _ _⟩
    · have h2' : (y != y') = true := by simpa using h2
      subst h1
      go_enter Try.func58, Try.ntmps58
      go_wp2
      go_ret
      exact ⟨ret_bool (by simp [sameAt, h2]), hb _ _⟩
  · have h1' : (x != x') = true := by simpa using h1
    go_enter Try.func58, Try.ntmps58
    go_wp2
    go_ret
    exact ⟨ret_bool (by simp [sameAt, h1]), hb _ _⟩

set_option maxHeartbeats 1000000 in
theorem eqTieS_any (A B : Option Addr) (c d : Nat) (l m : List (Int × Int)) (w : World) (hr : Rd w w.heap.size A l) (hs : Rd w w.heap.size B m) (hn : l.length ≤ 1048576) :
    Calls Try.prog 38 #[.slice A l.length c, .slice B m.length d] w fun e w' => e = .returned (.bool (decide (l = m))) ∧ Below w.heap.size w w' := by
  by_cases hl : l.length = m.length
  · have hl1 : ((l.length : Int) != (m.length : Int)) = false := by simp; omega
    have HL := Lib.hid hl
    clear hl
    go_enter Try.func38, Try.ntmps38
    go_wp2
    go_loopw [5] (fun i wr => ∃ k : Nat, k ≤ l.length ∧ i = .int .i64 k ∧ eqTo l m k ∧ Below w.heap.size w wr) (fun i _ => l.length - (intOf i).toNat)
    case atStart => exact ⟨0, Nat.zero_le _, rfl, eqTo_zero l m, Below.refl _ _⟩
    case round =>
      obtain ⟨k, hk, rfl, hto, hb⟩ := hrel
      have Hto := Lib.hid hto
      clear hto
      by_cases hlt : k < l.length
      · obtain ⟨b, o, rfl, hB, hcs⟩ := hr (by omega)
        obtain ⟨b', o', rfl, hB', hcs'⟩ := hs (by have := HL.out; omega)
        have e1 : wr.cell? ⟨b, o + k * 2, none⟩ = some (.int .i64 (fA l k)) := (hb.cell (p := ⟨b, _, none⟩) hB).trans (hcs k hlt).1
        have e2 : wr.cell? ⟨b, o + k * 2 + 1, none⟩ = some (.int .i64 (fB l k)) := (hb.cell (p := ⟨b, _, none⟩) hB).trans (hcs k hlt).2
        have hltm : k < m.length := by have := HL.out; omega
        have e3 : wr.cell? ⟨b', o' + k * 2, none⟩ = some (.int .i64 (fA m k)) := (hb.cell (p := ⟨b', _, none⟩) hB').trans (hcs' k hltm).1
        have e4 : wr.cell? ⟨b', o' + k * 2 + 1, none⟩ = some (.int .i64 (fB m k)) := (hb.cell (p := ⟨b', _, none⟩) hB').trans (hcs' k hltm).2
        have hkz : (0 : Int) ≤ (k : Int) := by omega
        have hkl : (k : Int) < (l.length : Int) := by omega
        have hkm : (k : Int) < (m.length : Int) := by omega
        have hbl : b < wr.heap.size := by have := hb.size; omega
        have hbl' : b' < wr.heap.size := by have := hb.size; omega
        clear hcs hr hcs' hs
        go_wp2_with fail
        cases hc : sameAt (fA l k) (fB l k) (fA m k) (fB m k) with
        | true =>
          refine wp_region_bw (by kernel_rfl) (by kernel_rfl) ?_
          repeat (go_big_quiet_step ((go_at_call 58; exact bw_ret (eqTie_any _ _ _ _ _))))
          refine wpQuiet_nil ?_
          intro wx hx
          go_wp2
          exact ⟨⟨k + 1, hlt, by go_num, eqTo_succ Hto.out hc, hb.trans (hx.mono hb.size)⟩, by simp [intOf]; omega⟩
        | false =>
          refine wp_region_bw (by kernel_rfl) (by kernel_rfl) ?_
          repeat (go_big_quiet_step ((go_at_call 58; exact bw_ret (eqTie_any _ _ _ _ _))))
          refine wpQuiet_nil ?_
          intro wx hx
          go_wp2
          go_ret
          exact ⟨ret_bool (by simp [ne_of_not hc]), hb.trans (hx.mono hb.size)⟩
      · clear hr hs
        go_wp2
        go_ret
        have e : l = m := eq_of_eqTo HL.out (by have := Hto.out; rw [show k = l.length by omega] at this; exact this)
        exact ⟨ret_bool (by simp [e]), hb⟩
  · have hl1 : ((l.length : Int) != (m.length : Int)) = true := by simp; omega
    have HL := Lib.hid hl
    clear hl hr hs
    go_enter Try.func38, Try.ntmps38
    go_wp2
    go_ret
    exact ⟨ret_bool (by simp; intro e; exact HL.out (by rw [e])), Below.refl _ _⟩

def mkTo (k : Int) (i : Nat) (f : Nat → Value) : Nat → Value := fun j => if j < 2 * i then .int .i64 (k + j) else f j

set_option maxHeartbeats 1000000 in
theorem markTieS_any (base : Nat) (A : Option Addr) (c n : Nat) (l : List (Int × Int)) (k : Int) (w : World) (hown : w.ownsRow base 70 2 (.slice A n c) n (cells2 l)) (hn : n ≤ 1048576) (hk0 : 0 ≤ k) (hk1 : k ≤ 1000000000000) :
    Calls Try.prog 39 #[.slice A n c, .int .i64 k] w fun e w' => e = .returned (.int .i64 (k + 2 * n)) ∧ Rd w' w'.heap.size A (mkL k n) ∧ w.grownBy w' (Value.slice A n c).ownBlock := by
  by_cases h0 : n = 0
  · subst h0
    go_enter Try.func39, Try.ntmps39
    go_wp2
    go_loop [1, 5] (fun s i => s = .int .i64 k ∧ i = .int .i64 0) (fun _ _ => 0)
    case atStart => exact ⟨rfl, rfl⟩
    case round =>
      obtain ⟨rfl, rfl⟩ := hrel
      go_wp2
      go_ret
      exact ⟨ret_int (by omega), Rd.nil_, grownBy_refl _ _⟩
  · obtain ⟨g, cap, hv, _, _⟩ := hown.form (by omega)
    injection hv with hA _ _
    subst hA
    have hrow := Row.of_own hown
    clear hown
    go_enter Try.func39, Try.ntmps39
    go_wp2
    go_loopw [1, 5] (fun s i wr => ∃ j : Nat, j ≤ n ∧ i = .int .i64 j ∧ s = .int .i64 (k + 2 * j) ∧ Row wr g 70 (n * 2) (mkTo k j (cellAt l)) ∧ w.grownBy wr (some g)) (fun _ i _ => n - (intOf i).toNat)
    case atStart => exact ⟨0, Nat.zero_le _, rfl, by simp, hrow.congr fun i _ => by simp [mkTo], grownBy_refl _ _⟩
    case round =>
      obtain ⟨j, hj, rfl, rfl, hro, hg⟩ := hrel
      by_cases hlt : j < n
      · have c1 := hro.cell (i := j * 2) (by omega)
        have c2 : ∀ u, (wr.setCell ⟨g, j * 2, none⟩ u).cell? ⟨g, j * 2 + 1, none⟩ = some (mkTo k j (cellAt l) (j * 2 + 1)) := fun u => by
          have := (hro.set (j * 2) u).cell (i := j * 2 + 1) (by omega)
          rw [if_neg (by omega)] at this
          exact this
        have f1 := hro.frozen (j * 2)
        have f2 : ∀ u, (wr.setCell ⟨g, j * 2, none⟩ u).frozen? ⟨g, j * 2 + 1, none⟩ = false := fun u => (hro.set (j * 2) u).frozen _
        clear hrow
        go_wp2
        have hro' := (hro.set (j * 2) (.int .i64 (k + 2 * j))).set (j * 2 + 1) (.int .i64 (k + 2 * j + 1))
        refine ⟨⟨j + 1, hlt, by go_num, by go_num, hro'.congr fun i hi => ?_, grownBy_set (grownBy_set hg _ _) _ _⟩, by simp [intOf]; omega⟩
        unfold mkTo
        by_cases e1 : i = j * 2 + 1
        · rw [if_pos e1, if_pos (by omega)]; congr 1; omega
        · rw [if_neg e1]
          by_cases e2 : i = j * 2
          · rw [if_pos e2, if_pos (by omega)]; congr 1; omega
          · rw [if_neg e2]
            by_cases e3 : i < 2 * j
            · rw [if_pos e3, if_pos (by omega)]
            · rw [if_neg e3, if_neg (by omega)]
      · go_wp2
        go_ret
        have e : j = n := by omega
        subst e
        refine ⟨ret_int rfl, ?_, hg⟩
        refine Row.rd (E := 70) ?_
        rw [length_mkL]
        refine hro.congr fun i hi => ?_
        unfold mkTo cellAt
        rw [if_pos (by omega)]
        by_cases e : i % 2 = 0
        · rw [if_pos e, fA_mkL _ _ _ (by omega)]; congr 1; omega
        · rw [if_neg e, fB_mkL _ _ _ (by omega)]; congr 1; omega

set_option maxHeartbeats 1000000 in
theorem heldTieS_any (A : Option Addr) (c n : Nat) (k : Int) (w : World) (hr : Rd w w.heap.size A (mkL k n)) (hn : n ≤ 1048576) (hk0 : 0 ≤ k) (hk1 : k ≤ 1000000000000) :
    Calls Try.prog 40 #[.slice A n c, .int .i64 k] w fun e w' => e = .returned (.int .i64 (k + 2 * n)) ∧ w = w' := by
  go_enter Try.func40, Try.ntmps40
  go_wp2
  go_loop [1, 5] (fun s i => ∃ j : Nat, j ≤ n ∧ i = .int .i64 j ∧ s = .int .i64 (k + 2 * j)) (fun _ i => n - (intOf i).toNat)
  case atStart => exact ⟨0, Nat.zero_le _, rfl, by simp⟩
  case round =>
    obtain ⟨j, hj, rfl, rfl⟩ := hrel
    by_cases hlt : j < n
    · obtain ⟨b, o, rfl, hB, hcs⟩ := hr (by rw [length_mkL]; omega)
      obtain ⟨c1, c2⟩ := hcs j (by rw [length_mkL]; exact hlt)
      rw [fA_mkL k n j hlt] at c1
      rw [fB_mkL k n j hlt] at c2
      clear hcs hr
      go_wp2
      exact ⟨⟨j + 1, hlt, by go_num, by go_num⟩, by simp [intOf]; omega⟩
    · clear hr
      go_wp2
      go_ret
      have e : j = n := by omega
      subst e
      exact ⟨rfl, rfl⟩


end Go.Proofs.Ytgfahnmkfgfibaa
