/- Contracts of the tests' own functions on lists of integers: comparing, copying, marking. No condition but that the lists have at most 1048576 elements. -/
import Derived.Test.YtbdhnfligfpigaaPlan
import Derived.Test.YtbdhnfligfpigaaProg
namespace Go.Proofs.Ytbdhnfligfpigaa
open Go.RowKit

theorem infoI64 : (Try.prog.info? 3).map (fun i => (i.zero, i.size, i.bytes)) = some (some (.int .i64 0), 1, 8) := by kernel_rfl
def eqToI (l m : List Int) (k : Nat) : Prop := ∀ j, j < k → gI l j = gI m j
theorem eqToI_zero (l m : List Int) : eqToI l m 0 := fun j hj => absurd hj (by omega)
theorem eqToI_succ {l m : List Int} {k : Nat} (h : eqToI l m k) (hs : gI l k = gI m k) : eqToI l m (k + 1) := by
  intro j hj
  by_cases e : j = k
  · subst e; exact hs
  · exact h j (by omega)
theorem eq_of_eqToI {l m : List Int} (hl : l.length = m.length) (h : eqToI l m l.length) : l = m := by
  apply List.ext_getElem hl
  intro j h1 h2
  have := h j h1
  rwa [gI_lt h1, gI_lt h2] at this

set_option maxHeartbeats 1000000 in
theorem eqIntS_any (A B : Option Addr) (c d : Nat) (l m : List Int) (w : World) (hr : RdI w w.heap.size .i64 A l) (hs : RdI w w.heap.size .i64 B m) (hn : l.length ≤ 1048576) :
    Calls Try.prog 19 #[.slice A l.length c, .slice B m.length d] w fun e w' => e = .returned (.bool (decide (l = m))) ∧ Below w.heap.size w w' := by
  by_cases hl : l.length = m.length
  · have hl1 : ((l.length : Int) != (m.length : Int)) = false := by simp; omega
    have HL := Lib.hid hl
    clear hl
    go_enter Try.func19, Try.ntmps19
    go_wp2
    go_loopw [5] (fun i wr => ∃ k : Nat, k ≤ l.length ∧ i = .int .i64 k ∧ eqToI l m k ∧ Below w.heap.size w wr) (fun i _ => l.length - (intOf i).toNat)
    case atStart => exact ⟨0, Nat.zero_le _, rfl, eqToI_zero l m, Below.refl _ _⟩
    case round =>
      obtain ⟨k, hk, rfl, hto, hb⟩ := hrel
      have Hto := Lib.hid hto
      clear hto
      by_cases hlt : k < l.length
      · obtain ⟨b, o, rfl, hB, hcs⟩ := hr (by omega)
        obtain ⟨b', o', rfl, hB', hcs'⟩ := hs (by have := HL.out; omega)
        have e1 : wr.cell? ⟨b, o + k, none⟩ = some (.int .i64 (gI l k)) := (hb.cell (p := ⟨b, _, none⟩) hB).trans (hcs k hlt)
        have hltm : k < m.length := by have := HL.out; omega
        have e3 : wr.cell? ⟨b', o' + k, none⟩ = some (.int .i64 (gI m k)) := (hb.cell (p := ⟨b', _, none⟩) hB').trans (hcs' k hltm)
        have hkz : (0 : Int) ≤ (k : Int) := by omega
        have hkl : (k : Int) < (l.length : Int) := by omega
        have hkm : (k : Int) < (m.length : Int) := by omega
        have hbl : b < wr.heap.size := by have := hb.size; omega
        have hbl' : b' < wr.heap.size := by have := hb.size; omega
        clear hcs hr hcs' hs
        by_cases hc : gI l k = gI m k
        · have g1 : (gI l k != gI m k) = false := by simp [hc]
          have HC := Lib.hid hc
          clear hc
          go_wp2_with fail
          go_quiet (fail)
          go_wp2
          exact ⟨⟨k + 1, hlt, by go_num, eqToI_succ Hto.out HC.out, below_drewN hb _⟩, by simp [intOf]; omega⟩
        · have g1 : (gI l k != gI m k) = true := by simp [hc]
          go_wp2_with fail
          go_quiet (fail)
          go_wp2
          go_ret
          exact ⟨ret_bool (by simp; rintro rfl; exact hc rfl), below_drewN hb _⟩
      · clear hr hs
        go_wp2
        go_ret
        have e : l = m := eq_of_eqToI HL.out (by have := Hto.out; rw [show k = l.length by omega] at this; exact this)
        exact ⟨ret_bool (by simp [e]), hb⟩
  · have hl1 : ((l.length : Int) != (m.length : Int)) = true := by simp; omega
    have HL := Lib.hid hl
    clear hl hr hs
    go_enter Try.func19, Try.ntmps19
    go_wp2
    go_ret
    exact ⟨ret_bool (by simp; intro e; exact HL.out (by rw [e])), Below.refl _ _⟩

set_option maxHeartbeats 1000000 in
theorem sameInts_any (A B : Option Addr) (c d : Nat) (l m : List Int) (w : World) (hr : RdI w w.heap.size .i64 A l) (hs : RdI w w.heap.size .i64 B m) (hn : l.length ≤ 1048576) :
    Calls Try.prog 26 #[.slice A l.length c, .slice B m.length d] w fun e w' => e = .returned (.bool (decide (l = m))) ∧ Below w.heap.size w w' := by
  by_cases hl : l.length = m.length
  · have hl1 : ((l.length : Int) != (m.length : Int)) = false := by simp; omega
    have HL := Lib.hid hl
    clear hl
    go_enter Try.func26, Try.ntmps26
    go_wp2
    go_loopw [5] (fun i wr => ∃ k : Nat, k ≤ l.length ∧ i = .int .i64 k ∧ eqToI l m k ∧ Below w.heap.size w wr) (fun i _ => l.length - (intOf i).toNat)
    case atStart => exact ⟨0, Nat.zero_le _, rfl, eqToI_zero l m, Below.refl _ _⟩
    case round =>
      obtain ⟨k, hk, rfl, hto, hb⟩ := hrel
      have Hto := Lib.hid hto
      clear hto
      by_cases hlt : k < l.length
      · obtain ⟨b, o, rfl, hB, hcs⟩ := hr (by omega)
        obtain ⟨b', o', rfl, hB', hcs'⟩ := hs (by have := HL.out; omega)
        have e1 : wr.cell? ⟨b, o + k, none⟩ = some (.int .i64 (gI l k)) := (hb.cell (p := ⟨b, _, none⟩) hB).trans (hcs k hlt)
        have hltm : k < m.length := by have := HL.out; omega
        have e3 : wr.cell? ⟨b', o' + k, none⟩ = some (.int .i64 (gI m k)) := (hb.cell (p := ⟨b', _, none⟩) hB').trans (hcs' k hltm)
        have hkz : (0 : Int) ≤ (k : Int) := by omega
        have hkl : (k : Int) < (l.length : Int) := by omega
        have hkm : (k : Int) < (m.length : Int) := by omega
        have hbl : b < wr.heap.size := by have := hb.size; omega
        have hbl' : b' < wr.heap.size := by have := hb.size; omega
        clear hcs hr hcs' hs
        by_cases hc : gI l k = gI m k
        · have g1 : (gI l k != gI m k) = false := by simp [hc]
          have HC := Lib.hid hc
          clear hc
          go_wp2_with fail
          go_quiet (fail)
          go_wp2
          exact ⟨⟨k + 1, hlt, by go_num, eqToI_succ Hto.out HC.out, below_drewN hb _⟩, by simp [intOf]; omega⟩
        · have g1 : (gI l k != gI m k) = true := by simp [hc]
          go_wp2_with fail
          go_quiet (fail)
          go_wp2
          go_ret
          exact ⟨ret_bool (by simp; rintro rfl; exact hc rfl), below_drewN hb _⟩
      · clear hr hs
        go_wp2
        go_ret
        have e : l = m := eq_of_eqToI HL.out (by have := Hto.out; rw [show k = l.length by omega] at this; exact this)
        exact ⟨ret_bool (by simp [e]), hb⟩
  · have hl1 : ((l.length : Int) != (m.length : Int)) = true := by simp; omega
    have HL := Lib.hid hl
    clear hl hr hs
    go_enter Try.func26, Try.ntmps26
    go_wp2
    go_ret
    exact ⟨ret_bool (by simp; intro e; exact HL.out (by rw [e])), Below.refl _ _⟩

def toToI (l : List Int) (k : Nat) : Nat → Value := fun j => if j < k then .int .i64 (gI l j) else .int .i64 0

set_option maxHeartbeats 1000000 in
theorem toIntS_any (A : Option Addr) (c : Nat) (l : List Int) (w : World) (hr : RdI w w.heap.size .i64 A l) (hn : l.length ≤ 1048576) :
    Calls Try.prog 17 #[.slice A l.length c] w (RetI w 3 l) := by
  have hmk := run_make1 (P := Try.prog) Try.underlying22 infoI64 (by omega) l.length (by omega)
  go_enter Try.func17, Try.ntmps17
  go_wp2
  clear hmk
  have hb0 : Below w.heap.size w (w.alloc (.cells (madeCells #[.int .i64 0] l.length) 3)) := (Below.refl _ _).alloc (Nat.le_refl _) _
  have hr0 : (w.alloc (.cells (madeCells #[.int .i64 0] l.length) 3)).rowIs w.heap.size 3 l.length (toToI l 0) := by
    refine ⟨_, heap_alloc_new _ _, size_madeCells _ _, fun i hi => ?_⟩
    simp [madeCells, hi, toToI, Nat.mod_one]
  go_loopw [4] (fun i wr => ∃ k : Nat, k ≤ l.length ∧ i = .int .i64 k ∧ wr.rowIs w.heap.size 3 l.length (toToI l k) ∧ Below w.heap.size w wr) (fun i _ => l.length - (intOf i).toNat)
  case atStart => exact ⟨0, Nat.zero_le _, rfl, hr0, hb0⟩
  case round =>
    obtain ⟨k, hk, rfl, hro, hb⟩ := hrel
    clear hr0 hb0
    by_cases hlt : k < l.length
    · obtain ⟨b, o, rfl, hB, hcs⟩ := hr (by omega)
      have e1 : wr.cell? ⟨b, o + k, none⟩ = some (.int .i64 (gI l k)) := (hb.cell (p := ⟨b, _, none⟩) hB).trans (hcs k hlt)
      have c1 := hro.cell (i := k) (by omega)
      have f1 := hro.frozen k
      clear hcs hr
      go_wp2
      refine ⟨⟨k + 1, hlt, by go_num, (hro.set k (.int .i64 (gI l k))).congr fun i hi => ?_, hb.setCell (p := ⟨w.heap.size, _, none⟩) (Nat.le_refl _) _⟩, by simp [intOf]; omega⟩
      unfold toToI
      by_cases q1 : i = k
      · rw [if_pos q1, if_pos (by omega), q1]
      · rw [if_neg q1]
        by_cases q3 : i < k
        · rw [if_pos q3, if_pos (by omega)]
        · rw [if_neg q3, if_neg (by omega)]
    · clear hr
      go_wp2
      go_ret
      refine ⟨_, l.length, rfl, ?_, hb⟩
      refine own1_of_row (E := 3) (hro.congr fun i hi => ?_) (Nat.le_refl _) (by omega)
      unfold toToI
      rw [if_pos (by omega)]

def mkToI (k : Int) (i : Nat) (f : Nat → Value) : Nat → Value := fun j => if j < i then .int .i64 (k + j) else f j

set_option maxHeartbeats 1000000 in
theorem markIntS_any (base : Nat) (A : Option Addr) (c n : Nat) (l : List Int) (k : Int) (w : World) (hown : w.ownsRow base 3 1 (.slice A n c) n (cells1 .i64 l)) (hn : n ≤ 1048576) (hk0 : 0 ≤ k) (hk1 : k ≤ 1000000000000) :
    Calls Try.prog 20 #[.slice A n c, .int .i64 k] w fun e w' => e = .returned (.int .i64 (k + n)) ∧ RdI w' w'.heap.size .i64 A (mkI k n) ∧ w.grownBy w' (Value.slice A n c).ownBlock := by
  by_cases h0 : n = 0
  · subst h0
    go_enter Try.func20, Try.ntmps20
    go_wp2
    go_loop [1, 5] (fun s i => s = .int .i64 k ∧ i = .int .i64 0) (fun _ _ => 0)
    case atStart => exact ⟨rfl, rfl⟩
    case round =>
      obtain ⟨rfl, rfl⟩ := hrel
      go_wp2
      go_ret
      exact ⟨ret_int (by omega), RdI.nil_, grownBy_refl _ _⟩
  · obtain ⟨g, cap, hv, _, _⟩ := hown.form (by omega)
    injection hv with hA _ _
    subst hA
    have hrow := Row.of_own1 hown
    clear hown
    go_enter Try.func20, Try.ntmps20
    go_wp2
    go_loopw [1, 5] (fun s i wr => ∃ j : Nat, j ≤ n ∧ i = .int .i64 j ∧ s = .int .i64 (k + j) ∧ Row wr g 3 n (mkToI k j (fun i => .int .i64 (gI l i))) ∧ w.grownBy wr (some g)) (fun _ i _ => n - (intOf i).toNat)
    case atStart => exact ⟨0, Nat.zero_le _, rfl, by simp, hrow.congr fun i _ => by simp [mkToI], grownBy_refl _ _⟩
    case round =>
      obtain ⟨j, hj, rfl, rfl, hro, hg⟩ := hrel
      by_cases hlt : j < n
      · have c1 := hro.cell (i := j) (by omega)
        have f1 := hro.frozen j
        clear hrow
        go_wp2
        refine ⟨⟨j + 1, hlt, by go_num, by go_num, (hro.set j (.int .i64 (k + j))).congr fun i hi => ?_, grownBy_set hg _ _⟩, by simp [intOf]; omega⟩
        unfold mkToI
        by_cases e1 : i = j
        · rw [if_pos e1, if_pos (by omega), e1]
        · rw [if_neg e1]
          by_cases e3 : i < j
          · rw [if_pos e3, if_pos (by omega)]
          · rw [if_neg e3, if_neg (by omega)]
      · go_wp2
        go_ret
        have e : j = n := by omega
        subst e
        refine ⟨ret_int rfl, ?_, hg⟩
        refine Row.rdI (E := 3) ?_
        rw [length_mkI]
        refine hro.congr fun i hi => ?_
        unfold mkToI
        rw [if_pos (by omega), gI_mkI _ _ _ (by omega)]

set_option maxHeartbeats 1000000 in
theorem heldIntS_any (A : Option Addr) (c n : Nat) (k : Int) (w : World) (hr : RdI w w.heap.size .i64 A (mkI k n)) (hn : n ≤ 1048576) (hk0 : 0 ≤ k) (hk1 : k ≤ 1000000000000) :
    Calls Try.prog 21 #[.slice A n c, .int .i64 k] w fun e w' => e = .returned (.int .i64 (k + n)) ∧ w = w' := by
  go_enter Try.func21, Try.ntmps21
  go_wp2
  go_loop [1, 5] (fun s i => ∃ j : Nat, j ≤ n ∧ i = .int .i64 j ∧ s = .int .i64 (k + j)) (fun _ i => n - (intOf i).toNat)
  case atStart => exact ⟨0, Nat.zero_le _, rfl, by simp⟩
  case round =>
    obtain ⟨j, hj, rfl, rfl⟩ := hrel
    by_cases hlt : j < n
    · obtain ⟨b, o, rfl, hB, hcs⟩ := hr (by rw [length_mkI]; omega)
      have c1 := hcs j (by rw [length_mkI]; exact hlt)
      rw [gI_mkI k n j hlt] at c1
      clear hcs hr
      go_wp2
      exact ⟨⟨j + 1, hlt, by go_num, by go_num⟩, by simp [intOf]; omega⟩
    · clear hr
      go_wp2
      go_ret
      have e : j = n := by omega
      subst e
      exact ⟨rfl, rfl⟩


end Go.Proofs.Ytbdhnfligfpigaa
