/- Contracts of the tests' own functions on lists of integers: comparing, copying, marking. No condition but that the lists have at most 1048576 elements. -/
import Derived.Test.YtbpafjlfpdnnhaaPlan
import Derived.Test.YtbpafjlfpdnnhaaProg
namespace Go.Proofs.Ytbpafjlfpdnnhaa
open Go.RowKit

theorem infoI64 : (Try.prog.info? 3).map (fun i => (i.zero, i.size, i.bytes)) = some (some (.int .i64 0), 1, 8) := by kernel_rfl
def eqToI (l m : List Int) (k : Nat) : Prop := ∀ j, j < k → gI l j = gI m j
theorem eqToI_zero (l m : List Int) : eqToI l m 0 := fun j hj => absurd hj (by omega)
theorem eqToI_succ {l m : List Int} {k : Nat} (h : eqToI l m k) (hs : gI l k = gI m k) : eqToI l m (k + 1) := by
  intro j hj
  by_cases e : j = k
  · subst e; exact hs
  · exact h j (by omega)
theorem eq_of_eqToI {l m : List Int} (hl : l.length = m.length) (h : eqToI l m l.length) : l = m := by
  apply List.ext_getElem hl
  intro j h1 h2
  have := h j h1
  rwa [gI_lt h1, gI_lt h2] at this

set_option maxHeartbeats 1000000 in
theorem eqIntS_any (A B : Option Addr) (c d : Nat) (l m : List Int) (w : World) (hr : RdI w w.heap.size .i64 A l) (hs : RdI w w.heap.size .i64 B m) (hn : l.length ≤ 1048576) :
    Calls Try.prog 29 #[.slice A l.length c, .slice B m.length d] w fun e w' => e = .returned (.bool (decide (l = m))) ∧ Below w.heap.size w w' := by
  by_cases hl : l.length = m.length
  · have hl1 : ((l.length : Int) != (m.length : Int)) = false := by simp; omega
    have HL := Lib.hid hl
    clear hl
    go_enter Try.func29, Try.ntmps29
    go_wp2
    go_loopw [5] (fun i wr => ∃ k : Nat, k ≤ l.length ∧ i = .int .i64 k ∧ eqToI l m k ∧ Below w.heap.size w wr) (fun i _ => l.length - (intOf i).toNat)
    case atStart => exact ⟨0, Nat.zero_le _, rfl, eqToI_zero l m, Below.refl _ _⟩
    case round =>
      obtain ⟨k, hk, rfl, hto, hb⟩ := hrel
      have Hto := Lib.hid hto
      clear hto
      by_cases hlt : k < l.length
      · obtain ⟨b, o, rfl, hB, hcs⟩ := hr (by omega)
        obtain ⟨b', o', rfl, hB', hcs'⟩ := hs (by have := HL.out; omega)
        have e1 : wr.cell? ⟨b, o + k, none⟩ = some (.int .i64 (gI l k)) := (hb.cell (p := ⟨b, _, none⟩) hB).trans (hcs k hlt)
        have hltm : k < m.length := by have := HL.out; omega
        have e3 : wr.cell? ⟨b', o' + k, none⟩ = some (.int .i64 (gI m k)) := (hb.cell (p := ⟨b', _, none⟩) hB').trans (hcs' k hltm)
        have hkz : (0 : Int) ≤ (k : Int) := by omega
        have hkl : (k : Int) < (l.length : Int) := by omega
        have hkm : (k : Int) < (m.length : Int) := by omega
        have hbl : b < wr.heap.size := by have := hb.size; omega
        have hbl' : b' < wr.heap.size := by have := hb.size; omega
        clear hcs hr hcs' hs
        by_cases hc : gI l k = gI m k
        · have g1 : (gI l k != gI m k) = false := by simp [hc]
          have HC := Lib.hid hc
          clear hc
          go_wp2_with fail
          go_quiet (fail)
          go_wp2
          exact ⟨⟨k + 1, hlt, by go_num, eqToI_succ Hto.out HC.out, below_drewN hb _⟩, by simp [intOf]; omega⟩
        · have g1 : (gI l k != gI m k) = true := by simp [hc]
          go_wp2_with fail
          go_quiet (fail)
          go_wp2
          go_ret
          exact ⟨ret_bool (by simp; rintro rfl; exact hc rfl), below_drewN hb _⟩
      · clear hr hs
        go_wp2
        go_ret
        have e : l = m := eq_of_eqToI HL.out (by have := Hto.out; rw [show k = l.length by omega] at this; exact this)
        exact ⟨ret_bool (by simp [e]), hb⟩
  · have hl1 : ((l.length : Int) != (m.length : Int)) = true := by simp; omega
    have HL := Lib.hid hl
    clear hl hr hs
    go_enter Try.func29, Try.ntmps29
    go_wp2
    go_ret
    exact ⟨ret_bool (by simp; intro e; exact HL.out (by rw [e])), Below.refl _ _⟩


def toToI (l : List Int) (k : Nat) : Nat → Value := fun j => if j < k then .int .i64 (gI l j) else .int .i64 0

set_option maxHeartbeats 1000000 in
theorem toIntS_any (A : Option Addr) (c : Nat) (l : List Int) (w : World) (hr : RdI w w.heap.size .i64 A l) (hn : l.length ≤ 1048576) :
    Calls Try.prog 27 #[.slice A l.length c] w (RetI w 3 l) := by
  have hmk := run_make1 (P := Try.prog) Try.underlying36 infoI64 (by omega) l.length (by omega)
  go_enter Try.func27, Try.ntmps27
  go_wp2
  clear hmk
  have hb0 : Below w.heap.size w (w.alloc (.cells (madeCells #[.int .i64 0] l.length) 3)) := (Below.refl _ _).alloc (Nat.le_refl _) _
  have hr0 : (w.alloc (.cells (madeCells #[.int .i64 0] l.length) 3)).rowIs w.heap.size 3 l.length (toToI l 0) := by
    refine ⟨_, heap_alloc_new _ _, size_madeCells _ _, fun i hi => ?_⟩
    simp [madeCells, hi, toToI, Nat.mod_one]
  go_loopw [4] (fun i wr => ∃ k : Nat, k ≤ l.length ∧ i = .int .i64 k ∧ wr.rowIs w.heap.size 3 l.length (toToI l k) ∧ Below w.heap.size w wr) (fun i _ => l.length - (intOf i).toNat)
  case atStart => exact ⟨0, Nat.zero_le _, rfl, hr0, hb0⟩
  case round =>
    obtain ⟨k, hk, rfl, hro, hb⟩ := hrel
    clear hr0 hb0
    by_cases hlt : k < l.length
    · obtain ⟨b, o, rfl, hB, hcs⟩ := hr (by omega)
      have e1 : wr.cell? ⟨b, o + k, none⟩ = some (.int .i64 (gI l k)) := (hb.cell (p := ⟨b, _, none⟩) hB).trans (hcs k hlt)
      have c1 := hro.cell (i := k) (by omega)
      have f1 := hro.frozen k
      clear hcs hr
      go_wp2
      refine ⟨⟨k + 1, hlt, by go_num, (hro.set k (.int .i64 (gI l k))).congr fun i hi => ?_, hb.setCell (p := ⟨w.heap.size, _, none⟩) (Nat.le_refl _) _⟩, by simp [intOf]; omega⟩
      unfold toToI
      by_cases q1 : i = k
      · rw [if_pos q1, if_pos (by omega), q1]
      · rw [if_neg q1]
        by_cases q3 : i < k
        · rw [if_pos q3, if_pos (by omega)]
        · rw [if_neg q3, if_neg (by omega)]
    · clear hr
      go_wp2
      go_ret
      refine ⟨_, l.length, rfl, ?_, hb⟩
      refine own1_of_row (E := 3) (hro.congr fun i hi => ?_) (Nat.le_refl _) (by omega)
      unfold toToI
      rw [if_pos (by omega)]




end Go.Proofs.Ytbpafjlfpdnnhaa
