/- Marking a row of a call's own that was written in place. No condition but that the list has at most 1048576 elements. -/
import Derived.Test.YtihkdbgnoncgnaaAllTies
import Derived.Test.YtihkdbgnoncgnaaPairTie
import Derived.Test.YtihkdbgnoncgnaaObj
namespace Go.Proofs.Ytihkdbgnoncgnaa
open Go.RowKit

theorem OwnR.kept {base : Nat} {w w' : World} {A : Option Addr} {l : List (Int × Int)} {row : Option Nat} (h : OwnR base w A l) (hg : w.grownBy w' row) (hr : ∀ i, row = some i → i < base) : OwnR base w' A l := fun hl => by
  obtain ⟨g, rfl, h1, hro⟩ := h hl
  refine ⟨g, rfl, h1, hro.of_block (hg.block g hro.lt fun e => ?_)⟩
  have := hr g (by first | exact e | exact e.symm)
  omega
theorem own_apartR {base bx s n : Nat} {E : TypeId} {wx : World} {vx : Value} {xs : List Value} {row : Option Nat} (hx : wx.ownsRow bx E s vx n xs) (h : wx.heap.size ≤ base) (hr : ∀ i, row = some i → base ≤ i) : vx.ownBlock = none ∨ vx.ownBlock ≠ row := by
  cases h1 : vx.ownBlock with
  | none => exact .inl rfl
  | some i =>
    right
    intro e
    have a := (hx.lt i h1).2
    have b := hr i e.symm
    omega

set_option maxHeartbeats 1000000 in
theorem markR_any (base : Nat) (A : Option Addr) (l : List (Int × Int)) (n : Nat) (hln : l.length = n) (k : Int) (w : World) (hown : OwnR base w A l) (hn : n ≤ 1048576) (hk0 : 0 ≤ k) (hk1 : k ≤ 1000000000000) :
    Calls Try.prog 28 #[.slice A n n, .int .i64 k] w fun e w' => e = .returned (.int .i64 (k + 2 * n)) ∧ Rd w' w'.heap.size A (mkL k n) ∧ ∃ row : Option Nat, (∀ i, row = some i → base ≤ i) ∧ w.grownBy w' row := by
  by_cases h0 : n = 0
  · subst h0
    clear hown hln
    go_enter Try.func28, Try.ntmps28
    go_wp2
    go_loop [1, 5] (fun s i => s = .int .i64 k ∧ i = .int .i64 0) (fun _ _ => 0)
    case atStart => exact ⟨rfl, rfl⟩
    case round =>
      obtain ⟨rfl, rfl⟩ := hrel
      go_wp2
      go_ret
      exact ⟨ret_int (by omega), Rd.nil_, none, fun i h => absurd h (by simp), grownBy_refl _ _⟩
  · obtain ⟨g, hA, hbg, hrow⟩ := hown (by omega)
    subst hA
    rw [hln] at hrow
    clear hown
    go_enter Try.func28, Try.ntmps28
    go_wp2
    go_loopw [1, 5] (fun s i wr => ∃ j : Nat, j ≤ n ∧ i = .int .i64 j ∧ s = .int .i64 (k + 2 * j) ∧ Row wr g 40 (n * 2) (mkTo k j (cellAt l)) ∧ w.grownBy wr (some g)) (fun _ i _ => n - (intOf i).toNat)
    case atStart => exact ⟨0, Nat.zero_le _, rfl, by simp, hrow.congr fun i _ => by simp [mkTo], grownBy_refl _ _⟩
    case round =>
      obtain ⟨j, hj, rfl, rfl, hro, hg⟩ := hrel
      have HLN := Lib.hid hln
      clear hln
      by_cases hlt : j < n
      · have c1 := hro.cell (i := j * 2) (by omega)
        have c2 : ∀ u, (wr.setCell ⟨g, j * 2, none⟩ u).cell? ⟨g, j * 2 + 1, none⟩ = some (mkTo k j (cellAt l) (j * 2 + 1)) := fun u => by
          have := (hro.set (j * 2) u).cell (i := j * 2 + 1) (by omega)
          rw [if_neg (by omega)] at this
          exact this
        have f1 := hro.frozen (j * 2)
        have f2 : ∀ u, (wr.setCell ⟨g, j * 2, none⟩ u).frozen? ⟨g, j * 2 + 1, none⟩ = false := fun u => (hro.set (j * 2) u).frozen _
        clear hrow
        go_wp2
        have hro' := (hro.set (j * 2) (.int .i64 (k + 2 * j))).set (j * 2 + 1) (.int .i64 (k + 2 * j + 1))
        refine ⟨⟨j + 1, hlt, by go_num, by go_num, hro'.congr fun i hi => ?_, grownBy_set (grownBy_set hg _ _) _ _⟩, by simp [intOf]; omega⟩
        unfold mkTo
        by_cases e1 : i = j * 2 + 1
        · rw [if_pos e1, if_pos (by omega)]; congr 1; omega
        · rw [if_neg e1]
          by_cases e2 : i = j * 2
          · rw [if_pos e2, if_pos (by omega)]; congr 1; omega
          · rw [if_neg e2]
            by_cases e3 : i < 2 * j
            · rw [if_pos e3, if_pos (by omega)]
            · rw [if_neg e3, if_neg (by omega)]
      · go_wp2
        go_ret
        have e : j = n := by omega
        subst e
        refine ⟨ret_int rfl, ?_, some g, fun i h => by injection h with h; omega, hg⟩
        refine Row.rd (E := 40) ?_
        rw [length_mkL]
        refine hro.congr fun i hi => ?_
        unfold mkTo cellAt
        rw [if_pos (by omega)]
        by_cases e : i % 2 = 0
        · rw [if_pos e, fA_mkL _ _ _ (by omega)]; congr 1; omega
        · rw [if_neg e, fB_mkL _ _ _ (by omega)]; congr 1; omega

end Go.Proofs.Ytihkdbgnoncgnaa
