/- Contracts of the functions that make a table of zeros. No condition but that the lists are short. -/
import Derived.Test.YtihkdbgnoncgnaaTable
import Derived.Test.YtihkdbgnoncgnaaPlan
import Derived.Test.YtihkdbgnoncgnaaProg
namespace Go.Proofs.Ytihkdbgnoncgnaa
open Go.RowKit

theorem infoRow : (Try.prog.info? 42).map (fun i => (i.zero, i.size, i.bytes)) = some (some (.slice none 0 0), 1, 24) := by kernel_rfl
theorem infoInt : (Try.prog.info? 3).map (fun i => (i.zero, i.size, i.bytes)) = some (some (.int .i64 0), 1, 8) := by kernel_rfl

/-- A table of the call's own. -/
def RetT (w : World) (N M : Nat) (f : Nat → Nat → Int) (e : Ending) (w' : World) : Prop :=
  ∃ g c h, e = .returned (.slice (some ⟨g, 0, none⟩) N c) ∧ Tb w' w.heap.size g 42 3 N M h f ∧ Below w.heap.size w w'

/-- The first k rows of a table have been made. -/
def HalfT (w wr : World) (N M k : Nat) : Prop :=
  wr.heap.size = w.heap.size + 1 + k ∧ Row wr w.heap.size 42 N (fun i => if i < k then .slice (some ⟨w.heap.size + 1 + i, 0, none⟩) M M else .slice none 0 0) ∧
    (∀ i, i < k → Row wr (w.heap.size + 1 + i) 3 M (fun _ => .int .i64 0)) ∧ Below w.heap.size w wr
theorem HalfT.step {w wr : World} {N M k : Nat} (h : HalfT w wr N M k) :
    HalfT w ((wr.alloc (.cells (madeCells #[.int .i64 0] M) 3)).setCell ⟨w.heap.size, k, none⟩ (.slice (some ⟨w.heap.size + 1 + k, 0, none⟩) M M)) N M (k + 1) := by
  obtain ⟨h1, h2, h3, h4⟩ := h
  have h5 := h2.alloc (.cells (madeCells #[.int .i64 0] M) 3)
  refine ⟨by simp [World.setCell, h1]; omega, ?_, fun i hi => ?_, (h4.alloc h4.size _).setCell (p := ⟨w.heap.size, _, none⟩) (Nat.le_refl _) _⟩
  · refine (h5.set k _).congr fun j hj => ?_
    by_cases e : j = k
    · subst e; rw [if_pos rfl, if_pos (by omega)]
    · rw [if_neg e]
      by_cases e2 : j < k
      · rw [if_pos e2, if_pos (by omega)]
      · rw [if_neg e2, if_neg (by omega)]
  · by_cases e : i = k
    · subst e
      have := row_made wr M (.int .i64 0) 3
      rw [h1] at this
      exact this.of_block (Below.heap_setCell _ ⟨w.heap.size, _, none⟩ _ _ (by show w.heap.size + 1 + i ≠ w.heap.size; omega))
    · exact ((h3 i (by omega)).alloc _).of_block (Below.heap_setCell _ ⟨w.heap.size, _, none⟩ _ _ (by show w.heap.size + 1 + i ≠ w.heap.size; omega))
theorem HalfT.tb {w wr : World} {N M : Nat} (h : HalfT w wr N M N) : Tb wr w.heap.size w.heap.size 42 3 N M (fun i => w.heap.size + 1 + i) (fun _ _ => 0) :=
  ⟨Nat.le_refl _, h.2.1.congr fun i hi => by rw [if_pos hi], fun i hi => ⟨by show w.heap.size ≤ w.heap.size + 1 + i; omega, by show w.heap.size + 1 + i ≠ w.heap.size; omega, h.2.2.1 i hi, fun j hj e => by have e : w.heap.size + 1 + j = w.heap.size + 1 + i := e; omega⟩⟩


end Go.Proofs.Ytihkdbgnoncgnaa
