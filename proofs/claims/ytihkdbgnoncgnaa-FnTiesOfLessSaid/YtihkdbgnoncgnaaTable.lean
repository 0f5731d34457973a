/- Words for a table: a row of rows of integers in memory of the call's own. No condition. -/
import Derived.Test.YtihkdbgnoncgnaaLib
namespace Go.Proofs.Ytihkdbgnoncgnaa
open Go.RowKit

/-- Block g holds N slices, the i-th of M cells in block h i, and these hold f i k; all lie from block B on. -/
def Tb (w : World) (B g : Nat) (E1 E2 : TypeId) (N M : Nat) (h : Nat → Nat) (f : Nat → Nat → Int) : Prop :=
  B ≤ g ∧ Row w g E1 N (fun i => .slice (some ⟨h i, 0, none⟩) M M) ∧ ∀ i, i < N → B ≤ h i ∧ h i ≠ g ∧ Row w (h i) E2 M (fun k => .int .i64 (f i k)) ∧ ∀ j, j < N → h j = h i → j = i
section
variable {w w' : World} {B g : Nat} {E1 E2 : TypeId} {N M : Nat} {h : Nat → Nat} {f f' : Nat → Nat → Int}
theorem Tb.cellS (t : Tb w B g E1 E2 N M h f) {i : Nat} (hi : i < N) : w.cell? ⟨g, i, none⟩ = some (.slice (some ⟨h i, 0, none⟩) M M) := t.2.1.cell hi
theorem Tb.cellI (t : Tb w B g E1 E2 N M h f) {i k : Nat} (hi : i < N) (hk : k < M) : w.cell? ⟨h i, k, none⟩ = some (.int .i64 (f i k)) := (t.2.2 i hi).2.2.1.cell hk
theorem Tb.frozen (t : Tb w B g E1 E2 N M h f) {i : Nat} (hi : i < N) (k : Nat) : w.frozen? ⟨h i, k, none⟩ = false := (t.2.2 i hi).2.2.1.frozen k
theorem Tb.blk (t : Tb w B g E1 E2 N M h f) {i : Nat} (hi : i < N) : B ≤ h i := (t.2.2 i hi).1
theorem Tb.congr (t : Tb w B g E1 E2 N M h f) (e : ∀ i k, i < N → k < M → f i k = f' i k) : Tb w B g E1 E2 N M h f' :=
  ⟨t.1, t.2.1, fun i hi => ⟨(t.2.2 i hi).1, (t.2.2 i hi).2.1, (t.2.2 i hi).2.2.1.congr fun k hk => by rw [e i k hi hk], (t.2.2 i hi).2.2.2⟩⟩
theorem Tb.below (t : Tb w B g E1 E2 N M h f) (hb : Below w.heap.size w w') : Tb w' B g E1 E2 N M h f :=
  ⟨t.1, t.2.1.below hb t.2.1.lt, fun i hi => ⟨(t.2.2 i hi).1, (t.2.2 i hi).2.1, (t.2.2 i hi).2.2.1.below hb (t.2.2 i hi).2.2.1.lt, (t.2.2 i hi).2.2.2⟩⟩
theorem Tb.drewN (t : Tb w B g E1 E2 N M h f) (n : Nat) : Tb (w.drewN n) B g E1 E2 N M h f := t
theorem Tb.set (t : Tb w B g E1 E2 N M h f) {i : Nat} (hi : i < N) (k : Nat) (v : Int) :
    Tb (w.setCell ⟨h i, k, none⟩ (.int .i64 v)) B g E1 E2 N M h (fun i' k' => if i' = i ∧ k' = k then v else f i' k') := by
  obtain ⟨t1, t2, t3⟩ := t
  refine ⟨t1, t2.of_block (Below.heap_setCell w ⟨h i, k, none⟩ _ g (fun e => (t3 i hi).2.1 e.symm)), fun j hj => ⟨(t3 j hj).1, (t3 j hj).2.1, ?_, (t3 j hj).2.2.2⟩⟩
  by_cases e : j = i
  · subst e
    refine ((t3 j hj).2.2.1.set k (.int .i64 v)).congr fun q _ => ?_
    show (if q = k then Value.int .i64 v else .int .i64 (f j q)) = .int .i64 (if j = j ∧ q = k then v else f j q)
    by_cases e2 : q = k
    · rw [if_pos e2, if_pos ⟨rfl, e2⟩]
    · rw [if_neg e2, if_neg (fun (x : j = j ∧ q = k) => e2 x.2)]
  · have hne : h j ≠ h i := fun e2 => e ((t3 i hi).2.2.2 j hj e2)
    refine ((t3 j hj).2.2.1.of_block (Below.heap_setCell w ⟨h i, k, none⟩ _ (h j) hne)).congr fun q _ => ?_
    show Value.int .i64 (f j q) = .int .i64 (if j = i ∧ q = k then v else f j q)
    rw [if_neg (fun (x : j = i ∧ q = k) => e x.1)]
/-- The row i of the table reads as a list. -/
theorem Tb.rd0 (t : Tb w B g E1 E2 N M h f) {i k : Nat} (hi : i < N) (hk : k < M) : w.cell? ⟨g, i, none⟩ = some (.slice (some ⟨h i, 0, none⟩) M M) ∧ w.cell? ⟨h i, k, none⟩ = some (.int .i64 (f i k)) := ⟨t.cellS hi, t.cellI hi hk⟩
end

theorem run_makeS {P : Program} {t E : TypeId} (ht : P.underlying t = some (.slice E)) (hE : (P.info? E).map (fun i => (i.zero, i.size, i.bytes)) = some (some (.slice none 0 0), 1, 24))
    (n : Nat) (hn : n ≤ 4294967296) (w : World) :
    (Instr.makeSlice t (.int .i64 (n : Int)) (.int .i64 (n : Int))).run P w = .ok (.slice (some ⟨w.heap.size, 0, none⟩) n n) (w.alloc (.cells (madeCells #[.slice none 0 0] n) E)) := by
  obtain ⟨i, hi, hz0, hz1, hz2⟩ := info_parts hE
  have h := run_make_rowN (P := P) t E i _ ht hi hz0 .i64 .i64 n n (Nat.le_refl _) (by rw [hz2]; omega) (by omega) w
  rw [hz1, Nat.mul_one] at h
  exact h
theorem row_made (w : World) (n : Nat) (v : Value) (t : TypeId) : Row (w.alloc (.cells (madeCells #[v] n) t)) w.heap.size t n (fun _ => v) := by
  refine ⟨_, heap_alloc_new _ _, by rw [size_madeCells]; exact Nat.le_refl _, fun i hi => ?_⟩
  simp [madeCells, hi, Nat.mod_one]
end Go.Proofs.Ytihkdbgnoncgnaa
