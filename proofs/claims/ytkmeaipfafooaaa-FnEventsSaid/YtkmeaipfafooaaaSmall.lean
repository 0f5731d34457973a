/- What the drawing functions promise: some list of small pairs in new memory. No condition. -/
import Derived.Test.YtkmeaipfafooaaaDraw
namespace Go.Proofs.Ytkmeaipfafooaaa
open Go.RowKit

def Small (B : Int) (L : List (Int × Int)) : Prop := ∀ q ∈ L, 0 ≤ q.1 ∧ q.1 ≤ B ∧ 0 ≤ q.2 ∧ q.2 ≤ B
theorem Small.nil_ {B : Int} : Small B [] := fun q hq => by simp at hq
theorem Small.snoc {B : Int} {L : List (Int × Int)} (h : Small B L) {x y : Int} (h1 : 0 ≤ x) (h2 : x ≤ B) (h3 : 0 ≤ y) (h4 : y ≤ B) : Small B (L ++ [(x, y)]) := by
  intro q hq
  rcases List.mem_append.1 hq with hq | hq
  · exact h q hq
  · simp only [List.mem_singleton] at hq; subst hq; exact ⟨h1, h2, h3, h4⟩
theorem Small.at_ {B : Int} {L : List (Int × Int)} (h : Small B L) {k : Nat} (hk : k < L.length) : 0 ≤ fA L k ∧ fA L k ≤ B ∧ 0 ≤ fB L k ∧ fB L k ≤ B := by
  rw [fA_lt hk, fB_lt hk]; exact h _ (List.getElem_mem hk)
theorem Small.set_ {B : Int} {L : List (Int × Int)} (h : Small B L) (k : Nat) {q : Int × Int} (hq : 0 ≤ q.1 ∧ q.1 ≤ B ∧ 0 ≤ q.2 ∧ q.2 ≤ B) : Small B (L.set k q) := by
  intro r hr
  rcases List.mem_or_eq_of_mem_set hr with h1 | h1
  · exact h r h1
  · rw [h1]; exact hq

theorem Small.more {B B' : Int} {L : List (Int × Int)} (h : Small B L) (hB : B ≤ B') : Small B' L := fun q hq => by obtain ⟨h1, h2, h3, h4⟩ := h q hq; exact ⟨h1, by omega, h3, by omega⟩
/-- A list of at most mx small pairs in new memory; of what was there the reader alone has moved, by at most dp places. -/
def Got (w : World) (E : TypeId) (g : Nat) (l : List Int) (p dp mx : Nat) (e : Ending) (w' : World) : Prop :=
  ∃ A c L p', e = .returned (.slice A L.length c) ∧ L.length ≤ mx ∧ Small 100000 L ∧ w'.ownsRow w.heap.size E 2 (.slice A L.length c) L.length (cells2 L) ∧ Rdr w' g l p' ∧ p' ≤ p + dp ∧ w.grownBy w' (some g)

/-- Some list of at most mx small pairs in new memory. -/
def DrawnS (w : World) (E : TypeId) (mx : Nat) (B : Int) (e : Ending) (w' : World) : Prop :=
  ∃ A c L, e = .returned (.slice A L.length c) ∧ L.length ≤ mx ∧ Small B L ∧ w'.ownsRow w.heap.size E 2 (.slice A L.length c) L.length (cells2 L) ∧ Below w.heap.size w w'
theorem below_of_two {a b c : World} {g : Nat} (h : Below a.heap.size a b) (k : b.grownBy c (some g)) (hg : a.heap.size ≤ g) : Below a.heap.size a c := below_of_grownBy h k hg
theorem own_base {w : World} {B B' : Nat} {E : TypeId} {size n : Nat} {v : Value} {xs : List Value} (h : w.ownsRow B E size v n xs) (hB : B' ≤ B) : w.ownsRow B' E size v n xs := by
  refine ⟨h.1, ?_⟩
  rcases h.2 with h2 | ⟨g, cap, cur, hv, hg, r⟩
  · exact .inl h2
  · exact .inr ⟨g, cap, cur, hv, Nat.le_trans hB hg, r⟩

end Go.Proofs.Ytkmeaipfafooaaa
