/- Plain facts for the law of events. No condition. -/
import Derived.Test.YtkmeaipfafooaaaEvLaw
import Derived.Test.YtkmeaipfafooaaaObj
namespace Go.Proofs.Ytkmeaipfafooaaa
open Go.RowKit
theorem ev_twice {l : List (Int × Int)} (h : 0 < l.length) : ev (l ++ [(fA l (l.length - 1), fB l (l.length - 1))]) = false := by
  refine ev_stop (k := l.length) (by simp) ?_
  have e1 : fA (l ++ [(fA l (l.length - 1), fB l (l.length - 1))]) l.length = fA l (l.length - 1) := by simp [fA]
  have e2 : fA (l ++ [(fA l (l.length - 1), fB l (l.length - 1))]) (l.length - 1) = fA l (l.length - 1) := by simp [fA, List.getElem?_append_left (show l.length - 1 < l.length by omega)]
  unfold EvAt
  rw [e1, e2]
  rw [decide_eq_false (by omega : ¬ l.length = 0), decide_eq_false (Int.lt_irrefl _)]
  simp
theorem ev_zero {l : List (Int × Int)} {j : Nat} (h : j < l.length) : ev (putB l j 0) = false := by
  refine ev_stop (k := j) (by rw [length_putB]; exact h) ?_
  have e1 : fB (putB l j 0) j = 0 := by simp [fB, putB, h]
  unfold EvAt
  rw [e1]
  simp [sizeOk]
theorem Rd.of_blk {w : World} {g : Nat} {t : TypeId} {x y : Int} (h : Blk w g t #[.int .i64 x, .int .i64 y]) : Rd w w.heap.size (some ⟨g, 0, none⟩) [(x, y)] := fun _ => by
  refine ⟨g, 0, rfl, h.lt, fun k hk => ?_⟩
  obtain rfl : k = 0 := by simpa using hk
  exact ⟨h.cell 0, h.cell 1⟩
end Go.Proofs.Ytkmeaipfafooaaa
