/- Contracts of the tests' own functions on lists of pairs (Event): comparing, copying, marking. No condition but that the lists have at most 1048576 elements. -/
import Derived.Test.YtkmeaipfafooaaaPlan
import Derived.Test.YtkmeaipfafooaaaProg
import Derived.Laws.StructEq
namespace Go.Proofs.Ytkmeaipfafooaaa
open Go.RowKit

theorem infoEvent : (Try.prog.info? 27).map (fun i => (i.zero, i.size, i.bytes)) = some (some (.agg #[.int .i64 0, .int .i64 0]), 2, 16) := by kernel_rfl


def toToEvent (l : List (Int × Int)) (k : Nat) : Nat → Value := fun j => if j < 2 * k then cellAt l j else .int .i64 0

end Go.Proofs.Ytkmeaipfafooaaa
