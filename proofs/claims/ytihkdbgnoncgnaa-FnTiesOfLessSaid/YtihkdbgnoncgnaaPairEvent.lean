/- Contracts of the tests' own functions on lists of pairs (Event): comparing, copying, marking. No condition but that the lists have at most 1048576 elements. -/
import Derived.Test.YtihkdbgnoncgnaaPlan
import Derived.Test.YtihkdbgnoncgnaaProg
import Derived.Laws.StructEq
namespace Go.Proofs.Ytihkdbgnoncgnaa
open Go.RowKit

theorem infoEvent : (Try.prog.info? 60).map (fun i => (i.zero, i.size, i.bytes)) = some (some (.agg #[.int .i64 0, .int .i64 0]), 2, 16) := by kernel_rfl


def toToEvent (l : List (Int × Int)) (k : Nat) : Nat → Value := fun j => if j < 2 * k then cellAt l j else .int .i64 0

end Go.Proofs.Ytihkdbgnoncgnaa
