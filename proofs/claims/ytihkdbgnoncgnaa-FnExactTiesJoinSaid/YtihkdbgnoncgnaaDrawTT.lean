/- Contract of the function that draws two lists of ties that lead through one another: two lists of small pairs in new memory. No condition but the code's length. -/
import Derived.Test.YtihkdbgnoncgnaaDrawT
import Derived.Test.YtihkdbgnoncgnaaObj
namespace Go.Proofs.Ytihkdbgnoncgnaa
open Go.RowKit

/-- Two lists of at most mx small pairs in new memory. -/
def DrawnSS (w : World) (E : TypeId) (mx : Nat) (B : Int) (e : Ending) (w' : World) : Prop :=
  ∃ A c L A' c' L', e = .returned (.tuple #[.slice A L.length c, .slice A' L'.length c']) ∧ L.length ≤ mx ∧ L'.length ≤ mx ∧ Small B L ∧ Small B L' ∧
    w'.ownsRow w.heap.size E 2 (.slice A L.length c) L.length (cells2 L) ∧ w'.ownsRow w.heap.size E 2 (.slice A' L'.length c') L'.length (cells2 L') ∧ Below w.heap.size w w'

end Go.Proofs.Ytihkdbgnoncgnaa
