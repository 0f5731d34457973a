/- Contracts of TiesTurn, in the program and in the reference. No condition but that the list has at most 1048576 elements. -/
import Derived.Test.YtpaeajfjjklpnaaTv
import Derived.Test.YtpaeajfjjklpnaaPlan
import Derived.Test.YtpaeajfjjklpnaaPairTie
namespace Go.Proofs.Ytpaeajfjjklpnaa
open Go.RowKit


end Go.Proofs.Ytpaeajfjjklpnaa
