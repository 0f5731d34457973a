/-
  No cell of these rows narrows 'for every input' (looked for: loops, veiled, ifaces, maps, wideKeys, modest, calm, conditions, laid).
  DERIVED. THE GIVEN ROWS OF THIS SEAT. 10 by the template 'for every input the law returns true; each argument reads behind the call as it read before'; 0 by the template 'total and deterministic' (their statements: YtihkdbgnoncgnaaTotals.lean).
  GIVEN WITH THE SEED: the statements are not yours to turn. If you find one false, say at which input.
  Laid BY PROGRAM, IN A SANDBOX (cutbox-rows.mjs): the forced cells as the released guide's own fill.sh prints them over the translation cdbcdb54afd6828a… (all of the seat's roots in one cut). By AI agents, Wed Nov 11 2026. No macro, syntax, notation, axiom, sorry.
-/
import Derived.Test.YtihkdbgnoncgnaaChecked
import GoSem.Claim
import GoSem.ClaimJoined
import GoSem.ClaimMapViews
import Derived.JoinedTies
import Derived.KernelRfl
namespace Go.Proofs.Ytihkdbgnoncgnaa
/- THE CELL 'sum', in the pinned program and in every row, IS THE sha256 OF THE DUMP (.gsa) THAT YtihkdbgnoncgnaaProg.lean LOADS. Nothing in Lean hashes anything: it is a label: what it is worth is what the hold of that sum in a sandbox is worth. -/
noncomputable def Try.pinned : Pinned := { name := "ytihkdbgnoncgnaa", sum := "cdbcdb54afd6828a429bfe93e3b6e8d743c219d5180da190a0cf9144d4525ae0", checked := Try.checked }
namespace Rows
def none {H : Type} : Left H := { results := [], args := [] }

/-- 'laws.FnTiesJoinNone': WHATEVER THE INPUT: true; the input reads as it did. -/
def fnTiesJoinNoneSpec : ChangeSpec := { name := "fnTiesJoinNone", fn := fun _ => fun
  | [d] => { results := [.lit (.bool true)], args := [d] }
  | _ => none }
def fnTiesJoinNoneRow : OpenClaim := { program := "ytihkdbgnoncgnaa", sum := "cdbcdb54afd6828a429bfe93e3b6e8d743c219d5180da190a0cf9144d4525ae0", func := "loop.example/icecores/laws.FnTiesJoinNone", spec := "fnTiesJoinNone", unfollowed := true, recurses := true, apart := false }
def FnTiesJoinNoneSaid : Prop := fnTiesJoinNoneRow.holds Try.pinned (OpenSpec.ofChange fnTiesJoinNoneSpec)

/-- ITS FALSE NEIGHBOUR: 'it returns false'. Refute it at one input. -/
def fnTiesJoinNoneWrong : ChangeSpec := { name := "fnTiesJoinNone", fn := fun _ => fun
  | [d] => { results := [.lit (.bool false)], args := [d] }
  | _ => none }
def FnTiesJoinNoneWrongFalsely : Prop := fnTiesJoinNoneRow.holds Try.pinned (OpenSpec.ofChange fnTiesJoinNoneWrong)

/-- 'laws.FnTiesJoinParts': WHATEVER THE INPUT: true; the input reads as it did. -/
def fnTiesJoinPartsSpec : ChangeSpec := { name := "fnTiesJoinParts", fn := fun _ => fun
  | [d1, d2] => { results := [.lit (.bool true)], args := [d1, d2] }
  | _ => none }
def fnTiesJoinPartsRow : OpenClaim := { program := "ytihkdbgnoncgnaa", sum := "cdbcdb54afd6828a429bfe93e3b6e8d743c219d5180da190a0cf9144d4525ae0", func := "loop.example/icecores/laws.FnTiesJoinParts", spec := "fnTiesJoinParts", unfollowed := true, recurses := true, apart := false }
def FnTiesJoinPartsSaid : Prop := fnTiesJoinPartsRow.holds Try.pinned (OpenSpec.ofChange fnTiesJoinPartsSpec)

/-- ITS FALSE NEIGHBOUR: 'it returns false'. Refute it at one input. -/
def fnTiesJoinPartsWrong : ChangeSpec := { name := "fnTiesJoinParts", fn := fun _ => fun
  | [d1, d2] => { results := [.lit (.bool false)], args := [d1, d2] }
  | _ => none }
def FnTiesJoinPartsWrongFalsely : Prop := fnTiesJoinPartsRow.holds Try.pinned (OpenSpec.ofChange fnTiesJoinPartsWrong)

/-- 'laws.FnTiesNone': WHATEVER THE INPUT: true; the input reads as it did. -/
def fnTiesNoneSpec : ChangeSpec := { name := "fnTiesNone", fn := fun _ => fun
  | [d] => { results := [.lit (.bool true)], args := [d] }
  | _ => none }
def fnTiesNoneRow : OpenClaim := { program := "ytihkdbgnoncgnaa", sum := "cdbcdb54afd6828a429bfe93e3b6e8d743c219d5180da190a0cf9144d4525ae0", func := "loop.example/icecores/laws.FnTiesNone", spec := "fnTiesNone", unfollowed := true, recurses := true, apart := false }
def FnTiesNoneSaid : Prop := fnTiesNoneRow.holds Try.pinned (OpenSpec.ofChange fnTiesNoneSpec)

/-- ITS FALSE NEIGHBOUR: 'it returns false'. Refute it at one input. -/
def fnTiesNoneWrong : ChangeSpec := { name := "fnTiesNone", fn := fun _ => fun
  | [d] => { results := [.lit (.bool false)], args := [d] }
  | _ => none }
def FnTiesNoneWrongFalsely : Prop := fnTiesNoneRow.holds Try.pinned (OpenSpec.ofChange fnTiesNoneWrong)

/-- 'laws.FnExactTiesFit': WHATEVER THE INPUT: true; the input reads as it did. -/
def fnExactTiesFitSpec : ChangeSpec := { name := "fnExactTiesFit", fn := fun _ => fun
  | [d1, d2] => { results := [.lit (.bool true)], args := [d1, d2] }
  | _ => none }
def fnExactTiesFitRow : OpenClaim := { program := "ytihkdbgnoncgnaa", sum := "cdbcdb54afd6828a429bfe93e3b6e8d743c219d5180da190a0cf9144d4525ae0", func := "loop.example/icecores/laws.FnExactTiesFit", spec := "fnExactTiesFit", unfollowed := true, recurses := true, apart := false }
def FnExactTiesFitSaid : Prop := fnExactTiesFitRow.holds Try.pinned (OpenSpec.ofChange fnExactTiesFitSpec)

/-- ITS FALSE NEIGHBOUR: 'it returns false'. Refute it at one input. -/
def fnExactTiesFitWrong : ChangeSpec := { name := "fnExactTiesFit", fn := fun _ => fun
  | [d1, d2] => { results := [.lit (.bool false)], args := [d1, d2] }
  | _ => none }
def FnExactTiesFitWrongFalsely : Prop := fnExactTiesFitRow.holds Try.pinned (OpenSpec.ofChange fnExactTiesFitWrong)

/-- 'laws.FnTiesFitLess': WHATEVER THE INPUT: true; the input reads as it did. -/
def fnTiesFitLessSpec : ChangeSpec := { name := "fnTiesFitLess", fn := fun _ => fun
  | [d1, d2] => { results := [.lit (.bool true)], args := [d1, d2] }
  | _ => none }
def fnTiesFitLessRow : OpenClaim := { program := "ytihkdbgnoncgnaa", sum := "cdbcdb54afd6828a429bfe93e3b6e8d743c219d5180da190a0cf9144d4525ae0", func := "loop.example/icecores/laws.FnTiesFitLess", spec := "fnTiesFitLess", unfollowed := true, recurses := true, apart := false }
def FnTiesFitLessSaid : Prop := fnTiesFitLessRow.holds Try.pinned (OpenSpec.ofChange fnTiesFitLessSpec)

/-- ITS FALSE NEIGHBOUR: 'it returns false'. Refute it at one input. -/
def fnTiesFitLessWrong : ChangeSpec := { name := "fnTiesFitLess", fn := fun _ => fun
  | [d1, d2] => { results := [.lit (.bool false)], args := [d1, d2] }
  | _ => none }
def FnTiesFitLessWrongFalsely : Prop := fnTiesFitLessRow.holds Try.pinned (OpenSpec.ofChange fnTiesFitLessWrong)

/-- 'laws.FnTiesFit': WHATEVER THE INPUT: true; the input reads as it did. -/
def fnTiesFitSpec : ChangeSpec := { name := "fnTiesFit", fn := fun _ => fun
  | [d] => { results := [.lit (.bool true)], args := [d] }
  | _ => none }
def fnTiesFitRow : OpenClaim := { program := "ytihkdbgnoncgnaa", sum := "cdbcdb54afd6828a429bfe93e3b6e8d743c219d5180da190a0cf9144d4525ae0", func := "loop.example/icecores/laws.FnTiesFit", spec := "fnTiesFit", unfollowed := true, recurses := true, apart := false }
def FnTiesFitSaid : Prop := fnTiesFitRow.holds Try.pinned (OpenSpec.ofChange fnTiesFitSpec)

/-- ITS FALSE NEIGHBOUR: 'it returns false'. Refute it at one input. -/
def fnTiesFitWrong : ChangeSpec := { name := "fnTiesFit", fn := fun _ => fun
  | [d] => { results := [.lit (.bool false)], args := [d] }
  | _ => none }
def FnTiesFitWrongFalsely : Prop := fnTiesFitRow.holds Try.pinned (OpenSpec.ofChange fnTiesFitWrong)

/-- 'laws.FnExactTiesJoin': WHATEVER THE INPUT: true; the input reads as it did. -/
def fnExactTiesJoinSpec : ChangeSpec := { name := "fnExactTiesJoin", fn := fun _ => fun
  | [d1, d2] => { results := [.lit (.bool true)], args := [d1, d2] }
  | _ => none }
def fnExactTiesJoinRow : OpenClaim := { program := "ytihkdbgnoncgnaa", sum := "cdbcdb54afd6828a429bfe93e3b6e8d743c219d5180da190a0cf9144d4525ae0", func := "loop.example/icecores/laws.FnExactTiesJoin", spec := "fnExactTiesJoin", unfollowed := true, recurses := true, apart := false }
def FnExactTiesJoinSaid : Prop := fnExactTiesJoinRow.holds Try.pinned (OpenSpec.ofChange fnExactTiesJoinSpec)

/-- ITS FALSE NEIGHBOUR: 'it returns false'. Refute it at one input. -/
def fnExactTiesJoinWrong : ChangeSpec := { name := "fnExactTiesJoin", fn := fun _ => fun
  | [d1, d2] => { results := [.lit (.bool false)], args := [d1, d2] }
  | _ => none }
def FnExactTiesJoinWrongFalsely : Prop := fnExactTiesJoinRow.holds Try.pinned (OpenSpec.ofChange fnExactTiesJoinWrong)

/-- 'laws.FnTiesJoin': WHATEVER THE INPUT: true; the input reads as it did. -/
def fnTiesJoinSpec : ChangeSpec := { name := "fnTiesJoin", fn := fun _ => fun
  | [d] => { results := [.lit (.bool true)], args := [d] }
  | _ => none }
def fnTiesJoinRow : OpenClaim := { program := "ytihkdbgnoncgnaa", sum := "cdbcdb54afd6828a429bfe93e3b6e8d743c219d5180da190a0cf9144d4525ae0", func := "loop.example/icecores/laws.FnTiesJoin", spec := "fnTiesJoin", unfollowed := true, recurses := true, apart := false }
def FnTiesJoinSaid : Prop := fnTiesJoinRow.holds Try.pinned (OpenSpec.ofChange fnTiesJoinSpec)

/-- ITS FALSE NEIGHBOUR: 'it returns false'. Refute it at one input. -/
def fnTiesJoinWrong : ChangeSpec := { name := "fnTiesJoin", fn := fun _ => fun
  | [d] => { results := [.lit (.bool false)], args := [d] }
  | _ => none }
def FnTiesJoinWrongFalsely : Prop := fnTiesJoinRow.holds Try.pinned (OpenSpec.ofChange fnTiesJoinWrong)

/-- 'laws.FnTiesOfLess': WHATEVER THE INPUT: true; the input reads as it did. -/
def fnTiesOfLessSpec : ChangeSpec := { name := "fnTiesOfLess", fn := fun _ => fun
  | [d1, d2] => { results := [.lit (.bool true)], args := [d1, d2] }
  | _ => none }
def fnTiesOfLessRow : OpenClaim := { program := "ytihkdbgnoncgnaa", sum := "cdbcdb54afd6828a429bfe93e3b6e8d743c219d5180da190a0cf9144d4525ae0", func := "loop.example/icecores/laws.FnTiesOfLess", spec := "fnTiesOfLess", unfollowed := true, recurses := true, apart := false }
def FnTiesOfLessSaid : Prop := fnTiesOfLessRow.holds Try.pinned (OpenSpec.ofChange fnTiesOfLessSpec)

/-- ITS FALSE NEIGHBOUR: 'it returns false'. Refute it at one input. -/
def fnTiesOfLessWrong : ChangeSpec := { name := "fnTiesOfLess", fn := fun _ => fun
  | [d1, d2] => { results := [.lit (.bool false)], args := [d1, d2] }
  | _ => none }
def FnTiesOfLessWrongFalsely : Prop := fnTiesOfLessRow.holds Try.pinned (OpenSpec.ofChange fnTiesOfLessWrong)

/-- 'laws.FnTiesOf': WHATEVER THE INPUT: true; the input reads as it did. -/
def fnTiesOfSpec : ChangeSpec := { name := "fnTiesOf", fn := fun _ => fun
  | [d] => { results := [.lit (.bool true)], args := [d] }
  | _ => none }
def fnTiesOfRow : OpenClaim := { program := "ytihkdbgnoncgnaa", sum := "cdbcdb54afd6828a429bfe93e3b6e8d743c219d5180da190a0cf9144d4525ae0", func := "loop.example/icecores/laws.FnTiesOf", spec := "fnTiesOf", apart := false }
def FnTiesOfSaid : Prop := fnTiesOfRow.holds Try.pinned (OpenSpec.ofChange fnTiesOfSpec)

/-- ITS FALSE NEIGHBOUR: 'it returns false'. Refute it at one input. -/
def fnTiesOfWrong : ChangeSpec := { name := "fnTiesOf", fn := fun _ => fun
  | [d] => { results := [.lit (.bool false)], args := [d] }
  | _ => none }
def FnTiesOfWrongFalsely : Prop := fnTiesOfRow.holds Try.pinned (OpenSpec.ofChange fnTiesOfWrong)

/- THE SECOND FORM. 'bulk': how many values and letters a reading holds, each counted each time it is reached (what is shared counts as often as it is met; a slice's spare places count too). A statement '..UptoSaid' is the law's where the arguments, and the package variables that the reading takes, are together of bulk at most 1048576: NARROWER than '..Said'. Prove '..Said' where nothing that the law and all that it calls make is longer than what came in: it says more and counts as full. Else prove '..UptoSaid'. A law counts once. -/
mutual
def uptoBulk {H : Type} : DataW H → Nat
  | .lit (.string bytes) => bytes.length + 1
  | .lit _ => 1
  | .nil => 1
  | .ptr d => uptoBulk d + 1
  | .slice elems spare => uptoBulkAll elems + uptoBulkAll spare + 1
  | .agg parts => uptoBulkAll parts + 1
  | .iface _ d => uptoBulk d + 1
  | .map entries => uptoBulkEntries entries + 1
  | .held _ => 1
def uptoBulkAll {H : Type} : List (DataW H) → Nat
  | [] => 0
  | d :: r => uptoBulk d + uptoBulkAll r
def uptoBulkEntries {H : Type} : List (Lit × DataW H) → Nat
  | [] => 0
  | x :: r => uptoBulkEntry x + uptoBulkEntries r
def uptoBulkEntry {H : Type} : Lit × DataW H → Nat
  | (.string bytes, d) => bytes.length + uptoBulk d + 1
  | (_, d) => uptoBulk d + 1
 end
def uptoSmall : (H : Type) → List (DataW H) → Bool := fun _ ds => decide (uptoBulkAll ds ≤ 1048576)
def OpenSpec.upto (s : _root_.Go.ChangeSpec) : _root_.Go.OpenSpec := { _root_.Go.OpenSpec.ofChange s with cond := some uptoSmall }

/-- 'laws.FnTiesJoinNone', WHERE WHAT IT READS IS OF BULK AT MOST 1048576: true; the input reads as it did. -/
def fnTiesJoinNoneUptoRow : OpenClaim := { program := "ytihkdbgnoncgnaa", sum := "cdbcdb54afd6828a429bfe93e3b6e8d743c219d5180da190a0cf9144d4525ae0", func := "loop.example/icecores/laws.FnTiesJoinNone", spec := "fnTiesJoinNone", unfollowed := true, recurses := true, apart := false, narrowed := true }
def FnTiesJoinNoneUptoSaid : Prop := fnTiesJoinNoneUptoRow.holds Try.pinned (OpenSpec.upto fnTiesJoinNoneSpec)

/-- 'laws.FnTiesJoinParts', WHERE WHAT IT READS IS OF BULK AT MOST 1048576: true; the input reads as it did. -/
def fnTiesJoinPartsUptoRow : OpenClaim := { program := "ytihkdbgnoncgnaa", sum := "cdbcdb54afd6828a429bfe93e3b6e8d743c219d5180da190a0cf9144d4525ae0", func := "loop.example/icecores/laws.FnTiesJoinParts", spec := "fnTiesJoinParts", unfollowed := true, recurses := true, apart := false, narrowed := true }
def FnTiesJoinPartsUptoSaid : Prop := fnTiesJoinPartsUptoRow.holds Try.pinned (OpenSpec.upto fnTiesJoinPartsSpec)

/-- 'laws.FnTiesNone', WHERE WHAT IT READS IS OF BULK AT MOST 1048576: true; the input reads as it did. -/
def fnTiesNoneUptoRow : OpenClaim := { program := "ytihkdbgnoncgnaa", sum := "cdbcdb54afd6828a429bfe93e3b6e8d743c219d5180da190a0cf9144d4525ae0", func := "loop.example/icecores/laws.FnTiesNone", spec := "fnTiesNone", unfollowed := true, recurses := true, apart := false, narrowed := true }
def FnTiesNoneUptoSaid : Prop := fnTiesNoneUptoRow.holds Try.pinned (OpenSpec.upto fnTiesNoneSpec)

/-- 'laws.FnExactTiesFit', WHERE WHAT IT READS IS OF BULK AT MOST 1048576: true; the input reads as it did. -/
def fnExactTiesFitUptoRow : OpenClaim := { program := "ytihkdbgnoncgnaa", sum := "cdbcdb54afd6828a429bfe93e3b6e8d743c219d5180da190a0cf9144d4525ae0", func := "loop.example/icecores/laws.FnExactTiesFit", spec := "fnExactTiesFit", unfollowed := true, recurses := true, apart := false, narrowed := true }
def FnExactTiesFitUptoSaid : Prop := fnExactTiesFitUptoRow.holds Try.pinned (OpenSpec.upto fnExactTiesFitSpec)

/-- 'laws.FnTiesFitLess', WHERE WHAT IT READS IS OF BULK AT MOST 1048576: true; the input reads as it did. -/
def fnTiesFitLessUptoRow : OpenClaim := { program := "ytihkdbgnoncgnaa", sum := "cdbcdb54afd6828a429bfe93e3b6e8d743c219d5180da190a0cf9144d4525ae0", func := "loop.example/icecores/laws.FnTiesFitLess", spec := "fnTiesFitLess", unfollowed := true, recurses := true, apart := false, narrowed := true }
def FnTiesFitLessUptoSaid : Prop := fnTiesFitLessUptoRow.holds Try.pinned (OpenSpec.upto fnTiesFitLessSpec)

/-- 'laws.FnTiesFit', WHERE WHAT IT READS IS OF BULK AT MOST 1048576: true; the input reads as it did. -/
def fnTiesFitUptoRow : OpenClaim := { program := "ytihkdbgnoncgnaa", sum := "cdbcdb54afd6828a429bfe93e3b6e8d743c219d5180da190a0cf9144d4525ae0", func := "loop.example/icecores/laws.FnTiesFit", spec := "fnTiesFit", unfollowed := true, recurses := true, apart := false, narrowed := true }
def FnTiesFitUptoSaid : Prop := fnTiesFitUptoRow.holds Try.pinned (OpenSpec.upto fnTiesFitSpec)

/-- 'laws.FnExactTiesJoin', WHERE WHAT IT READS IS OF BULK AT MOST 1048576: true; the input reads as it did. -/
def fnExactTiesJoinUptoRow : OpenClaim := { program := "ytihkdbgnoncgnaa", sum := "cdbcdb54afd6828a429bfe93e3b6e8d743c219d5180da190a0cf9144d4525ae0", func := "loop.example/icecores/laws.FnExactTiesJoin", spec := "fnExactTiesJoin", unfollowed := true, recurses := true, apart := false, narrowed := true }
def FnExactTiesJoinUptoSaid : Prop := fnExactTiesJoinUptoRow.holds Try.pinned (OpenSpec.upto fnExactTiesJoinSpec)

/-- 'laws.FnTiesJoin', WHERE WHAT IT READS IS OF BULK AT MOST 1048576: true; the input reads as it did. -/
def fnTiesJoinUptoRow : OpenClaim := { program := "ytihkdbgnoncgnaa", sum := "cdbcdb54afd6828a429bfe93e3b6e8d743c219d5180da190a0cf9144d4525ae0", func := "loop.example/icecores/laws.FnTiesJoin", spec := "fnTiesJoin", unfollowed := true, recurses := true, apart := false, narrowed := true }
def FnTiesJoinUptoSaid : Prop := fnTiesJoinUptoRow.holds Try.pinned (OpenSpec.upto fnTiesJoinSpec)

/-- 'laws.FnTiesOfLess', WHERE WHAT IT READS IS OF BULK AT MOST 1048576: true; the input reads as it did. -/
def fnTiesOfLessUptoRow : OpenClaim := { program := "ytihkdbgnoncgnaa", sum := "cdbcdb54afd6828a429bfe93e3b6e8d743c219d5180da190a0cf9144d4525ae0", func := "loop.example/icecores/laws.FnTiesOfLess", spec := "fnTiesOfLess", unfollowed := true, recurses := true, apart := false, narrowed := true }
def FnTiesOfLessUptoSaid : Prop := fnTiesOfLessUptoRow.holds Try.pinned (OpenSpec.upto fnTiesOfLessSpec)

/-- 'laws.FnTiesOf', WHERE WHAT IT READS IS OF BULK AT MOST 1048576: true; the input reads as it did. -/
def fnTiesOfUptoRow : OpenClaim := { program := "ytihkdbgnoncgnaa", sum := "cdbcdb54afd6828a429bfe93e3b6e8d743c219d5180da190a0cf9144d4525ae0", func := "loop.example/icecores/laws.FnTiesOf", spec := "fnTiesOf", apart := false, narrowed := true }
def FnTiesOfUptoSaid : Prop := fnTiesOfUptoRow.holds Try.pinned (OpenSpec.upto fnTiesOfSpec)

end Rows
end Go.Proofs.Ytihkdbgnoncgnaa
