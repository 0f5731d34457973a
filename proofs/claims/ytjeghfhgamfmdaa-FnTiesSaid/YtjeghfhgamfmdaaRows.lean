/-
  No cell of these rows narrows 'for every input' (looked for: loops, veiled, ifaces, maps, wideKeys, modest, calm, conditions, laid).
  DERIVED. THE GIVEN ROWS OF THIS SEAT. 11 by the template 'for every input the law returns true; each argument reads behind the call as it read before'; 0 by the template 'total and deterministic' (their statements: YtjeghfhgamfmdaaTotals.lean).
  GIVEN WITH THE SEED: the statements are not yours to turn. If you find one false, say at which input.
  Laid BY PROGRAM, IN A SANDBOX (cutbox-rows.mjs): the forced cells as the released guide's own fill.sh prints them over the translation 93cc2b7a5cc5c8f9… (all of the seat's roots in one cut). By AI agents, Wed Nov 11 2026. No macro, syntax, notation, axiom, sorry.
-/
import Derived.Test.YtjeghfhgamfmdaaChecked
import GoSem.Claim
import GoSem.ClaimJoined
import GoSem.ClaimMapViews
import Derived.JoinedTies
import Derived.KernelRfl
namespace Go.Proofs.Ytjeghfhgamfmdaa
/- THE CELL 'sum', in the pinned program and in every row, IS THE sha256 OF THE DUMP (.gsa) THAT YtjeghfhgamfmdaaProg.lean LOADS. Nothing in Lean hashes anything: it is a label: what it is worth is what the hold of that sum in a sandbox is worth. -/
noncomputable def Try.pinned : Pinned := { name := "ytjeghfhgamfmdaa", sum := "93cc2b7a5cc5c8f9d8a607961210af6f66afd82f62d4f970c1e16462a268023f", checked := Try.checked }
namespace Rows
def none {H : Type} : Left H := { results := [], args := [] }

/-- 'laws.FnExactTiesValid': WHATEVER THE INPUT: true; the input reads as it did. -/
def fnExactTiesValidSpec : ChangeSpec := { name := "fnExactTiesValid", fn := fun _ => fun
  | [d] => { results := [.lit (.bool true)], args := [d] }
  | _ => none }
def fnExactTiesValidRow : OpenClaim := { program := "ytjeghfhgamfmdaa", sum := "93cc2b7a5cc5c8f9d8a607961210af6f66afd82f62d4f970c1e16462a268023f", func := "loop.example/icecores/laws.FnExactTiesValid", spec := "fnExactTiesValid", apart := false }
def FnExactTiesValidSaid : Prop := fnExactTiesValidRow.holds Try.pinned (OpenSpec.ofChange fnExactTiesValidSpec)

/-- ITS FALSE NEIGHBOUR: 'it returns false'. Refute it at one input. -/
def fnExactTiesValidWrong : ChangeSpec := { name := "fnExactTiesValid", fn := fun _ => fun
  | [d] => { results := [.lit (.bool false)], args := [d] }
  | _ => none }
def FnExactTiesValidWrongFalsely : Prop := fnExactTiesValidRow.holds Try.pinned (OpenSpec.ofChange fnExactTiesValidWrong)

/-- 'laws.FnTies': WHATEVER THE INPUT: true; the input reads as it did. -/
def fnTiesSpec : ChangeSpec := { name := "fnTies", fn := fun _ => fun
  | [d1, d2] => { results := [.lit (.bool true)], args := [d1, d2] }
  | _ => none }
def fnTiesRow : OpenClaim := { program := "ytjeghfhgamfmdaa", sum := "93cc2b7a5cc5c8f9d8a607961210af6f66afd82f62d4f970c1e16462a268023f", func := "loop.example/icecores/laws.FnTies", spec := "fnTies", apart := false }
def FnTiesSaid : Prop := fnTiesRow.holds Try.pinned (OpenSpec.ofChange fnTiesSpec)

/-- ITS FALSE NEIGHBOUR: 'it returns false'. Refute it at one input. -/
def fnTiesWrong : ChangeSpec := { name := "fnTies", fn := fun _ => fun
  | [d1, d2] => { results := [.lit (.bool false)], args := [d1, d2] }
  | _ => none }
def FnTiesWrongFalsely : Prop := fnTiesRow.holds Try.pinned (OpenSpec.ofChange fnTiesWrong)

/-- 'laws.FnTiesTurn': WHATEVER THE INPUT: true; the input reads as it did. -/
def fnTiesTurnSpec : ChangeSpec := { name := "fnTiesTurn", fn := fun _ => fun
  | [d] => { results := [.lit (.bool true)], args := [d] }
  | _ => none }
def fnTiesTurnRow : OpenClaim := { program := "ytjeghfhgamfmdaa", sum := "93cc2b7a5cc5c8f9d8a607961210af6f66afd82f62d4f970c1e16462a268023f", func := "loop.example/icecores/laws.FnTiesTurn", spec := "fnTiesTurn", apart := false }
def FnTiesTurnSaid : Prop := fnTiesTurnRow.holds Try.pinned (OpenSpec.ofChange fnTiesTurnSpec)

/-- ITS FALSE NEIGHBOUR: 'it returns false'. Refute it at one input. -/
def fnTiesTurnWrong : ChangeSpec := { name := "fnTiesTurn", fn := fun _ => fun
  | [d] => { results := [.lit (.bool false)], args := [d] }
  | _ => none }
def FnTiesTurnWrongFalsely : Prop := fnTiesTurnRow.holds Try.pinned (OpenSpec.ofChange fnTiesTurnWrong)

/-- 'laws.FnExactTiesTurn': WHATEVER THE INPUT: true; the input reads as it did. -/
def fnExactTiesTurnSpec : ChangeSpec := { name := "fnExactTiesTurn", fn := fun _ => fun
  | [d] => { results := [.lit (.bool true)], args := [d] }
  | _ => none }
def fnExactTiesTurnRow : OpenClaim := { program := "ytjeghfhgamfmdaa", sum := "93cc2b7a5cc5c8f9d8a607961210af6f66afd82f62d4f970c1e16462a268023f", func := "loop.example/icecores/laws.FnExactTiesTurn", spec := "fnExactTiesTurn", apart := false }
def FnExactTiesTurnSaid : Prop := fnExactTiesTurnRow.holds Try.pinned (OpenSpec.ofChange fnExactTiesTurnSpec)

/-- ITS FALSE NEIGHBOUR: 'it returns false'. Refute it at one input. -/
def fnExactTiesTurnWrong : ChangeSpec := { name := "fnExactTiesTurn", fn := fun _ => fun
  | [d] => { results := [.lit (.bool false)], args := [d] }
  | _ => none }
def FnExactTiesTurnWrongFalsely : Prop := fnExactTiesTurnRow.holds Try.pinned (OpenSpec.ofChange fnExactTiesTurnWrong)

/-- 'laws.FnExactTiesThrough': WHATEVER THE INPUT: true; the input reads as it did. -/
def fnExactTiesThroughSpec : ChangeSpec := { name := "fnExactTiesThrough", fn := fun _ => fun
  | [d1, d2] => { results := [.lit (.bool true)], args := [d1, d2] }
  | _ => none }
def fnExactTiesThroughRow : OpenClaim := { program := "ytjeghfhgamfmdaa", sum := "93cc2b7a5cc5c8f9d8a607961210af6f66afd82f62d4f970c1e16462a268023f", func := "loop.example/icecores/laws.FnExactTiesThrough", spec := "fnExactTiesThrough", apart := false }
def FnExactTiesThroughSaid : Prop := fnExactTiesThroughRow.holds Try.pinned (OpenSpec.ofChange fnExactTiesThroughSpec)

/-- ITS FALSE NEIGHBOUR: 'it returns false'. Refute it at one input. -/
def fnExactTiesThroughWrong : ChangeSpec := { name := "fnExactTiesThrough", fn := fun _ => fun
  | [d1, d2] => { results := [.lit (.bool false)], args := [d1, d2] }
  | _ => none }
def FnExactTiesThroughWrongFalsely : Prop := fnExactTiesThroughRow.holds Try.pinned (OpenSpec.ofChange fnExactTiesThroughWrong)

/-- 'laws.FnTiesThroughLess': WHATEVER THE INPUT: true; the input reads as it did. -/
def fnTiesThroughLessSpec : ChangeSpec := { name := "fnTiesThroughLess", fn := fun _ => fun
  | [d1, d2] => { results := [.lit (.bool true)], args := [d1, d2] }
  | _ => none }
def fnTiesThroughLessRow : OpenClaim := { program := "ytjeghfhgamfmdaa", sum := "93cc2b7a5cc5c8f9d8a607961210af6f66afd82f62d4f970c1e16462a268023f", func := "loop.example/icecores/laws.FnTiesThroughLess", spec := "fnTiesThroughLess", apart := false }
def FnTiesThroughLessSaid : Prop := fnTiesThroughLessRow.holds Try.pinned (OpenSpec.ofChange fnTiesThroughLessSpec)

/-- ITS FALSE NEIGHBOUR: 'it returns false'. Refute it at one input. -/
def fnTiesThroughLessWrong : ChangeSpec := { name := "fnTiesThroughLess", fn := fun _ => fun
  | [d1, d2] => { results := [.lit (.bool false)], args := [d1, d2] }
  | _ => none }
def FnTiesThroughLessWrongFalsely : Prop := fnTiesThroughLessRow.holds Try.pinned (OpenSpec.ofChange fnTiesThroughLessWrong)

/-- 'laws.FnTiesThrough': WHATEVER THE INPUT: true; the input reads as it did. -/
def fnTiesThroughSpec : ChangeSpec := { name := "fnTiesThrough", fn := fun _ => fun
  | [d] => { results := [.lit (.bool true)], args := [d] }
  | _ => none }
def fnTiesThroughRow : OpenClaim := { program := "ytjeghfhgamfmdaa", sum := "93cc2b7a5cc5c8f9d8a607961210af6f66afd82f62d4f970c1e16462a268023f", func := "loop.example/icecores/laws.FnTiesThrough", spec := "fnTiesThrough", apart := false }
def FnTiesThroughSaid : Prop := fnTiesThroughRow.holds Try.pinned (OpenSpec.ofChange fnTiesThroughSpec)

/-- ITS FALSE NEIGHBOUR: 'it returns false'. Refute it at one input. -/
def fnTiesThroughWrong : ChangeSpec := { name := "fnTiesThrough", fn := fun _ => fun
  | [d] => { results := [.lit (.bool false)], args := [d] }
  | _ => none }
def FnTiesThroughWrongFalsely : Prop := fnTiesThroughRow.holds Try.pinned (OpenSpec.ofChange fnTiesThroughWrong)

/-- 'laws.FnTiesThroughSelf': WHATEVER THE INPUT: true; the input reads as it did. -/
def fnTiesThroughSelfSpec : ChangeSpec := { name := "fnTiesThroughSelf", fn := fun _ => fun
  | [d] => { results := [.lit (.bool true)], args := [d] }
  | _ => none }
def fnTiesThroughSelfRow : OpenClaim := { program := "ytjeghfhgamfmdaa", sum := "93cc2b7a5cc5c8f9d8a607961210af6f66afd82f62d4f970c1e16462a268023f", func := "loop.example/icecores/laws.FnTiesThroughSelf", spec := "fnTiesThroughSelf", apart := false }
def FnTiesThroughSelfSaid : Prop := fnTiesThroughSelfRow.holds Try.pinned (OpenSpec.ofChange fnTiesThroughSelfSpec)

/-- ITS FALSE NEIGHBOUR: 'it returns false'. Refute it at one input. -/
def fnTiesThroughSelfWrong : ChangeSpec := { name := "fnTiesThroughSelf", fn := fun _ => fun
  | [d] => { results := [.lit (.bool false)], args := [d] }
  | _ => none }
def FnTiesThroughSelfWrongFalsely : Prop := fnTiesThroughSelfRow.holds Try.pinned (OpenSpec.ofChange fnTiesThroughSelfWrong)

/-- 'laws.FnTiesThroughThree': WHATEVER THE INPUT: true; the input reads as it did. -/
def fnTiesThroughThreeSpec : ChangeSpec := { name := "fnTiesThroughThree", fn := fun _ => fun
  | [d] => { results := [.lit (.bool true)], args := [d] }
  | _ => none }
def fnTiesThroughThreeRow : OpenClaim := { program := "ytjeghfhgamfmdaa", sum := "93cc2b7a5cc5c8f9d8a607961210af6f66afd82f62d4f970c1e16462a268023f", func := "loop.example/icecores/laws.FnTiesThroughThree", spec := "fnTiesThroughThree", apart := false }
def FnTiesThroughThreeSaid : Prop := fnTiesThroughThreeRow.holds Try.pinned (OpenSpec.ofChange fnTiesThroughThreeSpec)

/-- ITS FALSE NEIGHBOUR: 'it returns false'. Refute it at one input. -/
def fnTiesThroughThreeWrong : ChangeSpec := { name := "fnTiesThroughThree", fn := fun _ => fun
  | [d] => { results := [.lit (.bool false)], args := [d] }
  | _ => none }
def FnTiesThroughThreeWrongFalsely : Prop := fnTiesThroughThreeRow.holds Try.pinned (OpenSpec.ofChange fnTiesThroughThreeWrong)

/-- 'laws.FnTiesCurve': WHATEVER THE INPUT: true; the input reads as it did. -/
def fnTiesCurveSpec : ChangeSpec := { name := "fnTiesCurve", fn := fun _ => fun
  | [d] => { results := [.lit (.bool true)], args := [d] }
  | _ => none }
def fnTiesCurveRow : OpenClaim := { program := "ytjeghfhgamfmdaa", sum := "93cc2b7a5cc5c8f9d8a607961210af6f66afd82f62d4f970c1e16462a268023f", func := "loop.example/icecores/laws.FnTiesCurve", spec := "fnTiesCurve", apart := false }
def FnTiesCurveSaid : Prop := fnTiesCurveRow.holds Try.pinned (OpenSpec.ofChange fnTiesCurveSpec)

/-- ITS FALSE NEIGHBOUR: 'it returns false'. Refute it at one input. -/
def fnTiesCurveWrong : ChangeSpec := { name := "fnTiesCurve", fn := fun _ => fun
  | [d] => { results := [.lit (.bool false)], args := [d] }
  | _ => none }
def FnTiesCurveWrongFalsely : Prop := fnTiesCurveRow.holds Try.pinned (OpenSpec.ofChange fnTiesCurveWrong)

/-- 'laws.FnExactTiesCurve': WHATEVER THE INPUT: true; the input reads as it did. -/
def fnExactTiesCurveSpec : ChangeSpec := { name := "fnExactTiesCurve", fn := fun _ => fun
  | [d] => { results := [.lit (.bool true)], args := [d] }
  | _ => none }
def fnExactTiesCurveRow : OpenClaim := { program := "ytjeghfhgamfmdaa", sum := "93cc2b7a5cc5c8f9d8a607961210af6f66afd82f62d4f970c1e16462a268023f", func := "loop.example/icecores/laws.FnExactTiesCurve", spec := "fnExactTiesCurve", apart := false }
def FnExactTiesCurveSaid : Prop := fnExactTiesCurveRow.holds Try.pinned (OpenSpec.ofChange fnExactTiesCurveSpec)

/-- ITS FALSE NEIGHBOUR: 'it returns false'. Refute it at one input. -/
def fnExactTiesCurveWrong : ChangeSpec := { name := "fnExactTiesCurve", fn := fun _ => fun
  | [d] => { results := [.lit (.bool false)], args := [d] }
  | _ => none }
def FnExactTiesCurveWrongFalsely : Prop := fnExactTiesCurveRow.holds Try.pinned (OpenSpec.ofChange fnExactTiesCurveWrong)

/- THE SECOND FORM. 'bulk': how many values and letters a reading holds, each counted each time it is reached (what is shared counts as often as it is met; a slice's spare places count too). A statement '..UptoSaid' is the law's where the arguments, and the package variables that the reading takes, are together of bulk at most 1048576: NARROWER than '..Said'. Prove '..Said' where nothing that the law and all that it calls make is longer than what came in: it says more and counts as full. Else prove '..UptoSaid'. A law counts once. -/
mutual
def uptoBulk {H : Type} : DataW H → Nat
  | .lit (.string bytes) => bytes.length + 1
  | .lit _ => 1
  | .nil => 1
  | .ptr d => uptoBulk d + 1
  | .slice elems spare => uptoBulkAll elems + uptoBulkAll spare + 1
  | .agg parts => uptoBulkAll parts + 1
  | .iface _ d => uptoBulk d + 1
  | .map entries => uptoBulkEntries entries + 1
  | .held _ => 1
def uptoBulkAll {H : Type} : List (DataW H) → Nat
  | [] => 0
  | d :: r => uptoBulk d + uptoBulkAll r
def uptoBulkEntries {H : Type} : List (Lit × DataW H) → Nat
  | [] => 0
  | x :: r => uptoBulkEntry x + uptoBulkEntries r
def uptoBulkEntry {H : Type} : Lit × DataW H → Nat
  | (.string bytes, d) => bytes.length + uptoBulk d + 1
  | (_, d) => uptoBulk d + 1
 end
def uptoSmall : (H : Type) → List (DataW H) → Bool := fun _ ds => decide (uptoBulkAll ds ≤ 1048576)
def OpenSpec.upto (s : _root_.Go.ChangeSpec) : _root_.Go.OpenSpec := { _root_.Go.OpenSpec.ofChange s with cond := some uptoSmall }

/-- 'laws.FnExactTiesValid', WHERE WHAT IT READS IS OF BULK AT MOST 1048576: true; the input reads as it did. -/
def fnExactTiesValidUptoRow : OpenClaim := { program := "ytjeghfhgamfmdaa", sum := "93cc2b7a5cc5c8f9d8a607961210af6f66afd82f62d4f970c1e16462a268023f", func := "loop.example/icecores/laws.FnExactTiesValid", spec := "fnExactTiesValid", apart := false, narrowed := true }
def FnExactTiesValidUptoSaid : Prop := fnExactTiesValidUptoRow.holds Try.pinned (OpenSpec.upto fnExactTiesValidSpec)

/-- 'laws.FnTies', WHERE WHAT IT READS IS OF BULK AT MOST 1048576: true; the input reads as it did. -/
def fnTiesUptoRow : OpenClaim := { program := "ytjeghfhgamfmdaa", sum := "93cc2b7a5cc5c8f9d8a607961210af6f66afd82f62d4f970c1e16462a268023f", func := "loop.example/icecores/laws.FnTies", spec := "fnTies", apart := false, narrowed := true }
def FnTiesUptoSaid : Prop := fnTiesUptoRow.holds Try.pinned (OpenSpec.upto fnTiesSpec)

/-- 'laws.FnTiesTurn', WHERE WHAT IT READS IS OF BULK AT MOST 1048576: true; the input reads as it did. -/
def fnTiesTurnUptoRow : OpenClaim := { program := "ytjeghfhgamfmdaa", sum := "93cc2b7a5cc5c8f9d8a607961210af6f66afd82f62d4f970c1e16462a268023f", func := "loop.example/icecores/laws.FnTiesTurn", spec := "fnTiesTurn", apart := false, narrowed := true }
def FnTiesTurnUptoSaid : Prop := fnTiesTurnUptoRow.holds Try.pinned (OpenSpec.upto fnTiesTurnSpec)

/-- 'laws.FnExactTiesTurn', WHERE WHAT IT READS IS OF BULK AT MOST 1048576: true; the input reads as it did. -/
def fnExactTiesTurnUptoRow : OpenClaim := { program := "ytjeghfhgamfmdaa", sum := "93cc2b7a5cc5c8f9d8a607961210af6f66afd82f62d4f970c1e16462a268023f", func := "loop.example/icecores/laws.FnExactTiesTurn", spec := "fnExactTiesTurn", apart := false, narrowed := true }
def FnExactTiesTurnUptoSaid : Prop := fnExactTiesTurnUptoRow.holds Try.pinned (OpenSpec.upto fnExactTiesTurnSpec)

/-- 'laws.FnExactTiesThrough', WHERE WHAT IT READS IS OF BULK AT MOST 1048576: true; the input reads as it did. -/
def fnExactTiesThroughUptoRow : OpenClaim := { program := "ytjeghfhgamfmdaa", sum := "93cc2b7a5cc5c8f9d8a607961210af6f66afd82f62d4f970c1e16462a268023f", func := "loop.example/icecores/laws.FnExactTiesThrough", spec := "fnExactTiesThrough", apart := false, narrowed := true }
def FnExactTiesThroughUptoSaid : Prop := fnExactTiesThroughUptoRow.holds Try.pinned (OpenSpec.upto fnExactTiesThroughSpec)

/-- 'laws.FnTiesThroughLess', WHERE WHAT IT READS IS OF BULK AT MOST 1048576: true; the input reads as it did. -/
def fnTiesThroughLessUptoRow : OpenClaim := { program := "ytjeghfhgamfmdaa", sum := "93cc2b7a5cc5c8f9d8a607961210af6f66afd82f62d4f970c1e16462a268023f", func := "loop.example/icecores/laws.FnTiesThroughLess", spec := "fnTiesThroughLess", apart := false, narrowed := true }
def FnTiesThroughLessUptoSaid : Prop := fnTiesThroughLessUptoRow.holds Try.pinned (OpenSpec.upto fnTiesThroughLessSpec)

/-- 'laws.FnTiesThrough', WHERE WHAT IT READS IS OF BULK AT MOST 1048576: true; the input reads as it did. -/
def fnTiesThroughUptoRow : OpenClaim := { program := "ytjeghfhgamfmdaa", sum := "93cc2b7a5cc5c8f9d8a607961210af6f66afd82f62d4f970c1e16462a268023f", func := "loop.example/icecores/laws.FnTiesThrough", spec := "fnTiesThrough", apart := false, narrowed := true }
def FnTiesThroughUptoSaid : Prop := fnTiesThroughUptoRow.holds Try.pinned (OpenSpec.upto fnTiesThroughSpec)

/-- 'laws.FnTiesThroughSelf', WHERE WHAT IT READS IS OF BULK AT MOST 1048576: true; the input reads as it did. -/
def fnTiesThroughSelfUptoRow : OpenClaim := { program := "ytjeghfhgamfmdaa", sum := "93cc2b7a5cc5c8f9d8a607961210af6f66afd82f62d4f970c1e16462a268023f", func := "loop.example/icecores/laws.FnTiesThroughSelf", spec := "fnTiesThroughSelf", apart := false, narrowed := true }
def FnTiesThroughSelfUptoSaid : Prop := fnTiesThroughSelfUptoRow.holds Try.pinned (OpenSpec.upto fnTiesThroughSelfSpec)

/-- 'laws.FnTiesThroughThree', WHERE WHAT IT READS IS OF BULK AT MOST 1048576: true; the input reads as it did. -/
def fnTiesThroughThreeUptoRow : OpenClaim := { program := "ytjeghfhgamfmdaa", sum := "93cc2b7a5cc5c8f9d8a607961210af6f66afd82f62d4f970c1e16462a268023f", func := "loop.example/icecores/laws.FnTiesThroughThree", spec := "fnTiesThroughThree", apart := false, narrowed := true }
def FnTiesThroughThreeUptoSaid : Prop := fnTiesThroughThreeUptoRow.holds Try.pinned (OpenSpec.upto fnTiesThroughThreeSpec)

/-- 'laws.FnTiesCurve', WHERE WHAT IT READS IS OF BULK AT MOST 1048576: true; the input reads as it did. -/
def fnTiesCurveUptoRow : OpenClaim := { program := "ytjeghfhgamfmdaa", sum := "93cc2b7a5cc5c8f9d8a607961210af6f66afd82f62d4f970c1e16462a268023f", func := "loop.example/icecores/laws.FnTiesCurve", spec := "fnTiesCurve", apart := false, narrowed := true }
def FnTiesCurveUptoSaid : Prop := fnTiesCurveUptoRow.holds Try.pinned (OpenSpec.upto fnTiesCurveSpec)

/-- 'laws.FnExactTiesCurve', WHERE WHAT IT READS IS OF BULK AT MOST 1048576: true; the input reads as it did. -/
def fnExactTiesCurveUptoRow : OpenClaim := { program := "ytjeghfhgamfmdaa", sum := "93cc2b7a5cc5c8f9d8a607961210af6f66afd82f62d4f970c1e16462a268023f", func := "loop.example/icecores/laws.FnExactTiesCurve", spec := "fnExactTiesCurve", apart := false, narrowed := true }
def FnExactTiesCurveUptoSaid : Prop := fnExactTiesCurveUptoRow.holds Try.pinned (OpenSpec.upto fnExactTiesCurveSpec)

end Rows
end Go.Proofs.Ytjeghfhgamfmdaa
