/-
  No cell of these rows narrows 'for every input' (looked for: loops, veiled, ifaces, maps, wideKeys, modest, calm, conditions, laid).
  DERIVED. THE GIVEN ROWS OF THIS SEAT. 11 by the template 'for every input the law returns true; each argument reads behind the call as it read before'; 0 by the template 'total and deterministic' (their statements: YtgfahnmkfgfibaaTotals.lean).
  GIVEN WITH THE SEED: the statements are not yours to turn. If you find one false, say at which input.
  Laid BY PROGRAM, IN A SANDBOX (cutbox-rows.mjs): the forced cells as the released guide's own fill.sh prints them over the translation 6cccf8aae323b734… (all of the seat's roots in one cut). By AI agents, Wed Nov 11 2026. No macro, syntax, notation, axiom, sorry.
-/
import Derived.Test.YtgfahnmkfgfibaaChecked
import GoSem.Claim
import GoSem.ClaimJoined
import GoSem.ClaimMapViews
import Derived.JoinedTies
import Derived.KernelRfl
namespace Go.Proofs.Ytgfahnmkfgfibaa
/- THE CELL 'sum', in the pinned program and in every row, IS THE sha256 OF THE DUMP (.gsa) THAT YtgfahnmkfgfibaaProg.lean LOADS. Nothing in Lean hashes anything: it is a label: what it is worth is what the hold of that sum in a sandbox is worth. -/
noncomputable def Try.pinned : Pinned := { name := "ytgfahnmkfgfibaa", sum := "6cccf8aae323b734e8b2027b281aff851474ead558cfb69a9b55aa34de934cdc", checked := Try.checked }
namespace Rows
def none {H : Type} : Left H := { results := [], args := [] }

/-- 'laws.FnMatchSelf': WHATEVER THE INPUT: true; the input reads as it did. -/
def fnMatchSelfSpec : ChangeSpec := { name := "fnMatchSelf", fn := fun _ => fun
  | [d] => { results := [.lit (.bool true)], args := [d] }
  | _ => none }
def fnMatchSelfRow : OpenClaim := { program := "ytgfahnmkfgfibaa", sum := "6cccf8aae323b734e8b2027b281aff851474ead558cfb69a9b55aa34de934cdc", func := "loop.example/icecores/laws.FnMatchSelf", spec := "fnMatchSelf", apart := false }
def FnMatchSelfSaid : Prop := fnMatchSelfRow.holds Try.pinned (OpenSpec.ofChange fnMatchSelfSpec)

/-- ITS FALSE NEIGHBOUR: 'it returns false'. Refute it at one input. -/
def fnMatchSelfWrong : ChangeSpec := { name := "fnMatchSelf", fn := fun _ => fun
  | [d] => { results := [.lit (.bool false)], args := [d] }
  | _ => none }
def FnMatchSelfWrongFalsely : Prop := fnMatchSelfRow.holds Try.pinned (OpenSpec.ofChange fnMatchSelfWrong)

/-- 'laws.FnExactMatchMany': WHATEVER THE INPUT: true; the input reads as it did. -/
def fnExactMatchManySpec : ChangeSpec := { name := "fnExactMatchMany", fn := fun _ => fun
  | [d1, d2, d3, d4] => { results := [.lit (.bool true)], args := [d1, d2, d3, d4] }
  | _ => none }
def fnExactMatchManyRow : OpenClaim := { program := "ytgfahnmkfgfibaa", sum := "6cccf8aae323b734e8b2027b281aff851474ead558cfb69a9b55aa34de934cdc", func := "loop.example/icecores/laws.FnExactMatchMany", spec := "fnExactMatchMany", apart := false }
def FnExactMatchManySaid : Prop := fnExactMatchManyRow.holds Try.pinned (OpenSpec.ofChange fnExactMatchManySpec)

/-- ITS FALSE NEIGHBOUR: 'it returns false'. Refute it at one input. -/
def fnExactMatchManyWrong : ChangeSpec := { name := "fnExactMatchMany", fn := fun _ => fun
  | [d1, d2, d3, d4] => { results := [.lit (.bool false)], args := [d1, d2, d3, d4] }
  | _ => none }
def FnExactMatchManyWrongFalsely : Prop := fnExactMatchManyRow.holds Try.pinned (OpenSpec.ofChange fnExactMatchManyWrong)

/-- 'laws.FnMatch': WHATEVER THE INPUT: true; the input reads as it did. -/
def fnMatchSpec : ChangeSpec := { name := "fnMatch", fn := fun _ => fun
  | [d1, d2] => { results := [.lit (.bool true)], args := [d1, d2] }
  | _ => none }
def fnMatchRow : OpenClaim := { program := "ytgfahnmkfgfibaa", sum := "6cccf8aae323b734e8b2027b281aff851474ead558cfb69a9b55aa34de934cdc", func := "loop.example/icecores/laws.FnMatch", spec := "fnMatch", apart := false }
def FnMatchSaid : Prop := fnMatchRow.holds Try.pinned (OpenSpec.ofChange fnMatchSpec)

/-- ITS FALSE NEIGHBOUR: 'it returns false'. Refute it at one input. -/
def fnMatchWrong : ChangeSpec := { name := "fnMatch", fn := fun _ => fun
  | [d1, d2] => { results := [.lit (.bool false)], args := [d1, d2] }
  | _ => none }
def FnMatchWrongFalsely : Prop := fnMatchRow.holds Try.pinned (OpenSpec.ofChange fnMatchWrong)

/-- 'laws.FnMatchBestAny': WHATEVER THE INPUT: true; the input reads as it did. -/
def fnMatchBestAnySpec : ChangeSpec := { name := "fnMatchBestAny", fn := fun _ => fun
  | [d] => { results := [.lit (.bool true)], args := [d] }
  | _ => none }
def fnMatchBestAnyRow : OpenClaim := { program := "ytgfahnmkfgfibaa", sum := "6cccf8aae323b734e8b2027b281aff851474ead558cfb69a9b55aa34de934cdc", func := "loop.example/icecores/laws.FnMatchBestAny", spec := "fnMatchBestAny", apart := false }
def FnMatchBestAnySaid : Prop := fnMatchBestAnyRow.holds Try.pinned (OpenSpec.ofChange fnMatchBestAnySpec)

/-- ITS FALSE NEIGHBOUR: 'it returns false'. Refute it at one input. -/
def fnMatchBestAnyWrong : ChangeSpec := { name := "fnMatchBestAny", fn := fun _ => fun
  | [d] => { results := [.lit (.bool false)], args := [d] }
  | _ => none }
def FnMatchBestAnyWrongFalsely : Prop := fnMatchBestAnyRow.holds Try.pinned (OpenSpec.ofChange fnMatchBestAnyWrong)

/-- 'laws.FnMatchBestFirst': WHATEVER THE INPUT: true; the input reads as it did. -/
def fnMatchBestFirstSpec : ChangeSpec := { name := "fnMatchBestFirst", fn := fun _ => fun
  | [d] => { results := [.lit (.bool true)], args := [d] }
  | _ => none }
def fnMatchBestFirstRow : OpenClaim := { program := "ytgfahnmkfgfibaa", sum := "6cccf8aae323b734e8b2027b281aff851474ead558cfb69a9b55aa34de934cdc", func := "loop.example/icecores/laws.FnMatchBestFirst", spec := "fnMatchBestFirst", apart := false }
def FnMatchBestFirstSaid : Prop := fnMatchBestFirstRow.holds Try.pinned (OpenSpec.ofChange fnMatchBestFirstSpec)

/-- ITS FALSE NEIGHBOUR: 'it returns false'. Refute it at one input. -/
def fnMatchBestFirstWrong : ChangeSpec := { name := "fnMatchBestFirst", fn := fun _ => fun
  | [d] => { results := [.lit (.bool false)], args := [d] }
  | _ => none }
def FnMatchBestFirstWrongFalsely : Prop := fnMatchBestFirstRow.holds Try.pinned (OpenSpec.ofChange fnMatchBestFirstWrong)

/-- 'laws.FnExactMatchBest': WHATEVER THE INPUT: true; the input reads as it did. -/
def fnExactMatchBestSpec : ChangeSpec := { name := "fnExactMatchBest", fn := fun _ => fun
  | [d1, d2, d3] => { results := [.lit (.bool true)], args := [d1, d2, d3] }
  | _ => none }
def fnExactMatchBestRow : OpenClaim := { program := "ytgfahnmkfgfibaa", sum := "6cccf8aae323b734e8b2027b281aff851474ead558cfb69a9b55aa34de934cdc", func := "loop.example/icecores/laws.FnExactMatchBest", spec := "fnExactMatchBest", apart := false }
def FnExactMatchBestSaid : Prop := fnExactMatchBestRow.holds Try.pinned (OpenSpec.ofChange fnExactMatchBestSpec)

/-- ITS FALSE NEIGHBOUR: 'it returns false'. Refute it at one input. -/
def fnExactMatchBestWrong : ChangeSpec := { name := "fnExactMatchBest", fn := fun _ => fun
  | [d1, d2, d3] => { results := [.lit (.bool false)], args := [d1, d2, d3] }
  | _ => none }
def FnExactMatchBestWrongFalsely : Prop := fnExactMatchBestRow.holds Try.pinned (OpenSpec.ofChange fnExactMatchBestWrong)

/-- 'laws.FnMatchTurn': WHATEVER THE INPUT: true; the input reads as it did. -/
def fnMatchTurnSpec : ChangeSpec := { name := "fnMatchTurn", fn := fun _ => fun
  | [d] => { results := [.lit (.bool true)], args := [d] }
  | _ => none }
def fnMatchTurnRow : OpenClaim := { program := "ytgfahnmkfgfibaa", sum := "6cccf8aae323b734e8b2027b281aff851474ead558cfb69a9b55aa34de934cdc", func := "loop.example/icecores/laws.FnMatchTurn", spec := "fnMatchTurn", apart := false }
def FnMatchTurnSaid : Prop := fnMatchTurnRow.holds Try.pinned (OpenSpec.ofChange fnMatchTurnSpec)

/-- ITS FALSE NEIGHBOUR: 'it returns false'. Refute it at one input. -/
def fnMatchTurnWrong : ChangeSpec := { name := "fnMatchTurn", fn := fun _ => fun
  | [d] => { results := [.lit (.bool false)], args := [d] }
  | _ => none }
def FnMatchTurnWrongFalsely : Prop := fnMatchTurnRow.holds Try.pinned (OpenSpec.ofChange fnMatchTurnWrong)

/-- 'laws.FnMatchBest': WHATEVER THE INPUT: true; the input reads as it did. -/
def fnMatchBestSpec : ChangeSpec := { name := "fnMatchBest", fn := fun _ => fun
  | [d] => { results := [.lit (.bool true)], args := [d] }
  | _ => none }
def fnMatchBestRow : OpenClaim := { program := "ytgfahnmkfgfibaa", sum := "6cccf8aae323b734e8b2027b281aff851474ead558cfb69a9b55aa34de934cdc", func := "loop.example/icecores/laws.FnMatchBest", spec := "fnMatchBest", apart := false }
def FnMatchBestSaid : Prop := fnMatchBestRow.holds Try.pinned (OpenSpec.ofChange fnMatchBestSpec)

/-- ITS FALSE NEIGHBOUR: 'it returns false'. Refute it at one input. -/
def fnMatchBestWrong : ChangeSpec := { name := "fnMatchBest", fn := fun _ => fun
  | [d] => { results := [.lit (.bool false)], args := [d] }
  | _ => none }
def FnMatchBestWrongFalsely : Prop := fnMatchBestRow.holds Try.pinned (OpenSpec.ofChange fnMatchBestWrong)

/-- 'laws.FnMatchMany': WHATEVER THE INPUT: true; the input reads as it did. -/
def fnMatchManySpec : ChangeSpec := { name := "fnMatchMany", fn := fun _ => fun
  | [d] => { results := [.lit (.bool true)], args := [d] }
  | _ => none }
def fnMatchManyRow : OpenClaim := { program := "ytgfahnmkfgfibaa", sum := "6cccf8aae323b734e8b2027b281aff851474ead558cfb69a9b55aa34de934cdc", func := "loop.example/icecores/laws.FnMatchMany", spec := "fnMatchMany", apart := false }
def FnMatchManySaid : Prop := fnMatchManyRow.holds Try.pinned (OpenSpec.ofChange fnMatchManySpec)

/-- ITS FALSE NEIGHBOUR: 'it returns false'. Refute it at one input. -/
def fnMatchManyWrong : ChangeSpec := { name := "fnMatchMany", fn := fun _ => fun
  | [d] => { results := [.lit (.bool false)], args := [d] }
  | _ => none }
def FnMatchManyWrongFalsely : Prop := fnMatchManyRow.holds Try.pinned (OpenSpec.ofChange fnMatchManyWrong)

/-- 'laws.FnExactTiesOf': WHATEVER THE INPUT: true; the input reads as it did. -/
def fnExactTiesOfSpec : ChangeSpec := { name := "fnExactTiesOf", fn := fun _ => fun
  | [d1, d2, d3, d4] => { results := [.lit (.bool true)], args := [d1, d2, d3, d4] }
  | _ => none }
def fnExactTiesOfRow : OpenClaim := { program := "ytgfahnmkfgfibaa", sum := "6cccf8aae323b734e8b2027b281aff851474ead558cfb69a9b55aa34de934cdc", func := "loop.example/icecores/laws.FnExactTiesOf", spec := "fnExactTiesOf", apart := false }
def FnExactTiesOfSaid : Prop := fnExactTiesOfRow.holds Try.pinned (OpenSpec.ofChange fnExactTiesOfSpec)

/-- ITS FALSE NEIGHBOUR: 'it returns false'. Refute it at one input. -/
def fnExactTiesOfWrong : ChangeSpec := { name := "fnExactTiesOf", fn := fun _ => fun
  | [d1, d2, d3, d4] => { results := [.lit (.bool false)], args := [d1, d2, d3, d4] }
  | _ => none }
def FnExactTiesOfWrongFalsely : Prop := fnExactTiesOfRow.holds Try.pinned (OpenSpec.ofChange fnExactTiesOfWrong)

/-- 'laws.FnTiesOf': WHATEVER THE INPUT: true; the input reads as it did. -/
def fnTiesOfSpec : ChangeSpec := { name := "fnTiesOf", fn := fun _ => fun
  | [d] => { results := [.lit (.bool true)], args := [d] }
  | _ => none }
def fnTiesOfRow : OpenClaim := { program := "ytgfahnmkfgfibaa", sum := "6cccf8aae323b734e8b2027b281aff851474ead558cfb69a9b55aa34de934cdc", func := "loop.example/icecores/laws.FnTiesOf", spec := "fnTiesOf", apart := false }
def FnTiesOfSaid : Prop := fnTiesOfRow.holds Try.pinned (OpenSpec.ofChange fnTiesOfSpec)

/-- ITS FALSE NEIGHBOUR: 'it returns false'. Refute it at one input. -/
def fnTiesOfWrong : ChangeSpec := { name := "fnTiesOf", fn := fun _ => fun
  | [d] => { results := [.lit (.bool false)], args := [d] }
  | _ => none }
def FnTiesOfWrongFalsely : Prop := fnTiesOfRow.holds Try.pinned (OpenSpec.ofChange fnTiesOfWrong)

/- THE SECOND FORM. 'bulk': how many values and letters a reading holds, each counted each time it is reached (what is shared counts as often as it is met; a slice's spare places count too). A statement '..UptoSaid' is the law's where the arguments, and the package variables that the reading takes, are together of bulk at most 1048576: NARROWER than '..Said'. Prove '..Said' where nothing that the law and all that it calls make is longer than what came in: it says more and counts as full. Else prove '..UptoSaid'. A law counts once. -/
mutual
def uptoBulk {H : Type} : DataW H → Nat
  | .lit (.string bytes) => bytes.length + 1
  | .lit _ => 1
  | .nil => 1
  | .ptr d => uptoBulk d + 1
  | .slice elems spare => uptoBulkAll elems + uptoBulkAll spare + 1
  | .agg parts => uptoBulkAll parts + 1
  | .iface _ d => uptoBulk d + 1
  | .map entries => uptoBulkEntries entries + 1
  | .held _ => 1
def uptoBulkAll {H : Type} : List (DataW H) → Nat
  | [] => 0
  | d :: r => uptoBulk d + uptoBulkAll r
def uptoBulkEntries {H : Type} : List (Lit × DataW H) → Nat
  | [] => 0
  | x :: r => uptoBulkEntry x + uptoBulkEntries r
def uptoBulkEntry {H : Type} : Lit × DataW H → Nat
  | (.string bytes, d) => bytes.length + uptoBulk d + 1
  | (_, d) => uptoBulk d + 1
 end
def uptoSmall : (H : Type) → List (DataW H) → Bool := fun _ ds => decide (uptoBulkAll ds ≤ 1048576)
def OpenSpec.upto (s : _root_.Go.ChangeSpec) : _root_.Go.OpenSpec := { _root_.Go.OpenSpec.ofChange s with cond := some uptoSmall }

/-- 'laws.FnMatchSelf', WHERE WHAT IT READS IS OF BULK AT MOST 1048576: true; the input reads as it did. -/
def fnMatchSelfUptoRow : OpenClaim := { program := "ytgfahnmkfgfibaa", sum := "6cccf8aae323b734e8b2027b281aff851474ead558cfb69a9b55aa34de934cdc", func := "loop.example/icecores/laws.FnMatchSelf", spec := "fnMatchSelf", apart := false, narrowed := true }
def FnMatchSelfUptoSaid : Prop := fnMatchSelfUptoRow.holds Try.pinned (OpenSpec.upto fnMatchSelfSpec)

/-- 'laws.FnExactMatchMany', WHERE WHAT IT READS IS OF BULK AT MOST 1048576: true; the input reads as it did. -/
def fnExactMatchManyUptoRow : OpenClaim := { program := "ytgfahnmkfgfibaa", sum := "6cccf8aae323b734e8b2027b281aff851474ead558cfb69a9b55aa34de934cdc", func := "loop.example/icecores/laws.FnExactMatchMany", spec := "fnExactMatchMany", apart := false, narrowed := true }
def FnExactMatchManyUptoSaid : Prop := fnExactMatchManyUptoRow.holds Try.pinned (OpenSpec.upto fnExactMatchManySpec)

/-- 'laws.FnMatch', WHERE WHAT IT READS IS OF BULK AT MOST 1048576: true; the input reads as it did. -/
def fnMatchUptoRow : OpenClaim := { program := "ytgfahnmkfgfibaa", sum := "6cccf8aae323b734e8b2027b281aff851474ead558cfb69a9b55aa34de934cdc", func := "loop.example/icecores/laws.FnMatch", spec := "fnMatch", apart := false, narrowed := true }
def FnMatchUptoSaid : Prop := fnMatchUptoRow.holds Try.pinned (OpenSpec.upto fnMatchSpec)

/-- 'laws.FnMatchBestAny', WHERE WHAT IT READS IS OF BULK AT MOST 1048576: true; the input reads as it did. -/
def fnMatchBestAnyUptoRow : OpenClaim := { program := "ytgfahnmkfgfibaa", sum := "6cccf8aae323b734e8b2027b281aff851474ead558cfb69a9b55aa34de934cdc", func := "loop.example/icecores/laws.FnMatchBestAny", spec := "fnMatchBestAny", apart := false, narrowed := true }
def FnMatchBestAnyUptoSaid : Prop := fnMatchBestAnyUptoRow.holds Try.pinned (OpenSpec.upto fnMatchBestAnySpec)

/-- 'laws.FnMatchBestFirst', WHERE WHAT IT READS IS OF BULK AT MOST 1048576: true; the input reads as it did. -/
def fnMatchBestFirstUptoRow : OpenClaim := { program := "ytgfahnmkfgfibaa", sum := "6cccf8aae323b734e8b2027b281aff851474ead558cfb69a9b55aa34de934cdc", func := "loop.example/icecores/laws.FnMatchBestFirst", spec := "fnMatchBestFirst", apart := false, narrowed := true }
def FnMatchBestFirstUptoSaid : Prop := fnMatchBestFirstUptoRow.holds Try.pinned (OpenSpec.upto fnMatchBestFirstSpec)

/-- 'laws.FnExactMatchBest', WHERE WHAT IT READS IS OF BULK AT MOST 1048576: true; the input reads as it did. -/
def fnExactMatchBestUptoRow : OpenClaim := { program := "ytgfahnmkfgfibaa", sum := "6cccf8aae323b734e8b2027b281aff851474ead558cfb69a9b55aa34de934cdc", func := "loop.example/icecores/laws.FnExactMatchBest", spec := "fnExactMatchBest", apart := false, narrowed := true }
def FnExactMatchBestUptoSaid : Prop := fnExactMatchBestUptoRow.holds Try.pinned (OpenSpec.upto fnExactMatchBestSpec)

/-- 'laws.FnMatchTurn', WHERE WHAT IT READS IS OF BULK AT MOST 1048576: true; the input reads as it did. -/
def fnMatchTurnUptoRow : OpenClaim := { program := "ytgfahnmkfgfibaa", sum := "6cccf8aae323b734e8b2027b281aff851474ead558cfb69a9b55aa34de934cdc", func := "loop.example/icecores/laws.FnMatchTurn", spec := "fnMatchTurn", apart := false, narrowed := true }
def FnMatchTurnUptoSaid : Prop := fnMatchTurnUptoRow.holds Try.pinned (OpenSpec.upto fnMatchTurnSpec)

/-- 'laws.FnMatchBest', WHERE WHAT IT READS IS OF BULK AT MOST 1048576: true; the input reads as it did. -/
def fnMatchBestUptoRow : OpenClaim := { program := "ytgfahnmkfgfibaa", sum := "6cccf8aae323b734e8b2027b281aff851474ead558cfb69a9b55aa34de934cdc", func := "loop.example/icecores/laws.FnMatchBest", spec := "fnMatchBest", apart := false, narrowed := true }
def FnMatchBestUptoSaid : Prop := fnMatchBestUptoRow.holds Try.pinned (OpenSpec.upto fnMatchBestSpec)

/-- 'laws.FnMatchMany', WHERE WHAT IT READS IS OF BULK AT MOST 1048576: true; the input reads as it did. -/
def fnMatchManyUptoRow : OpenClaim := { program := "ytgfahnmkfgfibaa", sum := "6cccf8aae323b734e8b2027b281aff851474ead558cfb69a9b55aa34de934cdc", func := "loop.example/icecores/laws.FnMatchMany", spec := "fnMatchMany", apart := false, narrowed := true }
def FnMatchManyUptoSaid : Prop := fnMatchManyUptoRow.holds Try.pinned (OpenSpec.upto fnMatchManySpec)

/-- 'laws.FnExactTiesOf', WHERE WHAT IT READS IS OF BULK AT MOST 1048576: true; the input reads as it did. -/
def fnExactTiesOfUptoRow : OpenClaim := { program := "ytgfahnmkfgfibaa", sum := "6cccf8aae323b734e8b2027b281aff851474ead558cfb69a9b55aa34de934cdc", func := "loop.example/icecores/laws.FnExactTiesOf", spec := "fnExactTiesOf", apart := false, narrowed := true }
def FnExactTiesOfUptoSaid : Prop := fnExactTiesOfUptoRow.holds Try.pinned (OpenSpec.upto fnExactTiesOfSpec)

/-- 'laws.FnTiesOf', WHERE WHAT IT READS IS OF BULK AT MOST 1048576: true; the input reads as it did. -/
def fnTiesOfUptoRow : OpenClaim := { program := "ytgfahnmkfgfibaa", sum := "6cccf8aae323b734e8b2027b281aff851474ead558cfb69a9b55aa34de934cdc", func := "loop.example/icecores/laws.FnTiesOf", spec := "fnTiesOf", apart := false, narrowed := true }
def FnTiesOfUptoSaid : Prop := fnTiesOfUptoRow.holds Try.pinned (OpenSpec.upto fnTiesOfSpec)

end Rows
end Go.Proofs.Ytgfahnmkfgfibaa
