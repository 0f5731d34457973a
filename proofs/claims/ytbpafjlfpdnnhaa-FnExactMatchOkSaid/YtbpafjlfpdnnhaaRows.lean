/-
  No cell of these rows narrows 'for every input' (looked for: loops, veiled, ifaces, maps, wideKeys, modest, calm, conditions, laid).
  DERIVED. THE GIVEN ROWS OF THIS SEAT. 13 by the template 'for every input the law returns true; each argument reads behind the call as it read before'; 0 by the template 'total and deterministic' (their statements: YtbpafjlfpdnnhaaTotals.lean).
  GIVEN WITH THE SEED: the statements are not yours to turn. If you find one false, say at which input.
  Laid BY PROGRAM, IN A SANDBOX (cutbox-rows.mjs): the forced cells as the released guide's own fill.sh prints them over the translation a43c6140921d6756… (all of the seat's roots in one cut). By AI agents, Wed Nov 11 2026. No macro, syntax, notation, axiom, sorry.
-/
import Derived.Test.YtbpafjlfpdnnhaaChecked
import GoSem.Claim
import GoSem.ClaimJoined
import GoSem.ClaimMapViews
import Derived.JoinedTies
import Derived.KernelRfl
namespace Go.Proofs.Ytbpafjlfpdnnhaa
/- THE CELL 'sum', in the pinned program and in every row, IS THE sha256 OF THE DUMP (.gsa) THAT YtbpafjlfpdnnhaaProg.lean LOADS. Nothing in Lean hashes anything: it is a label: what it is worth is what the hold of that sum in a sandbox is worth. -/
noncomputable def Try.pinned : Pinned := { name := "ytbpafjlfpdnnhaa", sum := "a43c6140921d6756c736f59bbb302783af3dba63ecc74748fd4bb7d62fe18aab", checked := Try.checked }
namespace Rows
def none {H : Type} : Left H := { results := [], args := [] }

/-- 'laws.FnExactEventsValid': WHATEVER THE INPUT: true; the input reads as it did. -/
def fnExactEventsValidSpec : ChangeSpec := { name := "fnExactEventsValid", fn := fun _ => fun
  | [d] => { results := [.lit (.bool true)], args := [d] }
  | _ => none }
def fnExactEventsValidRow : OpenClaim := { program := "ytbpafjlfpdnnhaa", sum := "a43c6140921d6756c736f59bbb302783af3dba63ecc74748fd4bb7d62fe18aab", func := "loop.example/icecores/laws.FnExactEventsValid", spec := "fnExactEventsValid", apart := false }
def FnExactEventsValidSaid : Prop := fnExactEventsValidRow.holds Try.pinned (OpenSpec.ofChange fnExactEventsValidSpec)

/-- ITS FALSE NEIGHBOUR: 'it returns false'. Refute it at one input. -/
def fnExactEventsValidWrong : ChangeSpec := { name := "fnExactEventsValid", fn := fun _ => fun
  | [d] => { results := [.lit (.bool false)], args := [d] }
  | _ => none }
def FnExactEventsValidWrongFalsely : Prop := fnExactEventsValidRow.holds Try.pinned (OpenSpec.ofChange fnExactEventsValidWrong)

/-- 'laws.FnEvents': WHATEVER THE INPUT: true; the input reads as it did. -/
def fnEventsSpec : ChangeSpec := { name := "fnEvents", fn := fun _ => fun
  | [d1, d2] => { results := [.lit (.bool true)], args := [d1, d2] }
  | _ => none }
def fnEventsRow : OpenClaim := { program := "ytbpafjlfpdnnhaa", sum := "a43c6140921d6756c736f59bbb302783af3dba63ecc74748fd4bb7d62fe18aab", func := "loop.example/icecores/laws.FnEvents", spec := "fnEvents", apart := false }
def FnEventsSaid : Prop := fnEventsRow.holds Try.pinned (OpenSpec.ofChange fnEventsSpec)

/-- ITS FALSE NEIGHBOUR: 'it returns false'. Refute it at one input. -/
def fnEventsWrong : ChangeSpec := { name := "fnEvents", fn := fun _ => fun
  | [d1, d2] => { results := [.lit (.bool false)], args := [d1, d2] }
  | _ => none }
def FnEventsWrongFalsely : Prop := fnEventsRow.holds Try.pinned (OpenSpec.ofChange fnEventsWrong)

/-- 'laws.FnExactMatchMost': WHATEVER THE INPUT: true; the input reads as it did. -/
def fnExactMatchMostSpec : ChangeSpec := { name := "fnExactMatchMost", fn := fun _ => fun
  | [d1, d2, d3] => { results := [.lit (.bool true)], args := [d1, d2, d3] }
  | _ => none }
def fnExactMatchMostRow : OpenClaim := { program := "ytbpafjlfpdnnhaa", sum := "a43c6140921d6756c736f59bbb302783af3dba63ecc74748fd4bb7d62fe18aab", func := "loop.example/icecores/laws.FnExactMatchMost", spec := "fnExactMatchMost", apart := false }
def FnExactMatchMostSaid : Prop := fnExactMatchMostRow.holds Try.pinned (OpenSpec.ofChange fnExactMatchMostSpec)

/-- ITS FALSE NEIGHBOUR: 'it returns false'. Refute it at one input. -/
def fnExactMatchMostWrong : ChangeSpec := { name := "fnExactMatchMost", fn := fun _ => fun
  | [d1, d2, d3] => { results := [.lit (.bool false)], args := [d1, d2, d3] }
  | _ => none }
def FnExactMatchMostWrongFalsely : Prop := fnExactMatchMostRow.holds Try.pinned (OpenSpec.ofChange fnExactMatchMostWrong)

/-- 'laws.FnExactMatchCount': WHATEVER THE INPUT: true; the input reads as it did. -/
def fnExactMatchCountSpec : ChangeSpec := { name := "fnExactMatchCount", fn := fun _ => fun
  | [d1, d2, d3] => { results := [.lit (.bool true)], args := [d1, d2, d3] }
  | _ => none }
def fnExactMatchCountRow : OpenClaim := { program := "ytbpafjlfpdnnhaa", sum := "a43c6140921d6756c736f59bbb302783af3dba63ecc74748fd4bb7d62fe18aab", func := "loop.example/icecores/laws.FnExactMatchCount", spec := "fnExactMatchCount", recurses := true, apart := false }
def FnExactMatchCountSaid : Prop := fnExactMatchCountRow.holds Try.pinned (OpenSpec.ofChange fnExactMatchCountSpec)

/-- ITS FALSE NEIGHBOUR: 'it returns false'. Refute it at one input. -/
def fnExactMatchCountWrong : ChangeSpec := { name := "fnExactMatchCount", fn := fun _ => fun
  | [d1, d2, d3] => { results := [.lit (.bool false)], args := [d1, d2, d3] }
  | _ => none }
def FnExactMatchCountWrongFalsely : Prop := fnExactMatchCountRow.holds Try.pinned (OpenSpec.ofChange fnExactMatchCountWrong)

/-- 'laws.FnExactMatchOk': WHATEVER THE INPUT: true; the input reads as it did. -/
def fnExactMatchOkSpec : ChangeSpec := { name := "fnExactMatchOk", fn := fun _ => fun
  | [d1, d2, d3, d4] => { results := [.lit (.bool true)], args := [d1, d2, d3, d4] }
  | _ => none }
def fnExactMatchOkRow : OpenClaim := { program := "ytbpafjlfpdnnhaa", sum := "a43c6140921d6756c736f59bbb302783af3dba63ecc74748fd4bb7d62fe18aab", func := "loop.example/icecores/laws.FnExactMatchOk", spec := "fnExactMatchOk", apart := false }
def FnExactMatchOkSaid : Prop := fnExactMatchOkRow.holds Try.pinned (OpenSpec.ofChange fnExactMatchOkSpec)

/-- ITS FALSE NEIGHBOUR: 'it returns false'. Refute it at one input. -/
def fnExactMatchOkWrong : ChangeSpec := { name := "fnExactMatchOk", fn := fun _ => fun
  | [d1, d2, d3, d4] => { results := [.lit (.bool false)], args := [d1, d2, d3, d4] }
  | _ => none }
def FnExactMatchOkWrongFalsely : Prop := fnExactMatchOkRow.holds Try.pinned (OpenSpec.ofChange fnExactMatchOkWrong)

/-- 'laws.FnEventsDepth': WHATEVER THE INPUT: true; the input reads as it did. -/
def fnEventsDepthSpec : ChangeSpec := { name := "fnEventsDepth", fn := fun _ => fun
  | [d] => { results := [.lit (.bool true)], args := [d] }
  | _ => none }
def fnEventsDepthRow : OpenClaim := { program := "ytbpafjlfpdnnhaa", sum := "a43c6140921d6756c736f59bbb302783af3dba63ecc74748fd4bb7d62fe18aab", func := "loop.example/icecores/laws.FnEventsDepth", spec := "fnEventsDepth", apart := false }
def FnEventsDepthSaid : Prop := fnEventsDepthRow.holds Try.pinned (OpenSpec.ofChange fnEventsDepthSpec)

/-- ITS FALSE NEIGHBOUR: 'it returns false'. Refute it at one input. -/
def fnEventsDepthWrong : ChangeSpec := { name := "fnEventsDepth", fn := fun _ => fun
  | [d] => { results := [.lit (.bool false)], args := [d] }
  | _ => none }
def FnEventsDepthWrongFalsely : Prop := fnEventsDepthRow.holds Try.pinned (OpenSpec.ofChange fnEventsDepthWrong)

/-- 'laws.FnMatchMost': WHATEVER THE INPUT: true; the input reads as it did. -/
def fnMatchMostSpec : ChangeSpec := { name := "fnMatchMost", fn := fun _ => fun
  | [d] => { results := [.lit (.bool true)], args := [d] }
  | _ => none }
def fnMatchMostRow : OpenClaim := { program := "ytbpafjlfpdnnhaa", sum := "a43c6140921d6756c736f59bbb302783af3dba63ecc74748fd4bb7d62fe18aab", func := "loop.example/icecores/laws.FnMatchMost", spec := "fnMatchMost", apart := false }
def FnMatchMostSaid : Prop := fnMatchMostRow.holds Try.pinned (OpenSpec.ofChange fnMatchMostSpec)

/-- ITS FALSE NEIGHBOUR: 'it returns false'. Refute it at one input. -/
def fnMatchMostWrong : ChangeSpec := { name := "fnMatchMost", fn := fun _ => fun
  | [d] => { results := [.lit (.bool false)], args := [d] }
  | _ => none }
def FnMatchMostWrongFalsely : Prop := fnMatchMostRow.holds Try.pinned (OpenSpec.ofChange fnMatchMostWrong)

/-- 'laws.FnMatchMostAdd': WHATEVER THE INPUT: true; the input reads as it did. -/
def fnMatchMostAddSpec : ChangeSpec := { name := "fnMatchMostAdd", fn := fun _ => fun
  | [d1, d2] => { results := [.lit (.bool true)], args := [d1, d2] }
  | _ => none }
def fnMatchMostAddRow : OpenClaim := { program := "ytbpafjlfpdnnhaa", sum := "a43c6140921d6756c736f59bbb302783af3dba63ecc74748fd4bb7d62fe18aab", func := "loop.example/icecores/laws.FnMatchMostAdd", spec := "fnMatchMostAdd", apart := false }
def FnMatchMostAddSaid : Prop := fnMatchMostAddRow.holds Try.pinned (OpenSpec.ofChange fnMatchMostAddSpec)

/-- ITS FALSE NEIGHBOUR: 'it returns false'. Refute it at one input. -/
def fnMatchMostAddWrong : ChangeSpec := { name := "fnMatchMostAdd", fn := fun _ => fun
  | [d1, d2] => { results := [.lit (.bool false)], args := [d1, d2] }
  | _ => none }
def FnMatchMostAddWrongFalsely : Prop := fnMatchMostAddRow.holds Try.pinned (OpenSpec.ofChange fnMatchMostAddWrong)

/-- 'laws.FnMatchMostLess': WHATEVER THE INPUT: true; the input reads as it did. -/
def fnMatchMostLessSpec : ChangeSpec := { name := "fnMatchMostLess", fn := fun _ => fun
  | [d] => { results := [.lit (.bool true)], args := [d] }
  | _ => none }
def fnMatchMostLessRow : OpenClaim := { program := "ytbpafjlfpdnnhaa", sum := "a43c6140921d6756c736f59bbb302783af3dba63ecc74748fd4bb7d62fe18aab", func := "loop.example/icecores/laws.FnMatchMostLess", spec := "fnMatchMostLess", apart := false }
def FnMatchMostLessSaid : Prop := fnMatchMostLessRow.holds Try.pinned (OpenSpec.ofChange fnMatchMostLessSpec)

/-- ITS FALSE NEIGHBOUR: 'it returns false'. Refute it at one input. -/
def fnMatchMostLessWrong : ChangeSpec := { name := "fnMatchMostLess", fn := fun _ => fun
  | [d] => { results := [.lit (.bool false)], args := [d] }
  | _ => none }
def FnMatchMostLessWrongFalsely : Prop := fnMatchMostLessRow.holds Try.pinned (OpenSpec.ofChange fnMatchMostLessWrong)

/-- 'laws.FnMatchCountLast': WHATEVER THE INPUT: true; the input reads as it did. -/
def fnMatchCountLastSpec : ChangeSpec := { name := "fnMatchCountLast", fn := fun _ => fun
  | [d] => { results := [.lit (.bool true)], args := [d] }
  | _ => none }
def fnMatchCountLastRow : OpenClaim := { program := "ytbpafjlfpdnnhaa", sum := "a43c6140921d6756c736f59bbb302783af3dba63ecc74748fd4bb7d62fe18aab", func := "loop.example/icecores/laws.FnMatchCountLast", spec := "fnMatchCountLast", recurses := true, apart := false }
def FnMatchCountLastSaid : Prop := fnMatchCountLastRow.holds Try.pinned (OpenSpec.ofChange fnMatchCountLastSpec)

/-- ITS FALSE NEIGHBOUR: 'it returns false'. Refute it at one input. -/
def fnMatchCountLastWrong : ChangeSpec := { name := "fnMatchCountLast", fn := fun _ => fun
  | [d] => { results := [.lit (.bool false)], args := [d] }
  | _ => none }
def FnMatchCountLastWrongFalsely : Prop := fnMatchCountLastRow.holds Try.pinned (OpenSpec.ofChange fnMatchCountLastWrong)

/-- 'laws.FnMatchCountMore': WHATEVER THE INPUT: true; the input reads as it did. -/
def fnMatchCountMoreSpec : ChangeSpec := { name := "fnMatchCountMore", fn := fun _ => fun
  | [d] => { results := [.lit (.bool true)], args := [d] }
  | _ => none }
def fnMatchCountMoreRow : OpenClaim := { program := "ytbpafjlfpdnnhaa", sum := "a43c6140921d6756c736f59bbb302783af3dba63ecc74748fd4bb7d62fe18aab", func := "loop.example/icecores/laws.FnMatchCountMore", spec := "fnMatchCountMore", recurses := true, apart := false }
def FnMatchCountMoreSaid : Prop := fnMatchCountMoreRow.holds Try.pinned (OpenSpec.ofChange fnMatchCountMoreSpec)

/-- ITS FALSE NEIGHBOUR: 'it returns false'. Refute it at one input. -/
def fnMatchCountMoreWrong : ChangeSpec := { name := "fnMatchCountMore", fn := fun _ => fun
  | [d] => { results := [.lit (.bool false)], args := [d] }
  | _ => none }
def FnMatchCountMoreWrongFalsely : Prop := fnMatchCountMoreRow.holds Try.pinned (OpenSpec.ofChange fnMatchCountMoreWrong)

/-- 'laws.FnMatchNone': WHATEVER THE INPUT: true; the input reads as it did. -/
def fnMatchNoneSpec : ChangeSpec := { name := "fnMatchNone", fn := fun _ => fun
  | [d] => { results := [.lit (.bool true)], args := [d] }
  | _ => none }
def fnMatchNoneRow : OpenClaim := { program := "ytbpafjlfpdnnhaa", sum := "a43c6140921d6756c736f59bbb302783af3dba63ecc74748fd4bb7d62fe18aab", func := "loop.example/icecores/laws.FnMatchNone", spec := "fnMatchNone", apart := false }
def FnMatchNoneSaid : Prop := fnMatchNoneRow.holds Try.pinned (OpenSpec.ofChange fnMatchNoneSpec)

/-- ITS FALSE NEIGHBOUR: 'it returns false'. Refute it at one input. -/
def fnMatchNoneWrong : ChangeSpec := { name := "fnMatchNone", fn := fun _ => fun
  | [d] => { results := [.lit (.bool false)], args := [d] }
  | _ => none }
def FnMatchNoneWrongFalsely : Prop := fnMatchNoneRow.holds Try.pinned (OpenSpec.ofChange fnMatchNoneWrong)

/-- 'laws.FnMatchCount': WHATEVER THE INPUT: true; the input reads as it did. -/
def fnMatchCountSpec : ChangeSpec := { name := "fnMatchCount", fn := fun _ => fun
  | [d] => { results := [.lit (.bool true)], args := [d] }
  | _ => none }
def fnMatchCountRow : OpenClaim := { program := "ytbpafjlfpdnnhaa", sum := "a43c6140921d6756c736f59bbb302783af3dba63ecc74748fd4bb7d62fe18aab", func := "loop.example/icecores/laws.FnMatchCount", spec := "fnMatchCount", recurses := true, apart := false }
def FnMatchCountSaid : Prop := fnMatchCountRow.holds Try.pinned (OpenSpec.ofChange fnMatchCountSpec)

/-- ITS FALSE NEIGHBOUR: 'it returns false'. Refute it at one input. -/
def fnMatchCountWrong : ChangeSpec := { name := "fnMatchCount", fn := fun _ => fun
  | [d] => { results := [.lit (.bool false)], args := [d] }
  | _ => none }
def FnMatchCountWrongFalsely : Prop := fnMatchCountRow.holds Try.pinned (OpenSpec.ofChange fnMatchCountWrong)

/- THE SECOND FORM. 'bulk': how many values and letters a reading holds, each counted each time it is reached (what is shared counts as often as it is met; a slice's spare places count too). A statement '..UptoSaid' is the law's where the arguments, and the package variables that the reading takes, are together of bulk at most 1048576: NARROWER than '..Said'. Prove '..Said' where nothing that the law and all that it calls make is longer than what came in: it says more and counts as full. Else prove '..UptoSaid'. A law counts once. -/
mutual
def uptoBulk {H : Type} : DataW H → Nat
  | .lit (.string bytes) => bytes.length + 1
  | .lit _ => 1
  | .nil => 1
  | .ptr d => uptoBulk d + 1
  | .slice elems spare => uptoBulkAll elems + uptoBulkAll spare + 1
  | .agg parts => uptoBulkAll parts + 1
  | .iface _ d => uptoBulk d + 1
  | .map entries => uptoBulkEntries entries + 1
  | .held _ => 1
def uptoBulkAll {H : Type} : List (DataW H) → Nat
  | [] => 0
  | d :: r => uptoBulk d + uptoBulkAll r
def uptoBulkEntries {H : Type} : List (Lit × DataW H) → Nat
  | [] => 0
  | x :: r => uptoBulkEntry x + uptoBulkEntries r
def uptoBulkEntry {H : Type} : Lit × DataW H → Nat
  | (.string bytes, d) => bytes.length + uptoBulk d + 1
  | (_, d) => uptoBulk d + 1
 end
def uptoSmall : (H : Type) → List (DataW H) → Bool := fun _ ds => decide (uptoBulkAll ds ≤ 1048576)
def OpenSpec.upto (s : _root_.Go.ChangeSpec) : _root_.Go.OpenSpec := { _root_.Go.OpenSpec.ofChange s with cond := some uptoSmall }

/-- 'laws.FnExactEventsValid', WHERE WHAT IT READS IS OF BULK AT MOST 1048576: true; the input reads as it did. -/
def fnExactEventsValidUptoRow : OpenClaim := { program := "ytbpafjlfpdnnhaa", sum := "a43c6140921d6756c736f59bbb302783af3dba63ecc74748fd4bb7d62fe18aab", func := "loop.example/icecores/laws.FnExactEventsValid", spec := "fnExactEventsValid", apart := false, narrowed := true }
def FnExactEventsValidUptoSaid : Prop := fnExactEventsValidUptoRow.holds Try.pinned (OpenSpec.upto fnExactEventsValidSpec)

/-- 'laws.FnEvents', WHERE WHAT IT READS IS OF BULK AT MOST 1048576: true; the input reads as it did. -/
def fnEventsUptoRow : OpenClaim := { program := "ytbpafjlfpdnnhaa", sum := "a43c6140921d6756c736f59bbb302783af3dba63ecc74748fd4bb7d62fe18aab", func := "loop.example/icecores/laws.FnEvents", spec := "fnEvents", apart := false, narrowed := true }
def FnEventsUptoSaid : Prop := fnEventsUptoRow.holds Try.pinned (OpenSpec.upto fnEventsSpec)

/-- 'laws.FnExactMatchMost', WHERE WHAT IT READS IS OF BULK AT MOST 1048576: true; the input reads as it did. -/
def fnExactMatchMostUptoRow : OpenClaim := { program := "ytbpafjlfpdnnhaa", sum := "a43c6140921d6756c736f59bbb302783af3dba63ecc74748fd4bb7d62fe18aab", func := "loop.example/icecores/laws.FnExactMatchMost", spec := "fnExactMatchMost", apart := false, narrowed := true }
def FnExactMatchMostUptoSaid : Prop := fnExactMatchMostUptoRow.holds Try.pinned (OpenSpec.upto fnExactMatchMostSpec)

/-- 'laws.FnExactMatchCount', WHERE WHAT IT READS IS OF BULK AT MOST 1048576: true; the input reads as it did. -/
def fnExactMatchCountUptoRow : OpenClaim := { program := "ytbpafjlfpdnnhaa", sum := "a43c6140921d6756c736f59bbb302783af3dba63ecc74748fd4bb7d62fe18aab", func := "loop.example/icecores/laws.FnExactMatchCount", spec := "fnExactMatchCount", recurses := true, apart := false, narrowed := true }
def FnExactMatchCountUptoSaid : Prop := fnExactMatchCountUptoRow.holds Try.pinned (OpenSpec.upto fnExactMatchCountSpec)

/-- 'laws.FnExactMatchOk', WHERE WHAT IT READS IS OF BULK AT MOST 1048576: true; the input reads as it did. -/
def fnExactMatchOkUptoRow : OpenClaim := { program := "ytbpafjlfpdnnhaa", sum := "a43c6140921d6756c736f59bbb302783af3dba63ecc74748fd4bb7d62fe18aab", func := "loop.example/icecores/laws.FnExactMatchOk", spec := "fnExactMatchOk", apart := false, narrowed := true }
def FnExactMatchOkUptoSaid : Prop := fnExactMatchOkUptoRow.holds Try.pinned (OpenSpec.upto fnExactMatchOkSpec)

/-- 'laws.FnEventsDepth', WHERE WHAT IT READS IS OF BULK AT MOST 1048576: true; the input reads as it did. -/
def fnEventsDepthUptoRow : OpenClaim := { program := "ytbpafjlfpdnnhaa", sum := "a43c6140921d6756c736f59bbb302783af3dba63ecc74748fd4bb7d62fe18aab", func := "loop.example/icecores/laws.FnEventsDepth", spec := "fnEventsDepth", apart := false, narrowed := true }
def FnEventsDepthUptoSaid : Prop := fnEventsDepthUptoRow.holds Try.pinned (OpenSpec.upto fnEventsDepthSpec)

/-- 'laws.FnMatchMost', WHERE WHAT IT READS IS OF BULK AT MOST 1048576: true; the input reads as it did. -/
def fnMatchMostUptoRow : OpenClaim := { program := "ytbpafjlfpdnnhaa", sum := "a43c6140921d6756c736f59bbb302783af3dba63ecc74748fd4bb7d62fe18aab", func := "loop.example/icecores/laws.FnMatchMost", spec := "fnMatchMost", apart := false, narrowed := true }
def FnMatchMostUptoSaid : Prop := fnMatchMostUptoRow.holds Try.pinned (OpenSpec.upto fnMatchMostSpec)

/-- 'laws.FnMatchMostAdd', WHERE WHAT IT READS IS OF BULK AT MOST 1048576: true; the input reads as it did. -/
def fnMatchMostAddUptoRow : OpenClaim := { program := "ytbpafjlfpdnnhaa", sum := "a43c6140921d6756c736f59bbb302783af3dba63ecc74748fd4bb7d62fe18aab", func := "loop.example/icecores/laws.FnMatchMostAdd", spec := "fnMatchMostAdd", apart := false, narrowed := true }
def FnMatchMostAddUptoSaid : Prop := fnMatchMostAddUptoRow.holds Try.pinned (OpenSpec.upto fnMatchMostAddSpec)

/-- 'laws.FnMatchMostLess', WHERE WHAT IT READS IS OF BULK AT MOST 1048576: true; the input reads as it did. -/
def fnMatchMostLessUptoRow : OpenClaim := { program := "ytbpafjlfpdnnhaa", sum := "a43c6140921d6756c736f59bbb302783af3dba63ecc74748fd4bb7d62fe18aab", func := "loop.example/icecores/laws.FnMatchMostLess", spec := "fnMatchMostLess", apart := false, narrowed := true }
def FnMatchMostLessUptoSaid : Prop := fnMatchMostLessUptoRow.holds Try.pinned (OpenSpec.upto fnMatchMostLessSpec)

/-- 'laws.FnMatchCountLast', WHERE WHAT IT READS IS OF BULK AT MOST 1048576: true; the input reads as it did. -/
def fnMatchCountLastUptoRow : OpenClaim := { program := "ytbpafjlfpdnnhaa", sum := "a43c6140921d6756c736f59bbb302783af3dba63ecc74748fd4bb7d62fe18aab", func := "loop.example/icecores/laws.FnMatchCountLast", spec := "fnMatchCountLast", recurses := true, apart := false, narrowed := true }
def FnMatchCountLastUptoSaid : Prop := fnMatchCountLastUptoRow.holds Try.pinned (OpenSpec.upto fnMatchCountLastSpec)

/-- 'laws.FnMatchCountMore', WHERE WHAT IT READS IS OF BULK AT MOST 1048576: true; the input reads as it did. -/
def fnMatchCountMoreUptoRow : OpenClaim := { program := "ytbpafjlfpdnnhaa", sum := "a43c6140921d6756c736f59bbb302783af3dba63ecc74748fd4bb7d62fe18aab", func := "loop.example/icecores/laws.FnMatchCountMore", spec := "fnMatchCountMore", recurses := true, apart := false, narrowed := true }
def FnMatchCountMoreUptoSaid : Prop := fnMatchCountMoreUptoRow.holds Try.pinned (OpenSpec.upto fnMatchCountMoreSpec)

/-- 'laws.FnMatchNone', WHERE WHAT IT READS IS OF BULK AT MOST 1048576: true; the input reads as it did. -/
def fnMatchNoneUptoRow : OpenClaim := { program := "ytbpafjlfpdnnhaa", sum := "a43c6140921d6756c736f59bbb302783af3dba63ecc74748fd4bb7d62fe18aab", func := "loop.example/icecores/laws.FnMatchNone", spec := "fnMatchNone", apart := false, narrowed := true }
def FnMatchNoneUptoSaid : Prop := fnMatchNoneUptoRow.holds Try.pinned (OpenSpec.upto fnMatchNoneSpec)

/-- 'laws.FnMatchCount', WHERE WHAT IT READS IS OF BULK AT MOST 1048576: true; the input reads as it did. -/
def fnMatchCountUptoRow : OpenClaim := { program := "ytbpafjlfpdnnhaa", sum := "a43c6140921d6756c736f59bbb302783af3dba63ecc74748fd4bb7d62fe18aab", func := "loop.example/icecores/laws.FnMatchCount", spec := "fnMatchCount", recurses := true, apart := false, narrowed := true }
def FnMatchCountUptoSaid : Prop := fnMatchCountUptoRow.holds Try.pinned (OpenSpec.upto fnMatchCountSpec)

end Rows
end Go.Proofs.Ytbpafjlfpdnnhaa
