/-
  No cell of these rows narrows 'for every input' (looked for: loops, veiled, ifaces, maps, wideKeys, modest, calm, conditions, laid).
  DERIVED. THE GIVEN ROWS OF THIS SEAT. 13 by the template 'for every input the law returns true; each argument reads behind the call as it read before'; 0 by the template 'total and deterministic' (their statements: YtbdhnfligfpigaaTotals.lean).
  GIVEN WITH THE SEED: the statements are not yours to turn. If you find one false, say at which input.
  Laid BY PROGRAM, IN A SANDBOX (cutbox-rows.mjs): the forced cells as the released guide's own fill.sh prints them over the translation e997333de9b6584f… (all of the seat's roots in one cut). By AI agents, Wed Nov 11 2026. No macro, syntax, notation, axiom, sorry.
-/
import Derived.Test.YtbdhnfligfpigaaChecked
import GoSem.Claim
import GoSem.ClaimJoined
import GoSem.ClaimMapViews
import Derived.JoinedTies
import Derived.KernelRfl
namespace Go.Proofs.Ytbdhnfligfpigaa
/- THE CELL 'sum', in the pinned program and in every row, IS THE sha256 OF THE DUMP (.gsa) THAT YtbdhnfligfpigaaProg.lean LOADS. Nothing in Lean hashes anything: it is a label: what it is worth is what the hold of that sum in a sandbox is worth. -/
noncomputable def Try.pinned : Pinned := { name := "ytbdhnfligfpigaa", sum := "e997333de9b6584f0df301a81fdd2f717ac5a9ad49af9a532081870be4cc8187", checked := Try.checked }
namespace Rows
def none {H : Type} : Left H := { results := [], args := [] }

/-- 'laws.FnExactCutsBest': WHATEVER THE INPUT: true; the input reads as it did. -/
def fnExactCutsBestSpec : ChangeSpec := { name := "fnExactCutsBest", fn := fun _ => fun
  | [d1, d2, d3] => { results := [.lit (.bool true)], args := [d1, d2, d3] }
  | _ => none }
def fnExactCutsBestRow : OpenClaim := { program := "ytbdhnfligfpigaa", sum := "e997333de9b6584f0df301a81fdd2f717ac5a9ad49af9a532081870be4cc8187", func := "loop.example/icecores/laws.FnExactCutsBest", spec := "fnExactCutsBest", apart := false }
def FnExactCutsBestSaid : Prop := fnExactCutsBestRow.holds Try.pinned (OpenSpec.ofChange fnExactCutsBestSpec)

/-- ITS FALSE NEIGHBOUR: 'it returns false'. Refute it at one input. -/
def fnExactCutsBestWrong : ChangeSpec := { name := "fnExactCutsBest", fn := fun _ => fun
  | [d1, d2, d3] => { results := [.lit (.bool false)], args := [d1, d2, d3] }
  | _ => none }
def FnExactCutsBestWrongFalsely : Prop := fnExactCutsBestRow.holds Try.pinned (OpenSpec.ofChange fnExactCutsBestWrong)

/-- 'laws.FnAllowed': WHATEVER THE INPUT: true; the input reads as it did. -/
def fnAllowedSpec : ChangeSpec := { name := "fnAllowed", fn := fun _ => fun
  | [d] => { results := [.lit (.bool true)], args := [d] }
  | _ => none }
def fnAllowedRow : OpenClaim := { program := "ytbdhnfligfpigaa", sum := "e997333de9b6584f0df301a81fdd2f717ac5a9ad49af9a532081870be4cc8187", func := "loop.example/icecores/laws.FnAllowed", spec := "fnAllowed", apart := false }
def FnAllowedSaid : Prop := fnAllowedRow.holds Try.pinned (OpenSpec.ofChange fnAllowedSpec)

/-- ITS FALSE NEIGHBOUR: 'it returns false'. Refute it at one input. -/
def fnAllowedWrong : ChangeSpec := { name := "fnAllowed", fn := fun _ => fun
  | [d] => { results := [.lit (.bool false)], args := [d] }
  | _ => none }
def FnAllowedWrongFalsely : Prop := fnAllowedRow.holds Try.pinned (OpenSpec.ofChange fnAllowedWrong)

/-- 'laws.FnAllowedEach': WHATEVER THE INPUT: true; the input reads as it did. -/
def fnAllowedEachSpec : ChangeSpec := { name := "fnAllowedEach", fn := fun _ => fun
  | [d] => { results := [.lit (.bool true)], args := [d] }
  | _ => none }
def fnAllowedEachRow : OpenClaim := { program := "ytbdhnfligfpigaa", sum := "e997333de9b6584f0df301a81fdd2f717ac5a9ad49af9a532081870be4cc8187", func := "loop.example/icecores/laws.FnAllowedEach", spec := "fnAllowedEach", apart := false }
def FnAllowedEachSaid : Prop := fnAllowedEachRow.holds Try.pinned (OpenSpec.ofChange fnAllowedEachSpec)

/-- ITS FALSE NEIGHBOUR: 'it returns false'. Refute it at one input. -/
def fnAllowedEachWrong : ChangeSpec := { name := "fnAllowedEach", fn := fun _ => fun
  | [d] => { results := [.lit (.bool false)], args := [d] }
  | _ => none }
def FnAllowedEachWrongFalsely : Prop := fnAllowedEachRow.holds Try.pinned (OpenSpec.ofChange fnAllowedEachWrong)

/-- 'laws.FnBestIff': WHATEVER THE INPUT: true; the input reads as it did. -/
def fnBestIffSpec : ChangeSpec := { name := "fnBestIff", fn := fun _ => fun
  | [d] => { results := [.lit (.bool true)], args := [d] }
  | _ => none }
def fnBestIffRow : OpenClaim := { program := "ytbdhnfligfpigaa", sum := "e997333de9b6584f0df301a81fdd2f717ac5a9ad49af9a532081870be4cc8187", func := "loop.example/icecores/laws.FnBestIff", spec := "fnBestIff", apart := false }
def FnBestIffSaid : Prop := fnBestIffRow.holds Try.pinned (OpenSpec.ofChange fnBestIffSpec)

/-- ITS FALSE NEIGHBOUR: 'it returns false'. Refute it at one input. -/
def fnBestIffWrong : ChangeSpec := { name := "fnBestIff", fn := fun _ => fun
  | [d] => { results := [.lit (.bool false)], args := [d] }
  | _ => none }
def FnBestIffWrongFalsely : Prop := fnBestIffRow.holds Try.pinned (OpenSpec.ofChange fnBestIffWrong)

/-- 'laws.FnBestSuffix': WHATEVER THE INPUT: true; the input reads as it did. -/
def fnBestSuffixSpec : ChangeSpec := { name := "fnBestSuffix", fn := fun _ => fun
  | [d] => { results := [.lit (.bool true)], args := [d] }
  | _ => none }
def fnBestSuffixRow : OpenClaim := { program := "ytbdhnfligfpigaa", sum := "e997333de9b6584f0df301a81fdd2f717ac5a9ad49af9a532081870be4cc8187", func := "loop.example/icecores/laws.FnBestSuffix", spec := "fnBestSuffix", apart := false }
def FnBestSuffixSaid : Prop := fnBestSuffixRow.holds Try.pinned (OpenSpec.ofChange fnBestSuffixSpec)

/-- ITS FALSE NEIGHBOUR: 'it returns false'. Refute it at one input. -/
def fnBestSuffixWrong : ChangeSpec := { name := "fnBestSuffix", fn := fun _ => fun
  | [d] => { results := [.lit (.bool false)], args := [d] }
  | _ => none }
def FnBestSuffixWrongFalsely : Prop := fnBestSuffixRow.holds Try.pinned (OpenSpec.ofChange fnBestSuffixWrong)

/-- 'laws.FnBestTwice': WHATEVER THE INPUT: true; the input reads as it did. -/
def fnBestTwiceSpec : ChangeSpec := { name := "fnBestTwice", fn := fun _ => fun
  | [d] => { results := [.lit (.bool true)], args := [d] }
  | _ => none }
def fnBestTwiceRow : OpenClaim := { program := "ytbdhnfligfpigaa", sum := "e997333de9b6584f0df301a81fdd2f717ac5a9ad49af9a532081870be4cc8187", func := "loop.example/icecores/laws.FnBestTwice", spec := "fnBestTwice", apart := false }
def FnBestTwiceSaid : Prop := fnBestTwiceRow.holds Try.pinned (OpenSpec.ofChange fnBestTwiceSpec)

/-- ITS FALSE NEIGHBOUR: 'it returns false'. Refute it at one input. -/
def fnBestTwiceWrong : ChangeSpec := { name := "fnBestTwice", fn := fun _ => fun
  | [d] => { results := [.lit (.bool false)], args := [d] }
  | _ => none }
def FnBestTwiceWrongFalsely : Prop := fnBestTwiceRow.holds Try.pinned (OpenSpec.ofChange fnBestTwiceWrong)

/-- 'laws.FnAllowedYears': WHATEVER THE INPUT: true; the input reads as it did. -/
def fnAllowedYearsSpec : ChangeSpec := { name := "fnAllowedYears", fn := fun _ => fun
  | [d] => { results := [.lit (.bool true)], args := [d] }
  | _ => none }
def fnAllowedYearsRow : OpenClaim := { program := "ytbdhnfligfpigaa", sum := "e997333de9b6584f0df301a81fdd2f717ac5a9ad49af9a532081870be4cc8187", func := "loop.example/icecores/laws.FnAllowedYears", spec := "fnAllowedYears", apart := false }
def FnAllowedYearsSaid : Prop := fnAllowedYearsRow.holds Try.pinned (OpenSpec.ofChange fnAllowedYearsSpec)

/-- ITS FALSE NEIGHBOUR: 'it returns false'. Refute it at one input. -/
def fnAllowedYearsWrong : ChangeSpec := { name := "fnAllowedYears", fn := fun _ => fun
  | [d] => { results := [.lit (.bool false)], args := [d] }
  | _ => none }
def FnAllowedYearsWrongFalsely : Prop := fnAllowedYearsRow.holds Try.pinned (OpenSpec.ofChange fnAllowedYearsWrong)

/-- 'laws.FnCost': WHATEVER THE INPUT: true; the input reads as it did. -/
def fnCostSpec : ChangeSpec := { name := "fnCost", fn := fun _ => fun
  | [d] => { results := [.lit (.bool true)], args := [d] }
  | _ => none }
def fnCostRow : OpenClaim := { program := "ytbdhnfligfpigaa", sum := "e997333de9b6584f0df301a81fdd2f717ac5a9ad49af9a532081870be4cc8187", func := "loop.example/icecores/laws.FnCost", spec := "fnCost", apart := false }
def FnCostSaid : Prop := fnCostRow.holds Try.pinned (OpenSpec.ofChange fnCostSpec)

/-- ITS FALSE NEIGHBOUR: 'it returns false'. Refute it at one input. -/
def fnCostWrong : ChangeSpec := { name := "fnCost", fn := fun _ => fun
  | [d] => { results := [.lit (.bool false)], args := [d] }
  | _ => none }
def FnCostWrongFalsely : Prop := fnCostRow.holds Try.pinned (OpenSpec.ofChange fnCostWrong)

/-- 'laws.FnBestCuts': WHATEVER THE INPUT: true; the input reads as it did. -/
def fnBestCutsSpec : ChangeSpec := { name := "fnBestCuts", fn := fun _ => fun
  | [d] => { results := [.lit (.bool true)], args := [d] }
  | _ => none }
def fnBestCutsRow : OpenClaim := { program := "ytbdhnfligfpigaa", sum := "e997333de9b6584f0df301a81fdd2f717ac5a9ad49af9a532081870be4cc8187", func := "loop.example/icecores/laws.FnBestCuts", spec := "fnBestCuts", apart := false }
def FnBestCutsSaid : Prop := fnBestCutsRow.holds Try.pinned (OpenSpec.ofChange fnBestCutsSpec)

/-- ITS FALSE NEIGHBOUR: 'it returns false'. Refute it at one input. -/
def fnBestCutsWrong : ChangeSpec := { name := "fnBestCuts", fn := fun _ => fun
  | [d] => { results := [.lit (.bool false)], args := [d] }
  | _ => none }
def FnBestCutsWrongFalsely : Prop := fnBestCutsRow.holds Try.pinned (OpenSpec.ofChange fnBestCutsWrong)

/-- 'laws.FnBestFree': WHATEVER THE INPUT: true; the input reads as it did. -/
def fnBestFreeSpec : ChangeSpec := { name := "fnBestFree", fn := fun _ => fun
  | [d] => { results := [.lit (.bool true)], args := [d] }
  | _ => none }
def fnBestFreeRow : OpenClaim := { program := "ytbdhnfligfpigaa", sum := "e997333de9b6584f0df301a81fdd2f717ac5a9ad49af9a532081870be4cc8187", func := "loop.example/icecores/laws.FnBestFree", spec := "fnBestFree", apart := false }
def FnBestFreeSaid : Prop := fnBestFreeRow.holds Try.pinned (OpenSpec.ofChange fnBestFreeSpec)

/-- ITS FALSE NEIGHBOUR: 'it returns false'. Refute it at one input. -/
def fnBestFreeWrong : ChangeSpec := { name := "fnBestFree", fn := fun _ => fun
  | [d] => { results := [.lit (.bool false)], args := [d] }
  | _ => none }
def FnBestFreeWrongFalsely : Prop := fnBestFreeRow.holds Try.pinned (OpenSpec.ofChange fnBestFreeWrong)

/-- 'laws.FnBestMore': WHATEVER THE INPUT: true; the input reads as it did. -/
def fnBestMoreSpec : ChangeSpec := { name := "fnBestMore", fn := fun _ => fun
  | [d1, d2] => { results := [.lit (.bool true)], args := [d1, d2] }
  | _ => none }
def fnBestMoreRow : OpenClaim := { program := "ytbdhnfligfpigaa", sum := "e997333de9b6584f0df301a81fdd2f717ac5a9ad49af9a532081870be4cc8187", func := "loop.example/icecores/laws.FnBestMore", spec := "fnBestMore", apart := false }
def FnBestMoreSaid : Prop := fnBestMoreRow.holds Try.pinned (OpenSpec.ofChange fnBestMoreSpec)

/-- ITS FALSE NEIGHBOUR: 'it returns false'. Refute it at one input. -/
def fnBestMoreWrong : ChangeSpec := { name := "fnBestMore", fn := fun _ => fun
  | [d1, d2] => { results := [.lit (.bool false)], args := [d1, d2] }
  | _ => none }
def FnBestMoreWrongFalsely : Prop := fnBestMoreRow.holds Try.pinned (OpenSpec.ofChange fnBestMoreWrong)

/-- 'laws.FnBestWider': WHATEVER THE INPUT: true; the input reads as it did. -/
def fnBestWiderSpec : ChangeSpec := { name := "fnBestWider", fn := fun _ => fun
  | [d] => { results := [.lit (.bool true)], args := [d] }
  | _ => none }
def fnBestWiderRow : OpenClaim := { program := "ytbdhnfligfpigaa", sum := "e997333de9b6584f0df301a81fdd2f717ac5a9ad49af9a532081870be4cc8187", func := "loop.example/icecores/laws.FnBestWider", spec := "fnBestWider", apart := false }
def FnBestWiderSaid : Prop := fnBestWiderRow.holds Try.pinned (OpenSpec.ofChange fnBestWiderSpec)

/-- ITS FALSE NEIGHBOUR: 'it returns false'. Refute it at one input. -/
def fnBestWiderWrong : ChangeSpec := { name := "fnBestWider", fn := fun _ => fun
  | [d] => { results := [.lit (.bool false)], args := [d] }
  | _ => none }
def FnBestWiderWrongFalsely : Prop := fnBestWiderRow.holds Try.pinned (OpenSpec.ofChange fnBestWiderWrong)

/-- 'laws.FnCostBest': WHATEVER THE INPUT: true; the input reads as it did. -/
def fnCostBestSpec : ChangeSpec := { name := "fnCostBest", fn := fun _ => fun
  | [d] => { results := [.lit (.bool true)], args := [d] }
  | _ => none }
def fnCostBestRow : OpenClaim := { program := "ytbdhnfligfpigaa", sum := "e997333de9b6584f0df301a81fdd2f717ac5a9ad49af9a532081870be4cc8187", func := "loop.example/icecores/laws.FnCostBest", spec := "fnCostBest", apart := false }
def FnCostBestSaid : Prop := fnCostBestRow.holds Try.pinned (OpenSpec.ofChange fnCostBestSpec)

/-- ITS FALSE NEIGHBOUR: 'it returns false'. Refute it at one input. -/
def fnCostBestWrong : ChangeSpec := { name := "fnCostBest", fn := fun _ => fun
  | [d] => { results := [.lit (.bool false)], args := [d] }
  | _ => none }
def FnCostBestWrongFalsely : Prop := fnCostBestRow.holds Try.pinned (OpenSpec.ofChange fnCostBestWrong)

/- THE SECOND FORM. 'bulk': how many values and letters a reading holds, each counted each time it is reached (what is shared counts as often as it is met; a slice's spare places count too). A statement '..UptoSaid' is the law's where the arguments, and the package variables that the reading takes, are together of bulk at most 1048576: NARROWER than '..Said'. Prove '..Said' where nothing that the law and all that it calls make is longer than what came in: it says more and counts as full. Else prove '..UptoSaid'. A law counts once. -/
mutual
def uptoBulk {H : Type} : DataW H → Nat
  | .lit (.string bytes) => bytes.length + 1
  | .lit _ => 1
  | .nil => 1
  | .ptr d => uptoBulk d + 1
  | .slice elems spare => uptoBulkAll elems + uptoBulkAll spare + 1
  | .agg parts => uptoBulkAll parts + 1
  | .iface _ d => uptoBulk d + 1
  | .map entries => uptoBulkEntries entries + 1
  | .held _ => 1
def uptoBulkAll {H : Type} : List (DataW H) → Nat
  | [] => 0
  | d :: r => uptoBulk d + uptoBulkAll r
def uptoBulkEntries {H : Type} : List (Lit × DataW H) → Nat
  | [] => 0
  | x :: r => uptoBulkEntry x + uptoBulkEntries r
def uptoBulkEntry {H : Type} : Lit × DataW H → Nat
  | (.string bytes, d) => bytes.length + uptoBulk d + 1
  | (_, d) => uptoBulk d + 1
 end
def uptoSmall : (H : Type) → List (DataW H) → Bool := fun _ ds => decide (uptoBulkAll ds ≤ 1048576)
def OpenSpec.upto (s : _root_.Go.ChangeSpec) : _root_.Go.OpenSpec := { _root_.Go.OpenSpec.ofChange s with cond := some uptoSmall }

/-- 'laws.FnExactCutsBest', WHERE WHAT IT READS IS OF BULK AT MOST 1048576: true; the input reads as it did. -/
def fnExactCutsBestUptoRow : OpenClaim := { program := "ytbdhnfligfpigaa", sum := "e997333de9b6584f0df301a81fdd2f717ac5a9ad49af9a532081870be4cc8187", func := "loop.example/icecores/laws.FnExactCutsBest", spec := "fnExactCutsBest", apart := false, narrowed := true }
def FnExactCutsBestUptoSaid : Prop := fnExactCutsBestUptoRow.holds Try.pinned (OpenSpec.upto fnExactCutsBestSpec)

/-- 'laws.FnAllowed', WHERE WHAT IT READS IS OF BULK AT MOST 1048576: true; the input reads as it did. -/
def fnAllowedUptoRow : OpenClaim := { program := "ytbdhnfligfpigaa", sum := "e997333de9b6584f0df301a81fdd2f717ac5a9ad49af9a532081870be4cc8187", func := "loop.example/icecores/laws.FnAllowed", spec := "fnAllowed", apart := false, narrowed := true }
def FnAllowedUptoSaid : Prop := fnAllowedUptoRow.holds Try.pinned (OpenSpec.upto fnAllowedSpec)

/-- 'laws.FnAllowedEach', WHERE WHAT IT READS IS OF BULK AT MOST 1048576: true; the input reads as it did. -/
def fnAllowedEachUptoRow : OpenClaim := { program := "ytbdhnfligfpigaa", sum := "e997333de9b6584f0df301a81fdd2f717ac5a9ad49af9a532081870be4cc8187", func := "loop.example/icecores/laws.FnAllowedEach", spec := "fnAllowedEach", apart := false, narrowed := true }
def FnAllowedEachUptoSaid : Prop := fnAllowedEachUptoRow.holds Try.pinned (OpenSpec.upto fnAllowedEachSpec)

/-- 'laws.FnBestIff', WHERE WHAT IT READS IS OF BULK AT MOST 1048576: true; the input reads as it did. -/
def fnBestIffUptoRow : OpenClaim := { program := "ytbdhnfligfpigaa", sum := "e997333de9b6584f0df301a81fdd2f717ac5a9ad49af9a532081870be4cc8187", func := "loop.example/icecores/laws.FnBestIff", spec := "fnBestIff", apart := false, narrowed := true }
def FnBestIffUptoSaid : Prop := fnBestIffUptoRow.holds Try.pinned (OpenSpec.upto fnBestIffSpec)

/-- 'laws.FnBestSuffix', WHERE WHAT IT READS IS OF BULK AT MOST 1048576: true; the input reads as it did. -/
def fnBestSuffixUptoRow : OpenClaim := { program := "ytbdhnfligfpigaa", sum := "e997333de9b6584f0df301a81fdd2f717ac5a9ad49af9a532081870be4cc8187", func := "loop.example/icecores/laws.FnBestSuffix", spec := "fnBestSuffix", apart := false, narrowed := true }
def FnBestSuffixUptoSaid : Prop := fnBestSuffixUptoRow.holds Try.pinned (OpenSpec.upto fnBestSuffixSpec)

/-- 'laws.FnBestTwice', WHERE WHAT IT READS IS OF BULK AT MOST 1048576: true; the input reads as it did. -/
def fnBestTwiceUptoRow : OpenClaim := { program := "ytbdhnfligfpigaa", sum := "e997333de9b6584f0df301a81fdd2f717ac5a9ad49af9a532081870be4cc8187", func := "loop.example/icecores/laws.FnBestTwice", spec := "fnBestTwice", apart := false, narrowed := true }
def FnBestTwiceUptoSaid : Prop := fnBestTwiceUptoRow.holds Try.pinned (OpenSpec.upto fnBestTwiceSpec)

/-- 'laws.FnAllowedYears', WHERE WHAT IT READS IS OF BULK AT MOST 1048576: true; the input reads as it did. -/
def fnAllowedYearsUptoRow : OpenClaim := { program := "ytbdhnfligfpigaa", sum := "e997333de9b6584f0df301a81fdd2f717ac5a9ad49af9a532081870be4cc8187", func := "loop.example/icecores/laws.FnAllowedYears", spec := "fnAllowedYears", apart := false, narrowed := true }
def FnAllowedYearsUptoSaid : Prop := fnAllowedYearsUptoRow.holds Try.pinned (OpenSpec.upto fnAllowedYearsSpec)

/-- 'laws.FnCost', WHERE WHAT IT READS IS OF BULK AT MOST 1048576: true; the input reads as it did. -/
def fnCostUptoRow : OpenClaim := { program := "ytbdhnfligfpigaa", sum := "e997333de9b6584f0df301a81fdd2f717ac5a9ad49af9a532081870be4cc8187", func := "loop.example/icecores/laws.FnCost", spec := "fnCost", apart := false, narrowed := true }
def FnCostUptoSaid : Prop := fnCostUptoRow.holds Try.pinned (OpenSpec.upto fnCostSpec)

/-- 'laws.FnBestCuts', WHERE WHAT IT READS IS OF BULK AT MOST 1048576: true; the input reads as it did. -/
def fnBestCutsUptoRow : OpenClaim := { program := "ytbdhnfligfpigaa", sum := "e997333de9b6584f0df301a81fdd2f717ac5a9ad49af9a532081870be4cc8187", func := "loop.example/icecores/laws.FnBestCuts", spec := "fnBestCuts", apart := false, narrowed := true }
def FnBestCutsUptoSaid : Prop := fnBestCutsUptoRow.holds Try.pinned (OpenSpec.upto fnBestCutsSpec)

/-- 'laws.FnBestFree', WHERE WHAT IT READS IS OF BULK AT MOST 1048576: true; the input reads as it did. -/
def fnBestFreeUptoRow : OpenClaim := { program := "ytbdhnfligfpigaa", sum := "e997333de9b6584f0df301a81fdd2f717ac5a9ad49af9a532081870be4cc8187", func := "loop.example/icecores/laws.FnBestFree", spec := "fnBestFree", apart := false, narrowed := true }
def FnBestFreeUptoSaid : Prop := fnBestFreeUptoRow.holds Try.pinned (OpenSpec.upto fnBestFreeSpec)

/-- 'laws.FnBestMore', WHERE WHAT IT READS IS OF BULK AT MOST 1048576: true; the input reads as it did. -/
def fnBestMoreUptoRow : OpenClaim := { program := "ytbdhnfligfpigaa", sum := "e997333de9b6584f0df301a81fdd2f717ac5a9ad49af9a532081870be4cc8187", func := "loop.example/icecores/laws.FnBestMore", spec := "fnBestMore", apart := false, narrowed := true }
def FnBestMoreUptoSaid : Prop := fnBestMoreUptoRow.holds Try.pinned (OpenSpec.upto fnBestMoreSpec)

/-- 'laws.FnBestWider', WHERE WHAT IT READS IS OF BULK AT MOST 1048576: true; the input reads as it did. -/
def fnBestWiderUptoRow : OpenClaim := { program := "ytbdhnfligfpigaa", sum := "e997333de9b6584f0df301a81fdd2f717ac5a9ad49af9a532081870be4cc8187", func := "loop.example/icecores/laws.FnBestWider", spec := "fnBestWider", apart := false, narrowed := true }
def FnBestWiderUptoSaid : Prop := fnBestWiderUptoRow.holds Try.pinned (OpenSpec.upto fnBestWiderSpec)

/-- 'laws.FnCostBest', WHERE WHAT IT READS IS OF BULK AT MOST 1048576: true; the input reads as it did. -/
def fnCostBestUptoRow : OpenClaim := { program := "ytbdhnfligfpigaa", sum := "e997333de9b6584f0df301a81fdd2f717ac5a9ad49af9a532081870be4cc8187", func := "loop.example/icecores/laws.FnCostBest", spec := "fnCostBest", apart := false, narrowed := true }
def FnCostBestUptoSaid : Prop := fnCostBestUptoRow.holds Try.pinned (OpenSpec.upto fnCostBestSpec)

end Rows
end Go.Proofs.Ytbdhnfligfpigaa
