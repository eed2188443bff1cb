/-
  No cell of these rows narrows 'for every input' (looked for: loops, veiled, ifaces, maps, wideKeys, modest, calm, conditions, laid).
  DERIVED. THE GIVEN ROWS OF THIS SEAT. 11 by the template 'for every input the law returns true; each argument reads behind the call as it read before'; 0 by the template 'total and deterministic' (their statements: YtfbhhmogfalbdaaTotals.lean).
  GIVEN WITH THE SEED: the statements are not yours to turn. If you find one false, say at which input.
  Laid BY PROGRAM, IN A SANDBOX (cutbox-rows.mjs): the forced cells as the released guide's own fill.sh prints them over the translation bb021845b23d9d79… (all of the seat's roots in one cut). By AI agents, Wed Nov 11 2026. No macro, syntax, notation, axiom, sorry.
-/
import Derived.Test.YtfbhhmogfalbdaaChecked
import GoSem.Claim
import GoSem.ClaimJoined
import GoSem.ClaimMapViews
import Derived.JoinedTies
import Derived.KernelRfl
namespace Go.Proofs.Ytfbhhmogfalbdaa
/- THE CELL 'sum', in the pinned program and in every row, IS THE sha256 OF THE DUMP (.gsa) THAT YtfbhhmogfalbdaaProg.lean LOADS. Nothing in Lean hashes anything: it is a label: what it is worth is what the hold of that sum in a sandbox is worth. -/
noncomputable def Try.pinned : Pinned := { name := "ytfbhhmogfalbdaa", sum := "bb021845b23d9d793138a53e07c6a6194ef70171e276a4407830c1a2bb288289", checked := Try.checked }
namespace Rows
def none {H : Type} : Left H := { results := [], args := [] }

/-- 'laws.FnExactConstants': WHATEVER THE INPUT: true; the input reads as it did. -/
def fnExactConstantsSpec : ChangeSpec := { name := "fnExactConstants", fn := fun _ => fun
  | [] => { results := [.lit (.bool true)], args := [] }
  | _ => none }
def fnExactConstantsRow : OpenClaim := { program := "ytfbhhmogfalbdaa", sum := "bb021845b23d9d793138a53e07c6a6194ef70171e276a4407830c1a2bb288289", func := "loop.example/g00200/laws.FnExactConstants", spec := "fnExactConstants", apart := false }
def FnExactConstantsSaid : Prop := fnExactConstantsRow.holds Try.pinned (OpenSpec.ofChange fnExactConstantsSpec)

/-- ITS FALSE NEIGHBOUR: 'it returns false'. Refute it at one input. -/
def fnExactConstantsWrong : ChangeSpec := { name := "fnExactConstants", fn := fun _ => fun
  | [] => { results := [.lit (.bool false)], args := [] }
  | _ => none }
def FnExactConstantsWrongFalsely : Prop := fnExactConstantsRow.holds Try.pinned (OpenSpec.ofChange fnExactConstantsWrong)

/-- 'laws.FnExactAddSat': WHATEVER THE INPUT: true; the input reads as it did. -/
def fnExactAddSatSpec : ChangeSpec := { name := "fnExactAddSat", fn := fun _ => fun
  | [d1, d2] => { results := [.lit (.bool true)], args := [d1, d2] }
  | _ => none }
def fnExactAddSatRow : OpenClaim := { program := "ytfbhhmogfalbdaa", sum := "bb021845b23d9d793138a53e07c6a6194ef70171e276a4407830c1a2bb288289", func := "loop.example/g00200/laws.FnExactAddSat", spec := "fnExactAddSat", apart := false }
def FnExactAddSatSaid : Prop := fnExactAddSatRow.holds Try.pinned (OpenSpec.ofChange fnExactAddSatSpec)

/-- ITS FALSE NEIGHBOUR: 'it returns false'. Refute it at one input. -/
def fnExactAddSatWrong : ChangeSpec := { name := "fnExactAddSat", fn := fun _ => fun
  | [d1, d2] => { results := [.lit (.bool false)], args := [d1, d2] }
  | _ => none }
def FnExactAddSatWrongFalsely : Prop := fnExactAddSatRow.holds Try.pinned (OpenSpec.ofChange fnExactAddSatWrong)

/-- 'laws.FnExactRateOk': WHATEVER THE INPUT: true; the input reads as it did. -/
def fnExactRateOkSpec : ChangeSpec := { name := "fnExactRateOk", fn := fun _ => fun
  | [d] => { results := [.lit (.bool true)], args := [d] }
  | _ => none }
def fnExactRateOkRow : OpenClaim := { program := "ytfbhhmogfalbdaa", sum := "bb021845b23d9d793138a53e07c6a6194ef70171e276a4407830c1a2bb288289", func := "loop.example/g00200/laws.FnExactRateOk", spec := "fnExactRateOk", apart := false }
def FnExactRateOkSaid : Prop := fnExactRateOkRow.holds Try.pinned (OpenSpec.ofChange fnExactRateOkSpec)

/-- ITS FALSE NEIGHBOUR: 'it returns false'. Refute it at one input. -/
def fnExactRateOkWrong : ChangeSpec := { name := "fnExactRateOk", fn := fun _ => fun
  | [d] => { results := [.lit (.bool false)], args := [d] }
  | _ => none }
def FnExactRateOkWrongFalsely : Prop := fnExactRateOkRow.holds Try.pinned (OpenSpec.ofChange fnExactRateOkWrong)

/-- 'laws.FnExactNameOf': WHATEVER THE INPUT: true; the input reads as it did. -/
def fnExactNameOfSpec : ChangeSpec := { name := "fnExactNameOf", fn := fun _ => fun
  | [d] => { results := [.lit (.bool true)], args := [d] }
  | _ => none }
def fnExactNameOfRow : OpenClaim := { program := "ytfbhhmogfalbdaa", sum := "bb021845b23d9d793138a53e07c6a6194ef70171e276a4407830c1a2bb288289", func := "loop.example/g00200/laws.FnExactNameOf", spec := "fnExactNameOf", apart := false }
def FnExactNameOfSaid : Prop := fnExactNameOfRow.holds Try.pinned (OpenSpec.ofChange fnExactNameOfSpec)

/-- ITS FALSE NEIGHBOUR: 'it returns false'. Refute it at one input. -/
def fnExactNameOfWrong : ChangeSpec := { name := "fnExactNameOf", fn := fun _ => fun
  | [d] => { results := [.lit (.bool false)], args := [d] }
  | _ => none }
def FnExactNameOfWrongFalsely : Prop := fnExactNameOfRow.holds Try.pinned (OpenSpec.ofChange fnExactNameOfWrong)

/-- 'laws.FnExactCostOf': WHATEVER THE INPUT: true; the input reads as it did. -/
def fnExactCostOfSpec : ChangeSpec := { name := "fnExactCostOf", fn := fun _ => fun
  | [d] => { results := [.lit (.bool true)], args := [d] }
  | _ => none }
def fnExactCostOfRow : OpenClaim := { program := "ytfbhhmogfalbdaa", sum := "bb021845b23d9d793138a53e07c6a6194ef70171e276a4407830c1a2bb288289", func := "loop.example/g00200/laws.FnExactCostOf", spec := "fnExactCostOf", apart := false }
def FnExactCostOfSaid : Prop := fnExactCostOfRow.holds Try.pinned (OpenSpec.ofChange fnExactCostOfSpec)

/-- ITS FALSE NEIGHBOUR: 'it returns false'. Refute it at one input. -/
def fnExactCostOfWrong : ChangeSpec := { name := "fnExactCostOf", fn := fun _ => fun
  | [d] => { results := [.lit (.bool false)], args := [d] }
  | _ => none }
def FnExactCostOfWrongFalsely : Prop := fnExactCostOfRow.holds Try.pinned (OpenSpec.ofChange fnExactCostOfWrong)

/-- 'laws.FnExactSumMore': WHATEVER THE INPUT: true; the input reads as it did. -/
def fnExactSumMoreSpec : ChangeSpec := { name := "fnExactSumMore", fn := fun _ => fun
  | [d1, d2] => { results := [.lit (.bool true)], args := [d1, d2] }
  | _ => none }
def fnExactSumMoreRow : OpenClaim := { program := "ytfbhhmogfalbdaa", sum := "bb021845b23d9d793138a53e07c6a6194ef70171e276a4407830c1a2bb288289", func := "loop.example/g00200/laws.FnExactSumMore", spec := "fnExactSumMore", apart := false }
def FnExactSumMoreSaid : Prop := fnExactSumMoreRow.holds Try.pinned (OpenSpec.ofChange fnExactSumMoreSpec)

/-- ITS FALSE NEIGHBOUR: 'it returns false'. Refute it at one input. -/
def fnExactSumMoreWrong : ChangeSpec := { name := "fnExactSumMore", fn := fun _ => fun
  | [d1, d2] => { results := [.lit (.bool false)], args := [d1, d2] }
  | _ => none }
def FnExactSumMoreWrongFalsely : Prop := fnExactSumMoreRow.holds Try.pinned (OpenSpec.ofChange fnExactSumMoreWrong)

/-- 'laws.FnExactHex': WHATEVER THE INPUT: true; the input reads as it did. -/
def fnExactHexSpec : ChangeSpec := { name := "fnExactHex", fn := fun _ => fun
  | [d] => { results := [.lit (.bool true)], args := [d] }
  | _ => none }
def fnExactHexRow : OpenClaim := { program := "ytfbhhmogfalbdaa", sum := "bb021845b23d9d793138a53e07c6a6194ef70171e276a4407830c1a2bb288289", func := "loop.example/g00200/laws.FnExactHex", spec := "fnExactHex", apart := false }
def FnExactHexSaid : Prop := fnExactHexRow.holds Try.pinned (OpenSpec.ofChange fnExactHexSpec)

/-- ITS FALSE NEIGHBOUR: 'it returns false'. Refute it at one input. -/
def fnExactHexWrong : ChangeSpec := { name := "fnExactHex", fn := fun _ => fun
  | [d] => { results := [.lit (.bool false)], args := [d] }
  | _ => none }
def FnExactHexWrongFalsely : Prop := fnExactHexRow.holds Try.pinned (OpenSpec.ofChange fnExactHexWrong)

/-- 'laws.FnExactVarText': WHATEVER THE INPUT: true; the input reads as it did. -/
def fnExactVarTextSpec : ChangeSpec := { name := "fnExactVarText", fn := fun _ => fun
  | [d] => { results := [.lit (.bool true)], args := [d] }
  | _ => none }
def fnExactVarTextRow : OpenClaim := { program := "ytfbhhmogfalbdaa", sum := "bb021845b23d9d793138a53e07c6a6194ef70171e276a4407830c1a2bb288289", func := "loop.example/g00200/laws.FnExactVarText", spec := "fnExactVarText", apart := false }
def FnExactVarTextSaid : Prop := fnExactVarTextRow.holds Try.pinned (OpenSpec.ofChange fnExactVarTextSpec)

/-- ITS FALSE NEIGHBOUR: 'it returns false'. Refute it at one input. -/
def fnExactVarTextWrong : ChangeSpec := { name := "fnExactVarText", fn := fun _ => fun
  | [d] => { results := [.lit (.bool false)], args := [d] }
  | _ => none }
def FnExactVarTextWrongFalsely : Prop := fnExactVarTextRow.holds Try.pinned (OpenSpec.ofChange fnExactVarTextWrong)

/-- 'laws.FnExactSumOf': WHATEVER THE INPUT: true; the input reads as it did. -/
def fnExactSumOfSpec : ChangeSpec := { name := "fnExactSumOf", fn := fun _ => fun
  | [d] => { results := [.lit (.bool true)], args := [d] }
  | _ => none }
def fnExactSumOfRow : OpenClaim := { program := "ytfbhhmogfalbdaa", sum := "bb021845b23d9d793138a53e07c6a6194ef70171e276a4407830c1a2bb288289", func := "loop.example/g00200/laws.FnExactSumOf", spec := "fnExactSumOf", apart := false }
def FnExactSumOfSaid : Prop := fnExactSumOfRow.holds Try.pinned (OpenSpec.ofChange fnExactSumOfSpec)

/-- ITS FALSE NEIGHBOUR: 'it returns false'. Refute it at one input. -/
def fnExactSumOfWrong : ChangeSpec := { name := "fnExactSumOf", fn := fun _ => fun
  | [d] => { results := [.lit (.bool false)], args := [d] }
  | _ => none }
def FnExactSumOfWrongFalsely : Prop := fnExactSumOfRow.holds Try.pinned (OpenSpec.ofChange fnExactSumOfWrong)

/-- 'laws.FnExactShortText': WHATEVER THE INPUT: true; the input reads as it did. -/
def fnExactShortTextSpec : ChangeSpec := { name := "fnExactShortText", fn := fun _ => fun
  | [d] => { results := [.lit (.bool true)], args := [d] }
  | _ => none }
def fnExactShortTextRow : OpenClaim := { program := "ytfbhhmogfalbdaa", sum := "bb021845b23d9d793138a53e07c6a6194ef70171e276a4407830c1a2bb288289", func := "loop.example/g00200/laws.FnExactShortText", spec := "fnExactShortText", apart := false }
def FnExactShortTextSaid : Prop := fnExactShortTextRow.holds Try.pinned (OpenSpec.ofChange fnExactShortTextSpec)

/-- ITS FALSE NEIGHBOUR: 'it returns false'. Refute it at one input. -/
def fnExactShortTextWrong : ChangeSpec := { name := "fnExactShortText", fn := fun _ => fun
  | [d] => { results := [.lit (.bool false)], args := [d] }
  | _ => none }
def FnExactShortTextWrongFalsely : Prop := fnExactShortTextRow.holds Try.pinned (OpenSpec.ofChange fnExactShortTextWrong)

/-- 'laws.FnExactStepRate': WHATEVER THE INPUT: true; the input reads as it did. -/
def fnExactStepRateSpec : ChangeSpec := { name := "fnExactStepRate", fn := fun _ => fun
  | [d] => { results := [.lit (.bool true)], args := [d] }
  | _ => none }
def fnExactStepRateRow : OpenClaim := { program := "ytfbhhmogfalbdaa", sum := "bb021845b23d9d793138a53e07c6a6194ef70171e276a4407830c1a2bb288289", func := "loop.example/g00200/laws.FnExactStepRate", spec := "fnExactStepRate", apart := false }
def FnExactStepRateSaid : Prop := fnExactStepRateRow.holds Try.pinned (OpenSpec.ofChange fnExactStepRateSpec)

/-- ITS FALSE NEIGHBOUR: 'it returns false'. Refute it at one input. -/
def fnExactStepRateWrong : ChangeSpec := { name := "fnExactStepRate", fn := fun _ => fun
  | [d] => { results := [.lit (.bool false)], args := [d] }
  | _ => none }
def FnExactStepRateWrongFalsely : Prop := fnExactStepRateRow.holds Try.pinned (OpenSpec.ofChange fnExactStepRateWrong)

/- THE SECOND FORM. 'bulk': how many values and letters a reading holds, each counted each time it is reached (what is shared counts as often as it is met; a slice's spare places count too). A statement '..UptoSaid' is the law's where the arguments, and the package variables that the reading takes, are together of bulk at most 1048576: NARROWER than '..Said'. Prove '..Said' where nothing that the law and all that it calls make is longer than what came in: it says more and counts as full. Else prove '..UptoSaid'. A law counts once. -/
mutual
def uptoBulk {H : Type} : DataW H → Nat
  | .lit (.string bytes) => bytes.length + 1
  | .lit _ => 1
  | .nil => 1
  | .ptr d => uptoBulk d + 1
  | .slice elems spare => uptoBulkAll elems + uptoBulkAll spare + 1
  | .agg parts => uptoBulkAll parts + 1
  | .iface _ d => uptoBulk d + 1
  | .map entries => uptoBulkEntries entries + 1
  | .held _ => 1
def uptoBulkAll {H : Type} : List (DataW H) → Nat
  | [] => 0
  | d :: r => uptoBulk d + uptoBulkAll r
def uptoBulkEntries {H : Type} : List (Lit × DataW H) → Nat
  | [] => 0
  | x :: r => uptoBulkEntry x + uptoBulkEntries r
def uptoBulkEntry {H : Type} : Lit × DataW H → Nat
  | (.string bytes, d) => bytes.length + uptoBulk d + 1
  | (_, d) => uptoBulk d + 1
 end
def uptoSmall : (H : Type) → List (DataW H) → Bool := fun _ ds => decide (uptoBulkAll ds ≤ 1048576)
def OpenSpec.upto (s : _root_.Go.ChangeSpec) : _root_.Go.OpenSpec := { _root_.Go.OpenSpec.ofChange s with cond := some uptoSmall }

/-- 'laws.FnExactConstants', WHERE WHAT IT READS IS OF BULK AT MOST 1048576: true; the input reads as it did. -/
def fnExactConstantsUptoRow : OpenClaim := { program := "ytfbhhmogfalbdaa", sum := "bb021845b23d9d793138a53e07c6a6194ef70171e276a4407830c1a2bb288289", func := "loop.example/g00200/laws.FnExactConstants", spec := "fnExactConstants", apart := false, narrowed := true }
def FnExactConstantsUptoSaid : Prop := fnExactConstantsUptoRow.holds Try.pinned (OpenSpec.upto fnExactConstantsSpec)

/-- 'laws.FnExactAddSat', WHERE WHAT IT READS IS OF BULK AT MOST 1048576: true; the input reads as it did. -/
def fnExactAddSatUptoRow : OpenClaim := { program := "ytfbhhmogfalbdaa", sum := "bb021845b23d9d793138a53e07c6a6194ef70171e276a4407830c1a2bb288289", func := "loop.example/g00200/laws.FnExactAddSat", spec := "fnExactAddSat", apart := false, narrowed := true }
def FnExactAddSatUptoSaid : Prop := fnExactAddSatUptoRow.holds Try.pinned (OpenSpec.upto fnExactAddSatSpec)

/-- 'laws.FnExactRateOk', WHERE WHAT IT READS IS OF BULK AT MOST 1048576: true; the input reads as it did. -/
def fnExactRateOkUptoRow : OpenClaim := { program := "ytfbhhmogfalbdaa", sum := "bb021845b23d9d793138a53e07c6a6194ef70171e276a4407830c1a2bb288289", func := "loop.example/g00200/laws.FnExactRateOk", spec := "fnExactRateOk", apart := false, narrowed := true }
def FnExactRateOkUptoSaid : Prop := fnExactRateOkUptoRow.holds Try.pinned (OpenSpec.upto fnExactRateOkSpec)

/-- 'laws.FnExactNameOf', WHERE WHAT IT READS IS OF BULK AT MOST 1048576: true; the input reads as it did. -/
def fnExactNameOfUptoRow : OpenClaim := { program := "ytfbhhmogfalbdaa", sum := "bb021845b23d9d793138a53e07c6a6194ef70171e276a4407830c1a2bb288289", func := "loop.example/g00200/laws.FnExactNameOf", spec := "fnExactNameOf", apart := false, narrowed := true }
def FnExactNameOfUptoSaid : Prop := fnExactNameOfUptoRow.holds Try.pinned (OpenSpec.upto fnExactNameOfSpec)

/-- 'laws.FnExactCostOf', WHERE WHAT IT READS IS OF BULK AT MOST 1048576: true; the input reads as it did. -/
def fnExactCostOfUptoRow : OpenClaim := { program := "ytfbhhmogfalbdaa", sum := "bb021845b23d9d793138a53e07c6a6194ef70171e276a4407830c1a2bb288289", func := "loop.example/g00200/laws.FnExactCostOf", spec := "fnExactCostOf", apart := false, narrowed := true }
def FnExactCostOfUptoSaid : Prop := fnExactCostOfUptoRow.holds Try.pinned (OpenSpec.upto fnExactCostOfSpec)

/-- 'laws.FnExactSumMore', WHERE WHAT IT READS IS OF BULK AT MOST 1048576: true; the input reads as it did. -/
def fnExactSumMoreUptoRow : OpenClaim := { program := "ytfbhhmogfalbdaa", sum := "bb021845b23d9d793138a53e07c6a6194ef70171e276a4407830c1a2bb288289", func := "loop.example/g00200/laws.FnExactSumMore", spec := "fnExactSumMore", apart := false, narrowed := true }
def FnExactSumMoreUptoSaid : Prop := fnExactSumMoreUptoRow.holds Try.pinned (OpenSpec.upto fnExactSumMoreSpec)

/-- 'laws.FnExactHex', WHERE WHAT IT READS IS OF BULK AT MOST 1048576: true; the input reads as it did. -/
def fnExactHexUptoRow : OpenClaim := { program := "ytfbhhmogfalbdaa", sum := "bb021845b23d9d793138a53e07c6a6194ef70171e276a4407830c1a2bb288289", func := "loop.example/g00200/laws.FnExactHex", spec := "fnExactHex", apart := false, narrowed := true }
def FnExactHexUptoSaid : Prop := fnExactHexUptoRow.holds Try.pinned (OpenSpec.upto fnExactHexSpec)

/-- 'laws.FnExactVarText', WHERE WHAT IT READS IS OF BULK AT MOST 1048576: true; the input reads as it did. -/
def fnExactVarTextUptoRow : OpenClaim := { program := "ytfbhhmogfalbdaa", sum := "bb021845b23d9d793138a53e07c6a6194ef70171e276a4407830c1a2bb288289", func := "loop.example/g00200/laws.FnExactVarText", spec := "fnExactVarText", apart := false, narrowed := true }
def FnExactVarTextUptoSaid : Prop := fnExactVarTextUptoRow.holds Try.pinned (OpenSpec.upto fnExactVarTextSpec)

/-- 'laws.FnExactSumOf', WHERE WHAT IT READS IS OF BULK AT MOST 1048576: true; the input reads as it did. -/
def fnExactSumOfUptoRow : OpenClaim := { program := "ytfbhhmogfalbdaa", sum := "bb021845b23d9d793138a53e07c6a6194ef70171e276a4407830c1a2bb288289", func := "loop.example/g00200/laws.FnExactSumOf", spec := "fnExactSumOf", apart := false, narrowed := true }
def FnExactSumOfUptoSaid : Prop := fnExactSumOfUptoRow.holds Try.pinned (OpenSpec.upto fnExactSumOfSpec)

/-- 'laws.FnExactShortText', WHERE WHAT IT READS IS OF BULK AT MOST 1048576: true; the input reads as it did. -/
def fnExactShortTextUptoRow : OpenClaim := { program := "ytfbhhmogfalbdaa", sum := "bb021845b23d9d793138a53e07c6a6194ef70171e276a4407830c1a2bb288289", func := "loop.example/g00200/laws.FnExactShortText", spec := "fnExactShortText", apart := false, narrowed := true }
def FnExactShortTextUptoSaid : Prop := fnExactShortTextUptoRow.holds Try.pinned (OpenSpec.upto fnExactShortTextSpec)

/-- 'laws.FnExactStepRate', WHERE WHAT IT READS IS OF BULK AT MOST 1048576: true; the input reads as it did. -/
def fnExactStepRateUptoRow : OpenClaim := { program := "ytfbhhmogfalbdaa", sum := "bb021845b23d9d793138a53e07c6a6194ef70171e276a4407830c1a2bb288289", func := "loop.example/g00200/laws.FnExactStepRate", spec := "fnExactStepRate", apart := false, narrowed := true }
def FnExactStepRateUptoSaid : Prop := fnExactStepRateUptoRow.holds Try.pinned (OpenSpec.upto fnExactStepRateSpec)

end Rows
end Go.Proofs.Ytfbhhmogfalbdaa
