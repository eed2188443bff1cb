/-
  No cell of these rows narrows 'for every input' (looked for: loops, veiled, ifaces, maps, wideKeys, modest, calm, conditions, laid).
  DERIVED. THE GIVEN ROWS OF THIS SEAT. 12 by the template 'for every input the law returns true; each argument reads behind the call as it read before'; 0 by the template 'total and deterministic' (their statements: YtimeeohggjagfaaTotals.lean).
  GIVEN WITH THE SEED: the statements are not yours to turn. If you find one false, say at which input.
  Laid BY PROGRAM, IN A SANDBOX (cutbox-rows.mjs): the forced cells as the released guide's own fill.sh prints them over the translation 383a663c120e960c… (all of the seat's roots in one cut). By AI agents, Wed Nov 11 2026. No macro, syntax, notation, axiom, sorry.
-/
import Derived.Test.YtimeeohggjagfaaChecked
import GoSem.Claim
import GoSem.ClaimJoined
import GoSem.ClaimMapViews
import Derived.JoinedTies
import Derived.KernelRfl
namespace Go.Proofs.Ytimeeohggjagfaa
/- THE CELL 'sum', in the pinned program and in every row, IS THE sha256 OF THE DUMP (.gsa) THAT YtimeeohggjagfaaProg.lean LOADS. Nothing in Lean hashes anything: it is a label: what it is worth is what the hold of that sum in a sandbox is worth. -/
noncomputable def Try.pinned : Pinned := { name := "ytimeeohggjagfaa", sum := "383a663c120e960c8557f82cd5118096f7ee8a2fe239694aef216a38c0ebb632", checked := Try.checked }
namespace Rows
def none {H : Type} : Left H := { results := [], args := [] }

/-- 'laws.FnExactUnsealed': WHATEVER THE INPUT: true; the input reads as it did. -/
def fnExactUnsealedSpec : ChangeSpec := { name := "fnExactUnsealed", fn := fun _ => fun
  | [d] => { results := [.lit (.bool true)], args := [d] }
  | _ => none }
def fnExactUnsealedRow : OpenClaim := { program := "ytimeeohggjagfaa", sum := "383a663c120e960c8557f82cd5118096f7ee8a2fe239694aef216a38c0ebb632", func := "loop.example/g00200/laws.FnExactUnsealed", spec := "fnExactUnsealed", apart := false }
def FnExactUnsealedSaid : Prop := fnExactUnsealedRow.holds Try.pinned (OpenSpec.ofChange fnExactUnsealedSpec)

/-- ITS FALSE NEIGHBOUR: 'it returns false'. Refute it at one input. -/
def fnExactUnsealedWrong : ChangeSpec := { name := "fnExactUnsealed", fn := fun _ => fun
  | [d] => { results := [.lit (.bool false)], args := [d] }
  | _ => none }
def FnExactUnsealedWrongFalsely : Prop := fnExactUnsealedRow.holds Try.pinned (OpenSpec.ofChange fnExactUnsealedWrong)

/-- 'laws.FnSums': WHATEVER THE INPUT: true; the input reads as it did. -/
def fnSumsSpec : ChangeSpec := { name := "fnSums", fn := fun _ => fun
  | [d] => { results := [.lit (.bool true)], args := [d] }
  | _ => none }
def fnSumsRow : OpenClaim := { program := "ytimeeohggjagfaa", sum := "383a663c120e960c8557f82cd5118096f7ee8a2fe239694aef216a38c0ebb632", func := "loop.example/g00200/laws.FnSums", spec := "fnSums", apart := false }
def FnSumsSaid : Prop := fnSumsRow.holds Try.pinned (OpenSpec.ofChange fnSumsSpec)

/-- ITS FALSE NEIGHBOUR: 'it returns false'. Refute it at one input. -/
def fnSumsWrong : ChangeSpec := { name := "fnSums", fn := fun _ => fun
  | [d] => { results := [.lit (.bool false)], args := [d] }
  | _ => none }
def FnSumsWrongFalsely : Prop := fnSumsRow.holds Try.pinned (OpenSpec.ofChange fnSumsWrong)

/-- 'laws.FnExactRegionsOk': WHATEVER THE INPUT: true; the input reads as it did. -/
def fnExactRegionsOkSpec : ChangeSpec := { name := "fnExactRegionsOk", fn := fun _ => fun
  | [d] => { results := [.lit (.bool true)], args := [d] }
  | _ => none }
def fnExactRegionsOkRow : OpenClaim := { program := "ytimeeohggjagfaa", sum := "383a663c120e960c8557f82cd5118096f7ee8a2fe239694aef216a38c0ebb632", func := "loop.example/g00200/laws.FnExactRegionsOk", spec := "fnExactRegionsOk", apart := false }
def FnExactRegionsOkSaid : Prop := fnExactRegionsOkRow.holds Try.pinned (OpenSpec.ofChange fnExactRegionsOkSpec)

/-- ITS FALSE NEIGHBOUR: 'it returns false'. Refute it at one input. -/
def fnExactRegionsOkWrong : ChangeSpec := { name := "fnExactRegionsOk", fn := fun _ => fun
  | [d] => { results := [.lit (.bool false)], args := [d] }
  | _ => none }
def FnExactRegionsOkWrongFalsely : Prop := fnExactRegionsOkRow.holds Try.pinned (OpenSpec.ofChange fnExactRegionsOkWrong)

/-- 'laws.FnExactCpuOk': WHATEVER THE INPUT: true; the input reads as it did. -/
def fnExactCpuOkSpec : ChangeSpec := { name := "fnExactCpuOk", fn := fun _ => fun
  | [d] => { results := [.lit (.bool true)], args := [d] }
  | _ => none }
def fnExactCpuOkRow : OpenClaim := { program := "ytimeeohggjagfaa", sum := "383a663c120e960c8557f82cd5118096f7ee8a2fe239694aef216a38c0ebb632", func := "loop.example/g00200/laws.FnExactCpuOk", spec := "fnExactCpuOk", apart := false }
def FnExactCpuOkSaid : Prop := fnExactCpuOkRow.holds Try.pinned (OpenSpec.ofChange fnExactCpuOkSpec)

/-- ITS FALSE NEIGHBOUR: 'it returns false'. Refute it at one input. -/
def fnExactCpuOkWrong : ChangeSpec := { name := "fnExactCpuOk", fn := fun _ => fun
  | [d] => { results := [.lit (.bool false)], args := [d] }
  | _ => none }
def FnExactCpuOkWrongFalsely : Prop := fnExactCpuOkRow.holds Try.pinned (OpenSpec.ofChange fnExactCpuOkWrong)

/-- 'laws.FnExactLoadCell': WHATEVER THE INPUT: true; the input reads as it did. -/
def fnExactLoadCellSpec : ChangeSpec := { name := "fnExactLoadCell", fn := fun _ => fun
  | [d1, d2, d3] => { results := [.lit (.bool true)], args := [d1, d2, d3] }
  | _ => none }
def fnExactLoadCellRow : OpenClaim := { program := "ytimeeohggjagfaa", sum := "383a663c120e960c8557f82cd5118096f7ee8a2fe239694aef216a38c0ebb632", func := "loop.example/g00200/laws.FnExactLoadCell", spec := "fnExactLoadCell", apart := false }
def FnExactLoadCellSaid : Prop := fnExactLoadCellRow.holds Try.pinned (OpenSpec.ofChange fnExactLoadCellSpec)

/-- ITS FALSE NEIGHBOUR: 'it returns false'. Refute it at one input. -/
def fnExactLoadCellWrong : ChangeSpec := { name := "fnExactLoadCell", fn := fun _ => fun
  | [d1, d2, d3] => { results := [.lit (.bool false)], args := [d1, d2, d3] }
  | _ => none }
def FnExactLoadCellWrongFalsely : Prop := fnExactLoadCellRow.holds Try.pinned (OpenSpec.ofChange fnExactLoadCellWrong)

/-- 'laws.FnExactCodeText': WHATEVER THE INPUT: true; the input reads as it did. -/
def fnExactCodeTextSpec : ChangeSpec := { name := "fnExactCodeText", fn := fun _ => fun
  | [d] => { results := [.lit (.bool true)], args := [d] }
  | _ => none }
def fnExactCodeTextRow : OpenClaim := { program := "ytimeeohggjagfaa", sum := "383a663c120e960c8557f82cd5118096f7ee8a2fe239694aef216a38c0ebb632", func := "loop.example/g00200/laws.FnExactCodeText", spec := "fnExactCodeText", apart := false }
def FnExactCodeTextSaid : Prop := fnExactCodeTextRow.holds Try.pinned (OpenSpec.ofChange fnExactCodeTextSpec)

/-- ITS FALSE NEIGHBOUR: 'it returns false'. Refute it at one input. -/
def fnExactCodeTextWrong : ChangeSpec := { name := "fnExactCodeText", fn := fun _ => fun
  | [d] => { results := [.lit (.bool false)], args := [d] }
  | _ => none }
def FnExactCodeTextWrongFalsely : Prop := fnExactCodeTextRow.holds Try.pinned (OpenSpec.ofChange fnExactCodeTextWrong)

/-- 'laws.FnCosts': WHATEVER THE INPUT: true; the input reads as it did. -/
def fnCostsSpec : ChangeSpec := { name := "fnCosts", fn := fun _ => fun
  | [d] => { results := [.lit (.bool true)], args := [d] }
  | _ => none }
def fnCostsRow : OpenClaim := { program := "ytimeeohggjagfaa", sum := "383a663c120e960c8557f82cd5118096f7ee8a2fe239694aef216a38c0ebb632", func := "loop.example/g00200/laws.FnCosts", spec := "fnCosts", apart := false }
def FnCostsSaid : Prop := fnCostsRow.holds Try.pinned (OpenSpec.ofChange fnCostsSpec)

/-- ITS FALSE NEIGHBOUR: 'it returns false'. Refute it at one input. -/
def fnCostsWrong : ChangeSpec := { name := "fnCosts", fn := fun _ => fun
  | [d] => { results := [.lit (.bool false)], args := [d] }
  | _ => none }
def FnCostsWrongFalsely : Prop := fnCostsRow.holds Try.pinned (OpenSpec.ofChange fnCostsWrong)

/-- 'laws.FnRateParts': WHATEVER THE INPUT: true; the input reads as it did. -/
def fnRatePartsSpec : ChangeSpec := { name := "fnRateParts", fn := fun _ => fun
  | [d] => { results := [.lit (.bool true)], args := [d] }
  | _ => none }
def fnRatePartsRow : OpenClaim := { program := "ytimeeohggjagfaa", sum := "383a663c120e960c8557f82cd5118096f7ee8a2fe239694aef216a38c0ebb632", func := "loop.example/g00200/laws.FnRateParts", spec := "fnRateParts", apart := false }
def FnRatePartsSaid : Prop := fnRatePartsRow.holds Try.pinned (OpenSpec.ofChange fnRatePartsSpec)

/-- ITS FALSE NEIGHBOUR: 'it returns false'. Refute it at one input. -/
def fnRatePartsWrong : ChangeSpec := { name := "fnRateParts", fn := fun _ => fun
  | [d] => { results := [.lit (.bool false)], args := [d] }
  | _ => none }
def FnRatePartsWrongFalsely : Prop := fnRatePartsRow.holds Try.pinned (OpenSpec.ofChange fnRatePartsWrong)

/-- 'laws.FnTurned': WHATEVER THE INPUT: true; the input reads as it did. -/
def fnTurnedSpec : ChangeSpec := { name := "fnTurned", fn := fun _ => fun
  | [d] => { results := [.lit (.bool true)], args := [d] }
  | _ => none }
def fnTurnedRow : OpenClaim := { program := "ytimeeohggjagfaa", sum := "383a663c120e960c8557f82cd5118096f7ee8a2fe239694aef216a38c0ebb632", func := "loop.example/g00200/laws.FnTurned", spec := "fnTurned", apart := false }
def FnTurnedSaid : Prop := fnTurnedRow.holds Try.pinned (OpenSpec.ofChange fnTurnedSpec)

/-- ITS FALSE NEIGHBOUR: 'it returns false'. Refute it at one input. -/
def fnTurnedWrong : ChangeSpec := { name := "fnTurned", fn := fun _ => fun
  | [d] => { results := [.lit (.bool false)], args := [d] }
  | _ => none }
def FnTurnedWrongFalsely : Prop := fnTurnedRow.holds Try.pinned (OpenSpec.ofChange fnTurnedWrong)

/-- 'laws.FnProducts': WHATEVER THE INPUT: true; the input reads as it did. -/
def fnProductsSpec : ChangeSpec := { name := "fnProducts", fn := fun _ => fun
  | [d] => { results := [.lit (.bool true)], args := [d] }
  | _ => none }
def fnProductsRow : OpenClaim := { program := "ytimeeohggjagfaa", sum := "383a663c120e960c8557f82cd5118096f7ee8a2fe239694aef216a38c0ebb632", func := "loop.example/g00200/laws.FnProducts", spec := "fnProducts", apart := false }
def FnProductsSaid : Prop := fnProductsRow.holds Try.pinned (OpenSpec.ofChange fnProductsSpec)

/-- ITS FALSE NEIGHBOUR: 'it returns false'. Refute it at one input. -/
def fnProductsWrong : ChangeSpec := { name := "fnProducts", fn := fun _ => fun
  | [d] => { results := [.lit (.bool false)], args := [d] }
  | _ => none }
def FnProductsWrongFalsely : Prop := fnProductsRow.holds Try.pinned (OpenSpec.ofChange fnProductsWrong)

/-- 'laws.FnExactCellsOf': WHATEVER THE INPUT: true; the input reads as it did. -/
def fnExactCellsOfSpec : ChangeSpec := { name := "fnExactCellsOf", fn := fun _ => fun
  | [d1, d2] => { results := [.lit (.bool true)], args := [d1, d2] }
  | _ => none }
def fnExactCellsOfRow : OpenClaim := { program := "ytimeeohggjagfaa", sum := "383a663c120e960c8557f82cd5118096f7ee8a2fe239694aef216a38c0ebb632", func := "loop.example/g00200/laws.FnExactCellsOf", spec := "fnExactCellsOf", apart := false }
def FnExactCellsOfSaid : Prop := fnExactCellsOfRow.holds Try.pinned (OpenSpec.ofChange fnExactCellsOfSpec)

/-- ITS FALSE NEIGHBOUR: 'it returns false'. Refute it at one input. -/
def fnExactCellsOfWrong : ChangeSpec := { name := "fnExactCellsOf", fn := fun _ => fun
  | [d1, d2] => { results := [.lit (.bool false)], args := [d1, d2] }
  | _ => none }
def FnExactCellsOfWrongFalsely : Prop := fnExactCellsOfRow.holds Try.pinned (OpenSpec.ofChange fnExactCellsOfWrong)

/-- 'laws.FnExactClearCells': WHATEVER THE INPUT: true; the input reads as it did. -/
def fnExactClearCellsSpec : ChangeSpec := { name := "fnExactClearCells", fn := fun _ => fun
  | [d1, d2] => { results := [.lit (.bool true)], args := [d1, d2] }
  | _ => none }
def fnExactClearCellsRow : OpenClaim := { program := "ytimeeohggjagfaa", sum := "383a663c120e960c8557f82cd5118096f7ee8a2fe239694aef216a38c0ebb632", func := "loop.example/g00200/laws.FnExactClearCells", spec := "fnExactClearCells", apart := false }
def FnExactClearCellsSaid : Prop := fnExactClearCellsRow.holds Try.pinned (OpenSpec.ofChange fnExactClearCellsSpec)

/-- ITS FALSE NEIGHBOUR: 'it returns false'. Refute it at one input. -/
def fnExactClearCellsWrong : ChangeSpec := { name := "fnExactClearCells", fn := fun _ => fun
  | [d1, d2] => { results := [.lit (.bool false)], args := [d1, d2] }
  | _ => none }
def FnExactClearCellsWrongFalsely : Prop := fnExactClearCellsRow.holds Try.pinned (OpenSpec.ofChange fnExactClearCellsWrong)

/- THE SECOND FORM. 'bulk': how many values and letters a reading holds, each counted each time it is reached (what is shared counts as often as it is met; a slice's spare places count too). A statement '..UptoSaid' is the law's where the arguments, and the package variables that the reading takes, are together of bulk at most 1048576: NARROWER than '..Said'. Prove '..Said' where nothing that the law and all that it calls make is longer than what came in: it says more and counts as full. Else prove '..UptoSaid'. A law counts once. -/
mutual
def uptoBulk {H : Type} : DataW H → Nat
  | .lit (.string bytes) => bytes.length + 1
  | .lit _ => 1
  | .nil => 1
  | .ptr d => uptoBulk d + 1
  | .slice elems spare => uptoBulkAll elems + uptoBulkAll spare + 1
  | .agg parts => uptoBulkAll parts + 1
  | .iface _ d => uptoBulk d + 1
  | .map entries => uptoBulkEntries entries + 1
  | .held _ => 1
def uptoBulkAll {H : Type} : List (DataW H) → Nat
  | [] => 0
  | d :: r => uptoBulk d + uptoBulkAll r
def uptoBulkEntries {H : Type} : List (Lit × DataW H) → Nat
  | [] => 0
  | x :: r => uptoBulkEntry x + uptoBulkEntries r
def uptoBulkEntry {H : Type} : Lit × DataW H → Nat
  | (.string bytes, d) => bytes.length + uptoBulk d + 1
  | (_, d) => uptoBulk d + 1
 end
def uptoSmall : (H : Type) → List (DataW H) → Bool := fun _ ds => decide (uptoBulkAll ds ≤ 1048576)
def OpenSpec.upto (s : _root_.Go.ChangeSpec) : _root_.Go.OpenSpec := { _root_.Go.OpenSpec.ofChange s with cond := some uptoSmall }

/-- 'laws.FnExactUnsealed', WHERE WHAT IT READS IS OF BULK AT MOST 1048576: true; the input reads as it did. -/
def fnExactUnsealedUptoRow : OpenClaim := { program := "ytimeeohggjagfaa", sum := "383a663c120e960c8557f82cd5118096f7ee8a2fe239694aef216a38c0ebb632", func := "loop.example/g00200/laws.FnExactUnsealed", spec := "fnExactUnsealed", apart := false, narrowed := true }
def FnExactUnsealedUptoSaid : Prop := fnExactUnsealedUptoRow.holds Try.pinned (OpenSpec.upto fnExactUnsealedSpec)

/-- 'laws.FnSums', WHERE WHAT IT READS IS OF BULK AT MOST 1048576: true; the input reads as it did. -/
def fnSumsUptoRow : OpenClaim := { program := "ytimeeohggjagfaa", sum := "383a663c120e960c8557f82cd5118096f7ee8a2fe239694aef216a38c0ebb632", func := "loop.example/g00200/laws.FnSums", spec := "fnSums", apart := false, narrowed := true }
def FnSumsUptoSaid : Prop := fnSumsUptoRow.holds Try.pinned (OpenSpec.upto fnSumsSpec)

/-- 'laws.FnExactRegionsOk', WHERE WHAT IT READS IS OF BULK AT MOST 1048576: true; the input reads as it did. -/
def fnExactRegionsOkUptoRow : OpenClaim := { program := "ytimeeohggjagfaa", sum := "383a663c120e960c8557f82cd5118096f7ee8a2fe239694aef216a38c0ebb632", func := "loop.example/g00200/laws.FnExactRegionsOk", spec := "fnExactRegionsOk", apart := false, narrowed := true }
def FnExactRegionsOkUptoSaid : Prop := fnExactRegionsOkUptoRow.holds Try.pinned (OpenSpec.upto fnExactRegionsOkSpec)

/-- 'laws.FnExactCpuOk', WHERE WHAT IT READS IS OF BULK AT MOST 1048576: true; the input reads as it did. -/
def fnExactCpuOkUptoRow : OpenClaim := { program := "ytimeeohggjagfaa", sum := "383a663c120e960c8557f82cd5118096f7ee8a2fe239694aef216a38c0ebb632", func := "loop.example/g00200/laws.FnExactCpuOk", spec := "fnExactCpuOk", apart := false, narrowed := true }
def FnExactCpuOkUptoSaid : Prop := fnExactCpuOkUptoRow.holds Try.pinned (OpenSpec.upto fnExactCpuOkSpec)

/-- 'laws.FnExactLoadCell', WHERE WHAT IT READS IS OF BULK AT MOST 1048576: true; the input reads as it did. -/
def fnExactLoadCellUptoRow : OpenClaim := { program := "ytimeeohggjagfaa", sum := "383a663c120e960c8557f82cd5118096f7ee8a2fe239694aef216a38c0ebb632", func := "loop.example/g00200/laws.FnExactLoadCell", spec := "fnExactLoadCell", apart := false, narrowed := true }
def FnExactLoadCellUptoSaid : Prop := fnExactLoadCellUptoRow.holds Try.pinned (OpenSpec.upto fnExactLoadCellSpec)

/-- 'laws.FnExactCodeText', WHERE WHAT IT READS IS OF BULK AT MOST 1048576: true; the input reads as it did. -/
def fnExactCodeTextUptoRow : OpenClaim := { program := "ytimeeohggjagfaa", sum := "383a663c120e960c8557f82cd5118096f7ee8a2fe239694aef216a38c0ebb632", func := "loop.example/g00200/laws.FnExactCodeText", spec := "fnExactCodeText", apart := false, narrowed := true }
def FnExactCodeTextUptoSaid : Prop := fnExactCodeTextUptoRow.holds Try.pinned (OpenSpec.upto fnExactCodeTextSpec)

/-- 'laws.FnCosts', WHERE WHAT IT READS IS OF BULK AT MOST 1048576: true; the input reads as it did. -/
def fnCostsUptoRow : OpenClaim := { program := "ytimeeohggjagfaa", sum := "383a663c120e960c8557f82cd5118096f7ee8a2fe239694aef216a38c0ebb632", func := "loop.example/g00200/laws.FnCosts", spec := "fnCosts", apart := false, narrowed := true }
def FnCostsUptoSaid : Prop := fnCostsUptoRow.holds Try.pinned (OpenSpec.upto fnCostsSpec)

/-- 'laws.FnRateParts', WHERE WHAT IT READS IS OF BULK AT MOST 1048576: true; the input reads as it did. -/
def fnRatePartsUptoRow : OpenClaim := { program := "ytimeeohggjagfaa", sum := "383a663c120e960c8557f82cd5118096f7ee8a2fe239694aef216a38c0ebb632", func := "loop.example/g00200/laws.FnRateParts", spec := "fnRateParts", apart := false, narrowed := true }
def FnRatePartsUptoSaid : Prop := fnRatePartsUptoRow.holds Try.pinned (OpenSpec.upto fnRatePartsSpec)

/-- 'laws.FnTurned', WHERE WHAT IT READS IS OF BULK AT MOST 1048576: true; the input reads as it did. -/
def fnTurnedUptoRow : OpenClaim := { program := "ytimeeohggjagfaa", sum := "383a663c120e960c8557f82cd5118096f7ee8a2fe239694aef216a38c0ebb632", func := "loop.example/g00200/laws.FnTurned", spec := "fnTurned", apart := false, narrowed := true }
def FnTurnedUptoSaid : Prop := fnTurnedUptoRow.holds Try.pinned (OpenSpec.upto fnTurnedSpec)

/-- 'laws.FnProducts', WHERE WHAT IT READS IS OF BULK AT MOST 1048576: true; the input reads as it did. -/
def fnProductsUptoRow : OpenClaim := { program := "ytimeeohggjagfaa", sum := "383a663c120e960c8557f82cd5118096f7ee8a2fe239694aef216a38c0ebb632", func := "loop.example/g00200/laws.FnProducts", spec := "fnProducts", apart := false, narrowed := true }
def FnProductsUptoSaid : Prop := fnProductsUptoRow.holds Try.pinned (OpenSpec.upto fnProductsSpec)

/-- 'laws.FnExactCellsOf', WHERE WHAT IT READS IS OF BULK AT MOST 1048576: true; the input reads as it did. -/
def fnExactCellsOfUptoRow : OpenClaim := { program := "ytimeeohggjagfaa", sum := "383a663c120e960c8557f82cd5118096f7ee8a2fe239694aef216a38c0ebb632", func := "loop.example/g00200/laws.FnExactCellsOf", spec := "fnExactCellsOf", apart := false, narrowed := true }
def FnExactCellsOfUptoSaid : Prop := fnExactCellsOfUptoRow.holds Try.pinned (OpenSpec.upto fnExactCellsOfSpec)

/-- 'laws.FnExactClearCells', WHERE WHAT IT READS IS OF BULK AT MOST 1048576: true; the input reads as it did. -/
def fnExactClearCellsUptoRow : OpenClaim := { program := "ytimeeohggjagfaa", sum := "383a663c120e960c8557f82cd5118096f7ee8a2fe239694aef216a38c0ebb632", func := "loop.example/g00200/laws.FnExactClearCells", spec := "fnExactClearCells", apart := false, narrowed := true }
def FnExactClearCellsUptoSaid : Prop := fnExactClearCellsUptoRow.holds Try.pinned (OpenSpec.upto fnExactClearCellsSpec)

end Rows
end Go.Proofs.Ytimeeohggjagfaa
