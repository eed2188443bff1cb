/-
  No cell of these rows narrows 'for every input' (looked for: loops, veiled, ifaces, maps, wideKeys, modest, calm, conditions, laid).
  DERIVED. THE GIVEN ROWS OF THIS SEAT. 10 by the template 'for every input the law returns true; each argument reads behind the call as it read before'; 0 by the template 'total and deterministic' (their statements: YtdbogijlpplcgaaTotals.lean).
  GIVEN WITH THE SEED: the statements are not yours to turn. If you find one false, say at which input.
  Laid BY PROGRAM, IN A SANDBOX (cutbox-rows.mjs): the forced cells as the released guide's own fill.sh prints them over the translation 6906eec0bc03f70d… (all of the seat's roots in one cut). By AI agents, Wed Nov 11 2026. No macro, syntax, notation, axiom, sorry.
-/
import Derived.Test.YtdbogijlpplcgaaChecked
import GoSem.Claim
import GoSem.ClaimJoined
import GoSem.ClaimMapViews
import Derived.JoinedTies
import Derived.KernelRfl
namespace Go.Proofs.Ytdbogijlpplcgaa
/- THE CELL 'sum', in the pinned program and in every row, IS THE sha256 OF THE DUMP (.gsa) THAT YtdbogijlpplcgaaProg.lean LOADS. Nothing in Lean hashes anything: it is a label: what it is worth is what the hold of that sum in a sandbox is worth. -/
noncomputable def Try.pinned : Pinned := { name := "ytdbogijlpplcgaa", sum := "6906eec0bc03f70dcd325e7c339d670ee7b65b016bfd69486b94aa857ce43a24", checked := Try.checked }
namespace Rows
def none {H : Type} : Left H := { results := [], args := [] }

/-- 'laws.FnExactMulSat': WHATEVER THE INPUT: true; the input reads as it did. -/
def fnExactMulSatSpec : ChangeSpec := { name := "fnExactMulSat", fn := fun _ => fun
  | [d1, d2] => { results := [.lit (.bool true)], args := [d1, d2] }
  | _ => none }
def fnExactMulSatRow : OpenClaim := { program := "ytdbogijlpplcgaa", sum := "6906eec0bc03f70dcd325e7c339d670ee7b65b016bfd69486b94aa857ce43a24", func := "loop.example/g00200/laws.FnExactMulSat", spec := "fnExactMulSat", apart := false }
def FnExactMulSatSaid : Prop := fnExactMulSatRow.holds Try.pinned (OpenSpec.ofChange fnExactMulSatSpec)

/-- ITS FALSE NEIGHBOUR: 'it returns false'. Refute it at one input. -/
def fnExactMulSatWrong : ChangeSpec := { name := "fnExactMulSat", fn := fun _ => fun
  | [d1, d2] => { results := [.lit (.bool false)], args := [d1, d2] }
  | _ => none }
def FnExactMulSatWrongFalsely : Prop := fnExactMulSatRow.holds Try.pinned (OpenSpec.ofChange fnExactMulSatWrong)

/-- 'laws.FnExactUnhex': WHATEVER THE INPUT: true; the input reads as it did. -/
def fnExactUnhexSpec : ChangeSpec := { name := "fnExactUnhex", fn := fun _ => fun
  | [d] => { results := [.lit (.bool true)], args := [d] }
  | _ => none }
def fnExactUnhexRow : OpenClaim := { program := "ytdbogijlpplcgaa", sum := "6906eec0bc03f70dcd325e7c339d670ee7b65b016bfd69486b94aa857ce43a24", func := "loop.example/g00200/laws.FnExactUnhex", spec := "fnExactUnhex", inPlace := ["internal/bytealg.IndexByteString"], apart := false }
def FnExactUnhexSaid : Prop := fnExactUnhexRow.holds Try.pinned (OpenSpec.ofChange fnExactUnhexSpec)

/-- ITS FALSE NEIGHBOUR: 'it returns false'. Refute it at one input. -/
def fnExactUnhexWrong : ChangeSpec := { name := "fnExactUnhex", fn := fun _ => fun
  | [d] => { results := [.lit (.bool false)], args := [d] }
  | _ => none }
def FnExactUnhexWrongFalsely : Prop := fnExactUnhexRow.holds Try.pinned (OpenSpec.ofChange fnExactUnhexWrong)

/-- 'laws.FnExactReadVar': WHATEVER THE INPUT: true; the input reads as it did. -/
def fnExactReadVarSpec : ChangeSpec := { name := "fnExactReadVar", fn := fun _ => fun
  | [d1, d2] => { results := [.lit (.bool true)], args := [d1, d2] }
  | _ => none }
def fnExactReadVarRow : OpenClaim := { program := "ytdbogijlpplcgaa", sum := "6906eec0bc03f70dcd325e7c339d670ee7b65b016bfd69486b94aa857ce43a24", func := "loop.example/g00200/laws.FnExactReadVar", spec := "fnExactReadVar", apart := false }
def FnExactReadVarSaid : Prop := fnExactReadVarRow.holds Try.pinned (OpenSpec.ofChange fnExactReadVarSpec)

/-- ITS FALSE NEIGHBOUR: 'it returns false'. Refute it at one input. -/
def fnExactReadVarWrong : ChangeSpec := { name := "fnExactReadVar", fn := fun _ => fun
  | [d1, d2] => { results := [.lit (.bool false)], args := [d1, d2] }
  | _ => none }
def FnExactReadVarWrongFalsely : Prop := fnExactReadVarRow.holds Try.pinned (OpenSpec.ofChange fnExactReadVarWrong)

/-- 'laws.FnExactArenaNew': WHATEVER THE INPUT: true; the input reads as it did. -/
def fnExactArenaNewSpec : ChangeSpec := { name := "fnExactArenaNew", fn := fun _ => fun
  | [] => { results := [.lit (.bool true)], args := [] }
  | _ => none }
def fnExactArenaNewRow : OpenClaim := { program := "ytdbogijlpplcgaa", sum := "6906eec0bc03f70dcd325e7c339d670ee7b65b016bfd69486b94aa857ce43a24", func := "loop.example/g00200/laws.FnExactArenaNew", spec := "fnExactArenaNew", apart := false }
def FnExactArenaNewSaid : Prop := fnExactArenaNewRow.holds Try.pinned (OpenSpec.ofChange fnExactArenaNewSpec)

/-- ITS FALSE NEIGHBOUR: 'it returns false'. Refute it at one input. -/
def fnExactArenaNewWrong : ChangeSpec := { name := "fnExactArenaNew", fn := fun _ => fun
  | [] => { results := [.lit (.bool false)], args := [] }
  | _ => none }
def FnExactArenaNewWrongFalsely : Prop := fnExactArenaNewRow.holds Try.pinned (OpenSpec.ofChange fnExactArenaNewWrong)

/-- 'laws.FnExactSealed': WHATEVER THE INPUT: true; the input reads as it did. -/
def fnExactSealedSpec : ChangeSpec := { name := "fnExactSealed", fn := fun _ => fun
  | [d] => { results := [.lit (.bool true)], args := [d] }
  | _ => none }
def fnExactSealedRow : OpenClaim := { program := "ytdbogijlpplcgaa", sum := "6906eec0bc03f70dcd325e7c339d670ee7b65b016bfd69486b94aa857ce43a24", func := "loop.example/g00200/laws.FnExactSealed", spec := "fnExactSealed", apart := false }
def FnExactSealedSaid : Prop := fnExactSealedRow.holds Try.pinned (OpenSpec.ofChange fnExactSealedSpec)

/-- ITS FALSE NEIGHBOUR: 'it returns false'. Refute it at one input. -/
def fnExactSealedWrong : ChangeSpec := { name := "fnExactSealed", fn := fun _ => fun
  | [d] => { results := [.lit (.bool false)], args := [d] }
  | _ => none }
def FnExactSealedWrongFalsely : Prop := fnExactSealedRow.holds Try.pinned (OpenSpec.ofChange fnExactSealedWrong)

/-- 'laws.FnExactCodeOk': WHATEVER THE INPUT: true; the input reads as it did. -/
def fnExactCodeOkSpec : ChangeSpec := { name := "fnExactCodeOk", fn := fun _ => fun
  | [d] => { results := [.lit (.bool true)], args := [d] }
  | _ => none }
def fnExactCodeOkRow : OpenClaim := { program := "ytdbogijlpplcgaa", sum := "6906eec0bc03f70dcd325e7c339d670ee7b65b016bfd69486b94aa857ce43a24", func := "loop.example/g00200/laws.FnExactCodeOk", spec := "fnExactCodeOk", apart := false }
def FnExactCodeOkSaid : Prop := fnExactCodeOkRow.holds Try.pinned (OpenSpec.ofChange fnExactCodeOkSpec)

/-- ITS FALSE NEIGHBOUR: 'it returns false'. Refute it at one input. -/
def fnExactCodeOkWrong : ChangeSpec := { name := "fnExactCodeOk", fn := fun _ => fun
  | [d] => { results := [.lit (.bool false)], args := [d] }
  | _ => none }
def FnExactCodeOkWrongFalsely : Prop := fnExactCodeOkRow.holds Try.pinned (OpenSpec.ofChange fnExactCodeOkWrong)

/-- 'laws.FnRates': WHATEVER THE INPUT: true; the input reads as it did. -/
def fnRatesSpec : ChangeSpec := { name := "fnRates", fn := fun _ => fun
  | [d] => { results := [.lit (.bool true)], args := [d] }
  | _ => none }
def fnRatesRow : OpenClaim := { program := "ytdbogijlpplcgaa", sum := "6906eec0bc03f70dcd325e7c339d670ee7b65b016bfd69486b94aa857ce43a24", func := "loop.example/g00200/laws.FnRates", spec := "fnRates", apart := false }
def FnRatesSaid : Prop := fnRatesRow.holds Try.pinned (OpenSpec.ofChange fnRatesSpec)

/-- ITS FALSE NEIGHBOUR: 'it returns false'. Refute it at one input. -/
def fnRatesWrong : ChangeSpec := { name := "fnRates", fn := fun _ => fun
  | [d] => { results := [.lit (.bool false)], args := [d] }
  | _ => none }
def FnRatesWrongFalsely : Prop := fnRatesRow.holds Try.pinned (OpenSpec.ofChange fnRatesWrong)

/-- 'laws.FnExactReadShort': WHATEVER THE INPUT: true; the input reads as it did. -/
def fnExactReadShortSpec : ChangeSpec := { name := "fnExactReadShort", fn := fun _ => fun
  | [d1, d2] => { results := [.lit (.bool true)], args := [d1, d2] }
  | _ => none }
def fnExactReadShortRow : OpenClaim := { program := "ytdbogijlpplcgaa", sum := "6906eec0bc03f70dcd325e7c339d670ee7b65b016bfd69486b94aa857ce43a24", func := "loop.example/g00200/laws.FnExactReadShort", spec := "fnExactReadShort", apart := false }
def FnExactReadShortSaid : Prop := fnExactReadShortRow.holds Try.pinned (OpenSpec.ofChange fnExactReadShortSpec)

/-- ITS FALSE NEIGHBOUR: 'it returns false'. Refute it at one input. -/
def fnExactReadShortWrong : ChangeSpec := { name := "fnExactReadShort", fn := fun _ => fun
  | [d1, d2] => { results := [.lit (.bool false)], args := [d1, d2] }
  | _ => none }
def FnExactReadShortWrongFalsely : Prop := fnExactReadShortRow.holds Try.pinned (OpenSpec.ofChange fnExactReadShortWrong)

/-- 'laws.FnExactRunRate': WHATEVER THE INPUT: true; the input reads as it did. -/
def fnExactRunRateSpec : ChangeSpec := { name := "fnExactRunRate", fn := fun _ => fun
  | [d1, d2] => { results := [.lit (.bool true)], args := [d1, d2] }
  | _ => none }
def fnExactRunRateRow : OpenClaim := { program := "ytdbogijlpplcgaa", sum := "6906eec0bc03f70dcd325e7c339d670ee7b65b016bfd69486b94aa857ce43a24", func := "loop.example/g00200/laws.FnExactRunRate", spec := "fnExactRunRate", apart := false }
def FnExactRunRateSaid : Prop := fnExactRunRateRow.holds Try.pinned (OpenSpec.ofChange fnExactRunRateSpec)

/-- ITS FALSE NEIGHBOUR: 'it returns false'. Refute it at one input. -/
def fnExactRunRateWrong : ChangeSpec := { name := "fnExactRunRate", fn := fun _ => fun
  | [d1, d2] => { results := [.lit (.bool false)], args := [d1, d2] }
  | _ => none }
def FnExactRunRateWrongFalsely : Prop := fnExactRunRateRow.holds Try.pinned (OpenSpec.ofChange fnExactRunRateWrong)

/-- 'laws.FnExactReadCode': WHATEVER THE INPUT: true; the input reads as it did. -/
def fnExactReadCodeSpec : ChangeSpec := { name := "fnExactReadCode", fn := fun _ => fun
  | [d] => { results := [.lit (.bool true)], args := [d] }
  | _ => none }
def fnExactReadCodeRow : OpenClaim := { program := "ytdbogijlpplcgaa", sum := "6906eec0bc03f70dcd325e7c339d670ee7b65b016bfd69486b94aa857ce43a24", func := "loop.example/g00200/laws.FnExactReadCode", spec := "fnExactReadCode", apart := false }
def FnExactReadCodeSaid : Prop := fnExactReadCodeRow.holds Try.pinned (OpenSpec.ofChange fnExactReadCodeSpec)

/-- ITS FALSE NEIGHBOUR: 'it returns false'. Refute it at one input. -/
def fnExactReadCodeWrong : ChangeSpec := { name := "fnExactReadCode", fn := fun _ => fun
  | [d] => { results := [.lit (.bool false)], args := [d] }
  | _ => none }
def FnExactReadCodeWrongFalsely : Prop := fnExactReadCodeRow.holds Try.pinned (OpenSpec.ofChange fnExactReadCodeWrong)

/- THE SECOND FORM. 'bulk': how many values and letters a reading holds, each counted each time it is reached (what is shared counts as often as it is met; a slice's spare places count too). A statement '..UptoSaid' is the law's where the arguments, and the package variables that the reading takes, are together of bulk at most 1048576: NARROWER than '..Said'. Prove '..Said' where nothing that the law and all that it calls make is longer than what came in: it says more and counts as full. Else prove '..UptoSaid'. A law counts once. -/
mutual
def uptoBulk {H : Type} : DataW H → Nat
  | .lit (.string bytes) => bytes.length + 1
  | .lit _ => 1
  | .nil => 1
  | .ptr d => uptoBulk d + 1
  | .slice elems spare => uptoBulkAll elems + uptoBulkAll spare + 1
  | .agg parts => uptoBulkAll parts + 1
  | .iface _ d => uptoBulk d + 1
  | .map entries => uptoBulkEntries entries + 1
  | .held _ => 1
def uptoBulkAll {H : Type} : List (DataW H) → Nat
  | [] => 0
  | d :: r => uptoBulk d + uptoBulkAll r
def uptoBulkEntries {H : Type} : List (Lit × DataW H) → Nat
  | [] => 0
  | x :: r => uptoBulkEntry x + uptoBulkEntries r
def uptoBulkEntry {H : Type} : Lit × DataW H → Nat
  | (.string bytes, d) => bytes.length + uptoBulk d + 1
  | (_, d) => uptoBulk d + 1
 end
def uptoSmall : (H : Type) → List (DataW H) → Bool := fun _ ds => decide (uptoBulkAll ds ≤ 1048576)
def OpenSpec.upto (s : _root_.Go.ChangeSpec) : _root_.Go.OpenSpec := { _root_.Go.OpenSpec.ofChange s with cond := some uptoSmall }

/-- 'laws.FnExactMulSat', WHERE WHAT IT READS IS OF BULK AT MOST 1048576: true; the input reads as it did. -/
def fnExactMulSatUptoRow : OpenClaim := { program := "ytdbogijlpplcgaa", sum := "6906eec0bc03f70dcd325e7c339d670ee7b65b016bfd69486b94aa857ce43a24", func := "loop.example/g00200/laws.FnExactMulSat", spec := "fnExactMulSat", apart := false, narrowed := true }
def FnExactMulSatUptoSaid : Prop := fnExactMulSatUptoRow.holds Try.pinned (OpenSpec.upto fnExactMulSatSpec)

/-- 'laws.FnExactUnhex', WHERE WHAT IT READS IS OF BULK AT MOST 1048576: true; the input reads as it did. -/
def fnExactUnhexUptoRow : OpenClaim := { program := "ytdbogijlpplcgaa", sum := "6906eec0bc03f70dcd325e7c339d670ee7b65b016bfd69486b94aa857ce43a24", func := "loop.example/g00200/laws.FnExactUnhex", spec := "fnExactUnhex", inPlace := ["internal/bytealg.IndexByteString"], apart := false, narrowed := true }
def FnExactUnhexUptoSaid : Prop := fnExactUnhexUptoRow.holds Try.pinned (OpenSpec.upto fnExactUnhexSpec)

/-- 'laws.FnExactReadVar', WHERE WHAT IT READS IS OF BULK AT MOST 1048576: true; the input reads as it did. -/
def fnExactReadVarUptoRow : OpenClaim := { program := "ytdbogijlpplcgaa", sum := "6906eec0bc03f70dcd325e7c339d670ee7b65b016bfd69486b94aa857ce43a24", func := "loop.example/g00200/laws.FnExactReadVar", spec := "fnExactReadVar", apart := false, narrowed := true }
def FnExactReadVarUptoSaid : Prop := fnExactReadVarUptoRow.holds Try.pinned (OpenSpec.upto fnExactReadVarSpec)

/-- 'laws.FnExactArenaNew', WHERE WHAT IT READS IS OF BULK AT MOST 1048576: true; the input reads as it did. -/
def fnExactArenaNewUptoRow : OpenClaim := { program := "ytdbogijlpplcgaa", sum := "6906eec0bc03f70dcd325e7c339d670ee7b65b016bfd69486b94aa857ce43a24", func := "loop.example/g00200/laws.FnExactArenaNew", spec := "fnExactArenaNew", apart := false, narrowed := true }
def FnExactArenaNewUptoSaid : Prop := fnExactArenaNewUptoRow.holds Try.pinned (OpenSpec.upto fnExactArenaNewSpec)

/-- 'laws.FnExactSealed', WHERE WHAT IT READS IS OF BULK AT MOST 1048576: true; the input reads as it did. -/
def fnExactSealedUptoRow : OpenClaim := { program := "ytdbogijlpplcgaa", sum := "6906eec0bc03f70dcd325e7c339d670ee7b65b016bfd69486b94aa857ce43a24", func := "loop.example/g00200/laws.FnExactSealed", spec := "fnExactSealed", apart := false, narrowed := true }
def FnExactSealedUptoSaid : Prop := fnExactSealedUptoRow.holds Try.pinned (OpenSpec.upto fnExactSealedSpec)

/-- 'laws.FnExactCodeOk', WHERE WHAT IT READS IS OF BULK AT MOST 1048576: true; the input reads as it did. -/
def fnExactCodeOkUptoRow : OpenClaim := { program := "ytdbogijlpplcgaa", sum := "6906eec0bc03f70dcd325e7c339d670ee7b65b016bfd69486b94aa857ce43a24", func := "loop.example/g00200/laws.FnExactCodeOk", spec := "fnExactCodeOk", apart := false, narrowed := true }
def FnExactCodeOkUptoSaid : Prop := fnExactCodeOkUptoRow.holds Try.pinned (OpenSpec.upto fnExactCodeOkSpec)

/-- 'laws.FnRates', WHERE WHAT IT READS IS OF BULK AT MOST 1048576: true; the input reads as it did. -/
def fnRatesUptoRow : OpenClaim := { program := "ytdbogijlpplcgaa", sum := "6906eec0bc03f70dcd325e7c339d670ee7b65b016bfd69486b94aa857ce43a24", func := "loop.example/g00200/laws.FnRates", spec := "fnRates", apart := false, narrowed := true }
def FnRatesUptoSaid : Prop := fnRatesUptoRow.holds Try.pinned (OpenSpec.upto fnRatesSpec)

/-- 'laws.FnExactReadShort', WHERE WHAT IT READS IS OF BULK AT MOST 1048576: true; the input reads as it did. -/
def fnExactReadShortUptoRow : OpenClaim := { program := "ytdbogijlpplcgaa", sum := "6906eec0bc03f70dcd325e7c339d670ee7b65b016bfd69486b94aa857ce43a24", func := "loop.example/g00200/laws.FnExactReadShort", spec := "fnExactReadShort", apart := false, narrowed := true }
def FnExactReadShortUptoSaid : Prop := fnExactReadShortUptoRow.holds Try.pinned (OpenSpec.upto fnExactReadShortSpec)

/-- 'laws.FnExactRunRate', WHERE WHAT IT READS IS OF BULK AT MOST 1048576: true; the input reads as it did. -/
def fnExactRunRateUptoRow : OpenClaim := { program := "ytdbogijlpplcgaa", sum := "6906eec0bc03f70dcd325e7c339d670ee7b65b016bfd69486b94aa857ce43a24", func := "loop.example/g00200/laws.FnExactRunRate", spec := "fnExactRunRate", apart := false, narrowed := true }
def FnExactRunRateUptoSaid : Prop := fnExactRunRateUptoRow.holds Try.pinned (OpenSpec.upto fnExactRunRateSpec)

/-- 'laws.FnExactReadCode', WHERE WHAT IT READS IS OF BULK AT MOST 1048576: true; the input reads as it did. -/
def fnExactReadCodeUptoRow : OpenClaim := { program := "ytdbogijlpplcgaa", sum := "6906eec0bc03f70dcd325e7c339d670ee7b65b016bfd69486b94aa857ce43a24", func := "loop.example/g00200/laws.FnExactReadCode", spec := "fnExactReadCode", apart := false, narrowed := true }
def FnExactReadCodeUptoSaid : Prop := fnExactReadCodeUptoRow.holds Try.pinned (OpenSpec.upto fnExactReadCodeSpec)

end Rows
end Go.Proofs.Ytdbogijlpplcgaa
