/-
  No cell of these rows narrows 'for every input' (looked for: loops, veiled, ifaces, maps, wideKeys, modest, calm, conditions, laid).
  DERIVED. THE GIVEN ROWS OF THIS SEAT. 11 by the template 'for every input the law returns true; each argument reads behind the call as it read before'; 0 by the template 'total and deterministic' (their statements: YtpinfnpnfebpoaaTotals.lean).
  GIVEN WITH THE SEED: the statements are not yours to turn. If you find one false, say at which input.
  Laid BY PROGRAM, IN A SANDBOX (cutbox-rows.mjs): the forced cells as the released guide's own fill.sh prints them over the translation 69d26372d0949fff… (all of the seat's roots in one cut). By AI agents, Wed Nov 11 2026. No macro, syntax, notation, axiom, sorry.
-/
import Derived.Test.YtpinfnpnfebpoaaChecked
import GoSem.Claim
import GoSem.ClaimJoined
import GoSem.ClaimMapViews
import Derived.JoinedTies
import Derived.KernelRfl
namespace Go.Proofs.Ytpinfnpnfebpoaa
/- THE CELL 'sum', in the pinned program and in every row, IS THE sha256 OF THE DUMP (.gsa) THAT YtpinfnpnfebpoaaProg.lean LOADS. Nothing in Lean hashes anything: it is a label: what it is worth is what the hold of that sum in a sandbox is worth. -/
noncomputable def Try.pinned : Pinned := { name := "ytpinfnpnfebpoaa", sum := "69d26372d0949fff387cc97529c4a75cb38196c1d0c1f2cc7fc88b90470fdb1e", checked := Try.checked }
namespace Rows
def none {H : Type} : Left H := { results := [], args := [] }

/-- 'laws.FnExactConstants': WHATEVER THE INPUT: true; the input reads as it did. -/
def fnExactConstantsSpec : ChangeSpec := { name := "fnExactConstants", fn := fun _ => fun
  | [] => { results := [.lit (.bool true)], args := [] }
  | _ => none }
def fnExactConstantsRow : OpenClaim := { program := "ytpinfnpnfebpoaa", sum := "69d26372d0949fff387cc97529c4a75cb38196c1d0c1f2cc7fc88b90470fdb1e", func := "loop.example/g00910/laws.FnExactConstants", spec := "fnExactConstants", apart := false }
def FnExactConstantsSaid : Prop := fnExactConstantsRow.holds Try.pinned (OpenSpec.ofChange fnExactConstantsSpec)

/-- ITS FALSE NEIGHBOUR: 'it returns false'. Refute it at one input. -/
def fnExactConstantsWrong : ChangeSpec := { name := "fnExactConstants", fn := fun _ => fun
  | [] => { results := [.lit (.bool false)], args := [] }
  | _ => none }
def FnExactConstantsWrongFalsely : Prop := fnExactConstantsRow.holds Try.pinned (OpenSpec.ofChange fnExactConstantsWrong)

/-- 'laws.FnExactGreatestDivisor': WHATEVER THE INPUT: true; the input reads as it did. -/
def fnExactGreatestDivisorSpec : ChangeSpec := { name := "fnExactGreatestDivisor", fn := fun _ => fun
  | [d1, d2] => { results := [.lit (.bool true)], args := [d1, d2] }
  | _ => none }
def fnExactGreatestDivisorRow : OpenClaim := { program := "ytpinfnpnfebpoaa", sum := "69d26372d0949fff387cc97529c4a75cb38196c1d0c1f2cc7fc88b90470fdb1e", func := "loop.example/g00910/laws.FnExactGreatestDivisor", spec := "fnExactGreatestDivisor", recurses := true, apart := false }
def FnExactGreatestDivisorSaid : Prop := fnExactGreatestDivisorRow.holds Try.pinned (OpenSpec.ofChange fnExactGreatestDivisorSpec)

/-- ITS FALSE NEIGHBOUR: 'it returns false'. Refute it at one input. -/
def fnExactGreatestDivisorWrong : ChangeSpec := { name := "fnExactGreatestDivisor", fn := fun _ => fun
  | [d1, d2] => { results := [.lit (.bool false)], args := [d1, d2] }
  | _ => none }
def FnExactGreatestDivisorWrongFalsely : Prop := fnExactGreatestDivisorRow.holds Try.pinned (OpenSpec.ofChange fnExactGreatestDivisorWrong)

/-- 'laws.FnExactIsRatio': WHATEVER THE INPUT: true; the input reads as it did. -/
def fnExactIsRatioSpec : ChangeSpec := { name := "fnExactIsRatio", fn := fun _ => fun
  | [d] => { results := [.lit (.bool true)], args := [d] }
  | _ => none }
def fnExactIsRatioRow : OpenClaim := { program := "ytpinfnpnfebpoaa", sum := "69d26372d0949fff387cc97529c4a75cb38196c1d0c1f2cc7fc88b90470fdb1e", func := "loop.example/g00910/laws.FnExactIsRatio", spec := "fnExactIsRatio", recurses := true, apart := false }
def FnExactIsRatioSaid : Prop := fnExactIsRatioRow.holds Try.pinned (OpenSpec.ofChange fnExactIsRatioSpec)

/-- ITS FALSE NEIGHBOUR: 'it returns false'. Refute it at one input. -/
def fnExactIsRatioWrong : ChangeSpec := { name := "fnExactIsRatio", fn := fun _ => fun
  | [d] => { results := [.lit (.bool false)], args := [d] }
  | _ => none }
def FnExactIsRatioWrongFalsely : Prop := fnExactIsRatioRow.holds Try.pinned (OpenSpec.ofChange fnExactIsRatioWrong)

/-- 'laws.FnExactMakeRatio': WHATEVER THE INPUT: true; the input reads as it did. -/
def fnExactMakeRatioSpec : ChangeSpec := { name := "fnExactMakeRatio", fn := fun _ => fun
  | [d1, d2] => { results := [.lit (.bool true)], args := [d1, d2] }
  | _ => none }
def fnExactMakeRatioRow : OpenClaim := { program := "ytpinfnpnfebpoaa", sum := "69d26372d0949fff387cc97529c4a75cb38196c1d0c1f2cc7fc88b90470fdb1e", func := "loop.example/g00910/laws.FnExactMakeRatio", spec := "fnExactMakeRatio", recurses := true, apart := false }
def FnExactMakeRatioSaid : Prop := fnExactMakeRatioRow.holds Try.pinned (OpenSpec.ofChange fnExactMakeRatioSpec)

/-- ITS FALSE NEIGHBOUR: 'it returns false'. Refute it at one input. -/
def fnExactMakeRatioWrong : ChangeSpec := { name := "fnExactMakeRatio", fn := fun _ => fun
  | [d1, d2] => { results := [.lit (.bool false)], args := [d1, d2] }
  | _ => none }
def FnExactMakeRatioWrongFalsely : Prop := fnExactMakeRatioRow.holds Try.pinned (OpenSpec.ofChange fnExactMakeRatioWrong)

/-- 'laws.FnExactAddRatios': WHATEVER THE INPUT: true; the input reads as it did. -/
def fnExactAddRatiosSpec : ChangeSpec := { name := "fnExactAddRatios", fn := fun _ => fun
  | [d1, d2] => { results := [.lit (.bool true)], args := [d1, d2] }
  | _ => none }
def fnExactAddRatiosRow : OpenClaim := { program := "ytpinfnpnfebpoaa", sum := "69d26372d0949fff387cc97529c4a75cb38196c1d0c1f2cc7fc88b90470fdb1e", func := "loop.example/g00910/laws.FnExactAddRatios", spec := "fnExactAddRatios", recurses := true, apart := false }
def FnExactAddRatiosSaid : Prop := fnExactAddRatiosRow.holds Try.pinned (OpenSpec.ofChange fnExactAddRatiosSpec)

/-- ITS FALSE NEIGHBOUR: 'it returns false'. Refute it at one input. -/
def fnExactAddRatiosWrong : ChangeSpec := { name := "fnExactAddRatios", fn := fun _ => fun
  | [d1, d2] => { results := [.lit (.bool false)], args := [d1, d2] }
  | _ => none }
def FnExactAddRatiosWrongFalsely : Prop := fnExactAddRatiosRow.holds Try.pinned (OpenSpec.ofChange fnExactAddRatiosWrong)

/-- 'laws.FnExactMultiplyRatios': WHATEVER THE INPUT: true; the input reads as it did. -/
def fnExactMultiplyRatiosSpec : ChangeSpec := { name := "fnExactMultiplyRatios", fn := fun _ => fun
  | [d1, d2] => { results := [.lit (.bool true)], args := [d1, d2] }
  | _ => none }
def fnExactMultiplyRatiosRow : OpenClaim := { program := "ytpinfnpnfebpoaa", sum := "69d26372d0949fff387cc97529c4a75cb38196c1d0c1f2cc7fc88b90470fdb1e", func := "loop.example/g00910/laws.FnExactMultiplyRatios", spec := "fnExactMultiplyRatios", recurses := true, apart := false }
def FnExactMultiplyRatiosSaid : Prop := fnExactMultiplyRatiosRow.holds Try.pinned (OpenSpec.ofChange fnExactMultiplyRatiosSpec)

/-- ITS FALSE NEIGHBOUR: 'it returns false'. Refute it at one input. -/
def fnExactMultiplyRatiosWrong : ChangeSpec := { name := "fnExactMultiplyRatios", fn := fun _ => fun
  | [d1, d2] => { results := [.lit (.bool false)], args := [d1, d2] }
  | _ => none }
def FnExactMultiplyRatiosWrongFalsely : Prop := fnExactMultiplyRatiosRow.holds Try.pinned (OpenSpec.ofChange fnExactMultiplyRatiosWrong)

/-- 'laws.FnExactSubtractRatios': WHATEVER THE INPUT: true; the input reads as it did. -/
def fnExactSubtractRatiosSpec : ChangeSpec := { name := "fnExactSubtractRatios", fn := fun _ => fun
  | [d1, d2] => { results := [.lit (.bool true)], args := [d1, d2] }
  | _ => none }
def fnExactSubtractRatiosRow : OpenClaim := { program := "ytpinfnpnfebpoaa", sum := "69d26372d0949fff387cc97529c4a75cb38196c1d0c1f2cc7fc88b90470fdb1e", func := "loop.example/g00910/laws.FnExactSubtractRatios", spec := "fnExactSubtractRatios", recurses := true, apart := false }
def FnExactSubtractRatiosSaid : Prop := fnExactSubtractRatiosRow.holds Try.pinned (OpenSpec.ofChange fnExactSubtractRatiosSpec)

/-- ITS FALSE NEIGHBOUR: 'it returns false'. Refute it at one input. -/
def fnExactSubtractRatiosWrong : ChangeSpec := { name := "fnExactSubtractRatios", fn := fun _ => fun
  | [d1, d2] => { results := [.lit (.bool false)], args := [d1, d2] }
  | _ => none }
def FnExactSubtractRatiosWrongFalsely : Prop := fnExactSubtractRatiosRow.holds Try.pinned (OpenSpec.ofChange fnExactSubtractRatiosWrong)

/-- 'laws.FnExactCompareRatios': WHATEVER THE INPUT: true; the input reads as it did. -/
def fnExactCompareRatiosSpec : ChangeSpec := { name := "fnExactCompareRatios", fn := fun _ => fun
  | [d1, d2] => { results := [.lit (.bool true)], args := [d1, d2] }
  | _ => none }
def fnExactCompareRatiosRow : OpenClaim := { program := "ytpinfnpnfebpoaa", sum := "69d26372d0949fff387cc97529c4a75cb38196c1d0c1f2cc7fc88b90470fdb1e", func := "loop.example/g00910/laws.FnExactCompareRatios", spec := "fnExactCompareRatios", recurses := true, apart := false }
def FnExactCompareRatiosSaid : Prop := fnExactCompareRatiosRow.holds Try.pinned (OpenSpec.ofChange fnExactCompareRatiosSpec)

/-- ITS FALSE NEIGHBOUR: 'it returns false'. Refute it at one input. -/
def fnExactCompareRatiosWrong : ChangeSpec := { name := "fnExactCompareRatios", fn := fun _ => fun
  | [d1, d2] => { results := [.lit (.bool false)], args := [d1, d2] }
  | _ => none }
def FnExactCompareRatiosWrongFalsely : Prop := fnExactCompareRatiosRow.holds Try.pinned (OpenSpec.ofChange fnExactCompareRatiosWrong)

/-- 'laws.FnExactDivideRatios': WHATEVER THE INPUT: true; the input reads as it did. -/
def fnExactDivideRatiosSpec : ChangeSpec := { name := "fnExactDivideRatios", fn := fun _ => fun
  | [d1, d2] => { results := [.lit (.bool true)], args := [d1, d2] }
  | _ => none }
def fnExactDivideRatiosRow : OpenClaim := { program := "ytpinfnpnfebpoaa", sum := "69d26372d0949fff387cc97529c4a75cb38196c1d0c1f2cc7fc88b90470fdb1e", func := "loop.example/g00910/laws.FnExactDivideRatios", spec := "fnExactDivideRatios", recurses := true, apart := false }
def FnExactDivideRatiosSaid : Prop := fnExactDivideRatiosRow.holds Try.pinned (OpenSpec.ofChange fnExactDivideRatiosSpec)

/-- ITS FALSE NEIGHBOUR: 'it returns false'. Refute it at one input. -/
def fnExactDivideRatiosWrong : ChangeSpec := { name := "fnExactDivideRatios", fn := fun _ => fun
  | [d1, d2] => { results := [.lit (.bool false)], args := [d1, d2] }
  | _ => none }
def FnExactDivideRatiosWrongFalsely : Prop := fnExactDivideRatiosRow.holds Try.pinned (OpenSpec.ofChange fnExactDivideRatiosWrong)

/-- 'laws.FnSums': WHATEVER THE INPUT: true; the input reads as it did. -/
def fnSumsSpec : ChangeSpec := { name := "fnSums", fn := fun _ => fun
  | [d] => { results := [.lit (.bool true)], args := [d] }
  | _ => none }
def fnSumsRow : OpenClaim := { program := "ytpinfnpnfebpoaa", sum := "69d26372d0949fff387cc97529c4a75cb38196c1d0c1f2cc7fc88b90470fdb1e", func := "loop.example/g00910/laws.FnSums", spec := "fnSums", recurses := true, apart := false }
def FnSumsSaid : Prop := fnSumsRow.holds Try.pinned (OpenSpec.ofChange fnSumsSpec)

/-- ITS FALSE NEIGHBOUR: 'it returns false'. Refute it at one input. -/
def fnSumsWrong : ChangeSpec := { name := "fnSums", fn := fun _ => fun
  | [d] => { results := [.lit (.bool false)], args := [d] }
  | _ => none }
def FnSumsWrongFalsely : Prop := fnSumsRow.holds Try.pinned (OpenSpec.ofChange fnSumsWrong)

/-- 'laws.FnProducts': WHATEVER THE INPUT: true; the input reads as it did. -/
def fnProductsSpec : ChangeSpec := { name := "fnProducts", fn := fun _ => fun
  | [d] => { results := [.lit (.bool true)], args := [d] }
  | _ => none }
def fnProductsRow : OpenClaim := { program := "ytpinfnpnfebpoaa", sum := "69d26372d0949fff387cc97529c4a75cb38196c1d0c1f2cc7fc88b90470fdb1e", func := "loop.example/g00910/laws.FnProducts", spec := "fnProducts", recurses := true, apart := false }
def FnProductsSaid : Prop := fnProductsRow.holds Try.pinned (OpenSpec.ofChange fnProductsSpec)

/-- ITS FALSE NEIGHBOUR: 'it returns false'. Refute it at one input. -/
def fnProductsWrong : ChangeSpec := { name := "fnProducts", fn := fun _ => fun
  | [d] => { results := [.lit (.bool false)], args := [d] }
  | _ => none }
def FnProductsWrongFalsely : Prop := fnProductsRow.holds Try.pinned (OpenSpec.ofChange fnProductsWrong)

/- THE SECOND FORM. 'bulk': how many values and letters a reading holds, each counted each time it is reached (what is shared counts as often as it is met; a slice's spare places count too). A statement '..UptoSaid' is the law's where the arguments, and the package variables that the reading takes, are together of bulk at most 1048576: NARROWER than '..Said'. Prove '..Said' where nothing that the law and all that it calls make is longer than what came in: it says more and counts as full. Else prove '..UptoSaid'. A law counts once. -/
mutual
def uptoBulk {H : Type} : DataW H → Nat
  | .lit (.string bytes) => bytes.length + 1
  | .lit _ => 1
  | .nil => 1
  | .ptr d => uptoBulk d + 1
  | .slice elems spare => uptoBulkAll elems + uptoBulkAll spare + 1
  | .agg parts => uptoBulkAll parts + 1
  | .iface _ d => uptoBulk d + 1
  | .map entries => uptoBulkEntries entries + 1
  | .held _ => 1
def uptoBulkAll {H : Type} : List (DataW H) → Nat
  | [] => 0
  | d :: r => uptoBulk d + uptoBulkAll r
def uptoBulkEntries {H : Type} : List (Lit × DataW H) → Nat
  | [] => 0
  | x :: r => uptoBulkEntry x + uptoBulkEntries r
def uptoBulkEntry {H : Type} : Lit × DataW H → Nat
  | (.string bytes, d) => bytes.length + uptoBulk d + 1
  | (_, d) => uptoBulk d + 1
 end
def uptoSmall : (H : Type) → List (DataW H) → Bool := fun _ ds => decide (uptoBulkAll ds ≤ 1048576)
def OpenSpec.upto (s : _root_.Go.ChangeSpec) : _root_.Go.OpenSpec := { _root_.Go.OpenSpec.ofChange s with cond := some uptoSmall }

/-- 'laws.FnExactConstants', WHERE WHAT IT READS IS OF BULK AT MOST 1048576: true; the input reads as it did. -/
def fnExactConstantsUptoRow : OpenClaim := { program := "ytpinfnpnfebpoaa", sum := "69d26372d0949fff387cc97529c4a75cb38196c1d0c1f2cc7fc88b90470fdb1e", func := "loop.example/g00910/laws.FnExactConstants", spec := "fnExactConstants", apart := false, narrowed := true }
def FnExactConstantsUptoSaid : Prop := fnExactConstantsUptoRow.holds Try.pinned (OpenSpec.upto fnExactConstantsSpec)

/-- 'laws.FnExactGreatestDivisor', WHERE WHAT IT READS IS OF BULK AT MOST 1048576: true; the input reads as it did. -/
def fnExactGreatestDivisorUptoRow : OpenClaim := { program := "ytpinfnpnfebpoaa", sum := "69d26372d0949fff387cc97529c4a75cb38196c1d0c1f2cc7fc88b90470fdb1e", func := "loop.example/g00910/laws.FnExactGreatestDivisor", spec := "fnExactGreatestDivisor", recurses := true, apart := false, narrowed := true }
def FnExactGreatestDivisorUptoSaid : Prop := fnExactGreatestDivisorUptoRow.holds Try.pinned (OpenSpec.upto fnExactGreatestDivisorSpec)

/-- 'laws.FnExactIsRatio', WHERE WHAT IT READS IS OF BULK AT MOST 1048576: true; the input reads as it did. -/
def fnExactIsRatioUptoRow : OpenClaim := { program := "ytpinfnpnfebpoaa", sum := "69d26372d0949fff387cc97529c4a75cb38196c1d0c1f2cc7fc88b90470fdb1e", func := "loop.example/g00910/laws.FnExactIsRatio", spec := "fnExactIsRatio", recurses := true, apart := false, narrowed := true }
def FnExactIsRatioUptoSaid : Prop := fnExactIsRatioUptoRow.holds Try.pinned (OpenSpec.upto fnExactIsRatioSpec)

/-- 'laws.FnExactMakeRatio', WHERE WHAT IT READS IS OF BULK AT MOST 1048576: true; the input reads as it did. -/
def fnExactMakeRatioUptoRow : OpenClaim := { program := "ytpinfnpnfebpoaa", sum := "69d26372d0949fff387cc97529c4a75cb38196c1d0c1f2cc7fc88b90470fdb1e", func := "loop.example/g00910/laws.FnExactMakeRatio", spec := "fnExactMakeRatio", recurses := true, apart := false, narrowed := true }
def FnExactMakeRatioUptoSaid : Prop := fnExactMakeRatioUptoRow.holds Try.pinned (OpenSpec.upto fnExactMakeRatioSpec)

/-- 'laws.FnExactAddRatios', WHERE WHAT IT READS IS OF BULK AT MOST 1048576: true; the input reads as it did. -/
def fnExactAddRatiosUptoRow : OpenClaim := { program := "ytpinfnpnfebpoaa", sum := "69d26372d0949fff387cc97529c4a75cb38196c1d0c1f2cc7fc88b90470fdb1e", func := "loop.example/g00910/laws.FnExactAddRatios", spec := "fnExactAddRatios", recurses := true, apart := false, narrowed := true }
def FnExactAddRatiosUptoSaid : Prop := fnExactAddRatiosUptoRow.holds Try.pinned (OpenSpec.upto fnExactAddRatiosSpec)

/-- 'laws.FnExactMultiplyRatios', WHERE WHAT IT READS IS OF BULK AT MOST 1048576: true; the input reads as it did. -/
def fnExactMultiplyRatiosUptoRow : OpenClaim := { program := "ytpinfnpnfebpoaa", sum := "69d26372d0949fff387cc97529c4a75cb38196c1d0c1f2cc7fc88b90470fdb1e", func := "loop.example/g00910/laws.FnExactMultiplyRatios", spec := "fnExactMultiplyRatios", recurses := true, apart := false, narrowed := true }
def FnExactMultiplyRatiosUptoSaid : Prop := fnExactMultiplyRatiosUptoRow.holds Try.pinned (OpenSpec.upto fnExactMultiplyRatiosSpec)

/-- 'laws.FnExactSubtractRatios', WHERE WHAT IT READS IS OF BULK AT MOST 1048576: true; the input reads as it did. -/
def fnExactSubtractRatiosUptoRow : OpenClaim := { program := "ytpinfnpnfebpoaa", sum := "69d26372d0949fff387cc97529c4a75cb38196c1d0c1f2cc7fc88b90470fdb1e", func := "loop.example/g00910/laws.FnExactSubtractRatios", spec := "fnExactSubtractRatios", recurses := true, apart := false, narrowed := true }
def FnExactSubtractRatiosUptoSaid : Prop := fnExactSubtractRatiosUptoRow.holds Try.pinned (OpenSpec.upto fnExactSubtractRatiosSpec)

/-- 'laws.FnExactCompareRatios', WHERE WHAT IT READS IS OF BULK AT MOST 1048576: true; the input reads as it did. -/
def fnExactCompareRatiosUptoRow : OpenClaim := { program := "ytpinfnpnfebpoaa", sum := "69d26372d0949fff387cc97529c4a75cb38196c1d0c1f2cc7fc88b90470fdb1e", func := "loop.example/g00910/laws.FnExactCompareRatios", spec := "fnExactCompareRatios", recurses := true, apart := false, narrowed := true }
def FnExactCompareRatiosUptoSaid : Prop := fnExactCompareRatiosUptoRow.holds Try.pinned (OpenSpec.upto fnExactCompareRatiosSpec)

/-- 'laws.FnExactDivideRatios', WHERE WHAT IT READS IS OF BULK AT MOST 1048576: true; the input reads as it did. -/
def fnExactDivideRatiosUptoRow : OpenClaim := { program := "ytpinfnpnfebpoaa", sum := "69d26372d0949fff387cc97529c4a75cb38196c1d0c1f2cc7fc88b90470fdb1e", func := "loop.example/g00910/laws.FnExactDivideRatios", spec := "fnExactDivideRatios", recurses := true, apart := false, narrowed := true }
def FnExactDivideRatiosUptoSaid : Prop := fnExactDivideRatiosUptoRow.holds Try.pinned (OpenSpec.upto fnExactDivideRatiosSpec)

/-- 'laws.FnSums', WHERE WHAT IT READS IS OF BULK AT MOST 1048576: true; the input reads as it did. -/
def fnSumsUptoRow : OpenClaim := { program := "ytpinfnpnfebpoaa", sum := "69d26372d0949fff387cc97529c4a75cb38196c1d0c1f2cc7fc88b90470fdb1e", func := "loop.example/g00910/laws.FnSums", spec := "fnSums", recurses := true, apart := false, narrowed := true }
def FnSumsUptoSaid : Prop := fnSumsUptoRow.holds Try.pinned (OpenSpec.upto fnSumsSpec)

/-- 'laws.FnProducts', WHERE WHAT IT READS IS OF BULK AT MOST 1048576: true; the input reads as it did. -/
def fnProductsUptoRow : OpenClaim := { program := "ytpinfnpnfebpoaa", sum := "69d26372d0949fff387cc97529c4a75cb38196c1d0c1f2cc7fc88b90470fdb1e", func := "loop.example/g00910/laws.FnProducts", spec := "fnProducts", recurses := true, apart := false, narrowed := true }
def FnProductsUptoSaid : Prop := fnProductsUptoRow.holds Try.pinned (OpenSpec.upto fnProductsSpec)

end Rows
end Go.Proofs.Ytpinfnpnfebpoaa
