/-
  No cell of these rows narrows 'for every input' (looked for: loops, veiled, ifaces, maps, wideKeys, modest, calm, conditions, laid).
  DERIVED. THE GIVEN ROWS OF THIS SEAT. 13 by the template 'for every input the law returns true; each argument reads behind the call as it read before'; 0 by the template 'total and deterministic' (their statements: YtbhlghadjcbilaaTotals.lean).
  GIVEN WITH THE SEED: the statements are not yours to turn. If you find one false, say at which input.
  Laid BY PROGRAM, IN A SANDBOX (cutbox-rows.mjs): the forced cells as the released guide's own fill.sh prints them over the translation cea3e42395cf3287… (all of the seat's roots in one cut). By AI agents, Wed Nov 11 2026. No macro, syntax, notation, axiom, sorry.
-/
import Derived.Test.YtbhlghadjcbilaaChecked
import GoSem.Claim
import GoSem.ClaimJoined
import GoSem.ClaimMapViews
import Derived.JoinedTies
import Derived.KernelRfl
namespace Go.Proofs.Ytbhlghadjcbilaa
/- THE CELL 'sum', in the pinned program and in every row, IS THE sha256 OF THE DUMP (.gsa) THAT YtbhlghadjcbilaaProg.lean LOADS. Nothing in Lean hashes anything: it is a label: what it is worth is what the hold of that sum in a sandbox is worth. -/
noncomputable def Try.pinned : Pinned := { name := "ytbhlghadjcbilaa", sum := "cea3e42395cf328724efe16849cbc8c18400bbedc1934439402129e63ea6000c", checked := Try.checked }
namespace Rows
def none {H : Type} : Left H := { results := [], args := [] }

/-- 'laws.FnBadugis': WHATEVER THE INPUT: true; the input reads as it did. -/
def fnBadugisSpec : ChangeSpec := { name := "fnBadugis", fn := fun _ => fun
  | [d] => { results := [.lit (.bool true)], args := [d] }
  | _ => none }
def fnBadugisRow : OpenClaim := { program := "ytbhlghadjcbilaa", sum := "cea3e42395cf328724efe16849cbc8c18400bbedc1934439402129e63ea6000c", func := "loop.example/g00910/laws.FnBadugis", spec := "fnBadugis", unfollowed := true, recurses := true, apart := false }
def FnBadugisSaid : Prop := fnBadugisRow.holds Try.pinned (OpenSpec.ofChange fnBadugisSpec)

/-- ITS FALSE NEIGHBOUR: 'it returns false'. Refute it at one input. -/
def fnBadugisWrong : ChangeSpec := { name := "fnBadugis", fn := fun _ => fun
  | [d] => { results := [.lit (.bool false)], args := [d] }
  | _ => none }
def FnBadugisWrongFalsely : Prop := fnBadugisRow.holds Try.pinned (OpenSpec.ofChange fnBadugisWrong)

/-- 'laws.FnExactBestHigh': WHATEVER THE INPUT: true; the input reads as it did. -/
def fnExactBestHighSpec : ChangeSpec := { name := "fnExactBestHigh", fn := fun _ => fun
  | [d] => { results := [.lit (.bool true)], args := [d] }
  | _ => none }
def fnExactBestHighRow : OpenClaim := { program := "ytbhlghadjcbilaa", sum := "cea3e42395cf328724efe16849cbc8c18400bbedc1934439402129e63ea6000c", func := "loop.example/g00910/laws.FnExactBestHigh", spec := "fnExactBestHigh", recurses := true, apart := false }
def FnExactBestHighSaid : Prop := fnExactBestHighRow.holds Try.pinned (OpenSpec.ofChange fnExactBestHighSpec)

/-- ITS FALSE NEIGHBOUR: 'it returns false'. Refute it at one input. -/
def fnExactBestHighWrong : ChangeSpec := { name := "fnExactBestHigh", fn := fun _ => fun
  | [d] => { results := [.lit (.bool false)], args := [d] }
  | _ => none }
def FnExactBestHighWrongFalsely : Prop := fnExactBestHighRow.holds Try.pinned (OpenSpec.ofChange fnExactBestHighWrong)

/-- 'laws.FnExactCompareHigh': WHATEVER THE INPUT: true; the input reads as it did. -/
def fnExactCompareHighSpec : ChangeSpec := { name := "fnExactCompareHigh", fn := fun _ => fun
  | [d1, d2] => { results := [.lit (.bool true)], args := [d1, d2] }
  | _ => none }
def fnExactCompareHighRow : OpenClaim := { program := "ytbhlghadjcbilaa", sum := "cea3e42395cf328724efe16849cbc8c18400bbedc1934439402129e63ea6000c", func := "loop.example/g00910/laws.FnExactCompareHigh", spec := "fnExactCompareHigh", recurses := true, apart := false }
def FnExactCompareHighSaid : Prop := fnExactCompareHighRow.holds Try.pinned (OpenSpec.ofChange fnExactCompareHighSpec)

/-- ITS FALSE NEIGHBOUR: 'it returns false'. Refute it at one input. -/
def fnExactCompareHighWrong : ChangeSpec := { name := "fnExactCompareHigh", fn := fun _ => fun
  | [d1, d2] => { results := [.lit (.bool false)], args := [d1, d2] }
  | _ => none }
def FnExactCompareHighWrongFalsely : Prop := fnExactCompareHighRow.holds Try.pinned (OpenSpec.ofChange fnExactCompareHighWrong)

/-- 'laws.FnExactBestAce': WHATEVER THE INPUT: true; the input reads as it did. -/
def fnExactBestAceSpec : ChangeSpec := { name := "fnExactBestAce", fn := fun _ => fun
  | [d] => { results := [.lit (.bool true)], args := [d] }
  | _ => none }
def fnExactBestAceRow : OpenClaim := { program := "ytbhlghadjcbilaa", sum := "cea3e42395cf328724efe16849cbc8c18400bbedc1934439402129e63ea6000c", func := "loop.example/g00910/laws.FnExactBestAce", spec := "fnExactBestAce", unfollowed := true, recurses := true, apart := false }
def FnExactBestAceSaid : Prop := fnExactBestAceRow.holds Try.pinned (OpenSpec.ofChange fnExactBestAceSpec)

/-- ITS FALSE NEIGHBOUR: 'it returns false'. Refute it at one input. -/
def fnExactBestAceWrong : ChangeSpec := { name := "fnExactBestAce", fn := fun _ => fun
  | [d] => { results := [.lit (.bool false)], args := [d] }
  | _ => none }
def FnExactBestAceWrongFalsely : Prop := fnExactBestAceRow.holds Try.pinned (OpenSpec.ofChange fnExactBestAceWrong)

/-- 'laws.FnExactBestFive': WHATEVER THE INPUT: true; the input reads as it did. -/
def fnExactBestFiveSpec : ChangeSpec := { name := "fnExactBestFive", fn := fun _ => fun
  | [d] => { results := [.lit (.bool true)], args := [d] }
  | _ => none }
def fnExactBestFiveRow : OpenClaim := { program := "ytbhlghadjcbilaa", sum := "cea3e42395cf328724efe16849cbc8c18400bbedc1934439402129e63ea6000c", func := "loop.example/g00910/laws.FnExactBestFive", spec := "fnExactBestFive", unfollowed := true, recurses := true, apart := false }
def FnExactBestFiveSaid : Prop := fnExactBestFiveRow.holds Try.pinned (OpenSpec.ofChange fnExactBestFiveSpec)

/-- ITS FALSE NEIGHBOUR: 'it returns false'. Refute it at one input. -/
def fnExactBestFiveWrong : ChangeSpec := { name := "fnExactBestFive", fn := fun _ => fun
  | [d] => { results := [.lit (.bool false)], args := [d] }
  | _ => none }
def FnExactBestFiveWrongFalsely : Prop := fnExactBestFiveRow.holds Try.pinned (OpenSpec.ofChange fnExactBestFiveWrong)

/-- 'laws.FnExactBestDeuce': WHATEVER THE INPUT: true; the input reads as it did. -/
def fnExactBestDeuceSpec : ChangeSpec := { name := "fnExactBestDeuce", fn := fun _ => fun
  | [d] => { results := [.lit (.bool true)], args := [d] }
  | _ => none }
def fnExactBestDeuceRow : OpenClaim := { program := "ytbhlghadjcbilaa", sum := "cea3e42395cf328724efe16849cbc8c18400bbedc1934439402129e63ea6000c", func := "loop.example/g00910/laws.FnExactBestDeuce", spec := "fnExactBestDeuce", unfollowed := true, recurses := true, apart := false }
def FnExactBestDeuceSaid : Prop := fnExactBestDeuceRow.holds Try.pinned (OpenSpec.ofChange fnExactBestDeuceSpec)

/-- ITS FALSE NEIGHBOUR: 'it returns false'. Refute it at one input. -/
def fnExactBestDeuceWrong : ChangeSpec := { name := "fnExactBestDeuce", fn := fun _ => fun
  | [d] => { results := [.lit (.bool false)], args := [d] }
  | _ => none }
def FnExactBestDeuceWrongFalsely : Prop := fnExactBestDeuceRow.holds Try.pinned (OpenSpec.ofChange fnExactBestDeuceWrong)

/-- 'laws.FnHighValues': WHATEVER THE INPUT: true; the input reads as it did. -/
def fnHighValuesSpec : ChangeSpec := { name := "fnHighValues", fn := fun _ => fun
  | [d] => { results := [.lit (.bool true)], args := [d] }
  | _ => none }
def fnHighValuesRow : OpenClaim := { program := "ytbhlghadjcbilaa", sum := "cea3e42395cf328724efe16849cbc8c18400bbedc1934439402129e63ea6000c", func := "loop.example/g00910/laws.FnHighValues", spec := "fnHighValues", apart := false }
def FnHighValuesSaid : Prop := fnHighValuesRow.holds Try.pinned (OpenSpec.ofChange fnHighValuesSpec)

/-- ITS FALSE NEIGHBOUR: 'it returns false'. Refute it at one input. -/
def fnHighValuesWrong : ChangeSpec := { name := "fnHighValues", fn := fun _ => fun
  | [d] => { results := [.lit (.bool false)], args := [d] }
  | _ => none }
def FnHighValuesWrongFalsely : Prop := fnHighValuesRow.holds Try.pinned (OpenSpec.ofChange fnHighValuesWrong)

/-- 'laws.FnLowValues': WHATEVER THE INPUT: true; the input reads as it did. -/
def fnLowValuesSpec : ChangeSpec := { name := "fnLowValues", fn := fun _ => fun
  | [d] => { results := [.lit (.bool true)], args := [d] }
  | _ => none }
def fnLowValuesRow : OpenClaim := { program := "ytbhlghadjcbilaa", sum := "cea3e42395cf328724efe16849cbc8c18400bbedc1934439402129e63ea6000c", func := "loop.example/g00910/laws.FnLowValues", spec := "fnLowValues", apart := false }
def FnLowValuesSaid : Prop := fnLowValuesRow.holds Try.pinned (OpenSpec.ofChange fnLowValuesSpec)

/-- ITS FALSE NEIGHBOUR: 'it returns false'. Refute it at one input. -/
def fnLowValuesWrong : ChangeSpec := { name := "fnLowValues", fn := fun _ => fun
  | [d] => { results := [.lit (.bool false)], args := [d] }
  | _ => none }
def FnLowValuesWrongFalsely : Prop := fnLowValuesRow.holds Try.pinned (OpenSpec.ofChange fnLowValuesWrong)

/-- 'laws.FnExactLowRanks': WHATEVER THE INPUT: true; the input reads as it did. -/
def fnExactLowRanksSpec : ChangeSpec := { name := "fnExactLowRanks", fn := fun _ => fun
  | [d] => { results := [.lit (.bool true)], args := [d] }
  | _ => none }
def fnExactLowRanksRow : OpenClaim := { program := "ytbhlghadjcbilaa", sum := "cea3e42395cf328724efe16849cbc8c18400bbedc1934439402129e63ea6000c", func := "loop.example/g00910/laws.FnExactLowRanks", spec := "fnExactLowRanks", recurses := true, apart := false }
def FnExactLowRanksSaid : Prop := fnExactLowRanksRow.holds Try.pinned (OpenSpec.ofChange fnExactLowRanksSpec)

/-- ITS FALSE NEIGHBOUR: 'it returns false'. Refute it at one input. -/
def fnExactLowRanksWrong : ChangeSpec := { name := "fnExactLowRanks", fn := fun _ => fun
  | [d] => { results := [.lit (.bool false)], args := [d] }
  | _ => none }
def FnExactLowRanksWrongFalsely : Prop := fnExactLowRanksRow.holds Try.pinned (OpenSpec.ofChange fnExactLowRanksWrong)

/-- 'laws.FnBestHands': WHATEVER THE INPUT: true; the input reads as it did. -/
def fnBestHandsSpec : ChangeSpec := { name := "fnBestHands", fn := fun _ => fun
  | [d] => { results := [.lit (.bool true)], args := [d] }
  | _ => none }
def fnBestHandsRow : OpenClaim := { program := "ytbhlghadjcbilaa", sum := "cea3e42395cf328724efe16849cbc8c18400bbedc1934439402129e63ea6000c", func := "loop.example/g00910/laws.FnBestHands", spec := "fnBestHands", unfollowed := true, recurses := true, apart := false }
def FnBestHandsSaid : Prop := fnBestHandsRow.holds Try.pinned (OpenSpec.ofChange fnBestHandsSpec)

/-- ITS FALSE NEIGHBOUR: 'it returns false'. Refute it at one input. -/
def fnBestHandsWrong : ChangeSpec := { name := "fnBestHands", fn := fun _ => fun
  | [d] => { results := [.lit (.bool false)], args := [d] }
  | _ => none }
def FnBestHandsWrongFalsely : Prop := fnBestHandsRow.holds Try.pinned (OpenSpec.ofChange fnBestHandsWrong)

/-- 'laws.FnBestLows': WHATEVER THE INPUT: true; the input reads as it did. -/
def fnBestLowsSpec : ChangeSpec := { name := "fnBestLows", fn := fun _ => fun
  | [d] => { results := [.lit (.bool true)], args := [d] }
  | _ => none }
def fnBestLowsRow : OpenClaim := { program := "ytbhlghadjcbilaa", sum := "cea3e42395cf328724efe16849cbc8c18400bbedc1934439402129e63ea6000c", func := "loop.example/g00910/laws.FnBestLows", spec := "fnBestLows", unfollowed := true, recurses := true, apart := false }
def FnBestLowsSaid : Prop := fnBestLowsRow.holds Try.pinned (OpenSpec.ofChange fnBestLowsSpec)

/-- ITS FALSE NEIGHBOUR: 'it returns false'. Refute it at one input. -/
def fnBestLowsWrong : ChangeSpec := { name := "fnBestLows", fn := fun _ => fun
  | [d] => { results := [.lit (.bool false)], args := [d] }
  | _ => none }
def FnBestLowsWrongFalsely : Prop := fnBestLowsRow.holds Try.pinned (OpenSpec.ofChange fnBestLowsWrong)

/-- 'laws.FnExactBadugiCards': WHATEVER THE INPUT: true; the input reads as it did. -/
def fnExactBadugiCardsSpec : ChangeSpec := { name := "fnExactBadugiCards", fn := fun _ => fun
  | [d] => { results := [.lit (.bool true)], args := [d] }
  | _ => none }
def fnExactBadugiCardsRow : OpenClaim := { program := "ytbhlghadjcbilaa", sum := "cea3e42395cf328724efe16849cbc8c18400bbedc1934439402129e63ea6000c", func := "loop.example/g00910/laws.FnExactBadugiCards", spec := "fnExactBadugiCards", unfollowed := true, recurses := true, apart := false }
def FnExactBadugiCardsSaid : Prop := fnExactBadugiCardsRow.holds Try.pinned (OpenSpec.ofChange fnExactBadugiCardsSpec)

/-- ITS FALSE NEIGHBOUR: 'it returns false'. Refute it at one input. -/
def fnExactBadugiCardsWrong : ChangeSpec := { name := "fnExactBadugiCards", fn := fun _ => fun
  | [d] => { results := [.lit (.bool false)], args := [d] }
  | _ => none }
def FnExactBadugiCardsWrongFalsely : Prop := fnExactBadugiCardsRow.holds Try.pinned (OpenSpec.ofChange fnExactBadugiCardsWrong)

/-- 'laws.FnExactBadugiValue': WHATEVER THE INPUT: true; the input reads as it did. -/
def fnExactBadugiValueSpec : ChangeSpec := { name := "fnExactBadugiValue", fn := fun _ => fun
  | [d] => { results := [.lit (.bool true)], args := [d] }
  | _ => none }
def fnExactBadugiValueRow : OpenClaim := { program := "ytbhlghadjcbilaa", sum := "cea3e42395cf328724efe16849cbc8c18400bbedc1934439402129e63ea6000c", func := "loop.example/g00910/laws.FnExactBadugiValue", spec := "fnExactBadugiValue", unfollowed := true, recurses := true, apart := false }
def FnExactBadugiValueSaid : Prop := fnExactBadugiValueRow.holds Try.pinned (OpenSpec.ofChange fnExactBadugiValueSpec)

/-- ITS FALSE NEIGHBOUR: 'it returns false'. Refute it at one input. -/
def fnExactBadugiValueWrong : ChangeSpec := { name := "fnExactBadugiValue", fn := fun _ => fun
  | [d] => { results := [.lit (.bool false)], args := [d] }
  | _ => none }
def FnExactBadugiValueWrongFalsely : Prop := fnExactBadugiValueRow.holds Try.pinned (OpenSpec.ofChange fnExactBadugiValueWrong)

/- THE SECOND FORM. 'bulk': how many values and letters a reading holds, each counted each time it is reached (what is shared counts as often as it is met; a slice's spare places count too). A statement '..UptoSaid' is the law's where the arguments, and the package variables that the reading takes, are together of bulk at most 1048576: NARROWER than '..Said'. Prove '..Said' where nothing that the law and all that it calls make is longer than what came in: it says more and counts as full. Else prove '..UptoSaid'. A law counts once. -/
mutual
def uptoBulk {H : Type} : DataW H → Nat
  | .lit (.string bytes) => bytes.length + 1
  | .lit _ => 1
  | .nil => 1
  | .ptr d => uptoBulk d + 1
  | .slice elems spare => uptoBulkAll elems + uptoBulkAll spare + 1
  | .agg parts => uptoBulkAll parts + 1
  | .iface _ d => uptoBulk d + 1
  | .map entries => uptoBulkEntries entries + 1
  | .held _ => 1
def uptoBulkAll {H : Type} : List (DataW H) → Nat
  | [] => 0
  | d :: r => uptoBulk d + uptoBulkAll r
def uptoBulkEntries {H : Type} : List (Lit × DataW H) → Nat
  | [] => 0
  | x :: r => uptoBulkEntry x + uptoBulkEntries r
def uptoBulkEntry {H : Type} : Lit × DataW H → Nat
  | (.string bytes, d) => bytes.length + uptoBulk d + 1
  | (_, d) => uptoBulk d + 1
 end
def uptoSmall : (H : Type) → List (DataW H) → Bool := fun _ ds => decide (uptoBulkAll ds ≤ 1048576)
def OpenSpec.upto (s : _root_.Go.ChangeSpec) : _root_.Go.OpenSpec := { _root_.Go.OpenSpec.ofChange s with cond := some uptoSmall }

/-- 'laws.FnBadugis', WHERE WHAT IT READS IS OF BULK AT MOST 1048576: true; the input reads as it did. -/
def fnBadugisUptoRow : OpenClaim := { program := "ytbhlghadjcbilaa", sum := "cea3e42395cf328724efe16849cbc8c18400bbedc1934439402129e63ea6000c", func := "loop.example/g00910/laws.FnBadugis", spec := "fnBadugis", unfollowed := true, recurses := true, apart := false, narrowed := true }
def FnBadugisUptoSaid : Prop := fnBadugisUptoRow.holds Try.pinned (OpenSpec.upto fnBadugisSpec)

/-- 'laws.FnExactBestHigh', WHERE WHAT IT READS IS OF BULK AT MOST 1048576: true; the input reads as it did. -/
def fnExactBestHighUptoRow : OpenClaim := { program := "ytbhlghadjcbilaa", sum := "cea3e42395cf328724efe16849cbc8c18400bbedc1934439402129e63ea6000c", func := "loop.example/g00910/laws.FnExactBestHigh", spec := "fnExactBestHigh", recurses := true, apart := false, narrowed := true }
def FnExactBestHighUptoSaid : Prop := fnExactBestHighUptoRow.holds Try.pinned (OpenSpec.upto fnExactBestHighSpec)

/-- 'laws.FnExactCompareHigh', WHERE WHAT IT READS IS OF BULK AT MOST 1048576: true; the input reads as it did. -/
def fnExactCompareHighUptoRow : OpenClaim := { program := "ytbhlghadjcbilaa", sum := "cea3e42395cf328724efe16849cbc8c18400bbedc1934439402129e63ea6000c", func := "loop.example/g00910/laws.FnExactCompareHigh", spec := "fnExactCompareHigh", recurses := true, apart := false, narrowed := true }
def FnExactCompareHighUptoSaid : Prop := fnExactCompareHighUptoRow.holds Try.pinned (OpenSpec.upto fnExactCompareHighSpec)

/-- 'laws.FnExactBestAce', WHERE WHAT IT READS IS OF BULK AT MOST 1048576: true; the input reads as it did. -/
def fnExactBestAceUptoRow : OpenClaim := { program := "ytbhlghadjcbilaa", sum := "cea3e42395cf328724efe16849cbc8c18400bbedc1934439402129e63ea6000c", func := "loop.example/g00910/laws.FnExactBestAce", spec := "fnExactBestAce", unfollowed := true, recurses := true, apart := false, narrowed := true }
def FnExactBestAceUptoSaid : Prop := fnExactBestAceUptoRow.holds Try.pinned (OpenSpec.upto fnExactBestAceSpec)

/-- 'laws.FnExactBestFive', WHERE WHAT IT READS IS OF BULK AT MOST 1048576: true; the input reads as it did. -/
def fnExactBestFiveUptoRow : OpenClaim := { program := "ytbhlghadjcbilaa", sum := "cea3e42395cf328724efe16849cbc8c18400bbedc1934439402129e63ea6000c", func := "loop.example/g00910/laws.FnExactBestFive", spec := "fnExactBestFive", unfollowed := true, recurses := true, apart := false, narrowed := true }
def FnExactBestFiveUptoSaid : Prop := fnExactBestFiveUptoRow.holds Try.pinned (OpenSpec.upto fnExactBestFiveSpec)

/-- 'laws.FnExactBestDeuce', WHERE WHAT IT READS IS OF BULK AT MOST 1048576: true; the input reads as it did. -/
def fnExactBestDeuceUptoRow : OpenClaim := { program := "ytbhlghadjcbilaa", sum := "cea3e42395cf328724efe16849cbc8c18400bbedc1934439402129e63ea6000c", func := "loop.example/g00910/laws.FnExactBestDeuce", spec := "fnExactBestDeuce", unfollowed := true, recurses := true, apart := false, narrowed := true }
def FnExactBestDeuceUptoSaid : Prop := fnExactBestDeuceUptoRow.holds Try.pinned (OpenSpec.upto fnExactBestDeuceSpec)

/-- 'laws.FnHighValues', WHERE WHAT IT READS IS OF BULK AT MOST 1048576: true; the input reads as it did. -/
def fnHighValuesUptoRow : OpenClaim := { program := "ytbhlghadjcbilaa", sum := "cea3e42395cf328724efe16849cbc8c18400bbedc1934439402129e63ea6000c", func := "loop.example/g00910/laws.FnHighValues", spec := "fnHighValues", apart := false, narrowed := true }
def FnHighValuesUptoSaid : Prop := fnHighValuesUptoRow.holds Try.pinned (OpenSpec.upto fnHighValuesSpec)

/-- 'laws.FnLowValues', WHERE WHAT IT READS IS OF BULK AT MOST 1048576: true; the input reads as it did. -/
def fnLowValuesUptoRow : OpenClaim := { program := "ytbhlghadjcbilaa", sum := "cea3e42395cf328724efe16849cbc8c18400bbedc1934439402129e63ea6000c", func := "loop.example/g00910/laws.FnLowValues", spec := "fnLowValues", apart := false, narrowed := true }
def FnLowValuesUptoSaid : Prop := fnLowValuesUptoRow.holds Try.pinned (OpenSpec.upto fnLowValuesSpec)

/-- 'laws.FnExactLowRanks', WHERE WHAT IT READS IS OF BULK AT MOST 1048576: true; the input reads as it did. -/
def fnExactLowRanksUptoRow : OpenClaim := { program := "ytbhlghadjcbilaa", sum := "cea3e42395cf328724efe16849cbc8c18400bbedc1934439402129e63ea6000c", func := "loop.example/g00910/laws.FnExactLowRanks", spec := "fnExactLowRanks", recurses := true, apart := false, narrowed := true }
def FnExactLowRanksUptoSaid : Prop := fnExactLowRanksUptoRow.holds Try.pinned (OpenSpec.upto fnExactLowRanksSpec)

/-- 'laws.FnBestHands', WHERE WHAT IT READS IS OF BULK AT MOST 1048576: true; the input reads as it did. -/
def fnBestHandsUptoRow : OpenClaim := { program := "ytbhlghadjcbilaa", sum := "cea3e42395cf328724efe16849cbc8c18400bbedc1934439402129e63ea6000c", func := "loop.example/g00910/laws.FnBestHands", spec := "fnBestHands", unfollowed := true, recurses := true, apart := false, narrowed := true }
def FnBestHandsUptoSaid : Prop := fnBestHandsUptoRow.holds Try.pinned (OpenSpec.upto fnBestHandsSpec)

/-- 'laws.FnBestLows', WHERE WHAT IT READS IS OF BULK AT MOST 1048576: true; the input reads as it did. -/
def fnBestLowsUptoRow : OpenClaim := { program := "ytbhlghadjcbilaa", sum := "cea3e42395cf328724efe16849cbc8c18400bbedc1934439402129e63ea6000c", func := "loop.example/g00910/laws.FnBestLows", spec := "fnBestLows", unfollowed := true, recurses := true, apart := false, narrowed := true }
def FnBestLowsUptoSaid : Prop := fnBestLowsUptoRow.holds Try.pinned (OpenSpec.upto fnBestLowsSpec)

/-- 'laws.FnExactBadugiCards', WHERE WHAT IT READS IS OF BULK AT MOST 1048576: true; the input reads as it did. -/
def fnExactBadugiCardsUptoRow : OpenClaim := { program := "ytbhlghadjcbilaa", sum := "cea3e42395cf328724efe16849cbc8c18400bbedc1934439402129e63ea6000c", func := "loop.example/g00910/laws.FnExactBadugiCards", spec := "fnExactBadugiCards", unfollowed := true, recurses := true, apart := false, narrowed := true }
def FnExactBadugiCardsUptoSaid : Prop := fnExactBadugiCardsUptoRow.holds Try.pinned (OpenSpec.upto fnExactBadugiCardsSpec)

/-- 'laws.FnExactBadugiValue', WHERE WHAT IT READS IS OF BULK AT MOST 1048576: true; the input reads as it did. -/
def fnExactBadugiValueUptoRow : OpenClaim := { program := "ytbhlghadjcbilaa", sum := "cea3e42395cf328724efe16849cbc8c18400bbedc1934439402129e63ea6000c", func := "loop.example/g00910/laws.FnExactBadugiValue", spec := "fnExactBadugiValue", unfollowed := true, recurses := true, apart := false, narrowed := true }
def FnExactBadugiValueUptoSaid : Prop := fnExactBadugiValueUptoRow.holds Try.pinned (OpenSpec.upto fnExactBadugiValueSpec)

end Rows
end Go.Proofs.Ytbhlghadjcbilaa
