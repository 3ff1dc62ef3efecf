/-
  No cell of these rows narrows 'for every input' (looked for: loops, veiled, ifaces, maps, wideKeys, modest, calm, conditions, laid).
  DERIVED. THE GIVEN ROWS OF THIS SEAT. 21 by the template 'for every input the law returns true; each argument reads behind the call as it read before'; 0 by the template 'total and deterministic' (their statements: YtbngfdekdfaioaaTotals.lean).
  GIVEN WITH THE SEED: the statements are not yours to turn. If you find one false, say at which input.
  Laid BY PROGRAM, IN A SANDBOX (cutbox-rows.mjs): the forced cells as the released guide's own fill.sh prints them over the translation 325c822d7cc3b3cb… (all of the seat's roots in one cut). By AI agents, Wed Nov 11 2026. No macro, syntax, notation, axiom, sorry.
-/
import Derived.Test.YtbngfdekdfaioaaChecked
import GoSem.Claim
import GoSem.ClaimJoined
import GoSem.ClaimMapViews
import Derived.JoinedTies
import Derived.KernelRfl
namespace Go.Proofs.Ytbngfdekdfaioaa
/- THE CELL 'sum', in the pinned program and in every row, IS THE sha256 OF THE DUMP (.gsa) THAT YtbngfdekdfaioaaProg.lean LOADS. Nothing in Lean hashes anything: it is a label: what it is worth is what the hold of that sum in a sandbox is worth. -/
noncomputable def Try.pinned : Pinned := { name := "ytbngfdekdfaioaa", sum := "325c822d7cc3b3cb98d9bab596a612fe37efe4964101f95649c8e35eebdbbf30", checked := Try.checked }
namespace Rows
def none {H : Type} : Left H := { results := [], args := [] }

/-- 'laws.FnExactCountEights': WHATEVER THE INPUT: true; the input reads as it did. -/
def fnExactCountEightsSpec : ChangeSpec := { name := "fnExactCountEights", fn := fun _ => fun
  | [] => { results := [.lit (.bool true)], args := [] }
  | _ => none }
def fnExactCountEightsRow : OpenClaim := { program := "ytbngfdekdfaioaa", sum := "325c822d7cc3b3cb98d9bab596a612fe37efe4964101f95649c8e35eebdbbf30", func := "loop.example/g00910/laws.FnExactCountEights", spec := "fnExactCountEights", apart := false }
def FnExactCountEightsSaid : Prop := fnExactCountEightsRow.holds Try.pinned (OpenSpec.ofChange fnExactCountEightsSpec)

/-- ITS FALSE NEIGHBOUR: 'it returns false'. Refute it at one input. -/
def fnExactCountEightsWrong : ChangeSpec := { name := "fnExactCountEights", fn := fun _ => fun
  | [] => { results := [.lit (.bool false)], args := [] }
  | _ => none }
def FnExactCountEightsWrongFalsely : Prop := fnExactCountEightsRow.holds Try.pinned (OpenSpec.ofChange fnExactCountEightsWrong)

/-- 'laws.FnExactIsEightOrBetter': WHATEVER THE INPUT: true; the input reads as it did. -/
def fnExactIsEightOrBetterSpec : ChangeSpec := { name := "fnExactIsEightOrBetter", fn := fun _ => fun
  | [d] => { results := [.lit (.bool true)], args := [d] }
  | _ => none }
def fnExactIsEightOrBetterRow : OpenClaim := { program := "ytbngfdekdfaioaa", sum := "325c822d7cc3b3cb98d9bab596a612fe37efe4964101f95649c8e35eebdbbf30", func := "loop.example/g00910/laws.FnExactIsEightOrBetter", spec := "fnExactIsEightOrBetter", apart := false }
def FnExactIsEightOrBetterSaid : Prop := fnExactIsEightOrBetterRow.holds Try.pinned (OpenSpec.ofChange fnExactIsEightOrBetterSpec)

/-- ITS FALSE NEIGHBOUR: 'it returns false'. Refute it at one input. -/
def fnExactIsEightOrBetterWrong : ChangeSpec := { name := "fnExactIsEightOrBetter", fn := fun _ => fun
  | [d] => { results := [.lit (.bool false)], args := [d] }
  | _ => none }
def FnExactIsEightOrBetterWrongFalsely : Prop := fnExactIsEightOrBetterRow.holds Try.pinned (OpenSpec.ofChange fnExactIsEightOrBetterWrong)

/-- 'laws.FnExactValueParts': WHATEVER THE INPUT: true; the input reads as it did. -/
def fnExactValuePartsSpec : ChangeSpec := { name := "fnExactValueParts", fn := fun _ => fun
  | [d] => { results := [.lit (.bool true)], args := [d] }
  | _ => none }
def fnExactValuePartsRow : OpenClaim := { program := "ytbngfdekdfaioaa", sum := "325c822d7cc3b3cb98d9bab596a612fe37efe4964101f95649c8e35eebdbbf30", func := "loop.example/g00910/laws.FnExactValueParts", spec := "fnExactValueParts", apart := false }
def FnExactValuePartsSaid : Prop := fnExactValuePartsRow.holds Try.pinned (OpenSpec.ofChange fnExactValuePartsSpec)

/-- ITS FALSE NEIGHBOUR: 'it returns false'. Refute it at one input. -/
def fnExactValuePartsWrong : ChangeSpec := { name := "fnExactValueParts", fn := fun _ => fun
  | [d] => { results := [.lit (.bool false)], args := [d] }
  | _ => none }
def FnExactValuePartsWrongFalsely : Prop := fnExactValuePartsRow.holds Try.pinned (OpenSpec.ofChange fnExactValuePartsWrong)

/-- 'laws.FnBadugis': WHATEVER THE INPUT: true; the input reads as it did. -/
def fnBadugisSpec : ChangeSpec := { name := "fnBadugis", fn := fun _ => fun
  | [d] => { results := [.lit (.bool true)], args := [d] }
  | _ => none }
def fnBadugisRow : OpenClaim := { program := "ytbngfdekdfaioaa", sum := "325c822d7cc3b3cb98d9bab596a612fe37efe4964101f95649c8e35eebdbbf30", func := "loop.example/g00910/laws.FnBadugis", spec := "fnBadugis", unfollowed := true, recurses := true, apart := false }
def FnBadugisSaid : Prop := fnBadugisRow.holds Try.pinned (OpenSpec.ofChange fnBadugisSpec)

/-- ITS FALSE NEIGHBOUR: 'it returns false'. Refute it at one input. -/
def fnBadugisWrong : ChangeSpec := { name := "fnBadugis", fn := fun _ => fun
  | [d] => { results := [.lit (.bool false)], args := [d] }
  | _ => none }
def FnBadugisWrongFalsely : Prop := fnBadugisRow.holds Try.pinned (OpenSpec.ofChange fnBadugisWrong)

/-- 'laws.FnExactAceValue': WHATEVER THE INPUT: true; the input reads as it did. -/
def fnExactAceValueSpec : ChangeSpec := { name := "fnExactAceValue", fn := fun _ => fun
  | [d] => { results := [.lit (.bool true)], args := [d] }
  | _ => none }
def fnExactAceValueRow : OpenClaim := { program := "ytbngfdekdfaioaa", sum := "325c822d7cc3b3cb98d9bab596a612fe37efe4964101f95649c8e35eebdbbf30", func := "loop.example/g00910/laws.FnExactAceValue", spec := "fnExactAceValue", apart := false }
def FnExactAceValueSaid : Prop := fnExactAceValueRow.holds Try.pinned (OpenSpec.ofChange fnExactAceValueSpec)

/-- ITS FALSE NEIGHBOUR: 'it returns false'. Refute it at one input. -/
def fnExactAceValueWrong : ChangeSpec := { name := "fnExactAceValue", fn := fun _ => fun
  | [d] => { results := [.lit (.bool false)], args := [d] }
  | _ => none }
def FnExactAceValueWrongFalsely : Prop := fnExactAceValueRow.holds Try.pinned (OpenSpec.ofChange fnExactAceValueWrong)

/-- 'laws.FnExactCategoryOf': WHATEVER THE INPUT: true; the input reads as it did. -/
def fnExactCategoryOfSpec : ChangeSpec := { name := "fnExactCategoryOf", fn := fun _ => fun
  | [d] => { results := [.lit (.bool true)], args := [d] }
  | _ => none }
def fnExactCategoryOfRow : OpenClaim := { program := "ytbngfdekdfaioaa", sum := "325c822d7cc3b3cb98d9bab596a612fe37efe4964101f95649c8e35eebdbbf30", func := "loop.example/g00910/laws.FnExactCategoryOf", spec := "fnExactCategoryOf", apart := false }
def FnExactCategoryOfSaid : Prop := fnExactCategoryOfRow.holds Try.pinned (OpenSpec.ofChange fnExactCategoryOfSpec)

/-- ITS FALSE NEIGHBOUR: 'it returns false'. Refute it at one input. -/
def fnExactCategoryOfWrong : ChangeSpec := { name := "fnExactCategoryOf", fn := fun _ => fun
  | [d] => { results := [.lit (.bool false)], args := [d] }
  | _ => none }
def FnExactCategoryOfWrongFalsely : Prop := fnExactCategoryOfRow.holds Try.pinned (OpenSpec.ofChange fnExactCategoryOfWrong)

/-- 'laws.FnExactKickersOf': WHATEVER THE INPUT: true; the input reads as it did. -/
def fnExactKickersOfSpec : ChangeSpec := { name := "fnExactKickersOf", fn := fun _ => fun
  | [d] => { results := [.lit (.bool true)], args := [d] }
  | _ => none }
def fnExactKickersOfRow : OpenClaim := { program := "ytbngfdekdfaioaa", sum := "325c822d7cc3b3cb98d9bab596a612fe37efe4964101f95649c8e35eebdbbf30", func := "loop.example/g00910/laws.FnExactKickersOf", spec := "fnExactKickersOf", apart := false }
def FnExactKickersOfSaid : Prop := fnExactKickersOfRow.holds Try.pinned (OpenSpec.ofChange fnExactKickersOfSpec)

/-- ITS FALSE NEIGHBOUR: 'it returns false'. Refute it at one input. -/
def fnExactKickersOfWrong : ChangeSpec := { name := "fnExactKickersOf", fn := fun _ => fun
  | [d] => { results := [.lit (.bool false)], args := [d] }
  | _ => none }
def FnExactKickersOfWrongFalsely : Prop := fnExactKickersOfRow.holds Try.pinned (OpenSpec.ofChange fnExactKickersOfWrong)

/-- 'laws.FnExactHighValue': WHATEVER THE INPUT: true; the input reads as it did. -/
def fnExactHighValueSpec : ChangeSpec := { name := "fnExactHighValue", fn := fun _ => fun
  | [d] => { results := [.lit (.bool true)], args := [d] }
  | _ => none }
def fnExactHighValueRow : OpenClaim := { program := "ytbngfdekdfaioaa", sum := "325c822d7cc3b3cb98d9bab596a612fe37efe4964101f95649c8e35eebdbbf30", func := "loop.example/g00910/laws.FnExactHighValue", spec := "fnExactHighValue", apart := false }
def FnExactHighValueSaid : Prop := fnExactHighValueRow.holds Try.pinned (OpenSpec.ofChange fnExactHighValueSpec)

/-- ITS FALSE NEIGHBOUR: 'it returns false'. Refute it at one input. -/
def fnExactHighValueWrong : ChangeSpec := { name := "fnExactHighValue", fn := fun _ => fun
  | [d] => { results := [.lit (.bool false)], args := [d] }
  | _ => none }
def FnExactHighValueWrongFalsely : Prop := fnExactHighValueRow.holds Try.pinned (OpenSpec.ofChange fnExactHighValueWrong)

/-- 'laws.FnExactDeuceValue': WHATEVER THE INPUT: true; the input reads as it did. -/
def fnExactDeuceValueSpec : ChangeSpec := { name := "fnExactDeuceValue", fn := fun _ => fun
  | [d] => { results := [.lit (.bool true)], args := [d] }
  | _ => none }
def fnExactDeuceValueRow : OpenClaim := { program := "ytbngfdekdfaioaa", sum := "325c822d7cc3b3cb98d9bab596a612fe37efe4964101f95649c8e35eebdbbf30", func := "loop.example/g00910/laws.FnExactDeuceValue", spec := "fnExactDeuceValue", apart := false }
def FnExactDeuceValueSaid : Prop := fnExactDeuceValueRow.holds Try.pinned (OpenSpec.ofChange fnExactDeuceValueSpec)

/-- ITS FALSE NEIGHBOUR: 'it returns false'. Refute it at one input. -/
def fnExactDeuceValueWrong : ChangeSpec := { name := "fnExactDeuceValue", fn := fun _ => fun
  | [d] => { results := [.lit (.bool false)], args := [d] }
  | _ => none }
def FnExactDeuceValueWrongFalsely : Prop := fnExactDeuceValueRow.holds Try.pinned (OpenSpec.ofChange fnExactDeuceValueWrong)

/-- 'laws.FnExactBestHigh': WHATEVER THE INPUT: true; the input reads as it did. -/
def fnExactBestHighSpec : ChangeSpec := { name := "fnExactBestHigh", fn := fun _ => fun
  | [d] => { results := [.lit (.bool true)], args := [d] }
  | _ => none }
def fnExactBestHighRow : OpenClaim := { program := "ytbngfdekdfaioaa", sum := "325c822d7cc3b3cb98d9bab596a612fe37efe4964101f95649c8e35eebdbbf30", func := "loop.example/g00910/laws.FnExactBestHigh", spec := "fnExactBestHigh", recurses := true, apart := false }
def FnExactBestHighSaid : Prop := fnExactBestHighRow.holds Try.pinned (OpenSpec.ofChange fnExactBestHighSpec)

/-- ITS FALSE NEIGHBOUR: 'it returns false'. Refute it at one input. -/
def fnExactBestHighWrong : ChangeSpec := { name := "fnExactBestHigh", fn := fun _ => fun
  | [d] => { results := [.lit (.bool false)], args := [d] }
  | _ => none }
def FnExactBestHighWrongFalsely : Prop := fnExactBestHighRow.holds Try.pinned (OpenSpec.ofChange fnExactBestHighWrong)

/-- 'laws.FnExactCompareHigh': WHATEVER THE INPUT: true; the input reads as it did. -/
def fnExactCompareHighSpec : ChangeSpec := { name := "fnExactCompareHigh", fn := fun _ => fun
  | [d1, d2] => { results := [.lit (.bool true)], args := [d1, d2] }
  | _ => none }
def fnExactCompareHighRow : OpenClaim := { program := "ytbngfdekdfaioaa", sum := "325c822d7cc3b3cb98d9bab596a612fe37efe4964101f95649c8e35eebdbbf30", func := "loop.example/g00910/laws.FnExactCompareHigh", spec := "fnExactCompareHigh", recurses := true, apart := false }
def FnExactCompareHighSaid : Prop := fnExactCompareHighRow.holds Try.pinned (OpenSpec.ofChange fnExactCompareHighSpec)

/-- ITS FALSE NEIGHBOUR: 'it returns false'. Refute it at one input. -/
def fnExactCompareHighWrong : ChangeSpec := { name := "fnExactCompareHigh", fn := fun _ => fun
  | [d1, d2] => { results := [.lit (.bool false)], args := [d1, d2] }
  | _ => none }
def FnExactCompareHighWrongFalsely : Prop := fnExactCompareHighRow.holds Try.pinned (OpenSpec.ofChange fnExactCompareHighWrong)

/-- 'laws.FnExactBestAce': WHATEVER THE INPUT: true; the input reads as it did. -/
def fnExactBestAceSpec : ChangeSpec := { name := "fnExactBestAce", fn := fun _ => fun
  | [d] => { results := [.lit (.bool true)], args := [d] }
  | _ => none }
def fnExactBestAceRow : OpenClaim := { program := "ytbngfdekdfaioaa", sum := "325c822d7cc3b3cb98d9bab596a612fe37efe4964101f95649c8e35eebdbbf30", func := "loop.example/g00910/laws.FnExactBestAce", spec := "fnExactBestAce", unfollowed := true, recurses := true, apart := false }
def FnExactBestAceSaid : Prop := fnExactBestAceRow.holds Try.pinned (OpenSpec.ofChange fnExactBestAceSpec)

/-- ITS FALSE NEIGHBOUR: 'it returns false'. Refute it at one input. -/
def fnExactBestAceWrong : ChangeSpec := { name := "fnExactBestAce", fn := fun _ => fun
  | [d] => { results := [.lit (.bool false)], args := [d] }
  | _ => none }
def FnExactBestAceWrongFalsely : Prop := fnExactBestAceRow.holds Try.pinned (OpenSpec.ofChange fnExactBestAceWrong)

/-- 'laws.FnExactBestFive': WHATEVER THE INPUT: true; the input reads as it did. -/
def fnExactBestFiveSpec : ChangeSpec := { name := "fnExactBestFive", fn := fun _ => fun
  | [d] => { results := [.lit (.bool true)], args := [d] }
  | _ => none }
def fnExactBestFiveRow : OpenClaim := { program := "ytbngfdekdfaioaa", sum := "325c822d7cc3b3cb98d9bab596a612fe37efe4964101f95649c8e35eebdbbf30", func := "loop.example/g00910/laws.FnExactBestFive", spec := "fnExactBestFive", unfollowed := true, recurses := true, apart := false }
def FnExactBestFiveSaid : Prop := fnExactBestFiveRow.holds Try.pinned (OpenSpec.ofChange fnExactBestFiveSpec)

/-- ITS FALSE NEIGHBOUR: 'it returns false'. Refute it at one input. -/
def fnExactBestFiveWrong : ChangeSpec := { name := "fnExactBestFive", fn := fun _ => fun
  | [d] => { results := [.lit (.bool false)], args := [d] }
  | _ => none }
def FnExactBestFiveWrongFalsely : Prop := fnExactBestFiveRow.holds Try.pinned (OpenSpec.ofChange fnExactBestFiveWrong)

/-- 'laws.FnExactBestDeuce': WHATEVER THE INPUT: true; the input reads as it did. -/
def fnExactBestDeuceSpec : ChangeSpec := { name := "fnExactBestDeuce", fn := fun _ => fun
  | [d] => { results := [.lit (.bool true)], args := [d] }
  | _ => none }
def fnExactBestDeuceRow : OpenClaim := { program := "ytbngfdekdfaioaa", sum := "325c822d7cc3b3cb98d9bab596a612fe37efe4964101f95649c8e35eebdbbf30", func := "loop.example/g00910/laws.FnExactBestDeuce", spec := "fnExactBestDeuce", unfollowed := true, recurses := true, apart := false }
def FnExactBestDeuceSaid : Prop := fnExactBestDeuceRow.holds Try.pinned (OpenSpec.ofChange fnExactBestDeuceSpec)

/-- ITS FALSE NEIGHBOUR: 'it returns false'. Refute it at one input. -/
def fnExactBestDeuceWrong : ChangeSpec := { name := "fnExactBestDeuce", fn := fun _ => fun
  | [d] => { results := [.lit (.bool false)], args := [d] }
  | _ => none }
def FnExactBestDeuceWrongFalsely : Prop := fnExactBestDeuceRow.holds Try.pinned (OpenSpec.ofChange fnExactBestDeuceWrong)

/-- 'laws.FnHighValues': WHATEVER THE INPUT: true; the input reads as it did. -/
def fnHighValuesSpec : ChangeSpec := { name := "fnHighValues", fn := fun _ => fun
  | [d] => { results := [.lit (.bool true)], args := [d] }
  | _ => none }
def fnHighValuesRow : OpenClaim := { program := "ytbngfdekdfaioaa", sum := "325c822d7cc3b3cb98d9bab596a612fe37efe4964101f95649c8e35eebdbbf30", func := "loop.example/g00910/laws.FnHighValues", spec := "fnHighValues", apart := false }
def FnHighValuesSaid : Prop := fnHighValuesRow.holds Try.pinned (OpenSpec.ofChange fnHighValuesSpec)

/-- ITS FALSE NEIGHBOUR: 'it returns false'. Refute it at one input. -/
def fnHighValuesWrong : ChangeSpec := { name := "fnHighValues", fn := fun _ => fun
  | [d] => { results := [.lit (.bool false)], args := [d] }
  | _ => none }
def FnHighValuesWrongFalsely : Prop := fnHighValuesRow.holds Try.pinned (OpenSpec.ofChange fnHighValuesWrong)

/-- 'laws.FnLowValues': WHATEVER THE INPUT: true; the input reads as it did. -/
def fnLowValuesSpec : ChangeSpec := { name := "fnLowValues", fn := fun _ => fun
  | [d] => { results := [.lit (.bool true)], args := [d] }
  | _ => none }
def fnLowValuesRow : OpenClaim := { program := "ytbngfdekdfaioaa", sum := "325c822d7cc3b3cb98d9bab596a612fe37efe4964101f95649c8e35eebdbbf30", func := "loop.example/g00910/laws.FnLowValues", spec := "fnLowValues", apart := false }
def FnLowValuesSaid : Prop := fnLowValuesRow.holds Try.pinned (OpenSpec.ofChange fnLowValuesSpec)

/-- ITS FALSE NEIGHBOUR: 'it returns false'. Refute it at one input. -/
def fnLowValuesWrong : ChangeSpec := { name := "fnLowValues", fn := fun _ => fun
  | [d] => { results := [.lit (.bool false)], args := [d] }
  | _ => none }
def FnLowValuesWrongFalsely : Prop := fnLowValuesRow.holds Try.pinned (OpenSpec.ofChange fnLowValuesWrong)

/-- 'laws.FnExactLowRanks': WHATEVER THE INPUT: true; the input reads as it did. -/
def fnExactLowRanksSpec : ChangeSpec := { name := "fnExactLowRanks", fn := fun _ => fun
  | [d] => { results := [.lit (.bool true)], args := [d] }
  | _ => none }
def fnExactLowRanksRow : OpenClaim := { program := "ytbngfdekdfaioaa", sum := "325c822d7cc3b3cb98d9bab596a612fe37efe4964101f95649c8e35eebdbbf30", func := "loop.example/g00910/laws.FnExactLowRanks", spec := "fnExactLowRanks", recurses := true, apart := false }
def FnExactLowRanksSaid : Prop := fnExactLowRanksRow.holds Try.pinned (OpenSpec.ofChange fnExactLowRanksSpec)

/-- ITS FALSE NEIGHBOUR: 'it returns false'. Refute it at one input. -/
def fnExactLowRanksWrong : ChangeSpec := { name := "fnExactLowRanks", fn := fun _ => fun
  | [d] => { results := [.lit (.bool false)], args := [d] }
  | _ => none }
def FnExactLowRanksWrongFalsely : Prop := fnExactLowRanksRow.holds Try.pinned (OpenSpec.ofChange fnExactLowRanksWrong)

/-- 'laws.FnBestHands': WHATEVER THE INPUT: true; the input reads as it did. -/
def fnBestHandsSpec : ChangeSpec := { name := "fnBestHands", fn := fun _ => fun
  | [d] => { results := [.lit (.bool true)], args := [d] }
  | _ => none }
def fnBestHandsRow : OpenClaim := { program := "ytbngfdekdfaioaa", sum := "325c822d7cc3b3cb98d9bab596a612fe37efe4964101f95649c8e35eebdbbf30", func := "loop.example/g00910/laws.FnBestHands", spec := "fnBestHands", unfollowed := true, recurses := true, apart := false }
def FnBestHandsSaid : Prop := fnBestHandsRow.holds Try.pinned (OpenSpec.ofChange fnBestHandsSpec)

/-- ITS FALSE NEIGHBOUR: 'it returns false'. Refute it at one input. -/
def fnBestHandsWrong : ChangeSpec := { name := "fnBestHands", fn := fun _ => fun
  | [d] => { results := [.lit (.bool false)], args := [d] }
  | _ => none }
def FnBestHandsWrongFalsely : Prop := fnBestHandsRow.holds Try.pinned (OpenSpec.ofChange fnBestHandsWrong)

/-- 'laws.FnBestLows': WHATEVER THE INPUT: true; the input reads as it did. -/
def fnBestLowsSpec : ChangeSpec := { name := "fnBestLows", fn := fun _ => fun
  | [d] => { results := [.lit (.bool true)], args := [d] }
  | _ => none }
def fnBestLowsRow : OpenClaim := { program := "ytbngfdekdfaioaa", sum := "325c822d7cc3b3cb98d9bab596a612fe37efe4964101f95649c8e35eebdbbf30", func := "loop.example/g00910/laws.FnBestLows", spec := "fnBestLows", unfollowed := true, recurses := true, apart := false }
def FnBestLowsSaid : Prop := fnBestLowsRow.holds Try.pinned (OpenSpec.ofChange fnBestLowsSpec)

/-- ITS FALSE NEIGHBOUR: 'it returns false'. Refute it at one input. -/
def fnBestLowsWrong : ChangeSpec := { name := "fnBestLows", fn := fun _ => fun
  | [d] => { results := [.lit (.bool false)], args := [d] }
  | _ => none }
def FnBestLowsWrongFalsely : Prop := fnBestLowsRow.holds Try.pinned (OpenSpec.ofChange fnBestLowsWrong)

/-- 'laws.FnExactBadugiCards': WHATEVER THE INPUT: true; the input reads as it did. -/
def fnExactBadugiCardsSpec : ChangeSpec := { name := "fnExactBadugiCards", fn := fun _ => fun
  | [d] => { results := [.lit (.bool true)], args := [d] }
  | _ => none }
def fnExactBadugiCardsRow : OpenClaim := { program := "ytbngfdekdfaioaa", sum := "325c822d7cc3b3cb98d9bab596a612fe37efe4964101f95649c8e35eebdbbf30", func := "loop.example/g00910/laws.FnExactBadugiCards", spec := "fnExactBadugiCards", unfollowed := true, recurses := true, apart := false }
def FnExactBadugiCardsSaid : Prop := fnExactBadugiCardsRow.holds Try.pinned (OpenSpec.ofChange fnExactBadugiCardsSpec)

/-- ITS FALSE NEIGHBOUR: 'it returns false'. Refute it at one input. -/
def fnExactBadugiCardsWrong : ChangeSpec := { name := "fnExactBadugiCards", fn := fun _ => fun
  | [d] => { results := [.lit (.bool false)], args := [d] }
  | _ => none }
def FnExactBadugiCardsWrongFalsely : Prop := fnExactBadugiCardsRow.holds Try.pinned (OpenSpec.ofChange fnExactBadugiCardsWrong)

/-- 'laws.FnExactBadugiValue': WHATEVER THE INPUT: true; the input reads as it did. -/
def fnExactBadugiValueSpec : ChangeSpec := { name := "fnExactBadugiValue", fn := fun _ => fun
  | [d] => { results := [.lit (.bool true)], args := [d] }
  | _ => none }
def fnExactBadugiValueRow : OpenClaim := { program := "ytbngfdekdfaioaa", sum := "325c822d7cc3b3cb98d9bab596a612fe37efe4964101f95649c8e35eebdbbf30", func := "loop.example/g00910/laws.FnExactBadugiValue", spec := "fnExactBadugiValue", unfollowed := true, recurses := true, apart := false }
def FnExactBadugiValueSaid : Prop := fnExactBadugiValueRow.holds Try.pinned (OpenSpec.ofChange fnExactBadugiValueSpec)

/-- ITS FALSE NEIGHBOUR: 'it returns false'. Refute it at one input. -/
def fnExactBadugiValueWrong : ChangeSpec := { name := "fnExactBadugiValue", fn := fun _ => fun
  | [d] => { results := [.lit (.bool false)], args := [d] }
  | _ => none }
def FnExactBadugiValueWrongFalsely : Prop := fnExactBadugiValueRow.holds Try.pinned (OpenSpec.ofChange fnExactBadugiValueWrong)

/- THE SECOND FORM. 'bulk': how many values and letters a reading holds, each counted each time it is reached (what is shared counts as often as it is met; a slice's spare places count too). A statement '..UptoSaid' is the law's where the arguments, and the package variables that the reading takes, are together of bulk at most 1048576: NARROWER than '..Said'. Prove '..Said' where nothing that the law and all that it calls make is longer than what came in: it says more and counts as full. Else prove '..UptoSaid'. A law counts once. -/
mutual
def uptoBulk {H : Type} : DataW H → Nat
  | .lit (.string bytes) => bytes.length + 1
  | .lit _ => 1
  | .nil => 1
  | .ptr d => uptoBulk d + 1
  | .slice elems spare => uptoBulkAll elems + uptoBulkAll spare + 1
  | .agg parts => uptoBulkAll parts + 1
  | .iface _ d => uptoBulk d + 1
  | .map entries => uptoBulkEntries entries + 1
  | .held _ => 1
def uptoBulkAll {H : Type} : List (DataW H) → Nat
  | [] => 0
  | d :: r => uptoBulk d + uptoBulkAll r
def uptoBulkEntries {H : Type} : List (Lit × DataW H) → Nat
  | [] => 0
  | x :: r => uptoBulkEntry x + uptoBulkEntries r
def uptoBulkEntry {H : Type} : Lit × DataW H → Nat
  | (.string bytes, d) => bytes.length + uptoBulk d + 1
  | (_, d) => uptoBulk d + 1
 end
def uptoSmall : (H : Type) → List (DataW H) → Bool := fun _ ds => decide (uptoBulkAll ds ≤ 1048576)
def OpenSpec.upto (s : _root_.Go.ChangeSpec) : _root_.Go.OpenSpec := { _root_.Go.OpenSpec.ofChange s with cond := some uptoSmall }

/-- 'laws.FnExactCountEights', WHERE WHAT IT READS IS OF BULK AT MOST 1048576: true; the input reads as it did. -/
def fnExactCountEightsUptoRow : OpenClaim := { program := "ytbngfdekdfaioaa", sum := "325c822d7cc3b3cb98d9bab596a612fe37efe4964101f95649c8e35eebdbbf30", func := "loop.example/g00910/laws.FnExactCountEights", spec := "fnExactCountEights", apart := false, narrowed := true }
def FnExactCountEightsUptoSaid : Prop := fnExactCountEightsUptoRow.holds Try.pinned (OpenSpec.upto fnExactCountEightsSpec)

/-- 'laws.FnExactIsEightOrBetter', WHERE WHAT IT READS IS OF BULK AT MOST 1048576: true; the input reads as it did. -/
def fnExactIsEightOrBetterUptoRow : OpenClaim := { program := "ytbngfdekdfaioaa", sum := "325c822d7cc3b3cb98d9bab596a612fe37efe4964101f95649c8e35eebdbbf30", func := "loop.example/g00910/laws.FnExactIsEightOrBetter", spec := "fnExactIsEightOrBetter", apart := false, narrowed := true }
def FnExactIsEightOrBetterUptoSaid : Prop := fnExactIsEightOrBetterUptoRow.holds Try.pinned (OpenSpec.upto fnExactIsEightOrBetterSpec)

/-- 'laws.FnExactValueParts', WHERE WHAT IT READS IS OF BULK AT MOST 1048576: true; the input reads as it did. -/
def fnExactValuePartsUptoRow : OpenClaim := { program := "ytbngfdekdfaioaa", sum := "325c822d7cc3b3cb98d9bab596a612fe37efe4964101f95649c8e35eebdbbf30", func := "loop.example/g00910/laws.FnExactValueParts", spec := "fnExactValueParts", apart := false, narrowed := true }
def FnExactValuePartsUptoSaid : Prop := fnExactValuePartsUptoRow.holds Try.pinned (OpenSpec.upto fnExactValuePartsSpec)

/-- 'laws.FnBadugis', WHERE WHAT IT READS IS OF BULK AT MOST 1048576: true; the input reads as it did. -/
def fnBadugisUptoRow : OpenClaim := { program := "ytbngfdekdfaioaa", sum := "325c822d7cc3b3cb98d9bab596a612fe37efe4964101f95649c8e35eebdbbf30", func := "loop.example/g00910/laws.FnBadugis", spec := "fnBadugis", unfollowed := true, recurses := true, apart := false, narrowed := true }
def FnBadugisUptoSaid : Prop := fnBadugisUptoRow.holds Try.pinned (OpenSpec.upto fnBadugisSpec)

/-- 'laws.FnExactAceValue', WHERE WHAT IT READS IS OF BULK AT MOST 1048576: true; the input reads as it did. -/
def fnExactAceValueUptoRow : OpenClaim := { program := "ytbngfdekdfaioaa", sum := "325c822d7cc3b3cb98d9bab596a612fe37efe4964101f95649c8e35eebdbbf30", func := "loop.example/g00910/laws.FnExactAceValue", spec := "fnExactAceValue", apart := false, narrowed := true }
def FnExactAceValueUptoSaid : Prop := fnExactAceValueUptoRow.holds Try.pinned (OpenSpec.upto fnExactAceValueSpec)

/-- 'laws.FnExactCategoryOf', WHERE WHAT IT READS IS OF BULK AT MOST 1048576: true; the input reads as it did. -/
def fnExactCategoryOfUptoRow : OpenClaim := { program := "ytbngfdekdfaioaa", sum := "325c822d7cc3b3cb98d9bab596a612fe37efe4964101f95649c8e35eebdbbf30", func := "loop.example/g00910/laws.FnExactCategoryOf", spec := "fnExactCategoryOf", apart := false, narrowed := true }
def FnExactCategoryOfUptoSaid : Prop := fnExactCategoryOfUptoRow.holds Try.pinned (OpenSpec.upto fnExactCategoryOfSpec)

/-- 'laws.FnExactKickersOf', WHERE WHAT IT READS IS OF BULK AT MOST 1048576: true; the input reads as it did. -/
def fnExactKickersOfUptoRow : OpenClaim := { program := "ytbngfdekdfaioaa", sum := "325c822d7cc3b3cb98d9bab596a612fe37efe4964101f95649c8e35eebdbbf30", func := "loop.example/g00910/laws.FnExactKickersOf", spec := "fnExactKickersOf", apart := false, narrowed := true }
def FnExactKickersOfUptoSaid : Prop := fnExactKickersOfUptoRow.holds Try.pinned (OpenSpec.upto fnExactKickersOfSpec)

/-- 'laws.FnExactHighValue', WHERE WHAT IT READS IS OF BULK AT MOST 1048576: true; the input reads as it did. -/
def fnExactHighValueUptoRow : OpenClaim := { program := "ytbngfdekdfaioaa", sum := "325c822d7cc3b3cb98d9bab596a612fe37efe4964101f95649c8e35eebdbbf30", func := "loop.example/g00910/laws.FnExactHighValue", spec := "fnExactHighValue", apart := false, narrowed := true }
def FnExactHighValueUptoSaid : Prop := fnExactHighValueUptoRow.holds Try.pinned (OpenSpec.upto fnExactHighValueSpec)

/-- 'laws.FnExactDeuceValue', WHERE WHAT IT READS IS OF BULK AT MOST 1048576: true; the input reads as it did. -/
def fnExactDeuceValueUptoRow : OpenClaim := { program := "ytbngfdekdfaioaa", sum := "325c822d7cc3b3cb98d9bab596a612fe37efe4964101f95649c8e35eebdbbf30", func := "loop.example/g00910/laws.FnExactDeuceValue", spec := "fnExactDeuceValue", apart := false, narrowed := true }
def FnExactDeuceValueUptoSaid : Prop := fnExactDeuceValueUptoRow.holds Try.pinned (OpenSpec.upto fnExactDeuceValueSpec)

/-- 'laws.FnExactBestHigh', WHERE WHAT IT READS IS OF BULK AT MOST 1048576: true; the input reads as it did. -/
def fnExactBestHighUptoRow : OpenClaim := { program := "ytbngfdekdfaioaa", sum := "325c822d7cc3b3cb98d9bab596a612fe37efe4964101f95649c8e35eebdbbf30", func := "loop.example/g00910/laws.FnExactBestHigh", spec := "fnExactBestHigh", recurses := true, apart := false, narrowed := true }
def FnExactBestHighUptoSaid : Prop := fnExactBestHighUptoRow.holds Try.pinned (OpenSpec.upto fnExactBestHighSpec)

/-- 'laws.FnExactCompareHigh', WHERE WHAT IT READS IS OF BULK AT MOST 1048576: true; the input reads as it did. -/
def fnExactCompareHighUptoRow : OpenClaim := { program := "ytbngfdekdfaioaa", sum := "325c822d7cc3b3cb98d9bab596a612fe37efe4964101f95649c8e35eebdbbf30", func := "loop.example/g00910/laws.FnExactCompareHigh", spec := "fnExactCompareHigh", recurses := true, apart := false, narrowed := true }
def FnExactCompareHighUptoSaid : Prop := fnExactCompareHighUptoRow.holds Try.pinned (OpenSpec.upto fnExactCompareHighSpec)

/-- 'laws.FnExactBestAce', WHERE WHAT IT READS IS OF BULK AT MOST 1048576: true; the input reads as it did. -/
def fnExactBestAceUptoRow : OpenClaim := { program := "ytbngfdekdfaioaa", sum := "325c822d7cc3b3cb98d9bab596a612fe37efe4964101f95649c8e35eebdbbf30", func := "loop.example/g00910/laws.FnExactBestAce", spec := "fnExactBestAce", unfollowed := true, recurses := true, apart := false, narrowed := true }
def FnExactBestAceUptoSaid : Prop := fnExactBestAceUptoRow.holds Try.pinned (OpenSpec.upto fnExactBestAceSpec)

/-- 'laws.FnExactBestFive', WHERE WHAT IT READS IS OF BULK AT MOST 1048576: true; the input reads as it did. -/
def fnExactBestFiveUptoRow : OpenClaim := { program := "ytbngfdekdfaioaa", sum := "325c822d7cc3b3cb98d9bab596a612fe37efe4964101f95649c8e35eebdbbf30", func := "loop.example/g00910/laws.FnExactBestFive", spec := "fnExactBestFive", unfollowed := true, recurses := true, apart := false, narrowed := true }
def FnExactBestFiveUptoSaid : Prop := fnExactBestFiveUptoRow.holds Try.pinned (OpenSpec.upto fnExactBestFiveSpec)

/-- 'laws.FnExactBestDeuce', WHERE WHAT IT READS IS OF BULK AT MOST 1048576: true; the input reads as it did. -/
def fnExactBestDeuceUptoRow : OpenClaim := { program := "ytbngfdekdfaioaa", sum := "325c822d7cc3b3cb98d9bab596a612fe37efe4964101f95649c8e35eebdbbf30", func := "loop.example/g00910/laws.FnExactBestDeuce", spec := "fnExactBestDeuce", unfollowed := true, recurses := true, apart := false, narrowed := true }
def FnExactBestDeuceUptoSaid : Prop := fnExactBestDeuceUptoRow.holds Try.pinned (OpenSpec.upto fnExactBestDeuceSpec)

/-- 'laws.FnHighValues', WHERE WHAT IT READS IS OF BULK AT MOST 1048576: true; the input reads as it did. -/
def fnHighValuesUptoRow : OpenClaim := { program := "ytbngfdekdfaioaa", sum := "325c822d7cc3b3cb98d9bab596a612fe37efe4964101f95649c8e35eebdbbf30", func := "loop.example/g00910/laws.FnHighValues", spec := "fnHighValues", apart := false, narrowed := true }
def FnHighValuesUptoSaid : Prop := fnHighValuesUptoRow.holds Try.pinned (OpenSpec.upto fnHighValuesSpec)

/-- 'laws.FnLowValues', WHERE WHAT IT READS IS OF BULK AT MOST 1048576: true; the input reads as it did. -/
def fnLowValuesUptoRow : OpenClaim := { program := "ytbngfdekdfaioaa", sum := "325c822d7cc3b3cb98d9bab596a612fe37efe4964101f95649c8e35eebdbbf30", func := "loop.example/g00910/laws.FnLowValues", spec := "fnLowValues", apart := false, narrowed := true }
def FnLowValuesUptoSaid : Prop := fnLowValuesUptoRow.holds Try.pinned (OpenSpec.upto fnLowValuesSpec)

/-- 'laws.FnExactLowRanks', WHERE WHAT IT READS IS OF BULK AT MOST 1048576: true; the input reads as it did. -/
def fnExactLowRanksUptoRow : OpenClaim := { program := "ytbngfdekdfaioaa", sum := "325c822d7cc3b3cb98d9bab596a612fe37efe4964101f95649c8e35eebdbbf30", func := "loop.example/g00910/laws.FnExactLowRanks", spec := "fnExactLowRanks", recurses := true, apart := false, narrowed := true }
def FnExactLowRanksUptoSaid : Prop := fnExactLowRanksUptoRow.holds Try.pinned (OpenSpec.upto fnExactLowRanksSpec)

/-- 'laws.FnBestHands', WHERE WHAT IT READS IS OF BULK AT MOST 1048576: true; the input reads as it did. -/
def fnBestHandsUptoRow : OpenClaim := { program := "ytbngfdekdfaioaa", sum := "325c822d7cc3b3cb98d9bab596a612fe37efe4964101f95649c8e35eebdbbf30", func := "loop.example/g00910/laws.FnBestHands", spec := "fnBestHands", unfollowed := true, recurses := true, apart := false, narrowed := true }
def FnBestHandsUptoSaid : Prop := fnBestHandsUptoRow.holds Try.pinned (OpenSpec.upto fnBestHandsSpec)

/-- 'laws.FnBestLows', WHERE WHAT IT READS IS OF BULK AT MOST 1048576: true; the input reads as it did. -/
def fnBestLowsUptoRow : OpenClaim := { program := "ytbngfdekdfaioaa", sum := "325c822d7cc3b3cb98d9bab596a612fe37efe4964101f95649c8e35eebdbbf30", func := "loop.example/g00910/laws.FnBestLows", spec := "fnBestLows", unfollowed := true, recurses := true, apart := false, narrowed := true }
def FnBestLowsUptoSaid : Prop := fnBestLowsUptoRow.holds Try.pinned (OpenSpec.upto fnBestLowsSpec)

/-- 'laws.FnExactBadugiCards', WHERE WHAT IT READS IS OF BULK AT MOST 1048576: true; the input reads as it did. -/
def fnExactBadugiCardsUptoRow : OpenClaim := { program := "ytbngfdekdfaioaa", sum := "325c822d7cc3b3cb98d9bab596a612fe37efe4964101f95649c8e35eebdbbf30", func := "loop.example/g00910/laws.FnExactBadugiCards", spec := "fnExactBadugiCards", unfollowed := true, recurses := true, apart := false, narrowed := true }
def FnExactBadugiCardsUptoSaid : Prop := fnExactBadugiCardsUptoRow.holds Try.pinned (OpenSpec.upto fnExactBadugiCardsSpec)

/-- 'laws.FnExactBadugiValue', WHERE WHAT IT READS IS OF BULK AT MOST 1048576: true; the input reads as it did. -/
def fnExactBadugiValueUptoRow : OpenClaim := { program := "ytbngfdekdfaioaa", sum := "325c822d7cc3b3cb98d9bab596a612fe37efe4964101f95649c8e35eebdbbf30", func := "loop.example/g00910/laws.FnExactBadugiValue", spec := "fnExactBadugiValue", unfollowed := true, recurses := true, apart := false, narrowed := true }
def FnExactBadugiValueUptoSaid : Prop := fnExactBadugiValueUptoRow.holds Try.pinned (OpenSpec.upto fnExactBadugiValueSpec)

end Rows
end Go.Proofs.Ytbngfdekdfaioaa
