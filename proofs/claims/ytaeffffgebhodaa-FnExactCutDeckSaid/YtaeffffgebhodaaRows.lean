/-
  No cell of these rows narrows 'for every input' (looked for: loops, veiled, ifaces, maps, wideKeys, modest, calm, conditions, laid).
  DERIVED. THE GIVEN ROWS OF THIS SEAT. 23 by the template 'for every input the law returns true; each argument reads behind the call as it read before'; 0 by the template 'total and deterministic' (their statements: YtaeffffgebhodaaTotals.lean).
  GIVEN WITH THE SEED: the statements are not yours to turn. If you find one false, say at which input.
  Laid BY PROGRAM, IN A SANDBOX (cutbox-rows.mjs): the forced cells as the released guide's own fill.sh prints them over the translation 338adf3020eaff9f… (all of the seat's roots in one cut). By AI agents, Wed Nov 11 2026. No macro, syntax, notation, axiom, sorry.
-/
import Derived.Test.YtaeffffgebhodaaChecked
import GoSem.Claim
import GoSem.ClaimJoined
import GoSem.ClaimMapViews
import Derived.JoinedTies
import Derived.KernelRfl
namespace Go.Proofs.Ytaeffffgebhodaa
/- THE CELL 'sum', in the pinned program and in every row, IS THE sha256 OF THE DUMP (.gsa) THAT YtaeffffgebhodaaProg.lean LOADS. Nothing in Lean hashes anything: it is a label: what it is worth is what the hold of that sum in a sandbox is worth. -/
noncomputable def Try.pinned : Pinned := { name := "ytaeffffgebhodaa", sum := "338adf3020eaff9fb5b7e4fed74dc10d97310d05ccf4e784386273f63200f4e3", checked := Try.checked }
namespace Rows
def none {H : Type} : Left H := { results := [], args := [] }

/-- 'laws.FnExactCardOf': WHATEVER THE INPUT: true; the input reads as it did. -/
def fnExactCardOfSpec : ChangeSpec := { name := "fnExactCardOf", fn := fun _ => fun
  | [d1, d2] => { results := [.lit (.bool true)], args := [d1, d2] }
  | _ => none }
def fnExactCardOfRow : OpenClaim := { program := "ytaeffffgebhodaa", sum := "338adf3020eaff9fb5b7e4fed74dc10d97310d05ccf4e784386273f63200f4e3", func := "loop.example/g00910/laws.FnExactCardOf", spec := "fnExactCardOf", apart := false }
def FnExactCardOfSaid : Prop := fnExactCardOfRow.holds Try.pinned (OpenSpec.ofChange fnExactCardOfSpec)

/-- ITS FALSE NEIGHBOUR: 'it returns false'. Refute it at one input. -/
def fnExactCardOfWrong : ChangeSpec := { name := "fnExactCardOf", fn := fun _ => fun
  | [d1, d2] => { results := [.lit (.bool false)], args := [d1, d2] }
  | _ => none }
def FnExactCardOfWrongFalsely : Prop := fnExactCardOfRow.holds Try.pinned (OpenSpec.ofChange fnExactCardOfWrong)

/-- 'laws.FnExactRankOf': WHATEVER THE INPUT: true; the input reads as it did. -/
def fnExactRankOfSpec : ChangeSpec := { name := "fnExactRankOf", fn := fun _ => fun
  | [d] => { results := [.lit (.bool true)], args := [d] }
  | _ => none }
def fnExactRankOfRow : OpenClaim := { program := "ytaeffffgebhodaa", sum := "338adf3020eaff9fb5b7e4fed74dc10d97310d05ccf4e784386273f63200f4e3", func := "loop.example/g00910/laws.FnExactRankOf", spec := "fnExactRankOf", apart := false }
def FnExactRankOfSaid : Prop := fnExactRankOfRow.holds Try.pinned (OpenSpec.ofChange fnExactRankOfSpec)

/-- ITS FALSE NEIGHBOUR: 'it returns false'. Refute it at one input. -/
def fnExactRankOfWrong : ChangeSpec := { name := "fnExactRankOf", fn := fun _ => fun
  | [d] => { results := [.lit (.bool false)], args := [d] }
  | _ => none }
def FnExactRankOfWrongFalsely : Prop := fnExactRankOfRow.holds Try.pinned (OpenSpec.ofChange fnExactRankOfWrong)

/-- 'laws.FnExactSuitOf': WHATEVER THE INPUT: true; the input reads as it did. -/
def fnExactSuitOfSpec : ChangeSpec := { name := "fnExactSuitOf", fn := fun _ => fun
  | [d] => { results := [.lit (.bool true)], args := [d] }
  | _ => none }
def fnExactSuitOfRow : OpenClaim := { program := "ytaeffffgebhodaa", sum := "338adf3020eaff9fb5b7e4fed74dc10d97310d05ccf4e784386273f63200f4e3", func := "loop.example/g00910/laws.FnExactSuitOf", spec := "fnExactSuitOf", apart := false }
def FnExactSuitOfSaid : Prop := fnExactSuitOfRow.holds Try.pinned (OpenSpec.ofChange fnExactSuitOfSpec)

/-- ITS FALSE NEIGHBOUR: 'it returns false'. Refute it at one input. -/
def fnExactSuitOfWrong : ChangeSpec := { name := "fnExactSuitOf", fn := fun _ => fun
  | [d] => { results := [.lit (.bool false)], args := [d] }
  | _ => none }
def FnExactSuitOfWrongFalsely : Prop := fnExactSuitOfRow.holds Try.pinned (OpenSpec.ofChange fnExactSuitOfWrong)

/-- 'laws.FnExactNextSeed': WHATEVER THE INPUT: true; the input reads as it did. -/
def fnExactNextSeedSpec : ChangeSpec := { name := "fnExactNextSeed", fn := fun _ => fun
  | [d] => { results := [.lit (.bool true)], args := [d] }
  | _ => none }
def fnExactNextSeedRow : OpenClaim := { program := "ytaeffffgebhodaa", sum := "338adf3020eaff9fb5b7e4fed74dc10d97310d05ccf4e784386273f63200f4e3", func := "loop.example/g00910/laws.FnExactNextSeed", spec := "fnExactNextSeed", apart := false }
def FnExactNextSeedSaid : Prop := fnExactNextSeedRow.holds Try.pinned (OpenSpec.ofChange fnExactNextSeedSpec)

/-- ITS FALSE NEIGHBOUR: 'it returns false'. Refute it at one input. -/
def fnExactNextSeedWrong : ChangeSpec := { name := "fnExactNextSeed", fn := fun _ => fun
  | [d] => { results := [.lit (.bool false)], args := [d] }
  | _ => none }
def FnExactNextSeedWrongFalsely : Prop := fnExactNextSeedRow.holds Try.pinned (OpenSpec.ofChange fnExactNextSeedWrong)

/-- 'laws.FnExactAreCards': WHATEVER THE INPUT: true; the input reads as it did. -/
def fnExactAreCardsSpec : ChangeSpec := { name := "fnExactAreCards", fn := fun _ => fun
  | [d] => { results := [.lit (.bool true)], args := [d] }
  | _ => none }
def fnExactAreCardsRow : OpenClaim := { program := "ytaeffffgebhodaa", sum := "338adf3020eaff9fb5b7e4fed74dc10d97310d05ccf4e784386273f63200f4e3", func := "loop.example/g00910/laws.FnExactAreCards", spec := "fnExactAreCards", apart := false }
def FnExactAreCardsSaid : Prop := fnExactAreCardsRow.holds Try.pinned (OpenSpec.ofChange fnExactAreCardsSpec)

/-- ITS FALSE NEIGHBOUR: 'it returns false'. Refute it at one input. -/
def fnExactAreCardsWrong : ChangeSpec := { name := "fnExactAreCards", fn := fun _ => fun
  | [d] => { results := [.lit (.bool false)], args := [d] }
  | _ => none }
def FnExactAreCardsWrongFalsely : Prop := fnExactAreCardsRow.holds Try.pinned (OpenSpec.ofChange fnExactAreCardsWrong)

/-- 'laws.FnExactIsDeck': WHATEVER THE INPUT: true; the input reads as it did. -/
def fnExactIsDeckSpec : ChangeSpec := { name := "fnExactIsDeck", fn := fun _ => fun
  | [d] => { results := [.lit (.bool true)], args := [d] }
  | _ => none }
def fnExactIsDeckRow : OpenClaim := { program := "ytaeffffgebhodaa", sum := "338adf3020eaff9fb5b7e4fed74dc10d97310d05ccf4e784386273f63200f4e3", func := "loop.example/g00910/laws.FnExactIsDeck", spec := "fnExactIsDeck", apart := false }
def FnExactIsDeckSaid : Prop := fnExactIsDeckRow.holds Try.pinned (OpenSpec.ofChange fnExactIsDeckSpec)

/-- ITS FALSE NEIGHBOUR: 'it returns false'. Refute it at one input. -/
def fnExactIsDeckWrong : ChangeSpec := { name := "fnExactIsDeck", fn := fun _ => fun
  | [d] => { results := [.lit (.bool false)], args := [d] }
  | _ => none }
def FnExactIsDeckWrongFalsely : Prop := fnExactIsDeckRow.holds Try.pinned (OpenSpec.ofChange fnExactIsDeckWrong)

/-- 'laws.FnExactPlaceOf': WHATEVER THE INPUT: true; the input reads as it did. -/
def fnExactPlaceOfSpec : ChangeSpec := { name := "fnExactPlaceOf", fn := fun _ => fun
  | [d1, d2] => { results := [.lit (.bool true)], args := [d1, d2] }
  | _ => none }
def fnExactPlaceOfRow : OpenClaim := { program := "ytaeffffgebhodaa", sum := "338adf3020eaff9fb5b7e4fed74dc10d97310d05ccf4e784386273f63200f4e3", func := "loop.example/g00910/laws.FnExactPlaceOf", spec := "fnExactPlaceOf", apart := false }
def FnExactPlaceOfSaid : Prop := fnExactPlaceOfRow.holds Try.pinned (OpenSpec.ofChange fnExactPlaceOfSpec)

/-- ITS FALSE NEIGHBOUR: 'it returns false'. Refute it at one input. -/
def fnExactPlaceOfWrong : ChangeSpec := { name := "fnExactPlaceOf", fn := fun _ => fun
  | [d1, d2] => { results := [.lit (.bool false)], args := [d1, d2] }
  | _ => none }
def FnExactPlaceOfWrongFalsely : Prop := fnExactPlaceOfRow.holds Try.pinned (OpenSpec.ofChange fnExactPlaceOfWrong)

/-- 'laws.FnExactRiffleDeck': WHATEVER THE INPUT: true; the input reads as it did. -/
def fnExactRiffleDeckSpec : ChangeSpec := { name := "fnExactRiffleDeck", fn := fun _ => fun
  | [d] => { results := [.lit (.bool true)], args := [d] }
  | _ => none }
def fnExactRiffleDeckRow : OpenClaim := { program := "ytaeffffgebhodaa", sum := "338adf3020eaff9fb5b7e4fed74dc10d97310d05ccf4e784386273f63200f4e3", func := "loop.example/g00910/laws.FnExactRiffleDeck", spec := "fnExactRiffleDeck", apart := false }
def FnExactRiffleDeckSaid : Prop := fnExactRiffleDeckRow.holds Try.pinned (OpenSpec.ofChange fnExactRiffleDeckSpec)

/-- ITS FALSE NEIGHBOUR: 'it returns false'. Refute it at one input. -/
def fnExactRiffleDeckWrong : ChangeSpec := { name := "fnExactRiffleDeck", fn := fun _ => fun
  | [d] => { results := [.lit (.bool false)], args := [d] }
  | _ => none }
def FnExactRiffleDeckWrongFalsely : Prop := fnExactRiffleDeckRow.holds Try.pinned (OpenSpec.ofChange fnExactRiffleDeckWrong)

/-- 'laws.FnExactUnriffleDeck': WHATEVER THE INPUT: true; the input reads as it did. -/
def fnExactUnriffleDeckSpec : ChangeSpec := { name := "fnExactUnriffleDeck", fn := fun _ => fun
  | [d] => { results := [.lit (.bool true)], args := [d] }
  | _ => none }
def fnExactUnriffleDeckRow : OpenClaim := { program := "ytaeffffgebhodaa", sum := "338adf3020eaff9fb5b7e4fed74dc10d97310d05ccf4e784386273f63200f4e3", func := "loop.example/g00910/laws.FnExactUnriffleDeck", spec := "fnExactUnriffleDeck", apart := false }
def FnExactUnriffleDeckSaid : Prop := fnExactUnriffleDeckRow.holds Try.pinned (OpenSpec.ofChange fnExactUnriffleDeckSpec)

/-- ITS FALSE NEIGHBOUR: 'it returns false'. Refute it at one input. -/
def fnExactUnriffleDeckWrong : ChangeSpec := { name := "fnExactUnriffleDeck", fn := fun _ => fun
  | [d] => { results := [.lit (.bool false)], args := [d] }
  | _ => none }
def FnExactUnriffleDeckWrongFalsely : Prop := fnExactUnriffleDeckRow.holds Try.pinned (OpenSpec.ofChange fnExactUnriffleDeckWrong)

/-- 'laws.FnExactRanksIn': WHATEVER THE INPUT: true; the input reads as it did. -/
def fnExactRanksInSpec : ChangeSpec := { name := "fnExactRanksIn", fn := fun _ => fun
  | [d] => { results := [.lit (.bool true)], args := [d] }
  | _ => none }
def fnExactRanksInRow : OpenClaim := { program := "ytaeffffgebhodaa", sum := "338adf3020eaff9fb5b7e4fed74dc10d97310d05ccf4e784386273f63200f4e3", func := "loop.example/g00910/laws.FnExactRanksIn", spec := "fnExactRanksIn", apart := false }
def FnExactRanksInSaid : Prop := fnExactRanksInRow.holds Try.pinned (OpenSpec.ofChange fnExactRanksInSpec)

/-- ITS FALSE NEIGHBOUR: 'it returns false'. Refute it at one input. -/
def fnExactRanksInWrong : ChangeSpec := { name := "fnExactRanksIn", fn := fun _ => fun
  | [d] => { results := [.lit (.bool false)], args := [d] }
  | _ => none }
def FnExactRanksInWrongFalsely : Prop := fnExactRanksInRow.holds Try.pinned (OpenSpec.ofChange fnExactRanksInWrong)

/-- 'laws.FnExactSuitsIn': WHATEVER THE INPUT: true; the input reads as it did. -/
def fnExactSuitsInSpec : ChangeSpec := { name := "fnExactSuitsIn", fn := fun _ => fun
  | [d] => { results := [.lit (.bool true)], args := [d] }
  | _ => none }
def fnExactSuitsInRow : OpenClaim := { program := "ytaeffffgebhodaa", sum := "338adf3020eaff9fb5b7e4fed74dc10d97310d05ccf4e784386273f63200f4e3", func := "loop.example/g00910/laws.FnExactSuitsIn", spec := "fnExactSuitsIn", apart := false }
def FnExactSuitsInSaid : Prop := fnExactSuitsInRow.holds Try.pinned (OpenSpec.ofChange fnExactSuitsInSpec)

/-- ITS FALSE NEIGHBOUR: 'it returns false'. Refute it at one input. -/
def fnExactSuitsInWrong : ChangeSpec := { name := "fnExactSuitsIn", fn := fun _ => fun
  | [d] => { results := [.lit (.bool false)], args := [d] }
  | _ => none }
def FnExactSuitsInWrongFalsely : Prop := fnExactSuitsInRow.holds Try.pinned (OpenSpec.ofChange fnExactSuitsInWrong)

/-- 'laws.FnExactShuffledDeck': WHATEVER THE INPUT: true; the input reads as it did. -/
def fnExactShuffledDeckSpec : ChangeSpec := { name := "fnExactShuffledDeck", fn := fun _ => fun
  | [d] => { results := [.lit (.bool true)], args := [d] }
  | _ => none }
def fnExactShuffledDeckRow : OpenClaim := { program := "ytaeffffgebhodaa", sum := "338adf3020eaff9fb5b7e4fed74dc10d97310d05ccf4e784386273f63200f4e3", func := "loop.example/g00910/laws.FnExactShuffledDeck", spec := "fnExactShuffledDeck", apart := false }
def FnExactShuffledDeckSaid : Prop := fnExactShuffledDeckRow.holds Try.pinned (OpenSpec.ofChange fnExactShuffledDeckSpec)

/-- ITS FALSE NEIGHBOUR: 'it returns false'. Refute it at one input. -/
def fnExactShuffledDeckWrong : ChangeSpec := { name := "fnExactShuffledDeck", fn := fun _ => fun
  | [d] => { results := [.lit (.bool false)], args := [d] }
  | _ => none }
def FnExactShuffledDeckWrongFalsely : Prop := fnExactShuffledDeckRow.holds Try.pinned (OpenSpec.ofChange fnExactShuffledDeckWrong)

/-- 'laws.FnExactCardsText': WHATEVER THE INPUT: true; the input reads as it did. -/
def fnExactCardsTextSpec : ChangeSpec := { name := "fnExactCardsText", fn := fun _ => fun
  | [d] => { results := [.lit (.bool true)], args := [d] }
  | _ => none }
def fnExactCardsTextRow : OpenClaim := { program := "ytaeffffgebhodaa", sum := "338adf3020eaff9fb5b7e4fed74dc10d97310d05ccf4e784386273f63200f4e3", func := "loop.example/g00910/laws.FnExactCardsText", spec := "fnExactCardsText", inPlace := ["internal/abi.NoEscape"], apart := false }
def FnExactCardsTextSaid : Prop := fnExactCardsTextRow.holds Try.pinned (OpenSpec.ofChange fnExactCardsTextSpec)

/-- ITS FALSE NEIGHBOUR: 'it returns false'. Refute it at one input. -/
def fnExactCardsTextWrong : ChangeSpec := { name := "fnExactCardsText", fn := fun _ => fun
  | [d] => { results := [.lit (.bool false)], args := [d] }
  | _ => none }
def FnExactCardsTextWrongFalsely : Prop := fnExactCardsTextRow.holds Try.pinned (OpenSpec.ofChange fnExactCardsTextWrong)

/-- 'laws.FnExactReadCards': WHATEVER THE INPUT: true; the input reads as it did. -/
def fnExactReadCardsSpec : ChangeSpec := { name := "fnExactReadCards", fn := fun _ => fun
  | [d] => { results := [.lit (.bool true)], args := [d] }
  | _ => none }
def fnExactReadCardsRow : OpenClaim := { program := "ytaeffffgebhodaa", sum := "338adf3020eaff9fb5b7e4fed74dc10d97310d05ccf4e784386273f63200f4e3", func := "loop.example/g00910/laws.FnExactReadCards", spec := "fnExactReadCards", inPlace := ["internal/bytealg.IndexByteString"], apart := false }
def FnExactReadCardsSaid : Prop := fnExactReadCardsRow.holds Try.pinned (OpenSpec.ofChange fnExactReadCardsSpec)

/-- ITS FALSE NEIGHBOUR: 'it returns false'. Refute it at one input. -/
def fnExactReadCardsWrong : ChangeSpec := { name := "fnExactReadCards", fn := fun _ => fun
  | [d] => { results := [.lit (.bool false)], args := [d] }
  | _ => none }
def FnExactReadCardsWrongFalsely : Prop := fnExactReadCardsRow.holds Try.pinned (OpenSpec.ofChange fnExactReadCardsWrong)

/-- 'laws.FnExactRestOfDeck': WHATEVER THE INPUT: true; the input reads as it did. -/
def fnExactRestOfDeckSpec : ChangeSpec := { name := "fnExactRestOfDeck", fn := fun _ => fun
  | [d1, d2] => { results := [.lit (.bool true)], args := [d1, d2] }
  | _ => none }
def fnExactRestOfDeckRow : OpenClaim := { program := "ytaeffffgebhodaa", sum := "338adf3020eaff9fb5b7e4fed74dc10d97310d05ccf4e784386273f63200f4e3", func := "loop.example/g00910/laws.FnExactRestOfDeck", spec := "fnExactRestOfDeck", apart := false }
def FnExactRestOfDeckSaid : Prop := fnExactRestOfDeckRow.holds Try.pinned (OpenSpec.ofChange fnExactRestOfDeckSpec)

/-- ITS FALSE NEIGHBOUR: 'it returns false'. Refute it at one input. -/
def fnExactRestOfDeckWrong : ChangeSpec := { name := "fnExactRestOfDeck", fn := fun _ => fun
  | [d1, d2] => { results := [.lit (.bool false)], args := [d1, d2] }
  | _ => none }
def FnExactRestOfDeckWrongFalsely : Prop := fnExactRestOfDeckRow.holds Try.pinned (OpenSpec.ofChange fnExactRestOfDeckWrong)

/-- 'laws.FnExactOtherCards': WHATEVER THE INPUT: true; the input reads as it did. -/
def fnExactOtherCardsSpec : ChangeSpec := { name := "fnExactOtherCards", fn := fun _ => fun
  | [d] => { results := [.lit (.bool true)], args := [d] }
  | _ => none }
def fnExactOtherCardsRow : OpenClaim := { program := "ytaeffffgebhodaa", sum := "338adf3020eaff9fb5b7e4fed74dc10d97310d05ccf4e784386273f63200f4e3", func := "loop.example/g00910/laws.FnExactOtherCards", spec := "fnExactOtherCards", apart := false }
def FnExactOtherCardsSaid : Prop := fnExactOtherCardsRow.holds Try.pinned (OpenSpec.ofChange fnExactOtherCardsSpec)

/-- ITS FALSE NEIGHBOUR: 'it returns false'. Refute it at one input. -/
def fnExactOtherCardsWrong : ChangeSpec := { name := "fnExactOtherCards", fn := fun _ => fun
  | [d] => { results := [.lit (.bool false)], args := [d] }
  | _ => none }
def FnExactOtherCardsWrongFalsely : Prop := fnExactOtherCardsRow.holds Try.pinned (OpenSpec.ofChange fnExactOtherCardsWrong)

/-- 'laws.FnExactCutDeck': WHATEVER THE INPUT: true; the input reads as it did. -/
def fnExactCutDeckSpec : ChangeSpec := { name := "fnExactCutDeck", fn := fun _ => fun
  | [d1, d2] => { results := [.lit (.bool true)], args := [d1, d2] }
  | _ => none }
def fnExactCutDeckRow : OpenClaim := { program := "ytaeffffgebhodaa", sum := "338adf3020eaff9fb5b7e4fed74dc10d97310d05ccf4e784386273f63200f4e3", func := "loop.example/g00910/laws.FnExactCutDeck", spec := "fnExactCutDeck", apart := false }
def FnExactCutDeckSaid : Prop := fnExactCutDeckRow.holds Try.pinned (OpenSpec.ofChange fnExactCutDeckSpec)

/-- ITS FALSE NEIGHBOUR: 'it returns false'. Refute it at one input. -/
def fnExactCutDeckWrong : ChangeSpec := { name := "fnExactCutDeck", fn := fun _ => fun
  | [d1, d2] => { results := [.lit (.bool false)], args := [d1, d2] }
  | _ => none }
def FnExactCutDeckWrongFalsely : Prop := fnExactCutDeckRow.holds Try.pinned (OpenSpec.ofChange fnExactCutDeckWrong)

/-- 'laws.FnExactDealHands': WHATEVER THE INPUT: true; the input reads as it did. -/
def fnExactDealHandsSpec : ChangeSpec := { name := "fnExactDealHands", fn := fun _ => fun
  | [d1, d2, d3] => { results := [.lit (.bool true)], args := [d1, d2, d3] }
  | _ => none }
def fnExactDealHandsRow : OpenClaim := { program := "ytaeffffgebhodaa", sum := "338adf3020eaff9fb5b7e4fed74dc10d97310d05ccf4e784386273f63200f4e3", func := "loop.example/g00910/laws.FnExactDealHands", spec := "fnExactDealHands", apart := false }
def FnExactDealHandsSaid : Prop := fnExactDealHandsRow.holds Try.pinned (OpenSpec.ofChange fnExactDealHandsSpec)

/-- ITS FALSE NEIGHBOUR: 'it returns false'. Refute it at one input. -/
def fnExactDealHandsWrong : ChangeSpec := { name := "fnExactDealHands", fn := fun _ => fun
  | [d1, d2, d3] => { results := [.lit (.bool false)], args := [d1, d2, d3] }
  | _ => none }
def FnExactDealHandsWrongFalsely : Prop := fnExactDealHandsRow.holds Try.pinned (OpenSpec.ofChange fnExactDealHandsWrong)

/-- 'laws.FnRiffles': WHATEVER THE INPUT: true; the input reads as it did. -/
def fnRifflesSpec : ChangeSpec := { name := "fnRiffles", fn := fun _ => fun
  | [d] => { results := [.lit (.bool true)], args := [d] }
  | _ => none }
def fnRifflesRow : OpenClaim := { program := "ytaeffffgebhodaa", sum := "338adf3020eaff9fb5b7e4fed74dc10d97310d05ccf4e784386273f63200f4e3", func := "loop.example/g00910/laws.FnRiffles", spec := "fnRiffles", apart := false }
def FnRifflesSaid : Prop := fnRifflesRow.holds Try.pinned (OpenSpec.ofChange fnRifflesSpec)

/-- ITS FALSE NEIGHBOUR: 'it returns false'. Refute it at one input. -/
def fnRifflesWrong : ChangeSpec := { name := "fnRiffles", fn := fun _ => fun
  | [d] => { results := [.lit (.bool false)], args := [d] }
  | _ => none }
def FnRifflesWrongFalsely : Prop := fnRifflesRow.holds Try.pinned (OpenSpec.ofChange fnRifflesWrong)

/-- 'laws.FnCounts': WHATEVER THE INPUT: true; the input reads as it did. -/
def fnCountsSpec : ChangeSpec := { name := "fnCounts", fn := fun _ => fun
  | [d] => { results := [.lit (.bool true)], args := [d] }
  | _ => none }
def fnCountsRow : OpenClaim := { program := "ytaeffffgebhodaa", sum := "338adf3020eaff9fb5b7e4fed74dc10d97310d05ccf4e784386273f63200f4e3", func := "loop.example/g00910/laws.FnCounts", spec := "fnCounts", apart := false }
def FnCountsSaid : Prop := fnCountsRow.holds Try.pinned (OpenSpec.ofChange fnCountsSpec)

/-- ITS FALSE NEIGHBOUR: 'it returns false'. Refute it at one input. -/
def fnCountsWrong : ChangeSpec := { name := "fnCounts", fn := fun _ => fun
  | [d] => { results := [.lit (.bool false)], args := [d] }
  | _ => none }
def FnCountsWrongFalsely : Prop := fnCountsRow.holds Try.pinned (OpenSpec.ofChange fnCountsWrong)

/-- 'laws.FnShuffles': WHATEVER THE INPUT: true; the input reads as it did. -/
def fnShufflesSpec : ChangeSpec := { name := "fnShuffles", fn := fun _ => fun
  | [d] => { results := [.lit (.bool true)], args := [d] }
  | _ => none }
def fnShufflesRow : OpenClaim := { program := "ytaeffffgebhodaa", sum := "338adf3020eaff9fb5b7e4fed74dc10d97310d05ccf4e784386273f63200f4e3", func := "loop.example/g00910/laws.FnShuffles", spec := "fnShuffles", apart := false }
def FnShufflesSaid : Prop := fnShufflesRow.holds Try.pinned (OpenSpec.ofChange fnShufflesSpec)

/-- ITS FALSE NEIGHBOUR: 'it returns false'. Refute it at one input. -/
def fnShufflesWrong : ChangeSpec := { name := "fnShuffles", fn := fun _ => fun
  | [d] => { results := [.lit (.bool false)], args := [d] }
  | _ => none }
def FnShufflesWrongFalsely : Prop := fnShufflesRow.holds Try.pinned (OpenSpec.ofChange fnShufflesWrong)

/-- 'laws.FnDealt': WHATEVER THE INPUT: true; the input reads as it did. -/
def fnDealtSpec : ChangeSpec := { name := "fnDealt", fn := fun _ => fun
  | [d] => { results := [.lit (.bool true)], args := [d] }
  | _ => none }
def fnDealtRow : OpenClaim := { program := "ytaeffffgebhodaa", sum := "338adf3020eaff9fb5b7e4fed74dc10d97310d05ccf4e784386273f63200f4e3", func := "loop.example/g00910/laws.FnDealt", spec := "fnDealt", apart := false }
def FnDealtSaid : Prop := fnDealtRow.holds Try.pinned (OpenSpec.ofChange fnDealtSpec)

/-- ITS FALSE NEIGHBOUR: 'it returns false'. Refute it at one input. -/
def fnDealtWrong : ChangeSpec := { name := "fnDealt", fn := fun _ => fun
  | [d] => { results := [.lit (.bool false)], args := [d] }
  | _ => none }
def FnDealtWrongFalsely : Prop := fnDealtRow.holds Try.pinned (OpenSpec.ofChange fnDealtWrong)

/-- 'laws.FnCards': WHATEVER THE INPUT: true; the input reads as it did. -/
def fnCardsSpec : ChangeSpec := { name := "fnCards", fn := fun _ => fun
  | [d] => { results := [.lit (.bool true)], args := [d] }
  | _ => none }
def fnCardsRow : OpenClaim := { program := "ytaeffffgebhodaa", sum := "338adf3020eaff9fb5b7e4fed74dc10d97310d05ccf4e784386273f63200f4e3", func := "loop.example/g00910/laws.FnCards", spec := "fnCards", inPlace := ["internal/abi.NoEscape", "internal/bytealg.IndexByteString"], apart := false }
def FnCardsSaid : Prop := fnCardsRow.holds Try.pinned (OpenSpec.ofChange fnCardsSpec)

/-- ITS FALSE NEIGHBOUR: 'it returns false'. Refute it at one input. -/
def fnCardsWrong : ChangeSpec := { name := "fnCards", fn := fun _ => fun
  | [d] => { results := [.lit (.bool false)], args := [d] }
  | _ => none }
def FnCardsWrongFalsely : Prop := fnCardsRow.holds Try.pinned (OpenSpec.ofChange fnCardsWrong)

/- THE SECOND FORM. 'bulk': how many values and letters a reading holds, each counted each time it is reached (what is shared counts as often as it is met; a slice's spare places count too). A statement '..UptoSaid' is the law's where the arguments, and the package variables that the reading takes, are together of bulk at most 1048576: NARROWER than '..Said'. Prove '..Said' where nothing that the law and all that it calls make is longer than what came in: it says more and counts as full. Else prove '..UptoSaid'. A law counts once. -/
mutual
def uptoBulk {H : Type} : DataW H → Nat
  | .lit (.string bytes) => bytes.length + 1
  | .lit _ => 1
  | .nil => 1
  | .ptr d => uptoBulk d + 1
  | .slice elems spare => uptoBulkAll elems + uptoBulkAll spare + 1
  | .agg parts => uptoBulkAll parts + 1
  | .iface _ d => uptoBulk d + 1
  | .map entries => uptoBulkEntries entries + 1
  | .held _ => 1
def uptoBulkAll {H : Type} : List (DataW H) → Nat
  | [] => 0
  | d :: r => uptoBulk d + uptoBulkAll r
def uptoBulkEntries {H : Type} : List (Lit × DataW H) → Nat
  | [] => 0
  | x :: r => uptoBulkEntry x + uptoBulkEntries r
def uptoBulkEntry {H : Type} : Lit × DataW H → Nat
  | (.string bytes, d) => bytes.length + uptoBulk d + 1
  | (_, d) => uptoBulk d + 1
 end
def uptoSmall : (H : Type) → List (DataW H) → Bool := fun _ ds => decide (uptoBulkAll ds ≤ 1048576)
def OpenSpec.upto (s : _root_.Go.ChangeSpec) : _root_.Go.OpenSpec := { _root_.Go.OpenSpec.ofChange s with cond := some uptoSmall }

/-- 'laws.FnExactCardOf', WHERE WHAT IT READS IS OF BULK AT MOST 1048576: true; the input reads as it did. -/
def fnExactCardOfUptoRow : OpenClaim := { program := "ytaeffffgebhodaa", sum := "338adf3020eaff9fb5b7e4fed74dc10d97310d05ccf4e784386273f63200f4e3", func := "loop.example/g00910/laws.FnExactCardOf", spec := "fnExactCardOf", apart := false, narrowed := true }
def FnExactCardOfUptoSaid : Prop := fnExactCardOfUptoRow.holds Try.pinned (OpenSpec.upto fnExactCardOfSpec)

/-- 'laws.FnExactRankOf', WHERE WHAT IT READS IS OF BULK AT MOST 1048576: true; the input reads as it did. -/
def fnExactRankOfUptoRow : OpenClaim := { program := "ytaeffffgebhodaa", sum := "338adf3020eaff9fb5b7e4fed74dc10d97310d05ccf4e784386273f63200f4e3", func := "loop.example/g00910/laws.FnExactRankOf", spec := "fnExactRankOf", apart := false, narrowed := true }
def FnExactRankOfUptoSaid : Prop := fnExactRankOfUptoRow.holds Try.pinned (OpenSpec.upto fnExactRankOfSpec)

/-- 'laws.FnExactSuitOf', WHERE WHAT IT READS IS OF BULK AT MOST 1048576: true; the input reads as it did. -/
def fnExactSuitOfUptoRow : OpenClaim := { program := "ytaeffffgebhodaa", sum := "338adf3020eaff9fb5b7e4fed74dc10d97310d05ccf4e784386273f63200f4e3", func := "loop.example/g00910/laws.FnExactSuitOf", spec := "fnExactSuitOf", apart := false, narrowed := true }
def FnExactSuitOfUptoSaid : Prop := fnExactSuitOfUptoRow.holds Try.pinned (OpenSpec.upto fnExactSuitOfSpec)

/-- 'laws.FnExactNextSeed', WHERE WHAT IT READS IS OF BULK AT MOST 1048576: true; the input reads as it did. -/
def fnExactNextSeedUptoRow : OpenClaim := { program := "ytaeffffgebhodaa", sum := "338adf3020eaff9fb5b7e4fed74dc10d97310d05ccf4e784386273f63200f4e3", func := "loop.example/g00910/laws.FnExactNextSeed", spec := "fnExactNextSeed", apart := false, narrowed := true }
def FnExactNextSeedUptoSaid : Prop := fnExactNextSeedUptoRow.holds Try.pinned (OpenSpec.upto fnExactNextSeedSpec)

/-- 'laws.FnExactAreCards', WHERE WHAT IT READS IS OF BULK AT MOST 1048576: true; the input reads as it did. -/
def fnExactAreCardsUptoRow : OpenClaim := { program := "ytaeffffgebhodaa", sum := "338adf3020eaff9fb5b7e4fed74dc10d97310d05ccf4e784386273f63200f4e3", func := "loop.example/g00910/laws.FnExactAreCards", spec := "fnExactAreCards", apart := false, narrowed := true }
def FnExactAreCardsUptoSaid : Prop := fnExactAreCardsUptoRow.holds Try.pinned (OpenSpec.upto fnExactAreCardsSpec)

/-- 'laws.FnExactIsDeck', WHERE WHAT IT READS IS OF BULK AT MOST 1048576: true; the input reads as it did. -/
def fnExactIsDeckUptoRow : OpenClaim := { program := "ytaeffffgebhodaa", sum := "338adf3020eaff9fb5b7e4fed74dc10d97310d05ccf4e784386273f63200f4e3", func := "loop.example/g00910/laws.FnExactIsDeck", spec := "fnExactIsDeck", apart := false, narrowed := true }
def FnExactIsDeckUptoSaid : Prop := fnExactIsDeckUptoRow.holds Try.pinned (OpenSpec.upto fnExactIsDeckSpec)

/-- 'laws.FnExactPlaceOf', WHERE WHAT IT READS IS OF BULK AT MOST 1048576: true; the input reads as it did. -/
def fnExactPlaceOfUptoRow : OpenClaim := { program := "ytaeffffgebhodaa", sum := "338adf3020eaff9fb5b7e4fed74dc10d97310d05ccf4e784386273f63200f4e3", func := "loop.example/g00910/laws.FnExactPlaceOf", spec := "fnExactPlaceOf", apart := false, narrowed := true }
def FnExactPlaceOfUptoSaid : Prop := fnExactPlaceOfUptoRow.holds Try.pinned (OpenSpec.upto fnExactPlaceOfSpec)

/-- 'laws.FnExactRiffleDeck', WHERE WHAT IT READS IS OF BULK AT MOST 1048576: true; the input reads as it did. -/
def fnExactRiffleDeckUptoRow : OpenClaim := { program := "ytaeffffgebhodaa", sum := "338adf3020eaff9fb5b7e4fed74dc10d97310d05ccf4e784386273f63200f4e3", func := "loop.example/g00910/laws.FnExactRiffleDeck", spec := "fnExactRiffleDeck", apart := false, narrowed := true }
def FnExactRiffleDeckUptoSaid : Prop := fnExactRiffleDeckUptoRow.holds Try.pinned (OpenSpec.upto fnExactRiffleDeckSpec)

/-- 'laws.FnExactUnriffleDeck', WHERE WHAT IT READS IS OF BULK AT MOST 1048576: true; the input reads as it did. -/
def fnExactUnriffleDeckUptoRow : OpenClaim := { program := "ytaeffffgebhodaa", sum := "338adf3020eaff9fb5b7e4fed74dc10d97310d05ccf4e784386273f63200f4e3", func := "loop.example/g00910/laws.FnExactUnriffleDeck", spec := "fnExactUnriffleDeck", apart := false, narrowed := true }
def FnExactUnriffleDeckUptoSaid : Prop := fnExactUnriffleDeckUptoRow.holds Try.pinned (OpenSpec.upto fnExactUnriffleDeckSpec)

/-- 'laws.FnExactRanksIn', WHERE WHAT IT READS IS OF BULK AT MOST 1048576: true; the input reads as it did. -/
def fnExactRanksInUptoRow : OpenClaim := { program := "ytaeffffgebhodaa", sum := "338adf3020eaff9fb5b7e4fed74dc10d97310d05ccf4e784386273f63200f4e3", func := "loop.example/g00910/laws.FnExactRanksIn", spec := "fnExactRanksIn", apart := false, narrowed := true }
def FnExactRanksInUptoSaid : Prop := fnExactRanksInUptoRow.holds Try.pinned (OpenSpec.upto fnExactRanksInSpec)

/-- 'laws.FnExactSuitsIn', WHERE WHAT IT READS IS OF BULK AT MOST 1048576: true; the input reads as it did. -/
def fnExactSuitsInUptoRow : OpenClaim := { program := "ytaeffffgebhodaa", sum := "338adf3020eaff9fb5b7e4fed74dc10d97310d05ccf4e784386273f63200f4e3", func := "loop.example/g00910/laws.FnExactSuitsIn", spec := "fnExactSuitsIn", apart := false, narrowed := true }
def FnExactSuitsInUptoSaid : Prop := fnExactSuitsInUptoRow.holds Try.pinned (OpenSpec.upto fnExactSuitsInSpec)

/-- 'laws.FnExactShuffledDeck', WHERE WHAT IT READS IS OF BULK AT MOST 1048576: true; the input reads as it did. -/
def fnExactShuffledDeckUptoRow : OpenClaim := { program := "ytaeffffgebhodaa", sum := "338adf3020eaff9fb5b7e4fed74dc10d97310d05ccf4e784386273f63200f4e3", func := "loop.example/g00910/laws.FnExactShuffledDeck", spec := "fnExactShuffledDeck", apart := false, narrowed := true }
def FnExactShuffledDeckUptoSaid : Prop := fnExactShuffledDeckUptoRow.holds Try.pinned (OpenSpec.upto fnExactShuffledDeckSpec)

/-- 'laws.FnExactCardsText', WHERE WHAT IT READS IS OF BULK AT MOST 1048576: true; the input reads as it did. -/
def fnExactCardsTextUptoRow : OpenClaim := { program := "ytaeffffgebhodaa", sum := "338adf3020eaff9fb5b7e4fed74dc10d97310d05ccf4e784386273f63200f4e3", func := "loop.example/g00910/laws.FnExactCardsText", spec := "fnExactCardsText", inPlace := ["internal/abi.NoEscape"], apart := false, narrowed := true }
def FnExactCardsTextUptoSaid : Prop := fnExactCardsTextUptoRow.holds Try.pinned (OpenSpec.upto fnExactCardsTextSpec)

/-- 'laws.FnExactReadCards', WHERE WHAT IT READS IS OF BULK AT MOST 1048576: true; the input reads as it did. -/
def fnExactReadCardsUptoRow : OpenClaim := { program := "ytaeffffgebhodaa", sum := "338adf3020eaff9fb5b7e4fed74dc10d97310d05ccf4e784386273f63200f4e3", func := "loop.example/g00910/laws.FnExactReadCards", spec := "fnExactReadCards", inPlace := ["internal/bytealg.IndexByteString"], apart := false, narrowed := true }
def FnExactReadCardsUptoSaid : Prop := fnExactReadCardsUptoRow.holds Try.pinned (OpenSpec.upto fnExactReadCardsSpec)

/-- 'laws.FnExactRestOfDeck', WHERE WHAT IT READS IS OF BULK AT MOST 1048576: true; the input reads as it did. -/
def fnExactRestOfDeckUptoRow : OpenClaim := { program := "ytaeffffgebhodaa", sum := "338adf3020eaff9fb5b7e4fed74dc10d97310d05ccf4e784386273f63200f4e3", func := "loop.example/g00910/laws.FnExactRestOfDeck", spec := "fnExactRestOfDeck", apart := false, narrowed := true }
def FnExactRestOfDeckUptoSaid : Prop := fnExactRestOfDeckUptoRow.holds Try.pinned (OpenSpec.upto fnExactRestOfDeckSpec)

/-- 'laws.FnExactOtherCards', WHERE WHAT IT READS IS OF BULK AT MOST 1048576: true; the input reads as it did. -/
def fnExactOtherCardsUptoRow : OpenClaim := { program := "ytaeffffgebhodaa", sum := "338adf3020eaff9fb5b7e4fed74dc10d97310d05ccf4e784386273f63200f4e3", func := "loop.example/g00910/laws.FnExactOtherCards", spec := "fnExactOtherCards", apart := false, narrowed := true }
def FnExactOtherCardsUptoSaid : Prop := fnExactOtherCardsUptoRow.holds Try.pinned (OpenSpec.upto fnExactOtherCardsSpec)

/-- 'laws.FnExactCutDeck', WHERE WHAT IT READS IS OF BULK AT MOST 1048576: true; the input reads as it did. -/
def fnExactCutDeckUptoRow : OpenClaim := { program := "ytaeffffgebhodaa", sum := "338adf3020eaff9fb5b7e4fed74dc10d97310d05ccf4e784386273f63200f4e3", func := "loop.example/g00910/laws.FnExactCutDeck", spec := "fnExactCutDeck", apart := false, narrowed := true }
def FnExactCutDeckUptoSaid : Prop := fnExactCutDeckUptoRow.holds Try.pinned (OpenSpec.upto fnExactCutDeckSpec)

/-- 'laws.FnExactDealHands', WHERE WHAT IT READS IS OF BULK AT MOST 1048576: true; the input reads as it did. -/
def fnExactDealHandsUptoRow : OpenClaim := { program := "ytaeffffgebhodaa", sum := "338adf3020eaff9fb5b7e4fed74dc10d97310d05ccf4e784386273f63200f4e3", func := "loop.example/g00910/laws.FnExactDealHands", spec := "fnExactDealHands", apart := false, narrowed := true }
def FnExactDealHandsUptoSaid : Prop := fnExactDealHandsUptoRow.holds Try.pinned (OpenSpec.upto fnExactDealHandsSpec)

/-- 'laws.FnRiffles', WHERE WHAT IT READS IS OF BULK AT MOST 1048576: true; the input reads as it did. -/
def fnRifflesUptoRow : OpenClaim := { program := "ytaeffffgebhodaa", sum := "338adf3020eaff9fb5b7e4fed74dc10d97310d05ccf4e784386273f63200f4e3", func := "loop.example/g00910/laws.FnRiffles", spec := "fnRiffles", apart := false, narrowed := true }
def FnRifflesUptoSaid : Prop := fnRifflesUptoRow.holds Try.pinned (OpenSpec.upto fnRifflesSpec)

/-- 'laws.FnCounts', WHERE WHAT IT READS IS OF BULK AT MOST 1048576: true; the input reads as it did. -/
def fnCountsUptoRow : OpenClaim := { program := "ytaeffffgebhodaa", sum := "338adf3020eaff9fb5b7e4fed74dc10d97310d05ccf4e784386273f63200f4e3", func := "loop.example/g00910/laws.FnCounts", spec := "fnCounts", apart := false, narrowed := true }
def FnCountsUptoSaid : Prop := fnCountsUptoRow.holds Try.pinned (OpenSpec.upto fnCountsSpec)

/-- 'laws.FnShuffles', WHERE WHAT IT READS IS OF BULK AT MOST 1048576: true; the input reads as it did. -/
def fnShufflesUptoRow : OpenClaim := { program := "ytaeffffgebhodaa", sum := "338adf3020eaff9fb5b7e4fed74dc10d97310d05ccf4e784386273f63200f4e3", func := "loop.example/g00910/laws.FnShuffles", spec := "fnShuffles", apart := false, narrowed := true }
def FnShufflesUptoSaid : Prop := fnShufflesUptoRow.holds Try.pinned (OpenSpec.upto fnShufflesSpec)

/-- 'laws.FnDealt', WHERE WHAT IT READS IS OF BULK AT MOST 1048576: true; the input reads as it did. -/
def fnDealtUptoRow : OpenClaim := { program := "ytaeffffgebhodaa", sum := "338adf3020eaff9fb5b7e4fed74dc10d97310d05ccf4e784386273f63200f4e3", func := "loop.example/g00910/laws.FnDealt", spec := "fnDealt", apart := false, narrowed := true }
def FnDealtUptoSaid : Prop := fnDealtUptoRow.holds Try.pinned (OpenSpec.upto fnDealtSpec)

/-- 'laws.FnCards', WHERE WHAT IT READS IS OF BULK AT MOST 1048576: true; the input reads as it did. -/
def fnCardsUptoRow : OpenClaim := { program := "ytaeffffgebhodaa", sum := "338adf3020eaff9fb5b7e4fed74dc10d97310d05ccf4e784386273f63200f4e3", func := "loop.example/g00910/laws.FnCards", spec := "fnCards", inPlace := ["internal/abi.NoEscape", "internal/bytealg.IndexByteString"], apart := false, narrowed := true }
def FnCardsUptoSaid : Prop := fnCardsUptoRow.holds Try.pinned (OpenSpec.upto fnCardsSpec)

end Rows
end Go.Proofs.Ytaeffffgebhodaa
