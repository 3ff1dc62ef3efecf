/-
  No cell of these rows narrows 'for every input' (looked for: loops, veiled, ifaces, maps, wideKeys, modest, calm, conditions, laid).
  DERIVED. THE GIVEN ROWS OF THIS SEAT. 4 by the template 'for every input the law returns true; each argument reads behind the call as it read before'; 0 by the template 'total and deterministic' (their statements: YtmmpeaedglnjlaaTotals.lean).
  GIVEN WITH THE SEED: the statements are not yours to turn. If you find one false, say at which input.
  Laid BY PROGRAM, IN A SANDBOX (cutbox-rows.mjs): the forced cells as the released guide's own fill.sh prints them over the translation 2e9681934c3ec2ae… (all of the seat's roots in one cut). By AI agents, Wed Nov 11 2026. No macro, syntax, notation, axiom, sorry.
-/
import Derived.Test.YtmmpeaedglnjlaaChecked
import GoSem.Claim
import GoSem.ClaimJoined
import GoSem.ClaimMapViews
import Derived.JoinedTies
import Derived.KernelRfl
namespace Go.Proofs.Ytmmpeaedglnjlaa
/- THE CELL 'sum', in the pinned program and in every row, IS THE sha256 OF THE DUMP (.gsa) THAT YtmmpeaedglnjlaaProg.lean LOADS. Nothing in Lean hashes anything: it is a label: what it is worth is what the hold of that sum in a sandbox is worth. -/
noncomputable def Try.pinned : Pinned := { name := "ytmmpeaedglnjlaa", sum := "2e9681934c3ec2aefd45d8dbb0b2afb1b81f229faaf980b3564e828f592f6c5a", checked := Try.checked }
namespace Rows
def none {H : Type} : Left H := { results := [], args := [] }

/-- 'laws.FnExactCardsText': WHATEVER THE INPUT: true; the input reads as it did. -/
def fnExactCardsTextSpec : ChangeSpec := { name := "fnExactCardsText", fn := fun _ => fun
  | [d] => { results := [.lit (.bool true)], args := [d] }
  | _ => none }
def fnExactCardsTextRow : OpenClaim := { program := "ytmmpeaedglnjlaa", sum := "2e9681934c3ec2aefd45d8dbb0b2afb1b81f229faaf980b3564e828f592f6c5a", func := "loop.example/g00910/laws.FnExactCardsText", spec := "fnExactCardsText", inPlace := ["internal/abi.NoEscape"], apart := false }
def FnExactCardsTextSaid : Prop := fnExactCardsTextRow.holds Try.pinned (OpenSpec.ofChange fnExactCardsTextSpec)

/-- ITS FALSE NEIGHBOUR: 'it returns false'. Refute it at one input. -/
def fnExactCardsTextWrong : ChangeSpec := { name := "fnExactCardsText", fn := fun _ => fun
  | [d] => { results := [.lit (.bool false)], args := [d] }
  | _ => none }
def FnExactCardsTextWrongFalsely : Prop := fnExactCardsTextRow.holds Try.pinned (OpenSpec.ofChange fnExactCardsTextWrong)

/-- 'laws.FnExactReadCards': WHATEVER THE INPUT: true; the input reads as it did. -/
def fnExactReadCardsSpec : ChangeSpec := { name := "fnExactReadCards", fn := fun _ => fun
  | [d] => { results := [.lit (.bool true)], args := [d] }
  | _ => none }
def fnExactReadCardsRow : OpenClaim := { program := "ytmmpeaedglnjlaa", sum := "2e9681934c3ec2aefd45d8dbb0b2afb1b81f229faaf980b3564e828f592f6c5a", func := "loop.example/g00910/laws.FnExactReadCards", spec := "fnExactReadCards", inPlace := ["internal/bytealg.IndexByteString"], apart := false }
def FnExactReadCardsSaid : Prop := fnExactReadCardsRow.holds Try.pinned (OpenSpec.ofChange fnExactReadCardsSpec)

/-- ITS FALSE NEIGHBOUR: 'it returns false'. Refute it at one input. -/
def fnExactReadCardsWrong : ChangeSpec := { name := "fnExactReadCards", fn := fun _ => fun
  | [d] => { results := [.lit (.bool false)], args := [d] }
  | _ => none }
def FnExactReadCardsWrongFalsely : Prop := fnExactReadCardsRow.holds Try.pinned (OpenSpec.ofChange fnExactReadCardsWrong)

/-- 'laws.FnDealt': WHATEVER THE INPUT: true; the input reads as it did. -/
def fnDealtSpec : ChangeSpec := { name := "fnDealt", fn := fun _ => fun
  | [d] => { results := [.lit (.bool true)], args := [d] }
  | _ => none }
def fnDealtRow : OpenClaim := { program := "ytmmpeaedglnjlaa", sum := "2e9681934c3ec2aefd45d8dbb0b2afb1b81f229faaf980b3564e828f592f6c5a", func := "loop.example/g00910/laws.FnDealt", spec := "fnDealt", apart := false }
def FnDealtSaid : Prop := fnDealtRow.holds Try.pinned (OpenSpec.ofChange fnDealtSpec)

/-- ITS FALSE NEIGHBOUR: 'it returns false'. Refute it at one input. -/
def fnDealtWrong : ChangeSpec := { name := "fnDealt", fn := fun _ => fun
  | [d] => { results := [.lit (.bool false)], args := [d] }
  | _ => none }
def FnDealtWrongFalsely : Prop := fnDealtRow.holds Try.pinned (OpenSpec.ofChange fnDealtWrong)

/-- 'laws.FnCards': WHATEVER THE INPUT: true; the input reads as it did. -/
def fnCardsSpec : ChangeSpec := { name := "fnCards", fn := fun _ => fun
  | [d] => { results := [.lit (.bool true)], args := [d] }
  | _ => none }
def fnCardsRow : OpenClaim := { program := "ytmmpeaedglnjlaa", sum := "2e9681934c3ec2aefd45d8dbb0b2afb1b81f229faaf980b3564e828f592f6c5a", func := "loop.example/g00910/laws.FnCards", spec := "fnCards", inPlace := ["internal/abi.NoEscape", "internal/bytealg.IndexByteString"], apart := false }
def FnCardsSaid : Prop := fnCardsRow.holds Try.pinned (OpenSpec.ofChange fnCardsSpec)

/-- ITS FALSE NEIGHBOUR: 'it returns false'. Refute it at one input. -/
def fnCardsWrong : ChangeSpec := { name := "fnCards", fn := fun _ => fun
  | [d] => { results := [.lit (.bool false)], args := [d] }
  | _ => none }
def FnCardsWrongFalsely : Prop := fnCardsRow.holds Try.pinned (OpenSpec.ofChange fnCardsWrong)

/- THE SECOND FORM. 'bulk': how many values and letters a reading holds, each counted each time it is reached (what is shared counts as often as it is met; a slice's spare places count too). A statement '..UptoSaid' is the law's where the arguments, and the package variables that the reading takes, are together of bulk at most 1048576: NARROWER than '..Said'. Prove '..Said' where nothing that the law and all that it calls make is longer than what came in: it says more and counts as full. Else prove '..UptoSaid'. A law counts once. -/
mutual
def uptoBulk {H : Type} : DataW H → Nat
  | .lit (.string bytes) => bytes.length + 1
  | .lit _ => 1
  | .nil => 1
  | .ptr d => uptoBulk d + 1
  | .slice elems spare => uptoBulkAll elems + uptoBulkAll spare + 1
  | .agg parts => uptoBulkAll parts + 1
  | .iface _ d => uptoBulk d + 1
  | .map entries => uptoBulkEntries entries + 1
  | .held _ => 1
def uptoBulkAll {H : Type} : List (DataW H) → Nat
  | [] => 0
  | d :: r => uptoBulk d + uptoBulkAll r
def uptoBulkEntries {H : Type} : List (Lit × DataW H) → Nat
  | [] => 0
  | x :: r => uptoBulkEntry x + uptoBulkEntries r
def uptoBulkEntry {H : Type} : Lit × DataW H → Nat
  | (.string bytes, d) => bytes.length + uptoBulk d + 1
  | (_, d) => uptoBulk d + 1
 end
def uptoSmall : (H : Type) → List (DataW H) → Bool := fun _ ds => decide (uptoBulkAll ds ≤ 1048576)
def OpenSpec.upto (s : _root_.Go.ChangeSpec) : _root_.Go.OpenSpec := { _root_.Go.OpenSpec.ofChange s with cond := some uptoSmall }

/-- 'laws.FnExactCardsText', WHERE WHAT IT READS IS OF BULK AT MOST 1048576: true; the input reads as it did. -/
def fnExactCardsTextUptoRow : OpenClaim := { program := "ytmmpeaedglnjlaa", sum := "2e9681934c3ec2aefd45d8dbb0b2afb1b81f229faaf980b3564e828f592f6c5a", func := "loop.example/g00910/laws.FnExactCardsText", spec := "fnExactCardsText", inPlace := ["internal/abi.NoEscape"], apart := false, narrowed := true }
def FnExactCardsTextUptoSaid : Prop := fnExactCardsTextUptoRow.holds Try.pinned (OpenSpec.upto fnExactCardsTextSpec)

/-- 'laws.FnExactReadCards', WHERE WHAT IT READS IS OF BULK AT MOST 1048576: true; the input reads as it did. -/
def fnExactReadCardsUptoRow : OpenClaim := { program := "ytmmpeaedglnjlaa", sum := "2e9681934c3ec2aefd45d8dbb0b2afb1b81f229faaf980b3564e828f592f6c5a", func := "loop.example/g00910/laws.FnExactReadCards", spec := "fnExactReadCards", inPlace := ["internal/bytealg.IndexByteString"], apart := false, narrowed := true }
def FnExactReadCardsUptoSaid : Prop := fnExactReadCardsUptoRow.holds Try.pinned (OpenSpec.upto fnExactReadCardsSpec)

/-- 'laws.FnDealt', WHERE WHAT IT READS IS OF BULK AT MOST 1048576: true; the input reads as it did. -/
def fnDealtUptoRow : OpenClaim := { program := "ytmmpeaedglnjlaa", sum := "2e9681934c3ec2aefd45d8dbb0b2afb1b81f229faaf980b3564e828f592f6c5a", func := "loop.example/g00910/laws.FnDealt", spec := "fnDealt", apart := false, narrowed := true }
def FnDealtUptoSaid : Prop := fnDealtUptoRow.holds Try.pinned (OpenSpec.upto fnDealtSpec)

/-- 'laws.FnCards', WHERE WHAT IT READS IS OF BULK AT MOST 1048576: true; the input reads as it did. -/
def fnCardsUptoRow : OpenClaim := { program := "ytmmpeaedglnjlaa", sum := "2e9681934c3ec2aefd45d8dbb0b2afb1b81f229faaf980b3564e828f592f6c5a", func := "loop.example/g00910/laws.FnCards", spec := "fnCards", inPlace := ["internal/abi.NoEscape", "internal/bytealg.IndexByteString"], apart := false, narrowed := true }
def FnCardsUptoSaid : Prop := fnCardsUptoRow.holds Try.pinned (OpenSpec.upto fnCardsSpec)

end Rows
end Go.Proofs.Ytmmpeaedglnjlaa
