/-
  No cell of these rows narrows 'for every input' (looked for: loops, veiled, ifaces, maps, wideKeys, modest, calm, conditions, laid).
  DERIVED. THE GIVEN ROWS OF THIS SEAT. 4 by the template 'for every input the law returns true; each argument reads behind the call as it read before'; 0 by the template 'total and deterministic' (their statements: YtgkhhfkijepenaaTotals.lean).
  GIVEN WITH THE SEED: the statements are not yours to turn. If you find one false, say at which input.
  Laid BY PROGRAM, IN A SANDBOX (cutbox-rows.mjs): the forced cells as the released guide's own fill.sh prints them over the translation 9c4602366762d799… (all of the seat's roots in one cut). By AI agents, Wed Nov 11 2026. No macro, syntax, notation, axiom, sorry.
-/
import Derived.Test.YtgkhhfkijepenaaChecked
import GoSem.Claim
import GoSem.ClaimJoined
import GoSem.ClaimMapViews
import Derived.JoinedTies
import Derived.KernelRfl
namespace Go.Proofs.Ytgkhhfkijepenaa
/- THE CELL 'sum', in the pinned program and in every row, IS THE sha256 OF THE DUMP (.gsa) THAT YtgkhhfkijepenaaProg.lean LOADS. Nothing in Lean hashes anything: it is a label: what it is worth is what the hold of that sum in a sandbox is worth. -/
noncomputable def Try.pinned : Pinned := { name := "ytgkhhfkijepenaa", sum := "9c4602366762d7990b7ebc2189110e2e9b137f255e0b41e990368c0060dd1540", checked := Try.checked }
namespace Rows
def none {H : Type} : Left H := { results := [], args := [] }

/-- 'laws.FnBadugis': WHATEVER THE INPUT: true; the input reads as it did. -/
def fnBadugisSpec : ChangeSpec := { name := "fnBadugis", fn := fun _ => fun
  | [d] => { results := [.lit (.bool true)], args := [d] }
  | _ => none }
def fnBadugisRow : OpenClaim := { program := "ytgkhhfkijepenaa", sum := "9c4602366762d7990b7ebc2189110e2e9b137f255e0b41e990368c0060dd1540", func := "loop.example/g00910/laws.FnBadugis", spec := "fnBadugis", unfollowed := true, recurses := true, apart := false }
def FnBadugisSaid : Prop := fnBadugisRow.holds Try.pinned (OpenSpec.ofChange fnBadugisSpec)

/-- ITS FALSE NEIGHBOUR: 'it returns false'. Refute it at one input. -/
def fnBadugisWrong : ChangeSpec := { name := "fnBadugis", fn := fun _ => fun
  | [d] => { results := [.lit (.bool false)], args := [d] }
  | _ => none }
def FnBadugisWrongFalsely : Prop := fnBadugisRow.holds Try.pinned (OpenSpec.ofChange fnBadugisWrong)

/-- 'laws.FnExactLowRanks': WHATEVER THE INPUT: true; the input reads as it did. -/
def fnExactLowRanksSpec : ChangeSpec := { name := "fnExactLowRanks", fn := fun _ => fun
  | [d] => { results := [.lit (.bool true)], args := [d] }
  | _ => none }
def fnExactLowRanksRow : OpenClaim := { program := "ytgkhhfkijepenaa", sum := "9c4602366762d7990b7ebc2189110e2e9b137f255e0b41e990368c0060dd1540", func := "loop.example/g00910/laws.FnExactLowRanks", spec := "fnExactLowRanks", recurses := true, apart := false }
def FnExactLowRanksSaid : Prop := fnExactLowRanksRow.holds Try.pinned (OpenSpec.ofChange fnExactLowRanksSpec)

/-- ITS FALSE NEIGHBOUR: 'it returns false'. Refute it at one input. -/
def fnExactLowRanksWrong : ChangeSpec := { name := "fnExactLowRanks", fn := fun _ => fun
  | [d] => { results := [.lit (.bool false)], args := [d] }
  | _ => none }
def FnExactLowRanksWrongFalsely : Prop := fnExactLowRanksRow.holds Try.pinned (OpenSpec.ofChange fnExactLowRanksWrong)

/-- 'laws.FnExactBadugiCards': WHATEVER THE INPUT: true; the input reads as it did. -/
def fnExactBadugiCardsSpec : ChangeSpec := { name := "fnExactBadugiCards", fn := fun _ => fun
  | [d] => { results := [.lit (.bool true)], args := [d] }
  | _ => none }
def fnExactBadugiCardsRow : OpenClaim := { program := "ytgkhhfkijepenaa", sum := "9c4602366762d7990b7ebc2189110e2e9b137f255e0b41e990368c0060dd1540", func := "loop.example/g00910/laws.FnExactBadugiCards", spec := "fnExactBadugiCards", unfollowed := true, recurses := true, apart := false }
def FnExactBadugiCardsSaid : Prop := fnExactBadugiCardsRow.holds Try.pinned (OpenSpec.ofChange fnExactBadugiCardsSpec)

/-- ITS FALSE NEIGHBOUR: 'it returns false'. Refute it at one input. -/
def fnExactBadugiCardsWrong : ChangeSpec := { name := "fnExactBadugiCards", fn := fun _ => fun
  | [d] => { results := [.lit (.bool false)], args := [d] }
  | _ => none }
def FnExactBadugiCardsWrongFalsely : Prop := fnExactBadugiCardsRow.holds Try.pinned (OpenSpec.ofChange fnExactBadugiCardsWrong)

/-- 'laws.FnExactBadugiValue': WHATEVER THE INPUT: true; the input reads as it did. -/
def fnExactBadugiValueSpec : ChangeSpec := { name := "fnExactBadugiValue", fn := fun _ => fun
  | [d] => { results := [.lit (.bool true)], args := [d] }
  | _ => none }
def fnExactBadugiValueRow : OpenClaim := { program := "ytgkhhfkijepenaa", sum := "9c4602366762d7990b7ebc2189110e2e9b137f255e0b41e990368c0060dd1540", func := "loop.example/g00910/laws.FnExactBadugiValue", spec := "fnExactBadugiValue", unfollowed := true, recurses := true, apart := false }
def FnExactBadugiValueSaid : Prop := fnExactBadugiValueRow.holds Try.pinned (OpenSpec.ofChange fnExactBadugiValueSpec)

/-- ITS FALSE NEIGHBOUR: 'it returns false'. Refute it at one input. -/
def fnExactBadugiValueWrong : ChangeSpec := { name := "fnExactBadugiValue", fn := fun _ => fun
  | [d] => { results := [.lit (.bool false)], args := [d] }
  | _ => none }
def FnExactBadugiValueWrongFalsely : Prop := fnExactBadugiValueRow.holds Try.pinned (OpenSpec.ofChange fnExactBadugiValueWrong)

/- THE SECOND FORM. 'bulk': how many values and letters a reading holds, each counted each time it is reached (what is shared counts as often as it is met; a slice's spare places count too). A statement '..UptoSaid' is the law's where the arguments, and the package variables that the reading takes, are together of bulk at most 1048576: NARROWER than '..Said'. Prove '..Said' where nothing that the law and all that it calls make is longer than what came in: it says more and counts as full. Else prove '..UptoSaid'. A law counts once. -/
mutual
def uptoBulk {H : Type} : DataW H → Nat
  | .lit (.string bytes) => bytes.length + 1
  | .lit _ => 1
  | .nil => 1
  | .ptr d => uptoBulk d + 1
  | .slice elems spare => uptoBulkAll elems + uptoBulkAll spare + 1
  | .agg parts => uptoBulkAll parts + 1
  | .iface _ d => uptoBulk d + 1
  | .map entries => uptoBulkEntries entries + 1
  | .held _ => 1
def uptoBulkAll {H : Type} : List (DataW H) → Nat
  | [] => 0
  | d :: r => uptoBulk d + uptoBulkAll r
def uptoBulkEntries {H : Type} : List (Lit × DataW H) → Nat
  | [] => 0
  | x :: r => uptoBulkEntry x + uptoBulkEntries r
def uptoBulkEntry {H : Type} : Lit × DataW H → Nat
  | (.string bytes, d) => bytes.length + uptoBulk d + 1
  | (_, d) => uptoBulk d + 1
 end
def uptoSmall : (H : Type) → List (DataW H) → Bool := fun _ ds => decide (uptoBulkAll ds ≤ 1048576)
def OpenSpec.upto (s : _root_.Go.ChangeSpec) : _root_.Go.OpenSpec := { _root_.Go.OpenSpec.ofChange s with cond := some uptoSmall }

/-- 'laws.FnBadugis', WHERE WHAT IT READS IS OF BULK AT MOST 1048576: true; the input reads as it did. -/
def fnBadugisUptoRow : OpenClaim := { program := "ytgkhhfkijepenaa", sum := "9c4602366762d7990b7ebc2189110e2e9b137f255e0b41e990368c0060dd1540", func := "loop.example/g00910/laws.FnBadugis", spec := "fnBadugis", unfollowed := true, recurses := true, apart := false, narrowed := true }
def FnBadugisUptoSaid : Prop := fnBadugisUptoRow.holds Try.pinned (OpenSpec.upto fnBadugisSpec)

/-- 'laws.FnExactLowRanks', WHERE WHAT IT READS IS OF BULK AT MOST 1048576: true; the input reads as it did. -/
def fnExactLowRanksUptoRow : OpenClaim := { program := "ytgkhhfkijepenaa", sum := "9c4602366762d7990b7ebc2189110e2e9b137f255e0b41e990368c0060dd1540", func := "loop.example/g00910/laws.FnExactLowRanks", spec := "fnExactLowRanks", recurses := true, apart := false, narrowed := true }
def FnExactLowRanksUptoSaid : Prop := fnExactLowRanksUptoRow.holds Try.pinned (OpenSpec.upto fnExactLowRanksSpec)

/-- 'laws.FnExactBadugiCards', WHERE WHAT IT READS IS OF BULK AT MOST 1048576: true; the input reads as it did. -/
def fnExactBadugiCardsUptoRow : OpenClaim := { program := "ytgkhhfkijepenaa", sum := "9c4602366762d7990b7ebc2189110e2e9b137f255e0b41e990368c0060dd1540", func := "loop.example/g00910/laws.FnExactBadugiCards", spec := "fnExactBadugiCards", unfollowed := true, recurses := true, apart := false, narrowed := true }
def FnExactBadugiCardsUptoSaid : Prop := fnExactBadugiCardsUptoRow.holds Try.pinned (OpenSpec.upto fnExactBadugiCardsSpec)

/-- 'laws.FnExactBadugiValue', WHERE WHAT IT READS IS OF BULK AT MOST 1048576: true; the input reads as it did. -/
def fnExactBadugiValueUptoRow : OpenClaim := { program := "ytgkhhfkijepenaa", sum := "9c4602366762d7990b7ebc2189110e2e9b137f255e0b41e990368c0060dd1540", func := "loop.example/g00910/laws.FnExactBadugiValue", spec := "fnExactBadugiValue", unfollowed := true, recurses := true, apart := false, narrowed := true }
def FnExactBadugiValueUptoSaid : Prop := fnExactBadugiValueUptoRow.holds Try.pinned (OpenSpec.upto fnExactBadugiValueSpec)

end Rows
end Go.Proofs.Ytgkhhfkijepenaa
