/-
  NARROWER THAN 'FOR EVERY INPUT', by the rows' own cells (each row's printed sentence says how): FnCategories: laid.
  DERIVED. THE GIVEN ROWS OF THIS SEAT. 1 by the template 'for every input the law returns true; each argument reads behind the call as it read before'; 0 by the template 'total and deterministic' (their statements: YtbhlghadjcbilaaDoorTotals.lean).
  GIVEN WITH THE SEED: the statements are not yours to turn. If you find one false, say at which input.
  Laid BY PROGRAM, IN A SANDBOX (cutbox-rows.mjs): the forced cells as the released guide's own fill.sh prints them over the translation c6a107a29cb302d6… (all of the seat's roots in one cut). By AI agents, Wed Nov 11 2026. No macro, syntax, notation, axiom, sorry.
-/
import Derived.Test.YtbhlghadjcbilaaDoorChecked
import GoSem.Claim
import GoSem.ClaimJoined
import GoSem.ClaimMapViews
import Derived.JoinedTies
import Derived.KernelRfl
namespace Go.Proofs.YtbhlghadjcbilaaDoor
/- THE CELL 'sum', in the pinned program and in every row, IS THE sha256 OF THE DUMP (.gsa) THAT YtbhlghadjcbilaaDoorProg.lean LOADS. Nothing in Lean hashes anything: it is a label: what it is worth is what the hold of that sum in a sandbox is worth. -/
noncomputable def Tryd.pinned : Pinned := { name := "ytbhlghadjcbilaadoor", sum := "c6a107a29cb302d6e5ad827a2fbc9261700293dd931a8cdbbdd3aaf54e3fceb3", checked := Tryd.checked }
namespace Rows
def none {H : Type} : Left H := { results := [], args := [] }

/- WHAT THE LISTED PACKAGE-LEVEL VARIABLES READ AS WHEN THE CALL BEGINS. Each datum BY PROGRAM (the guide's laid-datum.mjs) off the statement by which the dump's own 'gosem.cut.vars' lays the variable. In a bare row this is a premise. The card (YtbhlghadjcbilaaDoorCards.lean) ties it to the program's text. -/
def laid_loop_example_g00910_impl_categoryNames {H : Type} : DataW H := .agg [.lit (.string [104, 105, 103, 104, 32, 99, 97, 114, 100]), .lit (.string [112, 97, 105, 114]), .lit (.string [116, 119, 111, 32, 112, 97, 105, 114, 115]), .lit (.string [116, 104, 114, 101, 101, 32, 111, 102, 32, 97, 32, 107, 105, 110, 100]), .lit (.string [115, 116, 114, 97, 105, 103, 104, 116]), .lit (.string [102, 108, 117, 115, 104]), .lit (.string [102, 117, 108, 108, 32, 104, 111, 117, 115, 101]), .lit (.string [102, 111, 117, 114, 32, 111, 102, 32, 97, 32, 107, 105, 110, 100]), .lit (.string [115, 116, 114, 97, 105, 103, 104, 116, 32, 102, 108, 117, 115, 104])]
def laid_loop_example_g00910_impl_categorySizes {H : Type} : DataW H := .agg [.lit (.int .i64 1302540), .lit (.int .i64 1098240), .lit (.int .i64 123552), .lit (.int .i64 54912), .lit (.int .i64 10200), .lit (.int .i64 5108), .lit (.int .i64 3744), .lit (.int .i64 624), .lit (.int .i64 40)]

/-- 'laws.FnCategories': WHATEVER THE INPUT: true; the input reads as it did. -/
def fnCategoriesSpec : ChangeSpec := { name := "fnCategories", vars := ["loop.example/g00910/impl.categorySizes", "loop.example/g00910/impl.categoryNames"], fn := fun _ => fun
  | [d, g1, g2] => { results := [.lit (.bool true)], args := [d], vars := [g1, g2] }
  | _ => none }
def fnCategoriesRow : OpenClaim := { program := "ytbhlghadjcbilaadoor", sum := "c6a107a29cb302d6e5ad827a2fbc9261700293dd931a8cdbbdd3aaf54e3fceb3", func := "loop.example/g00910/laws.FnCategories", spec := "fnCategories", named := ["loop.example/g00910/impl.categorySizes", "loop.example/g00910/impl.categoryNames"], apart := false, laid := [("loop.example/g00910/impl.categoryNames", laid_loop_example_g00910_impl_categoryNames), ("loop.example/g00910/impl.categorySizes", laid_loop_example_g00910_impl_categorySizes)] }
def FnCategoriesSaid : Prop := fnCategoriesRow.holds Tryd.pinned (OpenSpec.ofChange fnCategoriesSpec)

/-- ITS FALSE NEIGHBOUR: 'it returns false'. Refute it at one input. -/
def fnCategoriesWrong : ChangeSpec := { name := "fnCategories", vars := ["loop.example/g00910/impl.categorySizes", "loop.example/g00910/impl.categoryNames"], fn := fun _ => fun
  | [d, g1, g2] => { results := [.lit (.bool false)], args := [d], vars := [g1, g2] }
  | _ => none }
def FnCategoriesWrongFalsely : Prop := fnCategoriesRow.holds Tryd.pinned (OpenSpec.ofChange fnCategoriesWrong)

/- THE SECOND FORM. 'bulk': how many values and letters a reading holds, each counted each time it is reached (what is shared counts as often as it is met; a slice's spare places count too). A statement '..UptoSaid' is the law's where the arguments, and the package variables that the reading takes, are together of bulk at most 1048576: NARROWER than '..Said'. Prove '..Said' where nothing that the law and all that it calls make is longer than what came in: it says more and counts as full. Else prove '..UptoSaid'. A law counts once. -/
mutual
def uptoBulk {H : Type} : DataW H → Nat
  | .lit (.string bytes) => bytes.length + 1
  | .lit _ => 1
  | .nil => 1
  | .ptr d => uptoBulk d + 1
  | .slice elems spare => uptoBulkAll elems + uptoBulkAll spare + 1
  | .agg parts => uptoBulkAll parts + 1
  | .iface _ d => uptoBulk d + 1
  | .map entries => uptoBulkEntries entries + 1
  | .held _ => 1
def uptoBulkAll {H : Type} : List (DataW H) → Nat
  | [] => 0
  | d :: r => uptoBulk d + uptoBulkAll r
def uptoBulkEntries {H : Type} : List (Lit × DataW H) → Nat
  | [] => 0
  | x :: r => uptoBulkEntry x + uptoBulkEntries r
def uptoBulkEntry {H : Type} : Lit × DataW H → Nat
  | (.string bytes, d) => bytes.length + uptoBulk d + 1
  | (_, d) => uptoBulk d + 1
 end
def uptoSmall : (H : Type) → List (DataW H) → Bool := fun _ ds => decide (uptoBulkAll ds ≤ 1048576)
def OpenSpec.upto (s : _root_.Go.ChangeSpec) : _root_.Go.OpenSpec := { _root_.Go.OpenSpec.ofChange s with cond := some uptoSmall }

/-- 'laws.FnCategories', WHERE WHAT IT READS IS OF BULK AT MOST 1048576: true; the input reads as it did. -/
def fnCategoriesUptoRow : OpenClaim := { program := "ytbhlghadjcbilaadoor", sum := "c6a107a29cb302d6e5ad827a2fbc9261700293dd931a8cdbbdd3aaf54e3fceb3", func := "loop.example/g00910/laws.FnCategories", spec := "fnCategories", named := ["loop.example/g00910/impl.categorySizes", "loop.example/g00910/impl.categoryNames"], apart := false, laid := [("loop.example/g00910/impl.categoryNames", laid_loop_example_g00910_impl_categoryNames), ("loop.example/g00910/impl.categorySizes", laid_loop_example_g00910_impl_categorySizes)], narrowed := true }
def FnCategoriesUptoSaid : Prop := fnCategoriesUptoRow.holds Tryd.pinned (OpenSpec.upto fnCategoriesSpec)

end Rows
end Go.Proofs.YtbhlghadjcbilaaDoor
