/-
  DERIVED. GIVEN WITH THE SEED: THE CARDS: each row of YtbhlghadjcbilaaDoorRows.lean that lists a variable, with what it lists TIED to the program's text (the seventh form; the later family's looks); each row that meets fmt, with fmt's text TOLD by the authors' own Lean function (tested against real Go, not proved from fmt's source: count such statements apart). THE CARD IS WHAT COUNTS. Prove the row's statement (the work); the ties are given (YtbhlghadjcbilaaDoorTie.lean); close each card by the builder's one call (the guide's Derived/Test/ToyasCard.lean, 'card_holds'). Laid BY PROGRAM, IN A SANDBOX (cutbox-door.mjs). By AI agents, Wed Nov 11 2026. No macro, syntax, notation, axiom, sorry.
-/
import Derived.Test.YtbhlghadjcbilaaDoorRows
import GoSem.ClaimSeven
namespace Go.Proofs.YtbhlghadjcbilaaDoor
namespace Rows

/-- THE TIED CARD OF 'laws.FnCategories'. -/
def fnCategoriesCard : Claim7 := { stood := { row := fnCategoriesRow, standIns := [], harness := (true, "0dc152b6b32214f317ad3f4d8d05b78a868888e7f9d2a804277be870018e3d8f"), looks := false }, kinds := [], alts := [], laidByText := true, laidKinds := [.data, .data], laidTests := true, laidLooks := .later }
def FnCategoriesCardSaid : Prop := Claim7.holds Tryd.pinned (.plain (OpenSpec.ofChange fnCategoriesSpec)) fnCategoriesCard

/-- THE SECOND FORM's CARD OF 'laws.FnCategories'. -/
def fnCategoriesUptoCard : Claim7 := { stood := { row := fnCategoriesUptoRow, standIns := [], harness := (true, "0dc152b6b32214f317ad3f4d8d05b78a868888e7f9d2a804277be870018e3d8f"), looks := false }, kinds := [], alts := [], laidByText := true, laidKinds := [.data, .data], laidTests := true, laidLooks := .later }
def FnCategoriesUptoCardSaid : Prop := Claim7.holds Tryd.pinned (.plain (OpenSpec.upto fnCategoriesSpec)) fnCategoriesUptoCard
end Rows
end Go.Proofs.YtbhlghadjcbilaaDoor
