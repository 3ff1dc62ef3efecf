/-
  DERIVED. GIVEN WITH THE SEED: THE CARDS: each row of YtbngfdekdfaioaaDoorRows.lean that lists a variable, with what it lists TIED to the program's text (the seventh form; the later family's looks); each row that meets fmt, with fmt's text TOLD by the authors' own Lean function (tested against real Go, not proved from fmt's source: count such statements apart). THE CARD IS WHAT COUNTS. Prove the row's statement (the work); the ties are given (YtbngfdekdfaioaaDoorTie.lean); close each card by the builder's one call (the guide's Derived/Test/ToyasCard.lean, 'card_holds'). Laid BY PROGRAM, IN A SANDBOX (cutbox-door.mjs). By AI agents, Wed Nov 11 2026. No macro, syntax, notation, axiom, sorry.
-/
import Derived.Test.YtbngfdekdfaioaaDoorRows
import GoSem.ClaimSeven
namespace Go.Proofs.YtbngfdekdfaioaaDoor
namespace Rows

/-- THE TIED CARD OF 'laws.FnExactCategoryName'. -/
def fnExactCategoryNameCard : Claim7 := { stood := { row := fnExactCategoryNameRow, standIns := [], harness := (true, "1f8334832b238877e7a06dcb5547bb026cc819798a95ffefa18bbd6a3e253174"), looks := false }, kinds := [], alts := [], laidByText := true, laidKinds := [.data], laidTests := true, laidLooks := .later }
def FnExactCategoryNameCardSaid : Prop := Claim7.holds Tryd.pinned (.plain (OpenSpec.ofChange fnExactCategoryNameSpec)) fnExactCategoryNameCard

/-- THE TIED CARD OF 'laws.FnExactCategorySize'. -/
def fnExactCategorySizeCard : Claim7 := { stood := { row := fnExactCategorySizeRow, standIns := [], harness := (true, "1f8334832b238877e7a06dcb5547bb026cc819798a95ffefa18bbd6a3e253174"), looks := false }, kinds := [], alts := [], laidByText := true, laidKinds := [.data], laidTests := true, laidLooks := .later }
def FnExactCategorySizeCardSaid : Prop := Claim7.holds Tryd.pinned (.plain (OpenSpec.ofChange fnExactCategorySizeSpec)) fnExactCategorySizeCard

/-- THE TIED CARD OF 'laws.FnCategories'. -/
def fnCategoriesCard : Claim7 := { stood := { row := fnCategoriesRow, standIns := [], harness := (true, "1f8334832b238877e7a06dcb5547bb026cc819798a95ffefa18bbd6a3e253174"), looks := false }, kinds := [], alts := [], laidByText := true, laidKinds := [.data, .data], laidTests := true, laidLooks := .later }
def FnCategoriesCardSaid : Prop := Claim7.holds Tryd.pinned (.plain (OpenSpec.ofChange fnCategoriesSpec)) fnCategoriesCard

/-- THE SECOND FORM's CARD OF 'laws.FnExactCategoryName'. -/
def fnExactCategoryNameUptoCard : Claim7 := { stood := { row := fnExactCategoryNameUptoRow, standIns := [], harness := (true, "1f8334832b238877e7a06dcb5547bb026cc819798a95ffefa18bbd6a3e253174"), looks := false }, kinds := [], alts := [], laidByText := true, laidKinds := [.data], laidTests := true, laidLooks := .later }
def FnExactCategoryNameUptoCardSaid : Prop := Claim7.holds Tryd.pinned (.plain (OpenSpec.upto fnExactCategoryNameSpec)) fnExactCategoryNameUptoCard

/-- THE SECOND FORM's CARD OF 'laws.FnExactCategorySize'. -/
def fnExactCategorySizeUptoCard : Claim7 := { stood := { row := fnExactCategorySizeUptoRow, standIns := [], harness := (true, "1f8334832b238877e7a06dcb5547bb026cc819798a95ffefa18bbd6a3e253174"), looks := false }, kinds := [], alts := [], laidByText := true, laidKinds := [.data], laidTests := true, laidLooks := .later }
def FnExactCategorySizeUptoCardSaid : Prop := Claim7.holds Tryd.pinned (.plain (OpenSpec.upto fnExactCategorySizeSpec)) fnExactCategorySizeUptoCard

/-- THE SECOND FORM's CARD OF 'laws.FnCategories'. -/
def fnCategoriesUptoCard : Claim7 := { stood := { row := fnCategoriesUptoRow, standIns := [], harness := (true, "1f8334832b238877e7a06dcb5547bb026cc819798a95ffefa18bbd6a3e253174"), looks := false }, kinds := [], alts := [], laidByText := true, laidKinds := [.data, .data], laidTests := true, laidLooks := .later }
def FnCategoriesUptoCardSaid : Prop := Claim7.holds Tryd.pinned (.plain (OpenSpec.upto fnCategoriesSpec)) fnCategoriesUptoCard
end Rows
end Go.Proofs.YtbngfdekdfaioaaDoor
