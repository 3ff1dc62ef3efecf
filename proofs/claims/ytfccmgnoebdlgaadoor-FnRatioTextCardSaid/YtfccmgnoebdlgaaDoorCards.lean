/-
  DERIVED. GIVEN WITH THE SEED: THE CARDS: each row of YtfccmgnoebdlgaaDoorRows.lean that lists a variable, with what it lists TIED to the program's text (the seventh form; the later family's looks); each row that meets fmt, with fmt's text TOLD by the authors' own Lean function (tested against real Go, not proved from fmt's source: count such statements apart). THE CARD IS WHAT COUNTS. Prove the row's statement (the work); the ties are given (YtfccmgnoebdlgaaDoorTie.lean); close each card by the builder's one call (the guide's Derived/Test/ToyasCard.lean, 'card_holds'). Laid BY PROGRAM, IN A SANDBOX (cutbox-door.mjs). By AI agents, Wed Nov 11 2026. No macro, syntax, notation, axiom, sorry.
-/
import Derived.Test.YtfccmgnoebdlgaaDoorRows
import GoSem.ClaimSeven
namespace Go.Proofs.YtfccmgnoebdlgaaDoor
namespace Rows

/-- THE TIED CARD OF 'laws.FnExactReadRatio'. -/
def fnExactReadRatioCard : Claim7 := { stood := { row := fnExactReadRatioRow, standIns := [], harness := (true, "2b4196d2bb607495cf8cfe839ea7c2b3ae6e61189835d1d335f34bc21a5d1ce1"), looks := true }, kinds := [], alts := [], laidByText := true, laidKinds := [.data, .data, .data, .sentinel, .sentinel], laidTests := true, laidLooks := .later }
def FnExactReadRatioCardSaid : Prop := Claim7.holds Tryd.pinned (.plain (OpenSpec.ofChange fnExactReadRatioSpec)) fnExactReadRatioCard

/-- THE TIED CARD OF 'laws.FnRatioText'. -/
def fnRatioTextCard : Claim7 := { stood := { row := fnRatioTextRow, standIns := [], harness := (true, "2b4196d2bb607495cf8cfe839ea7c2b3ae6e61189835d1d335f34bc21a5d1ce1"), looks := true }, kinds := [], alts := [], laidByText := true, laidKinds := [.data, .data, .data, .sentinel, .sentinel], laidTests := true, laidLooks := .later }
def FnRatioTextCardSaid : Prop := Claim7.holds Tryd.pinned (.plain (OpenSpec.ofChange fnRatioTextSpec)) fnRatioTextCard

/-- THE TIED CARD OF 'laws.FnExactRatioText'. -/
def fnExactRatioTextCard : Claim7 := { stood := { row := fnExactRatioTextRow, standIns := [], harness := (true, "2b4196d2bb607495cf8cfe839ea7c2b3ae6e61189835d1d335f34bc21a5d1ce1"), looks := true }, kinds := [], alts := [], laidByText := true, laidKinds := [.data, .data, .data], laidTests := true, laidLooks := .later }
def FnExactRatioTextCardSaid : Prop := Claim7.holds Tryd.pinned (.plain (OpenSpec.ofChange fnExactRatioTextSpec)) fnExactRatioTextCard

/-- THE SECOND FORM's CARD OF 'laws.FnExactReadRatio'. -/
def fnExactReadRatioUptoCard : Claim7 := { stood := { row := fnExactReadRatioUptoRow, standIns := [], harness := (true, "2b4196d2bb607495cf8cfe839ea7c2b3ae6e61189835d1d335f34bc21a5d1ce1"), looks := true }, kinds := [], alts := [], laidByText := true, laidKinds := [.data, .data, .data, .sentinel, .sentinel], laidTests := true, laidLooks := .later }
def FnExactReadRatioUptoCardSaid : Prop := Claim7.holds Tryd.pinned (.plain (OpenSpec.upto fnExactReadRatioSpec)) fnExactReadRatioUptoCard

/-- THE SECOND FORM's CARD OF 'laws.FnRatioText'. -/
def fnRatioTextUptoCard : Claim7 := { stood := { row := fnRatioTextUptoRow, standIns := [], harness := (true, "2b4196d2bb607495cf8cfe839ea7c2b3ae6e61189835d1d335f34bc21a5d1ce1"), looks := true }, kinds := [], alts := [], laidByText := true, laidKinds := [.data, .data, .data, .sentinel, .sentinel], laidTests := true, laidLooks := .later }
def FnRatioTextUptoCardSaid : Prop := Claim7.holds Tryd.pinned (.plain (OpenSpec.upto fnRatioTextSpec)) fnRatioTextUptoCard

/-- THE SECOND FORM's CARD OF 'laws.FnExactRatioText'. -/
def fnExactRatioTextUptoCard : Claim7 := { stood := { row := fnExactRatioTextUptoRow, standIns := [], harness := (true, "2b4196d2bb607495cf8cfe839ea7c2b3ae6e61189835d1d335f34bc21a5d1ce1"), looks := true }, kinds := [], alts := [], laidByText := true, laidKinds := [.data, .data, .data], laidTests := true, laidLooks := .later }
def FnExactRatioTextUptoCardSaid : Prop := Claim7.holds Tryd.pinned (.plain (OpenSpec.upto fnExactRatioTextSpec)) fnExactRatioTextUptoCard
end Rows
end Go.Proofs.YtfccmgnoebdlgaaDoor
