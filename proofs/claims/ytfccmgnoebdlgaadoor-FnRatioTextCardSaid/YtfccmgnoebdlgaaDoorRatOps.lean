/-
  The operations on ratios in the reference and in the program: sum, product, quotient, difference.
-/
import Derived.Test.YtfccmgnoebdlgaaDoorRatRed
namespace Go.Proofs.YtfccmgnoebdlgaaDoor
open Go.RowKit

/-- What a call that returns a ratio and a code hands back. -/
abbrev ratV (t : Int × Int × Int) : Value := .tuple #[.agg #[.int .i64 t.1, .int .i64 t.2.1], .int .i64 t.2.2]
theorem ratV_eq {t : Int × Int × Int} {n d c : Int} (h : t = (n, d, c)) : Ending.returned (.tuple #[.agg #[.int .i64 n, .int .i64 d], .int .i64 c]) = .returned (ratV t) := by subst h; rfl

end Go.Proofs.YtfccmgnoebdlgaaDoor
