/-
  The quotient, the comparison, the making of a ratio and the greatest divisor, in the reference and in the program.
-/
import Derived.Test.YtfccmgnoebdlgaaDoorRatOps
namespace Go.Proofs.YtfccmgnoebdlgaaDoor
open Go.RowKit

end Go.Proofs.YtfccmgnoebdlgaaDoor
