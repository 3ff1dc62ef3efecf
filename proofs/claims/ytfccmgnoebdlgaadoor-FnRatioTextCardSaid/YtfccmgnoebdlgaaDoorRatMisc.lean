/-
  Comparing, making, subtracting (in the reference) and the greatest divisor.
-/
import Derived.Test.YtfccmgnoebdlgaaDoorRatOps
namespace Go.Proofs.YtfccmgnoebdlgaaDoor
open Go.RowKit

end Go.Proofs.YtfccmgnoebdlgaaDoor
