/-
  IsDeck and PlaceOf in the reference and in the program.
-/
import Derived.Test.YtgkhhfkijepenaaAreCards
import Derived.Test.YtgkhhfkijepenaaMathDeck
namespace Go.Proofs.Ytgkhhfkijepenaa
open Go.RowKit

theorem len_test (n : Nat) : ((n : Int) == 52) = decide (n = 52) := by
  rw [Bool.eq_iff_iff]; simp; omega

theorem two_eq' {t : Int × Int} {x y : Int} (h : t = (x, y)) : Ending.returned (.tuple #[.int .i64 x, .int .i64 y]) = .returned (.tuple #[.int .i64 t.1, .int .i64 t.2]) := by subst h; rfl

end Go.Proofs.Ytgkhhfkijepenaa
