/-
  CardOf, RankOf, SuitOf and NextSeed in the reference and in the program, and the walks of their laws.
-/
import Derived.Test.YtmmpeaedglnjlaaInWalk
namespace Go.Proofs.Ytmmpeaedglnjlaa
open Go.RowKit

theorem two_eq {t : Int × Int} {x y : Int} (h : t = (x, y)) : Ending.returned (.tuple #[.int .i64 x, .int .i64 y]) = .returned (.tuple #[.int .i64 t.1, .int .i64 t.2]) := by subst h; rfl

def rankR (c : Int) : Int × Int := if 0 ≤ c ∧ c ≤ 51 then (c / 4, 0) else (0, 2)
def suitR (c : Int) : Int × Int := if 0 ≤ c ∧ c ≤ 51 then (c % 4, 0) else (0, 2)
def nextI (s : Int) : Int := s * 48271 % 2147483647
def seedR (s : Int) : Int × Int := if 1 ≤ s ∧ s ≤ 2147483646 then (nextI s, 0) else (0, 2)
def cardR (r s : Int) : Int × Int := if 0 ≤ r ∧ r ≤ 12 ∧ 0 ≤ s ∧ s ≤ 3 then (4 * r + s, 0) else (0, 2)

theorem l03Next_any (s : Int) (w : World) (h1 : 0 ≤ s) (h2 : s ≤ 2147483647) :
    Calls Try.prog 65 #[.int .i64 s] w fun e w' => e = .returned (.int .i64 (nextI s)) ∧ w = w' := by
  go_enter Try.func65, Try.ntmps65
  go_wp2
  go_ret
  exact ⟨ret_int (by unfold nextI; first | rfl | (congr 1; omega)), rfl⟩

end Go.Proofs.Ytmmpeaedglnjlaa
