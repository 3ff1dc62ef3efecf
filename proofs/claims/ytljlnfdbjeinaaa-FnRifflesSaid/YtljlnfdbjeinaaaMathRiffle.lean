/-
  Plain mathematics: the riffle of a list of 52 numbers, step by step. No program is in sight.
-/
import Derived.Test.YtljlnfdbjeinaaaMathDeck
namespace Go.Proofs.Ytljlnfdbjeinaaa
/-- The first k pairs of the riffle. -/
def rifK (xs : List Int) : Nat → List Int
  | 0 => []
  | k + 1 => rifK xs k ++ [xs.getD k 0, xs.getD (26 + k) 0]
theorem rifK_length (xs : List Int) (k : Nat) : (rifK xs k).length = 2 * k := by
  induction k with
  | zero => rfl
  | succ k ih => simp [rifK, ih]; omega
def rifL (xs : List Int) : List Int := if deckB xs = true then rifK xs 26 else []
def rifC (xs : List Int) : Int := if deckB xs = true then 0 else 1
end Go.Proofs.Ytljlnfdbjeinaaa
