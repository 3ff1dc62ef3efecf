/-
  Plain mathematics: the text of cards. No program is in sight.
-/
import Derived.Test.YtmmpeaedglnjlaaMathCount
namespace Go.Proofs.Ytmmpeaedglnjlaa
def rkB (x : Int) : UInt8 := ([50, 51, 52, 53, 54, 55, 56, 57, 84, 74, 81, 75, 65] : List UInt8).getD (x / 4).toNat 0
def suB (x : Int) : UInt8 := ([99, 100, 104, 115] : List UInt8).getD (x % 4).toNat 0
/-- The text of the first k cards. -/
def textK (xs : List Int) : Nat → List UInt8
  | 0 => []
  | k + 1 => textK xs k ++ [rkB (xs.getD k 0), suB (xs.getD k 0)]
theorem textK_length (xs : List Int) (k : Nat) : (textK xs k).length = 2 * k := by
  induction k with
  | zero => rfl
  | succ k ih => simp [textK, ih]; omega
def textL (xs : List Int) : List UInt8 := if areC xs = true then textK xs xs.length else []
end Go.Proofs.Ytmmpeaedglnjlaa
