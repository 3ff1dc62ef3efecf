/-
  Plain mathematics: the undone riffle of a list of 52 numbers. No program is in sight.
-/
import Derived.Test.YtljlnfdbjeinaaaMathDeck
namespace Go.Proofs.Ytljlnfdbjeinaaa
/-- Every second card from place d on, the first k of them. -/
def pickK (xs : List Int) (d k : Nat) : List Int := (List.range k).map (fun j => xs.getD (2 * j + d) 0)
theorem pickK_succ (xs : List Int) (d k : Nat) : pickK xs d (k + 1) = pickK xs d k ++ [xs.getD (2 * k + d) 0] := by
  unfold pickK; rw [List.range_succ, List.map_append]; rfl
theorem pickK_length (xs : List Int) (d k : Nat) : (pickK xs d k).length = k := by simp [pickK]
def unC (xs : List Int) (j : Nat) : Int := if j < 26 then xs.getD (2 * j) 0 else xs.getD (2 * (j - 26) + 1) 0
def unK (xs : List Int) : List Int := (List.range 52).map (unC xs)
theorem unK_length (xs : List Int) : (unK xs).length = 52 := by simp [unK]
theorem unK_getD (xs : List Int) (j : Nat) (h : j < 52) : (unK xs).getD j 0 = unC xs j := by
  simp [unK, List.getD_eq_getElem?_getD, List.getElem?_map, List.getElem?_range h]
theorem unK_eq (xs : List Int) : unK xs = pickK xs 0 26 ++ pickK xs 1 26 := by
  unfold unK pickK
  rw [show (52 : Nat) = 26 + 26 from rfl, List.range_add, List.map_append, List.map_map]
  congr 1
def unL (xs : List Int) : List Int := if deckB xs = true then unK xs else []
def unA (xs : List Int) : Int := if deckB xs = true then 0 else 1
end Go.Proofs.Ytljlnfdbjeinaaa
