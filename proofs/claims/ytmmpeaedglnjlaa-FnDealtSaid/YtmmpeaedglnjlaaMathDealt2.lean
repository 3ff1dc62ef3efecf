/-
  The rest of a deck and the dealt hands are a deck.
-/
import Derived.Test.YtmmpeaedglnjlaaMathDealt
import Derived.Test.YtmmpeaedglnjlaaDealS
namespace Go.Proofs.Ytmmpeaedglnjlaa

/-- All cards put together: the rest, then so many hands. -/
def allK (xs : List Int) (N C m : Nat) : List Int := xs.drop (N * C) ++ (dealK xs N C m).flatten
theorem allK_succ (xs : List Int) (N C m : Nat) : allK xs N C (m + 1) = allK xs N C m ++ handK xs N m C := by
  unfold allK
  rw [dealK_succ, List.flatten_append]
  simp
theorem allK_deck {xs : List Int} (h : deckP xs) {N C : Nat} (hN : N ≤ 10) (hC : C ≤ 52) (hr : N * C ≤ 52) : deckP (allK xs N C N) := by
  obtain ⟨h1, h2, h3⟩ := idxD_ok hN hC hr
  have e : allK xs N C N = (idxD N C).map fun i => xs.getD i 0 := by
    unfold allK idxD
    rw [List.map_append, ← drop_map h.2, List.map_flatMap]
    congr 1
    unfold dealK
    rw [← List.flatMap_def]
    congr 1
    funext m
    simp [handK, handIx]
  rw [e]
  exact deck_map h h1 h2 h3
theorem dealK_getD (xs : List Int) (N C m j : Nat) (h : j < m) : (dealK xs N C m).getD j [] = handK xs N j C := by
  simp [dealK, List.getD_eq_getElem?_getD, h]
end Go.Proofs.Ytmmpeaedglnjlaa
