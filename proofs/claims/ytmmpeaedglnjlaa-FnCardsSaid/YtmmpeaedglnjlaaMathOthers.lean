/-
  Plain mathematics: the cards that a list lacks, in order. No program is in sight.
-/
import Derived.Test.YtmmpeaedglnjlaaMathDeck
namespace Go.Proofs.Ytmmpeaedglnjlaa
/-- Of the first k cards those that the list lacks. -/
def othK (xs : List Int) : Nat → List Int
  | 0 => []
  | k + 1 => if (k : Int) ∈ xs then othK xs k else othK xs k ++ [(k : Int)]
theorem othK_in {xs : List Int} {k : Nat} (h : (k : Int) ∈ xs) : othK xs (k + 1) = othK xs k := by show (if _ then _ else _) = _; rw [if_pos h]
theorem othK_out {xs : List Int} {k : Nat} (h : (k : Int) ∉ xs) : othK xs (k + 1) = othK xs k ++ [(k : Int)] := by show (if _ then _ else _) = _; rw [if_neg h]
theorem othK_le (xs : List Int) (k : Nat) : (othK xs k).length ≤ k := by
  induction k with
  | zero => exact Nat.le_refl _
  | succ k ih =>
    by_cases h : (k : Int) ∈ xs
    · rw [othK_in h]; omega
    · rw [othK_out h]; simp; omega
theorem has_yes {xs : List Int} {x : Int} {k : Nat} (hk : k < xs.length) (h : x = xs.getD k 0) : x ∈ xs := by
  rw [h, List.getD_eq_getElem?_getD, List.getElem?_eq_getElem hk]
  exact List.getElem_mem hk
theorem has_no {xs : List Int} {x : Int} (h : ∀ j, j < xs.length → xs.getD j 0 ≠ x) : x ∉ xs := by
  intro hx
  obtain ⟨j, hj, he⟩ := List.mem_iff_getElem.1 hx
  exact h j hj (by rw [List.getD_eq_getElem?_getD, List.getElem?_eq_getElem hj]; exact he)
def othL (xs : List Int) : List Int := if areC xs = true then othK xs 52 else []
def othC (xs : List Int) : Int := if areC xs = true then 0 else 1
end Go.Proofs.Ytmmpeaedglnjlaa
