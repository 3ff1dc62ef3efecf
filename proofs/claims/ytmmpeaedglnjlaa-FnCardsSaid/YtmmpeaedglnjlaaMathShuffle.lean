/-
  Plain mathematics: the shuffled deck, step by step. No program is in sight.
-/
import Derived.Test.YtmmpeaedglnjlaaMathOthers
import Derived.Test.YtmmpeaedglnjlaaOne
namespace Go.Proofs.Ytmmpeaedglnjlaa
theorem nextI_pos (s : Int) : 0 ≤ nextI s ∧ nextI s < 2147483647 := by unfold nextI; omega
/-- The exchange of the places p and j. -/
def swapF (f : Nat → Int) (p j : Nat) : Nat → Int := fun i => if i = j then f p else if i = p then f j else f i
/-- After m rounds: the deck and the seed. -/
def shN (seed : Int) : Nat → (Nat → Int) × Int
  | 0 => (fun i => (i : Int), seed)
  | m + 1 => (swapF (shN seed m).1 (51 - m) (nextI (shN seed m).2 % ((51 - m : Nat) + 1 : Int)).toNat, nextI (shN seed m).2)
theorem shN_seed (seed : Int) (h : 0 ≤ seed ∧ seed ≤ 2147483647) (m : Nat) : 0 ≤ (shN seed m).2 ∧ (shN seed m).2 ≤ 2147483647 := by
  cases m with
  | zero => exact h
  | succ m => have := nextI_pos (shN seed m).2; show 0 ≤ nextI _ ∧ nextI _ ≤ _; omega
def shK (seed : Int) : List Int := (List.range 52).map (shN seed 51).1
theorem shK_length (seed : Int) : (shK seed).length = 52 := by simp [shK]
theorem shK_getD (seed : Int) (j : Nat) (h : j < 52) : (shK seed).getD j 0 = (shN seed 51).1 j := by
  simp [shK, List.getD_eq_getElem?_getD, List.getElem?_range h]
def shL (seed : Int) : List Int := if 1 ≤ seed ∧ seed ≤ 2147483646 then shK seed else []
def shC (seed : Int) : Int := if 1 ≤ seed ∧ seed ≤ 2147483646 then 0 else 2
theorem oth_nil (k : Nat) : (othK [] k).length = k ∧ ∀ j, j < k → (othK [] k).getD j 0 = (j : Int) := by
  induction k with
  | zero => exact ⟨rfl, fun j hj => absurd hj (by omega)⟩
  | succ k ih =>
    have e : othK [] (k + 1) = othK [] k ++ [(k : Int)] := othK_out (by simp)
    rw [e]
    refine ⟨by simp [ih.1], fun j hj => ?_⟩
    rcases Nat.lt_or_ge j k with h | h
    · have := ih.2 j h
      rw [List.getD_eq_getElem?_getD, List.getElem?_append_left (by rw [ih.1]; exact h), ← List.getD_eq_getElem?_getD]
      exact this
    · have : j = k := by omega
      subst this
      rw [List.getD_eq_getElem?_getD, List.getElem?_append_right (by rw [ih.1]; exact Nat.le_refl _), ih.1]
      simp
end Go.Proofs.Ytmmpeaedglnjlaa
