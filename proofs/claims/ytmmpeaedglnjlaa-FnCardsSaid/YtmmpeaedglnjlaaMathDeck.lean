/-
  Plain mathematics on decks: a deck holds every card, each at one place. No program is in sight.
-/
import Derived.Test.YtmmpeaedglnjlaaMathCards
namespace Go.Proofs.Ytmmpeaedglnjlaa

def deckP (xs : List Int) : Prop := okC xs ∧ xs.length = 52
instance (xs : List Int) : Decidable (deckP xs) := inferInstanceAs (Decidable (_ ∧ _))
def deckB (xs : List Int) : Bool := decide (deckP xs)
theorem deckB_iff (xs : List Int) : deckB xs = true ↔ deckP xs := by simp [deckB]
theorem deckB_eq (xs : List Int) : deckB xs = (areC xs && decide (xs.length = 52)) := by
  unfold deckB areC deckP
  exact Bool.decide_and _ _

theorem nodup_len (n : Nat) : ∀ xs : List Int, xs.Nodup → (∀ c ∈ xs, 0 ≤ c ∧ c < (n : Int)) → xs.length ≤ n := by
  induction n with
  | zero =>
    intro xs _ h
    cases xs with
    | nil => simp
    | cons x xs => have := h x (by simp); omega
  | succ n ih =>
    intro xs hn h
    by_cases hm : (n : Int) ∈ xs
    · have h1 := ih (xs.erase (n : Int)) (hn.erase _) (fun c hc => by
        have h2 := (List.Nodup.mem_erase_iff hn).1 hc
        have h3 := h c h2.2
        have h4 := h2.1
        omega)
      have h5 := List.length_erase_of_mem hm
      omega
    · have h1 := ih xs hn (fun c hc => by
        have h3 := h c hc
        have : c ≠ (n : Int) := fun e => hm (e ▸ hc)
        omega)
      omega
theorem deck_mem {xs : List Int} (h : deckP xs) {c : Int} (h1 : 0 ≤ c) (h2 : c ≤ 51) : c ∈ xs := by
  by_cases hm : c ∈ xs
  · exact hm
  · have := nodup_len 52 (c :: xs) (List.nodup_cons.2 ⟨hm, h.1.2⟩) (fun d hd => by
      rcases List.mem_cons.1 hd with rfl | hd
      · omega
      · have := h.1.1 d hd; omega)
    simp [h.2] at this

/-- The first index of a number in a list. -/
def placeI (xs : List Int) (c : Int) : Int := (xs.idxOf c : Nat)
theorem idxOf_of {xs : List Int} {c : Int} {k : Nat} (hk : k < xs.length) (he : xs.getD k 0 = c) (hn : ∀ j, j < k → xs.getD j 0 ≠ c) : xs.idxOf c = k := by
  have h1 : xs[k] = c := by simpa [List.getD_eq_getElem?_getD, hk] using he
  have hm : c ∈ xs := h1 ▸ List.getElem_mem hk
  have hl : xs.idxOf c < xs.length := List.idxOf_lt_length_of_mem hm
  have h2 : xs[xs.idxOf c] = c := List.getElem_idxOf hl
  rcases Nat.lt_trichotomy (xs.idxOf c) k with h | h | h
  · exact absurd (by rw [List.getD_eq_getElem?_getD, List.getElem?_eq_getElem hl]; exact h2) (hn _ h)
  · exact h
  · have := List.not_of_lt_findIdx (p := (· == c)) h
    simp [h1] at this
theorem placeI_of {xs : List Int} {c : Int} {k : Nat} (hk : k < xs.length) (he : xs.getD k 0 = c) (hn : ∀ j, j < k → xs.getD j 0 ≠ c) : placeI xs c = (k : Int) := by
  unfold placeI; rw [idxOf_of hk he hn]
theorem deck_more {xs : List Int} (h : deckP xs) {c : Int} (h1 : 0 ≤ c) (h2 : c ≤ 51) {k : Nat} (hn : ∀ j, j < k → xs.getD j 0 ≠ c) : k < xs.length := by
  rcases Nat.lt_or_ge k xs.length with hk | hk
  · exact hk
  · obtain ⟨j, hj, e⟩ := List.getElem_of_mem (deck_mem h h1 h2)
    exact absurd (by simpa [List.getD_eq_getElem?_getD, hj] using e) (hn j (by omega))
/-- PlaceOf: the index and the code. -/
def placR (xs : List Int) (c : Int) : Int × Int := if deckB xs = true then (if 0 ≤ c ∧ c ≤ 51 then (placeI xs c, 0) else (0, 2)) else (0, 1)
end Go.Proofs.Ytmmpeaedglnjlaa
