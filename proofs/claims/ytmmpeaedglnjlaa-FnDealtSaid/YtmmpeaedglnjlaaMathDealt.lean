/-
  The rest of a deck and the dealt hands are a deck: plain mathematics.
-/
import Derived.Test.YtmmpeaedglnjlaaMathDeck
namespace Go.Proofs.Ytmmpeaedglnjlaa

/-- The places of the rest, then of the hands. -/
def handIx (N C h : Nat) : List Nat := (List.range C).map fun k => k * N + h
def idxD (N C : Nat) : List Nat := List.range' (N * C) (52 - N * C) ++ (List.range N).flatMap (handIx N C)
theorem idxD_ok' : ∀ N ∈ List.range 11, ∀ C ∈ List.range 53, N * C ≤ 52 → (idxD N C).Nodup ∧ (idxD N C).length = 52 ∧ ∀ i ∈ idxD N C, i < 52 := by decide +kernel
theorem idxD_ok {N C : Nat} (hN : N ≤ 10) (hC : C ≤ 52) (h : N * C ≤ 52) : (idxD N C).Nodup ∧ (idxD N C).length = 52 ∧ ∀ i ∈ idxD N C, i < 52 :=
  idxD_ok' N (List.mem_range.2 (by omega)) C (List.mem_range.2 (by omega)) h
theorem deck_inj {xs : List Int} (h : deckP xs) {i j : Nat} (hi : i < 52) (hj : j < 52) (e : xs.getD i 0 = xs.getD j 0) : i = j := by
  have hi' : i < xs.length := by rw [h.2]; exact hi
  have hj' : j < xs.length := by rw [h.2]; exact hj
  rw [List.getD_eq_getElem?_getD, List.getElem?_eq_getElem hi', List.getD_eq_getElem?_getD, List.getElem?_eq_getElem hj'] at e
  simp only [Option.getD_some] at e
  have hp := List.pairwise_iff_getElem.1 h.1.2
  rcases Nat.lt_trichotomy i j with hlt | heq | hgt
  · exact absurd e (hp i j hi' hj' hlt)
  · exact heq
  · exact absurd e.symm (hp j i hj' hi' hgt)
/-- A deck read in another order is a deck. -/
theorem deck_map {xs : List Int} (h : deckP xs) {ix : List Nat} (h1 : ix.Nodup) (h2 : ix.length = 52) (h3 : ∀ i ∈ ix, i < 52) : deckP (ix.map fun i => xs.getD i 0) := by
  refine ⟨⟨fun c hc => ?_, ?_⟩, by rw [List.length_map, h2]⟩
  · obtain ⟨i, hi, rfl⟩ := List.mem_map.1 hc
    have hi' : i < xs.length := by rw [h.2]; exact h3 i hi
    rw [List.getD_eq_getElem?_getD, List.getElem?_eq_getElem hi']
    exact h.1.1 _ (List.getElem_mem hi')
  · rw [List.nodup_iff_pairwise_ne, List.pairwise_map]
    refine List.Pairwise.imp_of_mem (fun {a b} ha hb hab e => hab (deck_inj h (h3 a ha) (h3 b hb) e)) (List.nodup_iff_pairwise_ne.1 h1)
theorem drop_map {xs : List Int} (h : xs.length = 52) (m : Nat) : xs.drop m = (List.range' m (52 - m)).map fun i => xs.getD i 0 := by
  apply List.ext_getElem
  · simp [h]
  · intro i h1 h2
    simp only [List.getElem_drop, List.getElem_map, List.getElem_range']
    have : m + i < xs.length := by simp at h1; omega
    simp [List.getD_eq_getElem?_getD, this]
end Go.Proofs.Ytmmpeaedglnjlaa
