/-
  The choices of indices in lexicographic order, and the step from one to the next.
-/
import Derived.Test.YtgkhhfkijepenaaMathChoice
namespace Go.Proofs.Ytgkhhfkijepenaa

theorem comb_map {α β : Type} (f : α → β) : ∀ (l : List α) (k : Nat), comb (l.map f) k = (comb l k).map (List.map f)
  | l, 0 => by rw [comb_zero, comb_zero]; rfl
  | [], k + 1 => by simp [comb]
  | x :: l, k + 1 => by
    simp only [List.map_cons, comb, comb_map f l, List.map_append, List.map_map]
    rfl
theorem comb_idx (xs : List Int) (k : Nat) : comb xs k = (comb (List.range xs.length) k).map (List.map fun i => xs.getD i 0) := by
  rw [← comb_map]
  congr 1
  apply List.ext_getElem?
  intro i
  by_cases h : i < xs.length
  · simp [h]
  · simp [h]

/-- The last place below m whose index is not the greatest that it can have. -/
def lastN (n k : Nat) (c : List Nat) : Nat → Option Nat
  | 0 => none
  | m + 1 => if c.getD m 0 = n - k + m then lastN n k c m else some m
/-- The choice behind c. -/
def stepC (n k : Nat) (c : List Nat) : Option (List Nat) := (lastN n k c k).map fun i => c.take i ++ List.range' (c.getD i 0 + 1) (k - i)
def sizesC : List (Nat × Nat) := [(5, 5), (6, 5), (7, 5), (8, 5), (4, 4), (4, 3), (4, 2), (4, 1)]
def idxC (n k : Nat) : List (List Nat) := comb (List.range n) k
theorem idx_step' : ∀ p ∈ sizesC, (∀ j, j < (idxC p.1 p.2).length → stepC p.1 p.2 ((idxC p.1 p.2).getD j []) = (idxC p.1 p.2)[j + 1]?) ∧ (idxC p.1 p.2)[0]? = some (List.range p.2) := by decide +kernel
theorem idx_step {n k j : Nat} (h : (n, k) ∈ sizesC) (hj : j < (idxC n k).length) : stepC n k ((idxC n k).getD j []) = (idxC n k)[j + 1]? := (idx_step' (n, k) h).1 j hj
theorem idx_head {n k : Nat} (h : (n, k) ∈ sizesC) : (idxC n k)[0]? = some (List.range k) := (idx_step' (n, k) h).2
theorem sizes_le {n k : Nat} (h : (n, k) ∈ sizesC) : 1 ≤ k ∧ k ≤ n ∧ n ≤ 8 := by
  simp [sizesC] at h; omega
theorem idx_mem {n k : Nat} {c : List Nat} (h : c ∈ idxC n k) : c.length = k ∧ ∀ i, i < k → c.getD i 0 < n := by
  obtain ⟨h1, h2⟩ := comb_mem.1 h
  refine ⟨h2, fun i hi => ?_⟩
  have hi' : i < c.length := by omega
  have : c.getD i 0 ∈ c := by rw [List.getD_eq_getElem?_getD, List.getElem?_eq_getElem hi']; exact List.getElem_mem hi'
  simpa using h1.mem this
theorem lastN_yes {n k m : Nat} {c : List Nat} (h : c.getD m 0 = n - k + m) : lastN n k c (m + 1) = lastN n k c m := by rw [lastN, if_pos h]
theorem lastN_no {n k m : Nat} {c : List Nat} (h : c.getD m 0 ≠ n - k + m) : lastN n k c (m + 1) = some m := by rw [lastN, if_neg h]
theorem step_some {n k i : Nat} {c : List Nat} (h : lastN n k c k = some i) : stepC n k c = some (c.take i ++ List.range' (c.getD i 0 + 1) (k - i)) := by simp [stepC, h]
theorem step_none {n k : Nat} {c : List Nat} (h : lastN n k c k = none) : stepC n k c = none := by simp [stepC, h]
/-- The new choice's places. -/
theorem step_getD {k i j : Nat} {c : List Nat} (hc : c.length = k) (hi : i < k) (hj : j < k) : (c.take i ++ List.range' (c.getD i 0 + 1) (k - i)).getD j 0 = if j < i then c.getD j 0 else c.getD i 0 + 1 + (j - i) := by
  have ht : (c.take i).length = i := by rw [List.length_take]; omega
  by_cases h : j < i
  · rw [if_pos h, List.getD_eq_getElem?_getD, List.getElem?_append_left (by omega), List.getElem?_take, if_pos h, ← List.getD_eq_getElem?_getD]
  · rw [if_neg h, List.getD_eq_getElem?_getD, List.getElem?_append_right (by omega), ht, List.getElem?_range' (by omega)]
    simp

/-- All choices, each with the block that bears it. -/
def chL (n k G : Nat) : List (Nat × List Nat) := (idxC n k).map fun c => (G, c)
theorem chL_length (n k G : Nat) : (chL n k G).length = (idxC n k).length := by simp [chL]
theorem chL_take {n k G q : Nat} (h : q < (idxC n k).length) : (chL n k G).take (q + 1) = (chL n k G).take q ++ [(G, (idxC n k).getD q [])] := by
  rw [List.take_succ_eq_append_getElem (by rw [chL_length]; exact h)]
  simp [chL, List.getD_eq_getElem?_getD, h]
theorem idx_getD_mem {n k q : Nat} (h : q < (idxC n k).length) : (idxC n k).getD q [] ∈ idxC n k := by
  rw [List.getD_eq_getElem?_getD, List.getElem?_eq_getElem h]
  exact List.getElem_mem h
theorem idx_more {n k q : Nat} {c : List Nat} (h : (idxC n k)[q]? = some c) : q < (idxC n k).length ∧ (idxC n k).getD q [] = c := by
  obtain ⟨h1, h2⟩ := List.getElem?_eq_some_iff.1 h
  exact ⟨h1, by rw [List.getD_eq_getElem?_getD, h]; rfl⟩
theorem idx_done {n k q : Nat} (h : (idxC n k)[q]? = none) : (idxC n k).length ≤ q := List.getElem?_eq_none_iff.1 h
end Go.Proofs.Ytgkhhfkijepenaa
