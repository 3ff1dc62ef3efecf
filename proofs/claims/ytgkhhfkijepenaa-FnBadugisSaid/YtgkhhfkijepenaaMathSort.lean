/-
  Plain laws: numbers in order by insertion.
-/
namespace Go.Proofs.Ytgkhhfkijepenaa

/-- The low rank of a card. -/
def lowI (x : Int) : Int := (x / 4 + 1) % 13

/-- A number put behind the last one that is not greater, in a list in order. -/
def insS : List Int → Int → List Int
  | [], x => [x]
  | y :: r, x => if y ≤ x then y :: insS r x else x :: y :: r
theorem insS_perm (ys : List Int) (x : Int) : (insS ys x).Perm (x :: ys) := by
  induction ys with
  | nil => exact List.Perm.refl _
  | cons y r ih =>
    unfold insS
    split
    · exact (List.Perm.cons y ih).trans (List.Perm.swap x y r)
    · exact List.Perm.refl _
theorem insS_sorted (ys : List Int) (x : Int) (h : ys.Pairwise (· ≤ ·)) : (insS ys x).Pairwise (· ≤ ·) := by
  induction ys with
  | nil => simp [insS]
  | cons y r ih =>
    obtain ⟨h1, h2⟩ := List.pairwise_cons.1 h
    unfold insS
    split
    · rename_i hy
      refine List.pairwise_cons.2 ⟨fun z hz => ?_, ih h2⟩
      rcases List.mem_cons.1 ((insS_perm r x).mem_iff.1 hz) with e | e
      · rw [e]; exact hy
      · exact h1 z e
    · rename_i hy
      refine List.pairwise_cons.2 ⟨fun z hz => ?_, h⟩
      rcases List.mem_cons.1 hz with e | e
      · omega
      · have := h1 z e; omega
/-- Where a number is put. -/
theorem insS_at (x : Int) : ∀ (ys : List Int) (k : Nat), k ≤ ys.length → (∀ i, i < k → ys.getD i 0 ≤ x) → (k = ys.length ∨ x < ys.getD k 0) → insS ys x = ys.take k ++ x :: ys.drop k
  | [], k, hk, _, _ => by
    have : k = 0 := by simpa using hk
    subst this; rfl
  | y :: r, 0, _, _, h2 => by
    have hy : ¬ y ≤ x := by
      rcases h2 with h | h
      · simp at h
      · simp at h; omega
    unfold insS
    rw [if_neg hy]
    rfl
  | y :: r, k + 1, hk, h1, h2 => by
    have hy : y ≤ x := by simpa using h1 0 (by omega)
    unfold insS
    rw [if_pos hy, insS_at x r k (by simpa using hk) (fun i hi => by simpa using h1 (i + 1) (by omega)) (by simpa using h2)]
    rfl
/-- All numbers in order. -/
def sortS (xs : List Int) : List Int := xs.foldl insS []
theorem sortS_snoc (xs : List Int) (x : Int) : sortS (xs ++ [x]) = insS (sortS xs) x := by unfold sortS; rw [List.foldl_append]; rfl
theorem sort_facts (xs : List Int) : ∀ acc : List Int, acc.Pairwise (· ≤ ·) → (xs.foldl insS acc).Pairwise (· ≤ ·) ∧ (xs.foldl insS acc).Perm (acc ++ xs) := by
  induction xs with
  | nil => intro acc h; exact ⟨h, by simp⟩
  | cons x r ih =>
    intro acc h
    obtain ⟨h1, h2⟩ := ih (insS acc x) (insS_sorted acc x h)
    refine ⟨h1, h2.trans (((insS_perm acc x).append_right r).trans ?_)⟩
    exact (List.perm_middle (a := x) (l₁ := acc) (l₂ := r)).symm
theorem sortS_eq (xs : List Int) : sortS xs = xs.mergeSort (fun x y => decide (x ≤ y)) := by
  obtain ⟨h1, h2⟩ := sort_facts xs [] List.Pairwise.nil
  have h3 := List.pairwise_mergeSort (le := fun x y : Int => decide (x ≤ y)) (fun a b c h k => by simp at *; omega) (fun a b => by simp; omega) xs
  refine List.Perm.eq_of_pairwise (le := fun x y : Int => x ≤ y) (fun a b _ _ h k => by omega) h1 (h3.imp (fun h => by simpa using h)) ?_
  have h4 : (xs.foldl insS []).Perm xs := by simpa using h2
  exact h4.trans (List.mergeSort_perm xs _).symm
theorem sortS_length (xs : List Int) : (sortS xs).length = xs.length := by rw [sortS_eq, List.length_mergeSort]
end Go.Proofs.Ytgkhhfkijepenaa
