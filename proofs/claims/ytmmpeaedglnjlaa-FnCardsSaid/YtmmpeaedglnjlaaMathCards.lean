/-
  Plain mathematics on lists of cards: what cards are, the bits of a set of cards. No program is in sight.
-/
namespace Go.Proofs.Ytmmpeaedglnjlaa

/-- A list of cards: numbers from 0 to 51, all different. -/
def okC (xs : List Int) : Prop := (∀ c ∈ xs, 0 ≤ c ∧ c ≤ 51) ∧ xs.Nodup
instance (xs : List Int) : Decidable (okC xs) := inferInstanceAs (Decidable (_ ∧ _))
def areC (xs : List Int) : Bool := decide (okC xs)
theorem areC_iff (xs : List Int) : areC xs = true ↔ okC xs := by simp [areC]
theorem areC_no {xs : List Int} (h : ¬ okC xs) : areC xs = false := by simp [areC, h]

theorem okC_nil : okC [] := ⟨by simp, List.nodup_nil⟩
theorem okC_take {xs : List Int} (h : okC xs) (k : Nat) : okC (xs.take k) :=
  ⟨fun c hc => h.1 c (List.mem_of_mem_take hc), h.2.sublist (List.take_sublist k xs)⟩
theorem take_snoc {xs : List Int} {k : Nat} (h : k < xs.length) : xs.take (k + 1) = xs.take k ++ [xs.getD k 0] := by
  rw [List.take_succ_eq_append_getElem h]
  simp [List.getD_eq_getElem?_getD, h]
theorem okC_snoc {xs : List Int} {c : Int} (h : okC xs) (h1 : 0 ≤ c) (h2 : c ≤ 51) (h3 : c ∉ xs) : okC (xs ++ [c]) := by
  refine ⟨fun d hd => ?_, ?_⟩
  · rcases List.mem_append.1 hd with hd | hd
    · exact h.1 d hd
    · simp at hd; subst hd; exact ⟨h1, h2⟩
  · rw [List.nodup_append]
    refine ⟨h.2, by simp, fun a ha b hb => ?_⟩
    simp at hb; subst hb
    intro e; subst e; exact h3 ha
theorem okC_snoc_inv {xs : List Int} {c : Int} (h : okC (xs ++ [c])) : 0 ≤ c ∧ c ≤ 51 ∧ c ∉ xs := by
  refine ⟨(h.1 c (by simp)).1, (h.1 c (by simp)).2, fun hc => ?_⟩
  have := h.2
  rw [List.nodup_append] at this
  exact this.2.2 c hc c (by simp) rfl
theorem okC_bad {xs : List Int} {k : Nat} (h : k < xs.length) (hb : ¬ (0 ≤ xs.getD k 0 ∧ xs.getD k 0 ≤ 51) ∨ xs.getD k 0 ∈ xs.take k) : ¬ okC xs := by
  intro ho
  have h1 := okC_take ho (k + 1)
  rw [take_snoc h] at h1
  obtain ⟨a, b, c⟩ := okC_snoc_inv h1
  rcases hb with hb | hb
  · exact hb ⟨a, b⟩
  · exact c hb
theorem mem_take_lt {xs : List Int} {x : Int} {k : Nat} (h : x ∈ xs.take k) : x ∈ xs := List.mem_of_mem_take h

/-- The bits of a set of cards. -/
def seenB (xs : List Int) : Nat := xs.foldl (fun s c => s ||| 2 ^ c.toNat) 0
theorem seenB_nil : seenB [] = 0 := rfl
theorem seenB_snoc (xs : List Int) (c : Int) : seenB (xs ++ [c]) = seenB xs ||| 2 ^ c.toNat := by simp [seenB, List.foldl_append]
theorem testBit_seenB (xs : List Int) (i : Nat) : (∀ c ∈ xs, 0 ≤ c) → (seenB xs).testBit i = decide ((i : Int) ∈ xs) := by
  have H : ∀ (n : Nat) (ys : List Int), ys.length = n → (∀ c ∈ ys, 0 ≤ c) → (seenB ys).testBit i = decide ((i : Int) ∈ ys) := by
    intro n
    induction n with
    | zero =>
      intro ys hl _
      have : ys = [] := List.eq_nil_of_length_eq_zero hl
      subst this
      simp [seenB]
    | succ n ih =>
      intro ys hl hc
      have hne : ys ≠ [] := by intro e; subst e; simp at hl
      obtain ⟨zs, c, rfl⟩ : ∃ zs c, ys = zs ++ [c] := ⟨ys.dropLast, ys.getLast hne, (List.dropLast_concat_getLast hne).symm⟩
      have hz : zs.length = n := by simp at hl; exact hl
      rw [seenB_snoc, Nat.testBit_or, ih zs hz (fun d hd => hc d (by simp [hd])), Nat.testBit_two_pow]
      have hc0 : 0 ≤ c := hc c (by simp)
      rw [Bool.eq_iff_iff]
      simp
      constructor
      · rintro (h | h)
        · exact .inl h
        · exact .inr (by omega)
      · rintro (h | h)
        · exact .inl h
        · exact .inr (by omega)
  exact H xs.length xs rfl
theorem seenB_lt (xs : List Int) (h : ∀ c ∈ xs, 0 ≤ c ∧ c ≤ 51) : seenB xs < 2 ^ 52 := by
  have H : ∀ (n : Nat) (ys : List Int), ys.length = n → (∀ c ∈ ys, 0 ≤ c ∧ c ≤ 51) → seenB ys < 2 ^ 52 := by
    intro n
    induction n with
    | zero =>
      intro ys hl _
      have : ys = [] := List.eq_nil_of_length_eq_zero hl
      subst this
      simp [seenB]
    | succ n ih =>
      intro ys hl hc
      have hne : ys ≠ [] := by intro e; subst e; simp at hl
      obtain ⟨zs, c, rfl⟩ : ∃ zs c, ys = zs ++ [c] := ⟨ys.dropLast, ys.getLast hne, (List.dropLast_concat_getLast hne).symm⟩
      have hz : zs.length = n := by simp at hl; exact hl
      rw [seenB_snoc]
      have hc0 := hc c (by simp)
      exact Nat.or_lt_two_pow (ih zs hz (fun d hd => hc d (by simp [hd]))) (Nat.pow_lt_pow_right (by omega) (by omega))
  exact H xs.length xs rfl h
/-- Bit d of the set, as Go's '>> d & 1' computes it. -/
theorem seenB_at (xs : List Int) (d : Int) (h : ∀ c ∈ xs, 0 ≤ c) (hd : 0 ≤ d) : seenB xs / 2 ^ d.toNat % 2 = if d ∈ xs then 1 else 0 := by
  have h1 := testBit_seenB xs d.toNat h
  rw [Int.toNat_of_nonneg hd] at h1
  rw [Nat.testBit_eq_decide_div_mod_eq] at h1
  by_cases hm : d ∈ xs
  · simp [hm] at h1; simp [hm, h1]
  · simp [hm] at h1; simp [hm]; omega
end Go.Proofs.Ytmmpeaedglnjlaa
