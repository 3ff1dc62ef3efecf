/-
  The greatest and the least value of five of some cards: plain mathematics.
-/
import Derived.Test.YtbhlghadjcbilaaMathChoice
import Derived.Test.YtbhlghadjcbilaaMathCrd
namespace Go.Proofs.Ytbhlghadjcbilaa

def vS (S : List Int) : Nat := Vx S true
theorem comb_ok {xs S : List Int} {k : Nat} (ho : okC xs) (h : S ∈ comb xs k) : okC S := okC_sub (comb_mem.1 h).1 ho
/-- The best five of some cards. -/
def bf5 (xs : List Int) : List Int := ((comb xs 5).find? fun S => vS S == Vx xs true).getD []
theorem best_facts {xs : List Int} (ho : okC xs) (h5 : 5 ≤ xs.length) (h8 : xs.length ≤ 8) {b : Nat} (h : isFirst vS (comb xs 5) b) :
    vS ((comb xs 5).getD b []) = Vx xs true ∧ (comb xs 5).find? (fun S => vS S == Vx xs true) = some ((comb xs 5).getD b []) ∧ bf5 xs = (comb xs 5).getD b [] := by
  obtain ⟨S, hS, hS5, hV⟩ := Vx_five ho h5 h8
  have := h.find (M := Vx xs true) (fun T hT => by
    obtain ⟨h1, h2⟩ := comb_mem.1 hT
    exact Vx_sub ho h1 (by omega) h8) ⟨S, comb_mem.2 ⟨hS, hS5⟩, hV⟩
  exact ⟨this.1, this.2, by unfold bf5; rw [this.2]; rfl⟩
/-- There is such a choice. -/
theorem bf5_some {xs : List Int} (ho : okC xs) (h5 : 5 ≤ xs.length) (h8 : xs.length ≤ 8) : (comb xs 5).find? (fun S => vS S == Vx xs true) = some (bf5 xs) ∧ vS (bf5 xs) = Vx xs true ∧ (bf5 xs).Sublist xs ∧ (bf5 xs).length = 5 := by
  obtain ⟨S, hS, hS5, hV⟩ := Vx_five ho h5 h8
  cases hf : (comb xs 5).find? (fun S => vS S == Vx xs true) with
  | none =>
    have := List.find?_eq_none.1 hf S (comb_mem.2 ⟨hS, hS5⟩)
    exact absurd hV (by simpa [vS] using this)
  | some T =>
    have h1 := List.find?_some hf
    have h2 := comb_mem.1 (List.mem_of_find?_eq_some hf)
    have e : bf5 xs = T := by unfold bf5; rw [hf]; rfl
    rw [e]
    exact ⟨rfl, by simpa using h1, h2.1, h2.2⟩

/-- The least of some values, as both sides look for it: a number below 0 stands for none so far. -/
def leastF (f : List Int → Int) (cs : List (List Int)) : Int := cs.foldl (fun m S => if m < 0 ∨ f S < m then f S else m) (-1)
theorem leastF_snoc (f : List Int → Int) (cs : List (List Int)) (S : List Int) : leastF f (cs ++ [S]) = if leastF f cs < 0 ∨ f S < leastF f cs then f S else leastF f cs := by unfold leastF; rw [List.foldl_append]; rfl
theorem leastF_bounds {f : List Int → Int} {M : Int} (hM : 0 ≤ M) : ∀ n, ∀ cs : List (List Int), cs.length = n → (∀ S ∈ cs, 0 ≤ f S ∧ f S ≤ M) → -1 ≤ leastF f cs ∧ leastF f cs ≤ M := by
  intro n
  induction n with
  | zero =>
    intro cs hn _
    have : cs = [] := List.eq_nil_of_length_eq_zero hn
    subst this
    exact ⟨by simp [leastF], by simp [leastF]; omega⟩
  | succ n ih =>
    intro cs hn h
    have hne : cs ≠ [] := by intro e; subst e; simp at hn
    have e := List.dropLast_concat_getLast hne
    obtain ⟨ds, S, rfl⟩ : ∃ ds S, cs = ds ++ [S] := ⟨_, _, e.symm⟩
    have h1 := ih ds (by simp at hn; omega) (fun T hT => h T (by simp [hT]))
    have h2 := h S (by simp)
    rw [leastF_snoc]
    split <;> omega
theorem take_snocL {cs : List (List Int)} {i : Nat} (h : i < cs.length) : cs.take (i + 1) = cs.take i ++ [cs.getD i []] := by
  rw [List.take_succ_eq_append_getElem h]
  simp [List.getD_eq_getElem?_getD, h]
/-- The least is no greater than any. -/
theorem leastF_le {f : List Int → Int} : ∀ n, ∀ cs : List (List Int), cs.length = n → (∀ S ∈ cs, 0 ≤ f S) → (cs ≠ [] → 0 ≤ leastF f cs) ∧ ∀ S ∈ cs, leastF f cs ≤ f S := by
  intro n
  induction n with
  | zero =>
    intro cs hn _
    have : cs = [] := List.eq_nil_of_length_eq_zero hn
    subst this
    exact ⟨fun h => absurd rfl h, fun S hS => by cases hS⟩
  | succ n ih =>
    intro cs hn h
    have hne : cs ≠ [] := by intro e; subst e; simp at hn
    obtain ⟨ds, S, rfl⟩ : ∃ ds S, cs = ds ++ [S] := ⟨_, _, (List.dropLast_concat_getLast hne).symm⟩
    obtain ⟨h1, h3⟩ := ih ds (by simp at hn; omega) (fun T hT => h T (by simp [hT]))
    have h2 := h S (by simp)
    rw [leastF_snoc]
    constructor
    · intro _
      split <;> omega
    · intro T hT
      simp only [List.mem_append, List.mem_singleton] at hT
      have hd : leastF f ds < 0 → ds = [] := fun hlt => by
        by_cases e : ds = []
        · exact e
        · have := h1 e; omega
      rcases hT with hT | rfl
      · have hne : ds ≠ [] := by intro e; subst e; cases hT
        have h0 := h1 hne
        have := h3 T hT
        split <;> omega
      · split <;> omega
end Go.Proofs.Ytbhlghadjcbilaa
