/-
  Plain mathematics: eight riffles restore a deck, and a riffle is undone. No program is in sight.
-/
import Derived.Test.YtljlnfdbjeinaaaMathRiffle
import Derived.Test.YtljlnfdbjeinaaaMathUnriffle
namespace Go.Proofs.Ytljlnfdbjeinaaa

/-- Where the card at place i of the riffled deck was. -/
def sg (i : Nat) : Nat := if i % 2 = 0 then i / 2 else 26 + i / 2
theorem sg_lt (i : Nat) (h : i < 52) : sg i < 52 := by unfold sg; split <;> omega
theorem rifK_getD (xs : List Int) (k i : Nat) (h : i < 2 * k) : (rifK xs k).getD i 0 = xs.getD (sg i) 0 := by
  induction k with
  | zero => omega
  | succ k ih =>
    rw [rifK]
    by_cases h1 : i < 2 * k
    · rw [List.getD_eq_getElem?_getD, List.getElem?_append_left (by rw [rifK_length]; exact h1), ← List.getD_eq_getElem?_getD, ih h1]
    · rw [List.getD_eq_getElem?_getD, List.getElem?_append_right (by rw [rifK_length]; omega), rifK_length]
      by_cases e : i = 2 * k
      · subst e
        have : sg (2 * k) = k := by unfold sg; rw [if_pos (by omega)]; omega
        simp [this]
      · have e' : i = 2 * k + 1 := by omega
        subst e'
        have : sg (2 * k + 1) = 26 + k := by unfold sg; rw [if_neg (by omega)]; omega
        rw [show 2 * k + 1 - 2 * k = 1 by omega, this]
        simp
def rif (xs : List Int) : List Int := rifK xs 26
theorem rif_length (xs : List Int) : (rif xs).length = 52 := rifK_length xs 26
theorem rif_getD (xs : List Int) (i : Nat) (h : i < 52) : (rif xs).getD i 0 = xs.getD (sg i) 0 := rifK_getD xs 26 i (by omega)
def rifN : Nat → List Int → List Int
  | 0, xs => xs
  | n + 1, xs => rif (rifN n xs)
def sgN : Nat → Nat → Nat
  | 0, i => i
  | n + 1, i => sgN n (sg i)
theorem rifN_getD (n : Nat) : ∀ (xs : List Int) (i : Nat), i < 52 → (rifN n xs).getD i 0 = xs.getD (sgN n i) 0 := by
  induction n with
  | zero => intro xs i _; rfl
  | succ n ih =>
    intro xs i h
    rw [rifN, rif_getD _ i h, ih xs (sg i) (sg_lt i h)]; rfl
theorem ext52 {xs ys : List Int} (h1 : xs.length = 52) (h2 : ys.length = 52) (h : ∀ i, i < 52 → xs.getD i 0 = ys.getD i 0) : xs = ys := by
  apply List.ext_getElem (by omega)
  intro i a b
  have := h i (by omega)
  simpa [List.getD_eq_getElem?_getD, a, b] using this
theorem rifN_length (n : Nat) (xs : List Int) (h : xs.length = 52) : (rifN n xs).length = 52 := by
  cases n with
  | zero => exact h
  | succ n => exact rif_length _
/-- Eight riffles restore a deck. -/
theorem rif8 (xs : List Int) (h : xs.length = 52) : rifN 8 xs = xs := by
  refine ext52 (rifN_length 8 xs h) h fun i hi => ?_
  rw [rifN_getD 8 xs i hi]
  have all : ∀ i, i < 52 → sgN 8 i = i := by decide
  rw [all i hi]
theorem un_rif (xs : List Int) (h : xs.length = 52) : unK (rif xs) = xs := by
  refine ext52 (unK_length _) h fun i hi => ?_
  rw [unK_getD _ i hi]
  unfold unC
  by_cases h1 : i < 26
  · rw [if_pos h1, rif_getD xs _ (by omega)]
    have : sg (2 * i) = i := by unfold sg; rw [if_pos (by omega)]; omega
    rw [this]
  · rw [if_neg h1, rif_getD xs _ (by omega)]
    have : sg (2 * (i - 26) + 1) = i := by unfold sg; rw [if_neg (by omega)]; omega
    rw [this]
theorem rif_deck {xs : List Int} (h : deckP xs) : deckP (rif xs) := by
  have hl := h.2
  have hm : rif xs = (List.range 52).map fun i => xs.getD (sg i) 0 := by
    refine ext52 (rif_length xs) (by simp) fun i hi => ?_
    rw [rif_getD xs i hi, List.getD_eq_getElem?_getD (l := List.map _ _), List.getElem?_map, List.getElem?_range hi]; rfl
  refine ⟨⟨fun c hc => ?_, ?_⟩, rif_length xs⟩
  · rw [hm] at hc
    obtain ⟨i, hi, rfl⟩ := List.mem_map.1 hc
    have hi' := sg_lt i (List.mem_range.1 hi)
    rw [List.getD_eq_getElem?_getD, List.getElem?_eq_getElem (by omega)]
    exact h.1.1 _ (List.getElem_mem _)
  · rw [hm, List.Nodup, List.pairwise_map]
    refine List.Pairwise.imp_of_mem (fun {a b} ha hb hab e => ?_) List.pairwise_lt_range
    have ha' := List.mem_range.1 ha
    have hb' := List.mem_range.1 hb
    have h1 := sg_lt a ha'
    have h2 := sg_lt b hb'
    rw [List.getD_eq_getElem?_getD, List.getD_eq_getElem?_getD, List.getElem?_eq_getElem (by omega), List.getElem?_eq_getElem (by omega)] at e
    have := (List.getElem_inj h.1.2).1 e
    unfold sg at this
    split at this <;> split at this <;> omega
theorem rifN_deck (n : Nat) {xs : List Int} (h : deckP xs) : deckP (rifN n xs) := by
  induction n with
  | zero => exact h
  | succ n ih => exact rif_deck ih
theorem rifL_yes {xs : List Int} (h : deckP xs) : rifL xs = rif xs ∧ rifC xs = 0 := by
  unfold rifL rifC; rw [if_pos ((deckB_iff xs).2 h), if_pos ((deckB_iff xs).2 h)]; exact ⟨rfl, rfl⟩
theorem unL_yes {xs : List Int} (h : deckP xs) : unL xs = unK xs ∧ unA xs = 0 := by
  unfold unL unA; rw [if_pos ((deckB_iff xs).2 h), if_pos ((deckB_iff xs).2 h)]; exact ⟨rfl, rfl⟩
theorem rifL_len (xs : List Int) : (rifL xs).length ≤ 1048576 := by unfold rifL; split <;> simp [rifK_length]
theorem unL_len (xs : List Int) : (unL xs).length ≤ 1048576 := by unfold unL; split <;> simp [unK_length]
end Go.Proofs.Ytljlnfdbjeinaaa
