/-
  Plain mathematics: counted ranks and suits add up to all cards; a card is made of its rank and its suit. No program is in sight.
-/
import Derived.Test.YtljlnfdbjeinaaaMathCount
import Derived.Test.YtljlnfdbjeinaaaOne
namespace Go.Proofs.Ytljlnfdbjeinaaa

def addL (xs : List Int) (k : Nat) : Int := (xs.take k).sum
theorem addL_succ (xs : List Int) (k : Nat) (h : k < xs.length) : addL xs (k + 1) = addL xs k + xs.getD k 0 := by
  unfold addL
  rw [List.take_succ_eq_append_getElem h, List.sum_append]
  simp [List.getD_eq_getElem?_getD, h]
theorem addL_bd (xs : List Int) (h : ∀ x ∈ xs, 0 ≤ x ∧ x ≤ 1048576) (k : Nat) (hk : k ≤ xs.length) : 0 ≤ addL xs k ∧ addL xs k ≤ 1048576 * (k : Int) := by
  induction k with
  | zero => simp [addL]
  | succ k ih =>
    have ih := ih (by omega)
    rw [addL_succ xs k (by omega)]
    have := h (xs.getD k 0) (by rw [List.getD_eq_getElem?_getD, List.getElem?_eq_getElem (by omega)]; exact List.getElem_mem _)
    omega
theorem sum_ite (q : Int) (m : Nat) : ((List.range m).map fun j : Nat => if q = (j : Int) then (1 : Int) else 0).sum = if 0 ≤ q ∧ q < (m : Int) then 1 else 0 := by
  induction m with
  | zero => rw [if_neg (by omega)]; rfl
  | succ m ih =>
    rw [List.range_succ, List.map_append, List.sum_append, ih]
    simp only [List.map_cons, List.map_nil, List.sum_cons, List.sum_nil, Int.add_zero]
    by_cases h : q = (m : Int)
    · rw [if_neg (by omega), if_pos h, if_pos (by omega)]; rfl
    · rw [if_neg h]
      by_cases h2 : 0 ≤ q ∧ q < (m : Int)
      · rw [if_pos h2, if_pos (by omega)]; rfl
      · rw [if_neg h2, if_neg (by omega)]; rfl
theorem sum_addI (f g : Nat → Int) : ∀ l : List Nat, (l.map fun j => f j + g j).sum = (l.map f).sum + (l.map g).sum
  | [] => rfl
  | a :: l => by simp only [List.map_cons, List.sum_cons, sum_addI f g l]; omega
theorem cntL_sum (key : Int → Int) (m : Nat) (xs : List Int) (h : ∀ x ∈ xs, 0 ≤ key x ∧ key x < (m : Int)) : (cntL key m xs).sum = (xs.length : Int) := by
  have H : ∀ k, k ≤ xs.length → ((List.range m).map fun j => cntN key xs j k).sum = (k : Int) := by
    intro k
    induction k with
    | zero =>
      intro _
      have : ∀ l : List Nat, (l.map fun j => cntN key xs j 0).sum = 0 := fun l => by
        induction l with
        | nil => rfl
        | cons a l ih => simp only [List.map_cons, List.sum_cons, ih]; rfl
      exact this _
    | succ k ih =>
      intro hk
      have ih := ih (by omega)
      have hx := h (xs.getD k 0) (by rw [List.getD_eq_getElem?_getD, List.getElem?_eq_getElem (by omega)]; exact List.getElem_mem _)
      have e : ((List.range m).map fun j => cntN key xs j (k + 1)) = (List.range m).map fun j => cntN key xs j k + (if key (xs.getD k 0) = (j : Int) then 1 else 0) := rfl
      rw [e, sum_addI, ih, sum_ite, if_pos hx]; rfl
  exact H xs.length (Nat.le_refl _)
theorem rk_sum {xs : List Int} (h : okC xs) : rkL xs = cntL rkKey 13 xs ∧ (rkL xs).sum = (xs.length : Int) := by
  have e : rkL xs = cntL rkKey 13 xs := by unfold rkL; rw [if_pos ((areC_iff xs).2 h)]
  exact ⟨e, by rw [e]; exact cntL_sum _ _ _ (fun x hx => by have := h.1 x hx; show 0 ≤ x / 4 ∧ x / 4 < _; omega)⟩
theorem su_sum {xs : List Int} (h : okC xs) : suL xs = cntL suKey 4 xs ∧ (suL xs).sum = (xs.length : Int) := by
  have e : suL xs = cntL suKey 4 xs := by unfold suL; rw [if_pos ((areC_iff xs).2 h)]
  exact ⟨e, by rw [e]; exact cntL_sum _ _ _ (fun x hx => by have := h.1 x hx; show 0 ≤ x % 4 ∧ x % 4 < _; omega)⟩
theorem cntL_bd (key : Int → Int) (m : Nat) (xs : List Int) (hl : xs.length ≤ 1048576) : ∀ x ∈ cntL key m xs, 0 ≤ x ∧ x ≤ 1048576 := by
  intro x hx
  obtain ⟨j, _, rfl⟩ := List.mem_map.1 hx
  have := cntN_le key xs j xs.length
  omega
theorem rkL_bd {xs : List Int} (hl : xs.length ≤ 1048576) : (rkL xs).length ≤ 1048576 ∧ ∀ x ∈ rkL xs, 0 ≤ x ∧ x ≤ 1048576 := by
  unfold rkL
  split
  · exact ⟨by rw [cntL_length]; omega, cntL_bd _ _ _ hl⟩
  · exact ⟨by simp, by simp⟩
theorem suL_bd {xs : List Int} (hl : xs.length ≤ 1048576) : (suL xs).length ≤ 1048576 ∧ ∀ x ∈ suL xs, 0 ≤ x ∧ x ≤ 1048576 := by
  unfold suL
  split
  · exact ⟨by rw [cntL_length]; omega, cntL_bd _ _ _ hl⟩
  · exact ⟨by simp, by simp⟩
theorem card_back (c : Int) (h : (rankR c).2 = 0) : cardR (rankR c).1 (suitR c).1 = (c, 0) := by
  unfold rankR at h ⊢
  unfold suitR cardR
  by_cases hc : 0 ≤ c ∧ c ≤ 51
  · rw [if_pos hc, if_pos hc, if_pos (by dsimp only; omega)]
    dsimp only
    rw [show 4 * (c / 4) + c % 4 = c by omega]
  · rw [if_neg hc] at h
    simp at h
end Go.Proofs.Ytljlnfdbjeinaaa
