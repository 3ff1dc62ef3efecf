/-
  Plain mathematics: a shuffled deck is a deck; cutting back restores a deck; the next seed is a seed. No program is in sight.
-/
import Derived.Test.YtljlnfdbjeinaaaMathShuffle
import Derived.Test.YtljlnfdbjeinaaaCut
namespace Go.Proofs.Ytljlnfdbjeinaaa

theorem swap_ok {f : Nat → Int} {p j : Nat} (hp : p < 52) (hj : j < 52) (h1 : ∀ i, i < 52 → 0 ≤ f i ∧ f i ≤ 51) (h2 : ∀ a b, a < 52 → b < 52 → f a = f b → a = b) :
    (∀ i, i < 52 → 0 ≤ swapF f p j i ∧ swapF f p j i ≤ 51) ∧ ∀ a b, a < 52 → b < 52 → swapF f p j a = swapF f p j b → a = b := by
  refine ⟨fun i hi => ?_, fun a b ha hb e => ?_⟩
  · unfold swapF
    split
    · exact h1 p hp
    · split
      · exact h1 j hj
      · exact h1 i hi
  · unfold swapF at e
    by_cases a1 : a = j <;> by_cases b1 : b = j
    · omega
    · rw [if_pos a1, if_neg b1] at e
      by_cases b2 : b = p
      · rw [if_pos b2] at e; have := h2 p j hp hj e; omega
      · rw [if_neg b2] at e; have := h2 p b hp hb e; omega
    · rw [if_neg a1, if_pos b1] at e
      by_cases a2 : a = p
      · rw [if_pos a2] at e; have := h2 j p hj hp e; omega
      · rw [if_neg a2] at e; have := h2 a p ha hp e; omega
    · rw [if_neg a1, if_neg b1] at e
      by_cases a2 : a = p <;> by_cases b2 : b = p
      · omega
      · rw [if_pos a2, if_neg b2] at e; have := h2 j b hj hb e; omega
      · rw [if_neg a2, if_pos b2] at e; have := h2 a j ha hj e; omega
      · rw [if_neg a2, if_neg b2] at e; exact h2 a b ha hb e
theorem shN_ok (seed : Int) (m : Nat) : (∀ i, i < 52 → 0 ≤ (shN seed m).1 i ∧ (shN seed m).1 i ≤ 51) ∧ ∀ a b, a < 52 → b < 52 → (shN seed m).1 a = (shN seed m).1 b → a = b := by
  induction m with
  | zero => exact ⟨fun i hi => by show 0 ≤ (i : Int) ∧ (i : Int) ≤ 51; omega, fun a b _ _ e => by have : (a : Int) = (b : Int) := e; omega⟩
  | succ m ih =>
    have h0 := (nextI_pos (shN seed m).2).1
    have hp : (0 : Int) < ((51 - m : Nat) : Int) + 1 := by omega
    have a1 := Int.emod_nonneg (nextI (shN seed m).2) (show (((51 - m : Nat) : Int) + 1) ≠ 0 by omega)
    have a2 := Int.emod_lt_of_pos (nextI (shN seed m).2) hp
    exact swap_ok (by omega) (by omega) ih.1 ih.2
theorem shK_deck (seed : Int) : deckP (shK seed) := by
  obtain ⟨h1, h2⟩ := shN_ok seed 51
  refine ⟨⟨fun c hc => ?_, ?_⟩, shK_length seed⟩
  · obtain ⟨i, hi, rfl⟩ := List.mem_map.1 hc
    exact h1 i (List.mem_range.1 hi)
  · unfold shK
    rw [List.Nodup, List.pairwise_map]
    refine List.Pairwise.imp_of_mem (fun {a b} ha hb hab e => ?_) List.pairwise_lt_range
    have := h2 a b (List.mem_range.1 ha) (List.mem_range.1 hb) e
    omega

theorem cut_deck {d : List Int} (h : deckP d) (n : Nat) : deckP (d.drop n ++ d.take n) := by
  have hp : (d.drop n ++ d.take n).Perm d := by
    have := (List.perm_append_comm (l₁ := d.drop n) (l₂ := d.take n))
    rwa [List.take_append_drop] at this
  refine ⟨⟨fun c hc => h.1.1 c (hp.mem_iff.1 hc), hp.nodup_iff.2 h.1.2⟩, by rw [hp.length_eq]; exact h.2⟩
theorem cut_back {d : List Int} (h : deckP d) (n : Nat) : (d.drop n ++ d.take n).drop (52 - n) ++ (d.drop n ++ d.take n).take (52 - n) = d := by
  have hl : (d.drop n).length = 52 - n := by rw [List.length_drop, h.2]
  rw [List.drop_left' hl, List.take_left' hl, List.take_append_drop]

theorem next_seed (s : Int) (h1 : 1 ≤ s) (h2 : s ≤ 2147483646) : 1 ≤ nextI s ∧ nextI s ≤ 2147483646 := by
  have hp := nextI_pos s
  refine ⟨?_, by omega⟩
  by_cases h : 0 < nextI s
  · omega
  · exfalso
    have h0 : nextI s = 0 := by omega
    unfold nextI at h0
    obtain ⟨m, rfl⟩ := Int.eq_ofNat_of_zero_le (show 0 ≤ s by omega)
    have hd : 2147483647 ∣ 48271 * m := by
      refine Nat.dvd_of_mod_eq_zero ?_
      omega
    have hc : Nat.Coprime 2147483647 48271 := by decide
    have := hc.dvd_of_dvd_mul_left hd
    have := Nat.le_of_dvd (by omega) this
    omega
end Go.Proofs.Ytljlnfdbjeinaaa
