/-
  The values of five cards do not depend on their order.
-/
import Derived.Test.YtbhlghadjcbilaaAceOf
import Derived.Test.YtbhlghadjcbilaaDeuceVal
import Derived.Test.YtbhlghadjcbilaaMathDraw
namespace Go.Proofs.Ytbhlghadjcbilaa

theorem Vx_perm {xs ys : List Int} (h : xs.Perm ys) (low : Bool) : Vx xs low = Vx ys low := by
  have h1 : cnt xs = cnt ys := funext fun r => h.countP_eq _
  have h2 : ∀ s, sut xs s = sut ys s := fun s => h.countP_eq _
  have h3 : inS xs = inS ys := funext fun s => funext fun r => by
    unfold inS
    rw [Bool.eq_iff_iff, List.any_eq_true, List.any_eq_true]
    constructor
    · rintro ⟨x, hx, e⟩; exact ⟨x, h.mem_iff.1 hx, e⟩
    · rintro ⟨x, hx, e⟩; exact ⟨x, h.mem_iff.2 hx, e⟩
  unfold Vx flm
  simp only [h1, h2, h3]
theorem fiveP_perm {xs ys : List Int} (h : xs.Perm ys) (hf : fiveP xs) : fiveP ys := ⟨by rw [← h.length_eq]; exact hf.1, by rw [← h.length_eq]; exact hf.2.1, okC_perm h hf.2.2⟩
theorem high_perm {xs ys : List Int} (h : xs.Perm ys) (hf : fiveP xs) : hvV ys = hvV xs ∧ hvC ys = 0 := by
  have hg := fiveP_perm h hf
  have e1 := (five_eq hf.2.2 (by have := hf.1; have := hf.2.1; omega)).1
  have e2 := (five_eq hg.2.2 (by have := hg.1; have := hg.2.1; omega)).1
  refine ⟨?_, (five_yes hg).2.1⟩
  rw [(five_yes hg).1, (five_yes hf).1, ← e1, ← e2, Vx_perm h]
theorem deuce_perm {xs ys : List Int} (h : xs.Perm ys) (hf : fiveP xs) : deV ys = deV xs := by
  have hg := fiveP_perm h hf
  have e1 := (five_eq hf.2.2 (by have := hf.1; have := hf.2.1; omega)).2.1
  have e2 := (five_eq hg.2.2 (by have := hg.1; have := hg.2.1; omega)).2.1
  rw [(deV_yes hg).1, (deV_yes hf).1, ← e1, ← e2, Vx_perm h]
theorem ace_perm {xs ys : List Int} (h : xs.Perm ys) (hf : fiveP xs) : acV ys = acV xs := by
  have hg := fiveP_perm h hf
  have e : lcnt xs = lcnt ys := funext fun r => h.countP_eq _
  rw [(acV_yes hg).1, (acV_yes hf).1]
  unfold aceN
  rw [e]
theorem turn_perm (xs : List Int) (n : Nat) : xs.Perm (xs.drop n ++ xs.take n) := by
  have : (xs.take n ++ xs.drop n).Perm (xs.drop n ++ xs.take n) := List.perm_append_comm
  rwa [List.take_append_drop] at this
/-- The parts of a value. -/
theorem parts_of {xs : List Int} (hf : fiveP xs) : ptK (hvV xs) = caV xs ∧ ptL (hvV xs) = kiL xs ∧ ptC (hvV xs) = 0 := by
  obtain ⟨p1, p2, p3⟩ := val_parts hf
  obtain ⟨a, _, c, d⟩ := five_yes hf
  unfold ptK ptL ptC
  have hr : 0 ≤ hvV xs ∧ hvV xs ≤ 3341636 := by rw [a]; omega
  rw [if_pos hr, if_pos hr, if_pos hr, a, c, d, p2]
  exact ⟨by omega, rfl, rfl⟩
end Go.Proofs.Ytbhlghadjcbilaa
