/-
  spec.l04DrawSome: five cards, rarely another list; the same out of a code.
-/
import Derived.Test.YtgkhhfkijepenaaDrawFive
namespace Go.Proofs.Ytgkhhfkijepenaa
open Go.RowKit

theorem ownT_set {w : World} {lo q c : Nat} {ys : List Int} (h : OwnT w lo (some ⟨q, 0, none⟩) c ys) (k : Nat) (x : Int) (hk : k < ys.length) : OwnT (w.setCell ⟨q, k, none⟩ (.int .i64 x)) lo (some ⟨q, 0, none⟩) c (ys.set k x) := by
  rcases h with ⟨h, _⟩ | ⟨g, f, e, h1, h2, h3, h4, hr, hf⟩
  · cases h
  · simp only [Option.some.injEq, Addr.mk.injEq, and_true] at e
    subst e
    refine .inr ⟨q, _, rfl, h1, by simpa [World.setCell] using h2, by simpa using h3, h4, hr.set k _, fun j hj => ?_⟩
    rw [List.length_set] at hj
    by_cases e : j = k
    · subst e; simp [List.getD_eq_getElem?_getD, hj]
    · rw [if_neg e, hf j hj]
      simp [List.getD_eq_getElem?_getD, Ne.symm e]

/-- A list drawn out of a code. -/
def DrawC (w : World) (e : Ending) (w' : World) : Prop :=
  ∃ ys A c, e = .returned (.slice A ys.length c) ∧ RowI w' A ys ∧ ys.length ≤ 256 ∧ ys.length ≤ c ∧ c ≤ maxLen ∧ Below w.heap.size w w'
theorem DrawL.code {g : Nat} {w w1 w2 : World} {e : Ending} (h : DrawL g w1 e w2) (hb : Below w.heap.size w w1) (hg : w.heap.size ≤ g) : DrawC w e w2 := by
  obtain ⟨ys, A, c, h1, h2, h3, h4, h5, _, _, hk⟩ := h
  exact ⟨ys, A, c, h1, h2, h3, h4, h5, hb.trans (hk.below hb.size hg)⟩
end Go.Proofs.Ytgkhhfkijepenaa
