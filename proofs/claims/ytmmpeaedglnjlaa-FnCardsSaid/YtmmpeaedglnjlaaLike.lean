/-
  The comparison of lists in the laws, and the bound on codes.
-/
import Derived.Test.YtmmpeaedglnjlaaDrawDeck
import Derived.Test.YtmmpeaedglnjlaaLikeInts
namespace Go.Proofs.Ytmmpeaedglnjlaa
open Go.RowKit

/-- A list drawn out of a code. -/
def DrawF (w : World) (e : Ending) (w' : World) : Prop :=
  ∃ ys A c, e = .returned (.slice A ys.length c) ∧ RowI w' A ys ∧ ys.length ≤ 256 ∧ ys.length ≤ c ∧ c ≤ maxLen ∧ Below w.heap.size w w'
theorem DrawL.drawF {g : Nat} {w w1 w' : World} {e : Ending} (hb : Below w.heap.size w w1) (hg : w.heap.size ≤ g) (h : DrawL g w1 e w') : DrawF w e w' := by
  obtain ⟨ys, A, c, h1, h2, h3, h4, h5, h6, h7, h8⟩ := h
  exact ⟨ys, A, c, h1, h2, h3, h4, h5, hb.trans (h8.below hb.size hg)⟩

end Go.Proofs.Ytmmpeaedglnjlaa
