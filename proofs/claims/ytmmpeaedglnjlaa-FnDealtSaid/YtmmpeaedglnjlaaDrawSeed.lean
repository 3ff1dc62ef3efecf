/-
  Seeds and cut decks that the reference draws.
-/
import Derived.Test.YtmmpeaedglnjlaaDrawDeck
import Derived.Test.YtmmpeaedglnjlaaDrawPick
namespace Go.Proofs.Ytmmpeaedglnjlaa
open Go.RowKit

/-- A list and a number drawn out of a code. -/
def DrawFN (lo hi : Int) (w : World) (e : Ending) (w' : World) : Prop :=
  ∃ ys A c x, e = .returned (.tuple #[.slice A ys.length c, .int .i64 x]) ∧ lo ≤ x ∧ x ≤ hi ∧ RowI w' A ys ∧ ys.length ≤ 256 ∧ ys.length ≤ c ∧ c ≤ maxLen ∧ Below w.heap.size w w'
set_option maxRecDepth 8000 in
theorem drawCut_any (A : Option Addr) (n c : Nat) (bs : Nat → Int) (w : World) (h : RowU w A n bs) (hn : n ≤ 1048576) :
    Calls Try.prog 49 #[.slice A n c] w (DrawFN (-1) 53 w) := by
  have HR := Lib.hid h
  clear h
  go_enter Try.func49, Try.ntmps49
  go_wp2_with fail
  refine (l01From_any A n c bs _ HR.out hn).mono ?_
  rintro e w1 ⟨g, rfl, hg, hs, hb⟩
  have S1 := Lib.hid hs
  have B1 := Lib.hid (And.intro hb hg)
  clear hs hb hg
  go_wp2_with fail
  refine (l03Draw_any g _ S1.out).mono ?_
  rintro e w2 ⟨ys, A2, c2, rfl, h2, h3, h4, h5, h6, h7, h8⟩
  have Y2 := Lib.hid h2
  have NE : Hid (∀ b, A2.map (·.block) = some b → b ≠ g) := fun b hb => by have := h6 b hb; have := S1.out.lt; omega
  have LC := Lib.hid (And.intro h3 (And.intro h4 h5))
  have S2 := Lib.hid h7
  have K2 := Lib.hid h8
  clear h2 h3 h4 h5 h6 h7 h8
  go_wp2_with fail
  refine (l01Next_any g 54 _ S2.out).mono ?_
  rintro e w3 ⟨x, rfl, x0, x1, hs3, hk3, hz3⟩
  have x2 : x < 54 := by omega
  have S3 := Lib.hid hs3
  have K3 := Lib.hid (K2.out.trans hk3)
  have Y3 := Lib.hid (Y2.out.keptG hk3 NE.out)
  clear hs3 hk3 hz3 x1
  go_wp2_with fail
  refine (l01Next_any g 20 _ S3.out).mono ?_
  rintro e w4 ⟨y, rfl, y0, y1, hs4, hk4, hz4⟩
  have y2 : y < 20 := by omega
  have K4 := Lib.hid (K3.out.trans hk4)
  have Y4 := Lib.hid (Y3.out.keptG hk4 NE.out)
  clear hs4 hk4 hz4 y1
  go_wp2
  go_ret2
  exact ⟨ys, A2, c2, _, rfl, by omega, by omega, Y4.out, LC.out.1, LC.out.2.1, LC.out.2.2, B1.out.1.trans (K4.out.below B1.out.1.size B1.out.2)⟩
end Go.Proofs.Ytmmpeaedglnjlaa
