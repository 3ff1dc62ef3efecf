/-
  spec.DrawIsEightOrBetter: a number, drawn.
-/
import Derived.Test.YtbhlghadjcbilaaDrawSome
import Derived.Test.YtbhlghadjcbilaaAceOf
namespace Go.Proofs.Ytbhlghadjcbilaa
open Go.RowKit

/-- Some number out of a code. -/
def DrawX (w : World) (e : Ending) (w' : World) : Prop := ∃ x : Int, e = .returned (.int .i64 x) ∧ Below w.heap.size w w'
set_option maxHeartbeats 1000000 in
theorem drawEight_any (A : Option Addr) (n c : Nat) (bs : Nat → Int) (w : World) (h : RowU w A n bs) (hn : n ≤ 1048576) : Calls Try.prog 58 #[.slice A n c] w (DrawX w) := by
  have HR := Lib.hid h
  clear h
  go_enter Try.func58, Try.ntmps58
  go_wp2_with fail
  refine (l01From_any A n c bs _ HR.out hn).mono ?_
  rintro e w1 ⟨g, rfl, hg, hs, hb⟩
  have S1 := Lib.hid hs
  have B1 := Lib.hid (And.intro hb hg)
  clear hs hb hg
  go_wp2_with fail
  refine (l01Next_any g 2 _ S1.out).mono ?_
  rintro e w2 ⟨x, rfl, x0, x1, hs, hk, hz⟩
  have S2 := Lib.hid hs
  have B2 := Lib.hid (B1.out.1.trans (hk.below B1.out.1.size B1.out.2))
  clear hs hk hz x1
  by_cases e0 : x = 0
  · have b0 : (x == 0) = true := by rw [e0]; rfl
    clear e0
    go_wp2_with fail
    refine (l04DrawFive_any g _ S2.out).mono ?_
    rintro e w3 ⟨ys, A3, c3, rfl, hT, hok, hl, hs, hk⟩
    have T3 := Lib.hid hT.own.row
    have E3 := Lib.hid (And.intro hok hl)
    have B3 := Lib.hid (B2.out.trans (hk.below B2.out.size B1.out.2))
    clear hT hok hl hs hk
    go_wp2_with fail
    refine (l05Ace_any A3 c3 ys _ T3.out E3.out.2 E3.out.1).mono ?_
    rintro e w4 ⟨rfl, hb⟩
    obtain ⟨v, hv⟩ : ∃ v : Int, v = ((371293 * patS (lcnt ys) + kvN 0 (ordS (lcnt ys)) : Nat) : Int) := ⟨_, rfl⟩
    rw [← hv]
    have B4 := Lib.hid (B3.out.trans (hb.mono B3.out.size))
    clear hb hv
    go_wp2
    go_ret
    exact ⟨v, rfl, B4.out⟩
  · have b0 : (x == 0) = false := by simpa using e0
    clear e0
    go_wp2_with fail
    refine (l01Pick_any g _ _ [-1, 0, 228487, 228488] _ _ rfl (S2.out.below' ((Below.refl _ _).alloc (Nat.le_refl _) _)) (rowI_made _ _ _ _ rfl) (made_ne S2.out) (by simp) (by simp)).mono ?_
    rintro e w3 ⟨y, rfl, hy, hs, hk, hz⟩
    have B3 := Lib.hid ((B2.out.alloc B2.out.size _).trans (hk.below (pk_sz B2.out.size _) B1.out.2))
    clear hy hs hk hz
    go_wp2
    go_ret
    exact ⟨y, rfl, B3.out⟩
end Go.Proofs.Ytbhlghadjcbilaa
