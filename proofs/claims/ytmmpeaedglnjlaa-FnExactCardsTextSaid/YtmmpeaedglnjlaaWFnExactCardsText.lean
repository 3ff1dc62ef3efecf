/-
  The walk of the law FnExactCardsText.
-/
import Derived.Test.YtmmpeaedglnjlaaTextC
namespace Go.Proofs.Ytmmpeaedglnjlaa
open Go.RowKit

theorem FnExactCardsText_core (A : Option Addr) (c : Nat) (xs : List Int) (w : World) (h : RowI w A xs) :
    Calls Try.prog 3 #[.slice A xs.length c] w fun e w' => e = .returned (.bool true) ∧ Below w.heap.size w w' := by
  by_cases hl : xs.length ≤ 1048576
  · have HR := Lib.hid h
    clear h
    go_enter Try.func3, Try.ntmps3
    go_wp2_with fail
    refine (toInt64S_any A c xs _ HR.out hl).mono ?_
    rintro e w1 ⟨A1, c1, rfl, ho1, hb1⟩
    have O1 := Lib.hid ho1
    have B1 := Lib.hid hb1
    clear ho1 hb1
    go_wp2_with fail
    refine (specText_any A1 c1 xs _ O1.out.row hl).mono ?_
    rintro e w2 ⟨rfl, hb2⟩
    have B2 := Lib.hid (B1.out.trans (hb2.mono B1.out.size))
    clear hb2
    go_wp2_with fail
    refine (toInt64S_any A c xs _ (HR.out.below B2.out) hl).mono ?_
    rintro e w3 ⟨A3, c3, rfl, ho3, hb3⟩
    have O3 := Lib.hid ho3
    have B3 := Lib.hid (B2.out.trans (hb3.mono B2.out.size))
    clear ho3 hb3
    go_wp2_with fail
    refine (implText_any A3 c3 xs _ O3.out.row hl).mono ?_
    rintro e w4 ⟨rfl, hb4⟩
    have B4 := Lib.hid (B3.out.trans (hb4.mono B3.out.size))
    have O4 := Lib.hid (O3.out.below hb4)
    clear hb4
    go_wp2_with fail
    refine (toInt64S_any A c xs _ (HR.out.below B4.out) hl).mono ?_
    rintro e w5 ⟨A5, c5, rfl, ho5, hb5⟩
    have B5 := Lib.hid (B4.out.trans (hb5.mono B4.out.size))
    have O5 := Lib.hid (O4.out.below hb5)
    have P5 := Lib.hid ho5
    clear hb5 ho5
    go_wp2_with fail
    refine (eqInt64S_any A3 A5 c3 c5 xs xs _ O5.out.row P5.out.row hl).mono ?_
    rintro e w6 ⟨rfl, n6, rfl⟩
    rw [eqL_self]
    go_wp2
    go_ret
    exact ⟨rfl, below_drewN B5.out _⟩
  · have hl' : (1048576 : Int) < (xs.length : Int) := by omega
    clear h hl
    go_enter Try.func3, Try.ntmps3
    go_wp2
    go_ret
    exact ⟨rfl, Below.refl _ _⟩

theorem FnExactCardsText_walk (a : Option Addr) (len cap : Nat) (zs : List Int) {w : World} (h : IsRow .i64 w a len cap zs) :
    Calls Try.prog 3 #[.slice a len cap] w fun e w' => e = .returned (.bool true) ∧ Below w.heap.size w w' := by
  obtain ⟨hr, hlen⟩ := h.rowI
  have := FnExactCardsText_core a cap (zs.take len) w hr
  rwa [hlen] at this
end Go.Proofs.Ytmmpeaedglnjlaa
