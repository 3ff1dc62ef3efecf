/-
  Categories and values drawn out of a code.
-/
import Derived.Test.YtbhlghadjcbilaaDoorValSpec
import Derived.Test.YtbhlghadjcbilaaDoorDrawFive
import Derived.Test.YtbhlghadjcbilaaDoorDrawFrom
namespace Go.Proofs.YtbhlghadjcbilaaDoor
open Go.RowKit

theorem drawCatName_any (A : Option Addr) (n c : Nat) (bs : Nat → Int) (w : World) (h : RowU w A n bs) (hn : n ≤ 1048576) :
    Calls Tryd.prog 11 #[.slice A n c] w fun e w' => (∃ x : Int, e = .returned (.int .i64 x)) ∧ Below w.heap.size w w' := by
  have HR := Lib.hid h
  clear h
  go_enter Tryd.func11, Tryd.ntmps11
  go_wp2_with fail
  refine (l01From_any A n c bs _ HR.out hn).mono ?_
  rintro e w1 ⟨g, rfl, hg, hs, hb⟩
  have S1 := Lib.hid hs
  have B1 := Lib.hid (And.intro hb hg)
  clear hs hb hg HR
  go_wp2_with fail
  refine (l01Next_any g 11 _ S1.out).mono ?_
  rintro e w2 ⟨x, rfl, x0, x1, hs2, hk2, hz2⟩
  have FIN : Hid (Below w.heap.size w w2) := B1.out.1.trans (hk2.below B1.out.1.size B1.out.2)
  clear hs2 hk2 hz2
  go_wp2
  go_ret
  exact ⟨⟨_, rfl⟩, FIN.out⟩
theorem drawCatSize_any (A : Option Addr) (n c : Nat) (bs : Nat → Int) (w : World) (h : RowU w A n bs) (hn : n ≤ 1048576) :
    Calls Tryd.prog 5 #[.slice A n c] w fun e w' => (∃ x : Int, e = .returned (.int .i64 x)) ∧ Below w.heap.size w w' := by
  have HR := Lib.hid h
  clear h
  go_enter Tryd.func5, Tryd.ntmps5
  go_wp2_with fail
  refine (drawCatName_any A n c bs _ HR.out hn).mono ?_
  rintro e w1 ⟨⟨x, rfl⟩, hb⟩
  have FIN := Lib.hid hb
  clear hb
  go_wp2
  go_ret
  exact ⟨⟨_, rfl⟩, FIN.out⟩
theorem value_len (A : Option Addr) (cp len : Nat) (xs : List Int) (w : World) (hlen : len = xs.length) (h : RowI w A xs) (h5 : xs.length = 5) (hok : okC xs) :
    Calls Tryd.prog 19 #[.slice A len cp] w fun e w' => e = .returned (.int .i64 (valS (cnt xs) (fluB xs) : Nat)) ∧ Below w.heap.size w w' := by subst hlen; exact l04Value_any A cp xs w h h5 hok
set_option maxHeartbeats 1000000 in
theorem drawParts_any (A : Option Addr) (n c : Nat) (bs : Nat → Int) (w : World) (h : RowU w A n bs) (hn : n ≤ 1048576) :
    Calls Tryd.prog 8 #[.slice A n c] w fun e w' => (∃ x : Int, e = .returned (.int .i64 x)) ∧ Below w.heap.size w w' := by
  have HR := Lib.hid h
  clear h
  go_enter Tryd.func8, Tryd.ntmps8
  go_wp2_with fail
  refine (l01From_any A n c bs _ HR.out hn).mono ?_
  rintro e w1 ⟨g, rfl, hg, hs, hb⟩
  have S1 := Lib.hid hs
  have B1 := Lib.hid (And.intro hb hg)
  clear hs hb hg HR
  go_wp2_with fail
  refine (l01Next_any g 2 _ S1.out).mono ?_
  rintro e w2 ⟨x, rfl, x0, x1, hs2, hk2, hz2⟩
  have S2 := Lib.hid hs2
  have B2 : Hid (Below w.heap.size w w2) := B1.out.1.trans (hk2.below B1.out.1.size B1.out.2)
  clear hs2 hk2 hz2 x0 x1
  by_cases e0 : x = 0
  · subst e0
    go_wp2_with fail
    refine (l04DrawFive_any g _ S2.out).mono ?_
    rintro e w3 ⟨ys, A3, c3, rfl, hT, hok, h5, hs3, hk3⟩
    have B3 : Hid (Below w.heap.size w w3) := B2.out.trans (hk3.below B2.out.size B1.out.2)
    have R3 := Lib.hid hT.own.row
    have OK := Lib.hid (And.intro h5 hok)
    rw [h5]
    clear hT hok h5 hs3 hk3
    go_wp2_with fail
    refine (value_len A3 c3 5 ys _ OK.out.1.symm R3.out OK.out.1 OK.out.2).mono ?_
    rintro e w4 ⟨rfl, hb⟩
    have FIN : Hid (Below w.heap.size w w4) := B3.out.trans (hb.mono B3.out.size)
    clear hb
    go_wp2
    go_ret
    exact ⟨⟨_, rfl⟩, FIN.out⟩
  · have b0 : (x == 0) = false := by simpa using e0
    clear e0
    go_wp2_with fail
    refine (l01Next_any g 3341637 _ S2.out).mono ?_
    rintro e w3 ⟨y, rfl, y0, y1, hs3, hk3, hz3⟩
    have S3 := Lib.hid hs3
    have B3 : Hid (Below w.heap.size w w3) := B2.out.trans (hk3.below B2.out.size B1.out.2)
    clear hs3 hk3 hz3 y0 y1
    go_wp2_with fail
    refine (l01Pick_any g _ _ [-1, 0, y, 3341636, 3341637] _ _ rfl (S3.out.below' ((Below.refl _ _).alloc (Nat.le_refl _) _)) (rowI_made _ _ _ _ rfl) (made_ne S3.out) (by simp) (by simp)).mono ?_
    rintro e w4 ⟨z, rfl, hz, hs4, hk4, hz4⟩
    have FIN : Hid (Below w.heap.size w w4) := by
      have := hk4.below (B := w.heap.size) (by rw [World.size_alloc]; have := B3.out.size; omega) B1.out.2
      exact (B3.out.alloc B3.out.size _).trans this
    clear hz hs4 hk4 hz4
    go_wp2
    go_ret
    exact ⟨⟨_, rfl⟩, FIN.out⟩
end Go.Proofs.YtbhlghadjcbilaaDoor
