/-
  The walk of the law FnExactCompareHigh.
-/
import Derived.Test.YtbhlghadjcbilaaBestHigh
namespace Go.Proofs.Ytbhlghadjcbilaa
open Go.RowKit

set_option maxHeartbeats 1000000 in
theorem FnExactCompareHigh_core (A : Option Addr) (c : Nat) (xs : List Int) (B : Option Addr) (d : Nat) (ys : List Int) (w : World) (h : RowI w A xs) (k : RowI w B ys) :
    Calls Try.prog 5 #[.slice A xs.length c, .slice B ys.length d] w fun e w' => e = .returned (.bool true) ∧ Below w.heap.size w w' := by
  by_cases hl : xs.length ≤ 1048576
  · by_cases hl2 : ys.length ≤ 1048576
    · have HR := Lib.hid h
      have HK := Lib.hid k
      clear h k
      go_enter Try.func5, Try.ntmps5
      go_wp2_with fail
      refine (toInt64S_any A c xs _ HR.out hl).mono ?_
      rintro e w1 ⟨A1, c1, rfl, ho1, hb1⟩
      have O1 := Lib.hid ho1
      have B1 := Lib.hid hb1
      clear ho1 hb1
      go_wp2_with fail
      refine (toInt64S_any B d ys _ (HK.out.below B1.out) hl2).mono ?_
      rintro e w2 ⟨A2, c2, rfl, ho2, hb2⟩
      have O2 := Lib.hid ho2
      have B2 := Lib.hid (B1.out.trans (hb2.mono B1.out.size))
      have O12 := Lib.hid (O1.out.below hb2)
      clear ho2 hb2
      go_wp2_with fail
      refine (specCompare_any A1 A2 c1 c2 xs ys _ O12.out.row O2.out.row O12.out.cap O2.out.cap hl hl2).mono ?_
      rintro e w3 ⟨rfl, hb3⟩
      have B3 := Lib.hid (B2.out.trans (hb3.mono B2.out.size))
      clear hb3
      go_wp2_with fail
      refine (toInt64S_any A c xs _ (HR.out.below B3.out) hl).mono ?_
      rintro e w4 ⟨A4, c4, rfl, ho4, hb4⟩
      have O4 := Lib.hid ho4
      have B4 := Lib.hid (B3.out.trans (hb4.mono B3.out.size))
      clear ho4 hb4
      go_wp2_with fail
      refine (toInt64S_any B d ys _ (HK.out.below B4.out) hl2).mono ?_
      rintro e w5 ⟨A5, c5, rfl, ho5, hb5⟩
      have O5 := Lib.hid ho5
      have B5 := Lib.hid (B4.out.trans (hb5.mono B4.out.size))
      have O45 := Lib.hid (O4.out.below hb5)
      clear ho5 hb5
      go_wp2_with fail
      refine (implCompare_any A4 A5 c4 c5 xs ys _ O45.out.row O5.out.row hl hl2).mono ?_
      rintro e w6 ⟨rfl, hb6⟩
      have B6 := Lib.hid (B5.out.trans (hb6.mono B5.out.size))
      have O46 := Lib.hid (O45.out.below hb6)
      have O56 := Lib.hid (O5.out.below hb6)
      clear hb6
      go_wp2_with fail
      refine (toInt64S_any A c xs _ (HR.out.below B6.out) hl).mono ?_
      rintro e w7 ⟨A7, c7, rfl, ho7, hb7⟩
      have P7 := Lib.hid ho7
      have B7 := Lib.hid (B6.out.trans (hb7.mono B6.out.size))
      have O47 := Lib.hid (O46.out.below hb7)
      have O57 := Lib.hid (O56.out.below hb7)
      clear ho7 hb7
      go_wp2_with fail
      refine (eqInt64S_any A4 A7 c4 c7 xs xs _ O47.out.row P7.out.row hl).mono ?_
      rintro e w8 ⟨rfl, n8, rfl⟩
      rw [eqL_self]
      have B8 := Lib.hid (below_drewN B7.out n8)
      have O58 := Lib.hid (O57.out.drewN n8)
      obtain ⟨w8, hw8⟩ : ∃ w8, w8 = w7.drewN n8 := ⟨_, rfl⟩
      rw [← hw8] at B8 O58 ⊢
      clear hw8
      go_wp2_with fail
      refine (toInt64S_any B d ys _ (HK.out.below B8.out) hl2).mono ?_
      rintro e w9 ⟨A9, c9, rfl, ho9, hb9⟩
      have P9 := Lib.hid ho9
      have B9 := Lib.hid (B8.out.trans (hb9.mono B8.out.size))
      have O59 := Lib.hid (O58.out.below hb9)
      clear ho9 hb9
      go_wp2_with fail
      refine (eqInt64S_any A5 A9 c5 c9 ys ys _ O59.out.row P9.out.row hl2).mono ?_
      rintro e w10 ⟨rfl, n10, rfl⟩
      rw [eqL_self]
      go_wp2
      go_ret
      exact ⟨rfl, below_drewN B9.out _⟩
    · have hl' : (xs.length : Int) ≤ (1048576 : Int) := by omega
      have hl2' : (1048576 : Int) < (ys.length : Int) := by omega
      clear h k hl hl2
      go_enter Try.func5, Try.ntmps5
      go_wp2
      go_ret
      exact ⟨rfl, Below.refl _ _⟩
  · have hl' : (1048576 : Int) < (xs.length : Int) := by omega
    clear h k hl
    go_enter Try.func5, Try.ntmps5
    go_wp2
    go_ret
    exact ⟨rfl, Below.refl _ _⟩

theorem FnExactCompareHigh_walk (a : Option Addr) (len cap : Nat) (zs : List Int) {w : World} (h : IsRow .i64 w a len cap zs) (b : Option Addr) (len2 cap2 : Nat) (ys : List Int) (k : IsRow .i64 w b len2 cap2 ys) :
    Calls Try.prog 5 #[.slice a len cap, .slice b len2 cap2] w fun e w' => e = .returned (.bool true) ∧ Below w.heap.size w w' := by
  obtain ⟨hr, hlen⟩ := h.rowI
  obtain ⟨kr, klen⟩ := k.rowI
  have := FnExactCompareHigh_core a cap (zs.take len) b cap2 (ys.take len2) w hr kr
  rwa [hlen, klen] at this
end Go.Proofs.Ytbhlghadjcbilaa
