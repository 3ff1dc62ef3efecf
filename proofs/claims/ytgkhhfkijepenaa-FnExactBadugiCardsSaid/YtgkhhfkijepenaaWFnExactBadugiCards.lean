/-
  The walk of the law FnExactBadugiCards.
-/
import Derived.Test.YtgkhhfkijepenaaBadValue
namespace Go.Proofs.Ytgkhhfkijepenaa
open Go.RowKit

set_option maxHeartbeats 1000000 in
theorem FnExactBadugiCards_core (A : Option Addr) (c : Nat) (xs : List Int) (w : World) (h : RowI w A xs) :
    Calls Try.prog 5 #[.slice A xs.length c] w fun e w' => e = .returned (.bool true) ∧ Below w.heap.size w w' := by
  by_cases hl : xs.length ≤ 1048576
  · have HR := Lib.hid h
    clear h
    have B0 := Lib.hid (Below.refl w.heap.size w)
    have hys : (bcL xs).length ≤ 1048576 := by
      unfold bcL
      split
      · rename_i hs
        have := (bgL_facts hs.2.2 (by have := hs.1; have := hs.2.1; omega)).2.2.2
        omega
      · simp
    have HY := Lib.hid hys
    clear hys
    go_enter Try.func5, Try.ntmps5
    go_wp2_with fail
    refine (toInt64S_any A c xs _ (HR.out.below B0.out) hl).mono ?_
    rintro e w1 ⟨A1, c1, rfl, ho, hb⟩
    have B1 := Lib.hid hb
    have O1 := Lib.hid ho
    clear ho hb
    go_wp2_with fail
    refine (specBad_any A1 c1 xs _ O1.out.row O1.out.cap.1 O1.out.cap.2 hl).mono ?_
    rintro e w2 ⟨AW, cw, rfl, ho, hb⟩
    have B2 := Lib.hid (B1.out.trans (hb.mono B1.out.size))
    have OW := Lib.hid ho.row
    clear ho hb
    go_wp2_with fail
    refine (toInt64S_any A c xs _ (HR.out.below B2.out) hl).mono ?_
    rintro e w3 ⟨A3, c3, rfl, ho, hb⟩
    have B3 := Lib.hid (B2.out.trans (hb.mono B2.out.size))
    have C3 := Lib.hid hb
    have O3 := Lib.hid ho
    clear ho hb
    go_wp2_with fail
    refine (implBad_any A3 c3 xs _ O3.out.row hl).mono ?_
    rintro e w4 ⟨G, cg, rfl, ho, hb⟩
    have B4 := Lib.hid (B3.out.trans (hb.mono B3.out.size))
    have C4 := Lib.hid (C3.out.trans (hb.mono C3.out.size))
    have OG := Lib.hid ho
    have X4 := Lib.hid (O3.out.below hb)
    clear ho hb
    go_wp2_with fail
    refine (eqInt64S_any G AW cg cw _ _ _ OG.out.row (OW.out.below C4.out) HY.out).mono ?_
    rintro e w5 ⟨rfl, n5, rfl⟩
    rw [eqL_self]
    obtain ⟨w5, hw5⟩ : ∃ w5, w5 = w4.drewN n5 := ⟨_, rfl⟩
    have D5 : Below w4.heap.size w4 w5 := by rw [hw5]; exact below_drewN (Below.refl _ _) _
    rw [← hw5]
    have B5 := Lib.hid (B4.out.trans (D5.mono B4.out.size))
    have C5 := Lib.hid (C4.out.trans (D5.mono C4.out.size))
    have G5 := Lib.hid (OG.out.below D5)
    have X5 := Lib.hid (X4.out.below D5)
    clear hw5 D5
    go_wp2_with fail
    refine (toInt64S_any A c xs _ (HR.out.below B5.out) hl).mono ?_
    rintro e w6 ⟨A5, c6, rfl, ho, hb⟩
    have B6 := Lib.hid (B5.out.trans (hb.mono B5.out.size))
    have C6 := Lib.hid (C5.out.trans (hb.mono C5.out.size))
    have G6 := Lib.hid (G5.out.below hb)
    have X6 := Lib.hid (X5.out.below hb)
    have P6 := Lib.hid ho
    clear ho hb
    go_wp2_with fail
    refine (eqInt64S_any A3 A5 c3 c6 xs xs _ X6.out.row P6.out.row hl).mono ?_
    rintro e w7 ⟨rfl, n7, rfl⟩
    rw [eqL_self]
    obtain ⟨w7, hw7⟩ : ∃ w7, w7 = w6.drewN n7 := ⟨_, rfl⟩
    have D7 : Below w6.heap.size w6 w7 := by rw [hw7]; exact below_drewN (Below.refl _ _) _
    rw [← hw7]
    have B7 := Lib.hid (B6.out.trans (D7.mono B6.out.size))
    have C7 := Lib.hid (C6.out.trans (D7.mono C6.out.size))
    have G7 := Lib.hid (G6.out.below D7)
    have X7 := Lib.hid (X6.out.below D7)
    clear hw7 D7
    go_wp2_with fail
    refine (markInt64S_any _ A3 c3 xs 1 _ X7.out hl (by omega) (by omega)).mono ?_
    rintro e w8 ⟨rfl, hx, ho⟩
    have L3 := Lib.hid O3.out.lo_block
    have B8 := Lib.hid (below_only B7.out B7.out.size ho (fun b hb => Nat.le_trans B2.out.size (L3.out b hb).1))
    have C8 := Lib.hid (below_only C7.out C7.out.size ho (fun b hb => (L3.out b hb).1))
    have G8 := Lib.hid (G7.out.only ho (fun b hb => (L3.out b hb).2))
    clear hx ho
    go_wp2_with fail
    refine (eqInt64S_any G AW cg cw _ _ _ G8.out.row (OW.out.below C8.out) HY.out).mono ?_
    rintro e w9 ⟨rfl, n9, rfl⟩
    rw [eqL_self]
    obtain ⟨w9, hw9⟩ : ∃ w9, w9 = w8.drewN n9 := ⟨_, rfl⟩
    have D9 : Below w8.heap.size w8 w9 := by rw [hw9]; exact below_drewN (Below.refl _ _) _
    rw [← hw9]
    have B9 := Lib.hid (B8.out.trans (D9.mono B8.out.size))
    have C9 := Lib.hid (C8.out.trans (D9.mono C8.out.size))
    have G9 := Lib.hid (G8.out.below D9)
    clear hw9 D9
    go_wp2_with fail
    refine (markInt64S_any _ G cg _ 1 _ G9.out HY.out (by omega) (by omega)).mono ?_
    rintro e w10 ⟨rfl, hx, ho⟩
    have LG := Lib.hid OG.out.lo_block
    have B10 := Lib.hid (below_only B9.out B9.out.size ho (fun b hb => Nat.le_trans B3.out.size (LG.out b hb).1))
    have C10 := Lib.hid (below_only C9.out C9.out.size ho (fun b hb => Nat.le_trans C3.out.size (LG.out b hb).1))
    have M10 := Lib.hid hx.row
    clear hx ho
    go_wp2_with fail
    refine (heldInt64S_any G cg _ 1 _ M10.out HY.out (by omega) (by omega)).mono ?_
    rintro e w11 ⟨rfl, rfl⟩
    go_wp2_with fail
    refine (toInt64S_any A c xs _ (HR.out.below B10.out) hl).mono ?_
    rintro e w12 ⟨A7, c7, rfl, ho, hb⟩
    have B12 := Lib.hid (B10.out.trans (hb.mono B10.out.size))
    have C12 := Lib.hid (C10.out.trans (hb.mono C10.out.size))
    have M12 := Lib.hid (M10.out.below hb)
    have O7 := Lib.hid ho
    clear ho hb
    go_wp2_with fail
    refine (implBad_any A7 c7 xs _ O7.out.row hl).mono ?_
    rintro e w13 ⟨H, ch, rfl, ho, hb⟩
    have B13 := Lib.hid (B12.out.trans (hb.mono B12.out.size))
    have C13 := Lib.hid (C12.out.trans (hb.mono C12.out.size))
    have M13 := Lib.hid (M12.out.below hb)
    have OH := Lib.hid ho.row
    clear ho hb
    go_wp2_with fail
    refine (eqInt64S_any H AW ch cw _ _ _ OH.out (OW.out.below C13.out) HY.out).mono ?_
    rintro e w14 ⟨rfl, n14, rfl⟩
    rw [eqL_self]
    go_wp2_with fail
    refine (heldInt64S_any G cg _ 1 _ (M13.out.drewN _) HY.out (by omega) (by omega)).mono ?_
    rintro e w15 ⟨rfl, rfl⟩
    go_wp2
    go_ret
    exact ⟨rfl, below_drewN B13.out _⟩
  · have hl' : (1048576 : Int) < (xs.length : Int) := by omega
    clear h hl
    go_enter Try.func5, Try.ntmps5
    go_wp2
    go_ret
    exact ⟨rfl, Below.refl _ _⟩

theorem FnExactBadugiCards_walk (a : Option Addr) (len cap : Nat) (zs : List Int) {w : World} (h : IsRow .i64 w a len cap zs) :
    Calls Try.prog 5 #[.slice a len cap] w fun e w' => e = .returned (.bool true) ∧ Below w.heap.size w w' := by
  obtain ⟨hr, hlen⟩ := h.rowI
  have := FnExactBadugiCards_core a cap (zs.take len) w hr
  rwa [hlen] at this
end Go.Proofs.Ytgkhhfkijepenaa
