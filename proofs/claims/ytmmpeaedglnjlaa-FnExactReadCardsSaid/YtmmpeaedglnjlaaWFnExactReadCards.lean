/-
  The walk of the law FnExactReadCards.
-/
import Derived.Test.YtmmpeaedglnjlaaReadC
namespace Go.Proofs.Ytmmpeaedglnjlaa
open Go.RowKit

set_option maxHeartbeats 1000000 in
theorem FnExactReadCards_core (s : ByteArray) (hl : s.size ≤ 1048576) (w : World) :
    Calls Try.prog 4 #[.string s] w fun e w' => e = .returned (.bool true) ∧ Below w.heap.size w w' := by
  first
  | skip
    have B1 := Lib.hid (Below.refl w.heap.size w)
    have hys : (readL s).length ≤ 1048576 := by unfold readL; split <;> simp [crdK_length]; omega
    have HY := Lib.hid hys
    clear hys
    go_enter Try.func4, Try.ntmps4
    go_wp2_with fail
    refine (specRead_any s _ hl).mono ?_
    rintro e w2 ⟨AW, cw, rfl, ho, hb⟩
    have B2 := Lib.hid (B1.out.trans (hb.mono B1.out.size))
    have OW := Lib.hid ho.row
    clear ho hb
    obtain ⟨w3, hw3⟩ : ∃ w3, w3 = w2 := ⟨_, rfl⟩
    have B3 : Hid (Below w.heap.size w w3) := by rw [hw3]; exact B2
    have C3 : Hid (Below w2.heap.size w2 w3) := by rw [hw3]; exact Below.refl _ _
    rw [← hw3]
    clear hw3
    go_wp2_with fail
    refine (implRead_any s _ hl).mono ?_
    rintro e w4 ⟨G, cg, rfl, ho, hb⟩
    have B4 := Lib.hid (B3.out.trans (hb.mono B3.out.size))
    have C4 := Lib.hid (C3.out.trans (hb.mono C3.out.size))
    have OG := Lib.hid ho
    clear ho hb
    go_wp2_with fail
    refine (eqInt64S_any G AW cg cw _ _ _ OG.out.row (OW.out.below C4.out) HY.out).mono ?_
    rintro e w5 ⟨rfl, n5, rfl⟩
    rw [eqL_self]
    obtain ⟨w5, hw5⟩ : ∃ w5, w5 = w4.drewN n5 := ⟨_, rfl⟩
    have D5 : Below w4.heap.size w4 w5 := by rw [hw5]; exact below_drewN (Below.refl _ _) _
    rw [← hw5]
    have B5 := Lib.hid (B4.out.trans (D5.mono B4.out.size))
    have C5 := Lib.hid (C4.out.trans (D5.mono C4.out.size))
    have G5 := Lib.hid (OG.out.below D5)
    clear hw5 D5
    obtain ⟨w9, hw9⟩ : ∃ w9, w9 = w5 := ⟨_, rfl⟩
    have B9 : Hid (Below w.heap.size w w9) := by rw [hw9]; exact B5
    have C9 : Hid (Below w2.heap.size w2 w9) := by rw [hw9]; exact C5
    have G9 : Hid (OwnI w9 w3.heap.size G cg (readL s)) := by rw [hw9]; exact G5
    rw [← hw9]
    clear hw9
    go_wp2_with fail
    refine (markInt64S_any _ G cg _ 1 _ G9.out HY.out (by omega) (by omega)).mono ?_
    rintro e w10 ⟨rfl, hx, ho⟩
    have LG := Lib.hid OG.out.lo_block
    have B10 := Lib.hid (below_only B9.out B9.out.size ho (fun b hb => Nat.le_trans B3.out.size (LG.out b hb).1))
    have C10 := Lib.hid (below_only C9.out C9.out.size ho (fun b hb => Nat.le_trans C3.out.size (LG.out b hb).1))
    have M10 := Lib.hid hx.row
    clear hx ho
    go_wp2_with fail
    refine (heldInt64S_any G cg _ 1 _ M10.out HY.out (by omega) (by omega)).mono ?_
    rintro e w11 ⟨rfl, rfl⟩
    have B12 := B10
    have C12 := C10
    have M12 := M10
    go_wp2_with fail
    refine (implRead_any s _ hl).mono ?_
    rintro e w13 ⟨H, ch, rfl, ho, hb⟩
    have B13 := Lib.hid (B12.out.trans (hb.mono B12.out.size))
    have C13 := Lib.hid (C12.out.trans (hb.mono C12.out.size))
    have M13 := Lib.hid (M12.out.below hb)
    have OH := Lib.hid ho.row
    clear ho hb
    go_wp2_with fail
    refine (eqInt64S_any H AW ch cw _ _ _ OH.out (OW.out.below C13.out) HY.out).mono ?_
    rintro e w14 ⟨rfl, n14, rfl⟩
    rw [eqL_self]
    go_wp2_with fail
    refine (heldInt64S_any G cg _ 1 _ (M13.out.drewN _) HY.out (by omega) (by omega)).mono ?_
    rintro e w15 ⟨rfl, rfl⟩
    go_wp2
    go_ret
    exact ⟨rfl, below_drewN B13.out _⟩
theorem FnExactReadCards_walk (s : ByteArray) (_hs : s.size ≤ maxLen) (w : World) :
    Calls Try.prog 4 #[.string s] w fun e w' => e = .returned (.bool true) ∧ Below w.heap.size w w' := by
  by_cases hl : s.size ≤ 1048576
  · exact FnExactReadCards_core s hl w
  · have hl' : (1048576 : Int) < (s.size : Int) := by omega
    clear hl
    go_enter Try.func4, Try.ntmps4
    go_wp2
    go_ret
    exact ⟨rfl, Below.refl _ _⟩
end Go.Proofs.Ytmmpeaedglnjlaa
