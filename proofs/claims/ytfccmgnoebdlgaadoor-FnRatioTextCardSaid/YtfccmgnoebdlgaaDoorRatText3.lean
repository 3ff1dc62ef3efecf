/-
  The text of a ratio in the reference and in the program (3).
-/
import Derived.Test.YtfccmgnoebdlgaaDoorRatText2
namespace Go.Proofs.YtfccmgnoebdlgaaDoor
open Go.RowKit

theorem box2 (W : World) (x y : Value) (t : TypeId) : (W.alloc (.cells #[x, y] t)).cell? ⟨W.heap.size, 0, none⟩ = some x ∧ (W.alloc (.cells #[x, y] t)).cell? ⟨W.heap.size, 1, none⟩ = some y := by
  have h := World.rowIs_alloc W #[x, y] t (fun i => if i = 0 then x else y) (fun i hi => by
      have hi' : i < 2 := hi
      have : i = 0 ∨ i = 1 := by omega
      rcases this with rfl | rfl <;> rfl)
  exact ⟨h.cell (i := 0) (show 0 < 2 by decide), h.cell (i := 1) (show 1 < 2 by decide)⟩
/-- A world of the walk: the table lies, the box holds the ratio. -/
def RW (w : World) (g : Nat) (n d : Int) (W : World) : Prop := Below w.heap.size w W ∧ g < W.heap.size ∧ W.cell? ⟨g, 0, none⟩ = some (.int .i64 n) ∧ W.cell? ⟨g, 1, none⟩ = some (.int .i64 d)
theorem RW.below {w W W' : World} {g : Nat} {n d : Int} (h : RW w g n d W) (hb : Below W.heap.size W W') : RW w g n d W' :=
  ⟨h.1.trans (hb.mono h.1.size), Nat.lt_of_lt_of_le h.2.1 hb.size, (hb.cell (p := ⟨g, 0, none⟩) h.2.1).trans h.2.2.1, (hb.cell (p := ⟨g, 1, none⟩) h.2.1).trans h.2.2.2⟩
theorem RW.drew {w W : World} {g : Nat} {n d : Int} (h : RW w g n d W) : RW w g n d W.drew := h.below (below_drewN (Below.refl _ _) 1)
theorem RW.start (w : World) (n d : Int) (t : TypeId) {w1 : World} (hb : Below w.heap.size w w1) (hw : Below (w.alloc (.cells #[.int .i64 n, .int .i64 d] t)).heap.size (w.alloc (.cells #[.int .i64 n, .int .i64 d] t)) w1) : RW w w.heap.size n d w1 := by
  have hs : w.heap.size < (w.alloc (.cells #[.int .i64 n, .int .i64 d] t)).heap.size := by simp
  have h := box2 w (.int .i64 n) (.int .i64 d) t
  exact ⟨hb, Nat.lt_of_lt_of_le hs hw.size, (hw.cell (p := ⟨w.heap.size, 0, none⟩) hs).trans h.1, (hw.cell (p := ⟨w.heap.size, 1, none⟩) hs).trans h.2⟩

set_option maxHeartbeats 2000000 in
set_option maxRecDepth 8000 in
theorem specRatioText_any (n d : Int) (w : World) :
    Calls Tryd.prog 19 #[.agg #[.int .i64 n, .int .i64 d]] w fun e w' => e = .returned (.string (bytesOf (ratT n d))) ∧ Below w.heap.size w w' := by
  cases hr : isR n d
  · have H := Lib.hid hr
    have R : Hid (ratT n d = []) := by show _ = _; unfold ratT; rw [hr]; rfl
    clear hr
    go_enter Tryd.func19, Tryd.ntmps19
    go_wp2_with fail
    refine (specIsRatio_any n d _).mono ?_
    rintro e w1 ⟨rfl, hb⟩
    rw [H.out]
    have Q1 := Lib.hid (RW.start w n d 23 (((Below.refl _ w).alloc (Nat.le_refl _) _).trans (hb.mono (by simp))) hb)
    clear hb
    go_wp2
    go_ret
    exact ⟨by rw [R.out]; rfl, Q1.out.1⟩
  obtain ⟨b1, b2, b3, b4, -⟩ := (isR_iff n d).1 hr
  have H := Lib.hid hr
  obtain ⟨TN, hTN⟩ : ∃ T, T = bytesOf (Lib.itoa n) := ⟨_, rfl⟩
  obtain ⟨TD, hTD⟩ : ∃ T, T = bytesOf (Lib.itoa d) := ⟨_, rfl⟩
  have s1 : TN.size ≤ 21 := by rw [hTN]; exact itoa_len (by omega) (by omega)
  have s2 : TD.size ≤ 21 := by rw [hTD]; exact itoa_len (by omega) (by omega)
  have CN : Hid (∀ W g, RW w g n d W → Calls Tryd.prog 40 #[.int .i64 n] W fun e w' => e = .returned (.string TN) ∧ Hid (RW w g n d w') ∧ w'.cell? ⟨g, 0, none⟩ = some (.int .i64 n) ∧ w'.cell? ⟨g, 1, none⟩ = some (.int .i64 d)) := fun W g hq =>
    (l01Number_any n W (by omega) (by omega)).mono fun e w' ⟨he, hb⟩ => ⟨by rw [he, hTN], hq.below hb, (hq.below hb).2.2⟩
  have CD : Hid (∀ W g, RW w g n d W → Calls Tryd.prog 41 #[.int .i64 d] W fun e w' => e = .returned (.string TD) ∧ Hid (RW w g n d w') ∧ w'.cell? ⟨g, 0, none⟩ = some (.int .i64 n) ∧ w'.cell? ⟨g, 1, none⟩ = some (.int .i64 d)) := fun W g hq => by
    obtain ⟨u, rfl⟩ := Int.eq_ofNat_of_zero_le (show 0 ≤ d by omega)
    refine (l01Dec_any (u + 1) u W (by omega) (by omega)).mono fun e w' ⟨he, hb⟩ => ⟨by rw [he, hTD, Lib.itoa_nonneg], hq.below hb, (hq.below hb).2.2⟩
  by_cases hd : d = 1
  · have R : Hid (bytesOf (ratT n d) = TN) := by show _ = _; unfold ratT; rw [if_pos hr, if_pos hd, hTN]
    clear hr hTN hTD s2
    subst hd
    go_enter Tryd.func19, Tryd.ntmps19
    go_wp2_with fail
    refine (specIsRatio_any n 1 _).mono ?_
    rintro e w1 ⟨rfl, hb⟩
    rw [H.out]
    have Q1 := Lib.hid (RW.start w n 1 23 (((Below.refl _ w).alloc (Nat.le_refl _) _).trans (hb.mono (by simp))) hb)
    obtain ⟨c0, c1⟩ : w1.cell? ⟨w.heap.size, 0, none⟩ = some (.int .i64 n) ∧ w1.cell? ⟨w.heap.size, 1, none⟩ = some (.int .i64 1) := Q1.out.2.2
    clear hb
    go_wp2_with fail
    refine (CN.out _ _ Q1.out).mono ?_
    rintro e w3 ⟨rfl, Q3, d0, d1⟩
    go_wp2
    go_ret
    exact ⟨by rw [R.out]; rfl, Q3.out.1⟩
  · have e1 : (d == 1) = false := by simpa using hd
    have Z1 : ¬ (9223372036854775807 < TN.size + 1) := by omega
    have Z2 : ¬ (9223372036854775807 < TN.size + 1 + TD.size) := by omega
    have R : Hid (bytesOf (ratT n d) = TN ++ bytesOf [47] ++ TD) := by show _ = _; unfold ratT; rw [if_pos hr, if_neg hd, hTN, hTD, bytesOf_append, bytesOf_append]; simp
    clear hr hTN hTD
    go_enter Tryd.func19, Tryd.ntmps19
    go_wp2_with fail
    refine (specIsRatio_any n d _).mono ?_
    rintro e w1 ⟨rfl, hb⟩
    rw [H.out]
    have Q1 := Lib.hid (RW.start w n d 23 (((Below.refl _ w).alloc (Nat.le_refl _) _).trans (hb.mono (by simp))) hb)
    obtain ⟨c0, c1⟩ : w1.cell? ⟨w.heap.size, 0, none⟩ = some (.int .i64 n) ∧ w1.cell? ⟨w.heap.size, 1, none⟩ = some (.int .i64 d) := Q1.out.2.2
    clear hb
    have Q2 := Lib.hid (show RW w w.heap.size n d w1.drew from Q1.out.drew)
    go_wp2
    go_region_law (first
      | (go_simp; go_at_call_of 40 n; refine (CN.out _ _ Q3.out).mono ?_; rintro e w4 ⟨rfl, Q4, f0, f1⟩)
      | (go_simp; go_at_call_of 40 n; refine (CN.out _ _ Q2.out).mono ?_; rintro e w3 ⟨rfl, Q3, d0, d1⟩)
      | (go_simp; go_at_call_of 41 d; refine (CD.out _ _ Q3.out).mono ?_; rintro e w4 ⟨rfl, Q4, f0, f1⟩)
      | (go_simp; go_at_call_of 41 d; refine (CD.out _ _ Q2.out).mono ?_; rintro e w3 ⟨rfl, Q3, d0, d1⟩))
    all_goals
      go_wp2
      go_ret
      exact ⟨by rw [R.out]; rfl, Q4.out.1⟩

set_option maxHeartbeats 2000000 in
set_option maxRecDepth 8000 in
theorem implRatioText_any (n d : Int) (w : World) (ht : Tab w) :
    Calls Tryd.prog 11 #[.agg #[.int .i64 n, .int .i64 d]] w fun e w' => e = .returned (.string (bytesOf (ratT n d))) ∧ Below w.heap.size w w' := by
  have HT := Lib.hid ht
  clear ht
  cases hr : isR n d
  · have H := Lib.hid hr
    have R : Hid (ratT n d = []) := by show _ = _; unfold ratT; rw [hr]; rfl
    clear hr
    go_enter Tryd.func11, Tryd.ntmps11
    go_wp2_with fail
    refine (implIsRatio_any n d _).mono ?_
    rintro e w1 ⟨rfl, hb⟩
    rw [H.out]
    have Q1 := Lib.hid (RW.start w n d 23 (((Below.refl _ w).alloc (Nat.le_refl _) _).trans (hb.mono (by simp))) hb)
    have T1 := Lib.hid (HT.out.below (((Below.refl _ w).alloc (Nat.le_refl _) (.cells #[.int .i64 n, .int .i64 d] 23)).trans (hb.mono (by simp))))
    clear hb
    go_wp2
    go_ret
    exact ⟨by rw [R.out]; rfl, Q1.out.1⟩
  obtain ⟨b1, b2, b3, b4, -⟩ := (isR_iff n d).1 hr
  have H := Lib.hid hr
  obtain ⟨TN, hTN⟩ : ∃ T, T = bytesOf (Lib.itoa n) := ⟨_, rfl⟩
  obtain ⟨TD, hTD⟩ : ∃ T, T = bytesOf (Lib.itoa d) := ⟨_, rfl⟩
  have s1 : TN.size ≤ 21 := by rw [hTN]; exact itoa_len (by omega) (by omega)
  have s2 : TD.size ≤ 21 := by rw [hTD]; exact itoa_len (by omega) (by omega)
  have CN : Hid (∀ W g, RW w g n d W ∧ Tab W → Calls Tryd.prog 29 #[.int .i64 n] W fun e w' => e = .returned (.string TN) ∧ Hid (RW w g n d w' ∧ Tab w') ∧ w'.cell? ⟨g, 0, none⟩ = some (.int .i64 n) ∧ w'.cell? ⟨g, 1, none⟩ = some (.int .i64 d)) := fun W g hq =>
    (decimal_any n W (by omega) (by omega) hq.2).mono fun e w' ⟨he, hb⟩ => ⟨by rw [he, hTN], ⟨hq.1.below hb, hq.2.below hb⟩, (hq.1.below hb).2.2⟩
  have CD : Hid (∀ W g, RW w g n d W ∧ Tab W → Calls Tryd.prog 29 #[.int .i64 d] W fun e w' => e = .returned (.string TD) ∧ Hid (RW w g n d w' ∧ Tab w') ∧ w'.cell? ⟨g, 0, none⟩ = some (.int .i64 n) ∧ w'.cell? ⟨g, 1, none⟩ = some (.int .i64 d)) := fun W g hq =>
    (decimal_any d W (by omega) (by omega) hq.2).mono fun e w' ⟨he, hb⟩ => ⟨by rw [he, hTD], ⟨hq.1.below hb, hq.2.below hb⟩, (hq.1.below hb).2.2⟩
  by_cases hd : d = 1
  · have R : Hid (bytesOf (ratT n d) = TN) := by show _ = _; unfold ratT; rw [if_pos hr, if_pos hd, hTN]
    clear hr hTN hTD s2
    subst hd
    go_enter Tryd.func11, Tryd.ntmps11
    go_wp2_with fail
    refine (implIsRatio_any n 1 _).mono ?_
    rintro e w1 ⟨rfl, hb⟩
    rw [H.out]
    have Q1 := Lib.hid (RW.start w n 1 23 (((Below.refl _ w).alloc (Nat.le_refl _) _).trans (hb.mono (by simp))) hb)
    have T1 := Lib.hid (HT.out.below (((Below.refl _ w).alloc (Nat.le_refl _) (.cells #[.int .i64 n, .int .i64 1] 23)).trans (hb.mono (by simp))))
    obtain ⟨c0, c1⟩ : w1.cell? ⟨w.heap.size, 0, none⟩ = some (.int .i64 n) ∧ w1.cell? ⟨w.heap.size, 1, none⟩ = some (.int .i64 1) := Q1.out.2.2
    clear hb
    go_wp2_with fail
    refine (CN.out _ _ ⟨Q1.out, T1.out⟩).mono ?_
    rintro e w3 ⟨rfl, Q3, d0, d1⟩
    go_wp2
    go_ret
    exact ⟨by rw [R.out]; rfl, Q3.out.1.1⟩
  · have e1 : (d == 1) = false := by simpa using hd
    have Z1 : ¬ (9223372036854775807 < TN.size + 1) := by omega
    have Z2 : ¬ (9223372036854775807 < TN.size + 1 + TD.size) := by omega
    have R : Hid (bytesOf (ratT n d) = TN ++ bytesOf [47] ++ TD) := by show _ = _; unfold ratT; rw [if_pos hr, if_neg hd, hTN, hTD, bytesOf_append, bytesOf_append]; simp
    clear hr hTN hTD
    go_enter Tryd.func11, Tryd.ntmps11
    go_wp2_with fail
    refine (implIsRatio_any n d _).mono ?_
    rintro e w1 ⟨rfl, hb⟩
    rw [H.out]
    have Q1 := Lib.hid (RW.start w n d 23 (((Below.refl _ w).alloc (Nat.le_refl _) _).trans (hb.mono (by simp))) hb)
    have T1 := Lib.hid (HT.out.below (((Below.refl _ w).alloc (Nat.le_refl _) (.cells #[.int .i64 n, .int .i64 d] 23)).trans (hb.mono (by simp))))
    obtain ⟨c0, c1⟩ : w1.cell? ⟨w.heap.size, 0, none⟩ = some (.int .i64 n) ∧ w1.cell? ⟨w.heap.size, 1, none⟩ = some (.int .i64 d) := Q1.out.2.2
    clear hb
    have Q2 := Lib.hid (show RW w w.heap.size n d w1.drew ∧ Tab w1.drew from ⟨Q1.out.drew, T1.out.below (below_drewN (Below.refl _ _) 1)⟩)
    go_wp2
    go_region_law (first
      | (go_simp; go_at_call_of 29 n; refine (CN.out _ _ Q3.out).mono ?_; rintro e w4 ⟨rfl, Q4, f0, f1⟩)
      | (go_simp; go_at_call_of 29 n; refine (CN.out _ _ Q2.out).mono ?_; rintro e w3 ⟨rfl, Q3, d0, d1⟩)
      | (go_simp; go_at_call_of 29 d; refine (CD.out _ _ Q3.out).mono ?_; rintro e w4 ⟨rfl, Q4, f0, f1⟩)
      | (go_simp; go_at_call_of 29 d; refine (CD.out _ _ Q2.out).mono ?_; rintro e w3 ⟨rfl, Q3, d0, d1⟩))
    all_goals
      go_wp2
      go_ret
      exact ⟨by rw [R.out]; rfl, Q4.out.1.1⟩
end Go.Proofs.YtfccmgnoebdlgaaDoor
