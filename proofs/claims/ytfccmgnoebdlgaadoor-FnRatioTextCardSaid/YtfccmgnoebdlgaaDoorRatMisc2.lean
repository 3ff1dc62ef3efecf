/-
  CompareRatios, MakeRatio, GreatestDivisor in the reference and in the program; SubtractRatios in the reference.
-/
import Derived.Test.YtfccmgnoebdlgaaDoorRatMisc
namespace Go.Proofs.YtfccmgnoebdlgaaDoor
open Go.RowKit

theorem two_eq {t : Int × Int} {x y : Int} (h : t = (x, y)) : Ending.returned (.tuple #[.int .i64 x, .int .i64 y]) = .returned (.tuple #[.int .i64 t.1, .int .i64 t.2]) := by subst h; rfl

set_option maxHeartbeats 1000000 in
theorem implMakeRatio_any (n d : Int) (w : World) :
    Calls Tryd.prog 14 #[.int .i64 n, .int .i64 d] w fun e w' => e = .returned (ratV (makR n d)) ∧ Below w.heap.size w w' := by
  by_cases h1 : -1000000000 ≤ n ∧ n ≤ 1000000000
  · obtain ⟨h1, h2⟩ := h1
    by_cases h3 : 1 ≤ d ∧ d ≤ 1000000000
    · obtain ⟨h3, h4⟩ := h3
      have R : Hid (makR n d = rd n d) := by unfold makR; rw [if_pos ⟨h1, h2, h3, h4⟩]; rfl
      go_enter Tryd.func14, Tryd.ntmps14
      go_wp2_with (go_at_call 33; refine (within_yes _ _ _ _ (by omega) (by omega)).mono ?_; rintro e w' ⟨rfl, rfl⟩)
      refine (reduced_any n d _ (by omega) (by omega) (by omega) (by omega)).mono ?_
      rintro e w3 ⟨rfl, hb⟩
      have hB3 : Below w.heap.size w w3 := ((Below.refl _ _).alloc (Nat.le_refl _) _).trans (hb.mono (by simp))
      obtain ⟨hc, hf⟩ := bcell hb
      have c0 : w3.cell? ⟨w.heap.size, 0, none⟩ = some (.int .i64 0) := by rw [hc _ _ (by simp)]; simp [go_sem]
      have c1 : w3.cell? ⟨w.heap.size, 1, none⟩ = some (.int .i64 0) := by rw [hc _ _ (by simp)]; simp [go_sem]
      have f0 : w3.frozen? ⟨w.heap.size, 0, none⟩ = false := by rw [hf _ _ (by simp)]; simp [go_sem]
      have f1 : w3.frozen? ⟨w.heap.size, 1, none⟩ = false := by rw [hf _ _ (by simp)]; simp [go_sem]
      clear hb hc hf
      go_wp2
      exact bodyPost_ret (v := .tuple #[.agg #[.int .i64 _, .int .i64 _], .int .i64 _]) (by simp [results, Tryd.results14, go_sem, c0, c1]) rfl ⟨ratV_eq R.out, hB3.setCell (by simp) _ |>.setCell (by simp) _⟩
    · have R : Hid (makR n d = (0, 0, 2)) := by unfold makR; rw [if_neg (by omega)]; rfl
      have h5 : d < 1 ∨ 1000000000 < d := by omega
      have h6 := Lib.hid h5
      clear h3 h5
      go_enter Tryd.func14, Tryd.ntmps14
      go_wp2_with (first | (go_at_call_of 33 n; refine (within_yes _ _ _ _ (by omega) (by omega)).mono ?_; rintro e w' ⟨rfl, rfl⟩) | (go_at_call_of 33 d; refine (within_no _ _ _ _ h6.out).mono ?_; rintro e w' ⟨rfl, rfl⟩))
      exact bodyPost_ret (v := .tuple #[.agg #[.int .i64 0, .int .i64 0], .int .i64 2]) (by simp [results, Tryd.results14, go_sem]) rfl ⟨ratV_eq R.out, by repeat (first | exact Below.refl _ _ | exact Nat.le_refl _ | (simp; done) | refine Below.setCell ?_ ?_ _ | refine Below.alloc ?_ ?_ _)⟩
  · have R : Hid (makR n d = (0, 0, 2)) := by unfold makR; rw [if_neg (by omega)]; rfl
    have h5 : n < -1000000000 ∨ 1000000000 < n := by omega
    have h6 := Lib.hid h5
    clear h1 h5
    go_enter Tryd.func14, Tryd.ntmps14
    go_wp2_with (go_at_call 33; refine (within_no _ _ _ _ h6.out).mono ?_; rintro e w' ⟨rfl, rfl⟩)
    exact bodyPost_ret (v := .tuple #[.agg #[.int .i64 0, .int .i64 0], .int .i64 2]) (by simp [results, Tryd.results14, go_sem]) rfl ⟨ratV_eq R.out, by repeat (first | exact Below.refl _ _ | exact Nat.le_refl _ | (simp; done) | refine Below.setCell ?_ ?_ _ | refine Below.alloc ?_ ?_ _)⟩

set_option maxHeartbeats 1000000 in
theorem implGreatestDivisor_any (a b : Int) (w : World) :
    Calls Tryd.prog 17 #[.int .i64 a, .int .i64 b] w fun e w' => e = .returned (.tuple #[.int .i64 (gcdR a b).1, .int .i64 (gcdR a b).2]) ∧ ∃ n, w' = w.drewN n := by
  by_cases h1 : 0 ≤ a ∧ a ≤ 1000000000
  · obtain ⟨h1, h2⟩ := h1
    by_cases h3 : 0 ≤ b ∧ b ≤ 1000000000
    · obtain ⟨h3, h4⟩ := h3
      have R : Hid (gcdR a b = (gcdI a b, 0)) := by unfold gcdR; rw [if_pos ⟨h1, h2, h3, h4⟩]; rfl
      go_enter Tryd.func17, Tryd.ntmps17
      go_wp2_with (first | (go_at_call 33; refine (within_yes _ _ _ _ (by omega) (by omega)).mono ?_; rintro e w' ⟨rfl, rfl⟩) | (go_at_call 37; refine (divisorOf_any a b _ (by omega) (by omega) (by omega) (by omega)).mono ?_; rintro e w' ⟨rfl, nn, rfl⟩))
      go_ret2
      exact ⟨two_eq R.out, _, rfl⟩
    · have R : Hid (gcdR a b = (0, 2)) := by unfold gcdR; rw [if_neg (by omega)]; rfl
      have h5 : b < 0 ∨ 1000000000 < b := by omega
      have h6 := Lib.hid h5
      clear h3 h5
      go_enter Tryd.func17, Tryd.ntmps17
      go_wp2_with (first | (go_at_call_of 33 a; refine (within_yes _ _ _ _ (by omega) (by omega)).mono ?_; rintro e w' ⟨rfl, rfl⟩) | (go_at_call_of 33 b; refine (within_no _ _ _ _ h6.out).mono ?_; rintro e w' ⟨rfl, rfl⟩))
      go_ret2
      exact ⟨two_eq R.out, 0, rfl⟩
  · have R : Hid (gcdR a b = (0, 2)) := by unfold gcdR; rw [if_neg (by omega)]; rfl
    have h5 : a < 0 ∨ 1000000000 < a := by omega
    have h6 := Lib.hid h5
    clear h1 h5
    go_enter Tryd.func17, Tryd.ntmps17
    go_wp2_with (go_at_call 33; refine (within_no _ _ _ _ h6.out).mono ?_; rintro e w' ⟨rfl, rfl⟩)
    go_ret2
    exact ⟨two_eq R.out, 0, rfl⟩

set_option maxHeartbeats 1000000 in
theorem specMakeRatio_any (n d : Int) (w : World) :
    Calls Tryd.prog 15 #[.int .i64 n, .int .i64 d] w fun e w' => e = .returned (ratV (makR n d)) ∧ Below w.heap.size w w' := by
  by_cases h1 : -1000000000 ≤ n ∧ n ≤ 1000000000
  · obtain ⟨h1, h2⟩ := h1
    by_cases h3 : 1 ≤ d ∧ d ≤ 1000000000
    · obtain ⟨h3, h4⟩ := h3
      have R : Hid (makR n d = rd n d) := by unfold makR; rw [if_pos ⟨h1, h2, h3, h4⟩]; rfl
      go_enter Tryd.func15, Tryd.ntmps15
      go_wp2_with (go_at_call 35; refine (l01In_yes _ _ _ _ (by omega) (by omega)).mono ?_; rintro e w' ⟨rfl, rfl⟩)
      refine (l01Ratio_any n d _ (by omega) (by omega) (by omega) (by omega)).mono ?_
      rintro e w3 ⟨rfl, hb⟩
      have hB3 : Below w.heap.size w w3 := ((Below.refl _ _).alloc (Nat.le_refl _) _).trans (hb.mono (by simp))
      obtain ⟨hc, hf⟩ := bcell hb
      have c0 : w3.cell? ⟨w.heap.size, 0, none⟩ = some (.int .i64 0) := by rw [hc _ _ (by simp)]; simp [go_sem]
      have c1 : w3.cell? ⟨w.heap.size, 1, none⟩ = some (.int .i64 0) := by rw [hc _ _ (by simp)]; simp [go_sem]
      have f0 : w3.frozen? ⟨w.heap.size, 0, none⟩ = false := by rw [hf _ _ (by simp)]; simp [go_sem]
      have f1 : w3.frozen? ⟨w.heap.size, 1, none⟩ = false := by rw [hf _ _ (by simp)]; simp [go_sem]
      clear hb hc hf
      go_wp2
      exact bodyPost_ret (v := .tuple #[.agg #[.int .i64 _, .int .i64 _], .int .i64 _]) (by simp [results, Tryd.results15, go_sem, c0, c1]) rfl ⟨ratV_eq R.out, hB3.setCell (by simp) _ |>.setCell (by simp) _⟩
    · have R : Hid (makR n d = (0, 0, 2)) := by unfold makR; rw [if_neg (by omega)]; rfl
      have h5 : d < 1 ∨ 1000000000 < d := by omega
      have h6 := Lib.hid h5
      clear h3 h5
      go_enter Tryd.func15, Tryd.ntmps15
      go_wp2_with (first | (go_at_call_of 35 n; refine (l01In_yes _ _ _ _ (by omega) (by omega)).mono ?_; rintro e w' ⟨rfl, rfl⟩) | (go_at_call_of 35 d; refine (l01In_no _ _ _ _ h6.out).mono ?_; rintro e w' ⟨rfl, rfl⟩))
      exact bodyPost_ret (v := .tuple #[.agg #[.int .i64 0, .int .i64 0], .int .i64 2]) (by simp [results, Tryd.results15, go_sem]) rfl ⟨ratV_eq R.out, by repeat (first | exact Below.refl _ _ | exact Nat.le_refl _ | (simp; done) | refine Below.setCell ?_ ?_ _ | refine Below.alloc ?_ ?_ _)⟩
  · have R : Hid (makR n d = (0, 0, 2)) := by unfold makR; rw [if_neg (by omega)]; rfl
    have h5 : n < -1000000000 ∨ 1000000000 < n := by omega
    have h6 := Lib.hid h5
    clear h1 h5
    go_enter Tryd.func15, Tryd.ntmps15
    go_wp2_with (go_at_call 35; refine (l01In_no _ _ _ _ h6.out).mono ?_; rintro e w' ⟨rfl, rfl⟩)
    exact bodyPost_ret (v := .tuple #[.agg #[.int .i64 0, .int .i64 0], .int .i64 2]) (by simp [results, Tryd.results15, go_sem]) rfl ⟨ratV_eq R.out, by repeat (first | exact Below.refl _ _ | exact Nat.le_refl _ | (simp; done) | refine Below.setCell ?_ ?_ _ | refine Below.alloc ?_ ?_ _)⟩

set_option maxHeartbeats 1000000 in
theorem specGreatestDivisor_any (a b : Int) (w : World) :
    Calls Tryd.prog 18 #[.int .i64 a, .int .i64 b] w fun e w' => e = .returned (.tuple #[.int .i64 (gcdR a b).1, .int .i64 (gcdR a b).2]) ∧ ∃ n, w' = w.drewN n := by
  by_cases h1 : 0 ≤ a ∧ a ≤ 1000000000
  · obtain ⟨h1, h2⟩ := h1
    by_cases h3 : 0 ≤ b ∧ b ≤ 1000000000
    · obtain ⟨h3, h4⟩ := h3
      have R : Hid (gcdR a b = (gcdI a b, 0)) := by unfold gcdR; rw [if_pos ⟨h1, h2, h3, h4⟩]; rfl
      go_enter Tryd.func18, Tryd.ntmps18
      go_wp2_with (first | (go_at_call 35; refine (l01In_yes _ _ _ _ (by omega) (by omega)).mono ?_; rintro e w' ⟨rfl, rfl⟩) | (go_at_call 38; refine (l01Gcd_any (b.toNat + 1) a b _ (by omega) (by omega) (by omega) (by omega) (by omega)).mono ?_; rintro e w' ⟨rfl, rfl⟩))
      go_ret2
      exact ⟨two_eq R.out, 0, rfl⟩
    · have R : Hid (gcdR a b = (0, 2)) := by unfold gcdR; rw [if_neg (by omega)]; rfl
      have h5 : b < 0 ∨ 1000000000 < b := by omega
      have h6 := Lib.hid h5
      clear h3 h5
      go_enter Tryd.func18, Tryd.ntmps18
      go_wp2_with (first | (go_at_call_of 35 a; refine (l01In_yes _ _ _ _ (by omega) (by omega)).mono ?_; rintro e w' ⟨rfl, rfl⟩) | (go_at_call_of 35 b; refine (l01In_no _ _ _ _ h6.out).mono ?_; rintro e w' ⟨rfl, rfl⟩))
      go_ret2
      exact ⟨two_eq R.out, 0, rfl⟩
  · have R : Hid (gcdR a b = (0, 2)) := by unfold gcdR; rw [if_neg (by omega)]; rfl
    have h5 : a < 0 ∨ 1000000000 < a := by omega
    have h6 := Lib.hid h5
    clear h1 h5
    go_enter Tryd.func18, Tryd.ntmps18
    go_wp2_with (go_at_call 35; refine (l01In_no _ _ _ _ h6.out).mono ?_; rintro e w' ⟨rfl, rfl⟩)
    go_ret2
    exact ⟨two_eq R.out, 0, rfl⟩

/-- Go's '-x' on int64. -/
theorem addR_wneg (a b c d : Int) (h1 : -9223372036854775808 ≤ c) (h2 : c ≤ 9223372036854775807) : addR a b (wrap64 (-c)) d = subR a b c d := by
  by_cases h : c = -9223372036854775808
  · have e1 : wrap64 (-c) = -9223372036854775808 := by subst h; unfold wrap64; omega
    have e2 : isR (wrap64 (-c)) d = false := isR_big (by omega)
    have e3 : isR c d = false := isR_big (by omega)
    unfold addR subR
    rw [if_neg (okk_right e2), if_neg (okk_right e3)]
  · rw [IntWalk.wrap64_in _ (by omega), addR_neg]
end Go.Proofs.YtfccmgnoebdlgaaDoor
