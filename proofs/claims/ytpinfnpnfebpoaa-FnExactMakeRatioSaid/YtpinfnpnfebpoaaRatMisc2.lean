/-
  CompareRatios, MakeRatio, GreatestDivisor in the reference and in the program; SubtractRatios in the reference.
-/
import Derived.Test.YtpinfnpnfebpoaaRatMisc
namespace Go.Proofs.Ytpinfnpnfebpoaa
open Go.RowKit

theorem two_eq {t : Int × Int} {x y : Int} (h : t = (x, y)) : Ending.returned (.tuple #[.int .i64 x, .int .i64 y]) = .returned (.tuple #[.int .i64 t.1, .int .i64 t.2]) := by subst h; rfl

set_option maxHeartbeats 1000000 in
theorem implCompareRatios_any (a b c d : Int) (w : World) :
    Calls Try.prog 29 #[.agg #[.int .i64 a, .int .i64 b], .agg #[.int .i64 c, .int .i64 d]] w fun e w' => e = .returned (.tuple #[.int .i64 (cmpR a b c d).1, .int .i64 (cmpR a b c d).2]) ∧ Below w.heap.size w w' := by
  cases ha : isR a b
  · have H := Lib.hid ha
    have R : Hid (cmpR a b c d = (0, 1)) := by unfold cmpR; rw [if_neg (okk_left ha)]; rfl
    clear ha
    go_enter Try.func29, Try.ntmps29
    go_wp2_with fail
    refine (implIsRatio_any a b _).mono ?_
    rintro e w1 ⟨rfl, hb⟩
    rw [H.out]
    have hB : Below w.heap.size w w1 := (((Below.refl _ _).alloc (Nat.le_refl _) _).alloc (by simp) _).trans (hb.mono (by simp; omega))
    clear hb
    go_wp2
    go_ret2
    exact ⟨two_eq R.out, hB⟩
  cases hd : isR c d
  · have H := Lib.hid ha
    have H' := Lib.hid hd
    have R : Hid (cmpR a b c d = (0, 1)) := by unfold cmpR; rw [if_neg (okk_right hd)]; rfl
    clear ha hd
    go_enter Try.func29, Try.ntmps29
    go_wp2_with fail
    refine (implIsRatio_any a b _).mono ?_
    rintro e w1 ⟨rfl, hb⟩
    rw [H.out]
    obtain ⟨hc, hf⟩ := bcell hb
    have b0 : w1.cell? ⟨w.heap.size + 1, 0, none⟩ = some (.int .i64 c) := by rw [hc _ _ (by simp <;> omega)]; simp [go_sem]
    have b1 : w1.cell? ⟨w.heap.size + 1, 1, none⟩ = some (.int .i64 d) := by rw [hc _ _ (by simp <;> omega)]; simp [go_sem]
    have hB : Below w.heap.size w w1 := (((Below.refl _ _).alloc (Nat.le_refl _) _).alloc (by simp) _).trans (hb.mono (by simp; omega))
    have hz := hB.size
    clear hb hc hf
    go_wp2_with fail
    refine (implIsRatio_any c d _).mono ?_
    rintro e w2 ⟨rfl, hb⟩
    rw [H'.out]
    have hB2 : Below w.heap.size w w2 := hB.trans (hb.mono (by omega))
    clear hb b0 b1
    go_wp2
    go_ret2
    exact ⟨two_eq R.out, hB2⟩
  have H := Lib.hid ha
  have H' := Lib.hid hd
  have HK := Lib.hid (okk_true ha hd)
  have R : Hid (cmpR a b c d = (cmpI (a * d) (c * b), 0)) := by unfold cmpR; rw [if_pos HK.out]; rfl
  clear ha hd
  go_enter Try.func29, Try.ntmps29
  go_wp2_with fail
  refine (implIsRatio_any a b _).mono ?_
  rintro e w1 ⟨rfl, hb⟩
  rw [H.out]
  obtain ⟨hc, hf⟩ := bcell hb
  have a0 : w1.cell? ⟨w.heap.size, 0, none⟩ = some (.int .i64 a) := by rw [hc _ _ (by simp <;> omega)]; simp [go_sem]
  have a1 : w1.cell? ⟨w.heap.size, 1, none⟩ = some (.int .i64 b) := by rw [hc _ _ (by simp <;> omega)]; simp [go_sem]
  have b0 : w1.cell? ⟨w.heap.size + 1, 0, none⟩ = some (.int .i64 c) := by rw [hc _ _ (by simp <;> omega)]; simp [go_sem]
  have b1 : w1.cell? ⟨w.heap.size + 1, 1, none⟩ = some (.int .i64 d) := by rw [hc _ _ (by simp <;> omega)]; simp [go_sem]
  have hz : w.heap.size + 1 < w1.heap.size := by have := hb.size; simp at this; omega
  have hB : Below w.heap.size w w1 := (((Below.refl _ _).alloc (Nat.le_refl _) _).alloc (by simp) _).trans (hb.mono (by simp; omega))
  clear hb hc hf
  go_wp2_with fail
  refine (implIsRatio_any c d _).mono ?_
  rintro e w2 ⟨rfl, hb⟩
  rw [H'.out]
  have hB2 : Below w.heap.size w w2 := hB.trans (hb.mono (by omega))
  obtain ⟨hc, hf⟩ := bcell hb
  have a0' : w2.cell? ⟨w.heap.size, 0, none⟩ = some (.int .i64 a) := by rw [hc _ _ (by omega)]; exact a0
  have a1' : w2.cell? ⟨w.heap.size, 1, none⟩ = some (.int .i64 b) := by rw [hc _ _ (by omega)]; exact a1
  have b0' : w2.cell? ⟨w.heap.size + 1, 0, none⟩ = some (.int .i64 c) := by rw [hc _ _ (by omega)]; exact b0
  have b1' : w2.cell? ⟨w.heap.size + 1, 1, none⟩ = some (.int .i64 d) := by rw [hc _ _ (by omega)]; exact b1
  clear hc hf a0 a1 b0 b1
  have hz2 : w.heap.size ≤ w2.heap.size := hB2.size
  clear hb
  go_wp2_with fail
  refine (impl_compareRatios_any a b c d _ HK.out).mono ?_
  rintro e w3 ⟨rfl, hb⟩
  have hB3 : Below w.heap.size w w3 := hB2.trans (hb.mono (by omega))
  clear hb a0' a1' b0' b1'
  go_wp2
  go_ret2
  exact ⟨two_eq R.out, hB3⟩

set_option maxHeartbeats 1000000 in
theorem specCompareRatios_any (a b c d : Int) (w : World) :
    Calls Try.prog 28 #[.agg #[.int .i64 a, .int .i64 b], .agg #[.int .i64 c, .int .i64 d]] w fun e w' => e = .returned (.tuple #[.int .i64 (cmpR a b c d).1, .int .i64 (cmpR a b c d).2]) ∧ Below w.heap.size w w' := by
  cases ha : isR a b
  · have H := Lib.hid ha
    have R : Hid (cmpR a b c d = (0, 1)) := by unfold cmpR; rw [if_neg (okk_left ha)]; rfl
    clear ha
    go_enter Try.func28, Try.ntmps28
    go_wp2_with fail
    refine (specIsRatio_any a b _).mono ?_
    rintro e w1 ⟨rfl, hb⟩
    rw [H.out]
    have hB : Below w.heap.size w w1 := (((Below.refl _ _).alloc (Nat.le_refl _) _).alloc (by simp) _).trans (hb.mono (by simp; omega))
    clear hb
    go_wp2
    go_ret2
    exact ⟨two_eq R.out, hB⟩
  cases hd : isR c d
  · have H := Lib.hid ha
    have H' := Lib.hid hd
    have R : Hid (cmpR a b c d = (0, 1)) := by unfold cmpR; rw [if_neg (okk_right hd)]; rfl
    clear ha hd
    go_enter Try.func28, Try.ntmps28
    go_wp2_with fail
    refine (specIsRatio_any a b _).mono ?_
    rintro e w1 ⟨rfl, hb⟩
    rw [H.out]
    obtain ⟨hc, hf⟩ := bcell hb
    have b0 : w1.cell? ⟨w.heap.size + 1, 0, none⟩ = some (.int .i64 c) := by rw [hc _ _ (by simp <;> omega)]; simp [go_sem]
    have b1 : w1.cell? ⟨w.heap.size + 1, 1, none⟩ = some (.int .i64 d) := by rw [hc _ _ (by simp <;> omega)]; simp [go_sem]
    have hB : Below w.heap.size w w1 := (((Below.refl _ _).alloc (Nat.le_refl _) _).alloc (by simp) _).trans (hb.mono (by simp; omega))
    have hz := hB.size
    clear hb hc hf
    go_wp2_with fail
    refine (specIsRatio_any c d _).mono ?_
    rintro e w2 ⟨rfl, hb⟩
    rw [H'.out]
    have hB2 : Below w.heap.size w w2 := hB.trans (hb.mono (by omega))
    clear hb b0 b1
    go_wp2
    go_ret2
    exact ⟨two_eq R.out, hB2⟩
  have H := Lib.hid ha
  have H' := Lib.hid hd
  have HK := Lib.hid (okk_true ha hd)
  have R : Hid (cmpR a b c d = (cmpI (a * d) (c * b), 0)) := by unfold cmpR; rw [if_pos HK.out]; rfl
  clear ha hd
  go_enter Try.func28, Try.ntmps28
  go_wp2_with fail
  refine (specIsRatio_any a b _).mono ?_
  rintro e w1 ⟨rfl, hb⟩
  rw [H.out]
  obtain ⟨hc, hf⟩ := bcell hb
  have a0 : w1.cell? ⟨w.heap.size, 0, none⟩ = some (.int .i64 a) := by rw [hc _ _ (by simp <;> omega)]; simp [go_sem]
  have a1 : w1.cell? ⟨w.heap.size, 1, none⟩ = some (.int .i64 b) := by rw [hc _ _ (by simp <;> omega)]; simp [go_sem]
  have b0 : w1.cell? ⟨w.heap.size + 1, 0, none⟩ = some (.int .i64 c) := by rw [hc _ _ (by simp <;> omega)]; simp [go_sem]
  have b1 : w1.cell? ⟨w.heap.size + 1, 1, none⟩ = some (.int .i64 d) := by rw [hc _ _ (by simp <;> omega)]; simp [go_sem]
  have hz : w.heap.size + 1 < w1.heap.size := by have := hb.size; simp at this; omega
  have hB : Below w.heap.size w w1 := (((Below.refl _ _).alloc (Nat.le_refl _) _).alloc (by simp) _).trans (hb.mono (by simp; omega))
  clear hb hc hf
  go_wp2_with fail
  refine (specIsRatio_any c d _).mono ?_
  rintro e w2 ⟨rfl, hb⟩
  rw [H'.out]
  have hB2 : Below w.heap.size w w2 := hB.trans (hb.mono (by omega))
  obtain ⟨hc, hf⟩ := bcell hb
  have a0' : w2.cell? ⟨w.heap.size, 0, none⟩ = some (.int .i64 a) := by rw [hc _ _ (by omega)]; exact a0
  have a1' : w2.cell? ⟨w.heap.size, 1, none⟩ = some (.int .i64 b) := by rw [hc _ _ (by omega)]; exact a1
  have b0' : w2.cell? ⟨w.heap.size + 1, 0, none⟩ = some (.int .i64 c) := by rw [hc _ _ (by omega)]; exact b0
  have b1' : w2.cell? ⟨w.heap.size + 1, 1, none⟩ = some (.int .i64 d) := by rw [hc _ _ (by omega)]; exact b1
  clear hc hf a0 a1 b0 b1
  have hz2 : w.heap.size ≤ w2.heap.size := hB2.size
  clear hb
  go_wp2_with fail
  refine (spec_compareRatios_any a b c d _ HK.out).mono ?_
  rintro e w3 ⟨rfl, hb⟩
  have hB3 : Below w.heap.size w w3 := hB2.trans (hb.mono (by omega))
  clear hb a0' a1' b0' b1'
  go_wp2
  go_ret2
  exact ⟨two_eq R.out, hB3⟩

set_option maxHeartbeats 1000000 in
theorem implMakeRatio_any (n d : Int) (w : World) :
    Calls Try.prog 20 #[.int .i64 n, .int .i64 d] w fun e w' => e = .returned (ratV (makR n d)) ∧ Below w.heap.size w w' := by
  by_cases h1 : -1000000000 ≤ n ∧ n ≤ 1000000000
  · obtain ⟨h1, h2⟩ := h1
    by_cases h3 : 1 ≤ d ∧ d ≤ 1000000000
    · obtain ⟨h3, h4⟩ := h3
      have R : Hid (makR n d = rd n d) := by unfold makR; rw [if_pos ⟨h1, h2, h3, h4⟩]; rfl
      go_enter Try.func20, Try.ntmps20
      go_wp2_with (go_at_call 39; refine (within_yes _ _ _ _ (by omega) (by omega)).mono ?_; rintro e w' ⟨rfl, rfl⟩)
      refine (reduced_any n d _ (by omega) (by omega) (by omega) (by omega)).mono ?_
      rintro e w3 ⟨rfl, hb⟩
      have hB3 : Below w.heap.size w w3 := ((Below.refl _ _).alloc (Nat.le_refl _) _).trans (hb.mono (by simp))
      obtain ⟨hc, hf⟩ := bcell hb
      have c0 : w3.cell? ⟨w.heap.size, 0, none⟩ = some (.int .i64 0) := by rw [hc _ _ (by simp)]; simp [go_sem]
      have c1 : w3.cell? ⟨w.heap.size, 1, none⟩ = some (.int .i64 0) := by rw [hc _ _ (by simp)]; simp [go_sem]
      have f0 : w3.frozen? ⟨w.heap.size, 0, none⟩ = false := by rw [hf _ _ (by simp)]; simp [go_sem]
      have f1 : w3.frozen? ⟨w.heap.size, 1, none⟩ = false := by rw [hf _ _ (by simp)]; simp [go_sem]
      clear hb hc hf
      go_wp2
      exact bodyPost_ret (v := .tuple #[.agg #[.int .i64 _, .int .i64 _], .int .i64 _]) (by simp [results, Try.results20, go_sem, c0, c1]) rfl ⟨ratV_eq R.out, hB3.setCell (by simp) _ |>.setCell (by simp) _⟩
    · have R : Hid (makR n d = (0, 0, 2)) := by unfold makR; rw [if_neg (by omega)]; rfl
      have h5 : d < 1 ∨ 1000000000 < d := by omega
      have h6 := Lib.hid h5
      clear h3 h5
      go_enter Try.func20, Try.ntmps20
      go_wp2_with (first | (go_at_call_of 39 n; refine (within_yes _ _ _ _ (by omega) (by omega)).mono ?_; rintro e w' ⟨rfl, rfl⟩) | (go_at_call_of 39 d; refine (within_no _ _ _ _ h6.out).mono ?_; rintro e w' ⟨rfl, rfl⟩))
      exact bodyPost_ret (v := .tuple #[.agg #[.int .i64 0, .int .i64 0], .int .i64 2]) (by simp [results, Try.results20, go_sem]) rfl ⟨ratV_eq R.out, by repeat (first | exact Below.refl _ _ | exact Nat.le_refl _ | (simp; done) | refine Below.setCell ?_ ?_ _ | refine Below.alloc ?_ ?_ _)⟩
  · have R : Hid (makR n d = (0, 0, 2)) := by unfold makR; rw [if_neg (by omega)]; rfl
    have h5 : n < -1000000000 ∨ 1000000000 < n := by omega
    have h6 := Lib.hid h5
    clear h1 h5
    go_enter Try.func20, Try.ntmps20
    go_wp2_with (go_at_call 39; refine (within_no _ _ _ _ h6.out).mono ?_; rintro e w' ⟨rfl, rfl⟩)
    exact bodyPost_ret (v := .tuple #[.agg #[.int .i64 0, .int .i64 0], .int .i64 2]) (by simp [results, Try.results20, go_sem]) rfl ⟨ratV_eq R.out, by repeat (first | exact Below.refl _ _ | exact Nat.le_refl _ | (simp; done) | refine Below.setCell ?_ ?_ _ | refine Below.alloc ?_ ?_ _)⟩

set_option maxHeartbeats 1000000 in
theorem implGreatestDivisor_any (a b : Int) (w : World) :
    Calls Try.prog 15 #[.int .i64 a, .int .i64 b] w fun e w' => e = .returned (.tuple #[.int .i64 (gcdR a b).1, .int .i64 (gcdR a b).2]) ∧ ∃ n, w' = w.drewN n := by
  by_cases h1 : 0 ≤ a ∧ a ≤ 1000000000
  · obtain ⟨h1, h2⟩ := h1
    by_cases h3 : 0 ≤ b ∧ b ≤ 1000000000
    · obtain ⟨h3, h4⟩ := h3
      have R : Hid (gcdR a b = (gcdI a b, 0)) := by unfold gcdR; rw [if_pos ⟨h1, h2, h3, h4⟩]; rfl
      go_enter Try.func15, Try.ntmps15
      go_wp2_with (first | (go_at_call 39; refine (within_yes _ _ _ _ (by omega) (by omega)).mono ?_; rintro e w' ⟨rfl, rfl⟩) | (go_at_call 40; refine (divisorOf_any a b _ (by omega) (by omega) (by omega) (by omega)).mono ?_; rintro e w' ⟨rfl, nn, rfl⟩))
      go_ret2
      exact ⟨two_eq R.out, _, rfl⟩
    · have R : Hid (gcdR a b = (0, 2)) := by unfold gcdR; rw [if_neg (by omega)]; rfl
      have h5 : b < 0 ∨ 1000000000 < b := by omega
      have h6 := Lib.hid h5
      clear h3 h5
      go_enter Try.func15, Try.ntmps15
      go_wp2_with (first | (go_at_call_of 39 a; refine (within_yes _ _ _ _ (by omega) (by omega)).mono ?_; rintro e w' ⟨rfl, rfl⟩) | (go_at_call_of 39 b; refine (within_no _ _ _ _ h6.out).mono ?_; rintro e w' ⟨rfl, rfl⟩))
      go_ret2
      exact ⟨two_eq R.out, 0, rfl⟩
  · have R : Hid (gcdR a b = (0, 2)) := by unfold gcdR; rw [if_neg (by omega)]; rfl
    have h5 : a < 0 ∨ 1000000000 < a := by omega
    have h6 := Lib.hid h5
    clear h1 h5
    go_enter Try.func15, Try.ntmps15
    go_wp2_with (go_at_call 39; refine (within_no _ _ _ _ h6.out).mono ?_; rintro e w' ⟨rfl, rfl⟩)
    go_ret2
    exact ⟨two_eq R.out, 0, rfl⟩

set_option maxHeartbeats 1000000 in
theorem specMakeRatio_any (n d : Int) (w : World) :
    Calls Try.prog 19 #[.int .i64 n, .int .i64 d] w fun e w' => e = .returned (ratV (makR n d)) ∧ Below w.heap.size w w' := by
  by_cases h1 : -1000000000 ≤ n ∧ n ≤ 1000000000
  · obtain ⟨h1, h2⟩ := h1
    by_cases h3 : 1 ≤ d ∧ d ≤ 1000000000
    · obtain ⟨h3, h4⟩ := h3
      have R : Hid (makR n d = rd n d) := by unfold makR; rw [if_pos ⟨h1, h2, h3, h4⟩]; rfl
      go_enter Try.func19, Try.ntmps19
      go_wp2_with (go_at_call 37; refine (l01In_yes _ _ _ _ (by omega) (by omega)).mono ?_; rintro e w' ⟨rfl, rfl⟩)
      refine (l01Ratio_any n d _ (by omega) (by omega) (by omega) (by omega)).mono ?_
      rintro e w3 ⟨rfl, hb⟩
      have hB3 : Below w.heap.size w w3 := ((Below.refl _ _).alloc (Nat.le_refl _) _).trans (hb.mono (by simp))
      obtain ⟨hc, hf⟩ := bcell hb
      have c0 : w3.cell? ⟨w.heap.size, 0, none⟩ = some (.int .i64 0) := by rw [hc _ _ (by simp)]; simp [go_sem]
      have c1 : w3.cell? ⟨w.heap.size, 1, none⟩ = some (.int .i64 0) := by rw [hc _ _ (by simp)]; simp [go_sem]
      have f0 : w3.frozen? ⟨w.heap.size, 0, none⟩ = false := by rw [hf _ _ (by simp)]; simp [go_sem]
      have f1 : w3.frozen? ⟨w.heap.size, 1, none⟩ = false := by rw [hf _ _ (by simp)]; simp [go_sem]
      clear hb hc hf
      go_wp2
      exact bodyPost_ret (v := .tuple #[.agg #[.int .i64 _, .int .i64 _], .int .i64 _]) (by simp [results, Try.results19, go_sem, c0, c1]) rfl ⟨ratV_eq R.out, hB3.setCell (by simp) _ |>.setCell (by simp) _⟩
    · have R : Hid (makR n d = (0, 0, 2)) := by unfold makR; rw [if_neg (by omega)]; rfl
      have h5 : d < 1 ∨ 1000000000 < d := by omega
      have h6 := Lib.hid h5
      clear h3 h5
      go_enter Try.func19, Try.ntmps19
      go_wp2_with (first | (go_at_call_of 37 n; refine (l01In_yes _ _ _ _ (by omega) (by omega)).mono ?_; rintro e w' ⟨rfl, rfl⟩) | (go_at_call_of 37 d; refine (l01In_no _ _ _ _ h6.out).mono ?_; rintro e w' ⟨rfl, rfl⟩))
      exact bodyPost_ret (v := .tuple #[.agg #[.int .i64 0, .int .i64 0], .int .i64 2]) (by simp [results, Try.results19, go_sem]) rfl ⟨ratV_eq R.out, by repeat (first | exact Below.refl _ _ | exact Nat.le_refl _ | (simp; done) | refine Below.setCell ?_ ?_ _ | refine Below.alloc ?_ ?_ _)⟩
  · have R : Hid (makR n d = (0, 0, 2)) := by unfold makR; rw [if_neg (by omega)]; rfl
    have h5 : n < -1000000000 ∨ 1000000000 < n := by omega
    have h6 := Lib.hid h5
    clear h1 h5
    go_enter Try.func19, Try.ntmps19
    go_wp2_with (go_at_call 37; refine (l01In_no _ _ _ _ h6.out).mono ?_; rintro e w' ⟨rfl, rfl⟩)
    exact bodyPost_ret (v := .tuple #[.agg #[.int .i64 0, .int .i64 0], .int .i64 2]) (by simp [results, Try.results19, go_sem]) rfl ⟨ratV_eq R.out, by repeat (first | exact Below.refl _ _ | exact Nat.le_refl _ | (simp; done) | refine Below.setCell ?_ ?_ _ | refine Below.alloc ?_ ?_ _)⟩

set_option maxHeartbeats 1000000 in
theorem specGreatestDivisor_any (a b : Int) (w : World) :
    Calls Try.prog 14 #[.int .i64 a, .int .i64 b] w fun e w' => e = .returned (.tuple #[.int .i64 (gcdR a b).1, .int .i64 (gcdR a b).2]) ∧ ∃ n, w' = w.drewN n := by
  by_cases h1 : 0 ≤ a ∧ a ≤ 1000000000
  · obtain ⟨h1, h2⟩ := h1
    by_cases h3 : 0 ≤ b ∧ b ≤ 1000000000
    · obtain ⟨h3, h4⟩ := h3
      have R : Hid (gcdR a b = (gcdI a b, 0)) := by unfold gcdR; rw [if_pos ⟨h1, h2, h3, h4⟩]; rfl
      go_enter Try.func14, Try.ntmps14
      go_wp2_with (first | (go_at_call 37; refine (l01In_yes _ _ _ _ (by omega) (by omega)).mono ?_; rintro e w' ⟨rfl, rfl⟩) | (go_at_call 38; refine (l01Gcd_any (b.toNat + 1) a b _ (by omega) (by omega) (by omega) (by omega) (by omega)).mono ?_; rintro e w' ⟨rfl, rfl⟩))
      go_ret2
      exact ⟨two_eq R.out, 0, rfl⟩
    · have R : Hid (gcdR a b = (0, 2)) := by unfold gcdR; rw [if_neg (by omega)]; rfl
      have h5 : b < 0 ∨ 1000000000 < b := by omega
      have h6 := Lib.hid h5
      clear h3 h5
      go_enter Try.func14, Try.ntmps14
      go_wp2_with (first | (go_at_call_of 37 a; refine (l01In_yes _ _ _ _ (by omega) (by omega)).mono ?_; rintro e w' ⟨rfl, rfl⟩) | (go_at_call_of 37 b; refine (l01In_no _ _ _ _ h6.out).mono ?_; rintro e w' ⟨rfl, rfl⟩))
      go_ret2
      exact ⟨two_eq R.out, 0, rfl⟩
  · have R : Hid (gcdR a b = (0, 2)) := by unfold gcdR; rw [if_neg (by omega)]; rfl
    have h5 : a < 0 ∨ 1000000000 < a := by omega
    have h6 := Lib.hid h5
    clear h1 h5
    go_enter Try.func14, Try.ntmps14
    go_wp2_with (go_at_call 37; refine (l01In_no _ _ _ _ h6.out).mono ?_; rintro e w' ⟨rfl, rfl⟩)
    go_ret2
    exact ⟨two_eq R.out, 0, rfl⟩

/-- Go's '-x' on int64. -/
theorem addR_wneg (a b c d : Int) (h1 : -9223372036854775808 ≤ c) (h2 : c ≤ 9223372036854775807) : addR a b (wrap64 (-c)) d = subR a b c d := by
  by_cases h : c = -9223372036854775808
  · have e1 : wrap64 (-c) = -9223372036854775808 := by subst h; unfold wrap64; omega
    have e2 : isR (wrap64 (-c)) d = false := isR_big (by omega)
    have e3 : isR c d = false := isR_big (by omega)
    unfold addR subR
    rw [if_neg (okk_right e2), if_neg (okk_right e3)]
  · rw [IntWalk.wrap64_in _ (by omega), addR_neg]
theorem specSubtractRatios_any (a b c d : Int) (w : World) (h1 : -9223372036854775808 ≤ c) (h2 : c ≤ 9223372036854775807) :
    Calls Try.prog 26 #[.agg #[.int .i64 a, .int .i64 b], .agg #[.int .i64 c, .int .i64 d]] w fun e w' => e = .returned (ratV (subR a b c d)) ∧ Below w.heap.size w w' := by
  have R := Lib.hid (addR_wneg a b c d h1 h2)
  clear h1 h2
  go_enter Try.func26, Try.ntmps26
  go_wp2_with fail
  refine (specAddRatios_any a b (wrap64 (-c)) d _).mono ?_
  rintro e w3 ⟨rfl, hb⟩
  rw [R.out]
  have hB3 : Below w.heap.size w w3 := ((((Below.refl _ _).alloc (Nat.le_refl _) _).alloc (by simp) _).alloc (by simp <;> omega) _).trans (hb.mono (by simp; omega))
  obtain ⟨hc, hf⟩ := bcell hb
  have c0 : w3.cell? ⟨w.heap.size + 2, 0, none⟩ = some (.int .i64 0) := by rw [hc _ _ (by simp <;> omega)]; simp [go_sem]
  have c1 : w3.cell? ⟨w.heap.size + 2, 1, none⟩ = some (.int .i64 0) := by rw [hc _ _ (by simp <;> omega)]; simp [go_sem]
  have f0 : w3.frozen? ⟨w.heap.size + 2, 0, none⟩ = false := by rw [hf _ _ (by simp <;> omega)]; simp [go_sem]
  have f1 : w3.frozen? ⟨w.heap.size + 2, 1, none⟩ = false := by rw [hf _ _ (by simp <;> omega)]; simp [go_sem]
  clear hb hc hf
  go_wp2
  exact bodyPost_ret (v := .tuple #[.agg #[.int .i64 _, .int .i64 _], .int .i64 _]) (by simp [results, Try.results26, go_sem, c0, c1]) rfl ⟨rfl, hB3.setCell (by simp; omega) _ |>.setCell (by simp; omega) _⟩
end Go.Proofs.Ytpinfnpnfebpoaa
