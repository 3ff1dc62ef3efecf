/-
  CompareRatios, MakeRatio, GreatestDivisor in the reference and in the program; SubtractRatios in the reference.
-/
import Derived.Test.YtghgllpgiohlhaaRatMisc
namespace Go.Proofs.Ytghgllpgiohlhaa
open Go.RowKit

theorem two_eq {t : Int × Int} {x y : Int} (h : t = (x, y)) : Ending.returned (.tuple #[.int .i64 x, .int .i64 y]) = .returned (.tuple #[.int .i64 t.1, .int .i64 t.2]) := by subst h; rfl

set_option maxHeartbeats 1000000 in
theorem implCompareRatios_any (a b c d : Int) (w : World) :
    Calls Try.prog 20 #[.agg #[.int .i64 a, .int .i64 b], .agg #[.int .i64 c, .int .i64 d]] w fun e w' => e = .returned (.tuple #[.int .i64 (cmpR a b c d).1, .int .i64 (cmpR a b c d).2]) ∧ Below w.heap.size w w' := by
  cases ha : isR a b
  · have H := Lib.hid ha
    have R : Hid (cmpR a b c d = (0, 1)) := by unfold cmpR; rw [if_neg (okk_left ha)]; rfl
    clear ha
    go_enter Try.func20, Try.ntmps20
    go_wp2_with fail
    refine (implIsRatio_any a b _).mono ?_
    rintro e w1 ⟨rfl, hb⟩
    rw [H.out]
    have hB : Below w.heap.size w w1 := (((Below.refl _ _).alloc (Nat.le_refl _) _).alloc (by simp) _).trans (hb.mono (by simp; omega))
    clear hb
    go_wp2
    go_ret2
    exact ⟨two_eq R.out, hB⟩
  cases hd : isR c d
  · have H := Lib.hid ha
    have H' := Lib.hid hd
    have R : Hid (cmpR a b c d = (0, 1)) := by unfold cmpR; rw [if_neg (okk_right hd)]; rfl
    clear ha hd
    go_enter Try.func20, Try.ntmps20
    go_wp2_with fail
    refine (implIsRatio_any a b _).mono ?_
    rintro e w1 ⟨rfl, hb⟩
    rw [H.out]
    obtain ⟨hc, hf⟩ := bcell hb
    have b0 : w1.cell? ⟨w.heap.size + 1, 0, none⟩ = some (.int .i64 c) := by rw [hc _ _ (by simp <;> omega)]; simp [go_sem]
    have b1 : w1.cell? ⟨w.heap.size + 1, 1, none⟩ = some (.int .i64 d) := by rw [hc _ _ (by simp <;> omega)]; simp [go_sem]
    have hB : Below w.heap.size w w1 := (((Below.refl _ _).alloc (Nat.le_refl _) _).alloc (by simp) _).trans (hb.mono (by simp; omega))
    have hz := hB.size
    clear hb hc hf
    go_wp2_with fail
    refine (implIsRatio_any c d _).mono ?_
    rintro e w2 ⟨rfl, hb⟩
    rw [H'.out]
    have hB2 : Below w.heap.size w w2 := hB.trans (hb.mono (by omega))
    clear hb b0 b1
    go_wp2
    go_ret2
    exact ⟨two_eq R.out, hB2⟩
  have H := Lib.hid ha
  have H' := Lib.hid hd
  have HK := Lib.hid (okk_true ha hd)
  have R : Hid (cmpR a b c d = (cmpI (a * d) (c * b), 0)) := by unfold cmpR; rw [if_pos HK.out]; rfl
  clear ha hd
  go_enter Try.func20, Try.ntmps20
  go_wp2_with fail
  refine (implIsRatio_any a b _).mono ?_
  rintro e w1 ⟨rfl, hb⟩
  rw [H.out]
  obtain ⟨hc, hf⟩ := bcell hb
  have a0 : w1.cell? ⟨w.heap.size, 0, none⟩ = some (.int .i64 a) := by rw [hc _ _ (by simp <;> omega)]; simp [go_sem]
  have a1 : w1.cell? ⟨w.heap.size, 1, none⟩ = some (.int .i64 b) := by rw [hc _ _ (by simp <;> omega)]; simp [go_sem]
  have b0 : w1.cell? ⟨w.heap.size + 1, 0, none⟩ = some (.int .i64 c) := by rw [hc _ _ (by simp <;> omega)]; simp [go_sem]
  have b1 : w1.cell? ⟨w.heap.size + 1, 1, none⟩ = some (.int .i64 d) := by rw [hc _ _ (by simp <;> omega)]; simp [go_sem]
  have hz : w.heap.size + 1 < w1.heap.size := by have := hb.size; simp at this; omega
  have hB : Below w.heap.size w w1 := (((Below.refl _ _).alloc (Nat.le_refl _) _).alloc (by simp) _).trans (hb.mono (by simp; omega))
  clear hb hc hf
  go_wp2_with fail
  refine (implIsRatio_any c d _).mono ?_
  rintro e w2 ⟨rfl, hb⟩
  rw [H'.out]
  have hB2 : Below w.heap.size w w2 := hB.trans (hb.mono (by omega))
  obtain ⟨hc, hf⟩ := bcell hb
  have a0' : w2.cell? ⟨w.heap.size, 0, none⟩ = some (.int .i64 a) := by rw [hc _ _ (by omega)]; exact a0
  have a1' : w2.cell? ⟨w.heap.size, 1, none⟩ = some (.int .i64 b) := by rw [hc _ _ (by omega)]; exact a1
  have b0' : w2.cell? ⟨w.heap.size + 1, 0, none⟩ = some (.int .i64 c) := by rw [hc _ _ (by omega)]; exact b0
  have b1' : w2.cell? ⟨w.heap.size + 1, 1, none⟩ = some (.int .i64 d) := by rw [hc _ _ (by omega)]; exact b1
  clear hc hf a0 a1 b0 b1
  have hz2 : w.heap.size ≤ w2.heap.size := hB2.size
  clear hb
  go_wp2_with fail
  refine (impl_compareRatios_any a b c d _ HK.out).mono ?_
  rintro e w3 ⟨rfl, hb⟩
  have hB3 : Below w.heap.size w w3 := hB2.trans (hb.mono (by omega))
  clear hb a0' a1' b0' b1'
  go_wp2
  go_ret2
  exact ⟨two_eq R.out, hB3⟩

set_option maxHeartbeats 1000000 in
theorem specCompareRatios_any (a b c d : Int) (w : World) :
    Calls Try.prog 21 #[.agg #[.int .i64 a, .int .i64 b], .agg #[.int .i64 c, .int .i64 d]] w fun e w' => e = .returned (.tuple #[.int .i64 (cmpR a b c d).1, .int .i64 (cmpR a b c d).2]) ∧ Below w.heap.size w w' := by
  cases ha : isR a b
  · have H := Lib.hid ha
    have R : Hid (cmpR a b c d = (0, 1)) := by unfold cmpR; rw [if_neg (okk_left ha)]; rfl
    clear ha
    go_enter Try.func21, Try.ntmps21
    go_wp2_with fail
    refine (specIsRatio_any a b _).mono ?_
    rintro e w1 ⟨rfl, hb⟩
    rw [H.out]
    have hB : Below w.heap.size w w1 := (((Below.refl _ _).alloc (Nat.le_refl _) _).alloc (by simp) _).trans (hb.mono (by simp; omega))
    clear hb
    go_wp2
    go_ret2
    exact ⟨two_eq R.out, hB⟩
  cases hd : isR c d
  · have H := Lib.hid ha
    have H' := Lib.hid hd
    have R : Hid (cmpR a b c d = (0, 1)) := by unfold cmpR; rw [if_neg (okk_right hd)]; rfl
    clear ha hd
    go_enter Try.func21, Try.ntmps21
    go_wp2_with fail
    refine (specIsRatio_any a b _).mono ?_
    rintro e w1 ⟨rfl, hb⟩
    rw [H.out]
    obtain ⟨hc, hf⟩ := bcell hb
    have b0 : w1.cell? ⟨w.heap.size + 1, 0, none⟩ = some (.int .i64 c) := by rw [hc _ _ (by simp <;> omega)]; simp [go_sem]
    have b1 : w1.cell? ⟨w.heap.size + 1, 1, none⟩ = some (.int .i64 d) := by rw [hc _ _ (by simp <;> omega)]; simp [go_sem]
    have hB : Below w.heap.size w w1 := (((Below.refl _ _).alloc (Nat.le_refl _) _).alloc (by simp) _).trans (hb.mono (by simp; omega))
    have hz := hB.size
    clear hb hc hf
    go_wp2_with fail
    refine (specIsRatio_any c d _).mono ?_
    rintro e w2 ⟨rfl, hb⟩
    rw [H'.out]
    have hB2 : Below w.heap.size w w2 := hB.trans (hb.mono (by omega))
    clear hb b0 b1
    go_wp2
    go_ret2
    exact ⟨two_eq R.out, hB2⟩
  have H := Lib.hid ha
  have H' := Lib.hid hd
  have HK := Lib.hid (okk_true ha hd)
  have R : Hid (cmpR a b c d = (cmpI (a * d) (c * b), 0)) := by unfold cmpR; rw [if_pos HK.out]; rfl
  clear ha hd
  go_enter Try.func21, Try.ntmps21
  go_wp2_with fail
  refine (specIsRatio_any a b _).mono ?_
  rintro e w1 ⟨rfl, hb⟩
  rw [H.out]
  obtain ⟨hc, hf⟩ := bcell hb
  have a0 : w1.cell? ⟨w.heap.size, 0, none⟩ = some (.int .i64 a) := by rw [hc _ _ (by simp <;> omega)]; simp [go_sem]
  have a1 : w1.cell? ⟨w.heap.size, 1, none⟩ = some (.int .i64 b) := by rw [hc _ _ (by simp <;> omega)]; simp [go_sem]
  have b0 : w1.cell? ⟨w.heap.size + 1, 0, none⟩ = some (.int .i64 c) := by rw [hc _ _ (by simp <;> omega)]; simp [go_sem]
  have b1 : w1.cell? ⟨w.heap.size + 1, 1, none⟩ = some (.int .i64 d) := by rw [hc _ _ (by simp <;> omega)]; simp [go_sem]
  have hz : w.heap.size + 1 < w1.heap.size := by have := hb.size; simp at this; omega
  have hB : Below w.heap.size w w1 := (((Below.refl _ _).alloc (Nat.le_refl _) _).alloc (by simp) _).trans (hb.mono (by simp; omega))
  clear hb hc hf
  go_wp2_with fail
  refine (specIsRatio_any c d _).mono ?_
  rintro e w2 ⟨rfl, hb⟩
  rw [H'.out]
  have hB2 : Below w.heap.size w w2 := hB.trans (hb.mono (by omega))
  obtain ⟨hc, hf⟩ := bcell hb
  have a0' : w2.cell? ⟨w.heap.size, 0, none⟩ = some (.int .i64 a) := by rw [hc _ _ (by omega)]; exact a0
  have a1' : w2.cell? ⟨w.heap.size, 1, none⟩ = some (.int .i64 b) := by rw [hc _ _ (by omega)]; exact a1
  have b0' : w2.cell? ⟨w.heap.size + 1, 0, none⟩ = some (.int .i64 c) := by rw [hc _ _ (by omega)]; exact b0
  have b1' : w2.cell? ⟨w.heap.size + 1, 1, none⟩ = some (.int .i64 d) := by rw [hc _ _ (by omega)]; exact b1
  clear hc hf a0 a1 b0 b1
  have hz2 : w.heap.size ≤ w2.heap.size := hB2.size
  clear hb
  go_wp2_with fail
  refine (spec_compareRatios_any a b c d _ HK.out).mono ?_
  rintro e w3 ⟨rfl, hb⟩
  have hB3 : Below w.heap.size w w3 := hB2.trans (hb.mono (by omega))
  clear hb a0' a1' b0' b1'
  go_wp2
  go_ret2
  exact ⟨two_eq R.out, hB3⟩

set_option maxHeartbeats 1000000 in
theorem specMakeRatio_any (n d : Int) (w : World) :
    Calls Try.prog 36 #[.int .i64 n, .int .i64 d] w fun e w' => e = .returned (ratV (makR n d)) ∧ Below w.heap.size w w' := by
  by_cases h1 : -1000000000 ≤ n ∧ n ≤ 1000000000
  · obtain ⟨h1, h2⟩ := h1
    by_cases h3 : 1 ≤ d ∧ d ≤ 1000000000
    · obtain ⟨h3, h4⟩ := h3
      have R : Hid (makR n d = rd n d) := by unfold makR; rw [if_pos ⟨h1, h2, h3, h4⟩]; rfl
      go_enter Try.func36, Try.ntmps36
      go_wp2_with (go_at_call 29; refine (l01In_yes _ _ _ _ (by omega) (by omega)).mono ?_; rintro e w' ⟨rfl, rfl⟩)
      refine (l01Ratio_any n d _ (by omega) (by omega) (by omega) (by omega)).mono ?_
      rintro e w3 ⟨rfl, hb⟩
      have hB3 : Below w.heap.size w w3 := ((Below.refl _ _).alloc (Nat.le_refl _) _).trans (hb.mono (by simp))
      obtain ⟨hc, hf⟩ := bcell hb
      have c0 : w3.cell? ⟨w.heap.size, 0, none⟩ = some (.int .i64 0) := by rw [hc _ _ (by simp)]; simp [go_sem]
      have c1 : w3.cell? ⟨w.heap.size, 1, none⟩ = some (.int .i64 0) := by rw [hc _ _ (by simp)]; simp [go_sem]
      have f0 : w3.frozen? ⟨w.heap.size, 0, none⟩ = false := by rw [hf _ _ (by simp)]; simp [go_sem]
      have f1 : w3.frozen? ⟨w.heap.size, 1, none⟩ = false := by rw [hf _ _ (by simp)]; simp [go_sem]
      clear hb hc hf
      go_wp2
      exact bodyPost_ret (v := .tuple #[.agg #[.int .i64 _, .int .i64 _], .int .i64 _]) (by simp [results, Try.results36, go_sem, c0, c1]) rfl ⟨ratV_eq R.out, hB3.setCell (by simp) _ |>.setCell (by simp) _⟩
    · have R : Hid (makR n d = (0, 0, 2)) := by unfold makR; rw [if_neg (by omega)]; rfl
      have h5 : d < 1 ∨ 1000000000 < d := by omega
      have h6 := Lib.hid h5
      clear h3 h5
      go_enter Try.func36, Try.ntmps36
      go_wp2_with (first | (go_at_call_of 29 n; refine (l01In_yes _ _ _ _ (by omega) (by omega)).mono ?_; rintro e w' ⟨rfl, rfl⟩) | (go_at_call_of 29 d; refine (l01In_no _ _ _ _ h6.out).mono ?_; rintro e w' ⟨rfl, rfl⟩))
      exact bodyPost_ret (v := .tuple #[.agg #[.int .i64 0, .int .i64 0], .int .i64 2]) (by simp [results, Try.results36, go_sem]) rfl ⟨ratV_eq R.out, by repeat (first | exact Below.refl _ _ | exact Nat.le_refl _ | (simp; done) | refine Below.setCell ?_ ?_ _ | refine Below.alloc ?_ ?_ _)⟩
  · have R : Hid (makR n d = (0, 0, 2)) := by unfold makR; rw [if_neg (by omega)]; rfl
    have h5 : n < -1000000000 ∨ 1000000000 < n := by omega
    have h6 := Lib.hid h5
    clear h1 h5
    go_enter Try.func36, Try.ntmps36
    go_wp2_with (go_at_call 29; refine (l01In_no _ _ _ _ h6.out).mono ?_; rintro e w' ⟨rfl, rfl⟩)
    exact bodyPost_ret (v := .tuple #[.agg #[.int .i64 0, .int .i64 0], .int .i64 2]) (by simp [results, Try.results36, go_sem]) rfl ⟨ratV_eq R.out, by repeat (first | exact Below.refl _ _ | exact Nat.le_refl _ | (simp; done) | refine Below.setCell ?_ ?_ _ | refine Below.alloc ?_ ?_ _)⟩

/-- Go's '-x' on int64. -/
theorem addR_wneg (a b c d : Int) (h1 : -9223372036854775808 ≤ c) (h2 : c ≤ 9223372036854775807) : addR a b (wrap64 (-c)) d = subR a b c d := by
  by_cases h : c = -9223372036854775808
  · have e1 : wrap64 (-c) = -9223372036854775808 := by subst h; unfold wrap64; omega
    have e2 : isR (wrap64 (-c)) d = false := isR_big (by omega)
    have e3 : isR c d = false := isR_big (by omega)
    unfold addR subR
    rw [if_neg (okk_right e2), if_neg (okk_right e3)]
  · rw [IntWalk.wrap64_in _ (by omega), addR_neg]
theorem specSubtractRatios_any (a b c d : Int) (w : World) (h1 : -9223372036854775808 ≤ c) (h2 : c ≤ 9223372036854775807) :
    Calls Try.prog 11 #[.agg #[.int .i64 a, .int .i64 b], .agg #[.int .i64 c, .int .i64 d]] w fun e w' => e = .returned (ratV (subR a b c d)) ∧ Below w.heap.size w w' := by
  have R := Lib.hid (addR_wneg a b c d h1 h2)
  clear h1 h2
  go_enter Try.func11, Try.ntmps11
  go_wp2_with fail
  refine (specAddRatios_any a b (wrap64 (-c)) d _).mono ?_
  rintro e w3 ⟨rfl, hb⟩
  rw [R.out]
  have hB3 : Below w.heap.size w w3 := ((((Below.refl _ _).alloc (Nat.le_refl _) _).alloc (by simp) _).alloc (by simp <;> omega) _).trans (hb.mono (by simp; omega))
  obtain ⟨hc, hf⟩ := bcell hb
  have c0 : w3.cell? ⟨w.heap.size + 2, 0, none⟩ = some (.int .i64 0) := by rw [hc _ _ (by simp <;> omega)]; simp [go_sem]
  have c1 : w3.cell? ⟨w.heap.size + 2, 1, none⟩ = some (.int .i64 0) := by rw [hc _ _ (by simp <;> omega)]; simp [go_sem]
  have f0 : w3.frozen? ⟨w.heap.size + 2, 0, none⟩ = false := by rw [hf _ _ (by simp <;> omega)]; simp [go_sem]
  have f1 : w3.frozen? ⟨w.heap.size + 2, 1, none⟩ = false := by rw [hf _ _ (by simp <;> omega)]; simp [go_sem]
  clear hb hc hf
  go_wp2
  exact bodyPost_ret (v := .tuple #[.agg #[.int .i64 _, .int .i64 _], .int .i64 _]) (by simp [results, Try.results11, go_sem, c0, c1]) rfl ⟨rfl, hB3.setCell (by simp; omega) _ |>.setCell (by simp; omega) _⟩
end Go.Proofs.Ytghgllpgiohlhaa
