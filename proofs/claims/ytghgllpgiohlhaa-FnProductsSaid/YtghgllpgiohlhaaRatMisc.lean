/-
  Comparing, making, subtracting (in the reference) and the greatest divisor.
-/
import Derived.Test.YtghgllpgiohlhaaRatOps
namespace Go.Proofs.Ytghgllpgiohlhaa
open Go.RowKit

/-- cmp.Compare at int64. -/
theorem cmp_any (x y : Int) (w : World) : Calls Try.prog 37 #[.int .i64 x, .int .i64 y] w fun e w' => e = .returned (.int .i64 (cmpI x y)) ∧ w = w' := by
  by_cases h1 : x < y
  · have R : Hid (cmpI x y = -1) := by unfold cmpI; rw [if_pos h1]; rfl
    go_enter Try.func37, Try.ntmps37
    go_wp2
    go_ret
    exact ⟨ret_int R.out.symm, rfl⟩
  · by_cases h2 : y < x
    · have R : Hid (cmpI x y = 1) := by unfold cmpI; rw [if_neg h1, if_pos h2]; rfl
      clear h1
      go_enter Try.func37, Try.ntmps37
      go_wp2
      go_ret
      exact ⟨ret_int R.out.symm, rfl⟩
    · have R : Hid (cmpI x y = 0) := by unfold cmpI; rw [if_neg h1, if_neg h2]; rfl
      have h3 : y ≤ x := by omega
      have h4 : x ≤ y := by omega
      clear h1 h2
      go_enter Try.func37, Try.ntmps37
      go_wp2
      go_ret
      exact ⟨ret_int R.out.symm, rfl⟩

theorem impl_compareRatios_any (a b c d : Int) (w : World) (h : okk a b c d = true) :
    Calls Try.prog 32 #[.agg #[.int .i64 a, .int .i64 b], .agg #[.int .i64 c, .int .i64 d]] w fun e w' => e = .returned (.int .i64 (cmpI (a * d) (c * b))) ∧ Below w.heap.size w w' := by
  obtain ⟨ha, hd⟩ : isR a b = true ∧ isR c d = true := by unfold okk at h; simpa using h
  obtain ⟨k1, k2, k3, k4, _⟩ := (isR_iff a b).1 ha
  obtain ⟨m1, m2, m3, m4, _⟩ := (isR_iff c d).1 hd
  clear h ha hd
  obtain ⟨p0, q0⟩ := mul_bd (x := a) (y := d) k1 k2 (by omega) m4
  obtain ⟨p1, q1⟩ := mul_bd (x := c) (y := b) m1 m2 (by omega) k4
  go_enter Try.func32, Try.ntmps32
  go_wp2_with (go_at_call 37; refine (cmp_any _ _ _).mono ?_; rintro e w' ⟨rfl, rfl⟩)
  go_ret
  exact ⟨rfl, ((Below.refl _ _).alloc (Nat.le_refl _) _).alloc (by simp) _⟩

theorem spec_compareRatios_any (a b c d : Int) (w : World) (h : okk a b c d = true) :
    Calls Try.prog 33 #[.agg #[.int .i64 a, .int .i64 b], .agg #[.int .i64 c, .int .i64 d]] w fun e w' => e = .returned (.int .i64 (cmpI (a * d) (c * b))) ∧ Below w.heap.size w w' := by
  obtain ⟨ha, hd⟩ : isR a b = true ∧ isR c d = true := by unfold okk at h; simpa using h
  obtain ⟨k1, k2, k3, k4, _⟩ := (isR_iff a b).1 ha
  obtain ⟨m1, m2, m3, m4, _⟩ := (isR_iff c d).1 hd
  clear h ha hd
  obtain ⟨p0, q0⟩ := mul_bd (x := a) (y := d) k1 k2 (by omega) m4
  obtain ⟨p1, q1⟩ := mul_bd (x := c) (y := b) m1 m2 (by omega) k4
  have r0 : IntKind.i64.wrap (a * d) = a * d := IntWalk.i64_in _ (by omega)
  have r1 : IntKind.i64.wrap (c * b) = c * b := IntWalk.i64_in _ (by omega)
  by_cases h1 : a * d < c * b
  · have R : Hid (cmpI (a * d) (c * b) = -1) := by unfold cmpI; rw [if_pos h1]; rfl
    go_enter Try.func33, Try.ntmps33
    go_wp2
    go_quiet (fail)
    go_wp2
    go_ret
    exact ⟨ret_int R.out.symm, below_drewN (((Below.refl _ _).alloc (Nat.le_refl _) _).alloc (by simp) _) _⟩
  · by_cases h2 : c * b < a * d
    · have R : Hid (cmpI (a * d) (c * b) = 1) := by unfold cmpI; rw [if_neg h1, if_pos h2]; rfl
      clear h1
      go_enter Try.func33, Try.ntmps33
      go_wp2
      go_quiet (fail)
      go_wp2
      go_ret
      exact ⟨ret_int R.out.symm, below_drewN (((Below.refl _ _).alloc (Nat.le_refl _) _).alloc (by simp) _) _⟩
    · have R : Hid (cmpI (a * d) (c * b) = 0) := by unfold cmpI; rw [if_neg h1, if_neg h2]; rfl
      have h3 : c * b ≤ a * d := by omega
      have h4 : a * d ≤ c * b := by omega
      clear h1 h2
      go_enter Try.func33, Try.ntmps33
      go_wp2
      go_quiet (fail)
      go_wp2
      go_ret
      exact ⟨ret_int R.out.symm, below_drewN (((Below.refl _ _).alloc (Nat.le_refl _) _).alloc (by simp) _) _⟩
end Go.Proofs.Ytghgllpgiohlhaa
