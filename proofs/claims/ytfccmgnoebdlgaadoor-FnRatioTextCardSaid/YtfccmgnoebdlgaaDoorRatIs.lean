/-
  IsRatio of the reference and of the program: both return isR of the numerator and the denominator.
-/
import Derived.Test.YtfccmgnoebdlgaaDoorRatWalk
namespace Go.Proofs.YtfccmgnoebdlgaaDoor
open Go.RowKit

set_option maxHeartbeats 1000000 in
theorem specIsRatio_any (n d : Int) (w : World) :
    Calls Tryd.prog 39 #[.agg #[.int .i64 n, .int .i64 d]] w fun e w' => e = .returned (.bool (isR n d)) ∧ Below w.heap.size w w' := by
  by_cases h1 : -1000000000 ≤ n ∧ n ≤ 1000000000
  · obtain ⟨h1, h2⟩ := h1
    by_cases h3 : 1 ≤ d ∧ d ≤ 1000000000
    · obtain ⟨h3, h4⟩ := h3
      have a0 := absI_nonneg n
      have a1 := absI_le h1 h2
      have H : Hid (isR n d = (gcdI (absI n) d == 1)) := by
        rw [gcdI_absI]
        show isR n d = (gcdI n d == 1)
        rw [Bool.eq_iff_iff, isR_iff]; simp [h1, h2, h3, h4]
      go_enter Tryd.func39, Tryd.ntmps39
      go_wp2
      go_quiet (first | (go_at_call 35; exact quiet_left (l01In_yes _ _ _ _ (by omega) (by omega))) | (go_at_call 47; exact quiet_left (l01Abs_any _ _ (by omega) (by omega))) | (go_at_call 38; exact quiet_left (l01Gcd_any (d.toNat + 1) _ _ _ (by omega) (by omega) (by omega) (by omega) (by omega))))
      go_wp2
      go_ret
      exact ⟨ret_bool (by rw [H.out]), below_drewN ((Below.refl _ _).alloc (Nat.le_refl _) _) _⟩
    · have H : Hid (isR n d = false) := isR_no (by omega)
      have h5 : d < 1 ∨ 1000000000 < d := by omega
      have h6 := Lib.hid h5
      clear h3 h5
      go_enter Tryd.func39, Tryd.ntmps39
      go_wp2
      go_quiet (first | (go_at_call_of 35 n; exact quiet_left (l01In_yes n _ _ _ (by omega) (by omega))) | (go_at_call_of 35 d; exact quiet_left (l01In_no d _ _ _ h6.out)))
      go_wp2
      go_ret
      exact ⟨ret_bool (by rw [H.out]), below_drewN ((Below.refl _ _).alloc (Nat.le_refl _) _) _⟩
  · have H : Hid (isR n d = false) := isR_no (by omega)
    have h5 : n < -1000000000 ∨ 1000000000 < n := by omega
    have h6 := Lib.hid h5
    clear h1 h5
    go_enter Tryd.func39, Tryd.ntmps39
    go_wp2
    go_quiet ((go_at_call 35; exact quiet_left (l01In_no n _ _ _ h6.out)))
    go_wp2
    go_ret
    exact ⟨ret_bool (by rw [H.out]), below_drewN ((Below.refl _ _).alloc (Nat.le_refl _) _) _⟩

set_option maxHeartbeats 1000000 in
theorem implIsRatio_any (n d : Int) (w : World) :
    Calls Tryd.prog 20 #[.agg #[.int .i64 n, .int .i64 d]] w fun e w' => e = .returned (.bool (isR n d)) ∧ Below w.heap.size w w' := by
  by_cases h1 : -1000000000 ≤ n ∧ n ≤ 1000000000
  · obtain ⟨h1, h2⟩ := h1
    by_cases h3 : 1 ≤ d ∧ d ≤ 1000000000
    · obtain ⟨h3, h4⟩ := h3
      have a0 := absI_nonneg n
      have a1 := absI_le h1 h2
      have H : Hid (isR n d = (gcdI (absI n) d == 1)) := by
        rw [gcdI_absI]
        show isR n d = (gcdI n d == 1)
        rw [Bool.eq_iff_iff, isR_iff]; simp [h1, h2, h3, h4]
      go_enter Tryd.func20, Tryd.ntmps20
      go_wp2
      go_quiet (first | (go_at_call 33; exact quiet_left (within_yes _ _ _ _ (by omega) (by omega))) | (go_at_call 42; exact quiet_left (absOf_any _ _ (by omega) (by omega))) | (go_at_call 37; exact Calls.quiet_of (divisorOf_any _ _ _ (by omega) (by omega) (by omega) (by omega))))
      go_wp2
      go_ret
      exact ⟨ret_bool (by rw [H.out]), below_drewN ((Below.refl _ _).alloc (Nat.le_refl _) _) _⟩
    · have H : Hid (isR n d = false) := isR_no (by omega)
      have h5 : d < 1 ∨ 1000000000 < d := by omega
      have h6 := Lib.hid h5
      clear h3 h5
      go_enter Tryd.func20, Tryd.ntmps20
      go_wp2
      go_quiet (first | (go_at_call_of 33 n; exact quiet_left (within_yes n _ _ _ (by omega) (by omega))) | (go_at_call_of 33 d; exact quiet_left (within_no d _ _ _ h6.out)))
      go_wp2
      go_ret
      exact ⟨ret_bool (by rw [H.out]), below_drewN ((Below.refl _ _).alloc (Nat.le_refl _) _) _⟩
  · have H : Hid (isR n d = false) := isR_no (by omega)
    have h5 : n < -1000000000 ∨ 1000000000 < n := by omega
    have h6 := Lib.hid h5
    clear h1 h5
    go_enter Tryd.func20, Tryd.ntmps20
    go_wp2
    go_quiet ((go_at_call 33; exact quiet_left (within_no n _ _ _ h6.out)))
    go_wp2
    go_ret
    exact ⟨ret_bool (by rw [H.out]), below_drewN ((Below.refl _ _).alloc (Nat.le_refl _) _) _⟩

end Go.Proofs.YtfccmgnoebdlgaaDoor
