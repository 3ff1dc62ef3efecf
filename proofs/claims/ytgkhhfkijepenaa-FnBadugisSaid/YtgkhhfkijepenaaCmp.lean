/-
  Comparing numbers: cmp.Compare at int64, and the reference's order.
-/
import Derived.Test.YtgkhhfkijepenaaBase
import Derived.Test.YtgkhhfkijepenaaRows
namespace Go.Proofs.Ytgkhhfkijepenaa
open Go.RowKit

def cmI (x y : Int) : Int := if x < y then -1 else if y < x then 1 else 0
theorem cmpc_any (x y : Int) (w : World) : Calls Try.prog 36 #[.int .i64 x, .int .i64 y] w fun e w' => e = .returned (.int .i64 (cmI x y)) ∧ w = w' := by
  by_cases h1 : x < y
  · have R : Hid (cmI x y = -1) := by unfold cmI; rw [if_pos h1]; rfl
    go_enter Try.func36, Try.ntmps36
    go_wp2
    go_ret
    exact ⟨ret_int R.out.symm, rfl⟩
  · by_cases h2 : y < x
    · have R : Hid (cmI x y = 1) := by unfold cmI; rw [if_neg h1, if_pos h2]; rfl
      clear h1
      go_enter Try.func36, Try.ntmps36
      go_wp2
      go_ret
      exact ⟨ret_int R.out.symm, rfl⟩
    · have R : Hid (cmI x y = 0) := by unfold cmI; rw [if_neg h1, if_neg h2]; rfl
      have h3 : y ≤ x := by omega
      have h4 : x ≤ y := by omega
      clear h1 h2
      go_enter Try.func36, Try.ntmps36
      go_wp2
      go_ret
      exact ⟨ret_int R.out.symm, rfl⟩
end Go.Proofs.Ytgkhhfkijepenaa
