/-
  Comparing numbers: cmp.Compare at int64, and the reference's order.
-/
import Derived.Test.YtbhlghadjcbilaaBase
import Derived.Test.YtbhlghadjcbilaaRows
namespace Go.Proofs.Ytbhlghadjcbilaa
open Go.RowKit

def cmI (x y : Int) : Int := if x < y then -1 else if y < x then 1 else 0
theorem cmpc_any (x y : Int) (w : World) : Calls Try.prog 78 #[.int .i64 x, .int .i64 y] w fun e w' => e = .returned (.int .i64 (cmI x y)) ∧ w = w' := by
  by_cases h1 : x < y
  · have R : Hid (cmI x y = -1) := by unfold cmI; rw [if_pos h1]; rfl
    go_enter Try.func78, Try.ntmps78
    go_wp2
    go_ret
    exact ⟨ret_int R.out.symm, rfl⟩
  · by_cases h2 : y < x
    · have R : Hid (cmI x y = 1) := by unfold cmI; rw [if_neg h1, if_pos h2]; rfl
      clear h1
      go_enter Try.func78, Try.ntmps78
      go_wp2
      go_ret
      exact ⟨ret_int R.out.symm, rfl⟩
    · have R : Hid (cmI x y = 0) := by unfold cmI; rw [if_neg h1, if_neg h2]; rfl
      have h3 : y ≤ x := by omega
      have h4 : x ≤ y := by omega
      clear h1 h2
      go_enter Try.func78, Try.ntmps78
      go_wp2
      go_ret
      exact ⟨ret_int R.out.symm, rfl⟩
theorem l04Order_any (x y : Int) (w : World) : Calls Try.prog 93 #[.int .i64 x, .int .i64 y] w fun e w' => e = .returned (.int .i64 (cmI x y)) ∧ w = w' := by
  by_cases h1 : x < y
  · have R : Hid (cmI x y = -1) := by unfold cmI; rw [if_pos h1]; rfl
    go_enter Try.func93, Try.ntmps93
    go_wp2
    go_ret
    exact ⟨ret_int R.out.symm, rfl⟩
  · by_cases h2 : y < x
    · have R : Hid (cmI x y = 1) := by unfold cmI; rw [if_neg h1, if_pos h2]; rfl
      clear h1
      go_enter Try.func93, Try.ntmps93
      go_wp2
      go_ret
      exact ⟨ret_int R.out.symm, rfl⟩
    · have R : Hid (cmI x y = 0) := by unfold cmI; rw [if_neg h1, if_neg h2]; rfl
      have h3 : y ≤ x := by omega
      have h4 : x ≤ y := by omega
      clear h1 h2
      go_enter Try.func93, Try.ntmps93
      go_wp2
      go_ret
      exact ⟨ret_int R.out.symm, rfl⟩
end Go.Proofs.Ytbhlghadjcbilaa
