/-
  The walks of layer 1: each function of the program and of the reference that computes with ratios returns what the plain functions of MathRat say.
-/
import Derived.Test.YtfccmgnoebdlgaaDoorRows
import Derived.Test.YtfccmgnoebdlgaaDoorMathRat
import Derived.Test.YtfccmgnoebdlgaaDoorBase
namespace Go.Proofs.YtfccmgnoebdlgaaDoor
open Go.RowKit

/-- spec.l01Gcd. -/
theorem l01Gcd_any (k : Nat) : ∀ (a b : Int) (w : World), b < k → 0 ≤ a → 0 ≤ b → a ≤ 9223372036854775807 → b ≤ 9223372036854775807 →
    Calls Tryd.prog 38 #[.int .i64 a, .int .i64 b] w fun e w' => e = .returned (.int .i64 (gcdI a b)) ∧ w = w' := by
  induction k with
  | zero => intro a b w hk _ hb; omega
  | succ k ih =>
    intro a b w hk ha hb ha' hb'
    by_cases h0 : b = 0
    · subst h0
      have hg := Lib.hid (gcdI_zero a ha)
      go_enter Tryd.func38, Tryd.ntmps38
      go_wp2_with fail
      go_ret
      exact ⟨by rw [hg.out]; rfl, rfl⟩
    · have hbpos : 1 ≤ b := by omega
      have hm1 : 0 ≤ a % b := Int.emod_nonneg _ (by omega)
      have hm2 : a % b < b := Int.emod_lt_of_pos _ (by omega)
      have hg := Lib.hid (gcdI_step a b ha hb)
      clear h0
      go_enter Tryd.func38, Tryd.ntmps38
      go_wp2_with (go_at_call 38; refine (ih b (a % b) _ (by omega) (by omega) (by omega) (by omega) (by omega)).mono ?_; rintro e w' ⟨rfl, rfl⟩)
      go_ret
      exact ⟨by rw [hg.out]; rfl, rfl⟩

/-- impl.divisorOf. -/
theorem divisorOf_any (a b : Int) (w : World) (ha : 0 ≤ a) (hb : 0 ≤ b) (ha' : a ≤ 9223372036854775807) (hb' : b ≤ 9223372036854775807) :
    Calls Tryd.prog 37 #[.int .i64 a, .int .i64 b] w fun e w' => e = .returned (.int .i64 (gcdI a b)) ∧ ∃ n, w' = w.drewN n := by
  obtain ⟨g, hg⟩ : ∃ g, g = gcdI a b := ⟨_, rfl⟩
  have G := Lib.hid hg
  clear hg
  go_enter Tryd.func37, Tryd.ntmps37
  go_wp2
  go_loopw [0, 1] (fun u v wr => ∃ x y : Int, u = .int .i64 x ∧ v = .int .i64 y ∧ 0 ≤ x ∧ 0 ≤ y ∧ x ≤ 9223372036854775807 ∧ y ≤ 9223372036854775807 ∧ Hid (gcdI x y = g) ∧ ∃ n, wr = w.drewN n)
    (fun _ v _ => (intOf v).toNat)
  case atStart => exact ⟨a, b, rfl, rfl, ha, hb, ha', hb', G.out.symm, 0, rfl⟩
  case round =>
    obtain ⟨x, y, rfl, rfl, hx, hy, hx', hy', hG, n, rfl⟩ := hrel
    by_cases h0 : 0 < y
    · have hm1 : 0 ≤ x % y := Int.emod_nonneg _ (by omega)
      have hm2 : x % y < y := Int.emod_lt_of_pos _ (by omega)
      have hS := Lib.hid (gcdI_step x y hx hy)
      go_wp2
      go_quiet (fail)
      go_wp2
      go_roundw
      case rel => exact ⟨y, x % y, rfl, rfl, by omega, by omega, by omega, by omega, hS.out.trans hG.out, _, World.drewN_drewN _ _ _⟩
      case measure => simp [intOf]; omega
    · have h1 : y = 0 := by omega
      subst h1
      clear h0
      have hS := Lib.hid (gcdI_zero x hx)
      go_wp2
      go_ret
      exact ⟨by rw [← G.out, ← hG.out, hS.out]; rfl, _, rfl⟩
theorem l01In_yes (n lo hi : Int) (w : World) (h1 : lo ≤ n) (h2 : n ≤ hi) :
    Calls Tryd.prog 35 #[.int .i64 n, .int .i64 lo, .int .i64 hi] w fun e w' => e = .returned (.bool true) ∧ w = w' := by
  go_enter Tryd.func35, Tryd.ntmps35
  go_wp2
  go_ret
  exact ⟨rfl, rfl⟩
theorem l01In_no (n lo hi : Int) (w : World) (h : n < lo ∨ hi < n) :
    Calls Tryd.prog 35 #[.int .i64 n, .int .i64 lo, .int .i64 hi] w fun e w' => e = .returned (.bool false) ∧ w = w' := by
  by_cases h1 : lo ≤ n
  · have h2 : hi < n := by omega
    have hd : decide (n ≤ hi) = false := by simp; omega
    clear h
    go_enter Tryd.func35, Tryd.ntmps35
    go_wp2
    go_ret
    exact ⟨rfl, rfl⟩
  · have h2 : n < lo := by omega
    clear h h1
    go_enter Tryd.func35, Tryd.ntmps35
    go_wp2
    go_ret
    exact ⟨rfl, rfl⟩
theorem within_yes (n lo hi : Int) (w : World) (h1 : lo ≤ n) (h2 : n ≤ hi) :
    Calls Tryd.prog 33 #[.int .i64 n, .int .i64 lo, .int .i64 hi] w fun e w' => e = .returned (.bool true) ∧ w = w' := by
  go_enter Tryd.func33, Tryd.ntmps33
  go_wp2
  go_ret
  exact ⟨rfl, rfl⟩
theorem within_no (n lo hi : Int) (w : World) (h : n < lo ∨ hi < n) :
    Calls Tryd.prog 33 #[.int .i64 n, .int .i64 lo, .int .i64 hi] w fun e w' => e = .returned (.bool false) ∧ w = w' := by
  by_cases h1 : lo ≤ n
  · have h2 : hi < n := by omega
    have hd : decide (n ≤ hi) = false := by simp; omega
    clear h
    go_enter Tryd.func33, Tryd.ntmps33
    go_wp2
    go_ret
    exact ⟨rfl, rfl⟩
  · have h2 : n < lo := by omega
    clear h h1
    go_enter Tryd.func33, Tryd.ntmps33
    go_wp2
    go_ret
    exact ⟨rfl, rfl⟩

theorem l01Abs_any (n : Int) (w : World) (h1 : -9223372036854775807 ≤ n) (h2 : n ≤ 9223372036854775807) :
    Calls Tryd.prog 47 #[.int .i64 n] w fun e w' => e = .returned (.int .i64 (absI n)) ∧ w = w' := by
  by_cases h : 0 ≤ n
  · have ha := Lib.hid (absI_pos h)
    go_enter Tryd.func47, Tryd.ntmps47
    go_wp2
    go_ret
    exact ⟨by rw [ha.out]; rfl, rfl⟩
  · have ha := Lib.hid (absI_neg (n := n) (by omega))
    go_enter Tryd.func47, Tryd.ntmps47
    go_wp2
    go_ret
    exact ⟨by rw [ha.out]; rfl, rfl⟩
theorem absOf_any (n : Int) (w : World) (h1 : -9223372036854775807 ≤ n) (h2 : n ≤ 9223372036854775807) :
    Calls Tryd.prog 42 #[.int .i64 n] w fun e w' => e = .returned (.int .i64 (absI n)) ∧ w = w' := by
  by_cases h : 0 ≤ n
  · have ha := Lib.hid (absI_pos h)
    go_enter Tryd.func42, Tryd.ntmps42
    go_wp2
    go_ret
    exact ⟨by rw [ha.out]; rfl, rfl⟩
  · have ha := Lib.hid (absI_neg (n := n) (by omega))
    have hneg : n < 0 := by omega
    clear h
    go_enter Tryd.func42, Tryd.ntmps42
    go_wp2
    go_ret
    exact ⟨by rw [ha.out]; rfl, rfl⟩
end Go.Proofs.YtfccmgnoebdlgaaDoor
