/-
  spec.l04Sized: so many cards as between two bounds.
-/
import Derived.Test.YtgkhhfkijepenaaAreCards
namespace Go.Proofs.Ytgkhhfkijepenaa
open Go.RowKit

/-- So many cards as between two bounds. -/
def szP (xs : List Int) (lo hi : Nat) : Prop := lo ≤ xs.length ∧ xs.length ≤ hi ∧ okC xs
instance (xs : List Int) (lo hi : Nat) : Decidable (szP xs lo hi) := inferInstanceAs (Decidable (_ ∧ _))
theorem l04Sized_any (A : Option Addr) (cp : Nat) (xs : List Int) (lo hi : Nat) (l h' : Int) (w : World) (el : l = (lo : Int)) (eh : h' = (hi : Int)) (h : RowI w A xs) (hl : xs.length ≤ 1048576) :
    Calls Try.prog 27 #[.slice A xs.length cp, .int .i64 l, .int .i64 h'] w fun e w' => e = .returned (.bool (decide (szP xs lo hi))) ∧ Below w.heap.size w w' := by
  subst el eh
  have HR := Lib.hid h
  clear h
  by_cases h1 : lo ≤ xs.length
  · have d1 : decide (lo ≤ xs.length) = true := by simpa using h1
    by_cases h2 : xs.length ≤ hi
    · have d2 : decide (xs.length ≤ hi) = true := by simpa using h2
      have R : Hid (decide (szP xs lo hi) = areC xs) := by
        show _ = _; unfold areC; rw [Bool.eq_iff_iff, decide_eq_true_eq, decide_eq_true_eq]
        exact ⟨fun h => h.2.2, fun h => ⟨h1, h2, h⟩⟩
      clear h1 h2
      obtain ⟨bb, hbb⟩ : ∃ bb, bb = areC xs := ⟨_, rfl⟩
      have HB := Lib.hid hbb
      clear hbb
      go_enter Try.func27, Try.ntmps27
      go_wp2_with fail
      refine (specAreCards_any A cp xs _ HR.out hl).mono ?_
      rintro e w1 ⟨rfl, hb⟩
      rw [← HB.out]
      go_wp2
      go_ret
      exact ⟨ret_bool (by rw [R.out, HB.out]), hb⟩
    · have d2 : decide (xs.length ≤ hi) = false := by simpa using h2
      have R : Hid (decide (szP xs lo hi) = false) := decide_eq_false (fun h => h2 h.2.1)
      clear h1 h2
      go_enter Try.func27, Try.ntmps27
      go_wp2
      go_ret
      exact ⟨ret_bool R.out.symm, Below.refl _ _⟩
  · have d1 : decide (lo ≤ xs.length) = false := by simpa using h1
    have R : Hid (decide (szP xs lo hi) = false) := decide_eq_false (fun h => h1 h.1)
    clear h1
    go_enter Try.func27, Try.ntmps27
    go_wp2
    go_ret
    exact ⟨ret_bool R.out.symm, Below.refl _ _⟩
end Go.Proofs.Ytgkhhfkijepenaa
