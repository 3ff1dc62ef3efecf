/-
  CardOf, RankOf, SuitOf and NextSeed in the reference and in the program, and the walks of their laws.
-/
import Derived.Test.YtljlnfdbjeinaaaInWalk
namespace Go.Proofs.Ytljlnfdbjeinaaa
open Go.RowKit

theorem two_eq {t : Int × Int} {x y : Int} (h : t = (x, y)) : Ending.returned (.tuple #[.int .i64 x, .int .i64 y]) = .returned (.tuple #[.int .i64 t.1, .int .i64 t.2]) := by subst h; rfl

def rankR (c : Int) : Int × Int := if 0 ≤ c ∧ c ≤ 51 then (c / 4, 0) else (0, 2)
def suitR (c : Int) : Int × Int := if 0 ≤ c ∧ c ≤ 51 then (c % 4, 0) else (0, 2)
def nextI (s : Int) : Int := s * 48271 % 2147483647
def seedR (s : Int) : Int × Int := if 1 ≤ s ∧ s ≤ 2147483646 then (nextI s, 0) else (0, 2)
def cardR (r s : Int) : Int × Int := if 0 ≤ r ∧ r ≤ 12 ∧ 0 ≤ s ∧ s ≤ 3 then (4 * r + s, 0) else (0, 2)

theorem l03Next_any (s : Int) (w : World) (h1 : 0 ≤ s) (h2 : s ≤ 2147483647) :
    Calls Try.prog 96 #[.int .i64 s] w fun e w' => e = .returned (.int .i64 (nextI s)) ∧ w = w' := by
  go_enter Try.func96, Try.ntmps96
  go_wp2
  go_ret
  exact ⟨ret_int (by unfold nextI; first | rfl | (congr 1; omega)), rfl⟩

theorem nextSeed_any (s : Int) (w : World) (h1 : 0 ≤ s) (h2 : s ≤ 2147483647) :
    Calls Try.prog 90 #[.int .i64 s] w fun e w' => e = .returned (.int .i64 (nextI s)) ∧ w = w' := by
  go_enter Try.func90, Try.ntmps90
  go_wp2
  go_ret
  exact ⟨ret_int (by unfold nextI; first | rfl | (congr 1; omega)), rfl⟩

theorem specRankOf_any (c : Int) (w : World) :
    Calls Try.prog 40 #[.int .i64 c] w fun e w' => e = .returned (.tuple #[.int .i64 (rankR c).1, .int .i64 (rankR c).2]) ∧ w = w' := by
  by_cases h : 0 ≤ c ∧ c ≤ 51
  · obtain ⟨h1, h2⟩ := h
    have R : Hid (rankR c = (c / 4, 0)) := by unfold rankR; rw [if_pos ⟨h1, h2⟩]; rfl
    go_enter Try.func40, Try.ntmps40
    go_wp2_with (go_at_call 86; refine (l02Card_yes _ _ (by omega) (by omega)).mono ?_; rintro e w' ⟨rfl, rfl⟩)
    go_ret2
    exact ⟨two_eq R.out, rfl⟩
  · have R : Hid (rankR c = (0, 2)) := by unfold rankR; rw [if_neg h]; rfl
    have H : Hid (c < 0 ∨ 51 < c) := by show c < 0 ∨ 51 < c; omega
    clear h
    go_enter Try.func40, Try.ntmps40
    go_wp2_with (go_at_call 86; refine (l02Card_no _ _ H.out).mono ?_; rintro e w' ⟨rfl, rfl⟩)
    go_ret2
    exact ⟨two_eq R.out, rfl⟩

theorem specSuitOf_any (c : Int) (w : World) :
    Calls Try.prog 42 #[.int .i64 c] w fun e w' => e = .returned (.tuple #[.int .i64 (suitR c).1, .int .i64 (suitR c).2]) ∧ w = w' := by
  by_cases h : 0 ≤ c ∧ c ≤ 51
  · obtain ⟨h1, h2⟩ := h
    have R : Hid (suitR c = (c % 4, 0)) := by unfold suitR; rw [if_pos ⟨h1, h2⟩]; rfl
    go_enter Try.func42, Try.ntmps42
    go_wp2_with (go_at_call 86; refine (l02Card_yes _ _ (by omega) (by omega)).mono ?_; rintro e w' ⟨rfl, rfl⟩)
    go_ret2
    exact ⟨two_eq R.out, rfl⟩
  · have R : Hid (suitR c = (0, 2)) := by unfold suitR; rw [if_neg h]; rfl
    have H : Hid (c < 0 ∨ 51 < c) := by show c < 0 ∨ 51 < c; omega
    clear h
    go_enter Try.func42, Try.ntmps42
    go_wp2_with (go_at_call 86; refine (l02Card_no _ _ H.out).mono ?_; rintro e w' ⟨rfl, rfl⟩)
    go_ret2
    exact ⟨two_eq R.out, rfl⟩

theorem specNextSeed_any (c : Int) (w : World) :
    Calls Try.prog 55 #[.int .i64 c] w fun e w' => e = .returned (.tuple #[.int .i64 (seedR c).1, .int .i64 (seedR c).2]) ∧ w = w' := by
  by_cases h : 1 ≤ c ∧ c ≤ 2147483646
  · obtain ⟨h1, h2⟩ := h
    have R : Hid (seedR c = (nextI c, 0)) := by unfold seedR; rw [if_pos ⟨h1, h2⟩]; rfl
    go_enter Try.func55, Try.ntmps55
    go_wp2_with (first | (go_at_call 91; refine (l03Seed_yes _ _ (by omega) (by omega)).mono ?_; rintro e w' ⟨rfl, rfl⟩) | (go_at_call 96; refine (l03Next_any _ _ (by omega) (by omega)).mono ?_; rintro e w' ⟨rfl, rfl⟩))
    go_ret2
    exact ⟨two_eq R.out, rfl⟩
  · have R : Hid (seedR c = (0, 2)) := by unfold seedR; rw [if_neg h]; rfl
    have H : Hid (c < 1 ∨ 2147483646 < c) := by show c < 1 ∨ 2147483646 < c; omega
    clear h
    go_enter Try.func55, Try.ntmps55
    go_wp2_with (go_at_call 91; refine (l03Seed_no _ _ H.out).mono ?_; rintro e w' ⟨rfl, rfl⟩)
    go_ret2
    exact ⟨two_eq R.out, rfl⟩

theorem specCardOf_any (r s : Int) (w : World) :
    Calls Try.prog 45 #[.int .i64 r, .int .i64 s] w fun e w' => e = .returned (.tuple #[.int .i64 (cardR r s).1, .int .i64 (cardR r s).2]) ∧ w = w' := by
  by_cases h : 0 ≤ r ∧ r ≤ 12
  · obtain ⟨h1, h2⟩ := h
    by_cases h : 0 ≤ s ∧ s ≤ 3
    · obtain ⟨h3, h4⟩ := h
      have R : Hid (cardR r s = (4 * r + s, 0)) := by
        show cardR r s = (4 * r + s, 0)
        unfold cardR; rw [if_pos ⟨h1, h2, h3, h4⟩]
      go_enter Try.func45, Try.ntmps45
      go_wp2_with (go_at_call 75; refine (l01In_yes _ _ _ _ (by omega) (by omega)).mono ?_; rintro e w' ⟨rfl, rfl⟩)
      go_ret2
      exact ⟨two_eq R.out, rfl⟩
    · have R : Hid (cardR r s = (0, 2)) := by unfold cardR; rw [if_neg (by omega)]; rfl
      have H : Hid (s < 0 ∨ 3 < s) := by show s < 0 ∨ 3 < s; omega
      clear h
      go_enter Try.func45, Try.ntmps45
      go_wp2_with (first | (go_at_call_of 75 r; refine (l01In_yes _ _ _ _ (by omega) (by omega)).mono ?_; rintro e w' ⟨rfl, rfl⟩) | (go_at_call_of 75 s; refine (l01In_no _ _ _ _ H.out).mono ?_; rintro e w' ⟨rfl, rfl⟩))
      go_ret2
      exact ⟨two_eq R.out, rfl⟩
  · have R : Hid (cardR r s = (0, 2)) := by unfold cardR; rw [if_neg (by omega)]; rfl
    have H : Hid (r < 0 ∨ 12 < r) := by show r < 0 ∨ 12 < r; omega
    clear h
    go_enter Try.func45, Try.ntmps45
    go_wp2_with (go_at_call 75; refine (l01In_no _ _ _ _ H.out).mono ?_; rintro e w' ⟨rfl, rfl⟩)
    go_ret2
    exact ⟨two_eq R.out, rfl⟩

theorem implRankOf_any (c : Int) (w : World) :
    Calls Try.prog 39 #[.int .i64 c] w fun e w' => e = .returned (.tuple #[.int .i64 (rankR c).1, .int .i64 (rankR c).2]) ∧ w = w' := by
  by_cases h : 0 ≤ c ∧ c ≤ 51
  · obtain ⟨h1, h2⟩ := h
    have R : Hid (rankR c = (c / 4, 0)) := by unfold rankR; rw [if_pos ⟨h1, h2⟩]; rfl
    go_enter Try.func39, Try.ntmps39
    go_wp2_with (go_at_call 85; refine (isCard_yes _ _ (by omega) (by omega)).mono ?_; rintro e w' ⟨rfl, rfl⟩)
    go_ret2
    exact ⟨two_eq R.out, rfl⟩
  · have R : Hid (rankR c = (0, 2)) := by unfold rankR; rw [if_neg h]; rfl
    have H : Hid (c < 0 ∨ 51 < c) := by show c < 0 ∨ 51 < c; omega
    clear h
    go_enter Try.func39, Try.ntmps39
    go_wp2_with (go_at_call 85; refine (isCard_no _ _ H.out).mono ?_; rintro e w' ⟨rfl, rfl⟩)
    go_ret2
    exact ⟨two_eq R.out, rfl⟩

theorem implSuitOf_any (c : Int) (w : World) :
    Calls Try.prog 41 #[.int .i64 c] w fun e w' => e = .returned (.tuple #[.int .i64 (suitR c).1, .int .i64 (suitR c).2]) ∧ w = w' := by
  by_cases h : 0 ≤ c ∧ c ≤ 51
  · obtain ⟨h1, h2⟩ := h
    have R : Hid (suitR c = (c % 4, 0)) := by unfold suitR; rw [if_pos ⟨h1, h2⟩]; rfl
    go_enter Try.func41, Try.ntmps41
    go_wp2_with (go_at_call 85; refine (isCard_yes _ _ (by omega) (by omega)).mono ?_; rintro e w' ⟨rfl, rfl⟩)
    go_ret2
    exact ⟨two_eq R.out, rfl⟩
  · have R : Hid (suitR c = (0, 2)) := by unfold suitR; rw [if_neg h]; rfl
    have H : Hid (c < 0 ∨ 51 < c) := by show c < 0 ∨ 51 < c; omega
    clear h
    go_enter Try.func41, Try.ntmps41
    go_wp2_with (go_at_call 85; refine (isCard_no _ _ H.out).mono ?_; rintro e w' ⟨rfl, rfl⟩)
    go_ret2
    exact ⟨two_eq R.out, rfl⟩

theorem implNextSeed_any (c : Int) (w : World) :
    Calls Try.prog 54 #[.int .i64 c] w fun e w' => e = .returned (.tuple #[.int .i64 (seedR c).1, .int .i64 (seedR c).2]) ∧ w = w' := by
  by_cases h : 1 ≤ c ∧ c ≤ 2147483646
  · obtain ⟨h1, h2⟩ := h
    have R : Hid (seedR c = (nextI c, 0)) := by unfold seedR; rw [if_pos ⟨h1, h2⟩]; rfl
    go_enter Try.func54, Try.ntmps54
    go_wp2_with (first | (go_at_call 76; refine (within_yes _ _ _ _ (by omega) (by omega)).mono ?_; rintro e w' ⟨rfl, rfl⟩) | (go_at_call 90; refine (nextSeed_any _ _ (by omega) (by omega)).mono ?_; rintro e w' ⟨rfl, rfl⟩))
    go_ret2
    exact ⟨two_eq R.out, rfl⟩
  · have R : Hid (seedR c = (0, 2)) := by unfold seedR; rw [if_neg h]; rfl
    have H : Hid (c < 1 ∨ 2147483646 < c) := by show c < 1 ∨ 2147483646 < c; omega
    clear h
    go_enter Try.func54, Try.ntmps54
    go_wp2_with (go_at_call 76; refine (within_no _ _ _ _ H.out).mono ?_; rintro e w' ⟨rfl, rfl⟩)
    go_ret2
    exact ⟨two_eq R.out, rfl⟩

theorem implCardOf_any (r s : Int) (w : World) :
    Calls Try.prog 44 #[.int .i64 r, .int .i64 s] w fun e w' => e = .returned (.tuple #[.int .i64 (cardR r s).1, .int .i64 (cardR r s).2]) ∧ w = w' := by
  by_cases h : 0 ≤ r ∧ r ≤ 12
  · obtain ⟨h1, h2⟩ := h
    by_cases h : 0 ≤ s ∧ s ≤ 3
    · obtain ⟨h3, h4⟩ := h
      have R : Hid (cardR r s = (r * 4 + s, 0)) := by
        show cardR r s = (r * 4 + s, 0)
        unfold cardR; rw [if_pos ⟨h1, h2, h3, h4⟩, Int.mul_comm]
      go_enter Try.func44, Try.ntmps44
      go_wp2_with (go_at_call 76; refine (within_yes _ _ _ _ (by omega) (by omega)).mono ?_; rintro e w' ⟨rfl, rfl⟩)
      go_ret2
      exact ⟨two_eq R.out, rfl⟩
    · have R : Hid (cardR r s = (0, 2)) := by unfold cardR; rw [if_neg (by omega)]; rfl
      have H : Hid (s < 0 ∨ 3 < s) := by show s < 0 ∨ 3 < s; omega
      clear h
      go_enter Try.func44, Try.ntmps44
      go_wp2_with (first | (go_at_call_of 76 r; refine (within_yes _ _ _ _ (by omega) (by omega)).mono ?_; rintro e w' ⟨rfl, rfl⟩) | (go_at_call_of 76 s; refine (within_no _ _ _ _ H.out).mono ?_; rintro e w' ⟨rfl, rfl⟩))
      go_ret2
      exact ⟨two_eq R.out, rfl⟩
  · have R : Hid (cardR r s = (0, 2)) := by unfold cardR; rw [if_neg (by omega)]; rfl
    have H : Hid (r < 0 ∨ 12 < r) := by show r < 0 ∨ 12 < r; omega
    clear h
    go_enter Try.func44, Try.ntmps44
    go_wp2_with (go_at_call 76; refine (within_no _ _ _ _ H.out).mono ?_; rintro e w' ⟨rfl, rfl⟩)
    go_ret2
    exact ⟨two_eq R.out, rfl⟩

end Go.Proofs.Ytljlnfdbjeinaaa
