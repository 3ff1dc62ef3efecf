/-
  CardOf, RankOf, SuitOf and NextSeed in the reference and in the program, and the walks of their laws.
-/
import Derived.Test.YtaeffffgebhodaaInWalk
namespace Go.Proofs.Ytaeffffgebhodaa
open Go.RowKit

theorem two_eq {t : Int × Int} {x y : Int} (h : t = (x, y)) : Ending.returned (.tuple #[.int .i64 x, .int .i64 y]) = .returned (.tuple #[.int .i64 t.1, .int .i64 t.2]) := by subst h; rfl

def rankR (c : Int) : Int × Int := if 0 ≤ c ∧ c ≤ 51 then (c / 4, 0) else (0, 2)
def suitR (c : Int) : Int × Int := if 0 ≤ c ∧ c ≤ 51 then (c % 4, 0) else (0, 2)
def nextI (s : Int) : Int := s * 48271 % 2147483647
def seedR (s : Int) : Int × Int := if 1 ≤ s ∧ s ≤ 2147483646 then (nextI s, 0) else (0, 2)
def cardR (r s : Int) : Int × Int := if 0 ≤ r ∧ r ≤ 12 ∧ 0 ≤ s ∧ s ≤ 3 then (4 * r + s, 0) else (0, 2)

theorem l03Next_any (s : Int) (w : World) (h1 : 0 ≤ s) (h2 : s ≤ 2147483647) :
    Calls Try.prog 91 #[.int .i64 s] w fun e w' => e = .returned (.int .i64 (nextI s)) ∧ w = w' := by
  go_enter Try.func91, Try.ntmps91
  go_wp2
  go_ret
  exact ⟨ret_int (by unfold nextI; first | rfl | (congr 1; omega)), rfl⟩

theorem nextSeed_any (s : Int) (w : World) (h1 : 0 ≤ s) (h2 : s ≤ 2147483647) :
    Calls Try.prog 92 #[.int .i64 s] w fun e w' => e = .returned (.int .i64 (nextI s)) ∧ w = w' := by
  go_enter Try.func92, Try.ntmps92
  go_wp2
  go_ret
  exact ⟨ret_int (by unfold nextI; first | rfl | (congr 1; omega)), rfl⟩

theorem specRankOf_any (c : Int) (w : World) :
    Calls Try.prog 28 #[.int .i64 c] w fun e w' => e = .returned (.tuple #[.int .i64 (rankR c).1, .int .i64 (rankR c).2]) ∧ w = w' := by
  by_cases h : 0 ≤ c ∧ c ≤ 51
  · obtain ⟨h1, h2⟩ := h
    have R : Hid (rankR c = (c / 4, 0)) := by unfold rankR; rw [if_pos ⟨h1, h2⟩]; rfl
    go_enter Try.func28, Try.ntmps28
    go_wp2_with (go_at_call 88; refine (l02Card_yes _ _ (by omega) (by omega)).mono ?_; rintro e w' ⟨rfl, rfl⟩)
    go_ret2
    exact ⟨two_eq R.out, rfl⟩
  · have R : Hid (rankR c = (0, 2)) := by unfold rankR; rw [if_neg h]; rfl
    have H : Hid (c < 0 ∨ 51 < c) := by show c < 0 ∨ 51 < c; omega
    clear h
    go_enter Try.func28, Try.ntmps28
    go_wp2_with (go_at_call 88; refine (l02Card_no _ _ H.out).mono ?_; rintro e w' ⟨rfl, rfl⟩)
    go_ret2
    exact ⟨two_eq R.out, rfl⟩

theorem specSuitOf_any (c : Int) (w : World) :
    Calls Try.prog 30 #[.int .i64 c] w fun e w' => e = .returned (.tuple #[.int .i64 (suitR c).1, .int .i64 (suitR c).2]) ∧ w = w' := by
  by_cases h : 0 ≤ c ∧ c ≤ 51
  · obtain ⟨h1, h2⟩ := h
    have R : Hid (suitR c = (c % 4, 0)) := by unfold suitR; rw [if_pos ⟨h1, h2⟩]; rfl
    go_enter Try.func30, Try.ntmps30
    go_wp2_with (go_at_call 88; refine (l02Card_yes _ _ (by omega) (by omega)).mono ?_; rintro e w' ⟨rfl, rfl⟩)
    go_ret2
    exact ⟨two_eq R.out, rfl⟩
  · have R : Hid (suitR c = (0, 2)) := by unfold suitR; rw [if_neg h]; rfl
    have H : Hid (c < 0 ∨ 51 < c) := by show c < 0 ∨ 51 < c; omega
    clear h
    go_enter Try.func30, Try.ntmps30
    go_wp2_with (go_at_call 88; refine (l02Card_no _ _ H.out).mono ?_; rintro e w' ⟨rfl, rfl⟩)
    go_ret2
    exact ⟨two_eq R.out, rfl⟩

theorem specNextSeed_any (c : Int) (w : World) :
    Calls Try.prog 32 #[.int .i64 c] w fun e w' => e = .returned (.tuple #[.int .i64 (seedR c).1, .int .i64 (seedR c).2]) ∧ w = w' := by
  by_cases h : 1 ≤ c ∧ c ≤ 2147483646
  · obtain ⟨h1, h2⟩ := h
    have R : Hid (seedR c = (nextI c, 0)) := by unfold seedR; rw [if_pos ⟨h1, h2⟩]; rfl
    go_enter Try.func32, Try.ntmps32
    go_wp2_with (first | (go_at_call 90; refine (l03Seed_yes _ _ (by omega) (by omega)).mono ?_; rintro e w' ⟨rfl, rfl⟩) | (go_at_call 91; refine (l03Next_any _ _ (by omega) (by omega)).mono ?_; rintro e w' ⟨rfl, rfl⟩))
    go_ret2
    exact ⟨two_eq R.out, rfl⟩
  · have R : Hid (seedR c = (0, 2)) := by unfold seedR; rw [if_neg h]; rfl
    have H : Hid (c < 1 ∨ 2147483646 < c) := by show c < 1 ∨ 2147483646 < c; omega
    clear h
    go_enter Try.func32, Try.ntmps32
    go_wp2_with (go_at_call 90; refine (l03Seed_no _ _ H.out).mono ?_; rintro e w' ⟨rfl, rfl⟩)
    go_ret2
    exact ⟨two_eq R.out, rfl⟩

theorem specCardOf_any (r s : Int) (w : World) :
    Calls Try.prog 26 #[.int .i64 r, .int .i64 s] w fun e w' => e = .returned (.tuple #[.int .i64 (cardR r s).1, .int .i64 (cardR r s).2]) ∧ w = w' := by
  by_cases h : 0 ≤ r ∧ r ≤ 12
  · obtain ⟨h1, h2⟩ := h
    by_cases h : 0 ≤ s ∧ s ≤ 3
    · obtain ⟨h3, h4⟩ := h
      have R : Hid (cardR r s = (4 * r + s, 0)) := by
        show cardR r s = (4 * r + s, 0)
        unfold cardR; rw [if_pos ⟨h1, h2, h3, h4⟩]
      go_enter Try.func26, Try.ntmps26
      go_wp2_with (go_at_call 86; refine (l01In_yes _ _ _ _ (by omega) (by omega)).mono ?_; rintro e w' ⟨rfl, rfl⟩)
      go_ret2
      exact ⟨two_eq R.out, rfl⟩
    · have R : Hid (cardR r s = (0, 2)) := by unfold cardR; rw [if_neg (by omega)]; rfl
      have H : Hid (s < 0 ∨ 3 < s) := by show s < 0 ∨ 3 < s; omega
      clear h
      go_enter Try.func26, Try.ntmps26
      go_wp2_with (first | (go_at_call_of 86 r; refine (l01In_yes _ _ _ _ (by omega) (by omega)).mono ?_; rintro e w' ⟨rfl, rfl⟩) | (go_at_call_of 86 s; refine (l01In_no _ _ _ _ H.out).mono ?_; rintro e w' ⟨rfl, rfl⟩))
      go_ret2
      exact ⟨two_eq R.out, rfl⟩
  · have R : Hid (cardR r s = (0, 2)) := by unfold cardR; rw [if_neg (by omega)]; rfl
    have H : Hid (r < 0 ∨ 12 < r) := by show r < 0 ∨ 12 < r; omega
    clear h
    go_enter Try.func26, Try.ntmps26
    go_wp2_with (go_at_call 86; refine (l01In_no _ _ _ _ H.out).mono ?_; rintro e w' ⟨rfl, rfl⟩)
    go_ret2
    exact ⟨two_eq R.out, rfl⟩

theorem implRankOf_any (c : Int) (w : World) :
    Calls Try.prog 29 #[.int .i64 c] w fun e w' => e = .returned (.tuple #[.int .i64 (rankR c).1, .int .i64 (rankR c).2]) ∧ w = w' := by
  by_cases h : 0 ≤ c ∧ c ≤ 51
  · obtain ⟨h1, h2⟩ := h
    have R : Hid (rankR c = (c / 4, 0)) := by unfold rankR; rw [if_pos ⟨h1, h2⟩]; rfl
    go_enter Try.func29, Try.ntmps29
    go_wp2_with (go_at_call 89; refine (isCard_yes _ _ (by omega) (by omega)).mono ?_; rintro e w' ⟨rfl, rfl⟩)
    go_ret2
    exact ⟨two_eq R.out, rfl⟩
  · have R : Hid (rankR c = (0, 2)) := by unfold rankR; rw [if_neg h]; rfl
    have H : Hid (c < 0 ∨ 51 < c) := by show c < 0 ∨ 51 < c; omega
    clear h
    go_enter Try.func29, Try.ntmps29
    go_wp2_with (go_at_call 89; refine (isCard_no _ _ H.out).mono ?_; rintro e w' ⟨rfl, rfl⟩)
    go_ret2
    exact ⟨two_eq R.out, rfl⟩

theorem implSuitOf_any (c : Int) (w : World) :
    Calls Try.prog 31 #[.int .i64 c] w fun e w' => e = .returned (.tuple #[.int .i64 (suitR c).1, .int .i64 (suitR c).2]) ∧ w = w' := by
  by_cases h : 0 ≤ c ∧ c ≤ 51
  · obtain ⟨h1, h2⟩ := h
    have R : Hid (suitR c = (c % 4, 0)) := by unfold suitR; rw [if_pos ⟨h1, h2⟩]; rfl
    go_enter Try.func31, Try.ntmps31
    go_wp2_with (go_at_call 89; refine (isCard_yes _ _ (by omega) (by omega)).mono ?_; rintro e w' ⟨rfl, rfl⟩)
    go_ret2
    exact ⟨two_eq R.out, rfl⟩
  · have R : Hid (suitR c = (0, 2)) := by unfold suitR; rw [if_neg h]; rfl
    have H : Hid (c < 0 ∨ 51 < c) := by show c < 0 ∨ 51 < c; omega
    clear h
    go_enter Try.func31, Try.ntmps31
    go_wp2_with (go_at_call 89; refine (isCard_no _ _ H.out).mono ?_; rintro e w' ⟨rfl, rfl⟩)
    go_ret2
    exact ⟨two_eq R.out, rfl⟩

theorem implNextSeed_any (c : Int) (w : World) :
    Calls Try.prog 33 #[.int .i64 c] w fun e w' => e = .returned (.tuple #[.int .i64 (seedR c).1, .int .i64 (seedR c).2]) ∧ w = w' := by
  by_cases h : 1 ≤ c ∧ c ≤ 2147483646
  · obtain ⟨h1, h2⟩ := h
    have R : Hid (seedR c = (nextI c, 0)) := by unfold seedR; rw [if_pos ⟨h1, h2⟩]; rfl
    go_enter Try.func33, Try.ntmps33
    go_wp2_with (first | (go_at_call 87; refine (within_yes _ _ _ _ (by omega) (by omega)).mono ?_; rintro e w' ⟨rfl, rfl⟩) | (go_at_call 92; refine (nextSeed_any _ _ (by omega) (by omega)).mono ?_; rintro e w' ⟨rfl, rfl⟩))
    go_ret2
    exact ⟨two_eq R.out, rfl⟩
  · have R : Hid (seedR c = (0, 2)) := by unfold seedR; rw [if_neg h]; rfl
    have H : Hid (c < 1 ∨ 2147483646 < c) := by show c < 1 ∨ 2147483646 < c; omega
    clear h
    go_enter Try.func33, Try.ntmps33
    go_wp2_with (go_at_call 87; refine (within_no _ _ _ _ H.out).mono ?_; rintro e w' ⟨rfl, rfl⟩)
    go_ret2
    exact ⟨two_eq R.out, rfl⟩

theorem implCardOf_any (r s : Int) (w : World) :
    Calls Try.prog 27 #[.int .i64 r, .int .i64 s] w fun e w' => e = .returned (.tuple #[.int .i64 (cardR r s).1, .int .i64 (cardR r s).2]) ∧ w = w' := by
  by_cases h : 0 ≤ r ∧ r ≤ 12
  · obtain ⟨h1, h2⟩ := h
    by_cases h : 0 ≤ s ∧ s ≤ 3
    · obtain ⟨h3, h4⟩ := h
      have R : Hid (cardR r s = (r * 4 + s, 0)) := by
        show cardR r s = (r * 4 + s, 0)
        unfold cardR; rw [if_pos ⟨h1, h2, h3, h4⟩, Int.mul_comm]
      go_enter Try.func27, Try.ntmps27
      go_wp2_with (go_at_call 87; refine (within_yes _ _ _ _ (by omega) (by omega)).mono ?_; rintro e w' ⟨rfl, rfl⟩)
      go_ret2
      exact ⟨two_eq R.out, rfl⟩
    · have R : Hid (cardR r s = (0, 2)) := by unfold cardR; rw [if_neg (by omega)]; rfl
      have H : Hid (s < 0 ∨ 3 < s) := by show s < 0 ∨ 3 < s; omega
      clear h
      go_enter Try.func27, Try.ntmps27
      go_wp2_with (first | (go_at_call_of 87 r; refine (within_yes _ _ _ _ (by omega) (by omega)).mono ?_; rintro e w' ⟨rfl, rfl⟩) | (go_at_call_of 87 s; refine (within_no _ _ _ _ H.out).mono ?_; rintro e w' ⟨rfl, rfl⟩))
      go_ret2
      exact ⟨two_eq R.out, rfl⟩
  · have R : Hid (cardR r s = (0, 2)) := by unfold cardR; rw [if_neg (by omega)]; rfl
    have H : Hid (r < 0 ∨ 12 < r) := by show r < 0 ∨ 12 < r; omega
    clear h
    go_enter Try.func27, Try.ntmps27
    go_wp2_with (go_at_call 87; refine (within_no _ _ _ _ H.out).mono ?_; rintro e w' ⟨rfl, rfl⟩)
    go_ret2
    exact ⟨two_eq R.out, rfl⟩

theorem FnExactRankOf_walk (a : Int) (_ha : -9223372036854775808 ≤ a ∧ a ≤ 9223372036854775807) (w : World) :
    Calls Try.prog 4 #[.int .i64 a] w fun e w' => e = .returned (.bool true) ∧ Below w.heap.size w w' := by
  clear _ha
  go_enter Try.func4, Try.ntmps4
  go_wp2_with (first | (go_at_call 28; refine (specRankOf_any _ _).mono ?_; rintro e w' ⟨rfl, rfl⟩) | (go_at_call 29; refine (implRankOf_any _ _).mono ?_; rintro e w' ⟨rfl, rfl⟩))
  go_ret
  exact ⟨rfl, Below.refl _ _⟩

theorem FnExactSuitOf_walk (a : Int) (_ha : -9223372036854775808 ≤ a ∧ a ≤ 9223372036854775807) (w : World) :
    Calls Try.prog 5 #[.int .i64 a] w fun e w' => e = .returned (.bool true) ∧ Below w.heap.size w w' := by
  clear _ha
  go_enter Try.func5, Try.ntmps5
  go_wp2_with (first | (go_at_call 30; refine (specSuitOf_any _ _).mono ?_; rintro e w' ⟨rfl, rfl⟩) | (go_at_call 31; refine (implSuitOf_any _ _).mono ?_; rintro e w' ⟨rfl, rfl⟩))
  go_ret
  exact ⟨rfl, Below.refl _ _⟩

theorem FnExactNextSeed_walk (a : Int) (_ha : -9223372036854775808 ≤ a ∧ a ≤ 9223372036854775807) (w : World) :
    Calls Try.prog 6 #[.int .i64 a] w fun e w' => e = .returned (.bool true) ∧ Below w.heap.size w w' := by
  clear _ha
  go_enter Try.func6, Try.ntmps6
  go_wp2_with (first | (go_at_call 32; refine (specNextSeed_any _ _).mono ?_; rintro e w' ⟨rfl, rfl⟩) | (go_at_call 33; refine (implNextSeed_any _ _).mono ?_; rintro e w' ⟨rfl, rfl⟩))
  go_ret
  exact ⟨rfl, Below.refl _ _⟩

theorem FnExactCardOf_walk (a : Int) (_ha : -9223372036854775808 ≤ a ∧ a ≤ 9223372036854775807) (b : Int) (_hb : -9223372036854775808 ≤ b ∧ b ≤ 9223372036854775807) (w : World) :
    Calls Try.prog 3 #[.int .i64 a, .int .i64 b] w fun e w' => e = .returned (.bool true) ∧ Below w.heap.size w w' := by
  clear _ha _hb
  go_enter Try.func3, Try.ntmps3
  go_wp2_with (first | (go_at_call 26; refine (specCardOf_any _ _ _).mono ?_; rintro e w' ⟨rfl, rfl⟩) | (go_at_call 27; refine (implCardOf_any _ _ _).mono ?_; rintro e w' ⟨rfl, rfl⟩))
  go_ret
  exact ⟨rfl, Below.refl _ _⟩
end Go.Proofs.Ytaeffffgebhodaa
