/-
  IsDeck and PlaceOf in the reference and in the program.
-/
import Derived.Test.YtmmpeaedglnjlaaAreCards
import Derived.Test.YtmmpeaedglnjlaaMathDeck
namespace Go.Proofs.Ytmmpeaedglnjlaa
open Go.RowKit

theorem len_test (n : Nat) : ((n : Int) == 52) = decide (n = 52) := by
  rw [Bool.eq_iff_iff]; simp; omega

/-- spec.IsDeck. -/
theorem specIsDeck_any (A : Option Addr) (c : Nat) (xs : List Int) (w : World) (h : RowI w A xs) (hl : xs.length ≤ 1048576) :
    Calls Try.prog 43 #[.slice A xs.length c] w fun e w' => e = .returned (.bool (deckB xs)) ∧ Below w.heap.size w w' := by
  have HR := Lib.hid h
  have R := Lib.hid (deckB_eq xs)
  clear h
  cases ha : areC xs
  · have H := Lib.hid ha
    clear ha
    go_enter Try.func43, Try.ntmps43
    go_wp2_with fail
    refine (specAreCards_any A c xs _ HR.out hl).mono ?_
    rintro e w1 ⟨rfl, hb⟩
    rw [H.out]
    go_wp2
    go_ret
    exact ⟨ret_bool (by rw [R.out, H.out]; rfl), hb⟩
  · have H := Lib.hid ha
    clear ha
    go_enter Try.func43, Try.ntmps43
    go_wp2_with fail
    refine (specAreCards_any A c xs _ HR.out hl).mono ?_
    rintro e w1 ⟨rfl, hb⟩
    rw [H.out]
    go_wp2
    go_ret
    exact ⟨ret_bool (by rw [R.out, H.out, ← len_test]; rfl), hb⟩

/-- impl.IsDeck. -/
theorem implIsDeck_any (A : Option Addr) (c : Nat) (xs : List Int) (w : World) (h : RowI w A xs) (hl : xs.length ≤ 1048576) :
    Calls Try.prog 27 #[.slice A xs.length c] w fun e w' => e = .returned (.bool (deckB xs)) ∧ Below w.heap.size w w' := by
  have HR := Lib.hid h
  have R := Lib.hid (deckB_eq xs)
  clear h
  by_cases h52 : xs.length = 52
  · have g : ((xs.length : Int) == 52) = true := by rw [len_test]; simpa using h52
    have G := Lib.hid g
    clear h52
    go_enter Try.func27, Try.ntmps27
    go_wp2_with fail
    refine (implAreCards_below A c xs _ HR.out hl).mono ?_
    rintro e w1 ⟨rfl, hb⟩
    go_wp2
    go_ret
    exact ⟨ret_bool (by rw [R.out, ← len_test, G.out, Bool.and_true]), hb⟩
  · have g : ((xs.length : Int) == 52) = false := by rw [len_test]; simpa using h52
    have G := Lib.hid g
    clear h52
    go_enter Try.func27, Try.ntmps27
    go_wp2_with fail
    go_ret
    exact ⟨ret_bool (by rw [R.out, ← len_test, G.out, Bool.and_false]), Below.refl _ _⟩

theorem two_eq' {t : Int × Int} {x y : Int} (h : t = (x, y)) : Ending.returned (.tuple #[.int .i64 x, .int .i64 y]) = .returned (.tuple #[.int .i64 t.1, .int .i64 t.2]) := by subst h; rfl

/-- slices.Index at a list that holds the number. -/
theorem index_any (A : Option Addr) (c : Nat) (xs : List Int) (x : Int) (w : World) (h : RowI w A xs) (hl : xs.length ≤ 1048576) (hm : ∀ k, (∀ j, j < k → xs.getD j 0 ≠ x) → k < xs.length) :
    Calls Try.prog 47 #[.slice A xs.length c, .int .i64 x] w fun e w' => e = .returned (.int .i64 (placeI xs x)) ∧ w = w' := by
  obtain ⟨n, hn⟩ : ∃ n, n = xs.length := ⟨_, rfl⟩
  rw [← hn] at hl ⊢
  have HN := Lib.hid hn
  have HR := Lib.hid h
  have HM := Lib.hid hm
  clear hn h hm
  go_enter Try.func47, Try.ntmps47
  go_wp2
  go_loop [5, 8] (fun _ i => ∃ k : Nat, k ≤ n ∧ i = .int .i64 k ∧ Hid (∀ j, j < k → xs.getD j 0 ≠ x)) (fun _ i => n - (intOf i).toNat)
  case atStart => exact ⟨0, Nat.zero_le _, rfl, fun j hj => absurd hj (by omega)⟩
  case round =>
    obtain ⟨k, hk, rfl, hne⟩ := hrel
    have hkx : k < xs.length := HM.out k hne.out
    have hlt : k < n := by rw [HN.out]; exact hkx
    obtain ⟨b, off, rfl, hb, hc⟩ := HR.out.at_ hkx
    obtain ⟨y, hy⟩ : ∃ y, y = xs.getD k 0 := ⟨_, rfl⟩
    rw [← hy] at hc
    have HY := Lib.hid hy
    have HK := Lib.hid hkx
    clear hy hb hkx
    by_cases hxy : x = y
    · subst hxy
      go_wp2
      go_ret
      exact ⟨ret_int (placeI_of HK.out HY.out.symm hne.out).symm, rfl⟩
    · have g : (x == y) = false := by simpa using hxy
      have HX := Lib.hid hxy
      clear hxy
      go_wp2
      go_round
      case rel => exact ⟨k + 1, by omega, by go_num, fun j hj => by
        rcases Nat.lt_or_ge j k with h1 | h1
        · exact hne.out j h1
        · have : j = k := by omega
          subst this; rw [← HY.out]; exact fun e => HX.out e.symm⟩
      case measure => simp [intOf]; omega

/-- spec.PlaceOf. -/
theorem specPlaceOf_any (A : Option Addr) (c : Nat) (xs : List Int) (x : Int) (w : World) (h : RowI w A xs) (hl : xs.length ≤ 1048576) :
    Calls Try.prog 21 #[.slice A xs.length c, .int .i64 x] w fun e w' => e = .returned (.tuple #[.int .i64 (placR xs x).1, .int .i64 (placR xs x).2]) ∧ Below w.heap.size w w' := by
  have HR := Lib.hid h
  clear h
  cases hd : deckB xs
  · have H := Lib.hid hd
    have R : Hid (placR xs x = (0, 1)) := by show placR xs x = (0, 1); unfold placR; rw [hd]; rfl
    clear hd
    go_enter Try.func21, Try.ntmps21
    go_wp2_with fail
    refine (specIsDeck_any A c xs _ HR.out hl).mono ?_
    rintro e w1 ⟨rfl, hb⟩
    rw [H.out]
    go_wp2
    go_ret2
    exact ⟨two_eq' R.out, hb⟩
  have H := Lib.hid hd
  by_cases hx : 0 ≤ x ∧ x ≤ 51
  · have R : Hid (placR xs x = (placeI xs x, 0)) := by show placR xs x = _; unfold placR; rw [if_pos hd, if_pos hx]
    have H0 := Lib.hid hx
    have HD := Lib.hid ((deckB_iff xs).1 hd)
    obtain ⟨g0, g1⟩ := hx
    clear hd
    go_enter Try.func21, Try.ntmps21
    go_wp2_with fail
    refine (specIsDeck_any A c xs _ HR.out hl).mono ?_
    rintro e w1 ⟨rfl, hb⟩
    rw [H.out]
    have hb1 := Lib.hid hb
    clear hb
    go_wp2_with fail
    refine (l02Card_yes x _ g0 g1).mono ?_
    rintro e w2 ⟨rfl, rfl⟩
    go_wp2
    go_loopw [6] (fun i wr => ∃ k : Nat, i = .int .i64 k ∧ Hid (∀ j, j < k → xs.getD j 0 ≠ x) ∧ wr = w1) (fun i _ => 52 - (intOf i).toNat)
    case atStart => exact ⟨0, rfl, fun j hj => absurd hj (by omega), rfl⟩
    case round =>
      obtain ⟨k, rfl, hne, rfl⟩ := hrel
      have hkx : k < xs.length := deck_more HD.out H0.out.1 H0.out.2 hne.out
      have hlt : k < 52 := by rw [← HD.out.2]; exact hkx
      have hln := Lib.hid HD.out.2
      obtain ⟨b, off, rfl, hb, hc⟩ := (HR.out.below hb1.out).at_ hkx
      obtain ⟨y, hy⟩ : ∃ y, y = xs.getD k 0 := ⟨_, rfl⟩
      rw [← hy] at hc
      have HY := Lib.hid hy
      have HK := Lib.hid hkx
      have hkl : (k : Int) < (xs.length : Int) := by omega
      clear hy hb
      by_cases hxy : y = x
      · subst hxy
        go_wp2
        go_ret2
        exact ⟨two_eq' (by rw [R.out, placeI_of HK.out HY.out.symm hne.out]), hb1.out⟩
      · have g : (y != x) = true := by simpa using hxy
        have HX := Lib.hid hxy
        clear hxy
        go_wp2
        go_roundw
        case rel => exact ⟨k + 1, by go_num, fun j hj => by
          rcases Nat.lt_or_ge j k with h1 | h1
          · exact hne.out j h1
          · have : j = k := by omega
            subst this; rw [← HY.out]; exact HX.out, trivial⟩
        case measure => simp [intOf]; omega
  · have R : Hid (placR xs x = (0, 2)) := by show placR xs x = (0, 2); unfold placR; rw [if_pos hd, if_neg hx]
    have H0 : Hid (x < 0 ∨ 51 < x) := by show x < 0 ∨ 51 < x; omega
    clear hd hx
    go_enter Try.func21, Try.ntmps21
    go_wp2_with fail
    refine (specIsDeck_any A c xs _ HR.out hl).mono ?_
    rintro e w1 ⟨rfl, hb⟩
    rw [H.out]
    go_wp2_with (go_at_call 48; refine (l02Card_no x _ H0.out).mono ?_; rintro e w2 ⟨rfl, rfl⟩)
    go_ret2
    exact ⟨two_eq' R.out, hb⟩

/-- impl.PlaceOf. -/
theorem implPlaceOf_any (A : Option Addr) (c : Nat) (xs : List Int) (x : Int) (w : World) (h : RowI w A xs) (hl : xs.length ≤ 1048576) :
    Calls Try.prog 20 #[.slice A xs.length c, .int .i64 x] w fun e w' => e = .returned (.tuple #[.int .i64 (placR xs x).1, .int .i64 (placR xs x).2]) ∧ Below w.heap.size w w' := by
  have HR := Lib.hid h
  clear h
  cases hd : deckB xs
  · have H := Lib.hid hd
    have R : Hid (placR xs x = (0, 1)) := by show placR xs x = (0, 1); unfold placR; rw [hd]; rfl
    clear hd
    go_enter Try.func20, Try.ntmps20
    go_wp2_with fail
    refine (implIsDeck_any A c xs _ HR.out hl).mono ?_
    rintro e w1 ⟨rfl, hb⟩
    rw [H.out]
    go_wp2
    go_ret2
    exact ⟨two_eq' R.out, hb⟩
  have H := Lib.hid hd
  by_cases hx : 0 ≤ x ∧ x ≤ 51
  · have R : Hid (placR xs x = (placeI xs x, 0)) := by show placR xs x = _; unfold placR; rw [if_pos hd, if_pos hx]
    have H0 := Lib.hid hx
    have HD := Lib.hid ((deckB_iff xs).1 hd)
    obtain ⟨g0, g1⟩ := hx
    clear hd
    go_enter Try.func20, Try.ntmps20
    go_wp2_with fail
    refine (implIsDeck_any A c xs _ HR.out hl).mono ?_
    rintro e w1 ⟨rfl, hb⟩
    rw [H.out]
    have hb1 := Lib.hid hb
    clear hb
    go_wp2_with fail
    refine (isCard_yes x _ g0 g1).mono ?_
    rintro e w2 ⟨rfl, rfl⟩
    go_wp2_with fail
    refine (index_any A c xs x _ (HR.out.below hb1.out) hl (fun k hk => deck_more HD.out H0.out.1 H0.out.2 hk)).mono ?_
    rintro e w2 ⟨rfl, rfl⟩
    go_wp2
    go_ret2
    exact ⟨two_eq' R.out, hb1.out⟩
  · have R : Hid (placR xs x = (0, 2)) := by show placR xs x = (0, 2); unfold placR; rw [if_pos hd, if_neg hx]
    have H0 : Hid (x < 0 ∨ 51 < x) := by show x < 0 ∨ 51 < x; omega
    clear hd hx
    go_enter Try.func20, Try.ntmps20
    go_wp2_with fail
    refine (implIsDeck_any A c xs _ HR.out hl).mono ?_
    rintro e w1 ⟨rfl, hb⟩
    rw [H.out]
    go_wp2_with (go_at_call 46; refine (isCard_no x _ H0.out).mono ?_; rintro e w2 ⟨rfl, rfl⟩)
    go_ret2
    exact ⟨two_eq' R.out, hb⟩
end Go.Proofs.Ytmmpeaedglnjlaa
