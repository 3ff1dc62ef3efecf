/-
  RestOfDeck and CutDeck in the reference and in the program.
-/
import Derived.Test.YtmmpeaedglnjlaaDeck
import Derived.Test.YtmmpeaedglnjlaaOwn
namespace Go.Proofs.Ytmmpeaedglnjlaa
open Go.RowKit

/-- The code of a deck and a number of cards. -/
def codeR (xs : List Int) (n : Int) : Int := if deckB xs = true then (if 0 ≤ n ∧ n ≤ 52 then 0 else 2) else 1

theorem l03Code_any (A : Option Addr) (c : Nat) (xs : List Int) (n : Int) (w : World) (h : RowI w A xs) (hl : xs.length ≤ 1048576) :
    Calls Try.prog 51 #[.slice A xs.length c, .int .i64 n] w fun e w' => e = .returned (.int .i64 (codeR xs n)) ∧ Below w.heap.size w w' := by
  have HR := Lib.hid h
  clear h
  cases hd : deckB xs
  · have H := Lib.hid hd
    have R : Hid (codeR xs n = 1) := by show codeR xs n = 1; unfold codeR; rw [hd]; rfl
    clear hd
    go_enter Try.func51, Try.ntmps51
    go_wp2_with fail
    refine (specIsDeck_any A c xs _ HR.out hl).mono ?_
    rintro e w1 ⟨rfl, hb⟩
    rw [H.out]
    go_wp2
    go_ret
    exact ⟨ret_int R.out.symm, hb⟩
  have H := Lib.hid hd
  by_cases hx : 0 ≤ n ∧ n ≤ 52
  · have R : Hid (codeR xs n = 0) := by show codeR xs n = 0; unfold codeR; rw [if_pos hd, if_pos hx]
    obtain ⟨g0, g1⟩ := hx
    clear hd
    go_enter Try.func51, Try.ntmps51
    go_wp2_with fail
    refine (specIsDeck_any A c xs _ HR.out hl).mono ?_
    rintro e w1 ⟨rfl, hb⟩
    rw [H.out]
    go_wp2_with (go_at_call 44; refine (l01In_yes _ _ _ _ (by omega) (by omega)).mono ?_; rintro e w2 ⟨rfl, rfl⟩)
    go_ret
    exact ⟨ret_int R.out.symm, hb⟩
  · have R : Hid (codeR xs n = 2) := by show codeR xs n = 2; unfold codeR; rw [if_pos hd, if_neg hx]
    have H0 : Hid (n < 0 ∨ 52 < n) := by show n < 0 ∨ 52 < n; omega
    clear hd hx
    go_enter Try.func51, Try.ntmps51
    go_wp2_with fail
    refine (specIsDeck_any A c xs _ HR.out hl).mono ?_
    rintro e w1 ⟨rfl, hb⟩
    rw [H.out]
    go_wp2_with (go_at_call 44; refine (l01In_no _ _ _ _ H0.out).mono ?_; rintro e w2 ⟨rfl, rfl⟩)
    go_ret
    exact ⟨ret_int R.out.symm, hb⟩

theorem codeR_ok {xs : List Int} {n : Int} (h : codeR xs n = 0) : deckP xs ∧ 0 ≤ n ∧ n ≤ 52 := by
  unfold codeR at h
  by_cases h1 : deckB xs = true
  · by_cases h2 : 0 ≤ n ∧ n ≤ 52
    · exact ⟨(deckB_iff xs).1 h1, h2⟩
    · rw [if_pos h1, if_neg h2] at h; omega
  · rw [if_neg h1] at h; omega

def restL (xs : List Int) (n : Int) : List Int := if codeR xs n = 0 then xs.drop n.toNat else []

theorem specRest_any (A : Option Addr) (c : Nat) (xs : List Int) (n : Int) (w : World) (h : RowI w A xs) (hcap : xs.length ≤ c) (_hm : c ≤ maxLen) (hl : xs.length ≤ 1048576) :
    Calls Try.prog 24 #[.slice A xs.length c, .int .i64 n] w (GivesC w (restL xs n) (codeR xs n)) := by
  have HR := Lib.hid h
  by_cases hk : codeR xs n = 0
  · obtain ⟨hd, g0, g1⟩ := codeR_ok hk
    have HD := Lib.hid hd
    have K := Lib.hid hk
    obtain ⟨m, rfl⟩ := Int.eq_ofNat_of_zero_le g0
    have R : Hid (restL xs (m : Int) = xs.drop m) := by show restL xs (m : Int) = _; unfold restL; rw [if_pos hk]; rfl
    have hl52 : xs.length = 52 := hd.2
    have HL := Lib.hid hl52
    have g2 : m ≤ xs.length := by omega
    have hdl : (xs.drop m).length ≤ 1048576 := by rw [List.length_drop]; omega
    clear hd hk hl52 h
    go_enter Try.func24, Try.ntmps24
    go_wp2_with fail
    refine (l03Code_any A c xs _ _ HR.out (by omega)).mono ?_
    rintro e w1 ⟨rfl, hb⟩
    rw [K.out]
    go_wp2_with fail
    case inr =>
      have hc : ¬ c = m := by assumption
      have ROW := (HR.out.below hb).cut (k := m) (cap := c) g2 hcap
      rw [if_neg hc] at ROW
      refine (l01Own_len _ _ (xs.drop m) _ _ (by simp) ROW hdl).mono ?_
      rintro e w3 ⟨A', c', rfl, ho, hb3⟩
      have O3 := Lib.hid ho
      clear ho ROW hc
      go_wp2
      go_ret2
      exact ⟨A', c', by rw [R.out, K.out, List.length_drop]; rfl, by rw [R.out]; exact O3.out.mono hb.size, hb.trans (hb3.mono hb.size)⟩
    case inl =>
      have hc : c = m := by assumption
      have ROW := (HR.out.below hb).cut (k := m) (cap := c) g2 hcap
      rw [if_pos hc] at ROW
      refine (l01Own_len _ _ (xs.drop m) _ _ (by simp) ROW hdl).mono ?_
      rintro e w3 ⟨A', c', rfl, ho, hb3⟩
      have O3 := Lib.hid ho
      clear ho ROW hc
      go_wp2
      go_ret2
      exact ⟨A', c', by rw [R.out, K.out, List.length_drop]; rfl, by rw [R.out]; exact O3.out.mono hb.size, hb.trans (hb3.mono hb.size)⟩
  · have R : Hid (restL xs n = []) := by show restL xs n = _; unfold restL; rw [if_neg hk]
    clear h
    have hne : (codeR xs n != 0) = true := by simpa using hk
    clear hk
    go_enter Try.func24, Try.ntmps24
    go_wp2_with fail
    refine (l03Code_any A c xs _ _ HR.out (by omega)).mono ?_
    rintro e w1 ⟨rfl, hb⟩
    go_wp2
    go_ret2
    exact ⟨none, 0, by rw [R.out]; rfl, by rw [R.out]; exact OwnI.nil_ _ _, hb⟩

theorem implRest_any (A : Option Addr) (c : Nat) (xs : List Int) (n : Int) (w : World) (h : RowI w A xs) (hcap : xs.length ≤ c) (_hm : c ≤ maxLen) (hl : xs.length ≤ 1048576) :
    Calls Try.prog 23 #[.slice A xs.length c, .int .i64 n] w (GivesC w (restL xs n) (codeR xs n)) := by
  have HR := Lib.hid h
  by_cases hk : codeR xs n = 0
  · obtain ⟨hd, g0, g1⟩ := codeR_ok hk
    have HD := Lib.hid hd
    have K := Lib.hid hk
    obtain ⟨m, rfl⟩ := Int.eq_ofNat_of_zero_le g0
    have R : Hid (restL xs (m : Int) = xs.drop m) := by show restL xs (m : Int) = _; unfold restL; rw [if_pos hk]; rfl
    have hl52 : xs.length = 52 := hd.2
    have HL := Lib.hid hl52
    have g2 : m ≤ xs.length := by omega
    have hdl : (xs.drop m).length ≤ 1048576 := by rw [List.length_drop]; omega
    obtain ⟨b, off, rfl, _⟩ := h.at_ (k := 0) (by omega)
    clear hd hk hl52 h
    have D := Lib.hid ((deckB_iff xs).2 HD.out)
    go_enter Try.func23, Try.ntmps23
    go_wp2_with fail
    refine (implIsDeck_any _ c xs _ HR.out (by omega)).mono ?_
    rintro e w1 ⟨rfl, hb⟩
    rw [D.out]
    go_wp2_with fail
    refine (within_yes _ _ _ _ g0 g1).mono ?_
    rintro e w2 ⟨rfl, rfl⟩
    go_wp2_with fail
    case inr =>
      have hc : ¬ c = m := by assumption
      have ROW := (HR.out.below hb).cut (k := m) (cap := c) g2 hcap
      rw [if_neg hc] at ROW
      have ROW2 : RowI w1 (some ⟨b, off + m, none⟩) (xs.drop m) := by rw [← Go.WideShapes.add_plain]; exact ROW
      refine (clone_len ⟨b, off + m, none⟩ (c - m) (xs.drop m) (xs.length - m) _ (by simp) ROW2 hdl).mono ?_
      rintro e w3 ⟨A', c', rfl, ho, hb3⟩
      have O3 := Lib.hid ho
      clear ho ROW hc
      go_wp2
      go_ret2
      exact ⟨A', c', by rw [R.out, K.out, List.length_drop]; rfl, by rw [R.out]; exact O3.out.mono hb.size, hb.trans (hb3.mono hb.size)⟩
    case inl =>
      have hc : c = m := by assumption
      have ROW := (HR.out.below hb).cut (k := m) (cap := c) g2 hcap
      rw [if_pos hc] at ROW
      refine (clone_len ⟨b, off, none⟩ 0 (xs.drop m) (xs.length - m) _ (by simp) ROW hdl).mono ?_
      rintro e w3 ⟨A', c', rfl, ho, hb3⟩
      have O3 := Lib.hid ho
      clear ho ROW hc
      go_wp2
      go_ret2
      exact ⟨A', c', by rw [R.out, K.out, List.length_drop]; rfl, by rw [R.out]; exact O3.out.mono hb.size, hb.trans (hb3.mono hb.size)⟩
  · have R : Hid (restL xs n = []) := by show restL xs n = _; unfold restL; rw [if_neg hk]
    clear h
    cases hd : deckB xs
    · have D := Lib.hid hd
      have K : Hid (codeR xs n = 1) := by show codeR xs n = 1; unfold codeR; rw [hd]; rfl
      clear hd hk
      go_enter Try.func23, Try.ntmps23
      go_wp2_with fail
      refine (implIsDeck_any _ c xs _ HR.out (by omega)).mono ?_
      rintro e w1 ⟨rfl, hb⟩
      rw [D.out]
      go_wp2
      go_ret2
      exact ⟨none, 0, by rw [R.out, K.out]; rfl, by rw [R.out]; exact OwnI.nil_ _ _, hb⟩
    · have D := Lib.hid hd
      have hx : ¬ (0 ≤ n ∧ n ≤ 52) := fun hx => hk (by unfold codeR; rw [if_pos hd, if_pos hx])
      have K : Hid (codeR xs n = 2) := by show codeR xs n = 2; unfold codeR; rw [if_pos hd, if_neg hx]
      have H0 : Hid (n < 0 ∨ 52 < n) := by show n < 0 ∨ 52 < n; omega
      clear hd hk hx
      go_enter Try.func23, Try.ntmps23
      go_wp2_with fail
      refine (implIsDeck_any _ c xs _ HR.out (by omega)).mono ?_
      rintro e w1 ⟨rfl, hb⟩
      rw [D.out]
      go_wp2_with (go_at_call 42; refine (within_no _ _ _ _ H0.out).mono ?_; rintro e w2 ⟨rfl, rfl⟩)
      go_ret2
      exact ⟨none, 0, by rw [R.out, K.out]; rfl, by rw [R.out]; exact OwnI.nil_ _ _, hb⟩
end Go.Proofs.Ytmmpeaedglnjlaa
