/-
  CardsText in the reference and in the program.
-/
import Derived.Test.YtmmpeaedglnjlaaTextI
namespace Go.Proofs.Ytmmpeaedglnjlaa
open Go.RowKit

def txtB (xs : List Int) : ByteArray := ⟨(textL xs).toArray⟩
theorem txt_yes {xs : List Int} (h : areC xs = true) : txtB xs = ⟨(textK xs xs.length).toArray⟩ ∧ arC xs = 0 := by unfold txtB textL arC; rw [if_pos h, if_pos h]; exact ⟨rfl, rfl⟩
theorem txt_no {xs : List Int} (h : areC xs = false) : txtB xs = ⟨#[]⟩ ∧ arC xs = 1 := by unfold txtB textL arC; rw [h]; exact ⟨rfl, rfl⟩

theorem specText_any (A : Option Addr) (c : Nat) (xs : List Int) (w : World) (h : RowI w A xs) (hl : xs.length ≤ 1048576) :
    Calls Try.prog 7 #[.slice A xs.length c] w fun e w' => e = .returned (.tuple #[Value.string (txtB xs), .int .i64 (arC xs)]) ∧ Below w.heap.size w w' := by
  have HR := Lib.hid h
  have CALL := Lib.hid (specAreCards_any A c xs w h hl)
  cases ha : areC xs
  · have R := Lib.hid (txt_no ha)
    rw [ha] at CALL
    obtain ⟨n, hn⟩ : ∃ n, n = xs.length := ⟨_, rfl⟩
    rw [← hn] at CALL ⊢
    clear h ha hn hl
    go_enter Try.func7, Try.ntmps7
    go_wp2_with fail
    refine CALL.out.mono ?_
    rintro e w1 ⟨rfl, hb⟩
    have B1 := Lib.hid hb
    clear hb
    go_wp2
    go_ret2
    exact ⟨by rw [R.out.1, R.out.2]; rfl, B1.out⟩
  · have R := Lib.hid (txt_yes ha)
    have HO : Hid (okC xs) := (areC_iff xs).1 ha
    rw [ha] at CALL
    obtain ⟨n, hn⟩ : ∃ n, n = xs.length := ⟨_, rfl⟩
    have HN := Lib.hid hn
    rw [← hn] at CALL R hl ⊢
    clear h ha hn
    go_enter Try.func7, Try.ntmps7
    go_wp2_with fail
    refine CALL.out.mono ?_
    rintro e w1 ⟨rfl, hb⟩
    have B1 := Lib.hid hb
    clear hb
    go_wp2_with fail
    refine (l02Text_any A c xs n _ HN.out (HR.out.below B1.out) hl HO.out).mono ?_
    rintro e w2 ⟨rfl, hb⟩
    have B2 := Lib.hid (B1.out.trans (hb.mono B1.out.size))
    obtain ⟨t, ht⟩ : ∃ t : ByteArray, t = ⟨(textK xs n).toArray⟩ := ⟨_, rfl⟩
    rw [← ht] at R ⊢
    clear hb ht
    go_wp2
    go_ret2
    exact ⟨by rw [R.out.1, R.out.2]; rfl, B2.out⟩

theorem implText_any (A : Option Addr) (c : Nat) (xs : List Int) (w : World) (h : RowI w A xs) (hl : xs.length ≤ 1048576) :
    Calls Try.prog 9 #[.slice A xs.length c] w fun e w' => e = .returned (.tuple #[Value.string (txtB xs), .int .i64 (arC xs)]) ∧ Below w.heap.size w w' := by
  have HR := Lib.hid h
  have CALL := Lib.hid (implAreCards_any A c xs w h hl)
  cases ha : areC xs
  · have R := Lib.hid (txt_no ha)
    rw [ha] at CALL
    obtain ⟨n, hn⟩ : ∃ n, n = xs.length := ⟨_, rfl⟩
    rw [← hn] at CALL ⊢
    clear h ha hn hl
    go_enter Try.func9, Try.ntmps9
    go_wp2_with fail
    refine CALL.out.mono ?_
    rintro e w1 ⟨rfl, rfl⟩
    go_wp2
    go_ret2
    exact ⟨by rw [R.out.1, R.out.2]; rfl, Below.refl _ _⟩
  · have R := Lib.hid (txt_yes ha)
    have HO : Hid (okC xs) := (areC_iff xs).1 ha
    rw [ha] at CALL
    obtain ⟨n, hn⟩ : ∃ n, n = xs.length := ⟨_, rfl⟩
    have HN := Lib.hid hn
    rw [← hn] at CALL R hl ⊢
    clear h ha hn
    go_enter Try.func9, Try.ntmps9
    go_wp2_with fail
    refine CALL.out.mono ?_
    rintro e w1 ⟨rfl, rfl⟩
    go_wp2_with fail
    refine (cardsText_any A c xs n _ HN.out HR.out hl HO.out).mono ?_
    rintro e w2 ⟨rfl, hb⟩
    have B2 := Lib.hid hb
    obtain ⟨t, ht⟩ : ∃ t : ByteArray, t = ⟨(textK xs n).toArray⟩ := ⟨_, rfl⟩
    rw [← ht] at R ⊢
    clear hb ht
    go_wp2
    go_ret2
    exact ⟨by rw [R.out.1, R.out.2]; rfl, B2.out⟩
end Go.Proofs.Ytmmpeaedglnjlaa
