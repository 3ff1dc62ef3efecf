/-
  Numbers with a sign, and the words between slashes, in the reference.
-/
import Derived.Test.YtfccmgnoebdlgaaDoorRatRead2
import Derived.Test.YtfccmgnoebdlgaaDoorInts
import Derived.Deep.AppendLies
import Derived.Lib.IndexBytes
namespace Go.Proofs.YtfccmgnoebdlgaaDoor
open Go.RowKit

/-- What l01Signed returns. -/
def SigR (s : ByteArray) (w : World) (e : Ending) (w' : World) : Prop :=
  ∃ (v : Int) (b : Bool), e = .returned (.tuple #[.int .i64 v, .bool b]) ∧ (-100000000000 ≤ v ∧ v ≤ 100000000000) ∧ (b = true → 1 ≤ s.size) ∧ (∀ m : Int, -1000000000 ≤ m → m ≤ 1000000000 → s = bytesOf (Lib.itoa m) → v = m ∧ b = true) ∧ Below w.heap.size w w'

theorem itoa_head {m : Int} : (m < 0 ∧ ∃ u : Nat, m = -(u : Int) ∧ 1 ≤ u ∧ Lib.itoa m = 45 :: Lib.decDigits u) ∨ (0 ≤ m ∧ ∃ u : Nat, m = (u : Int) ∧ Lib.itoa m = Lib.decDigits u ∧ ∀ r, Lib.itoa m ≠ 45 :: r) := by
  by_cases h0 : m < 0
  · obtain ⟨u, hu⟩ := Int.eq_ofNat_of_zero_le (show 0 ≤ -m by omega)
    obtain rfl : m = -(u : Int) := by omega
    exact .inl ⟨h0, u, rfl, by omega, Lib.itoa_neg u (by omega)⟩
  · obtain ⟨u, rfl⟩ := Int.eq_ofNat_of_zero_le (show 0 ≤ m by omega)
    refine .inr ⟨by omega, u, rfl, Lib.itoa_nonneg u, fun r hr => ?_⟩
    rw [Lib.itoa_nonneg] at hr
    have := (dec_dig (u + 1) u (by omega)).1 45 (by rw [hr]; simp)
    exact absurd this (by decide)
theorem first_byte {s : ByteArray} {c : UInt8} {r : List UInt8} (h : s = bytesOf (c :: r)) (h0 : 0 < s.size) : s[0]'h0 = c := by
  subst h; rfl
theorem tail_bytes {s : ByteArray} {c : UInt8} {r : List UInt8} (h : s = bytesOf (c :: r)) : s.extract 1 s.size = bytesOf r := by
  have := Lib.extract_to_end s 1
  rw [← bytesOf_data (s.extract 1 s.size), this, h, bytesOf_list]; rfl
theorem first_split {s : ByteArray} (h0 : 0 < s.size) : ∃ r, s = bytesOf (s[0]'h0 :: r) := by
  cases hl : s.data.toList with
  | nil =>
    have e : s.data.toList.length = 0 := by rw [hl]; rfl
    have e2 : s.size = s.data.toList.length := rfl
    omega
  | cons c r => 
    have h := bytesOf_data s
    rw [hl] at h
    exact ⟨r, by rw [first_byte h.symm h0]; exact h.symm⟩

set_option maxHeartbeats 4000000 in
set_option maxRecDepth 8000 in
theorem l01Signed_any (s : ByteArray) (w : World) (hs : s.size ≤ 1048576) :
    Calls Tryd.prog 23 #[.string s] w (SigR s w) := by
  by_cases hm : ∃ r, s = bytesOf (45 :: r)
  · obtain ⟨r, hr⟩ := hm
    have h0 : 0 < s.size := by rw [hr, bytesOf_size]; simp
    have g0 : 0 < (s.size : Int) := by omega
    have g1 : 1 ≤ (s.size : Int) := by omega
    have b0 : ((((s[0]'h0).toNat : Nat) : Int) == 45) = true := by rw [first_byte hr h0]; rfl
    obtain ⟨X, hX⟩ : ∃ X, X = s.extract 1 s.size := ⟨_, rfl⟩
    have hXr : X = bytesOf r := by rw [hX]; exact tail_bytes hr
    have XS : X.size ≤ 1048576 := by rw [hX, ByteArray.size_extract]; omega
    have RR : Hid (∀ m : Int, -1000000000 ≤ m → m ≤ 1000000000 → s = bytesOf (Lib.itoa m) → ∃ u : Nat, m = -(u : Int) ∧ 1 ≤ u ∧ u < 10000000000 ∧ X = bytesOf (Lib.decDigits u)) := fun m h1 h2 h3 => by
      have e := bytesOf_inj (h3.symm.trans hr)
      rcases itoa_head (m := m) with ⟨_, u, q1, q2, q3⟩ | ⟨_, u, q1, q2, q3⟩
      · refine ⟨u, q1, q2, by omega, ?_⟩
        rw [q3] at e
        rw [hXr]
        injection e with _ e
        rw [e]
      · exact absurd e (q3 r)
    clear hXr hr
    go_enter Tryd.func23, Tryd.ntmps23
    go_wp2_with fail
    rw [← hX]
    refine (l01Value_any X _ XS).mono ?_
    rintro e w1 ⟨v, b, rfl, ⟨v0, v1⟩, -, hv, hb⟩
    have B1 := Lib.hid hb
    have HV := Lib.hid hv
    have WN : IntKind.i64.wrap (-v) = -v := IntWalk.i64_in _ (by omega)
    clear hb hv hX
    cases b with
    | false =>
      have FIN : Hid (SigR s w (.returned (.tuple #[.int .i64 (-v), .bool false])) w1) := ⟨-v, false, rfl, by omega, by simp, fun m h1 h2 h3 => by
        obtain ⟨u, -, -, u3, u4⟩ := RR.out m h1 h2 h3
        exact absurd (HV.out u u3 u4).2 (by simp), B1.out⟩
      go_wp2
      go_ret2
      exact FIN.out
    | true =>
      have FIN : Hid (SigR s w (.returned (.tuple #[.int .i64 (-v), .bool (decide (0 < v))])) w1) := ⟨-v, decide (0 < v), rfl, by omega, fun _ => h0, fun m h1 h2 h3 => by
          obtain ⟨u, u1, u2, u3, u4⟩ := RR.out m h1 h2 h3
          have h5 := (HV.out u u3 u4).1
          exact ⟨by rw [h5, u1], decide_eq_true (by omega)⟩, B1.out⟩
      go_wp2
      go_ret2
      exact FIN.out
  · have CV := Lib.hid (l01Value_any s w hs)
    have RR : Hid (∀ m : Int, -1000000000 ≤ m → m ≤ 1000000000 → s = bytesOf (Lib.itoa m) → ∃ u : Nat, m = (u : Int) ∧ u < 10000000000 ∧ s = bytesOf (Lib.decDigits u)) := fun m h1 h2 h3 => by
      rcases itoa_head (m := m) with ⟨_, u, q1, q2, q3⟩ | ⟨_, u, q1, q2, q3⟩
      · exact absurd ⟨_, by rw [h3, q3]⟩ hm
      · exact ⟨u, q1, by omega, by rw [h3, q2]⟩
    have CONT : Hid (∀ e w', ValR s w e w' → SigR s w e w') := by
      rintro e w' ⟨v, b, h1, h2, h3, h4, h5⟩
      refine ⟨v, b, h1, by omega, h3, fun m m1 m2 m3 => ?_, h5⟩
      obtain ⟨u, rfl, u2, u3⟩ := RR.out m m1 m2 m3
      exact h4 u u2 u3
    by_cases h0 : 0 < s.size
    · have g0 : 0 < (s.size : Int) := by omega
      have b0 : ((((s[0]'h0).toNat : Nat) : Int) == 45) = false := by
        rw [beq_eq_false_iff_ne]
        intro e
        obtain ⟨r, hr⟩ := first_split h0
        have : s[0]'h0 = 45 := UInt8.toNat_inj.1 (by have e45 : (45 : UInt8).toNat = 45 := rfl
                                                     omega)
        rw [this] at hr
        exact hm ⟨r, hr⟩
      clear hm RR
      go_enter Tryd.func23, Tryd.ntmps23
      go_wp2_with fail
      refine CV.out.mono ?_
      intro e w1 h
      obtain ⟨v, b, rfl, k⟩ := CONT.out e w1 h
      have FIN : Hid (SigR s w (.returned (.tuple #[.int .i64 v, .bool b])) w1) := ⟨v, b, rfl, k⟩
      clear h k
      go_wp2
      go_ret2
      exact FIN.out
    · have g0 : ¬ (0 < (s.size : Int)) := by omega
      clear hm RR h0
      go_enter Tryd.func23, Tryd.ntmps23
      go_wp2_with fail
      refine CV.out.mono ?_
      intro e w1 h
      obtain ⟨v, b, rfl, k⟩ := CONT.out e w1 h
      have FIN : Hid (SigR s w (.returned (.tuple #[.int .i64 v, .bool b])) w1) := ⟨v, b, rfl, k⟩
      clear h k
      go_wp2
      go_ret2
      exact FIN.out
end Go.Proofs.YtfccmgnoebdlgaaDoor
