/-
  The value of five cards in the reference.
-/
import Derived.Test.YtbhlghadjcbilaaDoorSpecVal
namespace Go.Proofs.YtbhlghadjcbilaaDoor
open Go.RowKit

theorem l04Value_any (A : Option Addr) (cp : Nat) (xs : List Int) (w : World) (h : RowI w A xs) (h5 : xs.length = 5) (hok : okC xs) :
    Calls Tryd.prog 19 #[.slice A xs.length cp] w fun e w' => e = .returned (.int .i64 (valS (cnt xs) (fluB xs) : Nat)) ∧ Below w.heap.size w w' := by
  have HR := Lib.hid h
  have HO := Lib.hid hok
  have H5 := Lib.hid h5
  obtain ⟨_, _, hk5, hk13⟩ := five_eq hok h5
  have K5 := Lib.hid hk5
  have K13 := Lib.hid hk13
  have hcat : catS (cnt xs) (fluB xs) ≤ 8 := by unfold catS; (repeat' split) <;> omega
  have hkv : kvN 0 (kickS (cnt xs)) < 371293 := by have := kv_range hk5 hk13 0; omega
  obtain ⟨K, hK⟩ : ∃ K, K = kvN 0 (kickS (cnt xs)) := ⟨_, rfl⟩
  obtain ⟨C, hC⟩ : ∃ C, C = catS (cnt xs) (fluB xs) := ⟨_, rfl⟩
  rw [← hK] at hkv
  rw [← hC] at hcat
  have R : Hid (valS (cnt xs) (fluB xs) = 371293 * C + K) := by show _ = _; unfold valS; rw [hC, hK]
  have HK := Lib.hid hK
  have HC := Lib.hid hC
  clear h hok h5 hk5 hk13 hK hC
  go_enter Tryd.func19, Tryd.ntmps19
  go_wp2_with fail
  refine (l04Category_any A cp xs _ HR.out H5.out HO.out).mono ?_
  rintro e w1 ⟨rfl, hb1⟩
  rw [← HC.out]
  have B1 := Lib.hid hb1
  clear hb1
  go_wp2_with fail
  refine (l04Kickers_any A cp xs _ (HR.out.below B1.out) (by have := H5.out; omega) HO.out).mono ?_
  rintro e w2 ⟨A2, c2, rfl, ho, hb2⟩
  have O2 := Lib.hid ho.row
  have B2 := Lib.hid (B1.out.trans (hb2.mono B1.out.size))
  rw [nI_length]
  clear ho hb2
  go_wp2_with fail
  refine (digits_any A2 c2 (kickS (cnt xs)) _ O2.out (by rw [K5.out]; omega) K13.out).mono ?_
  rintro e w3 ⟨rfl, rfl⟩
  rw [← HK.out]
  go_wp2
  go_ret
  exact ⟨ret_int (by rw [R.out]; omega), B2.out⟩

end Go.Proofs.YtbhlghadjcbilaaDoor
