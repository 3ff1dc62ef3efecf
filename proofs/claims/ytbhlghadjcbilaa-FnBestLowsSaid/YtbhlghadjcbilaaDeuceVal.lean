/-
  DeuceValue in the reference and in the program.
-/
import Derived.Test.YtbhlghadjcbilaaHighVal
namespace Go.Proofs.Ytbhlghadjcbilaa
open Go.RowKit

set_option maxHeartbeats 2000000 in
set_option maxRecDepth 8000 in
theorem l05Deuce_any (A : Option Addr) (cp : Nat) (xs : List Int) (w : World) (h : RowI w A xs) (h5 : xs.length = 5) (hok : okC xs) :
    Calls Try.prog 105 #[.slice A xs.length cp] w fun e w' => e = .returned (.int .i64 (deuS (cnt xs) (fluB xs) : Nat)) ∧ Below w.heap.size w w' := by
  have HR := Lib.hid h
  have HO := Lib.hid hok
  have H5 := Lib.hid h5
  have hl : xs.length ≤ 1048576 := by omega
  obtain ⟨c, hc⟩ : ∃ c, c = cnt xs := ⟨_, rfl⟩
  rw [← hc]
  have HCC := Lib.hid hc
  clear h hok hc h5
  obtain ⟨b0, off0, rfl, hb0, hx0⟩ := HR.out.at_ (k := 0) (by rw [H5.out]; omega)
  have hx2 := okC_getD HO.out (k := 0) (by rw [H5.out]; omega)
  obtain ⟨x, hx⟩ : ∃ x, x = xs.getD 0 0 := ⟨_, rfl⟩
  rw [← hx] at hx0 hx2
  rw [Nat.add_zero] at hx0
  obtain ⟨x0, x1⟩ := hx2
  obtain ⟨r, hr⟩ : ∃ r : Nat, x % 4 = (r : Int) := ⟨(x % 4).toNat, by omega⟩
  have FL : Hid (fluB xs = decide (sut xs r = 5)) := by show _ = _; unfold fluB; rw [← hx, hr]; rfl
  have hr4 : r < 4 := by omega
  have hx0H := Lib.hid (And.intro hb0 hx0)
  have hri := hr
  have r0 : x.tmod 4 = (r : Int) := by rw [Int.tmod_eq_emod_of_nonneg x0, hri]
  have r1 : (r : Int) < 4 := by omega
  have len2 : 0 < xs.length := by have := H5.out; omega
  clear hx hr hb0 hx0 hri
  go_enter Try.func105, Try.ntmps105
  go_wp2_with fail
  refine (l02RankCounts_any _ cp xs _ HR.out hl HO.out).mono ?_
  rintro e w1 ⟨A1, c1, rfl, ho, hb⟩
  have CN : Hid (IsCnt w1 A1 c) := by show IsCnt w1 A1 c; rw [HCC.out]; exact isCnt_of ho
  have B1 := Lib.hid hb
  rw [cntL_length]
  clear ho hb
  go_wp2_with fail
  refine (l04Straight_any A1 c1 c _ CN.out).mono ?_
  rintro e w2 ⟨rfl, rfl⟩
  have RW := Lib.hid (HR.out.below B1.out)
  by_cases hs : stS c = some 3
  · have e3 : stSI c = 3 := by unfold stSI; rw [hs]; rfl
    rw [e3]
    have R : Hid (deuS c (fluB xs) = 371293 * (if fluB xs = true then 5 else 0) + kvN 0 [12, 3, 2, 1, 0]) := by show _ = _; unfold deuS; rw [if_pos hs]
    have x0c : w1.cell? ⟨b0, off0, none⟩ = some (.int .i64 x) := (B1.out.cell (p := ⟨b0, off0, none⟩) hx0H.out.1).trans hx0H.out.2
    have HBsz : Hid (b0 < w1.heap.size) := Nat.lt_of_lt_of_le hx0H.out.1 B1.out.size
    obtain ⟨K, hK⟩ : ∃ K, K = kvN 0 [12, 3, 2, 1, 0] := ⟨_, rfl⟩
    have hK1 : K < 371293 := by rw [hK]; decide
    have HK := Lib.hid hK
    clear hs e3 hK
    go_wp2
    go_region_law (go_simp; go_at_call 130; refine (l02SuitCounts_any _ cp xs _ (RW.out.drewN 1) hl HO.out).mono ?_; rintro e w3 ⟨A3, c3, rfl, ho, hb⟩; obtain ⟨b3, off3, rfl, hb3, hc3⟩ := suit_row ho; have hcr := hc3 r hr4; have x3c : w3.cell? ⟨b0, off0, none⟩ = some (.int .i64 x) := (hb.cell (p := ⟨b0, off0, none⟩) HBsz.out).trans x0c; have B3 := Lib.hid hb; rw [cntL_length]; clear ho hb hb3 hc3)
    all_goals
      have eF : (((sut xs r : Nat) : Int) == 5) = fluB xs := by
        rw [FL.out, Bool.eq_iff_iff, beq_iff_eq, decide_eq_true_eq]; omega
      rw [eF]
      have BE := Lib.hid (B1.out.trans ((below_drewN (Below.refl _ _) 1).mono B1.out.size |>.trans (B3.out.mono B1.out.size)))
      obtain ⟨F, hF⟩ : ∃ F, F = fluB xs := ⟨_, rfl⟩
      rw [← hF]
      have HF := Lib.hid hF
      clear eF hF x3c hcr
      cases F
      all_goals
        go_wp2_with fail
        refine (digits_any _ _ [12, 3, 2, 1, 0] _ (rowI_new _ _ _ _ rfl) (by simp) (by decide)).mono ?_
        rintro e w4 ⟨rfl, rfl⟩
        rw [← HK.out]
        go_wp2
        go_ret
        exact ⟨ret_int (by rw [R.out, ← HF.out, ← HK.out]; simp), BE.out.alloc BE.out.size _⟩
  · obtain ⟨Z, hZ⟩ : ∃ Z, Z = stSI c := ⟨_, rfl⟩
    have e3 : (Z != 3) = true := by
      rw [hZ]
      refine bne_iff_ne.2 fun e => hs ?_
      unfold stSI at e
      cases hh : stS c
      · rw [hh] at e; simp at e
      · next u =>
        rw [hh] at e
        have : u = 3 := by simp at e; omega
        rw [this]
    rw [← hZ]
    have R : Hid (deuS c (fluB xs) = valS c (fluB xs)) := by show _ = _; unfold deuS; rw [if_neg hs]
    clear hs hZ
    go_wp2_with fail
    refine (l04Value_any _ cp xs _ RW.out H5.out HO.out).mono ?_
    rintro e w3 ⟨rfl, hb⟩
    have B3 := Lib.hid (B1.out.trans (hb.mono B1.out.size))
    rw [← HCC.out]
    clear hb
    go_wp2
    go_ret
    exact ⟨ret_int (by rw [R.out]), B3.out⟩

def deV (xs : List Int) : Int := if fiveP xs then ((deuS (cnt xs) (fluB xs) : Nat) : Int) else 0
theorem deV_yes {xs : List Int} (h : fiveP xs) : deV xs = ((deuS (cnt xs) (fluB xs) : Nat) : Int) ∧ hvC xs = 0 := ⟨by unfold deV; rw [if_pos h], (five_yes h).2.1⟩
theorem deV_no {xs : List Int} (h : ¬ fiveP xs) : deV xs = 0 ∧ hvC xs = 1 := ⟨by unfold deV; rw [if_neg h], (five_no h).2.1⟩

theorem specDeuce_any (A : Option Addr) (cp : Nat) (xs : List Int) (w : World) (h : RowI w A xs) (hl : xs.length ≤ 1048576) :
    Calls Try.prog 57 #[.slice A xs.length cp] w fun e w' => e = .returned (.tuple #[.int .i64 (deV xs), .int .i64 (hvC xs)]) ∧ Below w.heap.size w w' := by
  have HR := Lib.hid h
  clear h
  by_cases hf : fiveP xs
  · have D : Hid (decide (szP xs 5 5) = true) := decide_eq_true hf
    have R := Lib.hid (deV_yes hf)
    have HF := Lib.hid hf
    clear hf
    go_enter Try.func57, Try.ntmps57
    go_wp2_with fail
    refine (l04Sized_any A cp xs 5 5 _ _ _ rfl rfl HR.out hl).mono ?_
    rintro e w1 ⟨rfl, hb⟩
    rw [D.out]
    have B1 := Lib.hid hb
    clear hb
    go_wp2_with fail
    refine (l05Deuce_any A cp xs _ (HR.out.below B1.out) (by have := HF.out.1; have := HF.out.2.1; omega) HF.out.2.2).mono ?_
    rintro e w2 ⟨rfl, hb⟩
    have B2 := Lib.hid (B1.out.trans (hb.mono B1.out.size))
    clear hb
    go_wp2
    go_ret2
    exact ⟨by rw [R.out.1, R.out.2]; rfl, B2.out⟩
  · have D : Hid (decide (szP xs 5 5) = false) := decide_eq_false hf
    have R := Lib.hid (deV_no hf)
    clear hf
    go_enter Try.func57, Try.ntmps57
    go_wp2_with fail
    refine (l04Sized_any A cp xs 5 5 _ _ _ rfl rfl HR.out hl).mono ?_
    rintro e w1 ⟨rfl, hb⟩
    rw [D.out]
    have B1 := Lib.hid hb
    clear hb
    go_wp2
    go_ret2
    exact ⟨by rw [R.out.1, R.out.2]; rfl, B1.out⟩

theorem implDeuce_any (A : Option Addr) (cp : Nat) (xs : List Int) (w : World) (h : RowI w A xs) (hl : xs.length ≤ 1048576) :
    Calls Try.prog 56 #[.slice A xs.length cp] w fun e w' => e = .returned (.tuple #[.int .i64 (deV xs), .int .i64 (hvC xs)]) ∧ Below w.heap.size w w' := by
  have HR := Lib.hid h
  clear h
  by_cases h5 : xs.length = 5
  · have d5 : ((xs.length : Int) != 5) = false := by rw [h5]; rfl
    cases ha : areC xs
    · have R := Lib.hid (deV_no (fun h : fiveP xs => by have := areC_iff xs |>.2 h.2.2; rw [ha] at this; cases this))
      have HA := Lib.hid ha
      clear ha h5
      go_enter Try.func56, Try.ntmps56
      go_wp2_with fail
      refine (implAreCards_any A cp xs _ HR.out hl).mono ?_
      rintro e w1 ⟨rfl, rfl⟩
      rw [HA.out]
      go_wp2
      go_ret2
      exact ⟨by rw [R.out.1, R.out.2]; rfl, Below.refl _ _⟩
    · have hok := (areC_iff xs).1 ha
      have R := Lib.hid (deV_yes (show fiveP xs from ⟨by omega, by omega, hok⟩))
      have V := Lib.hid (five_eq hok h5).2.1
      have HO := Lib.hid hok
      have HA := Lib.hid ha
      have H5 := Lib.hid h5
      clear ha h5 hok
      go_enter Try.func56, Try.ntmps56
      go_wp2_with fail
      refine (implAreCards_any A cp xs _ HR.out hl).mono ?_
      rintro e w1 ⟨rfl, rfl⟩
      rw [HA.out]
      go_wp2_with fail
      refine (valueOf_any A cp xs false _ HR.out (by rw [H5.out]; omega) (by rw [H5.out]; omega) HO.out).mono ?_
      rintro e w2 ⟨rfl, hb⟩
      have B2 := Lib.hid hb
      rw [V.out]
      clear hb
      go_wp2
      go_ret2
      exact ⟨by rw [R.out.1, R.out.2]; rfl, B2.out⟩
  · have d5 : ((xs.length : Int) != 5) = true := by simp; omega
    have R := Lib.hid (deV_no (fun h : fiveP xs => h5 (by have := h.1; have := h.2.1; omega)))
    clear h5
    go_enter Try.func56, Try.ntmps56
    go_wp2
    go_ret2
    exact ⟨by rw [R.out.1, R.out.2]; rfl, Below.refl _ _⟩
end Go.Proofs.Ytbhlghadjcbilaa
