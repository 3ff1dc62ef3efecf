/-
  HighValue, CategoryOf, KickersOf and DeuceValue in the reference and in the program.
-/
import Derived.Test.YtbhlghadjcbilaaSpecVal
import Derived.Test.YtbhlghadjcbilaaValueOf
import Derived.Test.YtbhlghadjcbilaaParts
namespace Go.Proofs.Ytbhlghadjcbilaa
open Go.RowKit

theorem l04Value_any (A : Option Addr) (cp : Nat) (xs : List Int) (w : World) (h : RowI w A xs) (h5 : xs.length = 5) (hok : okC xs) :
    Calls Try.prog 99 #[.slice A xs.length cp] w fun e w' => e = .returned (.int .i64 (valS (cnt xs) (fluB xs) : Nat)) ∧ Below w.heap.size w w' := by
  have HR := Lib.hid h
  have HO := Lib.hid hok
  have H5 := Lib.hid h5
  obtain ⟨_, _, hk5, hk13⟩ := five_eq hok h5
  have K5 := Lib.hid hk5
  have K13 := Lib.hid hk13
  have hcat : catS (cnt xs) (fluB xs) ≤ 8 := by unfold catS; (repeat' split) <;> omega
  have hkv : kvN 0 (kickS (cnt xs)) < 371293 := by have := kv_range hk5 hk13 0; omega
  obtain ⟨K, hK⟩ : ∃ K, K = kvN 0 (kickS (cnt xs)) := ⟨_, rfl⟩
  obtain ⟨C, hC⟩ : ∃ C, C = catS (cnt xs) (fluB xs) := ⟨_, rfl⟩
  rw [← hK] at hkv
  rw [← hC] at hcat
  have R : Hid (valS (cnt xs) (fluB xs) = 371293 * C + K) := by show _ = _; unfold valS; rw [hC, hK]
  have HK := Lib.hid hK
  have HC := Lib.hid hC
  clear h hok h5 hk5 hk13 hK hC
  go_enter Try.func99, Try.ntmps99
  go_wp2_with fail
  refine (l04Category_any A cp xs _ HR.out H5.out HO.out).mono ?_
  rintro e w1 ⟨rfl, hb1⟩
  rw [← HC.out]
  have B1 := Lib.hid hb1
  clear hb1
  go_wp2_with fail
  refine (l04Kickers_any A cp xs _ (HR.out.below B1.out) (by have := H5.out; omega) HO.out).mono ?_
  rintro e w2 ⟨A2, c2, rfl, ho, hb2⟩
  have O2 := Lib.hid ho.row
  have B2 := Lib.hid (B1.out.trans (hb2.mono B1.out.size))
  rw [nI_length]
  clear ho hb2
  go_wp2_with fail
  refine (digits_any A2 c2 (kickS (cnt xs)) _ O2.out (by rw [K5.out]; omega) K13.out).mono ?_
  rintro e w3 ⟨rfl, rfl⟩
  rw [← HK.out]
  go_wp2
  go_ret
  exact ⟨ret_int (by rw [R.out]; omega), B2.out⟩

/-- So many cards as between two bounds. -/
def szP (xs : List Int) (lo hi : Nat) : Prop := lo ≤ xs.length ∧ xs.length ≤ hi ∧ okC xs
instance (xs : List Int) (lo hi : Nat) : Decidable (szP xs lo hi) := inferInstanceAs (Decidable (_ ∧ _))
theorem l04Sized_any (A : Option Addr) (cp : Nat) (xs : List Int) (lo hi : Nat) (l h' : Int) (w : World) (el : l = (lo : Int)) (eh : h' = (hi : Int)) (h : RowI w A xs) (hl : xs.length ≤ 1048576) :
    Calls Try.prog 69 #[.slice A xs.length cp, .int .i64 l, .int .i64 h'] w fun e w' => e = .returned (.bool (decide (szP xs lo hi))) ∧ Below w.heap.size w w' := by
  subst el eh
  have HR := Lib.hid h
  clear h
  by_cases h1 : lo ≤ xs.length
  · have d1 : decide (lo ≤ xs.length) = true := by simpa using h1
    by_cases h2 : xs.length ≤ hi
    · have d2 : decide (xs.length ≤ hi) = true := by simpa using h2
      have R : Hid (decide (szP xs lo hi) = areC xs) := by
        show _ = _; unfold areC; rw [Bool.eq_iff_iff, decide_eq_true_eq, decide_eq_true_eq]
        exact ⟨fun h => h.2.2, fun h => ⟨h1, h2, h⟩⟩
      clear h1 h2
      obtain ⟨bb, hbb⟩ : ∃ bb, bb = areC xs := ⟨_, rfl⟩
      have HB := Lib.hid hbb
      clear hbb
      go_enter Try.func69, Try.ntmps69
      go_wp2_with fail
      refine (specAreCards_any A cp xs _ HR.out hl).mono ?_
      rintro e w1 ⟨rfl, hb⟩
      rw [← HB.out]
      go_wp2
      go_ret
      exact ⟨ret_bool (by rw [R.out, HB.out]), hb⟩
    · have d2 : decide (xs.length ≤ hi) = false := by simpa using h2
      have R : Hid (decide (szP xs lo hi) = false) := decide_eq_false (fun h => h2 h.2.1)
      clear h1 h2
      go_enter Try.func69, Try.ntmps69
      go_wp2
      go_ret
      exact ⟨ret_bool R.out.symm, Below.refl _ _⟩
  · have d1 : decide (lo ≤ xs.length) = false := by simpa using h1
    have R : Hid (decide (szP xs lo hi) = false) := decide_eq_false (fun h => h1 h.1)
    clear h1
    go_enter Try.func69, Try.ntmps69
    go_wp2
    go_ret
    exact ⟨ret_bool R.out.symm, Below.refl _ _⟩

/-- Five cards. -/
def fiveP (xs : List Int) : Prop := szP xs 5 5
instance (xs : List Int) : Decidable (fiveP xs) := inferInstanceAs (Decidable (szP xs 5 5))
def hvV (xs : List Int) : Int := if fiveP xs then ((valS (cnt xs) (fluB xs) : Nat) : Int) else 0
def hvC (xs : List Int) : Int := if fiveP xs then 0 else 1
def caV (xs : List Int) : Int := if fiveP xs then ((catS (cnt xs) (fluB xs) : Nat) : Int) else 0
def kiL (xs : List Int) : List Int := if fiveP xs then nI (kickS (cnt xs)) else []
theorem five_no {xs : List Int} (h : ¬ fiveP xs) : hvV xs = 0 ∧ hvC xs = 1 ∧ caV xs = 0 ∧ kiL xs = [] := by unfold hvV hvC caV kiL; rw [if_neg h, if_neg h, if_neg h, if_neg h]; exact ⟨rfl, rfl, rfl, rfl⟩
theorem five_yes {xs : List Int} (h : fiveP xs) : hvV xs = ((valS (cnt xs) (fluB xs) : Nat) : Int) ∧ hvC xs = 0 ∧ caV xs = ((catS (cnt xs) (fluB xs) : Nat) : Int) ∧ kiL xs = nI (kickS (cnt xs)) := by
  unfold hvV hvC caV kiL; rw [if_pos h, if_pos h, if_pos h, if_pos h]; exact ⟨rfl, rfl, rfl, rfl⟩

theorem specHigh_any (A : Option Addr) (cp : Nat) (xs : List Int) (w : World) (h : RowI w A xs) (hl : xs.length ≤ 1048576) :
    Calls Try.prog 45 #[.slice A xs.length cp] w fun e w' => e = .returned (.tuple #[.int .i64 (hvV xs), .int .i64 (hvC xs)]) ∧ Below w.heap.size w w' := by
  have HR := Lib.hid h
  clear h
  by_cases hf : fiveP xs
  · have D : Hid (decide (szP xs 5 5) = true) := decide_eq_true hf
    have R := Lib.hid (five_yes hf)
    have HF := Lib.hid hf
    clear hf
    go_enter Try.func45, Try.ntmps45
    go_wp2_with fail
    refine (l04Sized_any A cp xs 5 5 _ _ _ rfl rfl HR.out hl).mono ?_
    rintro e w1 ⟨rfl, hb⟩
    rw [D.out]
    have B1 := Lib.hid hb
    clear hb
    go_wp2_with fail
    refine (l04Value_any A cp xs _ (HR.out.below B1.out) (by have := HF.out.1; have := HF.out.2.1; omega) HF.out.2.2).mono ?_
    rintro e w2 ⟨rfl, hb⟩
    have B2 := Lib.hid (B1.out.trans (hb.mono B1.out.size))
    clear hb
    go_wp2
    go_ret2
    exact ⟨by rw [R.out.1, R.out.2.1]; rfl, B2.out⟩
  · have D : Hid (decide (szP xs 5 5) = false) := decide_eq_false hf
    have R := Lib.hid (five_no hf)
    clear hf
    go_enter Try.func45, Try.ntmps45
    go_wp2_with fail
    refine (l04Sized_any A cp xs 5 5 _ _ _ rfl rfl HR.out hl).mono ?_
    rintro e w1 ⟨rfl, hb⟩
    rw [D.out]
    have B1 := Lib.hid hb
    clear hb
    go_wp2
    go_ret2
    exact ⟨by rw [R.out.1, R.out.2.1]; rfl, B1.out⟩

theorem specCat_any (A : Option Addr) (cp : Nat) (xs : List Int) (w : World) (h : RowI w A xs) (hl : xs.length ≤ 1048576) :
    Calls Try.prog 47 #[.slice A xs.length cp] w fun e w' => e = .returned (.tuple #[.int .i64 (caV xs), .int .i64 (hvC xs)]) ∧ Below w.heap.size w w' := by
  have HR := Lib.hid h
  clear h
  by_cases hf : fiveP xs
  · have D : Hid (decide (szP xs 5 5) = true) := decide_eq_true hf
    have R := Lib.hid (five_yes hf)
    have HF := Lib.hid hf
    clear hf
    go_enter Try.func47, Try.ntmps47
    go_wp2_with fail
    refine (l04Sized_any A cp xs 5 5 _ _ _ rfl rfl HR.out hl).mono ?_
    rintro e w1 ⟨rfl, hb⟩
    rw [D.out]
    have B1 := Lib.hid hb
    clear hb
    go_wp2_with fail
    refine (l04Category_any A cp xs _ (HR.out.below B1.out) (by have := HF.out.1; have := HF.out.2.1; omega) HF.out.2.2).mono ?_
    rintro e w2 ⟨rfl, hb⟩
    have B2 := Lib.hid (B1.out.trans (hb.mono B1.out.size))
    clear hb
    go_wp2
    go_ret2
    exact ⟨by rw [R.out.2.2.1, R.out.2.1]; rfl, B2.out⟩
  · have D : Hid (decide (szP xs 5 5) = false) := decide_eq_false hf
    have R := Lib.hid (five_no hf)
    clear hf
    go_enter Try.func47, Try.ntmps47
    go_wp2_with fail
    refine (l04Sized_any A cp xs 5 5 _ _ _ rfl rfl HR.out hl).mono ?_
    rintro e w1 ⟨rfl, hb⟩
    rw [D.out]
    have B1 := Lib.hid hb
    clear hb
    go_wp2
    go_ret2
    exact ⟨by rw [R.out.2.2.1, R.out.2.1]; rfl, B1.out⟩

theorem specKick_any (A : Option Addr) (cp : Nat) (xs : List Int) (w : World) (h : RowI w A xs) (hl : xs.length ≤ 1048576) :
    Calls Try.prog 49 #[.slice A xs.length cp] w (GivesC w (kiL xs) (hvC xs)) := by
  have HR := Lib.hid h
  clear h
  by_cases hf : fiveP xs
  · have D : Hid (decide (szP xs 5 5) = true) := decide_eq_true hf
    have R := Lib.hid (five_yes hf)
    have HF := Lib.hid hf
    clear hf
    go_enter Try.func49, Try.ntmps49
    go_wp2_with fail
    refine (l04Sized_any A cp xs 5 5 _ _ _ rfl rfl HR.out hl).mono ?_
    rintro e w1 ⟨rfl, hb⟩
    rw [D.out]
    have B1 := Lib.hid hb
    clear hb
    go_wp2_with fail
    refine (l04Kickers_any A cp xs _ (HR.out.below B1.out) hl HF.out.2.2).mono ?_
    rintro e w2 ⟨A2, c2, rfl, ho, hb⟩
    have O2 := Lib.hid ho
    have B2 := Lib.hid (B1.out.trans (hb.mono B1.out.size))
    clear ho hb
    go_wp2
    go_ret2
    exact ⟨A2, c2, by rw [R.out.2.2.2, R.out.2.1]; rfl, by rw [R.out.2.2.2]; exact O2.out.mono B1.out.size, B2.out⟩
  · have D : Hid (decide (szP xs 5 5) = false) := decide_eq_false hf
    have R := Lib.hid (five_no hf)
    clear hf
    go_enter Try.func49, Try.ntmps49
    go_wp2_with fail
    refine (l04Sized_any A cp xs 5 5 _ _ _ rfl rfl HR.out hl).mono ?_
    rintro e w1 ⟨rfl, hb⟩
    rw [D.out]
    have B1 := Lib.hid hb
    clear hb
    go_wp2
    go_ret2
    exact ⟨none, 0, by rw [R.out.2.2.2, R.out.2.1]; rfl, by rw [R.out.2.2.2]; exact OwnI.nil_ _ _, B1.out⟩

/-! ### The program -/
theorem implHigh_any (A : Option Addr) (cp : Nat) (xs : List Int) (w : World) (h : RowI w A xs) (hl : xs.length ≤ 1048576) :
    Calls Try.prog 44 #[.slice A xs.length cp] w fun e w' => e = .returned (.tuple #[.int .i64 (hvV xs), .int .i64 (hvC xs)]) ∧ Below w.heap.size w w' := by
  have HR := Lib.hid h
  clear h
  by_cases h5 : xs.length = 5
  · have d5 : ((xs.length : Int) != 5) = false := by rw [h5]; rfl
    cases ha : areC xs
    · have R := Lib.hid (five_no (fun h : fiveP xs => by have := areC_iff xs |>.2 h.2.2; rw [ha] at this; cases this))
      have HA := Lib.hid ha
      clear ha h5
      go_enter Try.func44, Try.ntmps44
      go_wp2_with fail
      refine (implAreCards_any A cp xs _ HR.out hl).mono ?_
      rintro e w1 ⟨rfl, rfl⟩
      rw [HA.out]
      go_wp2
      go_ret2
      exact ⟨by rw [R.out.1, R.out.2.1]; rfl, Below.refl _ _⟩
    · have hok := (areC_iff xs).1 ha
      have R := Lib.hid (five_yes (show fiveP xs from ⟨by omega, by omega, hok⟩))
      have V := Lib.hid (five_eq hok h5).1
      have HO := Lib.hid hok
      have HA := Lib.hid ha
      have H5 := Lib.hid h5
      clear ha h5 hok
      go_enter Try.func44, Try.ntmps44
      go_wp2_with fail
      refine (implAreCards_any A cp xs _ HR.out hl).mono ?_
      rintro e w1 ⟨rfl, rfl⟩
      rw [HA.out]
      go_wp2_with fail
      refine (valueOf_any A cp xs true _ HR.out (by rw [H5.out]; omega) (by rw [H5.out]; omega) HO.out).mono ?_
      rintro e w2 ⟨rfl, hb⟩
      have B2 := Lib.hid hb
      rw [V.out]
      clear hb
      go_wp2
      go_ret2
      exact ⟨by rw [R.out.1, R.out.2.1]; rfl, B2.out⟩
  · have d5 : ((xs.length : Int) != 5) = true := by simp; omega
    have R := Lib.hid (five_no (fun h : fiveP xs => h5 (by have := h.1; have := h.2.1; omega)))
    clear h5
    go_enter Try.func44, Try.ntmps44
    go_wp2
    go_ret2
    exact ⟨by rw [R.out.1, R.out.2.1]; rfl, Below.refl _ _⟩

theorem val_parts {xs : List Int} (hf : fiveP xs) : valS (cnt xs) (fluB xs) / 371293 = catS (cnt xs) (fluB xs) ∧ digs ((valS (cnt xs) (fluB xs) : Nat) : Int) = nI (kickS (cnt xs)) ∧ valS (cnt xs) (fluB xs) ≤ 3341636 := by
  obtain ⟨_, _, hk5, hk13⟩ := five_eq hf.2.2 (by have := hf.1; have := hf.2.1; omega)
  have hcat : catS (cnt xs) (fluB xs) ≤ 8 := by unfold catS; (repeat' split) <;> omega
  unfold valS
  generalize catS (cnt xs) (fluB xs) = C at hcat
  match h : kickS (cnt xs), hk5 with
  | [a, b, d, e, f], _ =>
    rw [h] at hk13
    have h1 := hk13 a (by simp); have h2 := hk13 b (by simp); have h3 := hk13 d (by simp); have h4 := hk13 e (by simp); have h5 := hk13 f (by simp)
    have hk : kvN 0 [a, b, d, e, f] = (((((0 * 13 + a) * 13 + b) * 13 + d) * 13 + e) * 13 + f) := rfl
    rw [hk]
    refine ⟨by omega, ?_, by omega⟩
    unfold digs nI
    simp only [vq, List.map_cons, List.map_nil, List.cons.injEq, and_true]
    refine ⟨by omega, by omega, by omega, by omega, by omega⟩

theorem implCat_any (A : Option Addr) (cp : Nat) (xs : List Int) (w : World) (h : RowI w A xs) (hl : xs.length ≤ 1048576) :
    Calls Try.prog 46 #[.slice A xs.length cp] w fun e w' => e = .returned (.tuple #[.int .i64 (caV xs), .int .i64 (hvC xs)]) ∧ Below w.heap.size w w' := by
  have HR := Lib.hid h
  have R : Hid (0 ≤ hvV xs ∧ hvV xs ≤ 3341636 ∧ hvV xs / 371293 = caV xs) := by
    show _ ∧ _ ∧ _
    by_cases hf : fiveP xs
    · obtain ⟨a, _, c, _⟩ := five_yes hf
      obtain ⟨p1, _, p3⟩ := val_parts hf
      rw [a, c]; omega
    · obtain ⟨a, _, c, _⟩ := five_no hf
      rw [a, c]; omega
  clear h
  obtain ⟨V, hV⟩ : ∃ V, V = hvV xs := ⟨_, rfl⟩
  have v0 : 0 ≤ V := by rw [hV]; exact R.out.1
  have v1 : V ≤ 3341636 := by rw [hV]; exact R.out.2.1
  have HV := Lib.hid hV
  clear hV
  go_enter Try.func46, Try.ntmps46
  go_wp2_with fail
  refine (implHigh_any A cp xs _ HR.out hl).mono ?_
  rintro e w1 ⟨rfl, hb⟩
  rw [← HV.out]
  go_wp2
  go_ret2
  exact ⟨by rw [← R.out.2.2, ← HV.out]; rfl, hb⟩

theorem implKick_any (A : Option Addr) (cp : Nat) (xs : List Int) (w : World) (h : RowI w A xs) (hl : xs.length ≤ 1048576) :
    Calls Try.prog 48 #[.slice A xs.length cp] w (GivesC w (kiL xs) (hvC xs)) := by
  have HR := Lib.hid h
  clear h
  by_cases hf : fiveP xs
  · have R := Lib.hid (five_yes hf)
    have P := Lib.hid (val_parts hf)
    clear hf
    obtain ⟨V, hV⟩ : ∃ V, V = hvV xs := ⟨_, rfl⟩
    have HV := Lib.hid hV
    have C : Hid (hvC xs = 0) := R.out.2.1
    clear hV
    go_enter Try.func48, Try.ntmps48
    go_wp2_with fail
    refine (implHigh_any A cp xs _ HR.out hl).mono ?_
    rintro e w1 ⟨rfl, hb⟩
    rw [← HV.out, C.out]
    have B1 := Lib.hid hb
    clear hb
    go_wp2_with fail
    refine (digitsOf_any V _ (by rw [HV.out, R.out.1]; omega) (by rw [HV.out, R.out.1]; have := P.out.2.2; omega)).mono ?_
    rintro e w2 ⟨A2, c2, rfl, ho, hb⟩
    have O2 := Lib.hid ho
    have B2 := Lib.hid (B1.out.trans (hb.mono B1.out.size))
    clear ho hb
    go_wp2
    go_ret2
    have E : digs V = kiL xs := by rw [HV.out, R.out.1, R.out.2.2.2]; exact P.out.2.1
    exact ⟨A2, c2, by rw [← E, C.out]; rfl, by rw [← E]; exact O2.out.mono B1.out.size, B2.out⟩
  · have R := Lib.hid (five_no hf)
    clear hf
    obtain ⟨V, hV⟩ : ∃ V, V = hvV xs := ⟨_, rfl⟩
    have HV := Lib.hid hV
    have C : Hid (hvC xs = 1) := R.out.2.1
    clear hV
    go_enter Try.func48, Try.ntmps48
    go_wp2_with fail
    refine (implHigh_any A cp xs _ HR.out hl).mono ?_
    rintro e w1 ⟨rfl, hb⟩
    rw [← HV.out, C.out]
    have B1 := Lib.hid hb
    clear hb
    go_wp2
    go_ret2
    exact ⟨none, 0, by rw [R.out.2.2.2, C.out]; rfl, by rw [R.out.2.2.2]; exact OwnI.nil_ _ _, B1.out⟩
end Go.Proofs.Ytbhlghadjcbilaa
