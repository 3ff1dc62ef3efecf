/-
  The least ace-to-five and deuce-to-seven value of five of some cards, in the reference and in the program.
-/
import Derived.Test.YtbhlghadjcbilaaLeastOf
import Derived.Test.YtbhlghadjcbilaaBestHigh
import Derived.Test.YtbhlghadjcbilaaDeuceVal
import Derived.Test.YtbhlghadjcbilaaAceOf
namespace Go.Proofs.Ytbhlghadjcbilaa
open Go.RowKit

def fA (S : List Int) : Int := (aceN S : Nat)
def fD (S : List Int) : Int := (Vx S false : Nat)
theorem kv5_lt {ks : List Nat} (h5 : ks.length = 5) (h : ∀ d ∈ ks, d < 13) : kvN 0 ks < 371293 := by
  have := kv_range h5 h 0
  omega
theorem fA_bd {S : List Int} (h5 : S.length = 5) (ho : okC S) : 0 ≤ fA S ∧ fA S ≤ 100000000 := by
  have ht : total (lcnt S) = 5 := by rw [total_lcnt ho, h5]
  have hp : patS (lcnt S) ≤ 5 := pat_le (lcnt_le ho) ht
  obtain ⟨h1, h2⟩ := ord_len (lcnt_le ho) ht
  have := kv5_lt h1 h2
  unfold fA aceN
  omega
theorem fD_eq {S : List Int} (h5 : S.length = 5) (ho : okC S) : fD S = (deuS (cnt S) (fluB S) : Nat) := by
  unfold fD
  rw [(five_eq ho h5).2.1]
theorem fD_bd {S : List Int} (h5 : S.length = 5) (ho : okC S) : 0 ≤ fD S ∧ fD S ≤ 100000000 := by
  rw [fD_eq h5 ho]
  have b := (val_parts (xs := S) ⟨by omega, by omega, ho⟩).2.2
  unfold deuS
  split
  · have := kv5_lt (ks := [12, 3, 2, 1, 0]) rfl (by decide)
    split <;> omega
  · omega
theorem values_ace : Values5 96 fA := by
  intro B d S len W hlen hr h5 ho
  subst hlen
  exact aceValue_any B d S W hr h5 ho
theorem values_deuce : Values5 97 fD := by
  intro B d S len W hlen hr h5 ho
  subst hlen
  have HR := Lib.hid hr
  have HO := Lib.hid ho
  have H5 := Lib.hid h5
  clear hr ho h5
  go_enter Try.func97, Try.ntmps97
  go_wp2_with fail
  refine (valueOf_any B d S false _ HR.out (by rw [H5.out]; omega) (by rw [H5.out]; omega) HO.out).mono ?_
  rintro e w1 ⟨rfl, hb⟩
  have HB := Lib.hid hb
  clear hb
  go_wp2
  go_ret
  exact ⟨rfl, HB.out⟩

set_option maxHeartbeats 2000000 in
theorem l05Best_ace (A : Option Addr) (c : Nat) (xs : List Int) (w : World) (h : RowI w A xs) (h8 : xs.length ≤ 8) (hc : xs.length ≤ c) (hcm : c ≤ maxLen) (ho : okC xs) :
    Calls Try.prog 94 #[.slice A xs.length c, .bool false] w fun e w' => e = .returned (.int .i64 (leastF fA (comb xs 5))) ∧ Below w.heap.size w w' := by
  have HR := Lib.hid h
  have HO := Lib.hid ho
  obtain ⟨cs, hcs⟩ : ∃ cs, cs = comb xs 5 := ⟨_, rfl⟩
  have CM : Hid (∀ j, j < cs.length → okC (cs.getD j []) ∧ (cs.getD j []).length = 5) := by
    intro j hj
    have hm : cs.getD j [] ∈ comb xs 5 := by rw [← hcs]; exact getD_mem hj
    exact ⟨comb_ok HO.out hm, comb_len hm⟩
  have CB : Hid (∀ S ∈ cs, 0 ≤ fA S ∧ fA S ≤ 100000000) := by
    intro S hS
    rw [hcs] at hS
    exact fA_bd (comb_len hS) (comb_ok HO.out hS)
  obtain ⟨N, hN⟩ : ∃ N, N = cs.length := ⟨_, rfl⟩
  have N256 : N ≤ 256 := by rw [hN, hcs]; exact comb_size8 _ h8
  have CL := l04Choices_any 5 A c xs xs.length 5 w rfl rfl (by omega) h h8 hc hcm
  rw [← hcs] at CL ⊢
  have HCL := Lib.hid CL
  have HN := Lib.hid hN
  clear h ho h8 hc hcm hcs CL hN
  go_enter Try.func94, Try.ntmps94
  go_wp2_with fail
  refine HCL.out.mono ?_
  rintro e w1 ⟨A1, c1, rfl, hL, hlo, hb⟩
  clear hlo
  rw [← HN.out]
  have L1 := Lib.hid hL
  have B1 := Lib.hid hb
  clear hL hb
  go_wp2
  go_loopw [6, 7, 8] (fun b i _ wr => ∃ (m : Nat) (vv : Int), b = .int .i64 vv ∧ i = .int .i64 m ∧ m ≤ N ∧ Hid (vv = leastF fA (cs.take m)) ∧ Hid (Below w1.heap.size w1 wr))
    (fun _ i _ _ => N - (intOf i).toNat)
  case atStart => exact ⟨0, -1, rfl, rfl, Nat.zero_le _, rfl, Below.refl _ _⟩
  case round =>
    obtain ⟨m, vv, rfl, rfl, hm, VV, HB⟩ := hrel
    obtain ⟨v0, v1⟩ := leastF_bounds (f := fA) (M := 100000000) (by omega) _ (cs.take m) rfl (fun S hS => CB.out S (List.mem_of_mem_take hS))
    rw [← VV.out] at v0 v1
    by_cases hmn : m < N
    · have hmc : m < cs.length := by rw [← HN.out]; exact hmn
      obtain ⟨b, off, rfl, hb, B, d, hcell, hown⟩ := L1.out.at_ hmc
      obtain ⟨S, hS⟩ : ∃ S, S = cs.getD m [] := ⟨_, rfl⟩
      rw [← hS] at hcell hown
      have hok := CM.out m hmc
      rw [← hS] at hok
      have hcr : wr.cell? ⟨b, off + m, none⟩ = some (.slice B S.length d) := (HB.out.cell (p := ⟨b, off + m, none⟩) hb).trans hcell
      have hbr : b < wr.heap.size := Nat.lt_of_lt_of_le hb HB.out.size
      have OW := Lib.hid (hown.below HB.out)
      have OK := Lib.hid hok
      obtain ⟨vn, hvn⟩ : ∃ vn, vn = fA S := ⟨_, rfl⟩
      have vb := CB.out S (by rw [hS]; exact getD_mem hmc)
      rw [← hvn] at vb
      obtain ⟨vn0, vn1⟩ := vb
      have VA : Hid (((371293 * patS (lcnt S) + kvN 0 (ordS (lcnt S)) : Nat) : Int) = vn) := by show _ = _; rw [hvn]; rfl
      have NX : Hid ((if vv < 0 ∨ vn < vv then vn else vv) = leastF fA (cs.take (m + 1))) := by
        show _ = _
        rw [take_snocL hmc, leastF_snoc, ← VV.out, ← hS, ← hvn]
      clear hcell hown hS hok hb hvn VV
      by_cases h0 : vv < 0
      · have d0 : decide (vv < 0) = true := by simpa using h0
        rw [if_pos (Or.inl h0)] at NX
        go_wp2_with fail
        refine (l05Ace_any B d S _ OW.out.row OK.out.2 OK.out.1).mono ?_
        rintro e w2 ⟨rfl, hb2⟩
        have BA := Lib.hid hb2
        have HBA := Lib.hid (HB.out.trans (hb2.mono HB.out.size))
        clear hb2
        rw [VA.out]
        have HB2 := HBA
        go_wp2
        go_roundw
        case rel => exact ⟨m + 1, vn, rfl, by go_num, by omega, NX.out, HB2.out⟩
        case measure => simp [intOf]; omega
      · have d0 : decide (vv < 0) = false := by simpa using h0
        by_cases hlt : vn < vv
        · have d1 : decide (vn < vv) = true := by simpa using hlt
          rw [if_pos (Or.inr hlt)] at NX
          clear h0 hlt
          go_wp2_with fail
          refine (l05Ace_any B d S _ OW.out.row OK.out.2 OK.out.1).mono ?_
          rintro e w2 ⟨rfl, hb2⟩
          have BA := Lib.hid hb2
          have HBA := Lib.hid (HB.out.trans (hb2.mono HB.out.size))
          clear hb2
          rw [VA.out]
          have HB2 := HBA
          go_wp2
          go_roundw
          case rel => exact ⟨m + 1, vn, rfl, by go_num, by omega, NX.out, HB2.out⟩
          case measure => simp [intOf]; omega
        · have d1 : decide (vn < vv) = false := by simpa using hlt
          rw [if_neg (by omega)] at NX
          clear h0 hlt
          go_wp2_with fail
          refine (l05Ace_any B d S _ OW.out.row OK.out.2 OK.out.1).mono ?_
          rintro e w2 ⟨rfl, hb2⟩
          have BA := Lib.hid hb2
          have HBA := Lib.hid (HB.out.trans (hb2.mono HB.out.size))
          clear hb2
          rw [VA.out]
          have HB2 := HBA
          go_wp2
          go_roundw
          case rel => exact ⟨m + 1, vv, rfl, by go_num, by omega, NX.out, HB2.out⟩
          case measure => simp [intOf]; omega
    · have hmN : m = N := by omega
      have E : Hid (leastF fA cs = vv) := by
        show _ = _
        rw [VV.out, hmN, HN.out, List.take_length]
      have HBF := Lib.hid (B1.out.trans (HB.out.mono B1.out.size))
      clear VV hmN
      go_wp2
      go_ret
      exact ⟨ret_int E.out.symm, HBF.out⟩

set_option maxHeartbeats 2000000 in
theorem l05Best_deuce (A : Option Addr) (c : Nat) (xs : List Int) (w : World) (h : RowI w A xs) (h8 : xs.length ≤ 8) (hc : xs.length ≤ c) (hcm : c ≤ maxLen) (ho : okC xs) :
    Calls Try.prog 94 #[.slice A xs.length c, .bool true] w fun e w' => e = .returned (.int .i64 (leastF fD (comb xs 5))) ∧ Below w.heap.size w w' := by
  have HR := Lib.hid h
  have HO := Lib.hid ho
  obtain ⟨cs, hcs⟩ : ∃ cs, cs = comb xs 5 := ⟨_, rfl⟩
  have CM : Hid (∀ j, j < cs.length → okC (cs.getD j []) ∧ (cs.getD j []).length = 5) := by
    intro j hj
    have hm : cs.getD j [] ∈ comb xs 5 := by rw [← hcs]; exact getD_mem hj
    exact ⟨comb_ok HO.out hm, comb_len hm⟩
  have CB : Hid (∀ S ∈ cs, 0 ≤ fD S ∧ fD S ≤ 100000000) := by
    intro S hS
    rw [hcs] at hS
    exact fD_bd (comb_len hS) (comb_ok HO.out hS)
  obtain ⟨N, hN⟩ : ∃ N, N = cs.length := ⟨_, rfl⟩
  have N256 : N ≤ 256 := by rw [hN, hcs]; exact comb_size8 _ h8
  have CL := l04Choices_any 5 A c xs xs.length 5 w rfl rfl (by omega) h h8 hc hcm
  rw [← hcs] at CL ⊢
  have HCL := Lib.hid CL
  have HN := Lib.hid hN
  clear h ho h8 hc hcm hcs CL hN
  go_enter Try.func94, Try.ntmps94
  go_wp2_with fail
  refine HCL.out.mono ?_
  rintro e w1 ⟨A1, c1, rfl, hL, hlo, hb⟩
  clear hlo
  rw [← HN.out]
  have L1 := Lib.hid hL
  have B1 := Lib.hid hb
  clear hL hb
  go_wp2
  go_loopw [6, 7, 8] (fun b i _ wr => ∃ (m : Nat) (vv : Int), b = .int .i64 vv ∧ i = .int .i64 m ∧ m ≤ N ∧ Hid (vv = leastF fD (cs.take m)) ∧ Hid (Below w1.heap.size w1 wr))
    (fun _ i _ _ => N - (intOf i).toNat)
  case atStart => exact ⟨0, -1, rfl, rfl, Nat.zero_le _, rfl, Below.refl _ _⟩
  case round =>
    obtain ⟨m, vv, rfl, rfl, hm, VV, HB⟩ := hrel
    obtain ⟨v0, v1⟩ := leastF_bounds (f := fD) (M := 100000000) (by omega) _ (cs.take m) rfl (fun S hS => CB.out S (List.mem_of_mem_take hS))
    rw [← VV.out] at v0 v1
    by_cases hmn : m < N
    · have hmc : m < cs.length := by rw [← HN.out]; exact hmn
      obtain ⟨b, off, rfl, hb, B, d, hcell, hown⟩ := L1.out.at_ hmc
      obtain ⟨S, hS⟩ : ∃ S, S = cs.getD m [] := ⟨_, rfl⟩
      rw [← hS] at hcell hown
      have hok := CM.out m hmc
      rw [← hS] at hok
      have hcr : wr.cell? ⟨b, off + m, none⟩ = some (.slice B S.length d) := (HB.out.cell (p := ⟨b, off + m, none⟩) hb).trans hcell
      have hbr : b < wr.heap.size := Nat.lt_of_lt_of_le hb HB.out.size
      have OW := Lib.hid (hown.below HB.out)
      have OK := Lib.hid hok
      obtain ⟨vn, hvn⟩ : ∃ vn, vn = fD S := ⟨_, rfl⟩
      have vb := CB.out S (by rw [hS]; exact getD_mem hmc)
      rw [← hvn] at vb
      obtain ⟨vn0, vn1⟩ := vb
      have VD : Hid (((deuS (cnt S) (fluB S) : Nat) : Int) = vn) := by show _ = _; rw [hvn, fD_eq hok.2 hok.1]
      have NX : Hid ((if vv < 0 ∨ vn < vv then vn else vv) = leastF fD (cs.take (m + 1))) := by
        show _ = _
        rw [take_snocL hmc, leastF_snoc, ← VV.out, ← hS, ← hvn]
      clear hcell hown hS hok hb hvn VV
      by_cases h0 : vv < 0
      · have d0 : decide (vv < 0) = true := by simpa using h0
        rw [if_pos (Or.inl h0)] at NX
        go_wp2_with fail
        refine (l05Ace_any B d S _ OW.out.row OK.out.2 OK.out.1).mono ?_
        rintro e w2 ⟨rfl, hb2⟩
        have BA := Lib.hid hb2
        have hcr2 := (hb2.cell (p := ⟨b, off + m, none⟩) hbr).trans hcr
        have HBA := Lib.hid (HB.out.trans (hb2.mono HB.out.size))
        clear hb2
        go_wp2_with fail
        refine (l05Deuce_any B d S _ (OW.out.row.below BA.out) OK.out.2 OK.out.1).mono ?_
        rintro e w3 ⟨rfl, hb3⟩
        rw [VD.out]
        have HB2 := Lib.hid (HBA.out.trans (hb3.mono HBA.out.size))
        clear hb3
        go_wp2
        go_roundw
        case rel => exact ⟨m + 1, vn, rfl, by go_num, by omega, NX.out, HB2.out⟩
        case measure => simp [intOf]; omega
      · have d0 : decide (vv < 0) = false := by simpa using h0
        by_cases hlt : vn < vv
        · have d1 : decide (vn < vv) = true := by simpa using hlt
          rw [if_pos (Or.inr hlt)] at NX
          clear h0 hlt
          go_wp2_with fail
          refine (l05Ace_any B d S _ OW.out.row OK.out.2 OK.out.1).mono ?_
          rintro e w2 ⟨rfl, hb2⟩
          have BA := Lib.hid hb2
          have hcr2 := (hb2.cell (p := ⟨b, off + m, none⟩) hbr).trans hcr
          have HBA := Lib.hid (HB.out.trans (hb2.mono HB.out.size))
          clear hb2
          go_wp2_with fail
          refine (l05Deuce_any B d S _ (OW.out.row.below BA.out) OK.out.2 OK.out.1).mono ?_
          rintro e w3 ⟨rfl, hb3⟩
          rw [VD.out]
          have HB2 := Lib.hid (HBA.out.trans (hb3.mono HBA.out.size))
          clear hb3
          go_wp2
          go_roundw
          case rel => exact ⟨m + 1, vn, rfl, by go_num, by omega, NX.out, HB2.out⟩
          case measure => simp [intOf]; omega
        · have d1 : decide (vn < vv) = false := by simpa using hlt
          rw [if_neg (by omega)] at NX
          clear h0 hlt
          go_wp2_with fail
          refine (l05Ace_any B d S _ OW.out.row OK.out.2 OK.out.1).mono ?_
          rintro e w2 ⟨rfl, hb2⟩
          have BA := Lib.hid hb2
          have hcr2 := (hb2.cell (p := ⟨b, off + m, none⟩) hbr).trans hcr
          have HBA := Lib.hid (HB.out.trans (hb2.mono HB.out.size))
          clear hb2
          go_wp2_with fail
          refine (l05Deuce_any B d S _ (OW.out.row.below BA.out) OK.out.2 OK.out.1).mono ?_
          rintro e w3 ⟨rfl, hb3⟩
          rw [VD.out]
          have HB2 := Lib.hid (HBA.out.trans (hb3.mono HBA.out.size))
          clear hb3
          go_wp2
          go_roundw
          case rel => exact ⟨m + 1, vv, rfl, by go_num, by omega, NX.out, HB2.out⟩
          case measure => simp [intOf]; omega
    · have hmN : m = N := by omega
      have E : Hid (leastF fD cs = vv) := by
        show _ = _
        rw [VV.out, hmN, HN.out, List.take_length]
      have HBF := Lib.hid (B1.out.trans (HB.out.mono B1.out.size))
      clear VV hmN
      go_wp2
      go_ret
      exact ⟨ret_int E.out.symm, HBF.out⟩

def baV (xs : List Int) : Int := if szP xs 5 8 then leastF fA (comb xs 5) else 0
theorem ba_yes {xs : List Int} (h : szP xs 5 8) : baV xs = leastF fA (comb xs 5) ∧ bhC xs = 0 := ⟨by unfold baV; rw [if_pos h], (bh_yes h).2.1⟩
theorem ba_no {xs : List Int} (h : ¬ szP xs 5 8) : baV xs = 0 ∧ bhC xs = 1 := ⟨by unfold baV; rw [if_neg h], (bh_no h).2.1⟩
theorem specBestAce_any (A : Option Addr) (c : Nat) (xs : List Int) (w : World) (h : RowI w A xs) (hc : xs.length ≤ c) (hcm : c ≤ maxLen) (hl : xs.length ≤ 1048576) :
    Calls Try.prog 35 #[.slice A xs.length c] w fun e w' => e = .returned (.tuple #[.int .i64 (baV xs), .int .i64 (bhC xs)]) ∧ Below w.heap.size w w' := by
  have HR := Lib.hid h
  have HC := Lib.hid (And.intro hc hcm)
  clear h hc hcm
  by_cases hf : szP xs 5 8
  · have D : Hid (decide (szP xs 5 8) = true) := decide_eq_true hf
    have R := Lib.hid (ba_yes hf)
    have HF := Lib.hid hf
    clear hf
    go_enter Try.func35, Try.ntmps35
    go_wp2_with fail
    refine (l04Sized_any A c xs 5 8 _ _ _ rfl rfl HR.out hl).mono ?_
    rintro e w1 ⟨rfl, hb⟩
    rw [D.out]
    have B1 := Lib.hid hb
    clear hb
    go_wp2_with fail
    refine (l05Best_ace A c xs _ (HR.out.below B1.out) HF.out.2.1 HC.out.1 HC.out.2 HF.out.2.2).mono ?_
    rintro e w2 ⟨rfl, hb⟩
    rw [← R.out.1]
    have B2 := Lib.hid (B1.out.trans (hb.mono B1.out.size))
    clear hb
    go_wp2
    go_ret2
    exact ⟨by rw [R.out.2]; rfl, B2.out⟩
  · have D : Hid (decide (szP xs 5 8) = false) := decide_eq_false hf
    have R := Lib.hid (ba_no hf)
    clear hf
    go_enter Try.func35, Try.ntmps35
    go_wp2_with fail
    refine (l04Sized_any A c xs 5 8 _ _ _ rfl rfl HR.out hl).mono ?_
    rintro e w1 ⟨rfl, hb⟩
    rw [D.out]
    go_wp2
    go_ret2
    exact ⟨by rw [R.out.1, R.out.2]; rfl, hb⟩
theorem implBestAce_any (A : Option Addr) (c : Nat) (xs : List Int) (w : World) (h : RowI w A xs) (hl : xs.length ≤ 1048576) :
    Calls Try.prog 36 #[.slice A xs.length c] w fun e w' => e = .returned (.tuple #[.int .i64 (baV xs), .int .i64 (bhC xs)]) ∧ Below w.heap.size w w' := by
  have HR := Lib.hid h
  clear h
  by_cases hf : szP xs 5 8
  · have D : Hid (decide (szP xs 5 8) = true) := decide_eq_true hf
    have R := Lib.hid (ba_yes hf)
    have HF := Lib.hid hf
    clear hf
    go_enter Try.func36, Try.ntmps36
    go_wp2_with fail
    refine (areSome_any A c xs _ HR.out hl).mono ?_
    rintro e w1 ⟨rfl, rfl⟩
    rw [D.out]
    go_wp2_with fail
    refine (leastOf_ace A c xs _ _ fA values_ace (fun S => fA_bd) rfl HR.out HF.out.1 HF.out.2.1 HF.out.2.2).mono ?_
    rintro e w2 ⟨rfl, hb⟩
    rw [← R.out.1]
    have B2 := Lib.hid hb
    clear hb
    go_wp2
    go_ret2
    exact ⟨by rw [R.out.2]; rfl, B2.out⟩
  · have D : Hid (decide (szP xs 5 8) = false) := decide_eq_false hf
    have R := Lib.hid (ba_no hf)
    clear hf
    go_enter Try.func36, Try.ntmps36
    go_wp2_with fail
    refine (areSome_any A c xs _ HR.out hl).mono ?_
    rintro e w1 ⟨rfl, rfl⟩
    rw [D.out]
    go_wp2
    go_ret2
    exact ⟨by rw [R.out.1, R.out.2]; rfl, Below.refl _ _⟩

def bdV (xs : List Int) : Int := if szP xs 5 8 then leastF fD (comb xs 5) else 0
theorem bd_yes {xs : List Int} (h : szP xs 5 8) : bdV xs = leastF fD (comb xs 5) ∧ bhC xs = 0 := ⟨by unfold bdV; rw [if_pos h], (bh_yes h).2.1⟩
theorem bd_no {xs : List Int} (h : ¬ szP xs 5 8) : bdV xs = 0 ∧ bhC xs = 1 := ⟨by unfold bdV; rw [if_neg h], (bh_no h).2.1⟩
theorem specBestDeuce_any (A : Option Addr) (c : Nat) (xs : List Int) (w : World) (h : RowI w A xs) (hc : xs.length ≤ c) (hcm : c ≤ maxLen) (hl : xs.length ≤ 1048576) :
    Calls Try.prog 41 #[.slice A xs.length c] w fun e w' => e = .returned (.tuple #[.int .i64 (bdV xs), .int .i64 (bhC xs)]) ∧ Below w.heap.size w w' := by
  have HR := Lib.hid h
  have HC := Lib.hid (And.intro hc hcm)
  clear h hc hcm
  by_cases hf : szP xs 5 8
  · have D : Hid (decide (szP xs 5 8) = true) := decide_eq_true hf
    have R := Lib.hid (bd_yes hf)
    have HF := Lib.hid hf
    clear hf
    go_enter Try.func41, Try.ntmps41
    go_wp2_with fail
    refine (l04Sized_any A c xs 5 8 _ _ _ rfl rfl HR.out hl).mono ?_
    rintro e w1 ⟨rfl, hb⟩
    rw [D.out]
    have B1 := Lib.hid hb
    clear hb
    go_wp2_with fail
    refine (l05Best_deuce A c xs _ (HR.out.below B1.out) HF.out.2.1 HC.out.1 HC.out.2 HF.out.2.2).mono ?_
    rintro e w2 ⟨rfl, hb⟩
    rw [← R.out.1]
    have B2 := Lib.hid (B1.out.trans (hb.mono B1.out.size))
    clear hb
    go_wp2
    go_ret2
    exact ⟨by rw [R.out.2]; rfl, B2.out⟩
  · have D : Hid (decide (szP xs 5 8) = false) := decide_eq_false hf
    have R := Lib.hid (bd_no hf)
    clear hf
    go_enter Try.func41, Try.ntmps41
    go_wp2_with fail
    refine (l04Sized_any A c xs 5 8 _ _ _ rfl rfl HR.out hl).mono ?_
    rintro e w1 ⟨rfl, hb⟩
    rw [D.out]
    go_wp2
    go_ret2
    exact ⟨by rw [R.out.1, R.out.2]; rfl, hb⟩
theorem implBestDeuce_any (A : Option Addr) (c : Nat) (xs : List Int) (w : World) (h : RowI w A xs) (hl : xs.length ≤ 1048576) :
    Calls Try.prog 42 #[.slice A xs.length c] w fun e w' => e = .returned (.tuple #[.int .i64 (bdV xs), .int .i64 (bhC xs)]) ∧ Below w.heap.size w w' := by
  have HR := Lib.hid h
  clear h
  by_cases hf : szP xs 5 8
  · have D : Hid (decide (szP xs 5 8) = true) := decide_eq_true hf
    have R := Lib.hid (bd_yes hf)
    have HF := Lib.hid hf
    clear hf
    go_enter Try.func42, Try.ntmps42
    go_wp2_with fail
    refine (areSome_any A c xs _ HR.out hl).mono ?_
    rintro e w1 ⟨rfl, rfl⟩
    rw [D.out]
    go_wp2_with fail
    refine (leastOf_deuce A c xs _ _ fD values_deuce (fun S => fD_bd) rfl HR.out HF.out.1 HF.out.2.1 HF.out.2.2).mono ?_
    rintro e w2 ⟨rfl, hb⟩
    rw [← R.out.1]
    have B2 := Lib.hid hb
    clear hb
    go_wp2
    go_ret2
    exact ⟨by rw [R.out.2]; rfl, B2.out⟩
  · have D : Hid (decide (szP xs 5 8) = false) := decide_eq_false hf
    have R := Lib.hid (bd_no hf)
    clear hf
    go_enter Try.func42, Try.ntmps42
    go_wp2_with fail
    refine (areSome_any A c xs _ HR.out hl).mono ?_
    rintro e w1 ⟨rfl, rfl⟩
    rw [D.out]
    go_wp2
    go_ret2
    exact ⟨by rw [R.out.1, R.out.2]; rfl, Below.refl _ _⟩

end Go.Proofs.Ytbhlghadjcbilaa
