/-
  The best five and their value in the reference; the value of some cards in the program.
-/
import Derived.Test.YtbhlghadjcbilaaChoices
import Derived.Test.YtbhlghadjcbilaaMathBest
import Derived.Test.YtbhlghadjcbilaaHighVal
import Derived.Test.YtbhlghadjcbilaaCmp
namespace Go.Proofs.Ytbhlghadjcbilaa
open Go.RowKit

theorem vS_val {S : List Int} (ho : okC S) (h5 : S.length = 5) : ((valS (cnt S) (fluB S) : Nat) : Int) = (vS S : Nat) ∧ vS S ≤ 3341636 := by
  have e := (five_eq ho h5).1
  have b := (val_parts (xs := S) ⟨by omega, by omega, ho⟩).2.2
  unfold vS
  rw [e]
  exact ⟨rfl, b⟩
/-- A list and its value. -/
def GivesB (w : World) (S : List Int) (v : Int) (e : Ending) (w' : World) : Prop :=
  ∃ B d, e = .returned (.tuple #[.slice B S.length d, .int .i64 v]) ∧ OwnI w' w.heap.size B d S ∧ Below w.heap.size w w'

set_option maxHeartbeats 1000000 in
theorem l04Best_any (A : Option Addr) (c : Nat) (xs : List Int) (w : World) (h : RowI w A xs) (h5 : 5 ≤ xs.length) (h8 : xs.length ≤ 8) (hc : xs.length ≤ c) (hcm : c ≤ maxLen) (ho : okC xs) :
    Calls Try.prog 90 #[.slice A xs.length c] w (GivesB w (bf5 xs) ((Vx xs true : Nat) : Int)) := by
  have HR := Lib.hid h
  have HO := Lib.hid ho
  have H5 := Lib.hid h5
  have H8 := Lib.hid h8
  obtain ⟨cs, hcs⟩ : ∃ cs, cs = comb xs 5 := ⟨_, rfl⟩
  have CM : Hid (∀ j, j < cs.length → okC (cs.getD j []) ∧ (cs.getD j []).length = 5) := by
    intro j hj
    have hm : cs.getD j [] ∈ comb xs 5 := by rw [← hcs]; exact getD_mem hj
    exact ⟨comb_ok HO.out hm, comb_len hm⟩
  obtain ⟨N, hN⟩ : ∃ N, N = cs.length := ⟨_, rfl⟩
  have N256 : N ≤ 256 := by rw [hN, hcs]; exact comb_size8 _ h8
  have NE : Hid (cs ≠ []) := by show cs ≠ []; rw [hcs]; exact comb_some h5
  have CL := l04Choices_any 5 A c xs xs.length 5 w rfl rfl (by omega) h h8 hc hcm
  rw [← hcs] at CL
  have HCS := Lib.hid hcs
  have HCL := Lib.hid CL
  have HN := Lib.hid hN
  clear h ho h5 h8 hc hcm hcs CL hN
  go_enter Try.func90, Try.ntmps90
  go_wp2_with fail
  refine HCL.out.mono ?_
  rintro e w1 ⟨A1, c1, rfl, hL, _, hb⟩
  rw [← HN.out]
  have L1 := Lib.hid hL
  have B1 := Lib.hid hb
  clear hL hb
  go_wp2
  go_loopw [5, 6, 7, 8] (fun b v i _ wr => ∃ (m bb : Nat) (vv : Int), b = .int .i64 bb ∧ v = .int .i64 vv ∧ i = .int .i64 m ∧ m ≤ N ∧ Hid (bestAt vS cs m bb vv) ∧ Hid (Below w1.heap.size w1 wr))
    (fun _ _ i _ _ => N - (intOf i).toNat)
  case atStart => exact ⟨0, 0, -1, rfl, rfl, rfl, Nat.zero_le _, .inl ⟨rfl, rfl, rfl⟩, Below.refl _ _⟩
  case round =>
    obtain ⟨m, bb, vv, rfl, rfl, rfl, hm, BA, HB⟩ := hrel
    obtain ⟨v0, v1, b1⟩ := BA.out.bounds (fun j hj => by have := (vS_val (CM.out j hj).1 (CM.out j hj).2).2; omega) (by rw [← HN.out]; exact hm)
    by_cases hmn : m < N
    · have hmc : m < cs.length := by rw [← HN.out]; exact hmn
      obtain ⟨b, off, rfl, hb, B, d, hcell, hown⟩ := L1.out.at_ hmc
      obtain ⟨S, hS⟩ : ∃ S, S = cs.getD m [] := ⟨_, rfl⟩
      rw [← hS] at hcell hown
      have hok := CM.out m hmc
      rw [← hS] at hok
      have hcr : wr.cell? ⟨b, off + m, none⟩ = some (.slice B S.length d) := (HB.out.cell (p := ⟨b, off + m, none⟩) hb).trans hcell
      have OW := Lib.hid (hown.below HB.out)
      have HS := Lib.hid hS
      have OK := Lib.hid hok
      have VV := Lib.hid (vS_val hok.1 hok.2)
      obtain ⟨vn, hvn⟩ : ∃ vn, vn = vS S := ⟨_, rfl⟩
      have VN := Lib.hid hvn
      have vb : vn ≤ 3341636 := by rw [hvn]; exact VV.out.2
      clear hcell hown hS hok hb hvn
      by_cases hlt : vv < (vn : Int)
      · have NX : Hid (bestAt vS cs (m + 1) m ((vn : Nat) : Int)) := by rw [VN.out, HS.out]; exact BA.out.more (by rw [← HS.out, ← VN.out]; exact hlt)
        go_wp2_with fail
        refine (l04Value_any B d S _ OW.out.row OK.out.2 OK.out.1).mono ?_
        rintro e w2 ⟨rfl, hb2⟩
        rw [VV.out.1, ← VN.out]
        have HB2 := Lib.hid (HB.out.trans (hb2.mono HB.out.size))
        clear hb2
        go_wp2
        go_roundw
        case rel => exact ⟨m + 1, m, (vn : Int), rfl, rfl, by go_num, by omega, NX.out, HB2.out⟩
        case measure => simp [intOf]; omega
      · have hle : (vn : Int) ≤ vv := by omega
        have NX : Hid (bestAt vS cs (m + 1) bb vv) := BA.out.keep (by rw [← HS.out, ← VN.out]; exact hlt)
        clear hlt
        go_wp2_with fail
        refine (l04Value_any B d S _ OW.out.row OK.out.2 OK.out.1).mono ?_
        rintro e w2 ⟨rfl, hb2⟩
        rw [VV.out.1, ← VN.out]
        have HB2 := Lib.hid (HB.out.trans (hb2.mono HB.out.size))
        clear hb2
        go_wp2
        go_roundw
        case rel => exact ⟨m + 1, bb, vv, rfl, rfl, by go_num, by omega, NX.out, HB2.out⟩
        case measure => simp [intOf]; omega
    · have hmN : m = cs.length := by rw [← HN.out]; omega
      have EN := BA.out
      rw [hmN] at EN
      obtain ⟨hF, hv⟩ := EN.ends NE.out
      have hF' := hF
      rw [HCS.out] at hF'
      obtain ⟨f1, _, f3⟩ := best_facts HO.out H5.out H8.out hF'
      rw [← HCS.out] at f1 f3
      rw [f1] at hv
      have hbc := hF.1
      obtain ⟨b, off, rfl, hb, B, d, hcell, hown⟩ := L1.out.at_ hbc
      rw [← f3] at hcell hown
      have hbN : bb < N := by rw [HN.out]; exact hbc
      have hcr : wr.cell? ⟨b, off + bb, none⟩ = some (.slice B (bf5 xs).length d) := (HB.out.cell (p := ⟨b, off + bb, none⟩) hb).trans hcell
      have FIN : Hid (GivesB w (bf5 xs) ((Vx xs true : Nat) : Int) (.returned (.tuple #[.slice B (bf5 xs).length d, .int .i64 vv])) wr) := by
        rw [hv]
        exact ⟨B, d, rfl, (hown.below HB.out), B1.out.trans (HB.out.mono B1.out.size)⟩
      obtain ⟨bl, hbl⟩ : ∃ bl, bl = (bf5 xs).length := ⟨_, rfl⟩
      rw [← hbl] at hcr FIN
      clear EN hF hF' f1 f3 hv hbc hcell hown hmN hb hbl
      go_wp2
      go_ret2
      exact FIN.out

def bhV (xs : List Int) : Int := if szP xs 5 8 then ((Vx xs true : Nat) : Int) else 0
def bhC (xs : List Int) : Int := if szP xs 5 8 then 0 else 1
def bfL (xs : List Int) : List Int := if szP xs 5 8 then bf5 xs else []
theorem bh_yes {xs : List Int} (h : szP xs 5 8) : bhV xs = ((Vx xs true : Nat) : Int) ∧ bhC xs = 0 ∧ bfL xs = bf5 xs := by unfold bhV bhC bfL; rw [if_pos h, if_pos h, if_pos h]; exact ⟨rfl, rfl, rfl⟩
theorem bh_no {xs : List Int} (h : ¬ szP xs 5 8) : bhV xs = 0 ∧ bhC xs = 1 ∧ bfL xs = [] := by unfold bhV bhC bfL; rw [if_neg h, if_neg h, if_neg h]; exact ⟨rfl, rfl, rfl⟩

theorem specBestHigh_any (A : Option Addr) (c : Nat) (xs : List Int) (w : World) (h : RowI w A xs) (hc : xs.length ≤ c) (hcm : c ≤ maxLen) (hl : xs.length ≤ 1048576) :
    Calls Try.prog 29 #[.slice A xs.length c] w fun e w' => e = .returned (.tuple #[.int .i64 (bhV xs), .int .i64 (bhC xs)]) ∧ Below w.heap.size w w' := by
  have HR := Lib.hid h
  have HC := Lib.hid (And.intro hc hcm)
  clear h hc hcm
  by_cases hf : szP xs 5 8
  · have D : Hid (decide (szP xs 5 8) = true) := decide_eq_true hf
    have R := Lib.hid (bh_yes hf)
    have HF := Lib.hid hf
    clear hf
    go_enter Try.func29, Try.ntmps29
    go_wp2_with fail
    refine (l04Sized_any A c xs 5 8 _ _ _ rfl rfl HR.out hl).mono ?_
    rintro e w1 ⟨rfl, hb⟩
    rw [D.out]
    have B1 := Lib.hid hb
    clear hb
    go_wp2_with fail
    refine (l04Best_any A c xs _ (HR.out.below B1.out) HF.out.1 HF.out.2.1 HC.out.1 HC.out.2 HF.out.2.2).mono ?_
    rintro e w2 ⟨B, d, rfl, _, hb⟩
    have B2 := Lib.hid (B1.out.trans (hb.mono B1.out.size))
    clear hb
    go_wp2
    go_ret2
    exact ⟨by rw [R.out.1, R.out.2.1]; rfl, B2.out⟩
  · have D : Hid (decide (szP xs 5 8) = false) := decide_eq_false hf
    have R := Lib.hid (bh_no hf)
    clear hf
    go_enter Try.func29, Try.ntmps29
    go_wp2_with fail
    refine (l04Sized_any A c xs 5 8 _ _ _ rfl rfl HR.out hl).mono ?_
    rintro e w1 ⟨rfl, hb⟩
    rw [D.out]
    go_wp2
    go_ret2
    exact ⟨by rw [R.out.1, R.out.2.1]; rfl, hb⟩

theorem specBestFive_any (A : Option Addr) (c : Nat) (xs : List Int) (w : World) (h : RowI w A xs) (hc : xs.length ≤ c) (hcm : c ≤ maxLen) (hl : xs.length ≤ 1048576) :
    Calls Try.prog 37 #[.slice A xs.length c] w (GivesC w (bfL xs) (bhC xs)) := by
  have HR := Lib.hid h
  have HC := Lib.hid (And.intro hc hcm)
  clear h hc hcm
  by_cases hf : szP xs 5 8
  · have D : Hid (decide (szP xs 5 8) = true) := decide_eq_true hf
    have R := Lib.hid (bh_yes hf)
    have HF := Lib.hid hf
    clear hf
    go_enter Try.func37, Try.ntmps37
    go_wp2_with fail
    refine (l04Sized_any A c xs 5 8 _ _ _ rfl rfl HR.out hl).mono ?_
    rintro e w1 ⟨rfl, hb⟩
    rw [D.out]
    have B1 := Lib.hid hb
    clear hb
    go_wp2_with fail
    refine (l04Best_any A c xs _ (HR.out.below B1.out) HF.out.1 HF.out.2.1 HC.out.1 HC.out.2 HF.out.2.2).mono ?_
    rintro e w2 ⟨B, d, rfl, ho, hb⟩
    have B2 := Lib.hid (B1.out.trans (hb.mono B1.out.size))
    have O2 := Lib.hid ho
    clear hb ho
    go_wp2
    go_ret2
    exact ⟨B, d, by rw [R.out.2.1, R.out.2.2]; rfl, by rw [R.out.2.2]; exact O2.out.mono B1.out.size, B2.out⟩
  · have D : Hid (decide (szP xs 5 8) = false) := decide_eq_false hf
    have R := Lib.hid (bh_no hf)
    clear hf
    go_enter Try.func37, Try.ntmps37
    go_wp2_with fail
    refine (l04Sized_any A c xs 5 8 _ _ _ rfl rfl HR.out hl).mono ?_
    rintro e w1 ⟨rfl, hb⟩
    rw [D.out]
    go_wp2
    go_ret2
    exact ⟨none, 0, by rw [R.out.2.1, R.out.2.2]; rfl, by rw [R.out.2.2]; exact OwnI.nil_ _ _, hb⟩

/-! ### The program -/
theorem areSome_any (A : Option Addr) (cp : Nat) (xs : List Int) (w : World) (h : RowI w A xs) (hl : xs.length ≤ 1048576) :
    Calls Try.prog 91 #[.slice A xs.length cp] w fun e w' => e = .returned (.bool (decide (szP xs 5 8))) ∧ w = w' := by
  have HR := Lib.hid h
  clear h
  by_cases h1 : 5 ≤ xs.length
  · have d1 : decide ((5 : Int) ≤ (xs.length : Int)) = true := by simp; omega
    by_cases h2 : xs.length ≤ 8
    · have d2 : decide ((xs.length : Int) ≤ 8) = true := by simp; omega
      have R : Hid (decide (szP xs 5 8) = areC xs) := by
        show _ = _; unfold areC; rw [Bool.eq_iff_iff, decide_eq_true_eq, decide_eq_true_eq]
        exact ⟨fun h => h.2.2, fun h => ⟨h1, h2, h⟩⟩
      obtain ⟨bb, hbb⟩ : ∃ bb, bb = areC xs := ⟨_, rfl⟩
      have HB := Lib.hid hbb
      clear hbb
      go_enter Try.func91, Try.ntmps91
      go_wp2_with (go_at_call 73; refine (implAreCards_any A cp xs _ HR.out hl).mono ?_; rintro e w1 ⟨rfl, rfl⟩; rw [← HB.out])
      go_ret
      exact ⟨ret_bool (by rw [R.out, HB.out]), rfl⟩
    · have d2 : decide ((xs.length : Int) ≤ 8) = false := by simp; omega
      have R : Hid (decide (szP xs 5 8) = false) := decide_eq_false (fun h => h2 h.2.1)
      clear h1 h2
      go_enter Try.func91, Try.ntmps91
      go_wp2
      go_ret
      exact ⟨ret_bool R.out.symm, rfl⟩
  · have d1 : decide ((5 : Int) ≤ (xs.length : Int)) = false := by simp; omega
    have R : Hid (decide (szP xs 5 8) = false) := decide_eq_false (fun h => h1 h.1)
    clear h1
    go_enter Try.func91, Try.ntmps91
    go_wp2
    go_ret
    exact ⟨ret_bool R.out.symm, rfl⟩

theorem implBestHigh_any (A : Option Addr) (c : Nat) (xs : List Int) (w : World) (h : RowI w A xs) (hl : xs.length ≤ 1048576) :
    Calls Try.prog 31 #[.slice A xs.length c] w fun e w' => e = .returned (.tuple #[.int .i64 (bhV xs), .int .i64 (bhC xs)]) ∧ Below w.heap.size w w' := by
  have HR := Lib.hid h
  clear h
  by_cases hf : szP xs 5 8
  · have D : Hid (decide (szP xs 5 8) = true) := decide_eq_true hf
    have R := Lib.hid (bh_yes hf)
    have HF := Lib.hid hf
    clear hf
    go_enter Try.func31, Try.ntmps31
    go_wp2_with fail
    refine (areSome_any A c xs _ HR.out hl).mono ?_
    rintro e w1 ⟨rfl, rfl⟩
    rw [D.out]
    go_wp2_with fail
    refine (valueOf_any A c xs true _ HR.out HF.out.1 HF.out.2.1 HF.out.2.2).mono ?_
    rintro e w2 ⟨rfl, hb⟩
    have B2 := Lib.hid hb
    clear hb
    go_wp2
    go_ret2
    exact ⟨by rw [R.out.1, R.out.2.1]; rfl, B2.out⟩
  · have D : Hid (decide (szP xs 5 8) = false) := decide_eq_false hf
    have R := Lib.hid (bh_no hf)
    clear hf
    go_enter Try.func31, Try.ntmps31
    go_wp2_with fail
    refine (areSome_any A c xs _ HR.out hl).mono ?_
    rintro e w1 ⟨rfl, rfl⟩
    rw [D.out]
    go_wp2
    go_ret2
    exact ⟨by rw [R.out.1, R.out.2.1]; rfl, Below.refl _ _⟩

/-! ### Comparing two hands -/
def cpV (xs ys : List Int) : Int := if szP xs 5 8 ∧ szP ys 5 8 then cmI ((Vx xs true : Nat) : Int) ((Vx ys true : Nat) : Int) else 0
def cpC (xs ys : List Int) : Int := if szP xs 5 8 ∧ szP ys 5 8 then 0 else 1
theorem cp_yes {xs ys : List Int} (h : szP xs 5 8) (k : szP ys 5 8) : cpV xs ys = cmI ((Vx xs true : Nat) : Int) ((Vx ys true : Nat) : Int) ∧ cpC xs ys = 0 := by unfold cpV cpC; rw [if_pos ⟨h, k⟩, if_pos ⟨h, k⟩]; exact ⟨rfl, rfl⟩
theorem cp_no {xs ys : List Int} (h : ¬ (szP xs 5 8 ∧ szP ys 5 8)) : cpV xs ys = 0 ∧ cpC xs ys = 1 := by unfold cpV cpC; rw [if_neg h, if_neg h]; exact ⟨rfl, rfl⟩
set_option maxHeartbeats 1000000 in
theorem specCompare_any (A B : Option Addr) (c d : Nat) (xs ys : List Int) (w : World) (h : RowI w A xs) (k : RowI w B ys) (hc : xs.length ≤ c ∧ c ≤ maxLen) (hd : ys.length ≤ d ∧ d ≤ maxLen) (hl : xs.length ≤ 1048576) (hl2 : ys.length ≤ 1048576) :
    Calls Try.prog 33 #[.slice A xs.length c, .slice B ys.length d] w fun e w' => e = .returned (.tuple #[.int .i64 (cpV xs ys), .int .i64 (cpC xs ys)]) ∧ Below w.heap.size w w' := by
  have HR := Lib.hid h
  have HK := Lib.hid k
  have HC := Lib.hid (And.intro hc hd)
  clear h k hc hd
  by_cases hf : szP xs 5 8
  · have D : Hid (decide (szP xs 5 8) = true) := decide_eq_true hf
    by_cases hg : szP ys 5 8
    · have D2 : Hid (decide (szP ys 5 8) = true) := decide_eq_true hg
      have R := Lib.hid (cp_yes hf hg)
      have HF := Lib.hid hf
      have HG := Lib.hid hg
      clear hf hg
      go_enter Try.func33, Try.ntmps33
      go_wp2_with fail
      refine (l04Sized_any A c xs 5 8 _ _ _ rfl rfl HR.out hl).mono ?_
      rintro e w1 ⟨rfl, hb⟩
      rw [D.out]
      have B1 := Lib.hid hb
      clear hb
      go_wp2_with fail
      refine (l04Sized_any B d ys 5 8 _ _ _ rfl rfl (HK.out.below B1.out) hl2).mono ?_
      rintro e w2 ⟨rfl, hb⟩
      rw [D2.out]
      have B2 := Lib.hid (B1.out.trans (hb.mono B1.out.size))
      clear hb
      go_wp2_with fail
      refine (l04Best_any A c xs _ (HR.out.below B2.out) HF.out.1 HF.out.2.1 HC.out.1.1 HC.out.1.2 HF.out.2.2).mono ?_
      rintro e w3 ⟨B3', d3, rfl, _, hb⟩
      have B3 := Lib.hid (B2.out.trans (hb.mono B2.out.size))
      clear hb
      go_wp2_with fail
      refine (l04Best_any B d ys _ (HK.out.below B3.out) HG.out.1 HG.out.2.1 HC.out.2.1 HC.out.2.2 HG.out.2.2).mono ?_
      rintro e w4 ⟨B4', d4, rfl, _, hb⟩
      have B4 := Lib.hid (B3.out.trans (hb.mono B3.out.size))
      clear hb
      go_wp2_with fail
      refine (l04Order_any _ _ _).mono ?_
      rintro e w5 ⟨rfl, rfl⟩
      go_wp2
      go_ret2
      exact ⟨by rw [R.out.1, R.out.2]; rfl, B4.out⟩
    · have D2 : Hid (decide (szP ys 5 8) = false) := decide_eq_false hg
      have R := Lib.hid (cp_no (xs := xs) (ys := ys) (fun h => hg h.2))
      clear hf hg
      go_enter Try.func33, Try.ntmps33
      go_wp2_with fail
      refine (l04Sized_any A c xs 5 8 _ _ _ rfl rfl HR.out hl).mono ?_
      rintro e w1 ⟨rfl, hb⟩
      rw [D.out]
      have B1 := Lib.hid hb
      clear hb
      go_wp2_with fail
      refine (l04Sized_any B d ys 5 8 _ _ _ rfl rfl (HK.out.below B1.out) hl2).mono ?_
      rintro e w2 ⟨rfl, hb⟩
      rw [D2.out]
      have B2 := Lib.hid (B1.out.trans (hb.mono B1.out.size))
      clear hb
      go_wp2
      go_ret2
      exact ⟨by rw [R.out.1, R.out.2]; rfl, B2.out⟩
  · have D : Hid (decide (szP xs 5 8) = false) := decide_eq_false hf
    have R := Lib.hid (cp_no (xs := xs) (ys := ys) (fun h => hf h.1))
    clear hf
    go_enter Try.func33, Try.ntmps33
    go_wp2_with fail
    refine (l04Sized_any A c xs 5 8 _ _ _ rfl rfl HR.out hl).mono ?_
    rintro e w1 ⟨rfl, hb⟩
    rw [D.out]
    go_wp2
    go_ret2
    exact ⟨by rw [R.out.1, R.out.2]; rfl, hb⟩
set_option maxHeartbeats 1000000 in
theorem implCompare_any (A B : Option Addr) (c d : Nat) (xs ys : List Int) (w : World) (h : RowI w A xs) (k : RowI w B ys) (hl : xs.length ≤ 1048576) (hl2 : ys.length ≤ 1048576) :
    Calls Try.prog 34 #[.slice A xs.length c, .slice B ys.length d] w fun e w' => e = .returned (.tuple #[.int .i64 (cpV xs ys), .int .i64 (cpC xs ys)]) ∧ Below w.heap.size w w' := by
  have HR := Lib.hid h
  have HK := Lib.hid k
  clear h k
  by_cases hf : szP xs 5 8
  · have D : Hid (decide (szP xs 5 8) = true) := decide_eq_true hf
    by_cases hg : szP ys 5 8
    · have D2 : Hid (decide (szP ys 5 8) = true) := decide_eq_true hg
      have R := Lib.hid (cp_yes hf hg)
      have HF := Lib.hid hf
      have HG := Lib.hid hg
      clear hf hg
      go_enter Try.func34, Try.ntmps34
      go_wp2_with fail
      refine (areSome_any A c xs _ HR.out hl).mono ?_
      rintro e w1 ⟨rfl, rfl⟩
      rw [D.out]
      go_wp2_with fail
      refine (areSome_any B d ys _ HK.out hl2).mono ?_
      rintro e w2 ⟨rfl, rfl⟩
      rw [D2.out]
      go_wp2_with fail
      refine (valueOf_any A c xs true _ HR.out HF.out.1 HF.out.2.1 HF.out.2.2).mono ?_
      rintro e w3 ⟨rfl, hb⟩
      have B3 := Lib.hid hb
      clear hb
      go_wp2_with fail
      refine (valueOf_any B d ys true _ (HK.out.below B3.out) HG.out.1 HG.out.2.1 HG.out.2.2).mono ?_
      rintro e w4 ⟨rfl, hb⟩
      have B4 := Lib.hid (B3.out.trans (hb.mono B3.out.size))
      clear hb
      go_wp2_with fail
      refine (cmpc_any _ _ _).mono ?_
      rintro e w5 ⟨rfl, rfl⟩
      go_wp2
      go_ret2
      exact ⟨by rw [R.out.1, R.out.2]; rfl, B4.out⟩
    · have D2 : Hid (decide (szP ys 5 8) = false) := decide_eq_false hg
      have R := Lib.hid (cp_no (xs := xs) (ys := ys) (fun h => hg h.2))
      clear hf hg
      go_enter Try.func34, Try.ntmps34
      go_wp2_with fail
      refine (areSome_any A c xs _ HR.out hl).mono ?_
      rintro e w1 ⟨rfl, rfl⟩
      rw [D.out]
      go_wp2_with fail
      refine (areSome_any B d ys _ HK.out hl2).mono ?_
      rintro e w2 ⟨rfl, rfl⟩
      rw [D2.out]
      go_wp2
      go_ret2
      exact ⟨by rw [R.out.1, R.out.2]; rfl, Below.refl _ _⟩
  · have D : Hid (decide (szP xs 5 8) = false) := decide_eq_false hf
    have R := Lib.hid (cp_no (xs := xs) (ys := ys) (fun h => hf h.1))
    clear hf
    go_enter Try.func34, Try.ntmps34
    go_wp2_with fail
    refine (areSome_any A c xs _ HR.out hl).mono ?_
    rintro e w1 ⟨rfl, rfl⟩
    rw [D.out]
    go_wp2
    go_ret2
    exact ⟨by rw [R.out.1, R.out.2]; rfl, Below.refl _ _⟩
end Go.Proofs.Ytbhlghadjcbilaa
