/-
  The walk of the law FnLowValues.
-/
import Derived.Test.YtbhlghadjcbilaaDeuceVal
import Derived.Test.YtbhlghadjcbilaaDrawEight
import Derived.Test.YtbhlghadjcbilaaRoll
import Derived.Test.YtbhlghadjcbilaaTurned
import Derived.Deep.RegionLaw
namespace Go.Proofs.Ytbhlghadjcbilaa
open Go.RowKit

set_option maxHeartbeats 2000000 in
set_option maxRecDepth 8000 in
theorem FnLowValues_core (A : Option Addr) (n c : Nat) (bs : Nat → Int) (w : World) (h : RowU w A n bs) :
    Calls Try.prog 10 #[.slice A n c] w fun e w' => e = .returned (.bool true) ∧ Below w.heap.size w w' := by
  have HR := Lib.hid h
  clear h
  by_cases hn : 4096 < n
  · have D : Hid (decide (4096 < n) = true) := decide_eq_true hn
    go_enter Try.func10, Try.ntmps10
    go_wp2_with fail
    refine (big_any A n c _).mono ?_
    rintro e w1 ⟨rfl, rfl⟩
    rw [D.out]
    go_wp2
    go_ret
    exact ⟨rfl, Below.refl _ _⟩
  have D : Hid (decide (4096 < n) = false) := decide_eq_false hn
  have hn2 : n ≤ 1048576 := by omega
  obtain ⟨i0, hi, hz0, hz1, hz2⟩ := info_parts int_info
  have HI := Lib.hid (And.intro hi (And.intro hz0 (And.intro hz1 hz2)))
  clear hi hz0 hz1 hz2
  go_enter Try.func10, Try.ntmps10
  go_wp2_with fail
  refine (big_any A n c _).mono ?_
  rintro e w1 ⟨rfl, rfl⟩
  rw [D.out]
  go_wp2_with fail
  refine (drawAce_any A n c bs _ HR.out hn2).mono ?_
  rintro e w2 ⟨ys, A2, c2, rfl, hr, hl, hc, hm, hb⟩
  have Y2 := Lib.hid hr
  have B2 := Lib.hid hb
  have LC := Lib.hid (And.intro hc hm)
  have hl2 : ys.length ≤ 1048576 := by omega
  clear hr hb hc hm hl
  go_wp2_with fail
  refine (implAce_any A2 c2 ys _ Y2.out hl2).mono ?_
  rintro e w3 ⟨rfl, hb⟩
  have C3 := Lib.hid hb
  clear hb
  go_wp2_with fail
  refine (specAce_any A2 c2 ys _ (Y2.out.below C3.out) hl2).mono ?_
  rintro e w4 ⟨rfl, hb⟩
  have C4 := Lib.hid (C3.out.trans (hb.mono C3.out.size))
  clear hb
  go_wp2_with fail
  refine (implDeuce_any A2 c2 ys _ (Y2.out.below C4.out) hl2).mono ?_
  rintro e w5 ⟨rfl, hb⟩
  have C5 := Lib.hid (C4.out.trans (hb.mono C4.out.size))
  clear hb
  go_wp2_with fail
  refine (specDeuce_any A2 c2 ys _ (Y2.out.below C5.out) hl2).mono ?_
  rintro e w6 ⟨rfl, hb⟩
  have C6 := Lib.hid (C5.out.trans (hb.mono C5.out.size))
  have B6 := Lib.hid (B2.out.trans (C6.out.mono B2.out.size))
  clear hb
  go_wp2_with fail
  refine (drawEight_any A n c bs _ (HR.out.below B6.out) hn2).mono ?_
  rintro e w7 ⟨q, rfl, hb⟩
  have C9 := Lib.hid (C6.out.trans (hb.mono C6.out.size))
  have B9 := Lib.hid (B2.out.trans (C9.out.mono B2.out.size))
  clear hb
  obtain ⟨V, hV⟩ : ∃ V, V = acV ys := ⟨_, rfl⟩
  obtain ⟨C, hC⟩ : ∃ C, C = hvC ys := ⟨_, rfl⟩
  obtain ⟨K, hK⟩ : ∃ K, K = deV ys := ⟨_, rfl⟩
  have NM := Lib.hid (And.intro hV (And.intro hC hK))
  rw [← hV, ← hC, ← hK]
  clear hV hC hK
  go_wp2_with fail
  refine (implEight_any q _).mono ?_
  rintro e w8 ⟨rfl, rfl⟩
  go_wp2_with fail
  refine (specEight_any q _).mono ?_
  rintro e w8 ⟨rfl, rfl⟩
  by_cases hf : fiveP ys
  · have C0 : Hid (C = 0) := by rw [NM.out.2.1]; exact (five_yes hf).2.1
    have bC : (C != 0) = false := by rw [C0.out]; rfl
    have h5 : ys.length = 5 := by have := hf.1; have := hf.2.1; omega
    have HF := Lib.hid hf
    obtain ⟨b, off, rfl, hb5, _⟩ := Y2.out.at_ (k := 0) (by omega)
    have H5 := Lib.hid h5
    rw [h5]
    have cc : 5 ≤ c2 := by have := LC.out.1; omega
    clear hf h5 hb5
    go_wp2_with fail
    refine (roll_any A n c bs 501 _ (HR.out.below B9.out) hn2 (by omega) (by omega)).mono ?_
    rintro e w10 ⟨g, s, rfl, hg, hd, hb⟩
    have DI := Lib.hid hd
    have E10 := Lib.hid hb
    have HG := Lib.hid hg
    clear hd hb hg
    go_wp2_with fail
    refine (below_any g A n c s bs 5 _ DI.out hn2 (by omega) (by omega)).mono ?_
    rintro e w11 ⟨x, rfl, x0, x1, hgr⟩
    obtain ⟨m, rfl⟩ := Int.eq_ofNat_of_zero_le x0
    have hm5 : m < 5 := by omega
    have E11 := Lib.hid (E10.out.grown hgr E10.out.size (fun j e => by cases e; exact HG.out))
    have C11 := Lib.hid (C9.out.trans (E11.out.mono C9.out.size))
    have Y11 := Lib.hid (Y2.out.below C11.out)
    have B11 := Lib.hid (B9.out.trans (E11.out.mono B9.out.size))
    have hcut := Y11.out.cut (k := m) (cap := c2) (by rw [H5.out]; omega) (by rw [H5.out]; exact cc)
    rw [if_neg (by omega)] at hcut
    have TL := Lib.hid (show RowI w11 (some ⟨b, off + m, none⟩) (ys.drop m) by simpa [Go.WideShapes.add_plain] using hcut)
    have RF := Lib.hid (Y11.out.first m)
    have cne : ¬ c2 = m := by omega
    have OW0 : Hid (((w11.alloc (.cells #[] 2)).drew).ownsRow w11.heap.size 2 1 (.slice (some ⟨w11.heap.size, 0, none⟩) 0 0) 0 []) := (World.ownsRow_made w11 #[] 0 (Nat.le_refl _) (by decide) rfl).drew
    have RD0 : Hid (Reads ((w11.alloc (.cells #[] 2)).drew) (w11.heap.size + 1) 1 (some ⟨b, off + m, none⟩) (5 - m) ((ys.drop m).map (Value.int .i64))) := by
      have := (TL.out.below (((Below.refl w11.heap.size w11).alloc (Nat.le_refl _) (.cells #[] 2)).drew)).reads
      have e2 : ((w11.alloc (.cells #[] 2)).drew).heap.size = w11.heap.size + 1 := by simp
      rwa [List.length_drop, H5.out, e2] at this
    have BS0 : Hid (w11.heap.size ≤ ((w11.alloc (.cells #[] 2)).drew).heap.size) := by show _ ≤ _; simp
    have BD0 : Hid (0 + (5 - m) ≤ maxLen ∧ (0 + (5 - m)) * 8 ≤ 140737488355328 ∧ 0 + (5 - m) + m ≤ maxLen ∧ (0 + (5 - m) + m) * 8 ≤ 140737488355328) := by
      show _ ∧ _ ∧ _ ∧ _
      simp only [maxLen]; omega
    have TK : Hid ((ys.take m).length = m) := by show _ = _; rw [List.length_take, H5.out]; omega
    have m1 : (m : Int) ≤ 5 := by omega
    have m2 : (m : Int) ≤ (c2 : Int) := by omega
    have m3 : m ≤ c2 := by omega
    clear hgr hcut x1
    go_wp2
    go_region_law (first
      | ((refine step_append_any _ rfl (.tmp 75) (.tmp 78) 24 rfl w11.heap.size 2 i0 (.int .i64 0) 1 8 Try.underlying24 HI.out.1 HI.out.2.1 HI.out.2.2.1 HI.out.2.2.2 rfl (by decide) _ 0 [] rfl OW0.out (w11.heap.size + 1) _ (5 - m) _ ((ys.drop m).map (Value.int .i64)) rfl RD0.out (ints_one _) BD0.out.1 BD0.out.2.1 BS0.out ?_); intro v4 w4 hown4 hg4 hat4; have O4 := Lib.hid hown4; have G4 := Lib.hid (deal_g4 hg4); have V4 := Lib.hid (show ∀ j, v4.ownBlock = some j → w11.heap.size ≤ j from fun j e => (hown4.lt j e).1); have Z4 := Lib.hid (show w11.heap.size ≤ w4.heap.size from G4.out.size); have T4 := Lib.hid (RF.out.below G4.out).reads; rw [TK.out] at T4; clear hown4 hg4 hat4)
      | ((refine step_append_any _ rfl (.tmp 79) (.tmp 82) 24 rfl w11.heap.size 2 i0 (.int .i64 0) 1 8 Try.underlying24 HI.out.1 HI.out.2.1 HI.out.2.2.1 HI.out.2.2.2 rfl (by decide) _ (0 + (5 - m)) _ rfl O4.out w4.heap.size _ m _ ((ys.take m).map (Value.int .i64)) rfl T4.out (ints_one _) BD0.out.2.2.1 BD0.out.2.2.2 Z4.out ?_); intro v5 w12 hown5 hg5 hat5; have TN := Lib.hid (turned_of H5.out (Nat.le_of_lt hm5) (G4.out.grown hg5 Z4.out (fun j e => V4.out j e)) hown5); clear hown5 hg5 hat5))
    all_goals
      obtain ⟨ts, A12, c12, hv5, hT12, hpm, hb12⟩ := TN.out
      subst hv5
      have PM := Lib.hid hpm
      have HP := Lib.hid (And.intro (ace_perm PM.out HF.out) (And.intro (deuce_perm PM.out HF.out) (high_perm PM.out HF.out).2))
      have T12 := Lib.hid hT12
      have E12 := Lib.hid hb12
      have TLn : Hid (ts.length ≤ 1048576) := by show _ ≤ _; rw [← PM.out.length_eq]; exact hl2
      clear TN hT12 hb12 hpm
      go_wp2_with fail
      refine (implAce_any A12 c12 ts _ T12.out TLn.out).mono ?_
      rintro e w13 ⟨rfl, hb⟩
      have E13 := Lib.hid (E12.out.trans (hb.mono E12.out.size))
      have T13 := Lib.hid (T12.out.below hb)
      rw [HP.out.1, HP.out.2.2, ← NM.out.1]
      clear hb
      go_wp2_with fail
      refine (implDeuce_any A12 c12 ts _ T13.out TLn.out).mono ?_
      rintro e w14 ⟨rfl, hb⟩
      have E14 := Lib.hid (E13.out.trans (hb.mono E13.out.size))
      have B15 := Lib.hid (B11.out.trans (E14.out.mono B11.out.size))
      rw [HP.out.2.1, HP.out.2.2, ← NM.out.2.2]
      clear hb
      go_wp2
      go_ret
      exact ⟨rfl, B15.out⟩
  · have C0 : Hid (C = 1) := by rw [NM.out.2.1]; exact (five_no hf).2.1
    have bC : (C != 0) = true := by rw [C0.out]; rfl
    clear hf
    go_wp2
    go_ret
    exact ⟨rfl, B9.out⟩

theorem FnLowValues_walk (a : Option Addr) (len cap : Nat) (zs : List Int) {w : World} (h : IsRow .u8 w a len cap zs) :
    Calls Try.prog 10 #[.slice a len cap] w fun e w' => e = .returned (.bool true) ∧ Below w.heap.size w w' := by
  obtain ⟨bs, hr⟩ := h.rowU
  exact FnLowValues_core a len cap bs w hr
end Go.Proofs.Ytbhlghadjcbilaa
