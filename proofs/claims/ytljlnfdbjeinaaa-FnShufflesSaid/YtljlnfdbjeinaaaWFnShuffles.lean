/-
  The walk of the law FnShuffles.
-/
import Derived.Test.YtljlnfdbjeinaaaLike
import Derived.Test.YtljlnfdbjeinaaaDrawSeed
import Derived.Test.YtljlnfdbjeinaaaCutDeck
import Derived.Test.YtljlnfdbjeinaaaMathShuffles
namespace Go.Proofs.Ytljlnfdbjeinaaa
open Go.RowKit

theorem shL_len (s : Int) : (shL s).length ≤ 1048576 := by unfold shL; split <;> simp [shK_length]
theorem cutL_len (xs : List Int) (n : Int) (h : xs.length ≤ 1048) : (cutL xs n).length ≤ 1048576 := by unfold cutL; split <;> simp <;> omega

set_option maxHeartbeats 2000000 in
set_option maxRecDepth 8000 in
theorem FnShuffles_core (A : Option Addr) (n c : Nat) (bs : Nat → Int) (w : World) (h : RowU w A n bs) :
    Calls Try.prog 8 #[.slice A n c] w fun e w' => e = .returned (.bool true) ∧ Below w.heap.size w w' := by
  have HR := Lib.hid h
  clear h
  by_cases hn : 4096 < n
  · have D : Hid (decide (4096 < n) = true) := decide_eq_true hn
    go_enter Try.func8, Try.ntmps8
    go_wp2_with fail
    refine (big_any A n c _).mono ?_
    rintro e w1 ⟨rfl, rfl⟩
    rw [D.out]
    go_wp2
    go_ret
    exact ⟨rfl, Below.refl _ _⟩
  have D : Hid (decide (4096 < n) = false) := decide_eq_false hn
  have hn2 : n ≤ 1048576 := by omega
  go_enter Try.func8, Try.ntmps8
  go_wp2_with fail
  refine (big_any A n c _).mono ?_
  rintro e w1 ⟨rfl, rfl⟩
  rw [D.out]
  go_wp2_with fail
  refine (drawShuffled_any A n c bs _ HR.out hn2).mono ?_
  rintro e w2 ⟨s, rfl, s0, s1, hb⟩
  have B2 := Lib.hid hb
  clear hb
  go_wp2_with fail
  refine (implShuffled_any s _).mono ?_
  rintro e w3 ⟨A3, c3, rfl, ho, hb⟩
  have R3 := Lib.hid ho.row
  have B3 := Lib.hid (B2.out.trans (hb.mono B2.out.size))
  clear ho hb
  go_wp2_with fail
  refine (specShuffled_any s _).mono ?_
  rintro e w4 ⟨A4, c4, rfl, ho, hb⟩
  have M4 := Lib.hid ho.row
  have R4 := Lib.hid (R3.out.below hb)
  have B4 := Lib.hid (B3.out.trans (hb.mono B3.out.size))
  clear ho hb
  go_wp2_with fail
  refine (drawCut_any A n c bs _ (HR.out.below B4.out) hn2).mono ?_
  rintro e w5 ⟨d, A5, c5, m, rfl, m0, m1, hr, hl, hc, hm, hb⟩
  have D5 := Lib.hid hr
  have LC := Lib.hid (And.intro hc hm)
  have M5 := Lib.hid (M4.out.below hb)
  have R5 := Lib.hid (R4.out.below hb)
  have B5 := Lib.hid (B4.out.trans (hb.mono B4.out.size))
  have hld : d.length ≤ 1048576 := by omega
  have hld2 : d.length ≤ 1048 := by omega
  clear hr hb hc hm hl
  go_wp2_with fail
  refine (implCut_any A5 c5 d m _ D5.out LC.out.1 LC.out.2 hld).mono ?_
  rintro e w6 ⟨A6, c6, rfl, ho, hb⟩
  have C6 := Lib.hid ho
  have D6 := Lib.hid (D5.out.below hb)
  have M6 := Lib.hid (M5.out.below hb)
  have R6 := Lib.hid (R5.out.below hb)
  have B6 := Lib.hid (B5.out.trans (hb.mono B5.out.size))
  clear ho hb
  go_wp2_with fail
  refine (specCut_any A5 c5 d m _ D6.out LC.out.1 LC.out.2 hld).mono ?_
  rintro e w7 ⟨A7, c7, rfl, ho, hb⟩
  have V7 := Lib.hid ho.row
  have C7 := Lib.hid (C6.out.below hb)
  have D7 := Lib.hid (D6.out.below hb)
  have M7 := Lib.hid (M6.out.below hb)
  have R7 := Lib.hid (R6.out.below hb)
  have B7 := Lib.hid (B6.out.trans (hb.mono B6.out.size))
  clear ho hb
  go_wp2_with fail
  refine (drawNext_any A n c bs _ (HR.out.below B7.out) hn2).mono ?_
  rintro e w8 ⟨x, rfl, x0, x1, hb⟩
  have V8 := Lib.hid (V7.out.below hb)
  have C8 := Lib.hid (C7.out.below hb)
  have D8 := Lib.hid (D7.out.below hb)
  have M8 := Lib.hid (M7.out.below hb)
  have R8 := Lib.hid (R7.out.below hb)
  have B8 := Lib.hid (B7.out.trans (hb.mono B7.out.size))
  clear hb
  go_wp2_with fail
  refine (implNextSeed_any x _).mono ?_
  rintro e w9 ⟨rfl, rfl⟩
  go_wp2_with fail
  refine (specNextSeed_any x _).mono ?_
  rintro e w9 ⟨rfl, rfl⟩
  obtain ⟨kc, hkc⟩ : ∃ kc, kc = codeR d m := ⟨_, rfl⟩
  obtain ⟨ks, hks⟩ : ∃ ks, ks = shC s := ⟨_, rfl⟩
  obtain ⟨nk, hnk⟩ : ∃ nk, nk = (seedR x).2 := ⟨_, rfl⟩
  obtain ⟨nv, hnv⟩ : ∃ nv, nv = (seedR x).1 := ⟨_, rfl⟩
  have NX : Hid ((nk = 0 ∧ 1 ≤ nv ∧ nv ≤ 2147483646) ∨ nk = 2) := by
    show _ ∨ _
    rw [hnk, hnv]
    unfold seedR
    by_cases hx : 1 ≤ x ∧ x ≤ 2147483646
    · rw [if_pos hx]; exact .inl ⟨rfl, next_seed x hx.1 hx.2⟩
    · rw [if_neg hx]; exact .inr rfl
  have HKC := Lib.hid hkc
  have HKS := Lib.hid hks
  rw [← hkc, ← hks, ← hnk, ← hnv]
  clear hkc hks hnk hnv
  go_wp2_with fail
  refine (likeInts_same A3 A4 c3 c4 _ _ (shL s) (shL s) _ rfl rfl rfl R8.out M8.out (shL_len s)).mono ?_
  rintro e w10 ⟨rfl, hb⟩
  have V10 := Lib.hid (V8.out.below hb)
  have C10 := Lib.hid (C8.out.below hb)
  have D10 := Lib.hid (D8.out.below hb)
  have R10 := Lib.hid (R8.out.below hb)
  have B10 := Lib.hid (B8.out.trans (hb.mono B8.out.size))
  clear hb
  go_wp2_with fail
  refine (likeInts_same A6 A7 c6 c7 _ _ (cutL d m) (cutL d m) _ rfl rfl rfl C10.out.row V10.out (cutL_len d m hld2)).mono ?_
  rintro e w11 ⟨rfl, hb⟩
  have C11 := Lib.hid (C10.out.below hb)
  have D11 := Lib.hid (D10.out.below hb)
  have R11 := Lib.hid (R10.out.below hb)
  have B11 := Lib.hid (B10.out.trans (hb.mono B10.out.size))
  clear hb
  -- what follows the comparison
  have tailS : Hid (ks = 0 → deckB (shL s) = true) := by
    intro h
    have h2 := HKS.out
    rw [h] at h2
    unfold shC at h2
    by_cases hx : 1 ≤ s ∧ s ≤ 2147483646
    · unfold shL; rw [if_pos hx]; exact (deckB_iff _).2 (shK_deck s)
    · rw [if_neg hx] at h2; omega
  rcases NX.out with ⟨hk0, v0, v1⟩ | hk2
  all_goals
    first
      | (have bk : (nk == 0) = true := by rw [hk0]; rfl
         clear hk0)
      | (have bk : (nk == 0) = false := by rw [hk2]; rfl
         clear hk2)
    by_cases h0 : kc = 0
    · have K0 : Hid (codeR d m = 0) := by show codeR d m = 0; rw [← HKC.out]; exact h0
      obtain ⟨hd, g0, g1⟩ := codeR_ok K0.out
      have bc : (kc == 0) = true := by rw [h0]; rfl
      have CL : Hid (cutL d m = d.drop m.toNat ++ d.take m.toNat) := by show _ = _; unfold cutL; rw [if_pos K0.out]
      have HD := Lib.hid hd
      have hcd := cut_deck hd m.toNat
      have CK : Hid (codeR (cutL d m) (52 - m) = 0) := by
        show _ = _
        rw [CL.out]; unfold codeR; rw [if_pos ((deckB_iff _).2 hcd), if_pos (by omega)]
      have CB : Hid (cutL (cutL d m) (52 - m) = d) := by
        show _ = _
        have e : (52 - m).toNat = 52 - m.toNat := by omega
        unfold cutL at *
        rw [if_pos (by rw [if_pos K0.out]; have := CK.out; rw [if_pos K0.out] at this; exact this), if_pos K0.out, e]
        exact cut_back HD.out m.toNat
      have CC := Lib.hid C11.out.cap
      have LL : Hid ((cutL d m).length ≤ 1048576) := cutL_len d m hld2
      clear h0 hd hcd
      go_wp2_with fail
      refine (implCut_any A6 c6 (cutL d m) (52 - m) _ C11.out.row CC.out.1 CC.out.2 LL.out).mono ?_
      rintro e w12 ⟨A12, c12, rfl, ho, hb⟩
      have Y12 := Lib.hid ho.row
      rw [CB.out] at Y12
      rw [CB.out, CK.out]
      have D12 := Lib.hid (D11.out.below hb)
      have R12 := Lib.hid (R11.out.below hb)
      have B12 := Lib.hid (B11.out.trans (hb.mono B11.out.size))
      clear ho hb
      go_wp2_with fail
      refine (likeInts_same A12 A5 c12 c5 _ _ d d _ rfl rfl rfl Y12.out D12.out hld).mono ?_
      rintro e w13 ⟨rfl, hb⟩
      have R13 := Lib.hid (R12.out.below hb)
      have B13 := Lib.hid (B12.out.trans (hb.mono B12.out.size))
      clear hb
      by_cases hs : ks = 0
      · have TS := Lib.hid (tailS.out hs)
        have bs0 : (ks != 0) = false := by rw [hs]; rfl
        clear hs
        go_wp2_with fail
        refine (implIsDeck_any A3 c3 (shL s) _ R13.out (shL_len s)).mono ?_
        rintro e w14 ⟨rfl, hb⟩
        rw [TS.out]
        have B14 := Lib.hid (B13.out.trans (hb.mono B13.out.size))
        clear hb
        go_wp2
        go_ret
        exact ⟨rfl, B14.out⟩
      · have bs0 : (ks != 0) = true := by simpa using hs
        clear hs
        go_wp2
        go_ret
        exact ⟨rfl, B13.out⟩
    · have bc : (kc == 0) = false := by simpa using h0
      clear h0
      by_cases hs : ks = 0
      · have TS := Lib.hid (tailS.out hs)
        have bs0 : (ks != 0) = false := by rw [hs]; rfl
        clear hs
        go_wp2_with fail
        refine (implIsDeck_any A3 c3 (shL s) _ R11.out (shL_len s)).mono ?_
        rintro e w14 ⟨rfl, hb⟩
        rw [TS.out]
        have B14 := Lib.hid (B11.out.trans (hb.mono B11.out.size))
        clear hb
        go_wp2
        go_ret
        exact ⟨rfl, B14.out⟩
      · have bs0 : (ks != 0) = true := by simpa using hs
        clear hs
        go_wp2
        go_ret
        exact ⟨rfl, B11.out⟩

theorem FnShuffles_walk (a : Option Addr) (len cap : Nat) (zs : List Int) {w : World} (h : IsRow .u8 w a len cap zs) :
    Calls Try.prog 8 #[.slice a len cap] w fun e w' => e = .returned (.bool true) ∧ Below w.heap.size w w' := by
  obtain ⟨bs, hr⟩ := h.rowU
  exact FnShuffles_core a len cap bs w hr
end Go.Proofs.Ytljlnfdbjeinaaa
