/-
  The walk of the law FnRatioText.
-/
import Derived.Test.YtfccmgnoebdlgaaDoorDrawRText
import Derived.Test.YtfccmgnoebdlgaaDoorRatRead5
import Derived.Test.YtfccmgnoebdlgaaDoorMathRMak
namespace Go.Proofs.YtfccmgnoebdlgaaDoor
open Go.RowKit

theorem rd_bytes (T : ByteArray) (w : World) (hT : T.size ≤ 50) (hr : Rd w) : Calls Tryd.prog 7 #[.string T] w (RdR T w) := implReadRatio_any T w (by omega) hr
theorem bytes_ne {T : ByteArray} (h : T.data.toList ≠ []) : (T.toList == []) = false := by
  rw [beq_eq_false_iff_ne]
  intro e
  have h2 := ByteArray.toList_eq (bs := T)
  exact h (by rw [← h2]; exact e)
set_option maxHeartbeats 16000000 in
set_option maxRecDepth 8000 in
theorem FnRatioText_core (A : Option Addr) (n c : Nat) (bs : Nat → Int) (w : World) (h : RowU w A n bs) (hr : Rd w) :
    Calls Tryd.prog 4 #[.slice A n c] w fun e w' => e = .returned (.bool true) ∧ Below w.heap.size w w' := by
  have HR := Lib.hid h
  have RD := Lib.hid hr
  clear h hr
  by_cases hn : 4096 < n
  · have D : Hid (decide (4096 < n) = true) := decide_eq_true hn
    go_enter Tryd.func4, Tryd.ntmps4
    go_wp2_with fail
    refine (big_any A n c _).mono ?_
    rintro e w1 ⟨rfl, rfl⟩
    rw [D.out]
    go_wp2
    go_ret
    exact ⟨rfl, Below.refl _ _⟩
  have D : Hid (decide (4096 < n) = false) := decide_eq_false hn
  have hn2 : n ≤ 1048576 := by omega
  clear hn
  go_enter Tryd.func4, Tryd.ntmps4
  go_wp2_with fail
  refine (big_any A n c _).mono ?_
  rintro e w1 ⟨rfl, rfl⟩
  rw [D.out]
  have BB := Lib.hid (Below.refl w.heap.size w)
  have HW : Hid (RowU w A n bs) := HR.out
  go_wp2_with fail
  refine (drawRT_any A n c bs _ (HW.out.below BB.out) hn2).mono ?_
  rintro e w2 ⟨p, q, rfl, hb⟩
  have RD := Lib.hid (RD.out.below hb)
  have BB := Lib.hid (BB.out.trans (hb.mono BB.out.size))
  clear hb
  have hb : Below w2.heap.size w2 (w2.alloc (.cells #[.int .i64 p, .int .i64 q] 23)) := (Below.refl _ _).alloc (Nat.le_refl _) _
  have RD := Lib.hid (RD.out.below hb)
  have BB := Lib.hid (BB.out.trans (hb.mono BB.out.size))
  have TA := Lib.hid (Two.alloc w2 23 p q)
  clear hb
  go_wp2_with fail
  refine (implRatioText_any p q _ RD.out.1).mono ?_
  rintro e w3 ⟨rfl, hb⟩
  have TA := Lib.hid (TA.out.below hb)
  have RD := Lib.hid (RD.out.below hb)
  have BB := Lib.hid (BB.out.trans (hb.mono BB.out.size))
  clear hb
  obtain ⟨T, hT⟩ : ∃ T, T = bytesOf (ratT p q) := ⟨_, rfl⟩
  have TT := Lib.hid hT
  rw [← hT]
  have TS : Hid (T.size ≤ 50) := by show _ ≤ _; rw [hT]; exact ratT_len p q
  clear hT
  go_wp2_with fail
  refine (rd_bytes T _ TS.out RD.out).mono ?_
  rintro e w4 ⟨x, y, ok, rfl, hg, hb⟩
  have TA := Lib.hid (TA.out.below hb)
  have RD := Lib.hid (RD.out.below hb)
  have BB := Lib.hid (BB.out.trans (hb.mono BB.out.size))
  have FT : Hid ((ok = true ∧ x = p ∧ y = q ∧ (T.toList == []) = false) ∨ (ok = false ∧ x = 0 ∧ y = 0 ∧ T = ⟨#[]⟩)) := by
    show _ ∨ _
    rw [TT.out, bytesOf_list] at hg
    cases hi : isR p q
    · have e0 : ratT p q = [] := by unfold ratT; rw [hi]; rfl
      rw [e0] at hg
      obtain ⟨g1, g2, g3⟩ := hg.empty
      exact .inr ⟨g1, g2, g3, by rw [TT.out, e0]; rfl⟩
    · obtain ⟨g1, g2, g3⟩ := hg.text hi
      exact .inl ⟨g1, g2, g3, bytes_ne (by rw [TT.out, bytesOf_list]; exact ratT_ne hi)⟩
  clear hg
  clear hb
  have hb : Below w4.heap.size w4 (w4.alloc (.cells #[.int .i64 x, .int .i64 y] 23)) := (Below.refl _ _).alloc (Nat.le_refl _) _
  have TA := Lib.hid (TA.out.below hb)
  have RD := Lib.hid (RD.out.below hb)
  have BB := Lib.hid (BB.out.trans (hb.mono BB.out.size))
  have TX := Lib.hid (Two.alloc w4 23 x y)
  clear hb
  go_wp2_with fail
  refine (drawRR_any A n c bs _ (HW.out.below BB.out) hn2).mono ?_
  rintro e w5 ⟨s, rfl, hs, hb⟩
  have TA := Lib.hid (TA.out.below hb)
  have TX := Lib.hid (TX.out.below hb)
  have RD := Lib.hid (RD.out.below hb)
  have BB := Lib.hid (BB.out.trans (hb.mono BB.out.size))
  clear hb
  go_wp2_with fail
  refine (implReadRatio_any s _ hs RD.out).mono ?_
  rintro e w6 ⟨u, v, one, rfl, hg, hb⟩
  have TA := Lib.hid (TA.out.below hb)
  have TX := Lib.hid (TX.out.below hb)
  have RD := Lib.hid (RD.out.below hb)
  have BB := Lib.hid (BB.out.trans (hb.mono BB.out.size))
  have GS := Lib.hid hg
  clear hg
  clear hb
  have hb : Below w6.heap.size w6 (w6.alloc (.cells #[.int .i64 u, .int .i64 v] 23)) := (Below.refl _ _).alloc (Nat.le_refl _) _
  have TA := Lib.hid (TA.out.below hb)
  have TX := Lib.hid (TX.out.below hb)
  have RD := Lib.hid (RD.out.below hb)
  have BB := Lib.hid (BB.out.trans (hb.mono BB.out.size))
  have TY := Lib.hid (Two.alloc w6 23 u v)
  clear hb
  go_wp2_with fail
  refine (specReadRatio_any s _ hs).mono ?_
  rintro e w7 ⟨u', v', two, rfl, hg, hb⟩
  have TA := Lib.hid (TA.out.below hb)
  have TX := Lib.hid (TX.out.below hb)
  have TY := Lib.hid (TY.out.below hb)
  have RD := Lib.hid (RD.out.below hb)
  have BB := Lib.hid (BB.out.trans (hb.mono BB.out.size))
  obtain ⟨e1, e2, e3⟩ := GS.out.same hg
  subst e1 e2 e3
  clear hg GS
  clear hb
  have hb : Below w7.heap.size w7 (w7.alloc (.cells #[.int .i64 u, .int .i64 v] 23)) := (Below.refl _ _).alloc (Nat.le_refl _) _
  have TA := Lib.hid (TA.out.below hb)
  have TX := Lib.hid (TX.out.below hb)
  have TY := Lib.hid (TY.out.below hb)
  have RD := Lib.hid (RD.out.below hb)
  have BB := Lib.hid (BB.out.trans (hb.mono BB.out.size))
  have TZ := Lib.hid (Two.alloc w7 23 u v)
  clear hb
  go_wp2_with fail
  refine (drawMR_any A n c bs _ (HW.out.below BB.out) hn2).mono ?_
  rintro e w8 ⟨num, den, rfl, ⟨m0, m1⟩, ⟨m2, m3⟩, hb⟩
  have TA := Lib.hid (TA.out.below hb)
  have TX := Lib.hid (TX.out.below hb)
  have TY := Lib.hid (TY.out.below hb)
  have TZ := Lib.hid (TZ.out.below hb)
  have RD := Lib.hid (RD.out.below hb)
  have BB := Lib.hid (BB.out.trans (hb.mono BB.out.size))
  obtain ⟨r1, r2, rc, hm⟩ : ∃ r1 r2 rc, makR num den = (r1, r2, rc) := ⟨_, _, _, rfl⟩
  have HM := Lib.hid hm
  have BD := makR_bd num den
  rw [hm] at BD
  have ML : Hid (rc = 0 → r1 * den = num * r2 ∧ isR r1 r2 = true) := fun h => by have := mak_law (n := num) (d := den) (by rw [hm]; exact h); rw [hm] at this; exact this
  have W1 : IntKind.i64.wrap (r1 * den) = r1 * den := mul_wrap (by have := BD.1; simp at this; omega) (by have := BD.2.1; simp at this; omega) m2 m3
  have W2 : IntKind.i64.wrap (num * r2) = num * r2 := mul_wrap m0 m1 (by have := BD.2.2.1; simp at this; omega) (by have := BD.2.2.2; simp at this; omega)
  have WW := Lib.hid (And.intro W1 W2)
  clear hm BD W1 W2 m0 m1 m2 m3
  clear hb
  go_wp2_with fail
  refine (implMakeRatio_any num den _).mono ?_
  rintro e w9 ⟨rfl, hb⟩
  have TA := Lib.hid (TA.out.below hb)
  have TX := Lib.hid (TX.out.below hb)
  have TY := Lib.hid (TY.out.below hb)
  have TZ := Lib.hid (TZ.out.below hb)
  have RD := Lib.hid (RD.out.below hb)
  have BB := Lib.hid (BB.out.trans (hb.mono BB.out.size))
  rw [HM.out]
  simp only [ratV]
  clear hb
  have hb : Below w9.heap.size w9 (w9.alloc (.cells #[.int .i64 r1, .int .i64 r2] 23)) := (Below.refl _ _).alloc (Nat.le_refl _) _
  have TA := Lib.hid (TA.out.below hb)
  have TX := Lib.hid (TX.out.below hb)
  have TY := Lib.hid (TY.out.below hb)
  have TZ := Lib.hid (TZ.out.below hb)
  have RD := Lib.hid (RD.out.below hb)
  have BB := Lib.hid (BB.out.trans (hb.mono BB.out.size))
  have TR := Lib.hid (Two.alloc w9 23 r1 r2)
  clear hb
  go_wp2_with fail
  refine (specMakeRatio_any num den _).mono ?_
  rintro e w10 ⟨rfl, hb⟩
  have TA := Lib.hid (TA.out.below hb)
  have TX := Lib.hid (TX.out.below hb)
  have TY := Lib.hid (TY.out.below hb)
  have TZ := Lib.hid (TZ.out.below hb)
  have TR := Lib.hid (TR.out.below hb)
  have RD := Lib.hid (RD.out.below hb)
  have BB := Lib.hid (BB.out.trans (hb.mono BB.out.size))
  rw [HM.out]
  simp only [ratV]
  clear hb
  have hb : Below w10.heap.size w10 (w10.alloc (.cells #[.int .i64 r1, .int .i64 r2] 23)) := (Below.refl _ _).alloc (Nat.le_refl _) _
  have TA := Lib.hid (TA.out.below hb)
  have TX := Lib.hid (TX.out.below hb)
  have TY := Lib.hid (TY.out.below hb)
  have TZ := Lib.hid (TZ.out.below hb)
  have TR := Lib.hid (TR.out.below hb)
  have RD := Lib.hid (RD.out.below hb)
  have BB := Lib.hid (BB.out.trans (hb.mono BB.out.size))
  have TM := Lib.hid (Two.alloc w10 23 r1 r2)
  clear hb
  go_wp2_with fail
  refine (drawGD_any A n c bs _ (HW.out.below BB.out) hn2).mono ?_
  rintro e w11 ⟨ga, gb, rfl, -, -, hb⟩
  have TA := Lib.hid (TA.out.below hb)
  have TX := Lib.hid (TX.out.below hb)
  have TY := Lib.hid (TY.out.below hb)
  have TZ := Lib.hid (TZ.out.below hb)
  have TR := Lib.hid (TR.out.below hb)
  have TM := Lib.hid (TM.out.below hb)
  have RD := Lib.hid (RD.out.below hb)
  have BB := Lib.hid (BB.out.trans (hb.mono BB.out.size))
  obtain ⟨g1, g2, hgd⟩ : ∃ g1 g2, gcdR ga gb = (g1, g2) := ⟨_, _, rfl⟩
  have HG := Lib.hid hgd
  clear hgd
  clear hb
  go_wp2_with fail
  refine (implGreatestDivisor_any ga gb _).mono ?_
  rintro e w12 ⟨rfl, k1, hw⟩
  have hb : Below w11.heap.size w11 w12 := by rw [hw]; exact below_drewN (Below.refl _ _) k1
  rw [HG.out]
  have TA := Lib.hid (TA.out.below hb)
  have TX := Lib.hid (TX.out.below hb)
  have TY := Lib.hid (TY.out.below hb)
  have TZ := Lib.hid (TZ.out.below hb)
  have TR := Lib.hid (TR.out.below hb)
  have TM := Lib.hid (TM.out.below hb)
  have RD := Lib.hid (RD.out.below hb)
  have BB := Lib.hid (BB.out.trans (hb.mono BB.out.size))
  clear hb hw
  go_wp2_with fail
  refine (specGreatestDivisor_any ga gb _).mono ?_
  rintro e w13 ⟨rfl, k2, hw⟩
  have hb : Below w12.heap.size w12 w13 := by rw [hw]; exact below_drewN (Below.refl _ _) k2
  rw [HG.out]
  have TA := Lib.hid (TA.out.below hb)
  have TX := Lib.hid (TX.out.below hb)
  have TY := Lib.hid (TY.out.below hb)
  have TZ := Lib.hid (TZ.out.below hb)
  have TR := Lib.hid (TR.out.below hb)
  have TM := Lib.hid (TM.out.below hb)
  have RD := Lib.hid (RD.out.below hb)
  have BB := Lib.hid (BB.out.trans (hb.mono BB.out.size))
  clear hb hw
  obtain ⟨bTA, hbTA⟩ : ∃ b, b = w2.heap.size := ⟨_, rfl⟩
  rw [← hbTA] at TA ⊢
  clear hbTA
  obtain ⟨bTX, hbTX⟩ : ∃ b, b = w4.heap.size := ⟨_, rfl⟩
  rw [← hbTX] at TX ⊢
  clear hbTX
  obtain ⟨bTY, hbTY⟩ : ∃ b, b = w6.heap.size := ⟨_, rfl⟩
  rw [← hbTY] at TY ⊢
  clear hbTY
  obtain ⟨bTZ, hbTZ⟩ : ∃ b, b = w7.heap.size := ⟨_, rfl⟩
  rw [← hbTZ] at TZ ⊢
  clear hbTZ
  obtain ⟨bTR, hbTR⟩ : ∃ b, b = w9.heap.size := ⟨_, rfl⟩
  rw [← hbTR] at TR ⊢
  clear hbTR
  obtain ⟨bTM, hbTM⟩ : ∃ b, b = w10.heap.size := ⟨_, rfl⟩
  rw [← hbTM] at TM ⊢
  clear hbTM
  obtain ⟨zTA, cTA, dTA, -, -⟩ := TA.out
  go_wp2_with fail
  refine (specRatioText_any p q _).mono ?_
  rintro e w14 ⟨rfl, hb⟩
  have TA := Lib.hid (TA.out.below hb)
  have TX := Lib.hid (TX.out.below hb)
  have TY := Lib.hid (TY.out.below hb)
  have TZ := Lib.hid (TZ.out.below hb)
  have TR := Lib.hid (TR.out.below hb)
  have TM := Lib.hid (TM.out.below hb)
  have RD := Lib.hid (RD.out.below hb)
  have BB := Lib.hid (BB.out.trans (hb.mono BB.out.size))
  rw [← TT.out]
  clear hb zTA cTA dTA
  obtain ⟨zTA, cTA, dTA, -, -⟩ := TA.out
  obtain ⟨zTX, cTX, dTX, -, -⟩ := TX.out
  obtain ⟨zTY, cTY, dTY, -, -⟩ := TY.out
  obtain ⟨zTZ, cTZ, dTZ, -, -⟩ := TZ.out
  obtain ⟨zTR, cTR, dTR, -, -⟩ := TR.out
  obtain ⟨zTM, cTM, dTM, -, -⟩ := TM.out
  clear RD HW HR TT TS zTA zTX zTY zTZ zTR zTM TA TX TY TZ TM
  have BF := Lib.hid BB.out
  rcases FT.out with ⟨rfl, rfl, rfl, ne⟩ | ⟨rfl, rfl, rfl, rfl⟩
  · clear FT
    by_cases hc : rc = 0
    · obtain ⟨q1, q2⟩ := ML.out hc
      obtain ⟨W1, W2⟩ := WW.out
      have b1 : (r1 * den == num * r2) = true := by rw [beq_iff_eq]; exact q1
      have Q2 := Lib.hid q2
      subst hc
      clear q1 q2 ML WW
      go_wp2_with fail
      refine (implIsRatio_any r1 r2 _).mono ?_
      rintro e w15 ⟨rfl, hb⟩
      rw [Q2.out]
      have B15 := Lib.hid (BF.out.trans (hb.mono BF.out.size))
      clear hb
      go_wp2
      go_ret
      exact ⟨rfl, B15.out⟩
    · have b1 : (rc != 0) = true := by simpa using hc
      clear hc ML WW
      go_wp2
      go_ret
      exact ⟨rfl, BF.out⟩
  · clear FT
    by_cases hc : rc = 0
    · obtain ⟨q1, q2⟩ := ML.out hc
      obtain ⟨W1, W2⟩ := WW.out
      have b1 : (r1 * den == num * r2) = true := by rw [beq_iff_eq]; exact q1
      have Q2 := Lib.hid q2
      subst hc
      clear q1 q2 ML WW
      go_wp2_with fail
      refine (implIsRatio_any r1 r2 _).mono ?_
      rintro e w15 ⟨rfl, hb⟩
      rw [Q2.out]
      have B15 := Lib.hid (BF.out.trans (hb.mono BF.out.size))
      clear hb
      go_wp2
      go_ret
      exact ⟨rfl, B15.out⟩
    · have b1 : (rc != 0) = true := by simpa using hc
      clear hc ML WW
      go_wp2
      go_ret
      exact ⟨rfl, BF.out⟩
theorem FnRatioText_walk (a : Option Addr) (len cap : Nat) (zs : List Int) {w : World} (h : IsRow .u8 w a len cap zs) (hr : Rd w) :
    Calls Tryd.prog 4 #[.slice a len cap] w fun e w' => e = .returned (.bool true) ∧ Below w.heap.size w w' := by
  obtain ⟨bs, hu⟩ := h.rowU
  exact FnRatioText_core a len cap bs w hu hr
end Go.Proofs.YtfccmgnoebdlgaaDoor
