/-
  The walk of the law FnProducts.
-/
import Derived.Test.YtghgllpgiohlhaaDrawRatios
import Derived.Test.YtghgllpgiohlhaaRatDiv
namespace Go.Proofs.Ytghgllpgiohlhaa
open Go.RowKit

set_option maxHeartbeats 4000000 in
set_option maxRecDepth 100000 in
theorem FnProducts_core (A : Option Addr) (n c : Nat) (bs : Nat → Int) (w : World) (h : RowU w A n bs) :
    Calls Try.prog 4 #[.slice A n c] w fun e w' => e = .returned (.bool true) ∧ Below w.heap.size w w' := by
  have HR := Lib.hid h
  clear h
  by_cases hn : 4096 < n
  · have D : Hid (decide (4096 < n) = true) := decide_eq_true hn
    go_enter Try.func4, Try.ntmps4
    go_wp2_with fail
    refine (big_any A n c _).mono ?_
    rintro e w1 ⟨rfl, rfl⟩
    rw [D.out]
    go_wp2
    go_ret
    exact ⟨rfl, Below.refl _ _⟩
  have D : Hid (decide (4096 < n) = false) := decide_eq_false hn
  have hn2 : n ≤ 1048576 := by omega
  go_enter Try.func4, Try.ntmps4
  go_wp2_with fail
  refine (big_any A n c _).mono ?_
  rintro e w1 ⟨rfl, rfl⟩
  rw [D.out]
  go_wp2_with fail
  refine (drawMultiplyRatios_any A n c bs _ HR.out hn2).mono ?_
  rintro e w2 ⟨a1, b1, a2, b2, rfl, _, _, _, _, h0, h1, _, _, hb⟩
  have B2 := Lib.hid hb
  have HA := Lib.hid (And.intro h0 h1)
  clear hb h0 h1
  obtain ⟨x, y, k, hm⟩ : ∃ x y k, mulR a1 b1 a2 b2 = (x, y, k) := ⟨_, _, _, rfl⟩
  have HM := Lib.hid hm
  clear hm
  go_wp2_with fail
  refine (implMultiplyRatios_any a1 b1 a2 b2 _).mono ?_
  rintro e w3 ⟨rfl, hb⟩
  rw [HM.out]
  simp only [ratV]
  have T3a := Lib.hid (((Two.alloc w2 _ a1 b1).below ((Below.refl _ _).alloc (Nat.le_refl _) _)).below hb)
  have T3b := Lib.hid ((Two.alloc (w2.alloc _) _ a2 b2).below hb)
  have B3 := Lib.hid (((B2.out.alloc B2.out.size _).alloc (by simp; have := B2.out.size; omega) _).trans (hb.mono (by simp; have := B2.out.size; omega)))
  clear hb
  obtain ⟨za, ca0, ca1, fa0, fa1⟩ := T3a.out
  have T3b' : Hid (Two w3 (w2.heap.size + 1) a2 b2) := Lib.hid (by simpa using T3b.out)
  obtain ⟨zb, cb0, cb1, fb0, fb1⟩ := T3b'.out
  go_wp2_with fail
  refine (specMultiplyRatios_any a1 b1 a2 b2 _).mono ?_
  rintro e w4 ⟨rfl, hb⟩
  rw [HM.out]
  simp only [ratV]
  have T4a := Lib.hid ((T3a.out.below ((Below.refl _ _).alloc (Nat.le_refl _) _)).below hb)
  have T4b := Lib.hid ((T3b'.out.below ((Below.refl _ _).alloc (Nat.le_refl _) _)).below hb)
  have T4r := Lib.hid ((Two.alloc w3 _ x y).below hb)
  have B4 := Lib.hid ((B3.out.alloc B3.out.size _).trans (hb.mono (by simp; have := B3.out.size; omega)))
  clear hb za zb ca0 ca1 cb0 cb1 fa0 fa1 fb0 fb1 T3a T3b T3b'
  go_wp2_with fail
  refine (drawDivideRatios_any A n c bs _ (HR.out.below (B4.out.alloc B4.out.size _)) hn2).mono ?_
  rintro e w5 ⟨c1, d1, c2, d2, rfl, _, _, _, _, h0, h1, _, _, hb⟩
  have T5a := Lib.hid ((T4a.out.below ((Below.refl _ _).alloc (Nat.le_refl _) _)).below hb)
  have T5b := Lib.hid ((T4b.out.below ((Below.refl _ _).alloc (Nat.le_refl _) _)).below hb)
  have T5r := Lib.hid ((T4r.out.below ((Below.refl _ _).alloc (Nat.le_refl _) _)).below hb)
  have T5s := Lib.hid ((Two.alloc w4 _ x y).below hb)
  have B5 := Lib.hid ((B4.out.alloc B4.out.size _).trans (hb.mono (by simp; have := B4.out.size; omega)))
  have HC := Lib.hid (And.intro h0 h1)
  clear hb T4a T4b T4r h0 h1
  obtain ⟨x', y', k', hm⟩ : ∃ x y k, divR c1 d1 c2 d2 = (x, y, k) := ⟨_, _, _, rfl⟩
  have HS := Lib.hid hm
  clear hm
  go_wp2_with fail
  refine (implDivideRatios_any c1 d1 c2 d2 _).mono ?_
  rintro e w6 ⟨rfl, hb⟩
  rw [HS.out]
  simp only [ratV]
  have hal : Hid (Below w5.heap.size w5 ((w5.alloc (.cells #[.int .i64 c1, .int .i64 d1] 25)).alloc (.cells #[.int .i64 c2, .int .i64 d2] 25))) := ((Below.refl _ _).alloc (Nat.le_refl _) _).alloc (by simp) _
  have T6a := Lib.hid ((T5a.out.below hal.out).below hb)
  have T6b := Lib.hid ((T5b.out.below hal.out).below hb)
  have T6r := Lib.hid ((T5r.out.below hal.out).below hb)
  have T6s := Lib.hid ((T5s.out.below hal.out).below hb)
  have T6c := Lib.hid (((Two.alloc w5 _ c1 d1).below ((Below.refl _ _).alloc (Nat.le_refl _) _)).below hb)
  have T6d0 := Lib.hid ((Two.alloc (w5.alloc _) _ c2 d2).below hb)
  have T6d : Hid (Two w6 (w5.heap.size + 1) c2 d2) := Lib.hid (by simpa using T6d0.out)
  have B6 := Lib.hid (((B5.out.alloc B5.out.size _).alloc (by simp; have := B5.out.size; omega) _).trans (hb.mono (by simp; have := B5.out.size; omega)))
  clear hb T5a T5b T5r T5s T6d0 hal
  obtain ⟨za, ca0, ca1, fa0, fa1⟩ := T6c.out
  obtain ⟨zb, cb0, cb1, fb0, fb1⟩ := T6d.out
  go_wp2_with fail
  refine (specDivideRatios_any c1 d1 c2 d2 _).mono ?_
  rintro e w7 ⟨rfl, hb⟩
  rw [HS.out]
  simp only [ratV]
  have T7a := Lib.hid ((T6a.out.below ((Below.refl _ _).alloc (Nat.le_refl _) _)).below hb)
  have T7b := Lib.hid ((T6b.out.below ((Below.refl _ _).alloc (Nat.le_refl _) _)).below hb)
  have T7r := Lib.hid ((T6r.out.below ((Below.refl _ _).alloc (Nat.le_refl _) _)).below hb)
  have T7s := Lib.hid ((T6s.out.below ((Below.refl _ _).alloc (Nat.le_refl _) _)).below hb)
  have T7c := Lib.hid ((T6c.out.below ((Below.refl _ _).alloc (Nat.le_refl _) _)).below hb)
  have T7d := Lib.hid ((T6d.out.below ((Below.refl _ _).alloc (Nat.le_refl _) _)).below hb)
  have T7y := Lib.hid ((Two.alloc w6 _ x' y').below hb)
  have B7 := Lib.hid ((B6.out.alloc B6.out.size _).trans (hb.mono (by simp; have := B6.out.size; omega)))
  clear hb za zb ca0 ca1 cb0 cb1 fa0 fa1 fb0 fb1 T6a T6b T6r T6s T6c T6d
  obtain ⟨W, hW⟩ : ∃ W, W = w7.alloc (.cells #[.int .i64 x', .int .i64 y'] 25) := ⟨_, rfl⟩
  have T8a : Hid (Two W w2.heap.size a1 b1) := by rw [hW]; exact T7a.out.below ((Below.refl _ _).alloc (Nat.le_refl _) _)
  have T8b : Hid (Two W (w2.heap.size + 1) a2 b2) := by rw [hW]; exact T7b.out.below ((Below.refl _ _).alloc (Nat.le_refl _) _)
  have T8r : Hid (Two W w3.heap.size x y) := by rw [hW]; exact T7r.out.below ((Below.refl _ _).alloc (Nat.le_refl _) _)
  have T8s : Hid (Two W w4.heap.size x y) := by rw [hW]; exact T7s.out.below ((Below.refl _ _).alloc (Nat.le_refl _) _)
  have T8y : Hid (Two W w6.heap.size x' y') := by rw [hW]; exact T7y.out.below ((Below.refl _ _).alloc (Nat.le_refl _) _)
  have T8z : Hid (Two W w7.heap.size x' y') := by rw [hW]; exact Two.alloc w7 _ x' y'
  have B8 : Hid (Below w.heap.size w W) := by rw [hW]; exact B7.out.alloc B7.out.size _
  have HW := Lib.hid hW
  clear hW B6 B5 B4 B3 B2
  obtain ⟨za, aa0, aa1, af0, af1⟩ := T7a.out
  obtain ⟨zb, bb0, bb1, bf0, bf1⟩ := T7b.out
  go_wp2_with fail
  rw [← HW.out]
  obtain ⟨o, kc, hcmp⟩ : ∃ o kc, cmpR a1 b1 a2 b2 = (o, kc) := ⟨_, _, rfl⟩
  have HO := Lib.hid hcmp
  clear hcmp
  refine (implCompareRatios_any a1 b1 a2 b2 _).mono ?_
  rintro e w8 ⟨rfl, hb⟩
  rw [HO.out]
  simp only
  have T9a := Lib.hid (T8a.out.below hb)
  have T9b := Lib.hid (T8b.out.below hb)
  have T9r := Lib.hid (T8r.out.below hb)
  have T9s := Lib.hid (T8s.out.below hb)
  have T9y := Lib.hid (T8y.out.below hb)
  have T9z := Lib.hid (T8z.out.below hb)
  have B9 := Lib.hid (B8.out.trans (hb.mono B8.out.size))
  clear hb HW T7a T7b T7r T7s T7c T7d T7y B7 T8a T8b T8r T8s T8y T8z B8 za aa0 aa1 af0 af1 zb bb0 bb1 bf0 bf1
  obtain ⟨za, aa0, aa1, af0, af1⟩ := T9a.out
  obtain ⟨zb, bb0, bb1, bf0, bf1⟩ := T9b.out
  go_wp2_with fail
  refine (specCompareRatios_any a1 b1 a2 b2 _).mono ?_
  rintro e w9 ⟨rfl, hb⟩
  rw [HO.out]
  simp only
  have T10a := Lib.hid (T9a.out.below hb)
  have T10b := Lib.hid (T9b.out.below hb)
  have T10r := Lib.hid (T9r.out.below hb)
  have T10s := Lib.hid (T9s.out.below hb)
  have T10y := Lib.hid (T9y.out.below hb)
  have T10z := Lib.hid (T9z.out.below hb)
  have B10 := Lib.hid (B9.out.trans (hb.mono B9.out.size))
  clear hb T9a T9b T9r T9s T9y T9z B9 za aa0 aa1 af0 af1 zb bb0 bb1 bf0 bf1
  obtain ⟨za, aa0, aa1, af0, af1⟩ := T10a.out
  obtain ⟨zb, bb0, bb1, bf0, bf1⟩ := T10b.out
  obtain ⟨zr, rr0, rr1, rf0, rf1⟩ := T10r.out
  obtain ⟨zs, ss0, ss1, sf0, sf1⟩ := T10s.out
  obtain ⟨zy, yy0, yy1, yf0, yf1⟩ := T10y.out
  obtain ⟨zz, zz0, zz1, zf0, zf1⟩ := T10z.out
  by_cases k0 : k = 0
  · have bk : (k != 0) = false := by rw [k0]; rfl
    have HM0 : Hid (mulR a1 b1 a2 b2 = (x, y, 0)) := Lib.hid (by rw [HM.out, k0])
    clear k0
    by_cases c0 : a2 = 0
    · have bc : (a2 == 0) = true := by rw [c0]; rfl
      clear c0
      go_wp2
      go_ret
      exact ⟨rfl, B10.out⟩
    · have bc : (a2 == 0) = false := by simpa using c0
      have DV := Lib.hid (mul_back HM0.out c0)
      obtain ⟨r1, r2, _, _⟩ := mulR_ok HM0.out
      have CO : Hid (o = cmpI (a1 * b2) (a2 * b1) ∧ kc = 0) := by
        have e := HO.out
        unfold cmpR at e
        rw [if_pos (okk_true r1 r2)] at e
        injection e with e1 e2
        exact ⟨e1.symm, e2.symm⟩
      have CS : Hid (cmpR a2 b2 a1 b1 = (-o, 0)) := by
        show _ = _
        unfold cmpR
        rw [if_pos (okk_true r2 r1), CO.out.1, ← cmp_swap]
      have ob : -1 ≤ o ∧ o ≤ 1 := by
        rw [CO.out.1]; unfold cmpI; split <;> (try split) <;> omega
      obtain ⟨o0, o1⟩ := ob
      clear c0 r1 r2
      go_wp2_with fail
      refine (implDivideRatios_any x y a2 b2 _).mono ?_
      rintro e w10 ⟨rfl, hb⟩
      rw [DV.out]
      simp only [ratV]
      have T11a := Lib.hid (T10a.out.below hb)
      have T11b := Lib.hid (T10b.out.below hb)
      have T11r := Lib.hid (T10r.out.below hb)
      have B11 := Lib.hid (B10.out.trans (hb.mono B10.out.size))
      clear hb T10a T10b T10r T10s T10y T10z B10 za aa0 aa1 af0 af1 zb bb0 bb1 bf0 bf1 zr rr0 rr1 rf0 rf1 zs ss0 ss1 sf0 sf1 zy yy0 yy1 yf0 yf1 zz zz0 zz1 zf0 zf1
      obtain ⟨za, aa0, aa1, af0, af1⟩ := T11a.out
      obtain ⟨zb, bb0, bb1, bf0, bf1⟩ := T11b.out
      go_wp2_with fail
      refine (implCompareRatios_any a2 b2 a1 b1 _).mono ?_
      rintro e w11 ⟨rfl, hb⟩
      rw [CS.out]
      simp only
      have T12a := Lib.hid ((T11a.out.below ((Below.refl _ _).alloc (Nat.le_refl _) _)).below hb)
      have T12k := Lib.hid ((Two.alloc w10 _ a1 b1).below hb)
      have B12 := Lib.hid ((B11.out.alloc B11.out.size _).trans (hb.mono (by simp; have := B11.out.size; omega)))
      clear hb T11a T11b T11r B11 za aa0 aa1 af0 af1 zb bb0 bb1 bf0 bf1
      obtain ⟨za, aa0, aa1, af0, af1⟩ := T12a.out
      obtain ⟨zk, kk0, kk1, kf0, kf1⟩ := T12k.out
      go_wp2
      go_ret
      exact ⟨rfl, B12.out⟩
  · have bk : (k != 0) = true := by simpa using k0
    clear k0
    go_wp2
    go_ret
    exact ⟨rfl, B10.out⟩

theorem FnProducts_walk (a : Option Addr) (len cap : Nat) (zs : List Int) {w : World} (h : IsRow .u8 w a len cap zs) :
    Calls Try.prog 4 #[.slice a len cap] w fun e w' => e = .returned (.bool true) ∧ Below w.heap.size w w' := by
  obtain ⟨bs, hr⟩ := h.rowU
  exact FnProducts_core a len cap bs w hr
end Go.Proofs.Ytghgllpgiohlhaa
