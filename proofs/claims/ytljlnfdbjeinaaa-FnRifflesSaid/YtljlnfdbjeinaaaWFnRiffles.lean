/-
  The walk of the law FnRiffles.
-/
import Derived.Test.YtljlnfdbjeinaaaLike
import Derived.Test.YtljlnfdbjeinaaaRiffle
import Derived.Test.YtljlnfdbjeinaaaUnriffle
import Derived.Test.YtljlnfdbjeinaaaMathRiffles
namespace Go.Proofs.Ytljlnfdbjeinaaa
open Go.RowKit

/-- A list drawn out of a code. -/
def DrawF (w : World) (e : Ending) (w' : World) : Prop :=
  ∃ ys A c, e = .returned (.slice A ys.length c) ∧ RowI w' A ys ∧ ys.length ≤ 256 ∧ ys.length ≤ c ∧ c ≤ maxLen ∧ Below w.heap.size w w'
theorem DrawL.drawF {g : Nat} {w w1 w' : World} {e : Ending} (hb : Below w.heap.size w w1) (hg : w.heap.size ≤ g) (h : DrawL g w1 e w') : DrawF w e w' := by
  obtain ⟨ys, A, c, h1, h2, h3, h4, h5, h6, h7, h8⟩ := h
  exact ⟨ys, A, c, h1, h2, h3, h4, h5, hb.trans (h8.below hb.size hg)⟩

theorem drawRiffle_any (A : Option Addr) (n c : Nat) (bs : Nat → Int) (w : World) (h : RowU w A n bs) (hn : n ≤ 1048576) :
    Calls Try.prog 25 #[.slice A n c] w (DrawF w) := by
  have HR := Lib.hid h
  clear h
  go_enter Try.func25, Try.ntmps25
  go_wp2_with fail
  refine (l01From_any A n c bs _ HR.out hn).mono ?_
  rintro e w1 ⟨g, rfl, hg, hs, hb⟩
  go_wp2_with fail
  refine (l03Draw_any g _ hs).mono ?_
  rintro e w2 h2
  obtain ⟨ys, A', c', rfl, r⟩ := DrawL.drawF hb hg h2
  have R := Lib.hid r
  clear r h2 hb hs
  go_wp2
  go_ret
  exact ⟨ys, A', c', rfl, R.out⟩
theorem drawUnriffle_any (A : Option Addr) (n c : Nat) (bs : Nat → Int) (w : World) (h : RowU w A n bs) (hn : n ≤ 1048576) :
    Calls Try.prog 28 #[.slice A n c] w (DrawF w) := by
  have HR := Lib.hid h
  clear h
  go_enter Try.func28, Try.ntmps28
  go_wp2_with fail
  refine (l01From_any A n c bs _ HR.out hn).mono ?_
  rintro e w1 ⟨g, rfl, hg, hs, hb⟩
  go_wp2_with fail
  refine (l03Draw_any g _ hs).mono ?_
  rintro e w2 h2
  obtain ⟨ys, A', c', rfl, r⟩ := DrawL.drawF hb hg h2
  have R := Lib.hid r
  clear r h2 hb hs
  go_wp2
  go_ret
  exact ⟨ys, A', c', rfl, R.out⟩

set_option maxHeartbeats 2000000 in
set_option maxRecDepth 8000 in
theorem FnRiffles_core (A : Option Addr) (n c : Nat) (bs : Nat → Int) (w : World) (h : RowU w A n bs) :
    Calls Try.prog 6 #[.slice A n c] w fun e w' => e = .returned (.bool true) ∧ Below w.heap.size w w' := by
  have HR := Lib.hid h
  clear h
  by_cases hn : 4096 < n
  · have D : Hid (decide (4096 < n) = true) := decide_eq_true hn
    go_enter Try.func6, Try.ntmps6
    go_wp2_with fail
    refine (big_any A n c _).mono ?_
    rintro e w1 ⟨rfl, rfl⟩
    rw [D.out]
    go_wp2
    go_ret
    exact ⟨rfl, Below.refl _ _⟩
  have D : Hid (decide (4096 < n) = false) := decide_eq_false hn
  have hn2 : n ≤ 1048576 := by omega
  go_enter Try.func6, Try.ntmps6
  go_wp2_with fail
  refine (big_any A n c _).mono ?_
  rintro e w1 ⟨rfl, rfl⟩
  rw [D.out]
  go_wp2_with fail
  refine (drawRiffle_any A n c bs _ HR.out hn2).mono ?_
  rintro e w2 ⟨xs, A1, c1, rfl, hr, hl, hc, hm, hb⟩
  have X2 := Lib.hid hr
  have B2 := Lib.hid hb
  have hlx : xs.length ≤ 1048576 := by omega
  clear hr hb hc hm hl
  go_wp2_with fail
  refine (implRiffle_any A1 c1 xs _ X2.out hlx).mono ?_
  rintro e w3 ⟨A3, c3, rfl, ho, hb⟩
  have R3 := Lib.hid ho.row
  have X3 := Lib.hid (X2.out.below hb)
  have B3 := Lib.hid (B2.out.trans (hb.mono B2.out.size))
  clear ho hb
  go_wp2_with fail
  refine (specRiffle_any A1 c1 xs _ X3.out hlx).mono ?_
  rintro e w4 ⟨A4, c4, rfl, ho, hb⟩
  have M4 := Lib.hid ho.row
  have R4 := Lib.hid (R3.out.below hb)
  have X4 := Lib.hid (X3.out.below hb)
  have B4 := Lib.hid (B3.out.trans (hb.mono B3.out.size))
  clear ho hb
  go_wp2_with fail
  refine (drawUnriffle_any A n c bs _ (HR.out.below B4.out) hn2).mono ?_
  rintro e w5 ⟨zs, A5, c5, rfl, hr, hl, hc, hm, hb⟩
  have Z5 := Lib.hid hr
  have M5 := Lib.hid (M4.out.below hb)
  have R5 := Lib.hid (R4.out.below hb)
  have X5 := Lib.hid (X4.out.below hb)
  have B5 := Lib.hid (B4.out.trans (hb.mono B4.out.size))
  have hlz : zs.length ≤ 1048576 := by omega
  clear hr hb hc hm hl
  go_wp2_with fail
  refine (implUn_any A5 c5 zs _ Z5.out hlz).mono ?_
  rintro e w6 ⟨A6, c6, rfl, ho, hb⟩
  have U6 := Lib.hid ho.row
  have Z6 := Lib.hid (Z5.out.below hb)
  have M6 := Lib.hid (M5.out.below hb)
  have R6 := Lib.hid (R5.out.below hb)
  have X6 := Lib.hid (X5.out.below hb)
  have B6 := Lib.hid (B5.out.trans (hb.mono B5.out.size))
  clear ho hb
  go_wp2_with fail
  refine (specUn_any A5 c5 zs _ Z6.out hlz).mono ?_
  rintro e w7 ⟨A7, c7, rfl, ho, hb⟩
  have V7 := Lib.hid ho.row
  have U7 := Lib.hid (U6.out.below hb)
  have M7 := Lib.hid (M6.out.below hb)
  have R7 := Lib.hid (R6.out.below hb)
  have X7 := Lib.hid (X6.out.below hb)
  have B7 := Lib.hid (B6.out.trans (hb.mono B6.out.size))
  clear ho hb
  obtain ⟨kc, hkc⟩ : ∃ kc, kc = rifC xs := ⟨_, rfl⟩
  obtain ⟨ku, hku⟩ : ∃ ku, ku = unA zs := ⟨_, rfl⟩
  have HKC := Lib.hid hkc
  rw [← hkc, ← hku]
  clear hkc hku
  go_wp2_with fail
  refine (likeInts_same A3 A4 c3 c4 _ _ (rifL xs) (rifL xs) _ rfl rfl rfl R7.out M7.out (rifL_len xs)).mono ?_
  rintro e w8 ⟨rfl, hb⟩
  have V8 := Lib.hid (V7.out.below hb)
  have U8 := Lib.hid (U7.out.below hb)
  have R8 := Lib.hid (R7.out.below hb)
  have X8 := Lib.hid (X7.out.below hb)
  have B8 := Lib.hid (B7.out.trans (hb.mono B7.out.size))
  clear hb
  go_wp2_with fail
  refine (likeInts_same A6 A7 c6 c7 _ _ (unL zs) (unL zs) _ rfl rfl rfl U8.out V8.out (unL_len zs)).mono ?_
  rintro e w9 ⟨rfl, hb⟩
  have R9 := Lib.hid (R8.out.below hb)
  have X9 := Lib.hid (X8.out.below hb)
  have B9 := Lib.hid (B8.out.trans (hb.mono B8.out.size))
  clear hb
  go_wp2_with fail
  refine (implIsDeck_any A1 c1 xs _ X9.out hlx).mono ?_
  rintro e w10 ⟨rfl, hb⟩
  have R10 := Lib.hid (R9.out.below hb)
  have X10 := Lib.hid (X9.out.below hb)
  have B10 := Lib.hid (B9.out.trans (hb.mono B9.out.size))
  clear hb
  by_cases hd : deckP xs
  · have E1 : Hid (kc = 0) := by show kc = 0; rw [HKC.out, (rifL_yes hd).2]
    have E2 : Hid (deckB xs = true) := (deckB_iff xs).2 hd
    have E3 : Hid (rifL xs = rif xs) := (rifL_yes hd).1
    have HD := Lib.hid hd
    rw [E1.out, E2.out, E3.out]
    rw [E3.out] at R10
    clear hd
    go_wp2_with fail
    refine (implUn_any A3 c3 (rif xs) _ R10.out (by rw [rif_length]; omega)).mono ?_
    rintro e w11 ⟨A11, c11, rfl, ho, hb⟩
    have Y11 := Lib.hid ho.row
    have X11 := Lib.hid (X10.out.below hb)
    have B11 := Lib.hid (B10.out.trans (hb.mono B10.out.size))
    have F1 : Hid (unL (rif xs) = xs ∧ unA (rif xs) = 0) := by
      have := unL_yes (rif_deck HD.out)
      exact ⟨by rw [this.1, un_rif xs HD.out.2], this.2⟩
    rw [F1.out.1] at Y11
    rw [F1.out.1, F1.out.2]
    clear ho hb
    have L52 : Hid (xs.length = 52) := HD.out.2
    rw [L52.out]
    go_wp2
    go_loopw [15, 16, 17, 18] (fun v i _ _ wr => ∃ (k : Nat) (A' : Option Addr) (c' : Nat), k ≤ 8 ∧ i = .int .i64 (k : Int) ∧ v = .slice A' 52 c' ∧ Hid (RowI wr A' (rifN k xs)) ∧ Hid (Below w11.heap.size w11 wr))
      (fun _ i _ _ _ => 8 - (intOf i).toNat)
    case atStart => exact ⟨0, A1, c1, by omega, rfl, rfl, X11.out, Below.refl _ _⟩
    case round =>
      obtain ⟨k, A', c', hk, rfl, rfl, hrow, hB⟩ := hrel
      have LK : Hid ((rifN k xs).length = 52) := rifN_length k xs HD.out.2
      have DK : Hid (deckP (rifN k xs)) := rifN_deck k HD.out
      by_cases hlt : k < 8
      · go_wp2_with fail
        have ctr := implRiffle_any A' c' (rifN k xs) wr hrow.out (by rw [LK.out]; omega)
        rw [LK.out] at ctr
        refine ctr.mono ?_
        clear ctr
        rintro e w12 ⟨A12, c12, rfl, ho, hb⟩
        have G1 : Hid (rifL (rifN k xs) = rifN (k + 1) xs ∧ rifC (rifN k xs) = 0) := rifL_yes DK.out
        have Y12 := Lib.hid ho.row
        rw [G1.out.1] at Y12
        rw [G1.out.1, G1.out.2, show (rifN (k + 1) xs).length = 52 from rif_length _]
        have HB := Lib.hid (hB.out.trans (hb.mono hB.out.size))
        clear ho hb
        go_wp2
        go_roundw
        case rel => exact ⟨k + 1, A12, c12, by omega, by go_num, rfl, Y12, HB⟩
        case measure => simp [intOf]; omega
      · have hk8 : k = 8 := by omega
        subst hk8
        have E8 : Hid (rifN 8 xs = xs) := rif8 xs HD.out.2
        rw [E8.out] at hrow
        have Y12 := Lib.hid (Y11.out.below hB.out)
        have X12 := Lib.hid (X11.out.below hB.out)
        have B12 := Lib.hid (B11.out.trans (hB.out.mono B11.out.size))
        clear hlt hk
        go_wp2_with fail
        refine (likeInts_same A11 A1 c11 c1 52 52 xs xs _ L52.out.symm L52.out.symm rfl Y12.out X12.out hlx).mono ?_
        rintro e w13 ⟨rfl, hb⟩
        have X13 := Lib.hid (X12.out.below hb)
        have N13 := Lib.hid (hrow.out.below hb)
        have B13 := Lib.hid (B12.out.trans (hb.mono B12.out.size))
        clear hb
        go_wp2_with fail
        refine (likeInts_same A' A1 c' c1 52 52 xs xs _ L52.out.symm L52.out.symm rfl N13.out X13.out hlx).mono ?_
        rintro e w14 ⟨rfl, hb⟩
        have B14 := Lib.hid (B13.out.trans (hb.mono B13.out.size))
        clear hb
        go_wp2
        go_ret
        exact ⟨rfl, B14.out⟩
  · have E2 : Hid (deckB xs = false) := by
      show deckB xs = false
      cases e : deckB xs
      · rfl
      · exact absurd ((deckB_iff xs).1 e) hd
    have E1 : Hid (kc = 1) := by
      show kc = 1
      rw [HKC.out]; unfold rifC; rw [E2.out]; rfl
    rw [E1.out, E2.out]
    clear hd
    go_wp2
    go_ret
    exact ⟨rfl, B10.out⟩

theorem FnRiffles_walk (a : Option Addr) (len cap : Nat) (zs : List Int) {w : World} (h : IsRow .u8 w a len cap zs) :
    Calls Try.prog 6 #[.slice a len cap] w fun e w' => e = .returned (.bool true) ∧ Below w.heap.size w w' := by
  obtain ⟨bs, hr⟩ := h.rowU
  exact FnRiffles_core a len cap bs w hr
end Go.Proofs.Ytljlnfdbjeinaaa
