/-
  The walk of the law FnExactDealHands.
-/
import Derived.Test.YtbgfngagihcjfaaDealW
namespace Go.Proofs.Ytbgfngagihcjfaa
open Go.RowKit

theorem OwnSS.only {w w' : World} {lo : Nat} {A A0 : Option Addr} {yss : List (List Int)} (h : OwnSS w lo A yss) (ho : OnlyI w w' A0) (hne : ∀ b, A0.map (·.block) = some b → b < lo) (hA : ∀ b, A.map (·.block) = some b → lo ≤ b) : OwnSS w' lo A yss := by
  rcases h with h | ⟨b, off, R, e, hb, hP⟩
  · exact .inl h
  · subst e
    refine .inr ⟨b, off, R, rfl, by rw [ho.2]; exact hb, fun j hj => ⟨?_, (hP.1 j hj).2.1.only ho hne, (hP.1 j hj).2.2⟩, hP.2⟩
    exact (World.cell?_of_block (ho.1.block b hb (fun e => by have := hne b e.symm; have := hA b rfl; omega))).trans (hP.1 j hj).1
theorem sum_le {yss : List (List Int)} (h : ∀ ys ∈ yss, ys.length ≤ 52) : (yss.map List.length).sum ≤ 52 * yss.length := by
  induction yss with
  | nil => simp
  | cons y r ih =>
    have h1 := h y (by simp)
    have h2 := ih (fun ys hy => h ys (by simp [hy]))
    simp only [List.map_cons, List.sum_cons, List.length_cons]
    omega
theorem deal_small (xs : List Int) (h d : Int) : (dealL xs h d).length ≤ 10 ∧ (∀ ys ∈ dealL xs h d, ys.length ≤ 52) ∧ tot (dealL xs h d) (dealL xs h d).length ≤ 520 := by
  have key : (dealL xs h d).length ≤ 10 ∧ ∀ ys ∈ dealL xs h d, ys.length ≤ 52 := by
    unfold dealL
    split
    · rename_i ok
      obtain ⟨_, ⟨h1, h2⟩, d0, d1⟩ := ok
      have : 52 / h ≤ 52 := Int.ediv_le_self _ (by omega)
      refine ⟨by rw [dealK_length]; omega, fun ys hy => ?_⟩
      obtain ⟨k, _, rfl⟩ := List.mem_map.1 hy
      rw [handK_length]; omega
    · exact ⟨by simp, fun ys hy => by simp at hy⟩
  refine ⟨key.1, key.2, ?_⟩
  unfold tot
  rw [List.take_length]
  have := sum_le key.2
  omega

set_option maxHeartbeats 4000000 in
set_option maxRecDepth 8000 in
theorem FnExactDealHands_core (A : Option Addr) (c : Nat) (xs : List Int) (h d : Int) (w : World) (hr : RowI w A xs) :
    Calls Try.prog 5 #[.slice A xs.length c, .int .i64 h, .int .i64 d] w fun e w' => e = .returned (.bool true) ∧ Below w.heap.size w w' := by
  by_cases hl : xs.length ≤ 1048576
  · have HR := Lib.hid hr
    clear hr
    obtain ⟨L, hL⟩ : ∃ L, L = dealL xs h d := ⟨_, rfl⟩
    obtain ⟨K, hK⟩ : ∃ K, K = dealC xs h d := ⟨_, rfl⟩
    have SM := Lib.hid (deal_small xs h d)
    rw [← hL] at SM
    have LL : Hid (L.length ≤ 1048576 ∧ (∀ ys ∈ L, ys.length ≤ 1048576) ∧ tot L L.length ≤ 1048576) := ⟨by have := SM.out.1; omega, fun ys hy => by have := SM.out.2.1 ys hy; omega, by have := SM.out.2.2; omega⟩
    obtain ⟨tt, htt⟩ : ∃ tt, tt = tot L L.length := ⟨_, rfl⟩
    have tt1 : tt ≤ 520 := by rw [htt]; exact SM.out.2.2
    have TT := Lib.hid htt
    obtain ⟨ln, hln⟩ : ∃ ln, ln = L.length := ⟨_, rfl⟩
    have LN := Lib.hid hln
    obtain ⟨lx, hlx⟩ : ∃ lx, lx = xs.length := ⟨_, rfl⟩
    have LX := Lib.hid hlx
    have NM := Lib.hid (And.intro hL hK)
    have toI : ∀ (B : Option Addr) (k : Nat) (v : World), RowI v B xs → Calls Try.prog 9 #[.slice B lx k] v (GivesI v xs) := fun B k v hB => by rw [LX.out]; exact toInt64S_any B k xs v hB hl
    have TI := Lib.hid toI
    have IM : Hid (∀ (B : Option Addr) (k : Nat) (v : World), RowI v B xs → Calls Try.prog 17 #[.slice B lx k, .int .i64 h, .int .i64 d] v (GivesSS v L K)) := fun B k v hB => by rw [LX.out, NM.out.1, NM.out.2]; exact implDeal_any B k xs h d v hB hl
    have SP : Hid (∀ (B : Option Addr) (k : Nat) (v : World), RowI v B xs → Calls Try.prog 16 #[.slice B lx k, .int .i64 h, .int .i64 d] v (GivesLC v L K)) := fun B k v hB => by rw [LX.out, NM.out.1, NM.out.2]; exact specDeal_any B k xs h d v hB hl
    have hl2 : lx ≤ 1048576 := by omega
    rw [← hlx]
    clear hL hK htt hln hlx toI hl
    go_enter Try.func5, Try.ntmps5
    go_wp2_with fail
    refine (TI.out A c _ HR.out).mono ?_
    rintro e w1 ⟨A1, c1, rfl, ho, hb⟩
    rw [← LX.out]
    have B1 := Lib.hid hb
    have O1 := Lib.hid ho.row
    clear ho hb
    go_wp2_with fail
    refine (SP.out A1 c1 _ O1.out).mono ?_
    rintro e w2 ⟨AW, cw, rfl, ho, hb⟩
    rw [← LN.out]
    have B2 := Lib.hid (B1.out.trans (hb.mono B1.out.size))
    have W2 := Lib.hid ho
    clear ho hb O1
    go_wp2_with fail
    refine (TI.out A c _ (HR.out.below B2.out)).mono ?_
    rintro e w3 ⟨A3, c3, rfl, ho, hb⟩
    rw [← LX.out]
    have B3 := Lib.hid (B2.out.trans (hb.mono B2.out.size))
    have C3 := Lib.hid hb
    have ZW := Lib.hid hb.size
    have O3 := Lib.hid ho
    clear ho hb
    go_wp2_with fail
    refine (IM.out A3 c3 _ O3.out.row).mono ?_
    rintro e w4 ⟨AG, cg, rfl, ho, hlo, hb⟩
    rw [← LN.out]
    have B4 := Lib.hid (B3.out.trans (hb.mono B3.out.size))
    have C4 := Lib.hid (C3.out.trans (hb.mono C3.out.size))
    have O4 := Lib.hid (O3.out.below hb)
    have G4 := Lib.hid (And.intro ho hlo)
    have Z4 := Lib.hid hb.size
    have Q3 : Hid (∀ b, A3.map (·.block) = some b → b < w3.heap.size) := fun b hb' => O3.out.lt_block hb'
    clear ho hb hlo
    go_wp2_with fail
    refine (eqSS_same AG AW cg cw _ _ _ _ L _ LN.out LN.out G4.out.1.lists (W2.out.below C4.out) LL.out.1 LL.out.2.1).mono ?_
    rintro e w5 ⟨rfl, n5, rfl⟩
    obtain ⟨w5, hw5⟩ : ∃ w5, w5 = w4.drewN n5 := ⟨_, rfl⟩
    have D5 : Below w4.heap.size w4 w5 := by rw [hw5]; exact below_drewN (Below.refl _ _) _
    rw [← hw5]
    have B5 := Lib.hid (B4.out.trans (D5.mono B4.out.size))
    have C5 := Lib.hid (C4.out.trans (D5.mono C4.out.size))
    have O5 := Lib.hid (O4.out.below D5)
    have G5 := Lib.hid (G4.out.1.below D5)
    have Z5 := Lib.hid (Nat.le_trans Z4.out D5.size)
    clear hw5 D5
    go_wp2_with fail
    refine (TI.out A c _ (HR.out.below B5.out)).mono ?_
    rintro e w7 ⟨A7, c7, rfl, ho, hb⟩
    rw [← LX.out]
    have B7 := Lib.hid (B5.out.trans (hb.mono B5.out.size))
    have C7 := Lib.hid (C5.out.trans (hb.mono C5.out.size))
    have O7 := Lib.hid (O5.out.below hb)
    have G7 := Lib.hid (G5.out.below hb)
    have Z7 := Lib.hid (Nat.le_trans Z5.out hb.size)
    have X7 := Lib.hid ho.row
    clear ho hb
    go_wp2_with fail
    have EQ := eqInt64S_any A3 A7 c3 c7 xs xs _ O7.out.row X7.out (by rw [← LX.out]; exact hl2)
    rw [← LX.out, eqL_self] at EQ
    refine EQ.mono ?_
    rintro e w8 ⟨rfl, n8, rfl⟩
    clear EQ
    obtain ⟨w8, hw8⟩ : ∃ w8, w8 = w7.drewN n8 := ⟨_, rfl⟩
    have D8 : Below w7.heap.size w7 w8 := by rw [hw8]; exact below_drewN (Below.refl _ _) _
    rw [← hw8]
    have B8 := Lib.hid (B7.out.trans (D8.mono B7.out.size))
    have C8 := Lib.hid (C7.out.trans (D8.mono C7.out.size))
    have O8 := Lib.hid (O7.out.below D8)
    have G8 := Lib.hid (G7.out.below D8)
    have Z8 := Lib.hid (Nat.le_trans Z7.out D8.size)
    clear hw8 D8
    go_wp2_with fail
    have MK := markInt64S_any _ A3 c3 xs 1 _ O8.out (by rw [← LX.out]; exact hl2) (by omega) (by omega)
    rw [← LX.out] at MK
    refine MK.mono ?_
    rintro e w9 ⟨rfl, hx9, ho9⟩
    have C9 := Lib.hid (below_only C8.out C8.out.size ho9 (fun b hb' => (O8.out.lo_block b hb').1))
    have B9 := Lib.hid (below_only B8.out B8.out.size ho9 (fun b hb' => Nat.le_trans B2.out.size (O8.out.lo_block b hb').1))
    have G9 := Lib.hid (G8.out.only ho9 Q3.out G4.out.2)
    have Z9 : Hid (w3.heap.size ≤ w9.heap.size) := by show _ ≤ _; rw [ho9.2]; exact Z8.out
    have W9 := Lib.hid (W2.out.below C9.out)
    clear MK hx9 ho9 O3 O4 O5 O7 O8 X7 C3 C4 C5 C7 C8 G5 G7 G8 B3 B4 B5 B7 B8 Q3 Z4 Z5 Z7 Z8
    have k0 : ¬ ((1 : Int) + (lx : Int) < 0) := by omega
    go_wp2_with fail
    refine (eqSS_same AG AW cg cw _ _ _ _ L _ LN.out LN.out G9.out.lists W9.out LL.out.1 LL.out.2.1).mono ?_
    rintro e w10 ⟨rfl, n10, rfl⟩
    obtain ⟨w10, hw10⟩ : ∃ w10, w10 = w9.drewN n10 := ⟨_, rfl⟩
    have D10 : Below w9.heap.size w9 w10 := by rw [hw10]; exact below_drewN (Below.refl _ _) _
    rw [← hw10]
    have B10 := Lib.hid (B9.out.trans (D10.mono B9.out.size))
    have C10 := Lib.hid (C9.out.trans (D10.mono C9.out.size))
    have G10 := Lib.hid (G9.out.below D10)
    have Z10 := Lib.hid (Nat.le_trans Z9.out D10.size)
    clear hw10 D10 k0
    go_wp2_with fail
    have MS := markSS_any _ AG cg ln L 1 _ LN.out G10.out Z10.out LL.out.2.2 LL.out.1 (by omega) (by omega)
    rw [← TT.out] at MS
    refine MS.mono ?_
    rintro e w11 ⟨rfl, hx11, hb11⟩
    have G11 := Lib.hid hx11
    have ZZ : Hid (w2.heap.size ≤ w3.heap.size ∧ w.heap.size ≤ w2.heap.size) := ⟨ZW.out, B2.out.size⟩
    have B11 := Lib.hid (B10.out.trans (hb11.mono (Nat.le_trans ZZ.out.2 ZZ.out.1)))
    have C11 := Lib.hid (C10.out.trans (hb11.mono ZZ.out.1))
    clear hx11 hb11 MS
    go_wp2_with fail
    have HS := heldSS_any _ AG cg ln L 1 _ LN.out G11.out.lists LL.out.2.2 LL.out.1 (by omega) (by omega)
    rw [← TT.out] at HS
    refine HS.mono ?_
    rintro e w12 ⟨rfl, rfl⟩
    clear HS
    have k1 : ¬ ((1 : Int) + (tt : Int) < 0) := by omega
    go_wp2_with fail
    refine (TI.out A c _ (HR.out.below B11.out)).mono ?_
    rintro e w13 ⟨A13, c13, rfl, ho, hb⟩
    rw [← LX.out]
    have B13 := Lib.hid (B11.out.trans (hb.mono B11.out.size))
    have C13 := Lib.hid (C11.out.trans (hb.mono C11.out.size))
    have G13 := Lib.hid (G11.out.below hb)
    have O13 := Lib.hid ho.row
    clear ho hb
    go_wp2_with fail
    refine (IM.out A13 c13 _ O13.out).mono ?_
    rintro e w14 ⟨AH, ch, rfl, ho, hlo, hb⟩
    rw [← LN.out]
    have B14 := Lib.hid (B13.out.trans (hb.mono B13.out.size))
    have C14 := Lib.hid (C13.out.trans (hb.mono C13.out.size))
    have G14 := Lib.hid (G13.out.below hb)
    have H14 := Lib.hid ho.lists
    clear ho hb hlo
    go_wp2_with fail
    refine (eqSS_same AH AW ch cw _ _ _ _ L _ LN.out LN.out H14.out (W2.out.below C14.out) LL.out.1 LL.out.2.1).mono ?_
    rintro e w15 ⟨rfl, n15, rfl⟩
    have G15 := Lib.hid (G14.out.below (below_drewN (Below.refl _ _) n15))
    go_wp2_with fail
    have HS := heldSS_any _ AG cg ln L 1 _ LN.out G15.out.lists LL.out.2.2 LL.out.1 (by omega) (by omega)
    rw [← TT.out] at HS
    refine HS.mono ?_
    rintro e w16 ⟨rfl, rfl⟩
    clear HS
    go_wp2
    go_ret
    exact ⟨rfl, below_drewN B14.out _⟩
  · have hl' : (1048576 : Int) < (xs.length : Int) := by omega
    clear hr hl
    go_enter Try.func5, Try.ntmps5
    go_wp2
    go_ret
    exact ⟨rfl, Below.refl _ _⟩

theorem FnExactDealHands_walk (a : Option Addr) (len cap : Nat) (zs : List Int) {w : World} (h : IsRow .i64 w a len cap zs) (n1 : Int) (_hn1 : -9223372036854775808 ≤ n1 ∧ n1 ≤ 9223372036854775807) (n2 : Int) (_hn2 : -9223372036854775808 ≤ n2 ∧ n2 ≤ 9223372036854775807) :
    Calls Try.prog 5 #[.slice a len cap, .int .i64 n1, .int .i64 n2] w fun e w' => e = .returned (.bool true) ∧ Below w.heap.size w w' := by
  obtain ⟨hr, hlen⟩ := h.rowI
  have := FnExactDealHands_core a cap (zs.take len) n1 n2 w hr
  rwa [hlen] at this
end Go.Proofs.Ytbgfngagihcjfaa
