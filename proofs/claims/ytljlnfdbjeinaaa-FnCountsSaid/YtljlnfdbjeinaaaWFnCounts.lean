/-
  The walk of the law FnCounts.
-/
import Derived.Test.YtljlnfdbjeinaaaLike
import Derived.Test.YtljlnfdbjeinaaaDrawList
import Derived.Test.YtljlnfdbjeinaaaRanks
import Derived.Test.YtljlnfdbjeinaaaSuits
import Derived.Test.YtljlnfdbjeinaaaMathCounts
namespace Go.Proofs.Ytljlnfdbjeinaaa
open Go.RowKit

theorem sum_any (A : Option Addr) (c : Nat) (xs : List Int) (w : World) (h : RowI w A xs) (hl : xs.length ≤ 1048576) (hb : ∀ x ∈ xs, 0 ≤ x ∧ x ≤ 1048576) :
    Calls Try.prog 46 #[.slice A xs.length c] w fun e w' => e = .returned (.int .i64 xs.sum) ∧ w = w' := by
  obtain ⟨n, hn⟩ : ∃ n, n = xs.length := ⟨_, rfl⟩
  rw [← hn] at hl ⊢
  have HN := Lib.hid hn
  have HR := Lib.hid h
  have HB := Lib.hid hb
  clear hn h hb
  go_enter Try.func46, Try.ntmps46
  go_wp2
  go_loop [3, 4] (fun s i => ∃ k : Nat, k ≤ n ∧ i = .int .i64 k ∧ s = .int .i64 (addL xs k)) (fun _ i => n - (intOf i).toNat)
  case atStart => exact ⟨0, Nat.zero_le _, rfl, rfl⟩
  case round =>
    obtain ⟨k, hk, rfl, rfl⟩ := hrel
    have hbd := addL_bd xs HB.out k (by rw [← HN.out]; exact hk)
    by_cases hlt : k < n
    · have hkx : k < xs.length := by rw [← HN.out]; exact hlt
      obtain ⟨b, off, rfl, _, hc⟩ := HR.out.at_ hkx
      have hx2 := HB.out (xs.getD k 0) (by rw [List.getD_eq_getElem?_getD, List.getElem?_eq_getElem hkx]; exact List.getElem_mem _)
      have es := addL_succ xs k hkx
      obtain ⟨x, hx⟩ : ∃ x, x = xs.getD k 0 := ⟨_, rfl⟩
      rw [← hx] at hc hx2 es
      obtain ⟨s, hs⟩ : ∃ s, s = addL xs k := ⟨_, rfl⟩
      rw [← hs] at hbd es ⊢
      obtain ⟨b0, b1⟩ := hbd
      obtain ⟨x0, x1⟩ := hx2
      have ES := Lib.hid es
      clear hx hs es hkx
      go_wp2
      go_round
      case rel => exact ⟨k + 1, by omega, by go_num, int_eq ES.out.symm⟩
      case measure => simp [intOf]; omega
    · have hkn : k = n := by omega
      subst hkn
      have R : Hid (addL xs k = xs.sum) := by show _ = _; unfold addL; rw [HN.out, List.take_length]
      clear hlt
      go_wp2
      go_ret
      exact ⟨ret_int R.out, rfl⟩

theorem drawRanks_any (A : Option Addr) (n c : Nat) (bs : Nat → Int) (w : World) (h : RowU w A n bs) (hn : n ≤ 1048576) :
    Calls Try.prog 33 #[.slice A n c] w (DrawF w) := by
  have HR := Lib.hid h
  clear h
  go_enter Try.func33, Try.ntmps33
  go_wp2_with fail
  refine (l01From_any A n c bs _ HR.out hn).mono ?_
  rintro e w1 ⟨g, rfl, hg, hs, hb⟩
  go_wp2_with fail
  refine (l02DrawList_any g 9 _ hs (by omega) (by omega)).mono ?_
  rintro e w2 h2
  obtain ⟨ys, A', c', rfl, r⟩ := DrawL.drawF hb hg h2
  have R := Lib.hid r
  clear r h2 hb hs
  go_wp2
  go_ret
  exact ⟨ys, A', c', rfl, R.out⟩
theorem drawRank_any (A : Option Addr) (n c : Nat) (bs : Nat → Int) (w : World) (h : RowU w A n bs) (hn : n ≤ 1048576) :
    Calls Try.prog 38 #[.slice A n c] w (DrawN (-1) 52 w) := by
  have HR := Lib.hid h
  clear h
  go_enter Try.func38, Try.ntmps38
  go_wp2_with fail
  refine (l01From_any A n c bs _ HR.out hn).mono ?_
  rintro e w1 ⟨g, rfl, hg, hs, hb⟩
  go_wp2_with fail
  refine (l02DrawCard_any g _ hs).mono ?_
  rintro e w2 ⟨x, rfl, x0, x1, hs2, hk2⟩
  have R := Lib.hid (And.intro x0 (And.intro x1 (hb.trans (hk2.below hb.size hg))))
  clear x0 x1 hs2 hk2 hb hs hg
  go_wp2
  go_ret
  exact ⟨x, rfl, R.out⟩
set_option maxRecDepth 8000 in
theorem drawCardOf_any (A : Option Addr) (n c : Nat) (bs : Nat → Int) (w : World) (h : RowU w A n bs) (hn : n ≤ 1048576) :
    Calls Try.prog 43 #[.slice A n c] w fun e w' => ∃ r s : Int, e = .returned (.tuple #[.int .i64 r, .int .i64 s]) ∧ Below w.heap.size w w' := by
  have HR := Lib.hid h
  clear h
  go_enter Try.func43, Try.ntmps43
  go_wp2_with fail
  refine (l01From_any A n c bs _ HR.out hn).mono ?_
  rintro e w1 ⟨g, rfl, hg, hs, hb⟩
  have S1 := Lib.hid hs
  have B1 := Lib.hid (And.intro hb hg)
  clear hs hb hg
  go_wp2_with fail
  refine (l01Next_any g 14 _ S1.out).mono ?_
  rintro e w2 ⟨x, rfl, x0, x1, hs2, hk2, hz2⟩
  have x2 : x < 14 := by omega
  have S2 := Lib.hid hs2
  have K2 := Lib.hid hk2
  clear hs2 hk2 hz2 x1
  go_wp2_with fail
  refine (l01Next_any g 16 _ S2.out).mono ?_
  rintro e w3 ⟨y, rfl, y0, y1, hs3, hk3, hz3⟩
  have y2 : y < 16 := by omega
  have S3 := Lib.hid hs3
  have K3 := Lib.hid (K2.out.trans hk3)
  clear hs3 hk3 hz3 y1
  go_wp2_with fail
  refine (l01Next_any g 5 _ S3.out).mono ?_
  rintro e w4 ⟨z, rfl, z0, z1, hs4, hk4, hz4⟩
  have z2 : z < 5 := by omega
  have S4 := Lib.hid hs4
  have K4 := Lib.hid (K3.out.trans hk4)
  clear hs4 hk4 hz4 z1
  go_wp2_with fail
  refine (l01Next_any g 16 _ S4.out).mono ?_
  rintro e w5 ⟨u, rfl, u0, u1, hs5, hk5, hz5⟩
  have u2 : u < 16 := by omega
  have K5 := Lib.hid (K4.out.trans hk5)
  clear hs5 hk5 hz5 u1
  go_wp2
  go_ret2
  exact ⟨_, _, rfl, B1.out.1.trans (K5.out.below B1.out.1.size B1.out.2)⟩

set_option maxHeartbeats 2000000 in
set_option maxRecDepth 8000 in
theorem FnCounts_core (A : Option Addr) (n c : Nat) (bs : Nat → Int) (w : World) (h : RowU w A n bs) :
    Calls Try.prog 7 #[.slice A n c] w fun e w' => e = .returned (.bool true) ∧ Below w.heap.size w w' := by
  have HR := Lib.hid h
  clear h
  by_cases hn : 4096 < n
  · have D : Hid (decide (4096 < n) = true) := decide_eq_true hn
    go_enter Try.func7, Try.ntmps7
    go_wp2_with fail
    refine (big_any A n c _).mono ?_
    rintro e w1 ⟨rfl, rfl⟩
    rw [D.out]
    go_wp2
    go_ret
    exact ⟨rfl, Below.refl _ _⟩
  have D : Hid (decide (4096 < n) = false) := decide_eq_false hn
  have hn2 : n ≤ 1048576 := by omega
  go_enter Try.func7, Try.ntmps7
  go_wp2_with fail
  refine (big_any A n c _).mono ?_
  rintro e w1 ⟨rfl, rfl⟩
  rw [D.out]
  go_wp2_with fail
  refine (drawRanks_any A n c bs _ HR.out hn2).mono ?_
  rintro e w2 ⟨xs, A1, c1, rfl, hr, hl, hc, hm, hb⟩
  have X2 := Lib.hid hr
  have B2 := Lib.hid hb
  have hlx : xs.length ≤ 1048576 := by omega
  have RB := Lib.hid (rkL_bd hlx)
  have SB := Lib.hid (suL_bd hlx)
  clear hr hb hc hm
  go_wp2_with fail
  refine (implRanksIn_any A1 c1 xs _ X2.out hlx).mono ?_
  rintro e w3 ⟨A3, c3, rfl, ho, hb⟩
  have R3 := Lib.hid ho.row
  have X3 := Lib.hid (X2.out.below hb)
  have B3 := Lib.hid (B2.out.trans (hb.mono B2.out.size))
  clear ho hb
  go_wp2_with fail
  refine (specRanksIn_any A1 c1 xs _ X3.out hlx).mono ?_
  rintro e w4 ⟨A4, c4, rfl, ho, hb⟩
  have M4 := Lib.hid ho.row
  have R4 := Lib.hid (R3.out.below hb)
  have X4 := Lib.hid (X3.out.below hb)
  have B4 := Lib.hid (B3.out.trans (hb.mono B3.out.size))
  clear ho hb
  go_wp2_with fail
  refine (implSuitsIn_any A1 c1 xs _ X4.out hlx).mono ?_
  rintro e w5 ⟨A5, c5, rfl, ho, hb⟩
  have U5 := Lib.hid ho.row
  have M5 := Lib.hid (M4.out.below hb)
  have R5 := Lib.hid (R4.out.below hb)
  have X5 := Lib.hid (X4.out.below hb)
  have B5 := Lib.hid (B4.out.trans (hb.mono B4.out.size))
  clear ho hb
  go_wp2_with fail
  refine (specSuitsIn_any A1 c1 xs _ X5.out hlx).mono ?_
  rintro e w6 ⟨A6, c6, rfl, ho, hb⟩
  have V6 := Lib.hid ho.row
  have U6 := Lib.hid (U5.out.below hb)
  have M6 := Lib.hid (M5.out.below hb)
  have R6 := Lib.hid (R5.out.below hb)
  have B6 := Lib.hid (B5.out.trans (hb.mono B5.out.size))
  clear ho hb
  go_wp2_with fail
  refine (drawRank_any A n c bs _ (HR.out.below B6.out) hn2).mono ?_
  rintro e w7 ⟨x, rfl, x0, x1, hb⟩
  have V7 := Lib.hid (V6.out.below hb)
  have U7 := Lib.hid (U6.out.below hb)
  have M7 := Lib.hid (M6.out.below hb)
  have R7 := Lib.hid (R6.out.below hb)
  have B7 := Lib.hid (B6.out.trans (hb.mono B6.out.size))
  clear hb
  go_wp2_with fail
  refine (implRankOf_any x _).mono ?_
  rintro e w8 ⟨rfl, rfl⟩
  go_wp2_with fail
  refine (specRankOf_any x _).mono ?_
  rintro e w8 ⟨rfl, rfl⟩
  go_wp2_with fail
  refine (implSuitOf_any x _).mono ?_
  rintro e w8 ⟨rfl, rfl⟩
  go_wp2_with fail
  refine (specSuitOf_any x _).mono ?_
  rintro e w8 ⟨rfl, rfl⟩
  go_wp2_with fail
  refine (drawCardOf_any A n c bs _ (HR.out.below B7.out) hn2).mono ?_
  rintro e w8 ⟨r, s, rfl, hb⟩
  have V8 := Lib.hid (V7.out.below hb)
  have U8 := Lib.hid (U7.out.below hb)
  have M8 := Lib.hid (M7.out.below hb)
  have R8 := Lib.hid (R7.out.below hb)
  have B8 := Lib.hid (B7.out.trans (hb.mono B7.out.size))
  clear hb
  go_wp2_with fail
  refine (implCardOf_any r s _).mono ?_
  rintro e w9 ⟨rfl, rfl⟩
  go_wp2_with fail
  refine (specCardOf_any r s _).mono ?_
  rintro e w9 ⟨rfl, rfl⟩
  obtain ⟨rv, hrv⟩ : ∃ rv, rv = (rankR x).1 := ⟨_, rfl⟩
  obtain ⟨rk, hrk⟩ : ∃ rk, rk = (rankR x).2 := ⟨_, rfl⟩
  obtain ⟨sv, hsv⟩ : ∃ sv, sv = (suitR x).1 := ⟨_, rfl⟩
  obtain ⟨sk, hsk⟩ : ∃ sk, sk = (suitR x).2 := ⟨_, rfl⟩
  obtain ⟨cv, hcv⟩ : ∃ cv, cv = (cardR r s).1 := ⟨_, rfl⟩
  obtain ⟨ck, hck⟩ : ∃ ck, ck = (cardR r s).2 := ⟨_, rfl⟩
  obtain ⟨ac, hac⟩ : ∃ ac, ac = arC xs := ⟨_, rfl⟩
  have HV := Lib.hid (And.intro hrv (And.intro hrk (And.intro hsv hac)))
  rw [← hrv, ← hrk, ← hsv, ← hsk, ← hcv, ← hck, ← hac]
  clear hrv hrk hsv hsk hcv hck hac
  go_wp2_with fail
  refine (likeInts_same A3 A4 c3 c4 _ _ (rkL xs) (rkL xs) _ rfl rfl rfl R8.out M8.out RB.out.1).mono ?_
  rintro e w10 ⟨rfl, hb⟩
  have V10 := Lib.hid (V8.out.below hb)
  have U10 := Lib.hid (U8.out.below hb)
  have R10 := Lib.hid (R8.out.below hb)
  have B10 := Lib.hid (B8.out.trans (hb.mono B8.out.size))
  clear hb
  go_wp2_with fail
  refine (likeInts_same A5 A6 c5 c6 _ _ (suL xs) (suL xs) _ rfl rfl rfl U10.out V10.out SB.out.1).mono ?_
  rintro e w11 ⟨rfl, hb⟩
  have U11 := Lib.hid (U10.out.below hb)
  have R11 := Lib.hid (R10.out.below hb)
  have B11 := Lib.hid (B10.out.trans (hb.mono B10.out.size))
  clear hb
  -- the end: the sums
  have ENDS : Hid (ac = 0 → (rkL xs).sum = (xs.length : Int) ∧ (suL xs).sum = (xs.length : Int)) := by
    intro h0
    have h1 := HV.out.2.2.2
    rw [h0] at h1
    unfold arC at h1
    by_cases ha : areC xs = true
    · have hk := (areC_iff xs).1 ha
      exact ⟨(rk_sum hk).2, (su_sum hk).2⟩
    · rw [if_neg ha] at h1; omega
  by_cases h0 : rk = 0
  · have bk : (rk == 0) = true := by rw [h0]; rfl
    have CB : Hid (cardR rv sv = (x, 0)) := by
      show _ = _
      rw [HV.out.1, HV.out.2.2.1]
      exact card_back x (by rw [← HV.out.2.1]; exact h0)
    clear h0
    go_wp2_with fail
    refine (implCardOf_any rv sv _).mono ?_
    rintro e w12 ⟨rfl, rfl⟩
    rw [CB.out]
    by_cases ha : ac = 0
    · have ba : (ac != 0) = false := by rw [ha]; rfl
      have SS := Lib.hid (ENDS.out ha)
      clear ha
      go_wp2_with fail
      refine (sum_any A3 c3 (rkL xs) _ R11.out RB.out.1 RB.out.2).mono ?_
      rintro e w13 ⟨rfl, rfl⟩
      rw [SS.out.1]
      go_wp2_with fail
      refine (sum_any A5 c5 (suL xs) _ U11.out SB.out.1 SB.out.2).mono ?_
      rintro e w13 ⟨rfl, rfl⟩
      rw [SS.out.2]
      go_wp2
      go_ret
      exact ⟨rfl, B11.out⟩
    · have ba : (ac != 0) = true := by simpa using ha
      clear ha
      go_wp2
      go_ret
      exact ⟨rfl, B11.out⟩
  · have bk : (rk == 0) = false := by simpa using h0
    clear h0
    by_cases ha : ac = 0
    · have ba : (ac != 0) = false := by rw [ha]; rfl
      have SS := Lib.hid (ENDS.out ha)
      clear ha
      go_wp2_with fail
      refine (sum_any A3 c3 (rkL xs) _ R11.out RB.out.1 RB.out.2).mono ?_
      rintro e w13 ⟨rfl, rfl⟩
      rw [SS.out.1]
      go_wp2_with fail
      refine (sum_any A5 c5 (suL xs) _ U11.out SB.out.1 SB.out.2).mono ?_
      rintro e w13 ⟨rfl, rfl⟩
      rw [SS.out.2]
      go_wp2
      go_ret
      exact ⟨rfl, B11.out⟩
    · have ba : (ac != 0) = true := by simpa using ha
      clear ha
      go_wp2
      go_ret
      exact ⟨rfl, B11.out⟩

theorem FnCounts_walk (a : Option Addr) (len cap : Nat) (zs : List Int) {w : World} (h : IsRow .u8 w a len cap zs) :
    Calls Try.prog 7 #[.slice a len cap] w fun e w' => e = .returned (.bool true) ∧ Below w.heap.size w w' := by
  obtain ⟨bs, hr⟩ := h.rowU
  exact FnCounts_core a len cap bs w hr
end Go.Proofs.Ytljlnfdbjeinaaa
