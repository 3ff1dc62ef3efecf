/-
  The walk of the law FnBadugis.
-/
import Derived.Test.YtgkhhfkijepenaaBadValue
import Derived.Test.YtgkhhfkijepenaaLowRanksI
import Derived.Test.YtgkhhfkijepenaaDrawFour
import Derived.Test.YtgkhhfkijepenaaSuits
namespace Go.Proofs.Ytgkhhfkijepenaa
open Go.RowKit

/-! ### Two lists are compared (as in LikeInts) -/
/-- A walk over two lists that compares them. -/
theorem likeInts_any (A B : Option Addr) (c d : Nat) (xs ys : List Int) (w : World) (hA : RowI w A xs) (hB : RowI w B ys) (hl : xs.length ≤ 1048576) :
    Calls Try.prog 16 #[.slice A xs.length c, .slice B ys.length d] w fun e w' => e = .returned (.bool (eqL xs ys)) ∧ ∃ n, w' = w.drewN n := by
  by_cases hne : xs.length = ys.length
  · obtain ⟨n, hn⟩ : ∃ n, n = xs.length := ⟨_, rfl⟩
    rw [← hne, ← hn]
    rw [← hn] at hl
    have HN := Lib.hid hn
    have HE := Lib.hid hne
    have HA := Lib.hid hA
    have HB := Lib.hid hB
    clear hn hne hA hB
    go_enter Try.func16, Try.ntmps16
    go_wp2
    go_loopw [5] (fun i wr => ∃ k : Nat, k ≤ n ∧ i = .int .i64 k ∧ xs.take k = ys.take k ∧ ∃ m, wr = w.drewN m) (fun i _ => n - (intOf i).toNat)
    case atStart => exact ⟨0, Nat.zero_le _, rfl, by simp, 0, rfl⟩
    case round =>
      obtain ⟨k, hk, rfl, ht, m, rfl⟩ := hrel
      have HT := Lib.hid ht
      clear ht
      by_cases hlt : k < n
      · have hkx : k < xs.length := by rw [← HN.out]; exact hlt
        have hky : k < ys.length := by rw [← HE.out, ← HN.out]; exact hlt
        obtain ⟨b, off, rfl, hb, hc⟩ := HA.out.at_ hkx
        obtain ⟨b', off', rfl, hb', hc'⟩ := HB.out.at_ hky
        obtain ⟨x, hx⟩ : ∃ x, x = xs.getD k 0 := ⟨_, rfl⟩
        obtain ⟨y, hy⟩ : ∃ y, y = ys.getD k 0 := ⟨_, rfl⟩
        rw [← hx] at hc
        rw [← hy] at hc'
        have HX := Lib.hid hx
        have HY := Lib.hid hy
        have HKX := Lib.hid hkx
        have HKY := Lib.hid hky
        clear hx hy hb hb' hkx hky
        have i0 : (0 : Int) ≤ (k : Int) := by omega
        have i1 : (k : Int) < (n : Int) := by omega
        by_cases hxy : x = y
        · subst hxy
          go_wp2
          go_quiet (fail)
          go_wp2
          go_roundw
          case rel => exact ⟨k + 1, by omega, by go_num, take_succ_eq HKX.out HKY.out HT.out (HX.out.symm.trans HY.out), _, rfl⟩
          case measure => simp [intOf]; omega
        · have hb1 : (x != y) = true := by simpa using hxy
          have R : Hid (eqL xs ys = false) := eqL_no (fun e => hxy (by rw [HX.out, HY.out, e]))
          clear hxy
          go_wp2
          go_quiet (fail)
          go_wp2
          go_ret
          exact ⟨ret_bool R.out.symm, _, World.drewN_drewN _ _ _⟩
      · have hkn : k = n := by omega
        subst hkn
        clear hlt
        go_wp2
        go_ret
        refine ⟨ret_bool ?_, m, rfl⟩
        have : xs = ys := eq_of_take HE.out (by rw [← HN.out]; exact HT.out)
        rw [this, eqL_self]
  · have R : Hid (eqL xs ys = false) := eqL_no (fun e => hne (by rw [e]))
    have h1 : ((xs.length : Int) != (ys.length : Int)) = true := by simp; omega
    clear hA hB hne
    go_enter Try.func16, Try.ntmps16
    go_wp2
    go_ret
    exact ⟨ret_bool R.out.symm, 0, rfl⟩
theorem likeInts_same (A B : Option Addr) (c d len len' : Nat) (xs ys : List Int) (w : World) (h1 : len = xs.length) (h2 : len' = ys.length) (he : xs = ys) (hA : RowI w A xs) (hB : RowI w B ys) (hl : xs.length ≤ 1048576) :
    Calls Try.prog 16 #[.slice A len c, .slice B len' d] w fun e w' => e = .returned (.bool true) ∧ Below w.heap.size w w' := by
  subst h1 h2 he
  refine (likeInts_any A B c d xs xs w hA hB hl).mono ?_
  rintro e w' ⟨rfl, n, rfl⟩
  exact ⟨by rw [eqL_self], below_drewN (Below.refl _ _) n⟩

theorem sortS_down {ds : List Int} (h : ds.Pairwise (fun a b => b < a)) : (sortS ds).reverse = ds := by
  have h1 := sort_facts ds [] List.Pairwise.nil
  have h2 : ds.reverse.Pairwise (· ≤ ·) := by
    rw [List.pairwise_reverse]
    exact h.imp (fun h => Int.le_of_lt h)
  have h3 : (sortS ds).Perm ds.reverse := by
    have : (sortS ds).Perm ds := by simpa [sortS] using h1.2
    exact this.trans (List.reverse_perm ds).symm
  have e : sortS ds = ds.reverse := List.Perm.eq_of_pairwise (le := fun x y : Int => x ≤ y) (fun a b _ _ h k => by omega) h1.1 h2 h3
  rw [e, List.reverse_reverse]
theorem low_bg {ys : List Int} (h : szP ys 4 4) : lowL (bgL ys) = (bgL ys).map lowI ∧ lowC (bgL ys) = 0 := by
  have h4 : ys.length = 4 := by have := h.1; have := h.2.1; omega
  have hs : szP (bgL ys) 0 8 := ⟨Nat.zero_le _, by have := (bgL_facts h.2.2 h4).2.2.2; omega, bgL_ok h.2.2 h4⟩
  unfold lowL lowC
  rw [if_pos hs, if_pos hs]
  refine ⟨sortS_down ?_, rfl⟩
  rw [List.pairwise_map]
  exact bgL_down h.2.2 h4
theorem cnt_one {L : List Int} (ha : apB L = true) (j : Nat) : ∀ k, k ≤ L.length → cntN suKey L j k ≤ 1 ∧ (cntN suKey L j k = 1 → ∃ i, i < k ∧ suKey (L.getD i 0) = (j : Int))
  | 0, _ => ⟨by simp [cntN], fun h => by simp [cntN] at h⟩
  | k + 1, hk => by
    obtain ⟨h1, h2⟩ := cnt_one ha j k (by omega)
    have h0 := (cntN_le suKey L j k).1
    rw [cntN_succ]
    by_cases e : suKey (L.getD k 0) = (j : Int)
    · rw [if_pos e]
      have hz : cntN suKey L j k ≠ 1 := fun h => by
        obtain ⟨i, hi, hj⟩ := h2 h
        have := List.pairwise_iff_getElem.1 (apB_iff.1 ha) i k (by omega) (by omega) hi
        rw [List.getD_eq_getElem?_getD, List.getElem?_eq_getElem (by omega)] at hj e
        exact this.2 (hj.trans e.symm)
      exact ⟨by omega, fun _ => ⟨k, by omega, e⟩⟩
    · rw [if_neg e]
      refine ⟨by omega, fun h => ?_⟩
      obtain ⟨i, hi, hj⟩ := h2 (by omega)
      exact ⟨i, by omega, hj⟩
theorem suits_bg {ys : List Int} (h : szP ys 4 4) : (suL (bgL ys)).length = 4 ∧ arC (bgL ys) = 0 ∧ ∀ j, j < 4 → 0 ≤ (suL (bgL ys)).getD j 0 ∧ (suL (bgL ys)).getD j 0 ≤ 1 := by
  have h4 : ys.length = 4 := by have := h.1; have := h.2.1; omega
  have ha := (areC_iff _).2 (bgL_ok h.2.2 h4)
  unfold suL arC
  rw [if_pos ha, if_pos ha]
  refine ⟨cntL_length _ _ _, rfl, fun j hj => ?_⟩
  rw [cntL_getD _ _ _ _ hj]
  exact ⟨(cntN_le _ _ _ _).1, (cnt_one (bgL_facts h.2.2 h4).2.1 j _ (Nat.le_refl _)).1⟩
theorem low_len (xs : List Int) : (lowL xs).length ≤ 1048576 := by
  unfold lowL
  split
  · rename_i hs
    have := hs.2.1
    rw [List.length_reverse, sortS_length, List.length_map]; omega
  · simp
theorem bc_len (xs : List Int) : (bcL xs).length ≤ 4 := by
  unfold bcL
  split
  · rename_i hs
    exact (bgL_facts hs.2.2 (by have := hs.1; have := hs.2.1; omega)).2.2.2
  · simp
theorem implLow_len (A : Option Addr) (c : Nat) (xs : List Int) (len : Nat) (w : World) (hlen : len = xs.length) (h : RowI w A xs) (hl : xs.length ≤ 1048576) :
    Calls Try.prog 14 #[.slice A len c] w (GivesC w (lowL xs) (lowC xs)) := by subst hlen; exact implLow_any A c xs w h hl
theorem implSuits_len (A : Option Addr) (c : Nat) (xs : List Int) (len : Nat) (w : World) (hlen : len = xs.length) (h : RowI w A xs) (hl : xs.length ≤ 1048576) :
    Calls Try.prog 17 #[.slice A len c] w (GivesC w (suL xs) (arC xs)) := by subst hlen; exact implSuitsIn_any A c xs w h hl

set_option maxHeartbeats 4000000 in
set_option maxRecDepth 8000 in
theorem FnBadugis_core (A : Option Addr) (n c : Nat) (bs : Nat → Int) (w : World) (h : RowU w A n bs) :
    Calls Try.prog 3 #[.slice A n c] w fun e w' => e = .returned (.bool true) ∧ Below w.heap.size w w' := by
  have HR := Lib.hid h
  clear h
  by_cases hn : 4096 < n
  · have D : Hid (decide (4096 < n) = true) := decide_eq_true hn
    go_enter Try.func3, Try.ntmps3
    go_wp2_with fail
    refine (big_any A n c _).mono ?_
    rintro e w1 ⟨rfl, rfl⟩
    rw [D.out]
    go_wp2
    go_ret
    exact ⟨rfl, Below.refl _ _⟩
  have D : Hid (decide (4096 < n) = false) := decide_eq_false hn
  have hn2 : n ≤ 1048576 := by omega
  clear hn
  go_enter Try.func3, Try.ntmps3
  go_wp2_with fail
  refine (big_any A n c _).mono ?_
  rintro e w1 ⟨rfl, rfl⟩
  rw [D.out]
  go_wp2_with fail
  refine (drawBadugi_any A n c bs _ HR.out hn2).mono ?_
  rintro e w2 ⟨ys, A2, c2, rfl, hr, hl, hc, hm, hb⟩
  have Y2 := Lib.hid hr
  have B2 := Lib.hid hb
  have LC := Lib.hid (And.intro hc hm)
  have hl2 : ys.length ≤ 1048576 := by omega
  clear hr hb hc hm hl
  go_wp2_with fail
  refine (implBadV_any A2 c2 ys _ Y2.out hl2).mono ?_
  rintro e w3 ⟨rfl, hb⟩
  have C3 := Lib.hid hb
  clear hb
  go_wp2_with fail
  refine (specBadV_any A2 c2 ys _ (Y2.out.below C3.out) LC.out.1 LC.out.2 hl2).mono ?_
  rintro e w4 ⟨rfl, hb⟩
  have C4 := Lib.hid (C3.out.trans (hb.mono C3.out.size))
  clear hb
  go_wp2_with fail
  refine (implBad_any A2 c2 ys _ (Y2.out.below C4.out) hl2).mono ?_
  rintro e w5 ⟨A3, c3, rfl, ho, hb⟩
  have O5 := Lib.hid ho.row
  have C5 := Lib.hid (C4.out.trans (hb.mono C4.out.size))
  clear ho hb
  go_wp2_with fail
  refine (specBad_any A2 c2 ys _ (Y2.out.below C5.out) LC.out.1 LC.out.2 hl2).mono ?_
  rintro e w6 ⟨A4, c4, rfl, ho, hb⟩
  have O6 := Lib.hid ho.row
  have P6 := Lib.hid (O5.out.below hb)
  have B6 := Lib.hid (B2.out.trans ((C5.out.trans (hb.mono C5.out.size)).mono B2.out.size))
  clear ho hb
  obtain ⟨V, hV⟩ : ∃ V, V = bvV ys := ⟨_, rfl⟩
  obtain ⟨C, hC⟩ : ∃ C, C = bcC ys := ⟨_, rfl⟩
  obtain ⟨L, hL⟩ : ∃ L, L = bcL ys := ⟨_, rfl⟩
  rw [← hL] at O6 P6
  rw [← hV, ← hC, ← hL]
  obtain ⟨ln, hln⟩ : ∃ ln, ln = L.length := ⟨_, rfl⟩
  have l4 : ln ≤ 4 := by rw [hln, hL]; exact bc_len ys
  rw [← hln]
  have NM := Lib.hid (And.intro hV (And.intro hC hL))
  have LN := Lib.hid hln
  obtain ⟨yl, hyl⟩ : ∃ yl, yl = ys.length := ⟨_, rfl⟩
  rw [← hyl]
  clear hV hC hL hln hyl hl2 Y2 B2 LC C3 C4 O5 C5
  go_wp2_with fail
  refine (drawLow_any A n c bs _ (HR.out.below B6.out) hn2).mono ?_
  rintro e w7 ⟨zs, A5, c5, rfl, hr, hl, hc, hm, hb⟩
  have Z7 := Lib.hid hr
  have B7 := Lib.hid (B6.out.trans (hb.mono B6.out.size))
  have O7 := Lib.hid (O6.out.below hb)
  have P7 := Lib.hid (P6.out.below hb)
  have hl5 : zs.length ≤ 1048576 := by omega
  clear hr hb hc hm hl O6 P6 B6
  go_wp2_with fail
  refine (implLow_any A5 c5 zs _ Z7.out hl5).mono ?_
  rintro e w8 ⟨A6, c6, rfl, ho, hb⟩
  have R8 := Lib.hid ho.row
  have Z8 := Lib.hid (Z7.out.below hb)
  have D8 := Lib.hid hb
  clear ho hb
  go_wp2_with fail
  refine (specLow_any A5 c5 zs _ Z8.out hl5).mono ?_
  rintro e w9 ⟨A7, c7, rfl, ho, hb⟩
  have S9 := Lib.hid ho.row
  have R9 := Lib.hid (R8.out.below hb)
  have D9 := Lib.hid (D8.out.trans (hb.mono D8.out.size))
  have B9 := Lib.hid (B7.out.trans (D9.out.mono B7.out.size))
  have O9 := Lib.hid (O7.out.below D9.out)
  have P9 := Lib.hid (P7.out.below D9.out)
  clear ho hb
  obtain ⟨E, hE⟩ : ∃ E, E = lowC zs := ⟨_, rfl⟩
  obtain ⟨M, hM⟩ : ∃ M, M = lowL zs := ⟨_, rfl⟩
  rw [← hM] at S9 R9
  rw [← hE, ← hM]
  obtain ⟨mn, hmn⟩ : ∃ mn, mn = M.length := ⟨_, rfl⟩
  have ML : Hid (M.length ≤ 1048576) := by show _ ≤ _; rw [hM]; exact low_len zs
  rw [← hmn]
  have MN := Lib.hid hmn
  obtain ⟨zl, hzl⟩ : ∃ zl, zl = zs.length := ⟨_, rfl⟩
  rw [← hzl]
  clear hE hM hmn hzl hl5 Z7 B7 O7 P7 R8 Z8 D8 D9
  go_wp2_with fail
  refine (likeInts_same A3 A4 c3 c4 ln ln L L _ LN.out LN.out rfl P9.out O9.out (by rw [← LN.out]; omega)).mono ?_
  rintro e w10 ⟨rfl, hb⟩
  have B10 := Lib.hid (B9.out.trans (hb.mono B9.out.size))
  have P10 := Lib.hid (P9.out.below hb)
  have R10 := Lib.hid (R9.out.below hb)
  have S10 := Lib.hid (S9.out.below hb)
  clear hb B9 O9 P9 R9 S9
  go_wp2_with fail
  refine (likeInts_same A6 A7 c6 c7 mn mn M M _ MN.out MN.out rfl R10.out S10.out ML.out).mono ?_
  rintro e w11 ⟨rfl, hb⟩
  have B11 := Lib.hid (B10.out.trans (hb.mono B10.out.size))
  have P11 := Lib.hid (P10.out.below hb)
  clear hb B10 P10 R10 S10
  by_cases hs : szP ys 4 4
  · have C0 : C = 0 := by rw [NM.out.2.1]; exact (bc_yes hs).2
    have LG : L = bgL ys := by rw [NM.out.2.2]; exact (bc_yes hs).1
    have VG : V = digI (L.map lowI) + 28561 * (4 - (ln : Int)) := by rw [NM.out.1, bv_yes hs, LN.out, LG]
    obtain ⟨q1, q2⟩ := low_bg hs
    obtain ⟨s1, s2, s3⟩ := suits_bg hs
    rw [← LG] at q1 q2 s1 s2 s3
    have QL := Lib.hid (And.intro q1 q2)
    have QS := Lib.hid (And.intro s1 (And.intro s2 s3))
    have HVG := Lib.hid VG
    obtain ⟨X, hX⟩ : ∃ X, X = L.map lowI := ⟨_, rfl⟩
    have XL : Hid (X.length = ln) := by show _ = _; rw [hX, List.length_map, LN.out]
    have XD : Hid (∀ d ∈ X, 0 ≤ d ∧ d ≤ 12) := by show ∀ d ∈ X, _; rw [hX]; exact low_digs L
    have HX := Lib.hid hX
    subst C0
    clear hs LG VG q1 q2 s1 s2 s3 hX NM
    go_wp2_with fail
    refine (implLow_len A3 c3 L ln _ LN.out P11.out (by rw [← LN.out]; omega)).mono ?_
    rintro e w12 ⟨A8, c8, rfl, ho, hb⟩
    rw [QL.out.1, QL.out.2, ← HX.out, XL.out]
    rw [QL.out.1, ← HX.out] at ho
    have O12 := Lib.hid ho.row
    have B12 := Lib.hid (B11.out.trans (hb.mono B11.out.size))
    have P12 := Lib.hid (P11.out.below hb)
    clear ho hb B11 P11
    go_wp2
    go_loop [19, 20] (fun v i => ∃ (k : Nat) (y : Int), k ≤ ln ∧ i = .int .i64 k ∧ v = .int .i64 y ∧ Hid (y = digI (X.take k))) (fun _ i => ln - (intOf i).toNat)
    case atStart => exact ⟨0, 0, Nat.zero_le _, rfl, rfl, rfl⟩
    case round =>
      obtain ⟨k, y, hk, rfl, rfl, HY⟩ := hrel
      have yb : 0 ≤ y ∧ y < 28561 := by rw [HY.out]; exact digI_small (fun d hd => XD.out d (List.mem_of_mem_take hd)) (by rw [List.length_take, XL.out]; omega)
      obtain ⟨y0, y1⟩ := yb
      by_cases hlt : k < ln
      · have hkx : k < X.length := by rw [XL.out]; exact hlt
        obtain ⟨b, off, rfl, hb, hcell⟩ := O12.out.at_ hkx
        obtain ⟨d, hd⟩ : ∃ d, d = X.getD k 0 := ⟨_, rfl⟩
        have d01 : 0 ≤ d ∧ d ≤ 12 := XD.out d (by rw [hd, List.getD_eq_getElem?_getD, List.getElem?_eq_getElem hkx]; exact List.getElem_mem hkx)
        have NX : Hid (13 * y + d = digI (X.take (k + 1))) := by show _ = _; rw [take_snoc hkx, digI_snoc, ← HY.out, hd]
        rw [← hd] at hcell
        obtain ⟨d0, d1⟩ := d01
        clear hd hb hkx
        go_wp2
        go_round
        case rel => exact ⟨k + 1, 13 * y + d, by omega, by go_num, by go_num, NX.out⟩
        case measure => simp [intOf]; omega
      · have hkn : k = ln := by omega
        have VY : V = y + 28561 * (4 - (ln : Int)) := by rw [HVG.out, HY.out, ← HX.out, List.take_of_length_le (by rw [XL.out]; omega)]
        subst VY
        clear hkn
        go_wp2_with fail
        refine (implSuits_len A3 c3 L ln _ LN.out P12.out (by rw [← LN.out]; omega)).mono ?_
        rintro e w13 ⟨A9, c9, rfl, ho, hb⟩
        rw [QS.out.1, QS.out.2.1]
        have O13 := Lib.hid ho.row
        have B13 := Lib.hid (B12.out.trans (hb.mono B12.out.size))
        clear ho hb hlt
        go_wp2
        go_loop [23] (fun i => ∃ k : Nat, k ≤ 4 ∧ i = .int .i64 k) (fun i => 4 - (intOf i).toNat)
        case atStart => exact ⟨0, Nat.zero_le _, rfl⟩
        case round =>
          obtain ⟨j, hj, rfl⟩ := hrel
          by_cases hjt : j < 4
          · obtain ⟨b, off, rfl, hb, hcell⟩ := O13.out.at_ (k := j) (by rw [QS.out.1]; exact hjt)
            obtain ⟨s, hs⟩ : ∃ s, s = (suL L).getD j 0 := ⟨_, rfl⟩
            have sb := QS.out.2.2 j hjt
            rw [← hs] at hcell sb
            obtain ⟨sb0, sb1⟩ := sb
            clear hs hb
            go_wp2
            go_round
            case rel => exact ⟨j + 1, by omega, by go_num⟩
            case measure => simp [intOf]; omega
          · clear hj
            go_wp2
            go_ret
            exact ⟨rfl, B13.out⟩
  · have C1 : C = 1 := by rw [NM.out.2.1]; exact (bc_no hs).2
    subst C1
    clear hs NM
    go_wp2
    go_ret
    exact ⟨rfl, B11.out⟩

theorem FnBadugis_walk (a : Option Addr) (len cap : Nat) (zs : List Int) {w : World} (h : IsRow .u8 w a len cap zs) :
    Calls Try.prog 3 #[.slice a len cap] w fun e w' => e = .returned (.bool true) ∧ Below w.heap.size w w' := by
  obtain ⟨bs, hr⟩ := h.rowU
  exact FnBadugis_core a len cap bs w hr
end Go.Proofs.Ytgkhhfkijepenaa
