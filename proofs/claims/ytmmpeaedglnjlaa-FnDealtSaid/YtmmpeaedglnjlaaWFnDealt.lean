/-
  The walk of the law FnDealt.
-/
import Derived.Test.YtmmpeaedglnjlaaDrawDealt
import Derived.Test.YtmmpeaedglnjlaaDealW
import Derived.Test.YtmmpeaedglnjlaaCut
import Derived.Test.YtmmpeaedglnjlaaMathDealt2
namespace Go.Proofs.Ytmmpeaedglnjlaa
open Go.RowKit

theorem deal_bounds {ys : List Int} {h d : Int} : (dealL ys h d).length ≤ 1048576 ∧ ∀ r ∈ dealL ys h d, r.length ≤ 1048576 := by
  unfold dealL
  split
  · rename_i hk
    obtain ⟨_, hh, hc⟩ := hk
    have hq : (52 : Int) / h ≤ 52 := Int.ediv_le_self _ (by omega)
    refine ⟨by rw [dealK_length]; omega, fun r hr => ?_⟩
    obtain ⟨m, _, rfl⟩ := List.mem_map.1 hr
    rw [handK_length]; omega
  · exact ⟨by simp, fun r hr => by cases hr⟩
theorem dealC_ne {ys : List Int} {h d : Int} (hk : ¬ dealOk ys h d) : dealC ys h d ≠ 0 := by
  unfold dealC
  by_cases h1 : deckB ys = true
  · rw [if_pos h1, if_neg hk]; decide
  · rw [if_neg h1]; decide
theorem deal_yes {ys : List Int} {h d : Int} (hk : dealOk ys h d) : dealC ys h d = 0 ∧ dealL ys h d = dealK ys h.toNat d.toNat h.toNat := by
  unfold dealC dealL
  rw [if_pos ((deckB_iff ys).2 hk.1), if_pos hk, if_pos hk]
  exact ⟨rfl, rfl⟩
theorem plac_no {es : List Int} {cd : Int} (h : ¬ (deckB es = true ∧ 0 ≤ cd ∧ cd ≤ 51)) : (placR es cd).2 ≠ 0 := by
  unfold placR
  split
  · rename_i h1
    split
    · rename_i h2; exact absurd ⟨h1, h2⟩ h
    · decide
  · decide
theorem plac_yes {es : List Int} {cd : Int} (h : deckB es = true ∧ 0 ≤ cd ∧ cd ≤ 51) : ∃ p : Nat, placR es cd = ((p : Int), 0) ∧ p < es.length ∧ es.getD p 0 = cd := by
  have hm := deck_mem ((deckB_iff es).1 h.1) h.2.1 h.2.2
  have hl : es.idxOf cd < es.length := List.idxOf_lt_length_of_mem hm
  refine ⟨es.idxOf cd, ?_, hl, ?_⟩
  · unfold placR placeI
    rw [if_pos h.1, if_pos h.2]
  · rw [List.getD_eq_getElem?_getD, List.getElem?_eq_getElem hl]
    exact List.getElem_idxOf hl
theorem implRest_len (A : Option Addr) (c : Nat) (xs : List Int) (len : Nat) (n : Int) (w : World) (hlen : len = xs.length) (h : RowI w A xs) (hcap : xs.length ≤ c) (hm : c ≤ maxLen) (hl : xs.length ≤ 1048576) :
    Calls Try.prog 23 #[.slice A len c, .int .i64 n] w (GivesC w (restL xs n) (codeR xs n)) := by subst hlen; exact implRest_any A c xs n w h hcap hm hl
theorem implIsDeck_len (A : Option Addr) (c : Nat) (xs : List Int) (len : Nat) (w : World) (hlen : len = xs.length) (h : RowI w A xs) (hl : xs.length ≤ 1048576) :
    Calls Try.prog 27 #[.slice A len c] w fun e w' => e = .returned (.bool (deckB xs)) ∧ Below w.heap.size w w' := by subst hlen; exact implIsDeck_any A c xs w h hl
theorem rest_yes {ys : List Int} (h : deckP ys) {m : Nat} (hm : m ≤ 52) : restL ys (m : Int) = ys.drop m ∧ codeR ys (m : Int) = 0 := by
  have hc : codeR ys (m : Int) = 0 := by
    unfold codeR
    rw [if_pos ((deckB_iff ys).2 h), if_pos (by omega)]
  unfold restL
  rw [if_pos hc]
  exact ⟨rfl, hc⟩

set_option maxHeartbeats 8000000 in
set_option maxRecDepth 8000 in
theorem FnDealt_core (A : Option Addr) (n c : Nat) (bs : Nat → Int) (w : World) (h : RowU w A n bs) :
    Calls Try.prog 5 #[.slice A n c] w fun e w' => e = .returned (.bool true) ∧ Below w.heap.size w w' := by
  have HR := Lib.hid h
  clear h
  by_cases hn : 4096 < n
  · have D : Hid (decide (4096 < n) = true) := decide_eq_true hn
    go_enter Try.func5, Try.ntmps5
    go_wp2_with fail
    refine (big_any A n c _).mono ?_
    rintro e w1 ⟨rfl, rfl⟩
    rw [D.out]
    go_wp2
    go_ret
    exact ⟨rfl, Below.refl _ _⟩
  have D : Hid (decide (4096 < n) = false) := decide_eq_false hn
  have hn2 : n ≤ 1048576 := by omega
  obtain ⟨i0, hi, hz0, hz1, hz2⟩ := info_parts int_info
  have HI := Lib.hid (And.intro hi (And.intro hz0 (And.intro hz1 hz2)))
  clear hn hi hz0 hz1 hz2
  go_enter Try.func5, Try.ntmps5
  go_wp2_with fail
  refine (big_any A n c _).mono ?_
  rintro e w1 ⟨rfl, rfl⟩
  rw [D.out]
  go_wp2_with fail
  refine (drawDeal_any A n c bs _ HR.out hn2).mono ?_
  rintro e w2 ⟨ys, A2, c2, x, y, rfl, hx, hy, hr, hl, hc, hm, hb⟩
  have Y2 := Lib.hid hr
  have B2 := Lib.hid hb
  have LC := Lib.hid (And.intro hc hm)
  have XY := Lib.hid (And.intro hx hy)
  have hl2 : ys.length ≤ 1048576 := by omega
  clear hr hb hc hm hl hx hy
  go_wp2_with fail
  refine (implDeal_any A2 c2 ys x y _ Y2.out hl2).mono ?_
  rintro e w3 ⟨A3, c3, rfl, hS, _, hb⟩
  have S3 := Lib.hid hS.lists
  have C3 := Lib.hid hb
  clear hS hb
  go_wp2_with fail
  refine (specDeal_any A2 c2 ys x y _ (Y2.out.below C3.out) hl2).mono ?_
  rintro e w4 ⟨A4, c4, rfl, hS, hb⟩
  have T4 := Lib.hid hS
  have S4 := Lib.hid (S3.out.below hb)
  have C4 := Lib.hid (C3.out.trans (hb.mono C3.out.size))
  have Y4 := Lib.hid (Y2.out.below C4.out)
  have B4 := Lib.hid (B2.out.trans (C4.out.mono B2.out.size))
  clear hS hb
  obtain ⟨yss, hyss⟩ : ∃ yss, yss = dealL ys x y := ⟨_, rfl⟩
  obtain ⟨dc, hdc⟩ : ∃ dc, dc = dealC ys x y := ⟨_, rfl⟩
  rw [← hyss] at T4 S4
  rw [← hyss, ← hdc]
  have DL := Lib.hid (And.intro hyss hdc)
  have DB : Hid (yss.length ≤ 1048576 ∧ ∀ r ∈ yss, r.length ≤ 1048576) := by show _ ∧ _; rw [hyss]; exact deal_bounds
  obtain ⟨yn, hyn⟩ : ∃ yn, yn = yss.length := ⟨_, rfl⟩
  rw [← hyn]
  have YN := Lib.hid hyn
  obtain ⟨yl, hyl⟩ : ∃ yl, yl = ys.length := ⟨_, rfl⟩
  have LY := Lib.hid hyl
  rw [← hyl]
  clear hyss hdc hyn hyl hl2 Y2 B2 S3 C3 C4
  go_wp2_with fail
  refine (drawPlace_any A n c bs _ (HR.out.below B4.out) hn2).mono ?_
  rintro e w5 ⟨es, A5, c5, cd, rfl, x0, x1, hr, hl, hc, hm, hb⟩
  have E5 := Lib.hid hr
  have B5 := Lib.hid (B4.out.trans (hb.mono B4.out.size))
  have Y5 := Lib.hid (Y4.out.below hb)
  have S5 := Lib.hid (S4.out.below hb)
  have T5 := Lib.hid (T4.out.below hb)
  have hl5 : es.length ≤ 1048576 := by omega
  clear hr hb hc hm hl B4 Y4 S4 T4 x0 x1
  go_wp2_with fail
  refine (implPlaceOf_any A5 c5 es cd _ E5.out hl5).mono ?_
  rintro e w6 ⟨rfl, hb⟩
  have D6 := Lib.hid hb
  clear hb
  go_wp2_with fail
  refine (specPlaceOf_any A5 c5 es cd _ (E5.out.below D6.out) hl5).mono ?_
  rintro e w7 ⟨rfl, hb⟩
  have D7 := Lib.hid (D6.out.trans (hb.mono D6.out.size))
  have B7 := Lib.hid (B5.out.trans (D7.out.mono B5.out.size))
  have E7 := Lib.hid (E5.out.below D7.out)
  have Y7 := Lib.hid (Y5.out.below D7.out)
  have S7 := Lib.hid (S5.out.below D7.out)
  have T7 := Lib.hid (T5.out.below D7.out)
  clear hb B5 E5 Y5 S5 T5 D6 D7
  obtain ⟨p1, hp1⟩ : ∃ p1, p1 = (placR es cd).1 := ⟨_, rfl⟩
  obtain ⟨p2, hp2⟩ : ∃ p2, p2 = (placR es cd).2 := ⟨_, rfl⟩
  rw [← hp1, ← hp2]
  have PL := Lib.hid (And.intro hp1 hp2)
  obtain ⟨el, hel⟩ : ∃ el, el = es.length := ⟨_, rfl⟩
  rw [← hel]
  have EL := Lib.hid hel
  clear hp1 hp2 hel hl5
  go_wp2_with fail
  refine (drawRest_any A n c bs _ (HR.out.below B7.out) hn2).mono ?_
  rintro e w8 ⟨fs, A6, c6, u, rfl, x0, x1, hr, hl, hc, hm, hb⟩
  have F8 := Lib.hid hr
  have LF := Lib.hid (And.intro hc hm)
  have B8 := Lib.hid (B7.out.trans (hb.mono B7.out.size))
  have E8 := Lib.hid (E7.out.below hb)
  have Y8 := Lib.hid (Y7.out.below hb)
  have S8 := Lib.hid (S7.out.below hb)
  have T8 := Lib.hid (T7.out.below hb)
  have hl8 : fs.length ≤ 1048576 := by omega
  clear hr hb hc hm hl B7 E7 Y7 S7 T7 x0 x1
  go_wp2_with fail
  refine (implRest_any A6 c6 fs u _ F8.out LF.out.1 LF.out.2 hl8).mono ?_
  rintro e w9 ⟨A7, c7, rfl, ho, hb⟩
  have O9 := Lib.hid ho.row
  have D9 := Lib.hid hb
  clear ho hb
  go_wp2_with fail
  refine (specRest_any A6 c6 fs u _ (F8.out.below D9.out) LF.out.1 LF.out.2 hl8).mono ?_
  rintro e w10 ⟨A8, c8, rfl, ho, hb⟩
  have P10 := Lib.hid ho.row
  have O10 := Lib.hid (O9.out.below hb)
  have D10 := Lib.hid (D9.out.trans (hb.mono D9.out.size))
  have B10 := Lib.hid (B8.out.trans (D10.out.mono B8.out.size))
  have E10 := Lib.hid (E8.out.below D10.out)
  have Y10 := Lib.hid (Y8.out.below D10.out)
  have S10 := Lib.hid (S8.out.below D10.out)
  have T10 := Lib.hid (T8.out.below D10.out)
  clear ho hb B8 E8 Y8 S8 T8 D9 D10 O9 F8 LF
  obtain ⟨R, hR⟩ : ∃ R, R = restL fs u := ⟨_, rfl⟩
  obtain ⟨rc, hrc⟩ : ∃ rc, rc = codeR fs u := ⟨_, rfl⟩
  rw [← hR] at P10 O10
  rw [← hR, ← hrc]
  obtain ⟨rn, hrn⟩ : ∃ rn, rn = R.length := ⟨_, rfl⟩
  have RN := Lib.hid hrn
  have RB : Hid (R.length ≤ 1048576) := by
    show _ ≤ _
    rw [hR]; unfold restL; split
    · rw [List.length_drop]; omega
    · simp
  rw [← hrn]
  obtain ⟨fl, hfl⟩ : ∃ fl, fl = fs.length := ⟨_, rfl⟩
  rw [← hfl]
  clear hR hrc hrn hfl hl8
  go_wp2_with fail
  refine (likeSS_same A3 A4 c3 c4 yn yn _ _ yss _ YN.out YN.out S10.out T10.out DB.out.1 DB.out.2).mono ?_
  rintro e w11 ⟨rfl, n11, hw11⟩
  have D11 : Below w10.heap.size w10 w11 := by rw [hw11]; exact below_drewN (Below.refl _ _) _
  have B11 := Lib.hid (B10.out.trans (D11.mono B10.out.size))
  have E11 := Lib.hid (E10.out.below D11)
  have Y11 := Lib.hid (Y10.out.below D11)
  have S11 := Lib.hid (S10.out.below D11)
  have O11 := Lib.hid (O10.out.below D11)
  have P11 := Lib.hid (P10.out.below D11)
  clear hw11 D11 B10 E10 Y10 S10 T10 O10 P10
  go_wp2_with fail
  refine (likeInts_same A7 A8 c7 c8 rn rn R R _ RN.out RN.out rfl O11.out P11.out RB.out).mono ?_
  rintro e w12 ⟨rfl, hb⟩
  have B12 := Lib.hid (B11.out.trans (hb.mono B11.out.size))
  have E12 := Lib.hid (E11.out.below hb)
  have Y12 := Lib.hid (Y11.out.below hb)
  have S12 := Lib.hid (S11.out.below hb)
  clear hb B11 E11 Y11 S11 O11 P11
  by_cases hp : deckB es = true ∧ 0 ≤ cd ∧ cd ≤ 51
  · obtain ⟨p, e1, e2, e3⟩ := plac_yes hp
    have q1 : p1 = (p : Int) := by rw [PL.out.1, e1]
    have q2 : p2 = 0 := by rw [PL.out.2, e1]
    subst q1 q2
    obtain ⟨b5, off5, rfl, hb5, hcell⟩ := E12.out.at_ e2
    rw [e3] at hcell
    have ip0 : (0 : Int) ≤ (p : Int) := by omega
    have ip1 : (p : Int) < (el : Int) := by rw [EL.out]; omega
    clear hp e1 e2 e3 hb5 PL EL
    by_cases hk : dealOk ys x y
    · obtain ⟨hd0, hd1⟩ := deal_yes hk
      have DC0 : dc = 0 := by rw [DL.out.2, hd0]
      subst DC0
      obtain ⟨hdk, hh, hc0, hc1⟩ := hk
      obtain ⟨N, rfl⟩ := Int.eq_ofNat_of_zero_le (show 0 ≤ x by omega)
      obtain ⟨C, rfl⟩ := Int.eq_ofNat_of_zero_le hc0
      have hq : (52 : Int) / (N : Int) ≤ 52 := Int.ediv_le_self _ (by omega)
      have hN1 : 1 ≤ N := by omega
      have hN10 : N ≤ 10 := by omega
      have hC52 : C ≤ 52 := by omega
      have hroom : N * C ≤ 52 := by rw [Nat.mul_comm]; exact deal_room hN1 hN10 hc1
      have YK : Hid (yss = dealK ys N C N) := by show _ = _; rw [DL.out.1, hd1]; simp
      have YNN : Hid (yn = N) := by show _ = _; rw [YN.out, YK.out, dealK_length]
      have DK := Lib.hid hdk
      obtain ⟨m, hm⟩ : ∃ m, m = N * C := ⟨_, rfl⟩
      have hmi : (N : Int) * (C : Int) = (m : Int) := by rw [hm]; simp
      have m52 : m ≤ 52 := by omega
      have HM := Lib.hid hm
      have RY := Lib.hid (rest_yes hdk m52)
      have LY2 : Hid (ys.length = 52) := hdk.2
      clear hd0 hd1 hdk hh hc0 hc1 hq hroom hm DL
      go_wp2_with fail
      refine (implRest_len A2 c2 ys yl (m : Int) _ LY.out Y12.out LC.out.1 LC.out.2 (by rw [LY2.out]; omega)).mono ?_
      rintro e w13 ⟨A9, c9, rfl, ho, hb⟩
      rw [RY.out.1, RY.out.2]
      rw [RY.out.1] at ho
      have TLN : Hid ((ys.drop m).length = 52 - m) := by show _ = _; rw [List.length_drop, LY2.out]
      rw [TLN.out]
      have RD := Lib.hid ho.row.reads
      have B13 := Lib.hid (B12.out.trans (hb.mono B12.out.size))
      have S13 := Lib.hid (S12.out.below hb)
      obtain ⟨t, ht⟩ : ∃ t, t = 52 - m := ⟨_, rfl⟩
      have HT := Lib.hid ht
      have t52 : t ≤ 52 := by omega
      rw [← ht]
      have RD2 : Hid (Reads (w13.alloc (.cells #[] 2)) w13.heap.size 1 A9 t ((ys.drop m).map (Value.int .i64))) := by
        have := RD.out
        rw [TLN.out, ← ht] at this
        exact this.alloc (Nat.le_refl _) _
      clear ho hb ht B12 Y12 S12 hmi RD
      go_wp2_with (at_builtin; refine wpList_append_any _ rfl (.tmp 132) (.tmp 133) 22 rfl w13.heap.size 2 i0 (.int .i64 0) 1 8 Try.underlying22 HI.out.1 HI.out.2.1 HI.out.2.2.1 HI.out.2.2.2 rfl (by decide) _ 0 [] rfl (World.ownsRow_made w13 #[] 0 (Nat.le_refl _) (by decide) rfl) w13.heap.size A9 t c9 ((ys.drop m).map (Value.int .i64)) rfl RD2.out (ints_one _) (by simp only [maxLen]; omega) (by omega) (by simp) ?_; intro v14 w14 hown hg hat; have OW14 := Lib.hid hown; have G14 := Lib.hid hg; clear hown hg hat)
      have BB14 := Lib.hid (((Below.refl w13.heap.size w13).alloc (Nat.le_refl _) (.cells #[] 2)).grown G14.out (by simp) (fun j e => by cases e; exact Nat.le_refl _))
      have ST : Hid (w14.ownsRow w13.heap.size 2 1 v14 (t + 0) ((allK ys N C 0).map (Value.int .i64))) := by
        have := OW14.out
        rw [Nat.zero_add, List.nil_append] at this
        have e : allK ys N C 0 = ys.drop m := by unfold allK dealK; rw [← HM.out]; simp
        show World.ownsRow _ _ _ _ _ _ _
        rw [e, Nat.add_zero]; exact this
      clear OW14 G14
      go_wp2
      go_loopw [24, 25] (fun v i wr => ∃ k : Nat, k ≤ N ∧ i = .int .i64 k ∧ Hid (wr.ownsRow w13.heap.size 2 1 v (t + k * C) ((allK ys N C k).map (Value.int .i64))) ∧ Hid (Below w13.heap.size w13 wr)) (fun _ i _ => N - (intOf i).toNat)
      case atStart => exact ⟨0, Nat.zero_le _, rfl, by rw [Nat.zero_mul]; exact ST.out, BB14.out⟩
      case round =>
        obtain ⟨k, hk, rfl, OW, BL⟩ := hrel
        clear ST BB14
        by_cases hkn : k < N
        · obtain ⟨b, off, rfl, hb, P, pc, hcl, hrow⟩ := (S13.out.below BL.out).at_ (j := k) (by rw [← YN.out, YNN.out]; exact hkn)
          have GK : Hid (yss.getD k [] = handK ys N k C) := by show _ = _; rw [YK.out]; exact dealK_getD _ _ _ _ _ hkn
          rw [GK.out, handK_length] at hcl
          rw [GK.out] at hrow
          have RDK : Hid (Reads wr wr.heap.size 1 P C ((handK ys N k C).map (Value.int .i64))) := by have := hrow.row.reads; rwa [handK_length] at this
          have hkC : k * C + C ≤ 52 := by
            have h1 : (k + 1) * C ≤ N * C := Nat.mul_le_mul_right C hkn
            have h2 := HM.out
            rw [Nat.add_mul, Nat.one_mul] at h1
            omega
          have i0' : (0 : Int) ≤ (k : Int) := by omega
          have i1' : (k : Int) < (yn : Int) := by rw [YNN.out]; omega
          obtain ⟨tk, htk⟩ : ∃ tk, tk = t + k * C := ⟨_, rfl⟩
          have tk52 : tk + C ≤ 200 := by omega
          have HTK := Lib.hid htk
          rw [← htk] at OW
          clear hrow hb htk hkC
          go_wp2_with (at_builtin; refine wpList_append_any _ rfl (.tmp 141) (.tmp 145) 22 rfl w13.heap.size 2 i0 (.int .i64 0) 1 8 Try.underlying22 HI.out.1 HI.out.2.1 HI.out.2.2.1 HI.out.2.2.2 rfl (by decide) _ tk _ rfl OW.out wr.heap.size P C pc ((handK ys N k C).map (Value.int .i64)) rfl RDK.out (ints_one _) (by simp only [maxLen]; omega) (by omega) BL.out.size ?_; intro v15 w15 hown hg hat; have OW15 := Lib.hid hown; have G15 := Lib.hid hg; clear hown hg hat)
          have NX : Hid (w15.ownsRow w13.heap.size 2 1 v15 (t + (k + 1) * C) ((allK ys N C (k + 1)).map (Value.int .i64))) := by
            show World.ownsRow _ _ _ _ _ _ _
            rw [allK_succ, List.map_append, Nat.add_mul, Nat.one_mul, ← Nat.add_assoc, ← HTK.out]
            exact OW15.out
          go_wp2
          go_roundw
          case rel => exact ⟨k + 1, by omega, by go_num, NX.out, BL.out.grown G15.out BL.out.size (fun j e => (OW.out.lt j e).1)⟩
          case measure => simp [intOf]; omega
        · have hkN : k = N := by omega
          have DKA := Lib.hid (allK_deck (N := N) (C := C) DK.out hN10 hC52 (by rw [← HM.out]; exact m52))
          have AL : Hid (t + N * C = 52) := by show _ = _; rw [HT.out, ← HM.out]; omega
          have OW2 := OW.out
          rw [hkN, AL.out] at OW2
          obtain ⟨AF, cF, hv, hT⟩ := ownT_of_owns (xs := allK ys N C N) (by rw [DKA.out.2]; exact OW2)
          rw [DKA.out.2] at hv
          subst hv
          have RF := Lib.hid hT.own.row
          have BF := Lib.hid (B13.out.trans (BL.out.mono B13.out.size))
          have kyn : ¬ ((k : Int) < (yn : Int)) := by rw [YNN.out]; omega
          clear OW2 hT hkN OW hkn
          go_wp2_with fail
          refine (implIsDeck_len AF cF (allK ys N C N) 52 _ DKA.out.2.symm RF.out (by rw [DKA.out.2]; omega)).mono ?_
          rintro e w16 ⟨rfl, hb⟩
          rw [(deckB_iff _).2 DKA.out]
          have BE := Lib.hid (BF.out.trans (hb.mono BF.out.size))
          clear hb
          go_wp2
          go_ret
          exact ⟨rfl, BE.out⟩
    · have hne : dc ≠ 0 := by rw [DL.out.2]; exact dealC_ne hk
      have b3 : (dc != 0) = true := by simpa using hne
      clear hk hne DL
      go_wp2
      go_ret
      exact ⟨rfl, B12.out⟩
  · have q2 : p2 ≠ 0 := by rw [PL.out.2]; exact plac_no hp
    have b2 : (p2 == 0) = false := by simpa using q2
    clear hp q2 PL
    by_cases hk : dealOk ys x y
    · obtain ⟨hd0, hd1⟩ := deal_yes hk
      have DC0 : dc = 0 := by rw [DL.out.2, hd0]
      subst DC0
      obtain ⟨hdk, hh, hc0, hc1⟩ := hk
      obtain ⟨N, rfl⟩ := Int.eq_ofNat_of_zero_le (show 0 ≤ x by omega)
      obtain ⟨C, rfl⟩ := Int.eq_ofNat_of_zero_le hc0
      have hq : (52 : Int) / (N : Int) ≤ 52 := Int.ediv_le_self _ (by omega)
      have hN1 : 1 ≤ N := by omega
      have hN10 : N ≤ 10 := by omega
      have hC52 : C ≤ 52 := by omega
      have hroom : N * C ≤ 52 := by rw [Nat.mul_comm]; exact deal_room hN1 hN10 hc1
      have YK : Hid (yss = dealK ys N C N) := by show _ = _; rw [DL.out.1, hd1]; simp
      have YNN : Hid (yn = N) := by show _ = _; rw [YN.out, YK.out, dealK_length]
      have DK := Lib.hid hdk
      obtain ⟨m, hm⟩ : ∃ m, m = N * C := ⟨_, rfl⟩
      have hmi : (N : Int) * (C : Int) = (m : Int) := by rw [hm]; simp
      have m52 : m ≤ 52 := by omega
      have HM := Lib.hid hm
      have RY := Lib.hid (rest_yes hdk m52)
      have LY2 : Hid (ys.length = 52) := hdk.2
      clear hd0 hd1 hdk hh hc0 hc1 hq hroom hm DL
      go_wp2_with fail
      refine (implRest_len A2 c2 ys yl (m : Int) _ LY.out Y12.out LC.out.1 LC.out.2 (by rw [LY2.out]; omega)).mono ?_
      rintro e w13 ⟨A9, c9, rfl, ho, hb⟩
      rw [RY.out.1, RY.out.2]
      rw [RY.out.1] at ho
      have TLN : Hid ((ys.drop m).length = 52 - m) := by show _ = _; rw [List.length_drop, LY2.out]
      rw [TLN.out]
      have RD := Lib.hid ho.row.reads
      have B13 := Lib.hid (B12.out.trans (hb.mono B12.out.size))
      have S13 := Lib.hid (S12.out.below hb)
      obtain ⟨t, ht⟩ : ∃ t, t = 52 - m := ⟨_, rfl⟩
      have HT := Lib.hid ht
      have t52 : t ≤ 52 := by omega
      rw [← ht]
      have RD2 : Hid (Reads (w13.alloc (.cells #[] 2)) w13.heap.size 1 A9 t ((ys.drop m).map (Value.int .i64))) := by
        have := RD.out
        rw [TLN.out, ← ht] at this
        exact this.alloc (Nat.le_refl _) _
      clear ho hb ht B12 Y12 S12 hmi RD
      go_wp2_with (at_builtin; refine wpList_append_any _ rfl (.tmp 132) (.tmp 133) 22 rfl w13.heap.size 2 i0 (.int .i64 0) 1 8 Try.underlying22 HI.out.1 HI.out.2.1 HI.out.2.2.1 HI.out.2.2.2 rfl (by decide) _ 0 [] rfl (World.ownsRow_made w13 #[] 0 (Nat.le_refl _) (by decide) rfl) w13.heap.size A9 t c9 ((ys.drop m).map (Value.int .i64)) rfl RD2.out (ints_one _) (by simp only [maxLen]; omega) (by omega) (by simp) ?_; intro v14 w14 hown hg hat; have OW14 := Lib.hid hown; have G14 := Lib.hid hg; clear hown hg hat)
      have BB14 := Lib.hid (((Below.refl w13.heap.size w13).alloc (Nat.le_refl _) (.cells #[] 2)).grown G14.out (by simp) (fun j e => by cases e; exact Nat.le_refl _))
      have ST : Hid (w14.ownsRow w13.heap.size 2 1 v14 (t + 0) ((allK ys N C 0).map (Value.int .i64))) := by
        have := OW14.out
        rw [Nat.zero_add, List.nil_append] at this
        have e : allK ys N C 0 = ys.drop m := by unfold allK dealK; rw [← HM.out]; simp
        show World.ownsRow _ _ _ _ _ _ _
        rw [e, Nat.add_zero]; exact this
      clear OW14 G14
      go_wp2
      go_loopw [24, 25] (fun v i wr => ∃ k : Nat, k ≤ N ∧ i = .int .i64 k ∧ Hid (wr.ownsRow w13.heap.size 2 1 v (t + k * C) ((allK ys N C k).map (Value.int .i64))) ∧ Hid (Below w13.heap.size w13 wr)) (fun _ i _ => N - (intOf i).toNat)
      case atStart => exact ⟨0, Nat.zero_le _, rfl, by rw [Nat.zero_mul]; exact ST.out, BB14.out⟩
      case round =>
        obtain ⟨k, hk, rfl, OW, BL⟩ := hrel
        clear ST BB14
        by_cases hkn : k < N
        · obtain ⟨b, off, rfl, hb, P, pc, hcl, hrow⟩ := (S13.out.below BL.out).at_ (j := k) (by rw [← YN.out, YNN.out]; exact hkn)
          have GK : Hid (yss.getD k [] = handK ys N k C) := by show _ = _; rw [YK.out]; exact dealK_getD _ _ _ _ _ hkn
          rw [GK.out, handK_length] at hcl
          rw [GK.out] at hrow
          have RDK : Hid (Reads wr wr.heap.size 1 P C ((handK ys N k C).map (Value.int .i64))) := by have := hrow.row.reads; rwa [handK_length] at this
          have hkC : k * C + C ≤ 52 := by
            have h1 : (k + 1) * C ≤ N * C := Nat.mul_le_mul_right C hkn
            have h2 := HM.out
            rw [Nat.add_mul, Nat.one_mul] at h1
            omega
          have i0' : (0 : Int) ≤ (k : Int) := by omega
          have i1' : (k : Int) < (yn : Int) := by rw [YNN.out]; omega
          obtain ⟨tk, htk⟩ : ∃ tk, tk = t + k * C := ⟨_, rfl⟩
          have tk52 : tk + C ≤ 200 := by omega
          have HTK := Lib.hid htk
          rw [← htk] at OW
          clear hrow hb htk hkC
          go_wp2_with (at_builtin; refine wpList_append_any _ rfl (.tmp 141) (.tmp 145) 22 rfl w13.heap.size 2 i0 (.int .i64 0) 1 8 Try.underlying22 HI.out.1 HI.out.2.1 HI.out.2.2.1 HI.out.2.2.2 rfl (by decide) _ tk _ rfl OW.out wr.heap.size P C pc ((handK ys N k C).map (Value.int .i64)) rfl RDK.out (ints_one _) (by simp only [maxLen]; omega) (by omega) BL.out.size ?_; intro v15 w15 hown hg hat; have OW15 := Lib.hid hown; have G15 := Lib.hid hg; clear hown hg hat)
          have NX : Hid (w15.ownsRow w13.heap.size 2 1 v15 (t + (k + 1) * C) ((allK ys N C (k + 1)).map (Value.int .i64))) := by
            show World.ownsRow _ _ _ _ _ _ _
            rw [allK_succ, List.map_append, Nat.add_mul, Nat.one_mul, ← Nat.add_assoc, ← HTK.out]
            exact OW15.out
          go_wp2
          go_roundw
          case rel => exact ⟨k + 1, by omega, by go_num, NX.out, BL.out.grown G15.out BL.out.size (fun j e => (OW.out.lt j e).1)⟩
          case measure => simp [intOf]; omega
        · have hkN : k = N := by omega
          have DKA := Lib.hid (allK_deck (N := N) (C := C) DK.out hN10 hC52 (by rw [← HM.out]; exact m52))
          have AL : Hid (t + N * C = 52) := by show _ = _; rw [HT.out, ← HM.out]; omega
          have OW2 := OW.out
          rw [hkN, AL.out] at OW2
          obtain ⟨AF, cF, hv, hT⟩ := ownT_of_owns (xs := allK ys N C N) (by rw [DKA.out.2]; exact OW2)
          rw [DKA.out.2] at hv
          subst hv
          have RF := Lib.hid hT.own.row
          have BF := Lib.hid (B13.out.trans (BL.out.mono B13.out.size))
          have kyn : ¬ ((k : Int) < (yn : Int)) := by rw [YNN.out]; omega
          clear OW2 hT hkN OW hkn
          go_wp2_with fail
          refine (implIsDeck_len AF cF (allK ys N C N) 52 _ DKA.out.2.symm RF.out (by rw [DKA.out.2]; omega)).mono ?_
          rintro e w16 ⟨rfl, hb⟩
          rw [(deckB_iff _).2 DKA.out]
          have BE := Lib.hid (BF.out.trans (hb.mono BF.out.size))
          clear hb
          go_wp2
          go_ret
          exact ⟨rfl, BE.out⟩
    · have hne : dc ≠ 0 := by rw [DL.out.2]; exact dealC_ne hk
      have b3 : (dc != 0) = true := by simpa using hne
      clear hk hne DL
      go_wp2
      go_ret
      exact ⟨rfl, B12.out⟩
theorem FnDealt_walk (a : Option Addr) (len cap : Nat) (zs : List Int) {w : World} (h : IsRow .u8 w a len cap zs) :
    Calls Try.prog 5 #[.slice a len cap] w fun e w' => e = .returned (.bool true) ∧ Below w.heap.size w w' := by
  obtain ⟨bs, hr⟩ := h.rowU
  exact FnDealt_core a len cap bs w hr
end Go.Proofs.Ytmmpeaedglnjlaa
