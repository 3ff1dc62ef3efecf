/-
  spec.l05DrawFour: four cards, rarely another list; the draws of badugis and of low ranks.
-/
import Derived.Test.YtgkhhfkijepenaaDrawSome
import Derived.Test.YtgkhhfkijepenaaDrawList
namespace Go.Proofs.Ytgkhhfkijepenaa
open Go.RowKit

set_option maxHeartbeats 8000000 in
set_option maxRecDepth 100000 in
theorem l05DrawFour_any (g : Nat) (w : World) (h : Src w g) : Calls Try.prog 24 #[.pointer (some ⟨g, 0, none⟩)] w (DrawL g w) := by
  have HS := Lib.hid h
  have GL : Hid (g < w.heap.size) := h.lt
  obtain ⟨i0, hi, hz0, hz1, hz2⟩ := info_parts int_info
  have HI := Lib.hid (And.intro hi (And.intro hz0 (And.intro hz1 hz2)))
  clear h hi hz0 hz1 hz2
  go_enter Try.func24, Try.ntmps24
  go_wp2_with fail
  refine (l01Next_any g 13 _ HS.out).mono ?_
  rintro e w1 ⟨r, rfl, r0, r1, hs, hk, hz⟩
  have S1 := Lib.hid hs
  have K1 := Lib.hid hk
  clear hs hk hz
  go_wp2_with fail
  refine (l01Next_any g 4 _ S1.out).mono ?_
  rintro e w2 ⟨s, rfl, s0, s1, hs, hk, hz⟩
  have S3 := Lib.hid hs
  have K3 := Lib.hid (K1.out.trans hk)
  have F3 := Lib.hid (fv_new (lo := w.heap.size) (g := g) #[] [] rfl 0 rfl (by simp [maxLen]) S3.out K3.out K3.out.size)
  have r12 : r < 13 := by omega
  have s3 : s < 4 := by omega
  clear hs hk hz r1 s1
  go_wp2_with fail
  refine (l01Next_any g 6 _ F3.out.2.2.1).mono ?_
  rintro e w4 ⟨x, rfl, x0, x1, hs, hk, hz⟩
  have F4 := Lib.hid (F3.out.next GL.out hs hk)
  have hx : x = 0 ∨ x = 1 ∨ x = 2 ∨ x = 3 ∨ x = 4 ∨ x = 5 := by omega
  clear hs hk hz x1 x0
  rcases hx with rfl | rfl | rfl | rfl | rfl | rfl
  · obtain ⟨zs, hzs⟩ : ∃ zs : List Int, zs = [4 * r + s, 4 * r + (s + 1) % 4] := ⟨_, rfl⟩
    have OK : Hid (okC zs) := by rw [hzs]; exact case20_ok r0 r12 s0 s3
    have FN : Hid (Fv w.heap.size g w (w4.alloc (.cells #[.int .i64 (4 * r + s), .int .i64 (4 * r + (s + 1) % 4)] 2)) (.slice (some ⟨w4.heap.size, 0, none⟩) 2 2) 2 zs) := by
      rw [hzs]
      exact fv_new _ _ rfl 2 rfl (by simp [maxLen]) F4.out.2.2.1 F4.out.2.2.2.1 F4.out.2.2.2.2
    clear hzs F4
    have TL := Lib.hid FN.out.lit
    have SL := Lib.hid FN.out.2.2.1
    have ZL := Lib.hid FN.out.2.1
    go_wp2_with fail
    refine (l02DealP_any g _ _ _ zs _ _ ZL.out.symm (by omega) SL.out TL.out.own.row (by rw [ZL.out]; omega)).mono ?_
    rintro e w7 ⟨ys, A2, c2, rfl, hO, h52, hdz, ⟨rest, hp, hq⟩, hs7, hk7⟩
    have F7 := Lib.hid (FN.out.next GL.out hs7 hk7)
    have DP := Lib.hid (And.intro hp (And.intro (show ((ys.length : Int) = (2 : Nat) ∨ rest = []) ∧ (ys.length : Int) ≤ (2 : Nat) by have := hq (by omega); simpa using this) (And.intro hs7 hk7)))
    have RD := Lib.hid hO.own.row.reads
    have SZ := Lib.hid (And.intro F7.out.2.2.2.2 h52)
    have HLN : ys.length ≤ 52 := h52
    clear hO h52 hp hq hs7 hk7 hdz
    go_wp2_with (at_builtin; refine wpList_append_any _ rfl (.tmp 78) (.tmp 84) 24 rfl w.heap.size 2 i0 (.int .i64 0) 1 8 Try.underlying24 HI.out.1 HI.out.2.1 HI.out.2.2.1 HI.out.2.2.2 rfl (by decide) _ 2 _ rfl F7.out.owns w7.heap.size A2 ys.length c2 (ys.map (Value.int .i64)) rfl RD.out (ints_one ys) (by simp only [maxLen]; omega) (by omega) SZ.out.1 ?_; intro v8 w8 hown8 hg8 hat8; have D8 := Lib.hid (fv_deal (n := 2) FN.out GL.out OK.out (by omega) DP.out.1 DP.out.2.1 DP.out.2.2.1 DP.out.2.2.2 hown8 hg8 (Nat.le_refl _)); clear hown8 hg8 hat8)
    obtain ⟨⟨A8, c8, hv8, hT8⟩, hok8, hl8, hs8, hk8, hz8⟩ := D8.out
    clear D8
    subst hv8
    have T8 := Lib.hid hT8
    have E8 := Lib.hid (And.intro hok8 (And.intro hl8 (And.intro hs8 (And.intro hk8 hz8))))
    clear hT8 hok8 hl8 hs8 hk8 hz8
    go_wp2_with fail
    refine (l02Pick_any g A8 c8 (zs ++ ys) _ _ rfl E8.out.2.2.1 T8.out.own.row (ownT_ne T8.out GL.out) (by rw [E8.out.2.1]; omega)).mono ?_
    rintro e w9 ⟨ps, A9, c9, rfl, hT9, hp9, hs9, hk9⟩
    go_wp2_with fail
    refine (l01Next_any g 24 _ hs9).mono ?_
    rintro e w10 ⟨x, rfl, x0, x1, hs10, hk10, hz10⟩
    have S2 := Lib.hid hs10
    have K2 := Lib.hid ((E8.out.2.2.2.1.trans hk9).trans hk10)
    have PL : Hid (ps.length = 4) := by show _ = _; rw [hp9.length_eq, E8.out.2.1]
    have T2 := Lib.hid ((OwnT.mono hT9 E8.out.2.2.2.2).keptG hk10 GL.out)
    obtain ⟨q, hq⟩ : ∃ q, A9 = some ⟨q, 0, none⟩ := by
      rcases hT9 with ⟨_, _, h⟩ | ⟨q, f, h, _⟩
      · have := PL.out; rw [h] at this; simp at this
      · exact ⟨q, h⟩
    subst hq
    rw [PL.out]
    have c4 : 4 ≤ c9 := by have := T2.out.own.cap.1; rw [PL.out] at this; exact this
    have QL : Hid (w.heap.size ≤ q) := (T2.out.own.lo_block q rfl).1
    have CM := Lib.hid T2.out.own.cap.2
    clear hT9 hp9 hs9 hk9 hs10 hk10 hz10 
    by_cases e0 : x = 0
    · subst e0
      have hcut := T2.out.own.row.cut (k := 1) (cap := c9) (by rw [PL.out]; omega) (by rw [PL.out]; exact c4)
      rw [if_neg (by omega)] at hcut
      have FIN : Hid (DrawL g w (.returned (.slice (some ⟨q, 1, none⟩) 3 (c9 - 1))) w10) := by
        refine ⟨ps.drop 1, some ⟨q, 1, none⟩, c9 - 1, by rw [List.length_drop, PL.out], by simpa [Go.WideShapes.add_plain] using hcut, by rw [List.length_drop, PL.out]; omega, by rw [List.length_drop, PL.out]; omega, by have := CM.out; omega, fun b hb => ?_, S2.out, K2.out⟩
        simp at hb; subst hb; exact QL.out
      have hne : ¬ c9 = 1 := by omega
      clear hcut
      go_wp2
      go_ret
      exact FIN.out
    · have b0 : (x == 0) = false := by simpa using e0
      by_cases e1 : x = 1
      · subst e1
        clear b0 e0
        obtain ⟨b', off', he, hb', hcell⟩ := T2.out.own.row.at_ (k := 1) (by rw [PL.out]; omega)
        simp only [Option.some.injEq, Addr.mk.injEq, and_true] at he
        obtain ⟨rfl, rfl⟩ := he
        obtain ⟨b2, off2, he, _, hcell0⟩ := T2.out.own.row.at_ (k := 0) (by rw [PL.out]; omega)
        simp only [Option.some.injEq, Addr.mk.injEq, and_true] at he
        obtain ⟨rfl, rfl⟩ := he
        rw [Nat.zero_add] at hcell hcell0
        obtain ⟨u, hu⟩ : ∃ u, u = ps.getD 1 0 := ⟨_, rfl⟩
        obtain ⟨u0, hu0⟩ : ∃ u0, u0 = ps.getD 0 0 := ⟨_, rfl⟩
        rw [← hu] at hcell
        rw [← hu0] at hcell0
        have hf0 : w10.frozen? ⟨q, 0, none⟩ = false := by
          rcases T2.out with ⟨h, _⟩ | ⟨g', f, e, _, _, _, _, hr, _⟩
          · cases h
          · simp only [Option.some.injEq, Addr.mk.injEq, and_true] at e
            subst e
            exact hr.frozen 0
        have FIN : Hid (DrawL g w (.returned (.slice (some ⟨q, 0, none⟩) 4 c9)) (w10.setCell ⟨q, 0, none⟩ (.int .i64 u))) := by
          refine DrawL.of_own (ys := ps.set 0 u) (by rw [List.length_set, PL.out]) (ownT_set T2.out 0 u (by rw [PL.out]; omega)).own (Nat.le_refl _) (by rw [List.length_set, PL.out]; omega) ?_ (K2.out.setCell QL.out _)
          exact S2.out.below ((Below.refl w.heap.size w10).setCell QL.out _) GL.out
        clear hu hu0 hb'
        go_wp2
        go_ret
        exact FIN.out
      · have b1 : (x == 1) = false := by simpa using e1
        have FIN : Hid (DrawL g w (.returned (.slice (some ⟨q, 0, none⟩) 4 c9)) w10) :=
          DrawL.of_own PL.out.symm T2.out.own (Nat.le_refl _) (by rw [PL.out]; omega) S2.out K2.out
        clear e0 e1
        go_wp2
        go_ret
        exact FIN.out
  · go_wp2
    go_loopw [5, 6] (fun v i wr => ∃ (k : Nat) (zs : List Int), i = .int .i64 k ∧ k ≤ 4 ∧ Hid (Fv w.heap.size g w wr v k zs) ∧ Hid (ruleC (fun (j : Nat) => (r + (j : Int)) % 13) zs k))
      (fun _ i _ => 4 - (intOf i).toNat)
    case atStart => exact ⟨0, [], rfl, by omega, F4.out, ruleC_nil _⟩
    case round =>
      obtain ⟨k, zs, rfl, hk5, FV, RC⟩ := hrel
      clear F4
      by_cases hk : k < 4
      · have k1 : (k : Int) < 4 := by omega
        have GG : Hid ((0 ≤ (r + (k : Int)) % 13 ∧ (r + (k : Int)) % 13 < 13) ∧ ∀ j, j < k → (r + (j : Int)) % 13 ≠ (r + (k : Int)) % 13) := ⟨by omega, fun j hj => by omega⟩
        obtain ⟨⟨AV, cv, hv, hTV⟩, hvr⟩ := FV.out
        subst hv
        clear hTV hvr
        go_wp2_with (at_builtin; refine wpList_append_lies _ rfl (.tmp 34) (.tmp 45) 24 rfl w.heap.size 2 i0 (.int .i64 0) 1 8 Try.underlying24 HI.out.1 HI.out.2.1 HI.out.2.2.1 HI.out.2.2.2 rfl (by decide) _ k _ rfl ((FV.out.owns).alloc _) ⟨_, 0, none⟩ 1 1 _ rfl rfl (World.news_of_block (heap_alloc_new _ _)) (by simp [Value.oneCell']) (by decide) (by simp only [maxLen]; omega) (by omega) (by simp; have := FV.out.2.2.2.2; omega) _ rfl ?_; intro q cap w6 hown6 hgrow6 hat6 hlt6; have F6 := Lib.hid (fv_snoc FV.out (Nat.le_refl _) GL.out hown6 hgrow6); clear hown6 hgrow6 hat6 hlt6)
        have RC2 : Hid (ruleC (fun (j : Nat) => (r + (j : Int)) % 13) (zs ++ [4 * ((r + (k : Int)) % 13) + (s + (k : Int)) % 4]) (k + 1)) := RC.out.snoc GG.out.1 GG.out.2 (by omega) (by omega)
        go_wp2
        go_roundw
        case rel => exact ⟨k + 1, _, by go_num, by omega, F6.out, RC2.out⟩
        case measure => simp [intOf]; omega
      · have hk5' : k = 4 := by omega
        subst hk5'
        have OK : Hid (okC zs) := RC.out.1
        clear hk hk5 RC
        obtain ⟨⟨AV, cv, hv, hTV⟩, hvr⟩ := FV.out
        subst hv
        clear hTV hvr
        have TL := Lib.hid FV.out.lit
        have SL := Lib.hid FV.out.2.2.1
        have ZL := Lib.hid FV.out.2.1
        go_wp2_with fail
        refine (l02DealP_any g _ _ _ zs _ _ ZL.out.symm (by omega) SL.out TL.out.own.row (by rw [ZL.out]; omega)).mono ?_
        rintro e w7 ⟨ys, A2, c2, rfl, hO, h52, hdz, ⟨rest, hp, hq⟩, hs7, hk7⟩
        have F7 := Lib.hid (FV.out.next GL.out hs7 hk7)
        have DP := Lib.hid (And.intro hp (And.intro (show ((ys.length : Int) = (0 : Nat) ∨ rest = []) ∧ (ys.length : Int) ≤ (0 : Nat) by have := hq (by omega); simpa using this) (And.intro hs7 hk7)))
        have RD := Lib.hid hO.own.row.reads
        have SZ := Lib.hid (And.intro F7.out.2.2.2.2 h52)
        have HLN : ys.length ≤ 52 := h52
        clear hO h52 hp hq hs7 hk7 hdz
        go_wp2_with (at_builtin; refine wpList_append_any _ rfl (.tmp 78) (.tmp 84) 24 rfl w.heap.size 2 i0 (.int .i64 0) 1 8 Try.underlying24 HI.out.1 HI.out.2.1 HI.out.2.2.1 HI.out.2.2.2 rfl (by decide) _ 4 _ rfl F7.out.owns w7.heap.size A2 ys.length c2 (ys.map (Value.int .i64)) rfl RD.out (ints_one ys) (by simp only [maxLen]; omega) (by omega) SZ.out.1 ?_; intro v8 w8 hown8 hg8 hat8; have D8 := Lib.hid (fv_deal (n := 0) FV.out GL.out OK.out (by omega) DP.out.1 DP.out.2.1 DP.out.2.2.1 DP.out.2.2.2 hown8 hg8 (Nat.le_refl _)); clear hown8 hg8 hat8)
        obtain ⟨⟨A8, c8, hv8, hT8⟩, hok8, hl8, hs8, hk8, hz8⟩ := D8.out
        clear D8
        subst hv8
        have T8 := Lib.hid hT8
        have E8 := Lib.hid (And.intro hok8 (And.intro hl8 (And.intro hs8 (And.intro hk8 hz8))))
        clear hT8 hok8 hl8 hs8 hk8 hz8
        go_wp2_with fail
        refine (l02Pick_any g A8 c8 (zs ++ ys) _ _ rfl E8.out.2.2.1 T8.out.own.row (ownT_ne T8.out GL.out) (by rw [E8.out.2.1]; omega)).mono ?_
        rintro e w9 ⟨ps, A9, c9, rfl, hT9, hp9, hs9, hk9⟩
        go_wp2_with fail
        refine (l01Next_any g 24 _ hs9).mono ?_
        rintro e w10 ⟨x, rfl, x0, x1, hs10, hk10, hz10⟩
        have S2 := Lib.hid hs10
        have K2 := Lib.hid ((E8.out.2.2.2.1.trans hk9).trans hk10)
        have PL : Hid (ps.length = 4) := by show _ = _; rw [hp9.length_eq, E8.out.2.1]
        have T2 := Lib.hid ((OwnT.mono hT9 E8.out.2.2.2.2).keptG hk10 GL.out)
        obtain ⟨q, hq⟩ : ∃ q, A9 = some ⟨q, 0, none⟩ := by
          rcases hT9 with ⟨_, _, h⟩ | ⟨q, f, h, _⟩
          · have := PL.out; rw [h] at this; simp at this
          · exact ⟨q, h⟩
        subst hq
        rw [PL.out]
        have c4 : 4 ≤ c9 := by have := T2.out.own.cap.1; rw [PL.out] at this; exact this
        have QL : Hid (w.heap.size ≤ q) := (T2.out.own.lo_block q rfl).1
        have CM := Lib.hid T2.out.own.cap.2
        clear hT9 hp9 hs9 hk9 hs10 hk10 hz10 
        by_cases e0 : x = 0
        · subst e0
          have hcut := T2.out.own.row.cut (k := 1) (cap := c9) (by rw [PL.out]; omega) (by rw [PL.out]; exact c4)
          rw [if_neg (by omega)] at hcut
          have FIN : Hid (DrawL g w (.returned (.slice (some ⟨q, 1, none⟩) 3 (c9 - 1))) w10) := by
            refine ⟨ps.drop 1, some ⟨q, 1, none⟩, c9 - 1, by rw [List.length_drop, PL.out], by simpa [Go.WideShapes.add_plain] using hcut, by rw [List.length_drop, PL.out]; omega, by rw [List.length_drop, PL.out]; omega, by have := CM.out; omega, fun b hb => ?_, S2.out, K2.out⟩
            simp at hb; subst hb; exact QL.out
          have hne : ¬ c9 = 1 := by omega
          clear hcut
          go_wp2
          go_ret
          exact FIN.out
        · have b0 : (x == 0) = false := by simpa using e0
          by_cases e1 : x = 1
          · subst e1
            clear b0 e0
            obtain ⟨b', off', he, hb', hcell⟩ := T2.out.own.row.at_ (k := 1) (by rw [PL.out]; omega)
            simp only [Option.some.injEq, Addr.mk.injEq, and_true] at he
            obtain ⟨rfl, rfl⟩ := he
            obtain ⟨b2, off2, he, _, hcell0⟩ := T2.out.own.row.at_ (k := 0) (by rw [PL.out]; omega)
            simp only [Option.some.injEq, Addr.mk.injEq, and_true] at he
            obtain ⟨rfl, rfl⟩ := he
            rw [Nat.zero_add] at hcell hcell0
            obtain ⟨u, hu⟩ : ∃ u, u = ps.getD 1 0 := ⟨_, rfl⟩
            obtain ⟨u0, hu0⟩ : ∃ u0, u0 = ps.getD 0 0 := ⟨_, rfl⟩
            rw [← hu] at hcell
            rw [← hu0] at hcell0
            have hf0 : w10.frozen? ⟨q, 0, none⟩ = false := by
              rcases T2.out with ⟨h, _⟩ | ⟨g', f, e, _, _, _, _, hr, _⟩
              · cases h
              · simp only [Option.some.injEq, Addr.mk.injEq, and_true] at e
                subst e
                exact hr.frozen 0
            have FIN : Hid (DrawL g w (.returned (.slice (some ⟨q, 0, none⟩) 4 c9)) (w10.setCell ⟨q, 0, none⟩ (.int .i64 u))) := by
              refine DrawL.of_own (ys := ps.set 0 u) (by rw [List.length_set, PL.out]) (ownT_set T2.out 0 u (by rw [PL.out]; omega)).own (Nat.le_refl _) (by rw [List.length_set, PL.out]; omega) ?_ (K2.out.setCell QL.out _)
              exact S2.out.below ((Below.refl w.heap.size w10).setCell QL.out _) GL.out
            clear hu hu0 hb'
            go_wp2
            go_ret
            exact FIN.out
          · have b1 : (x == 1) = false := by simpa using e1
            have FIN : Hid (DrawL g w (.returned (.slice (some ⟨q, 0, none⟩) 4 c9)) w10) :=
              DrawL.of_own PL.out.symm T2.out.own (Nat.le_refl _) (by rw [PL.out]; omega) S2.out K2.out
            clear e0 e1
            go_wp2
            go_ret
            exact FIN.out
  · go_wp2
    go_loopw [5, 7] (fun v i wr => ∃ (k : Nat) (zs : List Int), i = .int .i64 k ∧ k ≤ 4 ∧ Hid (Fv w.heap.size g w wr v k zs) ∧ Hid (ruleC (fun (j : Nat) => (r + (j : Int)) % 13) zs k))
      (fun _ i _ => 4 - (intOf i).toNat)
    case atStart => exact ⟨0, [], rfl, by omega, F4.out, ruleC_nil _⟩
    case round =>
      obtain ⟨k, zs, rfl, hk5, FV, RC⟩ := hrel
      clear F4
      by_cases hk : k < 4
      · have k1 : (k : Int) < 4 := by omega
        have GG : Hid ((0 ≤ (r + (k : Int)) % 13 ∧ (r + (k : Int)) % 13 < 13) ∧ ∀ j, j < k → (r + (j : Int)) % 13 ≠ (r + (k : Int)) % 13) := ⟨by omega, fun j hj => by omega⟩
        obtain ⟨⟨AV, cv, hv, hTV⟩, hvr⟩ := FV.out
        subst hv
        clear hTV hvr
        go_wp2_with (at_builtin; refine wpList_append_lies _ rfl (.tmp 53) (.tmp 61) 24 rfl w.heap.size 2 i0 (.int .i64 0) 1 8 Try.underlying24 HI.out.1 HI.out.2.1 HI.out.2.2.1 HI.out.2.2.2 rfl (by decide) _ k _ rfl ((FV.out.owns).alloc _) ⟨_, 0, none⟩ 1 1 _ rfl rfl (World.news_of_block (heap_alloc_new _ _)) (by simp [Value.oneCell']) (by decide) (by simp only [maxLen]; omega) (by omega) (by simp; have := FV.out.2.2.2.2; omega) _ rfl ?_; intro q cap w6 hown6 hgrow6 hat6 hlt6; have F6 := Lib.hid (fv_snoc FV.out (Nat.le_refl _) GL.out hown6 hgrow6); clear hown6 hgrow6 hat6 hlt6)
        have RC2 : Hid (ruleC (fun (j : Nat) => (r + (j : Int)) % 13) (zs ++ [4 * ((r + (k : Int)) % 13) + s]) (k + 1)) := RC.out.snoc GG.out.1 GG.out.2 (by omega) (by omega)
        go_wp2
        go_roundw
        case rel => exact ⟨k + 1, _, by go_num, by omega, F6.out, RC2.out⟩
        case measure => simp [intOf]; omega
      · have hk5' : k = 4 := by omega
        subst hk5'
        have OK : Hid (okC zs) := RC.out.1
        clear hk hk5 RC
        obtain ⟨⟨AV, cv, hv, hTV⟩, hvr⟩ := FV.out
        subst hv
        clear hTV hvr
        have TL := Lib.hid FV.out.lit
        have SL := Lib.hid FV.out.2.2.1
        have ZL := Lib.hid FV.out.2.1
        go_wp2_with fail
        refine (l02DealP_any g _ _ _ zs _ _ ZL.out.symm (by omega) SL.out TL.out.own.row (by rw [ZL.out]; omega)).mono ?_
        rintro e w7 ⟨ys, A2, c2, rfl, hO, h52, hdz, ⟨rest, hp, hq⟩, hs7, hk7⟩
        have F7 := Lib.hid (FV.out.next GL.out hs7 hk7)
        have DP := Lib.hid (And.intro hp (And.intro (show ((ys.length : Int) = (0 : Nat) ∨ rest = []) ∧ (ys.length : Int) ≤ (0 : Nat) by have := hq (by omega); simpa using this) (And.intro hs7 hk7)))
        have RD := Lib.hid hO.own.row.reads
        have SZ := Lib.hid (And.intro F7.out.2.2.2.2 h52)
        have HLN : ys.length ≤ 52 := h52
        clear hO h52 hp hq hs7 hk7 hdz
        go_wp2_with (at_builtin; refine wpList_append_any _ rfl (.tmp 78) (.tmp 84) 24 rfl w.heap.size 2 i0 (.int .i64 0) 1 8 Try.underlying24 HI.out.1 HI.out.2.1 HI.out.2.2.1 HI.out.2.2.2 rfl (by decide) _ 4 _ rfl F7.out.owns w7.heap.size A2 ys.length c2 (ys.map (Value.int .i64)) rfl RD.out (ints_one ys) (by simp only [maxLen]; omega) (by omega) SZ.out.1 ?_; intro v8 w8 hown8 hg8 hat8; have D8 := Lib.hid (fv_deal (n := 0) FV.out GL.out OK.out (by omega) DP.out.1 DP.out.2.1 DP.out.2.2.1 DP.out.2.2.2 hown8 hg8 (Nat.le_refl _)); clear hown8 hg8 hat8)
        obtain ⟨⟨A8, c8, hv8, hT8⟩, hok8, hl8, hs8, hk8, hz8⟩ := D8.out
        clear D8
        subst hv8
        have T8 := Lib.hid hT8
        have E8 := Lib.hid (And.intro hok8 (And.intro hl8 (And.intro hs8 (And.intro hk8 hz8))))
        clear hT8 hok8 hl8 hs8 hk8 hz8
        go_wp2_with fail
        refine (l02Pick_any g A8 c8 (zs ++ ys) _ _ rfl E8.out.2.2.1 T8.out.own.row (ownT_ne T8.out GL.out) (by rw [E8.out.2.1]; omega)).mono ?_
        rintro e w9 ⟨ps, A9, c9, rfl, hT9, hp9, hs9, hk9⟩
        go_wp2_with fail
        refine (l01Next_any g 24 _ hs9).mono ?_
        rintro e w10 ⟨x, rfl, x0, x1, hs10, hk10, hz10⟩
        have S2 := Lib.hid hs10
        have K2 := Lib.hid ((E8.out.2.2.2.1.trans hk9).trans hk10)
        have PL : Hid (ps.length = 4) := by show _ = _; rw [hp9.length_eq, E8.out.2.1]
        have T2 := Lib.hid ((OwnT.mono hT9 E8.out.2.2.2.2).keptG hk10 GL.out)
        obtain ⟨q, hq⟩ : ∃ q, A9 = some ⟨q, 0, none⟩ := by
          rcases hT9 with ⟨_, _, h⟩ | ⟨q, f, h, _⟩
          · have := PL.out; rw [h] at this; simp at this
          · exact ⟨q, h⟩
        subst hq
        rw [PL.out]
        have c4 : 4 ≤ c9 := by have := T2.out.own.cap.1; rw [PL.out] at this; exact this
        have QL : Hid (w.heap.size ≤ q) := (T2.out.own.lo_block q rfl).1
        have CM := Lib.hid T2.out.own.cap.2
        clear hT9 hp9 hs9 hk9 hs10 hk10 hz10 
        by_cases e0 : x = 0
        · subst e0
          have hcut := T2.out.own.row.cut (k := 1) (cap := c9) (by rw [PL.out]; omega) (by rw [PL.out]; exact c4)
          rw [if_neg (by omega)] at hcut
          have FIN : Hid (DrawL g w (.returned (.slice (some ⟨q, 1, none⟩) 3 (c9 - 1))) w10) := by
            refine ⟨ps.drop 1, some ⟨q, 1, none⟩, c9 - 1, by rw [List.length_drop, PL.out], by simpa [Go.WideShapes.add_plain] using hcut, by rw [List.length_drop, PL.out]; omega, by rw [List.length_drop, PL.out]; omega, by have := CM.out; omega, fun b hb => ?_, S2.out, K2.out⟩
            simp at hb; subst hb; exact QL.out
          have hne : ¬ c9 = 1 := by omega
          clear hcut
          go_wp2
          go_ret
          exact FIN.out
        · have b0 : (x == 0) = false := by simpa using e0
          by_cases e1 : x = 1
          · subst e1
            clear b0 e0
            obtain ⟨b', off', he, hb', hcell⟩ := T2.out.own.row.at_ (k := 1) (by rw [PL.out]; omega)
            simp only [Option.some.injEq, Addr.mk.injEq, and_true] at he
            obtain ⟨rfl, rfl⟩ := he
            obtain ⟨b2, off2, he, _, hcell0⟩ := T2.out.own.row.at_ (k := 0) (by rw [PL.out]; omega)
            simp only [Option.some.injEq, Addr.mk.injEq, and_true] at he
            obtain ⟨rfl, rfl⟩ := he
            rw [Nat.zero_add] at hcell hcell0
            obtain ⟨u, hu⟩ : ∃ u, u = ps.getD 1 0 := ⟨_, rfl⟩
            obtain ⟨u0, hu0⟩ : ∃ u0, u0 = ps.getD 0 0 := ⟨_, rfl⟩
            rw [← hu] at hcell
            rw [← hu0] at hcell0
            have hf0 : w10.frozen? ⟨q, 0, none⟩ = false := by
              rcases T2.out with ⟨h, _⟩ | ⟨g', f, e, _, _, _, _, hr, _⟩
              · cases h
              · simp only [Option.some.injEq, Addr.mk.injEq, and_true] at e
                subst e
                exact hr.frozen 0
            have FIN : Hid (DrawL g w (.returned (.slice (some ⟨q, 0, none⟩) 4 c9)) (w10.setCell ⟨q, 0, none⟩ (.int .i64 u))) := by
              refine DrawL.of_own (ys := ps.set 0 u) (by rw [List.length_set, PL.out]) (ownT_set T2.out 0 u (by rw [PL.out]; omega)).own (Nat.le_refl _) (by rw [List.length_set, PL.out]; omega) ?_ (K2.out.setCell QL.out _)
              exact S2.out.below ((Below.refl w.heap.size w10).setCell QL.out _) GL.out
            clear hu hu0 hb'
            go_wp2
            go_ret
            exact FIN.out
          · have b1 : (x == 1) = false := by simpa using e1
            have FIN : Hid (DrawL g w (.returned (.slice (some ⟨q, 0, none⟩) 4 c9)) w10) :=
              DrawL.of_own PL.out.symm T2.out.own (Nat.le_refl _) (by rw [PL.out]; omega) S2.out K2.out
            clear e0 e1
            go_wp2
            go_ret
            exact FIN.out
  · obtain ⟨zs, hzs⟩ : ∃ zs : List Int, zs = [4 * r, 4 * r + 1, 4 * r + 2, 4 * r + 3] := ⟨_, rfl⟩
    have OK : Hid (okC zs) := by rw [hzs]; exact case23_ok r0 r12
    have FN : Hid (Fv w.heap.size g w (w4.alloc (.cells #[.int .i64 (4 * r), .int .i64 (4 * r + 1), .int .i64 (4 * r + 2), .int .i64 (4 * r + 3)] 2)) (.slice (some ⟨w4.heap.size, 0, none⟩) 4 4) 4 zs) := by
      rw [hzs]
      exact fv_new _ _ rfl 4 rfl (by simp [maxLen]) F4.out.2.2.1 F4.out.2.2.2.1 F4.out.2.2.2.2
    clear hzs F4
    have TL := Lib.hid FN.out.lit
    have SL := Lib.hid FN.out.2.2.1
    have ZL := Lib.hid FN.out.2.1
    go_wp2_with fail
    refine (l02DealP_any g _ _ _ zs _ _ ZL.out.symm (by omega) SL.out TL.out.own.row (by rw [ZL.out]; omega)).mono ?_
    rintro e w7 ⟨ys, A2, c2, rfl, hO, h52, hdz, ⟨rest, hp, hq⟩, hs7, hk7⟩
    have F7 := Lib.hid (FN.out.next GL.out hs7 hk7)
    have DP := Lib.hid (And.intro hp (And.intro (show ((ys.length : Int) = (0 : Nat) ∨ rest = []) ∧ (ys.length : Int) ≤ (0 : Nat) by have := hq (by omega); simpa using this) (And.intro hs7 hk7)))
    have RD := Lib.hid hO.own.row.reads
    have SZ := Lib.hid (And.intro F7.out.2.2.2.2 h52)
    have HLN : ys.length ≤ 52 := h52
    clear hO h52 hp hq hs7 hk7 hdz
    go_wp2_with (at_builtin; refine wpList_append_any _ rfl (.tmp 78) (.tmp 84) 24 rfl w.heap.size 2 i0 (.int .i64 0) 1 8 Try.underlying24 HI.out.1 HI.out.2.1 HI.out.2.2.1 HI.out.2.2.2 rfl (by decide) _ 4 _ rfl F7.out.owns w7.heap.size A2 ys.length c2 (ys.map (Value.int .i64)) rfl RD.out (ints_one ys) (by simp only [maxLen]; omega) (by omega) SZ.out.1 ?_; intro v8 w8 hown8 hg8 hat8; have D8 := Lib.hid (fv_deal (n := 0) FN.out GL.out OK.out (by omega) DP.out.1 DP.out.2.1 DP.out.2.2.1 DP.out.2.2.2 hown8 hg8 (Nat.le_refl _)); clear hown8 hg8 hat8)
    obtain ⟨⟨A8, c8, hv8, hT8⟩, hok8, hl8, hs8, hk8, hz8⟩ := D8.out
    clear D8
    subst hv8
    have T8 := Lib.hid hT8
    have E8 := Lib.hid (And.intro hok8 (And.intro hl8 (And.intro hs8 (And.intro hk8 hz8))))
    clear hT8 hok8 hl8 hs8 hk8 hz8
    go_wp2_with fail
    refine (l02Pick_any g A8 c8 (zs ++ ys) _ _ rfl E8.out.2.2.1 T8.out.own.row (ownT_ne T8.out GL.out) (by rw [E8.out.2.1]; omega)).mono ?_
    rintro e w9 ⟨ps, A9, c9, rfl, hT9, hp9, hs9, hk9⟩
    go_wp2_with fail
    refine (l01Next_any g 24 _ hs9).mono ?_
    rintro e w10 ⟨x, rfl, x0, x1, hs10, hk10, hz10⟩
    have S2 := Lib.hid hs10
    have K2 := Lib.hid ((E8.out.2.2.2.1.trans hk9).trans hk10)
    have PL : Hid (ps.length = 4) := by show _ = _; rw [hp9.length_eq, E8.out.2.1]
    have T2 := Lib.hid ((OwnT.mono hT9 E8.out.2.2.2.2).keptG hk10 GL.out)
    obtain ⟨q, hq⟩ : ∃ q, A9 = some ⟨q, 0, none⟩ := by
      rcases hT9 with ⟨_, _, h⟩ | ⟨q, f, h, _⟩
      · have := PL.out; rw [h] at this; simp at this
      · exact ⟨q, h⟩
    subst hq
    rw [PL.out]
    have c4 : 4 ≤ c9 := by have := T2.out.own.cap.1; rw [PL.out] at this; exact this
    have QL : Hid (w.heap.size ≤ q) := (T2.out.own.lo_block q rfl).1
    have CM := Lib.hid T2.out.own.cap.2
    clear hT9 hp9 hs9 hk9 hs10 hk10 hz10 
    by_cases e0 : x = 0
    · subst e0
      have hcut := T2.out.own.row.cut (k := 1) (cap := c9) (by rw [PL.out]; omega) (by rw [PL.out]; exact c4)
      rw [if_neg (by omega)] at hcut
      have FIN : Hid (DrawL g w (.returned (.slice (some ⟨q, 1, none⟩) 3 (c9 - 1))) w10) := by
        refine ⟨ps.drop 1, some ⟨q, 1, none⟩, c9 - 1, by rw [List.length_drop, PL.out], by simpa [Go.WideShapes.add_plain] using hcut, by rw [List.length_drop, PL.out]; omega, by rw [List.length_drop, PL.out]; omega, by have := CM.out; omega, fun b hb => ?_, S2.out, K2.out⟩
        simp at hb; subst hb; exact QL.out
      have hne : ¬ c9 = 1 := by omega
      clear hcut
      go_wp2
      go_ret
      exact FIN.out
    · have b0 : (x == 0) = false := by simpa using e0
      by_cases e1 : x = 1
      · subst e1
        clear b0 e0
        obtain ⟨b', off', he, hb', hcell⟩ := T2.out.own.row.at_ (k := 1) (by rw [PL.out]; omega)
        simp only [Option.some.injEq, Addr.mk.injEq, and_true] at he
        obtain ⟨rfl, rfl⟩ := he
        obtain ⟨b2, off2, he, _, hcell0⟩ := T2.out.own.row.at_ (k := 0) (by rw [PL.out]; omega)
        simp only [Option.some.injEq, Addr.mk.injEq, and_true] at he
        obtain ⟨rfl, rfl⟩ := he
        rw [Nat.zero_add] at hcell hcell0
        obtain ⟨u, hu⟩ : ∃ u, u = ps.getD 1 0 := ⟨_, rfl⟩
        obtain ⟨u0, hu0⟩ : ∃ u0, u0 = ps.getD 0 0 := ⟨_, rfl⟩
        rw [← hu] at hcell
        rw [← hu0] at hcell0
        have hf0 : w10.frozen? ⟨q, 0, none⟩ = false := by
          rcases T2.out with ⟨h, _⟩ | ⟨g', f, e, _, _, _, _, hr, _⟩
          · cases h
          · simp only [Option.some.injEq, Addr.mk.injEq, and_true] at e
            subst e
            exact hr.frozen 0
        have FIN : Hid (DrawL g w (.returned (.slice (some ⟨q, 0, none⟩) 4 c9)) (w10.setCell ⟨q, 0, none⟩ (.int .i64 u))) := by
          refine DrawL.of_own (ys := ps.set 0 u) (by rw [List.length_set, PL.out]) (ownT_set T2.out 0 u (by rw [PL.out]; omega)).own (Nat.le_refl _) (by rw [List.length_set, PL.out]; omega) ?_ (K2.out.setCell QL.out _)
          exact S2.out.below ((Below.refl w.heap.size w10).setCell QL.out _) GL.out
        clear hu hu0 hb'
        go_wp2
        go_ret
        exact FIN.out
      · have b1 : (x == 1) = false := by simpa using e1
        have FIN : Hid (DrawL g w (.returned (.slice (some ⟨q, 0, none⟩) 4 c9)) w10) :=
          DrawL.of_own PL.out.symm T2.out.own (Nat.le_refl _) (by rw [PL.out]; omega) S2.out K2.out
        clear e0 e1
        go_wp2
        go_ret
        exact FIN.out
  · have OK : Hid (okC ([] : List Int)) := okC_nil
    have TL := Lib.hid F4.out.lit
    have SL := Lib.hid F4.out.2.2.1
    have ZL := Lib.hid F4.out.2.1
    go_wp2_with fail
    refine (l02DealP_any g _ _ _ [] _ _ ZL.out.symm (by omega) SL.out TL.out.own.row (by rw [ZL.out]; omega)).mono ?_
    rintro e w7 ⟨ys, A2, c2, rfl, hO, h52, hdz, ⟨rest, hp, hq⟩, hs7, hk7⟩
    have F7 := Lib.hid (F4.out.next GL.out hs7 hk7)
    have DP := Lib.hid (And.intro hp (And.intro (show ((ys.length : Int) = (4 : Nat) ∨ rest = []) ∧ (ys.length : Int) ≤ (4 : Nat) by have := hq (by omega); simpa using this) (And.intro hs7 hk7)))
    have RD := Lib.hid hO.own.row.reads
    have SZ := Lib.hid (And.intro F7.out.2.2.2.2 h52)
    have HLN : ys.length ≤ 52 := h52
    clear hO h52 hp hq hs7 hk7 hdz
    go_wp2_with (at_builtin; refine wpList_append_any _ rfl (.tmp 78) (.tmp 84) 24 rfl w.heap.size 2 i0 (.int .i64 0) 1 8 Try.underlying24 HI.out.1 HI.out.2.1 HI.out.2.2.1 HI.out.2.2.2 rfl (by decide) _ 0 _ rfl F7.out.owns w7.heap.size A2 ys.length c2 (ys.map (Value.int .i64)) rfl RD.out (ints_one ys) (by simp only [maxLen]; omega) (by omega) SZ.out.1 ?_; intro v8 w8 hown8 hg8 hat8; have D8 := Lib.hid (fv_deal (n := 4) F4.out GL.out OK.out (by omega) DP.out.1 DP.out.2.1 DP.out.2.2.1 DP.out.2.2.2 hown8 hg8 (Nat.le_refl _)); clear hown8 hg8 hat8)
    obtain ⟨⟨A8, c8, hv8, hT8⟩, hok8, hl8, hs8, hk8, hz8⟩ := D8.out
    clear D8
    subst hv8
    have T8 := Lib.hid hT8
    have E8 := Lib.hid (And.intro hok8 (And.intro hl8 (And.intro hs8 (And.intro hk8 hz8))))
    clear hT8 hok8 hl8 hs8 hk8 hz8
    go_wp2_with fail
    refine (l02Pick_any g A8 c8 ([] ++ ys) _ _ rfl E8.out.2.2.1 T8.out.own.row (ownT_ne T8.out GL.out) (by rw [E8.out.2.1]; omega)).mono ?_
    rintro e w9 ⟨ps, A9, c9, rfl, hT9, hp9, hs9, hk9⟩
    go_wp2_with fail
    refine (l01Next_any g 24 _ hs9).mono ?_
    rintro e w10 ⟨x, rfl, x0, x1, hs10, hk10, hz10⟩
    have S2 := Lib.hid hs10
    have K2 := Lib.hid ((E8.out.2.2.2.1.trans hk9).trans hk10)
    have PL : Hid (ps.length = 4) := by show _ = _; rw [hp9.length_eq, E8.out.2.1]
    have T2 := Lib.hid ((OwnT.mono hT9 E8.out.2.2.2.2).keptG hk10 GL.out)
    obtain ⟨q, hq⟩ : ∃ q, A9 = some ⟨q, 0, none⟩ := by
      rcases hT9 with ⟨_, _, h⟩ | ⟨q, f, h, _⟩
      · have := PL.out; rw [h] at this; simp at this
      · exact ⟨q, h⟩
    subst hq
    rw [PL.out]
    have c4 : 4 ≤ c9 := by have := T2.out.own.cap.1; rw [PL.out] at this; exact this
    have QL : Hid (w.heap.size ≤ q) := (T2.out.own.lo_block q rfl).1
    have CM := Lib.hid T2.out.own.cap.2
    clear hT9 hp9 hs9 hk9 hs10 hk10 hz10 
    by_cases e0 : x = 0
    · subst e0
      have hcut := T2.out.own.row.cut (k := 1) (cap := c9) (by rw [PL.out]; omega) (by rw [PL.out]; exact c4)
      rw [if_neg (by omega)] at hcut
      have FIN : Hid (DrawL g w (.returned (.slice (some ⟨q, 1, none⟩) 3 (c9 - 1))) w10) := by
        refine ⟨ps.drop 1, some ⟨q, 1, none⟩, c9 - 1, by rw [List.length_drop, PL.out], by simpa [Go.WideShapes.add_plain] using hcut, by rw [List.length_drop, PL.out]; omega, by rw [List.length_drop, PL.out]; omega, by have := CM.out; omega, fun b hb => ?_, S2.out, K2.out⟩
        simp at hb; subst hb; exact QL.out
      have hne : ¬ c9 = 1 := by omega
      clear hcut
      go_wp2
      go_ret
      exact FIN.out
    · have b0 : (x == 0) = false := by simpa using e0
      by_cases e1 : x = 1
      · subst e1
        clear b0 e0
        obtain ⟨b', off', he, hb', hcell⟩ := T2.out.own.row.at_ (k := 1) (by rw [PL.out]; omega)
        simp only [Option.some.injEq, Addr.mk.injEq, and_true] at he
        obtain ⟨rfl, rfl⟩ := he
        obtain ⟨b2, off2, he, _, hcell0⟩ := T2.out.own.row.at_ (k := 0) (by rw [PL.out]; omega)
        simp only [Option.some.injEq, Addr.mk.injEq, and_true] at he
        obtain ⟨rfl, rfl⟩ := he
        rw [Nat.zero_add] at hcell hcell0
        obtain ⟨u, hu⟩ : ∃ u, u = ps.getD 1 0 := ⟨_, rfl⟩
        obtain ⟨u0, hu0⟩ : ∃ u0, u0 = ps.getD 0 0 := ⟨_, rfl⟩
        rw [← hu] at hcell
        rw [← hu0] at hcell0
        have hf0 : w10.frozen? ⟨q, 0, none⟩ = false := by
          rcases T2.out with ⟨h, _⟩ | ⟨g', f, e, _, _, _, _, hr, _⟩
          · cases h
          · simp only [Option.some.injEq, Addr.mk.injEq, and_true] at e
            subst e
            exact hr.frozen 0
        have FIN : Hid (DrawL g w (.returned (.slice (some ⟨q, 0, none⟩) 4 c9)) (w10.setCell ⟨q, 0, none⟩ (.int .i64 u))) := by
          refine DrawL.of_own (ys := ps.set 0 u) (by rw [List.length_set, PL.out]) (ownT_set T2.out 0 u (by rw [PL.out]; omega)).own (Nat.le_refl _) (by rw [List.length_set, PL.out]; omega) ?_ (K2.out.setCell QL.out _)
          exact S2.out.below ((Below.refl w.heap.size w10).setCell QL.out _) GL.out
        clear hu hu0 hb'
        go_wp2
        go_ret
        exact FIN.out
      · have b1 : (x == 1) = false := by simpa using e1
        have FIN : Hid (DrawL g w (.returned (.slice (some ⟨q, 0, none⟩) 4 c9)) w10) :=
          DrawL.of_own PL.out.symm T2.out.own (Nat.le_refl _) (by rw [PL.out]; omega) S2.out K2.out
        clear e0 e1
        go_wp2
        go_ret
        exact FIN.out
  · have OK : Hid (okC ([] : List Int)) := okC_nil
    have TL := Lib.hid F4.out.lit
    have SL := Lib.hid F4.out.2.2.1
    have ZL := Lib.hid F4.out.2.1
    go_wp2_with fail
    refine (l02DealP_any g _ _ _ [] _ _ ZL.out.symm (by omega) SL.out TL.out.own.row (by rw [ZL.out]; omega)).mono ?_
    rintro e w7 ⟨ys, A2, c2, rfl, hO, h52, hdz, ⟨rest, hp, hq⟩, hs7, hk7⟩
    have F7 := Lib.hid (F4.out.next GL.out hs7 hk7)
    have DP := Lib.hid (And.intro hp (And.intro (show ((ys.length : Int) = (4 : Nat) ∨ rest = []) ∧ (ys.length : Int) ≤ (4 : Nat) by have := hq (by omega); simpa using this) (And.intro hs7 hk7)))
    have RD := Lib.hid hO.own.row.reads
    have SZ := Lib.hid (And.intro F7.out.2.2.2.2 h52)
    have HLN : ys.length ≤ 52 := h52
    clear hO h52 hp hq hs7 hk7 hdz
    go_wp2_with (at_builtin; refine wpList_append_any _ rfl (.tmp 78) (.tmp 84) 24 rfl w.heap.size 2 i0 (.int .i64 0) 1 8 Try.underlying24 HI.out.1 HI.out.2.1 HI.out.2.2.1 HI.out.2.2.2 rfl (by decide) _ 0 _ rfl F7.out.owns w7.heap.size A2 ys.length c2 (ys.map (Value.int .i64)) rfl RD.out (ints_one ys) (by simp only [maxLen]; omega) (by omega) SZ.out.1 ?_; intro v8 w8 hown8 hg8 hat8; have D8 := Lib.hid (fv_deal (n := 4) F4.out GL.out OK.out (by omega) DP.out.1 DP.out.2.1 DP.out.2.2.1 DP.out.2.2.2 hown8 hg8 (Nat.le_refl _)); clear hown8 hg8 hat8)
    obtain ⟨⟨A8, c8, hv8, hT8⟩, hok8, hl8, hs8, hk8, hz8⟩ := D8.out
    clear D8
    subst hv8
    have T8 := Lib.hid hT8
    have E8 := Lib.hid (And.intro hok8 (And.intro hl8 (And.intro hs8 (And.intro hk8 hz8))))
    clear hT8 hok8 hl8 hs8 hk8 hz8
    go_wp2_with fail
    refine (l02Pick_any g A8 c8 ([] ++ ys) _ _ rfl E8.out.2.2.1 T8.out.own.row (ownT_ne T8.out GL.out) (by rw [E8.out.2.1]; omega)).mono ?_
    rintro e w9 ⟨ps, A9, c9, rfl, hT9, hp9, hs9, hk9⟩
    go_wp2_with fail
    refine (l01Next_any g 24 _ hs9).mono ?_
    rintro e w10 ⟨x, rfl, x0, x1, hs10, hk10, hz10⟩
    have S2 := Lib.hid hs10
    have K2 := Lib.hid ((E8.out.2.2.2.1.trans hk9).trans hk10)
    have PL : Hid (ps.length = 4) := by show _ = _; rw [hp9.length_eq, E8.out.2.1]
    have T2 := Lib.hid ((OwnT.mono hT9 E8.out.2.2.2.2).keptG hk10 GL.out)
    obtain ⟨q, hq⟩ : ∃ q, A9 = some ⟨q, 0, none⟩ := by
      rcases hT9 with ⟨_, _, h⟩ | ⟨q, f, h, _⟩
      · have := PL.out; rw [h] at this; simp at this
      · exact ⟨q, h⟩
    subst hq
    rw [PL.out]
    have c4 : 4 ≤ c9 := by have := T2.out.own.cap.1; rw [PL.out] at this; exact this
    have QL : Hid (w.heap.size ≤ q) := (T2.out.own.lo_block q rfl).1
    have CM := Lib.hid T2.out.own.cap.2
    clear hT9 hp9 hs9 hk9 hs10 hk10 hz10 
    by_cases e0 : x = 0
    · subst e0
      have hcut := T2.out.own.row.cut (k := 1) (cap := c9) (by rw [PL.out]; omega) (by rw [PL.out]; exact c4)
      rw [if_neg (by omega)] at hcut
      have FIN : Hid (DrawL g w (.returned (.slice (some ⟨q, 1, none⟩) 3 (c9 - 1))) w10) := by
        refine ⟨ps.drop 1, some ⟨q, 1, none⟩, c9 - 1, by rw [List.length_drop, PL.out], by simpa [Go.WideShapes.add_plain] using hcut, by rw [List.length_drop, PL.out]; omega, by rw [List.length_drop, PL.out]; omega, by have := CM.out; omega, fun b hb => ?_, S2.out, K2.out⟩
        simp at hb; subst hb; exact QL.out
      have hne : ¬ c9 = 1 := by omega
      clear hcut
      go_wp2
      go_ret
      exact FIN.out
    · have b0 : (x == 0) = false := by simpa using e0
      by_cases e1 : x = 1
      · subst e1
        clear b0 e0
        obtain ⟨b', off', he, hb', hcell⟩ := T2.out.own.row.at_ (k := 1) (by rw [PL.out]; omega)
        simp only [Option.some.injEq, Addr.mk.injEq, and_true] at he
        obtain ⟨rfl, rfl⟩ := he
        obtain ⟨b2, off2, he, _, hcell0⟩ := T2.out.own.row.at_ (k := 0) (by rw [PL.out]; omega)
        simp only [Option.some.injEq, Addr.mk.injEq, and_true] at he
        obtain ⟨rfl, rfl⟩ := he
        rw [Nat.zero_add] at hcell hcell0
        obtain ⟨u, hu⟩ : ∃ u, u = ps.getD 1 0 := ⟨_, rfl⟩
        obtain ⟨u0, hu0⟩ : ∃ u0, u0 = ps.getD 0 0 := ⟨_, rfl⟩
        rw [← hu] at hcell
        rw [← hu0] at hcell0
        have hf0 : w10.frozen? ⟨q, 0, none⟩ = false := by
          rcases T2.out with ⟨h, _⟩ | ⟨g', f, e, _, _, _, _, hr, _⟩
          · cases h
          · simp only [Option.some.injEq, Addr.mk.injEq, and_true] at e
            subst e
            exact hr.frozen 0
        have FIN : Hid (DrawL g w (.returned (.slice (some ⟨q, 0, none⟩) 4 c9)) (w10.setCell ⟨q, 0, none⟩ (.int .i64 u))) := by
          refine DrawL.of_own (ys := ps.set 0 u) (by rw [List.length_set, PL.out]) (ownT_set T2.out 0 u (by rw [PL.out]; omega)).own (Nat.le_refl _) (by rw [List.length_set, PL.out]; omega) ?_ (K2.out.setCell QL.out _)
          exact S2.out.below ((Below.refl w.heap.size w10).setCell QL.out _) GL.out
        clear hu hu0 hb'
        go_wp2
        go_ret
        exact FIN.out
      · have b1 : (x == 1) = false := by simpa using e1
        have FIN : Hid (DrawL g w (.returned (.slice (some ⟨q, 0, none⟩) 4 c9)) w10) :=
          DrawL.of_own PL.out.symm T2.out.own (Nat.le_refl _) (by rw [PL.out]; omega) S2.out K2.out
        clear e0 e1
        go_wp2
        go_ret
        exact FIN.out

theorem drawBadugi_any (A : Option Addr) (n c : Nat) (bs : Nat → Int) (w : World) (h : RowU w A n bs) (hn : n ≤ 1048576) : Calls Try.prog 8 #[.slice A n c] w (DrawC w) := by
  have HR := Lib.hid h
  clear h
  go_enter Try.func8, Try.ntmps8
  go_wp2_with fail
  refine (l01From_any A n c bs _ HR.out hn).mono ?_
  rintro e w1 ⟨g, rfl, hg, hs, hb⟩
  have S1 := Lib.hid hs
  have B1 := Lib.hid (And.intro hb hg)
  clear hs hb hg
  go_wp2_with fail
  refine (l05DrawFour_any g _ S1.out).mono ?_
  rintro e w2 hd
  obtain ⟨ys, A2, c2, rfl, hr⟩ := hd.code B1.out.1 B1.out.2
  have HR2 := Lib.hid hr
  clear hd hr
  go_wp2
  go_ret
  exact ⟨ys, A2, c2, rfl, HR2.out⟩
theorem DrawL.kept' {g : Nat} {w w1 w2 : World} {e : Ending} (h : DrawL g w1 e w2) (hk : Kept g w w1) : DrawL g w e w2 := by
  obtain ⟨ys, A, c, h1, h2, h3, h4, h5, h6, h7, h8⟩ := h
  exact ⟨ys, A, c, h1, h2, h3, h4, h5, fun b hb => Nat.le_trans hk.size (h6 b hb), h7, hk.trans h8⟩
set_option maxHeartbeats 1000000 in
theorem drawLow_any (A : Option Addr) (n c : Nat) (bs : Nat → Int) (w : World) (h : RowU w A n bs) (hn : n ≤ 1048576) : Calls Try.prog 13 #[.slice A n c] w (DrawC w) := by
  have HR := Lib.hid h
  clear h
  go_enter Try.func13, Try.ntmps13
  go_wp2_with fail
  refine (l01From_any A n c bs _ HR.out hn).mono ?_
  rintro e w1 ⟨g, rfl, hg, hs, hb⟩
  have S1 := Lib.hid hs
  have B1 := Lib.hid (And.intro hb hg)
  clear hs hb hg
  go_wp2_with fail
  refine (l01Next_any g 16 _ S1.out).mono ?_
  rintro e w2 ⟨x, rfl, x0, x1, hs, hk, hz⟩
  have S2 := Lib.hid hs
  have K2 := Lib.hid hk
  clear hs hk hz x1
  by_cases e0 : x = 0
  · subst e0
    go_wp2_with fail
    refine (l01Next_any g 2 _ S2.out).mono ?_
    rintro e w3 ⟨y, rfl, y0, y1, hs, hk, hz⟩
    have S3 := Lib.hid hs
    have K3 := Lib.hid (K2.out.trans hk)
    have y2 : y < 2 := by omega
    clear hs hk hz y1
    go_wp2_with fail
    refine (l02Deal_any g _ none 0 [] 0 _ rfl (by omega) S3.out (RowI.nil _ _) (by simp)).mono ?_
    rintro e w4 ⟨zs, A4, c4, rfl, ho, hzl, _, hs4, hk4⟩
    have hd : DrawL g w1 (.returned (.slice A4 zs.length c4)) w4 := DrawL.of_own rfl ho.own K3.out.size (by omega) hs4 (K3.out.trans hk4)
    have HR2 := Lib.hid (hd.code B1.out.1 B1.out.2)
    obtain ⟨zl, hzl2⟩ : ∃ zl, zl = zs.length := ⟨_, rfl⟩
    rw [← hzl2] at HR2 ⊢
    clear hd ho hs4 hk4 hzl hzl2
    go_wp2
    go_ret
    exact HR2.out
  · have b0 : (x == 0) = false := by simpa using e0
    clear e0
    go_wp2_with fail
    refine (l02DrawList_any g 7 _ S2.out (by omega) (by omega)).mono ?_
    rintro e w3 hd
    obtain ⟨ys, A2, c2, rfl, hr⟩ := (hd.kept' K2.out).code B1.out.1 B1.out.2
    have HR2 := Lib.hid hr
    clear hd hr
    go_wp2
    go_ret
    exact ⟨ys, A2, c2, rfl, HR2.out⟩
end Go.Proofs.Ytgkhhfkijepenaa
