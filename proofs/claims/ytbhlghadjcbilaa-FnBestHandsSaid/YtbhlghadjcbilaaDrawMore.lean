/-
  spec.l04DrawMore: five to eight cards, rarely another list; the draws that rest on it.
-/
import Derived.Test.YtbhlghadjcbilaaDrawSome
namespace Go.Proofs.Ytbhlghadjcbilaa
open Go.RowKit

set_option maxHeartbeats 16000000 in
set_option maxRecDepth 8000 in
theorem l04DrawMore_any (g : Nat) (w : World) (h : Src w g) : Calls Try.prog 109 #[.pointer (some ⟨g, 0, none⟩)] w (DrawL g w) := by
  have HS := Lib.hid h
  have GL : Hid (g < w.heap.size) := h.lt
  obtain ⟨i0, hi, hz0, hz1, hz2⟩ := info_parts int_info
  have HI := Lib.hid (And.intro hi (And.intro hz0 (And.intro hz1 hz2)))
  clear h hi hz0 hz1 hz2
  go_enter Try.func109, Try.ntmps109
  go_wp2_with fail
  refine (l04DrawFive_any g _ HS.out).mono ?_
  rintro e w1 ⟨zs, A1, c1, rfl, hT, hok, hzl, hs1, hk1⟩
  rw [hzl]
  have OK := Lib.hid hok
  have F1 : Hid (Fv w.heap.size g w w1 (.slice A1 5 c1) 5 zs) := ⟨⟨A1, c1, rfl, hT⟩, hzl, hs1, hk1, hk1.size⟩
  clear hT hok hzl hs1 hk1
  go_wp2_with fail
  refine (l01Next_any g 4 _ F1.out.2.2.1).mono ?_
  rintro e w2 ⟨y, rfl, y0, y1, hs2, hk2, hz2⟩
  obtain ⟨k, rfl⟩ := Int.eq_ofNat_of_zero_le y0
  have k3 : k ≤ 3 := by omega
  have F2 := Lib.hid (F1.out.next GL.out hs2 hk2)
  have TL := Lib.hid F2.out.lit
  have ZL := Lib.hid F2.out.2.1
  clear hs2 hk2 hz2 y1 F1
  go_wp2_with fail
  refine (l02DealP_any g (k : Int) _ _ zs _ _ ZL.out.symm (by omega) F2.out.2.2.1 TL.out.own.row (by rw [ZL.out]; omega)).mono ?_
  rintro e w7 ⟨ys, A2, c2, rfl, hO, h52, hdz, ⟨rest, hp, hq⟩, hs7, hk7⟩
  have F7 := Lib.hid (F2.out.next GL.out hs7 hk7)
  have DP := Lib.hid (And.intro hp (And.intro (hq (by omega)) (And.intro hs7 hk7)))
  have RD := Lib.hid hO.own.row.reads
  have SZ := Lib.hid F7.out.2.2.2.2
  clear hO hp hq hs7 hk7 hdz
  go_wp2_with (at_builtin; refine wpList_append_any _ rfl (.tmp 8) (.tmp 13) 24 rfl w.heap.size 2 i0 (.int .i64 0) 1 8 Try.underlying24 HI.out.1 HI.out.2.1 HI.out.2.2.1 HI.out.2.2.2 rfl (by decide) _ 5 _ rfl F7.out.owns w7.heap.size A2 ys.length c2 (ys.map (Value.int .i64)) rfl RD.out (ints_one ys) (by simp only [maxLen]; omega) (by omega) SZ.out ?_; intro v8 w8 hown8 hg8 hat8; have D8 := Lib.hid (fv_deal (n := k) F2.out GL.out OK.out (by omega) DP.out.1 DP.out.2.1 DP.out.2.2.1 DP.out.2.2.2 hown8 hg8 (Nat.le_refl _)); clear hown8 hg8 hat8)
  obtain ⟨⟨A8, c8, hv8, hT8⟩, hok8, hl8, hs8, hk8, hz8⟩ := D8.out
  clear D8
  subst hv8
  have T8 := Lib.hid hT8
  have E8 := Lib.hid (And.intro hok8 (And.intro hl8 (And.intro hs8 (And.intro hk8 hz8))))
  clear hT8 hok8 hl8 hs8 hk8 hz8
  go_wp2_with fail
  refine (l02Pick_any g A8 c8 (zs ++ ys) _ _ rfl E8.out.2.2.1 T8.out.own.row (ownT_ne T8.out GL.out) (by rw [E8.out.2.1]; omega)).mono ?_
  rintro e w9 ⟨ps, A9, c9, rfl, hT9, hp9, hs9, hk9⟩
  have hpl : ps.length = 5 + k := by rw [hp9.length_eq, E8.out.2.1]
  rw [hpl]
  obtain ⟨ln, hln⟩ : ∃ ln, ln = 5 + k := ⟨_, rfl⟩
  rw [← hln] at hpl ⊢
  have l5 : 5 ≤ ln := by omega
  have l8 : ln ≤ 8 := by omega
  have POK : Hid (okC ps) := okC_perm hp9.symm E8.out.1
  have F9 : Hid (Fv w.heap.size g w w9 (.slice A9 ln c9) ln ps) := ⟨⟨A9, c9, rfl, hT9.mono E8.out.2.2.2.2⟩, hpl, hs9, E8.out.2.2.2.1.trans hk9, Nat.le_trans E8.out.2.2.2.2 hk9.size⟩
  clear OK F2 F7 TL ZL DP RD SZ T8 E8 HS hln k3 POK y0
  go_wp2_with fail
  refine (l01Next_any g 24 _ F9.out.2.2.1).mono ?_
  rintro e w10 ⟨x, rfl, x0, x1, hs10, hk10, hz10⟩
  have F10 := Lib.hid (F9.out.next GL.out hs10 hk10)
  have T10 := Lib.hid F10.out.lit
  have L10 := Lib.hid hpl
  obtain ⟨q, hq⟩ : ∃ q, A9 = some ⟨q, 0, none⟩ := by
    rcases T10.out with ⟨_, _, h⟩ | ⟨q, f, h, _⟩
    · have := L10.out; rw [h] at this; simp at this; omega
    · exact ⟨q, h⟩
  subst hq
  have c5 : ln ≤ c9 := by have := T10.out.own.cap.1; rw [L10.out] at this; exact this
  have QL : Hid (w.heap.size ≤ q) := (T10.out.own.lo_block q rfl).1
  have QG : Hid (∀ b, (some (⟨q, 0, none⟩ : Addr)).map (·.block) = some b → b ≠ g) := ownT_ne T10.out GL.out
  have CM := Lib.hid T10.out.own.cap.2
  clear hs10 hk10 hz10 F9 hpl hp9 hs9 hk9 hT9 x0 x1
  by_cases e0 : x = 0
  · subst e0
    go_wp2_with fail
    refine (l02DealP_any g 2 _ _ ps _ _ L10.out.symm (by omega) F10.out.2.2.1 T10.out.own.row (by rw [L10.out]; omega)).mono ?_
    rintro e w11 ⟨ds, A11, c11, rfl, hO, h52, hdz, ⟨rest, hp, hq⟩, hs11, hk11⟩
    have F11 := Lib.hid (F10.out.next GL.out hs11 hk11)
    have RD := Lib.hid hO.own.row.reads
    have S11 := Lib.hid F11.out.2.2.2.2
    clear hO hp hq hs11 hk11 hdz
    go_wp2_with (at_builtin; refine wpList_append_any _ rfl (.tmp 20) (.tmp 23) 24 rfl w.heap.size 2 i0 (.int .i64 0) 1 8 Try.underlying24 HI.out.1 HI.out.2.1 HI.out.2.2.1 HI.out.2.2.2 rfl (by decide) _ ln _ rfl F11.out.owns w11.heap.size A11 ds.length c11 (ds.map (Value.int .i64)) rfl RD.out (ints_one ds) (by simp only [maxLen]; omega) (by omega) S11.out ?_; intro v12 w12 hown12 hg12 hat12; have O12 := Lib.hid hown12; have G12 := Lib.hid hg12; clear hown12 hg12 hat12)
    have hrow := ownT_row F11.out.lit ln
    obtain ⟨A12, c12, hv12, hT12⟩ := ownT_of_owns (xs := ps ++ ds) (v := v12) (by rw [List.length_append, L10.out]; simpa using O12.out)
    subst hv12
    have FIN : Hid (DrawL g w (.returned (.slice A12 (ps ++ ds).length c12)) w12) :=
      DrawL.of_own rfl hT12.own (Nat.le_refl _) (by rw [List.length_append, L10.out]; omega) (F11.out.2.2.1.below ((Below.refl w.heap.size w11).grown G12.out S11.out hrow) GL.out) (F11.out.2.2.2.1.grown G12.out hrow)
    clear hrow hT12
    go_wp2
    go_ret
    exact FIN.out
  · have b0 : (x == 0) = false := by simpa using e0
    by_cases e1 : x = 1
    · subst e1
      clear b0 e0
      have FIN : Hid (DrawL g w (.returned (.slice (some ⟨q, 0, none⟩) 4 c9)) w10) := by
        have h4 : (ps.take 4).length = 4 := by rw [List.length_take, L10.out]; omega
        refine ⟨ps.take 4, some ⟨q, 0, none⟩, c9, by rw [h4], T10.out.own.row.first 4, by omega, by omega, CM.out, fun b hb => ?_, F10.out.2.2.1, F10.out.2.2.2.1⟩
        simp at hb; subst hb; exact QL.out
      go_wp2
      go_ret
      exact FIN.out
    · have b1 : (x == 1) = false := by simpa using e1
      by_cases e2 : x = 2
      · subst e2
        clear b0 e0 b1 e1
        obtain ⟨b', off', he, hb', hcell⟩ := T10.out.own.row.at_ (k := 1) (by rw [L10.out]; omega)
        simp only [Option.some.injEq, Addr.mk.injEq, and_true] at he
        obtain ⟨rfl, rfl⟩ := he
        rw [Nat.zero_add] at hcell
        obtain ⟨u, hu⟩ : ∃ u, u = ps.getD 1 0 := ⟨_, rfl⟩
        rw [← hu] at hcell
        clear hu hb'
        go_wp2_with fail
        refine (l01Pick_any g _ _ [-1, u, 52] _ _ rfl (F10.out.2.2.1.below' ((Below.refl _ _).alloc (Nat.le_refl _) _)) (rowI_made _ _ _ _ rfl) (made_ne F10.out.2.2.1) (by simp) (by simp)).mono ?_
        rintro e w11 ⟨y, rfl, hy, hs11, hk11, hz11⟩
        have T11 := Lib.hid (T10.out.keptG ((Kept.refl g w10).alloc _ |>.trans hk11) GL.out)
        have K11 := Lib.hid ((F10.out.2.2.2.1.alloc _).trans hk11)
        have S11 := Lib.hid hs11
        clear hy hs11 hk11 hz11 hcell
        obtain ⟨b2, off2, he, _, hcell0⟩ := T11.out.own.row.at_ (k := 0) (by rw [L10.out]; omega)
        simp only [Option.some.injEq, Addr.mk.injEq, and_true] at he
        obtain ⟨rfl, rfl⟩ := he
        rw [Nat.zero_add] at hcell0
        obtain ⟨u0, hu0⟩ : ∃ u0, u0 = ps.getD 0 0 := ⟨_, rfl⟩
        rw [← hu0] at hcell0
        have hf0 : w11.frozen? ⟨q, 0, none⟩ = false := by
          rcases T11.out with ⟨h, _⟩ | ⟨g', f, e, _, _, _, _, hr, _⟩
          · cases h
          · simp only [Option.some.injEq, Addr.mk.injEq, and_true] at e
            subst e
            exact hr.frozen 0
        have FIN : Hid (DrawL g w (.returned (.slice (some ⟨q, 0, none⟩) ln c9)) (w11.setCell ⟨q, 0, none⟩ (.int .i64 y))) := by
          refine DrawL.of_own (ys := ps.set 0 y) (by rw [List.length_set, L10.out]) (ownT_set T11.out 0 y (by rw [L10.out]; omega)).own (Nat.le_refl _) (by rw [List.length_set, L10.out]; omega) ?_ (K11.out.setCell QL.out _)
          exact S11.out.below ((Below.refl w.heap.size w11).setCell QL.out _) GL.out
        clear hu0
        have l0 : 0 < ln := by omega
        go_wp2
        go_ret
        exact FIN.out
      · have b2 : (x == 2) = false := by simpa using e2
        have FIN : Hid (DrawL g w (.returned (.slice (some ⟨q, 0, none⟩) ln c9)) w10) :=
          DrawL.of_own L10.out.symm T10.out.own (Nat.le_refl _) (by rw [L10.out]; omega) F10.out.2.2.1 F10.out.2.2.2.1
        clear e0 e1 e2
        go_wp2
        go_ret
        exact FIN.out

/-- A list of cards drawn from a source, for the caller's source. -/
theorem DrawL.kept {g : Nat} {w w1 w2 : World} {e : Ending} (h : DrawL g w1 e w2) (hk : Kept g w w1) : DrawL g w e w2 := by
  obtain ⟨ys, A, c, h1, h2, h3, h4, h5, h6, h7, h8⟩ := h
  exact ⟨ys, A, c, h1, h2, h3, h4, h5, fun b hb => Nat.le_trans hk.size (h6 b hb), h7, hk.trans h8⟩

theorem drawBestFive_any (A : Option Addr) (n c : Nat) (bs : Nat → Int) (w : World) (h : RowU w A n bs) (hn : n ≤ 1048576) : Calls Try.prog 61 #[.slice A n c] w (DrawC w) := by
  have HR := Lib.hid h
  clear h
  go_enter Try.func61, Try.ntmps61
  go_wp2_with fail
  refine (l01From_any A n c bs _ HR.out hn).mono ?_
  rintro e w1 ⟨g, rfl, hg, hs, hb⟩
  have S1 := Lib.hid hs
  have B1 := Lib.hid (And.intro hb hg)
  clear hs hb hg
  go_wp2_with fail
  refine (l04DrawMore_any g _ S1.out).mono ?_
  rintro e w2 hd
  obtain ⟨ys, A2, c2, rfl, hr⟩ := hd.code B1.out.1 B1.out.2
  have HR2 := Lib.hid hr
  clear hd hr
  go_wp2
  go_ret
  exact ⟨ys, A2, c2, rfl, HR2.out⟩

theorem drawBestAce_any (A : Option Addr) (n c : Nat) (bs : Nat → Int) (w : World) (h : RowU w A n bs) (hn : n ≤ 1048576) : Calls Try.prog 64 #[.slice A n c] w (DrawC w) := by
  have HR := Lib.hid h
  clear h
  go_enter Try.func64, Try.ntmps64
  go_wp2_with fail
  refine (l01From_any A n c bs _ HR.out hn).mono ?_
  rintro e w1 ⟨g, rfl, hg, hs, hb⟩
  have S1 := Lib.hid hs
  have B1 := Lib.hid (And.intro hb hg)
  clear hs hb hg
  go_wp2_with fail
  refine (l04DrawMore_any g _ S1.out).mono ?_
  rintro e w2 hd
  obtain ⟨ys, A2, c2, rfl, hr⟩ := hd.code B1.out.1 B1.out.2
  have HR2 := Lib.hid hr
  clear hd hr
  go_wp2
  go_ret
  exact ⟨ys, A2, c2, rfl, HR2.out⟩

theorem drawBestDeuce_any (A : Option Addr) (n c : Nat) (bs : Nat → Int) (w : World) (h : RowU w A n bs) (hn : n ≤ 1048576) : Calls Try.prog 65 #[.slice A n c] w (DrawC w) := by
  have HR := Lib.hid h
  clear h
  go_enter Try.func65, Try.ntmps65
  go_wp2_with fail
  refine (l01From_any A n c bs _ HR.out hn).mono ?_
  rintro e w1 ⟨g, rfl, hg, hs, hb⟩
  have S1 := Lib.hid hs
  have B1 := Lib.hid (And.intro hb hg)
  clear hs hb hg
  go_wp2_with fail
  refine (l04DrawMore_any g _ S1.out).mono ?_
  rintro e w2 hd
  obtain ⟨ys, A2, c2, rfl, hr⟩ := hd.code B1.out.1 B1.out.2
  have HR2 := Lib.hid hr
  clear hd hr
  go_wp2
  go_ret
  exact ⟨ys, A2, c2, rfl, HR2.out⟩
end Go.Proofs.Ytbhlghadjcbilaa
