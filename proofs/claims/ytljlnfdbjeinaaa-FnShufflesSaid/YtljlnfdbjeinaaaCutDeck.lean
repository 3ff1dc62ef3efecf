/-
  CutDeck in the reference and in the program.
-/
import Derived.Test.YtljlnfdbjeinaaaCut
import Derived.Test.YtljlnfdbjeinaaaConcat
import Derived.Deep.AppendLies
import Derived.Deep.RegionLaw
namespace Go.Proofs.Ytljlnfdbjeinaaa
open Go.RowKit

def cutL (xs : List Int) (n : Int) : List Int := if codeR xs n = 0 then xs.drop n.toNat ++ xs.take n.toNat else []

/-- The first k of a list, at the same place. -/
theorem RowI.head {w : World} {A : Option Addr} {xs : List Int} (h : RowI w A xs) (k : Nat) : RowI w A (xs.take k) := by
  rcases h with h | ⟨b, off, e, hb, hc⟩
  · subst h; exact .inl (by simp)
  · refine .inr ⟨b, off, e, hb, fun j hj => ?_⟩
    rw [List.length_take] at hj
    rw [hc j (by omega)]
    simp [List.getD_eq_getElem?_getD, show j < k by omega]

theorem l01Own_at (A : Option Addr) (c len : Nat) (xs : List Int) (w : World) (hlen : len = xs.length) (h : RowI w A xs) (hl : xs.length ≤ 1048576) :
    Calls Try.prog 95 #[.slice A len c] w fun e w' => ∃ v, e = .returned v ∧ w'.ownsRow w.heap.size 2 1 v len (xs.map (Value.int .i64)) ∧ Below w.heap.size w w' := by subst hlen; exact l01Own_owns A c xs w h hl

set_option maxHeartbeats 1000000 in
set_option maxRecDepth 8000 in
theorem specCut_any (A : Option Addr) (c : Nat) (xs : List Int) (n : Int) (w : World) (h : RowI w A xs) (hcap : xs.length ≤ c) (_hm : c ≤ maxLen) (hl : xs.length ≤ 1048576) :
    Calls Try.prog 52 #[.slice A xs.length c, .int .i64 n] w (GivesC w (cutL xs n) (codeR xs n)) := by
  have HR := Lib.hid h
  by_cases hk : codeR xs n = 0
  · obtain ⟨hd, g0, g1⟩ := codeR_ok hk
    have HD := Lib.hid hd
    have K := Lib.hid hk
    obtain ⟨m, rfl⟩ := Int.eq_ofNat_of_zero_le g0
    have R : Hid (cutL xs (m : Int) = xs.drop m ++ xs.take m) := by show cutL xs (m : Int) = _; unfold cutL; rw [if_pos hk]; rfl
    have hl52 : xs.length = 52 := hd.2
    have HL := Lib.hid hl52
    have g2 : m ≤ xs.length := by omega
    have hdl : (xs.drop m).length ≤ 1048576 := by rw [List.length_drop]; omega
    obtain ⟨b, off, rfl, _⟩ := h.at_ (k := 0) (by omega)
    obtain ⟨i0, hi, hz0, hz1, hz2⟩ := info_parts int_info
    have HI := Lib.hid (And.intro hi (And.intro hz0 (And.intro hz1 hz2)))
    clear hd hk hl52 h hi hz0 hz1 hz2
    go_enter Try.func52, Try.ntmps52
    go_wp2_with fail
    refine (l03Code_any _ c xs _ _ HR.out (by omega)).mono ?_
    rintro e w1 ⟨rfl, hb⟩
    rw [K.out]
    have HB := Lib.hid hb
    have H1 := Lib.hid (HR.out.below hb)
    have H3 := Lib.hid (H1.out.head m)
    clear hb
    have g3 : m ≤ c := by omega
    by_cases hc : c = m
    · have H2 := Lib.hid (show RowI w1 (some ⟨b, off, none⟩) (xs.drop m) by have := H1.out.cut (k := m) (cap := c) g2 hcap; rwa [if_pos hc] at this)
      go_wp2_with fail
      go_region_law (first
        | (go_simp; go_at_call 95; refine (l01Own_at (some ⟨b, off, none⟩) 0 (xs.length - m) (xs.drop m) _ (by simp) (H2.out.below (below_drewN (Below.refl _ _) 1)) hdl).mono ?_; rintro e w3 ⟨v3, rfl, ho3, hb3⟩; have O3 := Lib.hid ho3; have B3 := Lib.hid (HB.out.trans ((below_drewN (Below.refl _ _) 1).trans (hb3.mono (Nat.le_refl _)) |>.mono HB.out.size)); have S3 := Lib.hid (show w1.heap.size ≤ w3.heap.size from hb3.size); have T3 := Lib.hid (H3.out.below ((below_drewN (Below.refl _ _) 1).trans hb3)); clear ho3 hb3)
        | ((refine step_append_any _ rfl (.tmp 16) (.tmp 19) 22 rfl w1.heap.size 2 i0 (.int .i64 0) 1 8 Try.underlying22 HI.out.1 HI.out.2.1 HI.out.2.2.1 HI.out.2.2.2 rfl (by decide) _ (xs.length - m) _ rfl O3.out w3.heap.size (some ⟨b, off, none⟩) m _ ((xs.take m).map (Value.int .i64)) rfl (by have := T3.out.reads; rwa [List.length_take, Nat.min_eq_left g2] at this) (ints_one _) (by simp only [maxLen]; omega) (by omega) (S3.out) ?_); intro v4 w4 hown4 hg4 hat4; have O4 := Lib.hid hown4; have G4 := Lib.hid (B3.out.grown hg4 B3.out.size (fun j e => Nat.le_trans HB.out.size (O3.out.lt j e).1)); clear hown4 hg4 hat4))
      all_goals
        go_wp2
        go_ret2
        obtain ⟨A', c', hv, ho⟩ := ownI_of_owns (xs := xs.drop m ++ xs.take m) (v := v4) (w := w4) (lo := w1.heap.size) (by rw [List.length_append, List.length_drop, List.length_take, Nat.min_eq_left g2, List.map_append]; exact O4.out)
        subst hv
        exact ⟨A', c', by rw [R.out, K.out]; simp only [List.length_append, List.length_drop, List.length_take, Nat.min_eq_left g2]; rfl, by rw [R.out]; exact ho.mono HB.out.size, G4.out⟩
    · have H2 := Lib.hid (show RowI w1 (some ⟨b, off + m, none⟩) (xs.drop m) by have := H1.out.cut (k := m) (cap := c) g2 hcap; rw [if_neg hc] at this; rw [← Go.WideShapes.add_plain]; exact this)
      go_wp2_with fail
      go_region_law (first
        | (go_simp; go_at_call 95; refine (l01Own_at (some ⟨b, off + m, none⟩) (c - m) (xs.length - m) (xs.drop m) _ (by simp) (H2.out.below (below_drewN (Below.refl _ _) 1)) hdl).mono ?_; rintro e w3 ⟨v3, rfl, ho3, hb3⟩; have O3 := Lib.hid ho3; have B3 := Lib.hid (HB.out.trans ((below_drewN (Below.refl _ _) 1).trans (hb3.mono (Nat.le_refl _)) |>.mono HB.out.size)); have S3 := Lib.hid (show w1.heap.size ≤ w3.heap.size from hb3.size); have T3 := Lib.hid (H3.out.below ((below_drewN (Below.refl _ _) 1).trans hb3)); clear ho3 hb3)
        | ((refine step_append_any _ rfl (.tmp 16) (.tmp 19) 22 rfl w1.heap.size 2 i0 (.int .i64 0) 1 8 Try.underlying22 HI.out.1 HI.out.2.1 HI.out.2.2.1 HI.out.2.2.2 rfl (by decide) _ (xs.length - m) _ rfl O3.out w3.heap.size (some ⟨b, off, none⟩) m _ ((xs.take m).map (Value.int .i64)) rfl (by have := T3.out.reads; rwa [List.length_take, Nat.min_eq_left g2] at this) (ints_one _) (by simp only [maxLen]; omega) (by omega) (S3.out) ?_); intro v4 w4 hown4 hg4 hat4; have O4 := Lib.hid hown4; have G4 := Lib.hid (B3.out.grown hg4 B3.out.size (fun j e => Nat.le_trans HB.out.size (O3.out.lt j e).1)); clear hown4 hg4 hat4))
      all_goals
        go_wp2
        go_ret2
        obtain ⟨A', c', hv, ho⟩ := ownI_of_owns (xs := xs.drop m ++ xs.take m) (v := v4) (w := w4) (lo := w1.heap.size) (by rw [List.length_append, List.length_drop, List.length_take, Nat.min_eq_left g2, List.map_append]; exact O4.out)
        subst hv
        exact ⟨A', c', by rw [R.out, K.out]; simp only [List.length_append, List.length_drop, List.length_take, Nat.min_eq_left g2]; rfl, by rw [R.out]; exact ho.mono HB.out.size, G4.out⟩
  · have R : Hid (cutL xs n = []) := by show cutL xs n = _; unfold cutL; rw [if_neg hk]
    clear h
    have hne : (codeR xs n != 0) = true := by simpa using hk
    clear hk
    go_enter Try.func52, Try.ntmps52
    go_wp2_with fail
    refine (l03Code_any A c xs _ _ HR.out (by omega)).mono ?_
    rintro e w1 ⟨rfl, hb⟩
    go_wp2
    go_ret2
    exact ⟨none, 0, by rw [R.out]; rfl, by rw [R.out]; exact OwnI.nil_ _ _, hb⟩

theorem concat_lit (w1 : World) (A1 A2 : Option Addr) (n1 c1 n2 c2 : Nat) (xs ys : List Int) (hn1 : n1 = xs.length) (hn2 : n2 = ys.length) (h1 : RowI w1 A1 xs) (h2 : RowI w1 A2 ys) (h0 : 0 < xs.length + ys.length) (hl1 : xs.length ≤ 1048576) (hl2 : ys.length ≤ 1048576) :
    Calls Try.prog 93 #[.slice (some ⟨w1.heap.size, 0, none⟩) 2 2] (w1.alloc (.cells #[.slice A1 n1 c1, .slice A2 n2 c2] 22)).drew
      fun e w' => ∃ A c, e = .returned (.slice A (xs.length + ys.length) c) ∧ OwnI w' w1.heap.size A c (xs ++ ys) ∧ Below w1.heap.size w1 w' := by
  subst hn1 hn2
  have hb : Below w1.heap.size w1 (w1.alloc (.cells #[.slice A1 xs.length c1, .slice A2 ys.length c2] 22)).drew := ((Below.refl _ _).alloc (Nat.le_refl _) _).drew
  refine (concat_two w1.heap.size A1 A2 c1 c2 xs ys _ (h1.below hb) (h2.below hb) ?_ ?_ ?_ h0 hl1 hl2).mono ?_
  · exact World.news_of_block (w := (w1.alloc (.cells #[.slice A1 xs.length c1, .slice A2 ys.length c2] 22)).drew) (heap_alloc_new w1 _) 0 _ rfl
  · exact World.news_of_block (w := (w1.alloc (.cells #[.slice A1 xs.length c1, .slice A2 ys.length c2] 22)).drew) (heap_alloc_new w1 _) 1 _ rfl
  · show w1.heap.size < (w1.alloc _).heap.size
    simp
  · rintro e w' ⟨A, c, rfl, ho, hb2⟩
    have hs : w1.heap.size ≤ (w1.alloc (.cells #[.slice A1 xs.length c1, .slice A2 ys.length c2] 22)).drew.heap.size := hb.size
    exact ⟨A, c, by rw [List.length_append], ho.mono hs, hb.trans (hb2.mono hs)⟩

set_option maxHeartbeats 1000000 in
set_option maxRecDepth 8000 in
theorem implCut_any (A : Option Addr) (c : Nat) (xs : List Int) (n : Int) (w : World) (h : RowI w A xs) (hcap : xs.length ≤ c) (_hm : c ≤ maxLen) (hl : xs.length ≤ 1048576) :
    Calls Try.prog 51 #[.slice A xs.length c, .int .i64 n] w (GivesC w (cutL xs n) (codeR xs n)) := by
  have HR := Lib.hid h
  by_cases hk : codeR xs n = 0
  · obtain ⟨hd, g0, g1⟩ := codeR_ok hk
    have HD := Lib.hid hd
    have K := Lib.hid hk
    obtain ⟨m, rfl⟩ := Int.eq_ofNat_of_zero_le g0
    have R : Hid (cutL xs (m : Int) = xs.drop m ++ xs.take m) := by show cutL xs (m : Int) = _; unfold cutL; rw [if_pos hk]; rfl
    have hl52 : xs.length = 52 := hd.2
    have HL := Lib.hid hl52
    have g2 : m ≤ xs.length := by omega
    have hdl : (xs.drop m).length ≤ 1048576 := by rw [List.length_drop]; omega
    have htl : (xs.take m).length ≤ 1048576 := by rw [List.length_take]; omega
    have L1 : Hid (xs.length - m = (xs.drop m).length) := by show _ = _; rw [List.length_drop]
    have L2 : Hid (m = (xs.take m).length) := by show _ = _; rw [List.length_take]; omega
    have LT : Hid ((xs.drop m ++ xs.take m).length = xs.length) := by show _ = _; rw [List.length_append, List.length_drop, List.length_take]; omega
    have h0 : 0 < (xs.drop m).length + (xs.take m).length := by rw [List.length_take, List.length_drop]; omega
    obtain ⟨b, off, rfl, _⟩ := h.at_ (k := 0) (by omega)
    have D := Lib.hid ((deckB_iff xs).2 HD.out)
    clear hd hk hl52 h
    go_enter Try.func51, Try.ntmps51
    go_wp2_with fail
    refine (implIsDeck_any _ c xs _ HR.out (by omega)).mono ?_
    rintro e w1 ⟨rfl, hb⟩
    rw [D.out]
    have HB := Lib.hid hb
    have H1 := Lib.hid (HR.out.below hb)
    have H3 := Lib.hid (H1.out.head m)
    clear hb
    have g3 : m ≤ c := by omega
    by_cases hc : c = m
    · have H2 := Lib.hid (show RowI w1 (some ⟨b, off, none⟩) (xs.drop m) by have := H1.out.cut (k := m) (cap := c) g2 hcap; rwa [if_pos hc] at this)
      go_wp2_with fail
      refine (within_yes _ _ _ _ g0 g1).mono ?_
      rintro e w2 ⟨rfl, rfl⟩
      go_wp2_with fail
      go_region_law (go_simp; go_at_call 93; refine (concat_lit w1 _ _ _ _ _ _ (xs.drop m) (xs.take m) L1.out L2.out H2.out H3.out h0 hdl htl).mono ?_; rintro e w3 ⟨A', c', rfl, ho, hb3⟩; have O3 := Lib.hid ho; have B3 := Lib.hid hb3; clear ho hb3)
      all_goals
        go_wp2
        go_ret2
        exact ⟨A', c', by rw [R.out, K.out, LT.out]; rfl, by rw [R.out]; exact O3.out.mono HB.out.size, HB.out.trans (B3.out.mono HB.out.size)⟩
    · have H2 := Lib.hid (show RowI w1 (some ⟨b, off + m, none⟩) (xs.drop m) by have := H1.out.cut (k := m) (cap := c) g2 hcap; rw [if_neg hc] at this; rw [← Go.WideShapes.add_plain]; exact this)
      go_wp2_with fail
      refine (within_yes _ _ _ _ g0 g1).mono ?_
      rintro e w2 ⟨rfl, rfl⟩
      go_wp2_with fail
      go_region_law (go_simp; go_at_call 93; refine (concat_lit w1 _ _ _ _ _ _ (xs.drop m) (xs.take m) L1.out L2.out H2.out H3.out h0 hdl htl).mono ?_; rintro e w3 ⟨A', c', rfl, ho, hb3⟩; have O3 := Lib.hid ho; have B3 := Lib.hid hb3; clear ho hb3)
      all_goals
        go_wp2
        go_ret2
        exact ⟨A', c', by rw [R.out, K.out, LT.out]; rfl, by rw [R.out]; exact O3.out.mono HB.out.size, HB.out.trans (B3.out.mono HB.out.size)⟩
  · have R : Hid (cutL xs n = []) := by show cutL xs n = _; unfold cutL; rw [if_neg hk]
    clear h
    cases hd : deckB xs
    · have D := Lib.hid hd
      have K : Hid (codeR xs n = 1) := by show codeR xs n = 1; unfold codeR; rw [hd]; rfl
      clear hd hk
      go_enter Try.func51, Try.ntmps51
      go_wp2_with fail
      refine (implIsDeck_any _ c xs _ HR.out (by omega)).mono ?_
      rintro e w1 ⟨rfl, hb⟩
      rw [D.out]
      go_wp2
      go_ret2
      exact ⟨none, 0, by rw [R.out, K.out]; rfl, by rw [R.out]; exact OwnI.nil_ _ _, hb⟩
    · have D := Lib.hid hd
      have hx : ¬ (0 ≤ n ∧ n ≤ 52) := fun hx => hk (by unfold codeR; rw [if_pos hd, if_pos hx])
      have K : Hid (codeR xs n = 2) := by show codeR xs n = 2; unfold codeR; rw [if_pos hd, if_neg hx]
      have H0 : Hid (n < 0 ∨ 52 < n) := by show n < 0 ∨ 52 < n; omega
      clear hd hk hx
      go_enter Try.func51, Try.ntmps51
      go_wp2_with fail
      refine (implIsDeck_any _ c xs _ HR.out (by omega)).mono ?_
      rintro e w1 ⟨rfl, hb⟩
      rw [D.out]
      go_wp2_with (go_at_call 76; refine (within_no _ _ _ _ H0.out).mono ?_; rintro e w2 ⟨rfl, rfl⟩)
      go_ret2
      exact ⟨none, 0, by rw [R.out, K.out]; rfl, by rw [R.out]; exact OwnI.nil_ _ _, hb⟩
end Go.Proofs.Ytljlnfdbjeinaaa
