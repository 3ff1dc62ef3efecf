/-
  Lists of cards and cards that the reference draws.
-/
import Derived.Test.YtmmpeaedglnjlaaDrawDeal
namespace Go.Proofs.Ytmmpeaedglnjlaa
open Go.RowKit

set_option maxHeartbeats 1000000 in
set_option maxRecDepth 8000 in
theorem l02DrawCard_any (g : Nat) (w : World) (h : Src w g) : Calls Try.prog 45 #[.pointer (some ⟨g, 0, none⟩)] w (DrawI g (-1) 52 w) := by
  have HS := Lib.hid h
  clear h
  go_enter Try.func45, Try.ntmps45
  go_wp2_with fail
  refine (l01Next_any g 10 _ HS.out).mono ?_
  rintro e w1 ⟨x, rfl, x0, x1, hs1, hk1, hz1⟩
  have S1 := Lib.hid hs1
  have K1 := Lib.hid hk1
  clear hs1 hk1 hz1 x1
  by_cases e0 : x = 0
  · have b0 : (x == 0) = true := by rw [e0]; rfl
    clear e0
    go_wp2_with fail
    refine (l01Pick_any g _ _ [-1, 0, 51, 52] _ _ rfl (S1.out.below' ((Below.refl _ _).alloc (Nat.le_refl _) _)) (rowI_made _ _ _ _ rfl) (made_ne S1.out) (by simp) (by simp)).mono ?_
    rintro e w2 ⟨y, rfl, hy, hs2, hk2, hz2⟩
    have hb : -1 ≤ y ∧ y ≤ 52 := by simp only [List.mem_cons, List.not_mem_nil, or_false] at hy; omega
    have S2 := Lib.hid hs2
    have K2 := Lib.hid ((K1.out.alloc _).trans hk2)
    have HB := Lib.hid hb
    clear hs2 hk2 hz2 hb hy
    go_wp2
    go_ret
    exact ⟨y, rfl, HB.out.1, HB.out.2, S2.out, K2.out⟩
  · have b0 : (x == 0) = false := by simpa using e0
    clear e0
    go_wp2_with fail
    refine (l01Next_any g 52 _ S1.out).mono ?_
    rintro e w2 ⟨y, rfl, y0, y1, hs2, hk2, hz2⟩
    have y2 : y < 52 := by omega
    have S2 := Lib.hid hs2
    have K2 := Lib.hid (K1.out.trans hk2)
    clear hs2 hk2 hz2 y1
    go_wp2
    go_ret
    exact ⟨y, rfl, by omega, by omega, S2.out, K2.out⟩

set_option maxHeartbeats 2000000 in
set_option maxRecDepth 8000 in
theorem l02DrawList_any (g : Nat) (most : Int) (w : World) (h : Src w g) (hm0 : 0 ≤ most) (hm : most ≤ 100) : Calls Try.prog 53 #[.pointer (some ⟨g, 0, none⟩), .int .i64 most] w (DrawL g w) := by
  have HS := Lib.hid h
  clear h
  obtain ⟨i0, hi, hz0, hz1, hz2⟩ := info_parts int_info
  have HI := Lib.hid (And.intro hi (And.intro hz0 (And.intro hz1 hz2)))
  clear hi hz0 hz1 hz2
  go_enter Try.func53, Try.ntmps53
  go_wp2_with fail
  refine (l01Next_any g (most + 1) _ HS.out).mono ?_
  rintro e w1 ⟨x, rfl, x0, x1, hs1, hk1, hz1⟩
  have x2 : x ≤ 100 := by omega
  have S1 := Lib.hid hs1
  have K1 := Lib.hid hk1
  clear hs1 hk1 hz1 x1
  go_wp2_with fail
  refine (l02Deal_any g x none 0 [] 0 _ rfl (by omega) S1.out (RowI.nil _ _) (by simp)).mono ?_
  rintro e w2 ⟨ys, A2, c2, rfl, ho, hyl, _, hs2, hk2⟩
  have S2 := Lib.hid hs2
  have O2 := Lib.hid (OwnT.mono ho K1.out.size)
  have K2 := Lib.hid (K1.out.trans hk2)
  clear ho hs2 hk2
  obtain ⟨ln, hln⟩ : ∃ ln, ln = ys.length := ⟨_, rfl⟩
  have LN := Lib.hid hln
  rw [← hln] at hyl ⊢
  clear hln
  go_wp2_with fail
  refine (l01Next_any g 24 _ S2.out).mono ?_
  rintro e w3 ⟨y, rfl, y0, y1, hs3, hk3, hz3⟩
  have S3 := Lib.hid hs3
  have K3 := Lib.hid (K2.out.trans hk3)
  have GW : Hid (g < w.heap.size) := HS.out.lt
  have O3 := Lib.hid (O2.out.keptG hk3 GW.out)
  have OW : Hid (w3.ownsRow w.heap.size 2 1 (.slice A2 ln c2) ln (ys.map (Value.int .i64))) := by
    have := O3.out.owns
    rw [← LN.out] at this
    exact this
  have Z3 : Hid (w.heap.size ≤ w3.heap.size) := K3.out.size
  clear hs3 hk3 hz3 y1
  by_cases e0 : y = 0
  · have b0 : (y == 0) = true := by rw [e0]; rfl
    have b1 : (y == 1) = false := by rw [e0]; rfl
    have b2 : (y == 2) = false := by rw [e0]; rfl
    clear e0
    go_wp2_with fail
    refine (l01Pick_any g _ _ [-1, 52] _ _ rfl (S3.out.below' ((Below.refl _ _).alloc (Nat.le_refl _) _)) (rowI_made _ _ _ _ rfl) (made_ne S3.out) (by simp) (by simp)).mono ?_
    rintro e w4 ⟨z, rfl, hz, hs4, hk4, hz4⟩
    have S4 := Lib.hid hs4
    have K4 := Lib.hid ((K3.out.alloc _).trans hk4)
    have OW4 := Lib.hid (owns_keptG (OW.out.alloc _) hk4 GW.out)
    have Z4 : Hid (w.heap.size ≤ w4.heap.size) := K4.out.size
    clear hz hs4 hk4 hz4
    go_wp2_with (at_builtin; refine wpList_append_lies _ rfl (.tmp 16) (.tmp 20) 22 rfl w.heap.size 2 i0 (.int .i64 0) 1 8 Try.underlying22 HI.out.1 HI.out.2.1 HI.out.2.2.1 HI.out.2.2.2 rfl (by decide) _ ln _ rfl (OW4.out.alloc _) ⟨w4.heap.size, 0, none⟩ 1 1 [.int .i64 z] rfl rfl (World.news_of_block (heap_alloc_new _ _)) (by simp [Value.oneCell']) (by decide) (by simp only [maxLen]; omega) (by omega) (by simp; have := Z4.out; omega) _ rfl ?_; intro q cap w5 hown5 hgrow5 hat5 hlt5; have O5 := Lib.hid hown5; have G5 := Lib.hid hgrow5; clear hown5 hgrow5 hat5 hlt5)
    go_ret
    obtain ⟨A', c', hv, ho'⟩ := ownT_of_owns (xs := ys ++ [z]) (by rw [List.length_append, ← LN.out, List.map_append]; exact O5.out)
    rw [List.length_append, ← LN.out] at hv
    have hlo := fun j e => (OW4.out.lt j e)
    rw [show (Value.slice (some ⟨q, 0, none⟩) (ln + 1) cap) = _ from hv]
    refine DrawL.of_own (ys := ys ++ [z]) (by rw [List.length_append, ← LN.out]) ho'.own (Nat.le_refl _) (by rw [List.length_append, ← LN.out]; simp; omega) ?_ ((K4.out.alloc _).grown G5.out (fun k hk => (hlo k hk).1))
    exact S4.out.below (((Below.refl w.heap.size w4).alloc Z4.out _).grown G5.out (by simp; have := Z4.out; omega) (fun k hk => (hlo k hk).1)) GW.out
  · have b0 : (y == 0) = false := by simpa using e0
    by_cases e1 : y = 1
    · have b1 : (y == 1) = true := by rw [e1]; rfl
      have b2 : (y == 2) = false := by rw [e1]; rfl
      clear e0 e1
      by_cases hl0 : 0 < ln
      · obtain ⟨b, off, rfl, hb, hcell⟩ := O3.out.own.row.at_ (k := 0) (by rw [← LN.out]; exact hl0)
        rw [Nat.add_zero] at hcell
        obtain ⟨z, hz⟩ : ∃ z, z = ys.getD 0 0 := ⟨_, rfl⟩
        rw [← hz] at hcell
        clear hz hb
        go_wp2_with (at_builtin; refine wpList_append_lies _ rfl (.tmp 27) (.tmp 31) 22 rfl w.heap.size 2 i0 (.int .i64 0) 1 8 Try.underlying22 HI.out.1 HI.out.2.1 HI.out.2.2.1 HI.out.2.2.2 rfl (by decide) _ ln _ rfl (OW.out.alloc _) ⟨w3.heap.size, 0, none⟩ 1 1 [.int .i64 z] rfl rfl (World.news_of_block (heap_alloc_new _ _)) (by simp [Value.oneCell']) (by decide) (by simp only [maxLen]; omega) (by omega) (by simp; have := Z3.out; omega) _ rfl ?_; intro q cap w5 hown5 hgrow5 hat5 hlt5; have O5 := Lib.hid hown5; have G5 := Lib.hid hgrow5; clear hown5 hgrow5 hat5 hlt5)
        go_ret
        obtain ⟨A', c', hv, ho'⟩ := ownT_of_owns (xs := ys ++ [z]) (by rw [List.length_append, ← LN.out, List.map_append]; exact O5.out)
        rw [List.length_append, ← LN.out] at hv
        have hlo := fun j e => (OW.out.lt j e)
        rw [show (Value.slice (some ⟨q, 0, none⟩) (ln + 1) cap) = _ from hv]
        refine DrawL.of_own (ys := ys ++ [z]) (by rw [List.length_append, ← LN.out]) ho'.own (Nat.le_refl _) (by rw [List.length_append, ← LN.out]; simp; omega) ?_ ((K3.out.alloc _).grown G5.out (fun k hk => (hlo k hk).1))
        exact S3.out.below (((Below.refl w.heap.size w3).alloc Z3.out _).grown G5.out (by simp; have := Z3.out; omega) (fun k hk => (hlo k hk).1)) GW.out
      · have hl1 : ln = 0 := by omega
        subst hl1
        go_wp2
        go_ret
        exact DrawL.of_own LN.out O3.out.own (Nat.le_refl _) (by rw [← LN.out]; omega) S3.out K3.out
    · have b1 : (y == 1) = false := by simpa using e1
      by_cases e2 : y = 2
      · have b2 : (y == 2) = true := by rw [e2]; rfl
        clear e0 e1 e2
        go_wp2_with fail
        refine (l02Deal_any g 52 none 0 [] 0 _ rfl (by omega) S3.out (RowI.nil _ _) (by simp)).mono ?_
        rintro e w4 ⟨zs, A4, c4, rfl, ho, hzl, _, hs4, hk4⟩
        have R := Lib.hid (DrawL.of_own (w := w) rfl ho.own Z3.out (by omega) hs4 (K3.out.trans hk4))
        clear ho hs4 hk4
        go_wp2
        go_ret
        exact R.out
      · have b2 : (y == 2) = false := by simpa using e2
        clear e0 e1 e2
        go_wp2
        go_ret
        exact DrawL.of_own LN.out O3.out.own (Nat.le_refl _) (by rw [← LN.out]; omega) S3.out K3.out
end Go.Proofs.Ytmmpeaedglnjlaa
