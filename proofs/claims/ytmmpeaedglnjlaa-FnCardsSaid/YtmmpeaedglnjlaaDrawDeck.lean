/-
  A source out of a code; decks that the reference draws.
-/
import Derived.Test.YtmmpeaedglnjlaaDrawRow
import Derived.Test.YtmmpeaedglnjlaaShuffle
import Derived.BigRegion
namespace Go.Proofs.Ytmmpeaedglnjlaa
open Go.RowKit


/-! ### Decks -/
set_option maxHeartbeats 1000000 in
set_option maxRecDepth 8000 in
theorem l03Draw_any (g : Nat) (w : World) (h : Src w g) : Calls Try.prog 39 #[.pointer (some ⟨g, 0, none⟩)] w (DrawL g w) := by
  have HS := Lib.hid h
  clear h
  obtain ⟨i0, hi, hz0, hz1, hz2⟩ := info_parts int_info
  have HI := Lib.hid (And.intro hi (And.intro hz0 (And.intro hz1 hz2)))
  clear hi hz0 hz1 hz2
  go_enter Try.func39, Try.ntmps39
  go_wp2_with fail
  refine (l01Next_any g 2147483646 _ HS.out).mono ?_
  rintro e w1 ⟨x, rfl, x0, x1, hs1, hk1, hz1⟩
  have x2 : x < 2147483646 := by omega
  have S1 := Lib.hid hs1
  have K1 := Lib.hid hk1
  clear hs1 hk1 hz1 x1
  go_wp2_with fail
  refine (l03Shuffled_own (1 + x) _ (by omega) (by omega)).mono ?_
  rintro e w2 ⟨A2, c2, rfl, ho, hb⟩
  have L2 : Hid ((shK (1 + x)).length = 52) := shK_length _
  obtain ⟨ys, hys⟩ : ∃ ys, ys = shK (1 + x) := ⟨_, rfl⟩
  rw [← hys] at L2 ho ⊢
  rw [L2.out]
  have G2 := Lib.hid (show g < w1.heap.size from S1.out.lt)
  have S2 := Lib.hid (S1.out.below' hb)
  have K2 := Lib.hid (K1.out.trans (Kept.of_below hb))
  have O2 := Lib.hid ho
  have Z1 := Lib.hid (show w.heap.size ≤ w1.heap.size from K1.out.size)
  clear ho hb hys
  go_wp2_with fail
  refine (l01Next_any g 20 _ S2.out).mono ?_
  rintro e w3 ⟨y, rfl, y0, y1, hs3, hk3, hz3⟩
  have S3 := Lib.hid hs3
  have K3 := Lib.hid (K2.out.trans hk3)
  have O3 := Lib.hid (O2.out.keptG hk3 G2.out)
  clear hs3 hk3 hz3 y1
  by_cases e0 : y = 0
  · have b0 : (y == 0) = true := by rw [e0]; rfl
    clear e0
    obtain ⟨q, f, rfl, q1, q2, q3, q4, qr, qf⟩ : ∃ q f, A2 = some ⟨q, 0, none⟩ ∧ w1.heap.size ≤ q ∧ q < w3.heap.size ∧ ys.length ≤ c2 ∧ c2 ≤ maxLen ∧ w3.rowIs q 2 c2 f ∧ ∀ k, k < ys.length → f k = .int .i64 (ys.getD k 0) := by
      rcases O3.out with ⟨_, _, h⟩ | h
      · have := L2.out; rw [h] at this; simp at this
      · exact h
    have l52 := L2.out
    have cl1 := qr.cell (i := 1) (by omega)
    have cl0 := qr.cell (i := 0) (by omega)
    rw [qf 1 (by omega)] at cl1
    rw [qf 0 (by omega)] at cl0
    obtain ⟨v, hv⟩ : ∃ v, v = ys.getD 1 0 := ⟨_, rfl⟩
    obtain ⟨u, hu⟩ : ∃ u, u = ys.getD 0 0 := ⟨_, rfl⟩
    rw [← hv] at cl1
    rw [← hu] at cl0
    have fr0 := qr.frozen 0
    have QR := Lib.hid (And.intro q1 (And.intro q2 (And.intro q3 (And.intro q4 (And.intro qr qf)))))
    have HV := Lib.hid hv
    have hgq : Hid (g ≠ q) := by have := G2.out; show g ≠ q; omega
    clear qr qf q1 q2 q3 q4 hv hu l52
    go_wp2
    go_ret
    obtain ⟨q1, q2, q3, q4, qr, qf⟩ := QR.out
    refine DrawL.of_own (lo := w1.heap.size) (ys := ys.set 0 v) (by rw [List.length_set]; exact L2.out.symm) (.inr ⟨q, _, _, rfl, q1, by simpa [World.setCell] using q2, by rw [List.length_set]; exact q3, q4, qr.set 0 _, fun k hk => ?_⟩) Z1.out (by rw [List.length_set, L2.out]; omega) ?_ (K3.out.setCell (by have := Z1.out; show w.heap.size ≤ q; omega) _)
    · rw [List.length_set] at hk
      by_cases ek : k = 0
      · subst ek
        rw [if_pos rfl, List.getD_eq_getElem?_getD, List.getElem?_set_self (by omega)]; rfl
      · rw [if_neg ek, qf k hk, List.getD_eq_getElem?_getD, List.getD_eq_getElem?_getD, List.getElem?_set_ne (by omega)]
    · exact S3.out.below ((Below.refl q w3).setCell (p := ⟨q, 0, none⟩) (Nat.le_refl _) _) (by have := G2.out; omega)
  · have b0 : (y == 0) = false := by simpa using e0
    by_cases e1 : y = 1
    · have b1 : (y == 1) = true := by rw [e1]; rfl
      clear e0 e1
      have RC := Lib.hid (O3.out.own.row.cut (k := 1) (cap := c2) (by rw [L2.out]; omega) O3.out.own.cap.1)
      have hc : ¬ c2 = 1 := by have := O3.out.own.cap.1; have := L2.out; omega
      obtain ⟨q, f, rfl, q1, q2, q3, q4, qr, qf⟩ : ∃ q f, A2 = some ⟨q, 0, none⟩ ∧ w1.heap.size ≤ q ∧ q < w3.heap.size ∧ ys.length ≤ c2 ∧ c2 ≤ maxLen ∧ w3.rowIs q 2 c2 f ∧ ∀ k, k < ys.length → f k = .int .i64 (ys.getD k 0) := by
        rcases O3.out with ⟨_, _, h⟩ | h
        · have := L2.out; rw [h] at this; simp at this
        · exact h
      rw [if_neg hc] at RC
      have c51 : 52 ≤ c2 := by have := L2.out; omega
      have c1c : 1 ≤ c2 := by omega
      have Q4 := Lib.hid q4
      have Q1 := Lib.hid q1
      clear q1 q2 q3 q4 qr qf
      go_wp2
      go_ret
      refine ⟨ys.drop 1, some ⟨q, 1, none⟩, c2 - 1, by rw [List.length_drop, L2.out]; rfl, ?_, by rw [List.length_drop, L2.out]; omega, by rw [List.length_drop, L2.out]; omega, by have := Q4.out; omega, fun b hb => ?_, S3.out, K3.out⟩
      · have := RC.out
        simp only [Option.map_some, Go.WideShapes.add_plain, Nat.zero_add] at this
        exact this
      · simp at hb
        have := Q1.out; have := Z1.out; omega
    · have b1 : (y == 1) = false := by simpa using e1
      by_cases e2 : y = 2
      · have b2 : (y == 2) = true := by rw [e2]; rfl
        have OW : Hid (w3.ownsRow w1.heap.size 2 1 (.slice A2 52 c2) 52 (ys.map (Value.int .i64))) := by
          have := O3.out.owns
          rw [L2.out] at this
          exact this
        have Z3 : Hid (w1.heap.size ≤ w3.heap.size) := by
          show _ ≤ _
          rcases O3.out with ⟨_, _, h⟩ | ⟨q, f, _, q1, q2, _⟩
          · have := L2.out; rw [h] at this; simp at this
          · omega
        clear e0 e1 e2
        go_wp2_with (at_builtin; refine wpList_append_lies _ rfl (.tmp 23) (.tmp 24) 22 rfl w1.heap.size 2 i0 (.int .i64 0) 1 8 Try.underlying22 HI.out.1 HI.out.2.1 HI.out.2.2.1 HI.out.2.2.2 rfl (by decide) _ 52 _ rfl (OW.out.alloc _) ⟨w3.heap.size, 0, none⟩ 1 1 [.int .i64 0] rfl rfl (World.news_of_block (heap_alloc_new _ _)) (by simp [Value.oneCell']) (by decide) (by simp only [maxLen]; omega) (by omega) (by simp; have := Z3.out; omega) _ rfl ?_; intro q cap w4 hown2 hgrow2 hat hlt2; have R1 := Lib.hid hown2; have G1 := Lib.hid hgrow2; clear hown2 hgrow2 hat hlt2)
        go_ret
        obtain ⟨A', c', hv, ho'⟩ := ownT_of_owns (xs := ys ++ [0]) (by rw [List.length_append, L2.out, List.map_append]; exact R1.out)
        rw [List.length_append, L2.out] at hv
        rw [hv]
        have hlo := fun j e => (OW.out.lt j e)
        refine DrawL.of_own (ys := ys ++ [0]) (by rw [List.length_append, L2.out]) ho'.own Z1.out (by rw [List.length_append, L2.out]; decide) ?_ ((K3.out.alloc _).grown G1.out (fun k hk => Nat.le_trans Z1.out (hlo k hk).1))
        exact S3.out.below (((Below.refl w1.heap.size w3).alloc Z3.out _).grown G1.out (by simp; have := Z3.out; omega) (fun k hk => (hlo k hk).1)) G2.out
      · have b2 : (y == 2) = false := by simpa using e2
        clear e0 e1 e2
        go_wp2
        go_ret
        exact DrawL.of_own L2.out.symm O3.out.own Z1.out (by rw [L2.out]; omega) S3.out K3.out
end Go.Proofs.Ytmmpeaedglnjlaa
