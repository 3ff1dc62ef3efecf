/-
  ReadRatio in the reference.
-/
import Derived.Test.YtfccmgnoebdlgaaDoorRatRead4
namespace Go.Proofs.YtfccmgnoebdlgaaDoor
open Go.RowKit

theorem RB.set1 {w W : World} {g : Nat} {n d : Int} (h : RB w g n d W) (hg : w.heap.size < g) (m : Int) : RB w g n m (W.setCell ⟨g, 1, none⟩ (.int .i64 m)) := by
  obtain ⟨⟨hb, h1, c0, c1, f0, f1⟩, h2, d0, d1⟩ := h
  have hne : ∀ o, (⟨g, 1, none⟩ : Addr) ≠ ⟨w.heap.size, o, none⟩ := fun o e => by injection e; omega
  refine ⟨⟨hb.setCell (by show w.heap.size ≤ g; omega) _, by simpa [World.setCell] using h1, ?_, ?_, ?_, ?_⟩, by simpa [World.setCell] using h2, ?_, ?_⟩
  · rw [World.cell?_setCell_other _ _ _ _ (hne 0)]; exact c0
  · rw [World.cell?_setCell_other _ _ _ _ (hne 1)]; exact c1
  · simpa using f0
  · simpa using f1
  · rw [World.cell?_setCell_other _ _ _ _ (by simp)]; exact d0
  · exact World.cell?_setCell_same _ _ _ d1
theorem words_ratT {s : ByteArray} {n d : Int} (h : isR n d = true) (hs : ratT n d = s.data.toList) : (d = 1 ∧ wordsB s = [s] ∧ s = bytesOf (Lib.itoa n)) ∨ (d ≠ 1 ∧ wordsB s = [bytesOf (Lib.itoa n), bytesOf (Lib.itoa d)]) := by
  have e : s = bytesOf (ratT n d) := by rw [hs, bytesOf_data]
  by_cases hd : d = 1
  · subst hd
    rw [ratT_one h] at e
    exact .inl ⟨rfl, by rw [e]; exact words_one (itoa_no47 n), e⟩
  · rw [ratT_two h hd] at e
    exact .inr ⟨hd, by rw [e]; exact words_two (itoa_no47 n) (itoa_no47 d)⟩
theorem words_cell {w : World} {lo g n c j : Nat} {s : ByteArray} (h : w.ownsRow lo 9 1 (.slice (some ⟨g, 0, none⟩) n c) n ((wordsB s).map Value.string)) (hn : n = (wordsB s).length) (hj : j < n) :
    w.cell? ⟨g, j, none⟩ = some (.string ((wordsB s).getD j ⟨#[]⟩)) := by
  have hl : j < (wordsB s).length := by omega
  have := h.cells (g := g) rfl j (.string ((wordsB s).getD j ⟨#[]⟩)) (by simp [List.getD_eq_getElem?_getD, List.getElem?_eq_getElem hl])
  simpa [Go.WideShapes.add_plain] using this
theorem word_size (s : ByteArray) (j : Nat) : ((wordsB s).getD j ⟨#[]⟩).size ≤ s.size := by
  rw [List.getD_eq_getElem?_getD]
  cases h : (wordsB s)[j]? with
  | none => exact Nat.zero_le _
  | some x => exact spS_short s _ x (List.mem_of_getElem? h)

set_option maxHeartbeats 8000000 in
set_option maxRecDepth 8000 in
theorem specReadRatio_any (s : ByteArray) (w : World) (hs : s.size ≤ 1048576) :
    Calls Tryd.prog 6 #[.string s] w (RdR s w) := by
  go_enter Tryd.func6, Tryd.ntmps6
  go_wp2_with fail
  refine (l01Split_any s _ hs).mono ?_
  rintro e w1 ⟨g, c, rfl, how, hb⟩
  have B1 := Lib.hid ((RS.start w 23).below hb)
  obtain ⟨nw, hnw⟩ : ∃ nw, nw = (wordsB s).length := ⟨_, rfl⟩
  rw [← hnw] at how ⊢
  have NW := Lib.hid hnw
  have n1 : 1 ≤ nw := by rw [hnw, wordsB_eq]; simp
  obtain ⟨X, hX⟩ : ∃ X, X = (wordsB s).getD 0 ⟨#[]⟩ := ⟨_, rfl⟩
  have cx : w1.cell? ⟨g, 0, none⟩ = some (.string X) := by rw [hX]; exact words_cell how hnw (by omega)
  have xs : X.size ≤ s.size := by rw [hX]; exact word_size s 0
  have HX := Lib.hid hX
  have hg1 : g < w1.heap.size := by
    by_cases h' : g < w1.heap.size
    · exact h'
    · simp [World.cell?, Array.getElem?_eq_none (Nat.le_of_not_lt h')] at cx
  have OW := Lib.hid how
  clear how hb hnw hX
  by_cases h2 : nw = 2
  · subst h2
    obtain ⟨Y, hY⟩ : ∃ Y, Y = (wordsB s).getD 1 ⟨#[]⟩ := ⟨_, rfl⟩
    have CY : Hid (w1.cell? ⟨g, 1, none⟩ = some (.string Y)) := by show _ = _; rw [hY]; exact words_cell OW.out NW.out (by omega)
    have ys : Y.size ≤ s.size := by rw [hY]; exact word_size s 1
    have HY := Lib.hid hY
    have G1 := Lib.hid hg1
    clear hY hg1 OW
    go_wp2_with fail
    refine (l01Signed_any X _ (by omega)).mono ?_
    rintro e w2 ⟨v1, b1, rfl, hv1, hp1, hx1, hb⟩
    have B2 := Lib.hid (B1.out.below hb)
    have BX := Lib.hid (RB.start B2.out v1 1 23)
    have CY2 := Lib.hid ((hb.cell (p := ⟨g, 1, none⟩) G1.out).trans CY.out)
    have cy : (w2.alloc (.cells #[.int .i64 v1, .int .i64 1] 23)).cell? ⟨g, 1, none⟩ = some (.string Y) :=
      (((Below.refl w2.heap.size w2).alloc (Nat.le_refl _) (.cells #[.int .i64 v1, .int .i64 1] 23)).cell (p := ⟨g, 1, none⟩) (Nat.lt_of_lt_of_le G1.out hb.size)).trans CY2.out
    have N1 := Lib.hid hx1
    have P1 : Hid (b1 = true → 1 ≤ s.size) := fun h => by have := hp1 h; omega
    have V1 := Lib.hid hv1
    clear hb hx1 hp1 hv1 cx
    go_wp2_with fail
    refine (l01Value_any Y _ (by omega)).mono ?_
    rintro e w3 ⟨v2, b2, rfl, hv2, -, hx2, hb⟩
    have FB : Hid (w3.frozen? ⟨w2.heap.size, 1, none⟩ = false) := by
      show _ = _
      rw [(bcell hb).2 _ _ (by simp)]; simp [go_sem]
    have BX3 := Lib.hid (BX.out.below hb)
    have HC : Hid (∀ n d, isR n d = true → ratT n d = s.data.toList → v1 = n ∧ b1 = true ∧ v2 = d ∧ b2 = true) := fun n d h1 h2 => by
      obtain ⟨k1, k2, k3, k4, -⟩ := (isR_iff n d).1 h1
      rcases words_ratT h1 h2 with ⟨-, q, -⟩ | ⟨-, q⟩
      · have := NW.out; rw [q] at this; simp at this
      · have qx : X = bytesOf (Lib.itoa n) := by rw [HX.out, q]; rfl
        have qy : Y = bytesOf (Lib.itoa d) := by rw [HY.out, q]; rfl
        obtain ⟨u, rfl⟩ := Int.eq_ofNat_of_zero_le (show 0 ≤ d by omega)
        rw [Lib.itoa_nonneg] at qy
        have a1 := N1.out n (by omega) (by omega) qx
        have a2 := hx2 u (by omega) qy
        exact ⟨a1.1, a1.2, a2.1, a2.2⟩
    have LG : Hid (w.heap.size < w2.heap.size) := B2.out.2.1
    have SB : Hid (RB w w2.heap.size v1 v2 (w3.setCell ⟨w2.heap.size, 1, none⟩ (.int .i64 v2))) := BX3.out.set1 LG.out v2
    obtain ⟨gb, hgb⟩ : ∃ gb, gb = w2.heap.size := ⟨_, rfl⟩
    rw [← hgb] at FB BX3 SB ⊢
    have d0 : w3.cell? ⟨gb, 0, none⟩ = some (.int .i64 v1) := BX3.out.2.2.1
    have d1 : w3.cell? ⟨gb, 1, none⟩ = some (.int .i64 1) := BX3.out.2.2.2
    have fb : w3.frozen? ⟨gb, 1, none⟩ = false := FB.out
    obtain ⟨⟨-, -, c0, c1, f0, f1⟩, -, e0, e1⟩ := SB.out
    clear hb hv2 hx2 cy CY CY2 HX HY NW N1 BX BX3 B1 B2 FB hgb
    cases b1 with
    | false =>
      have GD := Lib.hid (good_no HC.out (.inl rfl))
      clear HC P1
      go_wp2
      exact bodyPost_ret (v := .tuple #[.agg #[.int .i64 0, .int .i64 0], .bool false]) (by simp [results, Tryd.results6, go_sem, c0, c1]) rfl ⟨0, 0, false, rfl, GD.out, by repeat (first | exact SB.out.1.1 | exact (SB.out.1.1).size | exact Nat.le_refl _ | (simp; done) | refine Below.setCell ?_ ?_ _ | refine Below.alloc ?_ ?_ _)⟩
    | true =>
    cases b2 with
    | false =>
      have GD := Lib.hid (good_no HC.out (.inr (.inl rfl)))
      clear HC P1
      go_wp2
      exact bodyPost_ret (v := .tuple #[.agg #[.int .i64 0, .int .i64 0], .bool false]) (by simp [results, Tryd.results6, go_sem, c0, c1]) rfl ⟨0, 0, false, rfl, GD.out, by repeat (first | exact SB.out.1.1 | exact (SB.out.1.1).size | exact Nat.le_refl _ | (simp; done) | refine Below.setCell ?_ ?_ _ | refine Below.alloc ?_ ?_ _)⟩
    | true =>
      have GY : Hid (bytesOf (ratT v1 v2) = s → Good s.data.toList v1 v2 true) := fun h => by
        cases hr : isR v1 v2
        · have e0 : ratT v1 v2 = [] := by unfold ratT; rw [hr]; rfl
          rw [e0] at h
          have e2 : s.size = 0 := by rw [← h]; rfl
          have e3 := P1.out rfl
          omega
        · exact .inl ⟨rfl, hr, by rw [← h, bytesOf_list]⟩
      have GN : Hid (bytesOf (ratT v1 v2) ≠ s → Good s.data.toList 0 0 false) := fun h => good_no HC.out (.inr (.inr (.inr (by rw [bytesOf_data]; exact h))))
      clear HC P1
      go_wp2_with fail
      refine (specRatioText_any v1 v2 _).mono ?_
      rintro e w6 ⟨rfl, hb⟩
      have B6 := Lib.hid (SB.out.below hb)
      obtain ⟨⟨hb6, -, c0, c1, f0, f1⟩, -, d0, d1⟩ := B6.out
      have HB6 := Lib.hid hb6
      obtain ⟨T, hT⟩ : ∃ T, T = bytesOf (ratT v1 v2) := ⟨_, rfl⟩
      have TT := Lib.hid hT
      rw [← hT]
      clear hb hT hb6
      by_cases e : T = s
      · have GD := Lib.hid (GY.out (by rw [← TT.out]; exact e))
        clear GN GY TT B6
        subst e
        go_wp2
        exact bodyPost_ret (v := .tuple #[.agg #[.int .i64 v1, .int .i64 v2], .bool true]) (by simp [results, Tryd.results6, go_sem, c0, c1]) rfl ⟨v1, v2, true, rfl, GD.out, by repeat (first | exact HB6.out | exact (HB6.out).size | exact Nat.le_refl _ | (simp; done) | refine Below.setCell ?_ ?_ _ | refine Below.alloc ?_ ?_ _)⟩
      · have e1 : (T.toList == s.toList) = false := list_ne e
        have GD := Lib.hid (GN.out (by rw [← TT.out]; exact e))
        clear GN GY TT B6 e
        go_wp2
        exact bodyPost_ret (v := .tuple #[.agg #[.int .i64 0, .int .i64 0], .bool false]) (by simp [results, Tryd.results6, go_sem, c0, c1]) rfl ⟨0, 0, false, rfl, GD.out, by repeat (first | exact HB6.out | exact (HB6.out).size | exact Nat.le_refl _ | (simp; done) | refine Below.setCell ?_ ?_ _ | refine Below.alloc ?_ ?_ _)⟩
  · have b0 : ((nw : Int) == 2) = false := by rw [beq_eq_false_iff_ne]; omega
    have i0 : (0 : Int) < (nw : Int) := by omega
    have N2 := Lib.hid h2
    clear h2 OW hg1
    go_wp2_with fail
    refine (l01Signed_any X _ (by omega)).mono ?_
    rintro e w2 ⟨v1, b1, rfl, hv1, hp1, hx1, hb⟩
    have B2 := Lib.hid (B1.out.below hb)
    have SB := Lib.hid (RB.start B2.out v1 1 23)
    have P1 : Hid (b1 = true → 1 ≤ s.size) := fun h => by have := hp1 h; omega
    have HC : Hid (∀ n d, isR n d = true → ratT n d = s.data.toList → v1 = n ∧ b1 = true ∧ 1 = d ∧ true = true) := fun n d h1 h2 => by
      obtain ⟨k1, k2, k3, k4, -⟩ := (isR_iff n d).1 h1
      rcases words_ratT h1 h2 with ⟨qd, q, qs⟩ | ⟨-, q⟩
      · have qx : X = bytesOf (Lib.itoa n) := by rw [HX.out, q]; exact qs
        have a1 := hx1 n (by omega) (by omega) qx
        exact ⟨a1.1, a1.2, qd.symm, rfl⟩
      · have := NW.out; rw [q] at this; exact absurd this N2.out
    obtain ⟨⟨-, -, c0, c1, f0, f1⟩, -, e0, e1⟩ := SB.out
    clear hb hx1 hp1 hv1 cx HX NW N2 B1
    cases b1 with
    | false =>
      have GD := Lib.hid (good_no HC.out (.inl rfl))
      clear HC P1
      go_wp2
      exact bodyPost_ret (v := .tuple #[.agg #[.int .i64 0, .int .i64 0], .bool false]) (by simp [results, Tryd.results6, go_sem, c0, c1]) rfl ⟨0, 0, false, rfl, GD.out, by repeat (first | exact SB.out.1.1 | exact (SB.out.1.1).size | exact Nat.le_refl _ | (simp; done) | refine Below.setCell ?_ ?_ _ | refine Below.alloc ?_ ?_ _)⟩
    | true =>
      have GY : Hid (bytesOf (ratT v1 1) = s → Good s.data.toList v1 1 true) := fun h => by
        cases hr : isR v1 1
        · have e0 : ratT v1 1 = [] := by unfold ratT; rw [hr]; rfl
          rw [e0] at h
          have e2 : s.size = 0 := by rw [← h]; rfl
          have e3 := P1.out rfl
          omega
        · exact .inl ⟨rfl, hr, by rw [← h, bytesOf_list]⟩
      have GN : Hid (bytesOf (ratT v1 1) ≠ s → Good s.data.toList 0 0 false) := fun h => good_no HC.out (.inr (.inr (.inr (by rw [bytesOf_data]; exact h))))
      clear HC P1
      go_wp2_with fail
      refine (specRatioText_any v1 1 _).mono ?_
      rintro e w6 ⟨rfl, hb⟩
      have B6 := Lib.hid (SB.out.below hb)
      obtain ⟨⟨hb6, -, c0, c1, f0, f1⟩, -, d0, d1⟩ := B6.out
      have HB6 := Lib.hid hb6
      obtain ⟨T, hT⟩ : ∃ T, T = bytesOf (ratT v1 1) := ⟨_, rfl⟩
      have TT := Lib.hid hT
      rw [← hT]
      clear hb hT hb6
      by_cases e : T = s
      · have GD := Lib.hid (GY.out (by rw [← TT.out]; exact e))
        clear GN GY TT B6
        subst e
        go_wp2
        exact bodyPost_ret (v := .tuple #[.agg #[.int .i64 v1, .int .i64 1], .bool true]) (by simp [results, Tryd.results6, go_sem, c0, c1]) rfl ⟨v1, 1, true, rfl, GD.out, by repeat (first | exact HB6.out | exact (HB6.out).size | exact Nat.le_refl _ | (simp; done) | refine Below.setCell ?_ ?_ _ | refine Below.alloc ?_ ?_ _)⟩
      · have e1 : (T.toList == s.toList) = false := list_ne e
        have GD := Lib.hid (GN.out (by rw [← TT.out]; exact e))
        clear GN GY TT B6 e
        go_wp2
        exact bodyPost_ret (v := .tuple #[.agg #[.int .i64 0, .int .i64 0], .bool false]) (by simp [results, Tryd.results6, go_sem, c0, c1]) rfl ⟨0, 0, false, rfl, GD.out, by repeat (first | exact HB6.out | exact (HB6.out).size | exact Nat.le_refl _ | (simp; done) | refine Below.setCell ?_ ?_ _ | refine Below.alloc ?_ ?_ _)⟩
end Go.Proofs.YtfccmgnoebdlgaaDoor
