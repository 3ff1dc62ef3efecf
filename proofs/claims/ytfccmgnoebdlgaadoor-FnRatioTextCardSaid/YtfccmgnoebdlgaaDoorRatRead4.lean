/-
  ReadRatio in the program.
-/
import Derived.Test.YtfccmgnoebdlgaaDoorRatCut
import Derived.Test.YtfccmgnoebdlgaaDoorRatText3
namespace Go.Proofs.YtfccmgnoebdlgaaDoor
open Go.RowKit

def RdR (s : ByteArray) (w : World) (e : Ending) (w' : World) : Prop :=
  ∃ (n d : Int) (b : Bool), e = .returned (.tuple #[.agg #[.int .i64 n, .int .i64 d], .bool b]) ∧ Good s.data.toList n d b ∧ Below w.heap.size w w'
/-- The result's cells lie at the first free block. -/
def RS (w W : World) : Prop := Below w.heap.size w W ∧ w.heap.size < W.heap.size ∧ W.cell? ⟨w.heap.size, 0, none⟩ = some (.int .i64 0) ∧ W.cell? ⟨w.heap.size, 1, none⟩ = some (.int .i64 0) ∧ W.frozen? ⟨w.heap.size, 0, none⟩ = false ∧ W.frozen? ⟨w.heap.size, 1, none⟩ = false
theorem RS.start (w : World) (t : TypeId) : RS w (w.alloc (.cells #[.int .i64 0, .int .i64 0] t)) :=
  ⟨(Below.refl _ _).alloc (Nat.le_refl _) _, by simp, (box2 _ _ _ _).1, (box2 _ _ _ _).2, by simp [go_sem], by simp [go_sem]⟩
theorem RS.below {w W W' : World} (h : RS w W) (hb : Below W.heap.size W W') : RS w W' := by
  obtain ⟨hc, hf⟩ := bcell hb
  exact ⟨h.1.trans (hb.mono h.1.size), Nat.lt_of_lt_of_le h.2.1 hb.size, by rw [hc _ _ h.2.1]; exact h.2.2.1, by rw [hc _ _ h.2.1]; exact h.2.2.2.1, by rw [hf _ _ h.2.1]; exact h.2.2.2.2.1, by rw [hf _ _ h.2.1]; exact h.2.2.2.2.2⟩
/-- .. and the ratio's box. -/
def RB (w : World) (g : Nat) (n d : Int) (W : World) : Prop := RS w W ∧ g < W.heap.size ∧ W.cell? ⟨g, 0, none⟩ = some (.int .i64 n) ∧ W.cell? ⟨g, 1, none⟩ = some (.int .i64 d)
theorem RB.start {w W : World} (h : RS w W) (n d : Int) (t : TypeId) : RB w W.heap.size n d (W.alloc (.cells #[.int .i64 n, .int .i64 d] t)) :=
  ⟨h.below ((Below.refl _ _).alloc (Nat.le_refl _) _), by simp, (box2 _ _ _ _).1, (box2 _ _ _ _).2⟩
theorem RB.below {w W W' : World} {g : Nat} {n d : Int} (h : RB w g n d W) (hb : Below W.heap.size W W') : RB w g n d W' := by
  obtain ⟨hc, hf⟩ := bcell hb
  exact ⟨h.1.below hb, Nat.lt_of_lt_of_le h.2.1 hb.size, by rw [hc _ _ h.2.1]; exact h.2.2.1, by rw [hc _ _ h.2.1]; exact h.2.2.2⟩
theorem good_no {s : List UInt8} {v1 v2 : Int} {b1 b2 : Bool} (hc : ∀ n d, isR n d = true → ratT n d = s → v1 = n ∧ b1 = true ∧ v2 = d ∧ b2 = true) (h : b1 = false ∨ b2 = false ∨ isR v1 v2 = false ∨ bytesOf (ratT v1 v2) ≠ bytesOf s) : Good s 0 0 false := by
  refine .inr ⟨rfl, rfl, rfl, ?_⟩
  rintro ⟨n, d, h1, h2⟩
  obtain ⟨e1, e2, e3, e4⟩ := hc n d h1 h2
  subst e1 e3
  rcases h with h | h | h | h
  · rw [h] at e2; cases e2
  · rw [h] at e4; cases e4
  · rw [h] at h1; cases h1
  · exact h (by rw [h2])

set_option maxHeartbeats 8000000 in
set_option maxRecDepth 8000 in
theorem implReadRatio_any (s : ByteArray) (w : World) (hs : s.size ≤ 1048576) (hr : Rd w) :
    Calls Tryd.prog 7 #[.string s] w (RdR s w) := by
  have HR := Lib.hid hr
  have ONE : Hid ((⟨#[49]⟩ : ByteArray) = bytesOf (Lib.itoa 1)) := by
    show _ = _
    rw [show (1 : Int) = ((1 : Nat) : Int) from rfl, Lib.itoa_nonneg, decDigits_small (by omega)]; rfl
  clear hr
  go_enter Tryd.func7, Tryd.ntmps7
  go_wp2_with fail
  refine (cut_any s _ hs).mono ?_
  rintro e w2 ⟨X, Y, f, rfl, hc, xs, ys, hb⟩
  have B2 := Lib.hid ((RS.start w 23).below hb)
  have CC := Lib.hid hc
  have xs : X.size ≤ 1048576 := by omega
  clear hb hc
  cases f with
  | false =>
    have zs : (⟨#[49]⟩ : ByteArray).size ≤ 1048576 := by decide
    go_wp2_with fail
    refine (readNumber_any X _ xs (HR.out.below B2.out.1)).mono ?_
    rintro e w3 ⟨v1, b1, rfl, hv1, hx1, hb⟩
    have B3 := Lib.hid (B2.out.below hb)
    have N1 := Lib.hid hx1
    have V1 := Lib.hid hv1
    clear hb hx1 hv1
    go_wp2_with fail
    refine (readNumber_any ⟨#[49]⟩ _ zs (HR.out.below B3.out.1)).mono ?_
    rintro e w4 ⟨v2, b2, rfl, hv2, hx2, hb⟩
    have B4 := Lib.hid (B3.out.below hb)
    have HC : Hid (∀ n d, isR n d = true → ratT n d = s.data.toList → v1 = n ∧ b1 = true ∧ v2 = d ∧ b2 = true) := fun n d h1 h2 => by
      obtain ⟨k1, k2, k3, k4, -⟩ := (isR_iff n d).1 h1
      have hcut := ratT_cut h1
      obtain ⟨q1, q2, q3⟩ := CC.out
      rw [h2] at hcut
      rw [hcut] at q1 q2 q3
      by_cases hd : d = 1
      · subst hd
        rw [if_pos rfl] at q1
        have a1 := N1.out n (by omega) (by omega) q1
        have a2 := hx2 1 (by omega) (by omega) ONE.out
        exact ⟨a1.1, a1.2, a2.1, a2.2⟩
      · rw [if_neg hd] at q3; cases q3
    obtain ⟨c0, c1, f0, f1⟩ := (RB.start B4.out v1 v2 23).1.2.2
    clear hb hx2 hv2 B2 B3 N1 V1
    cases b1 with
    | false =>
      have GD := Lib.hid (good_no HC.out (.inl rfl))
      clear HC
      go_wp2
      exact bodyPost_ret (v := .tuple #[.agg #[.int .i64 0, .int .i64 0], .bool false]) (by simp [results, Tryd.results7, go_sem, c0, c1]) rfl ⟨0, 0, false, rfl, GD.out, by repeat (first | exact B4.out.1 | exact (B4.out.1).size | exact Nat.le_refl _ | (simp; done) | refine Below.setCell ?_ ?_ _ | refine Below.alloc ?_ ?_ _)⟩
    | true =>
    cases b2 with
    | false =>
      have GD := Lib.hid (good_no HC.out (.inr (.inl rfl)))
      clear HC
      go_wp2
      exact bodyPost_ret (v := .tuple #[.agg #[.int .i64 0, .int .i64 0], .bool false]) (by simp [results, Tryd.results7, go_sem, c0, c1]) rfl ⟨0, 0, false, rfl, GD.out, by repeat (first | exact B4.out.1 | exact (B4.out.1).size | exact Nat.le_refl _ | (simp; done) | refine Below.setCell ?_ ?_ _ | refine Below.alloc ?_ ?_ _)⟩
    | true =>
      have GN : Hid (isR v1 v2 = false ∨ bytesOf (ratT v1 v2) ≠ s → Good s.data.toList 0 0 false) := fun h => good_no HC.out (by
        rcases h with h | h
        · exact .inr (.inr (.inl h))
        · exact .inr (.inr (.inr (by rw [bytesOf_data]; exact h))))
      clear HC
      go_wp2_with fail
      refine (implIsRatio_any v1 v2 _).mono ?_
      rintro e w5 ⟨rfl, hb⟩
      have B5 := Lib.hid ((RB.start B4.out v1 v2 23).below hb)
      clear hb c0 c1 f0 f1
      by_cases hr : isR v1 v2 = true
      · rw [hr]
        obtain ⟨g, hg⟩ : ∃ g, g = w4.heap.size := ⟨_, rfl⟩
        rw [← hg] at B5 ⊢
        obtain ⟨d0, d1⟩ := B5.out.2.2
        clear hg
        go_wp2_with fail
        refine (implRatioText_any v1 v2 _ (HR.out.below B5.out.1.1).1).mono ?_
        rintro e w6 ⟨rfl, hb⟩
        have B6 := Lib.hid (B5.out.below hb)
        obtain ⟨⟨hb6, -, c0, c1, f0, f1⟩, -, d0, d1⟩ := B6.out
        obtain ⟨T, hT⟩ : ∃ T, T = bytesOf (ratT v1 v2) := ⟨_, rfl⟩
        rw [← hT]
        clear hb
        by_cases e : T = s
        · have GD : Hid (Good s.data.toList v1 v2 true) := .inl ⟨rfl, hr, by rw [← e, hT, bytesOf_list]⟩
          have HB6 := Lib.hid hb6
          clear hT GN hr hb6 B5 B6
          subst e
          go_wp2
          exact bodyPost_ret (v := .tuple #[.agg #[.int .i64 v1, .int .i64 v2], .bool true]) (by simp [results, Tryd.results7, go_sem, c0, c1]) rfl ⟨v1, v2, true, rfl, GD.out, by repeat (first | exact HB6.out | exact (HB6.out).size | exact Nat.le_refl _ | (simp; done) | refine Below.setCell ?_ ?_ _ | refine Below.alloc ?_ ?_ _)⟩
        · have e1 : (T.toList == s.toList) = false := list_ne e
          have GD := Lib.hid (GN.out (.inr (by rw [← hT]; exact e)))
          have HB6 := Lib.hid hb6
          clear hT GN hr hb6 B5 B6 e
          go_wp2
          exact bodyPost_ret (v := .tuple #[.agg #[.int .i64 0, .int .i64 0], .bool false]) (by simp [results, Tryd.results7, go_sem, c0, c1]) rfl ⟨0, 0, false, rfl, GD.out, by repeat (first | exact HB6.out | exact (HB6.out).size | exact Nat.le_refl _ | (simp; done) | refine Below.setCell ?_ ?_ _ | refine Below.alloc ?_ ?_ _)⟩
      · have hr : isR v1 v2 = false := by simpa using hr
        have GD := Lib.hid (GN.out (.inl hr))
        rw [hr]
        obtain ⟨⟨hb6, -, c0, c1, f0, f1⟩, -, d0, d1⟩ := B5.out
        have HB6 := Lib.hid hb6
        clear GN hr hb6 B5
        go_wp2
        exact bodyPost_ret (v := .tuple #[.agg #[.int .i64 0, .int .i64 0], .bool false]) (by simp [results, Tryd.results7, go_sem, c0, c1]) rfl ⟨0, 0, false, rfl, GD.out, by repeat (first | exact HB6.out | exact (HB6.out).size | exact Nat.le_refl _ | (simp; done) | refine Below.setCell ?_ ?_ _ | refine Below.alloc ?_ ?_ _)⟩
  | true =>
    have zs : Y.size ≤ 1048576 := by omega
    go_wp2_with fail
    refine (readNumber_any X _ xs (HR.out.below B2.out.1)).mono ?_
    rintro e w3 ⟨v1, b1, rfl, hv1, hx1, hb⟩
    have B3 := Lib.hid (B2.out.below hb)
    have N1 := Lib.hid hx1
    have V1 := Lib.hid hv1
    clear hb hx1 hv1
    go_wp2_with fail
    refine (readNumber_any Y _ zs (HR.out.below B3.out.1)).mono ?_
    rintro e w4 ⟨v2, b2, rfl, hv2, hx2, hb⟩
    have B4 := Lib.hid (B3.out.below hb)
    have HC : Hid (∀ n d, isR n d = true → ratT n d = s.data.toList → v1 = n ∧ b1 = true ∧ v2 = d ∧ b2 = true) := fun n d h1 h2 => by
      obtain ⟨k1, k2, k3, k4, -⟩ := (isR_iff n d).1 h1
      have hcut := ratT_cut h1
      obtain ⟨q1, q2, q3⟩ := CC.out
      rw [h2] at hcut
      rw [hcut] at q1 q2 q3
      by_cases hd : d = 1
      · rw [if_pos hd] at q3; cases q3
      · rw [if_neg hd] at q1 q2
        have a1 := N1.out n (by omega) (by omega) q1
        have a2 := hx2 d (by omega) (by omega) q2
        exact ⟨a1.1, a1.2, a2.1, a2.2⟩
    obtain ⟨c0, c1, f0, f1⟩ := (RB.start B4.out v1 v2 23).1.2.2
    clear hb hx2 hv2 B2 B3 N1 V1
    cases b1 with
    | false =>
      have GD := Lib.hid (good_no HC.out (.inl rfl))
      clear HC
      go_wp2
      exact bodyPost_ret (v := .tuple #[.agg #[.int .i64 0, .int .i64 0], .bool false]) (by simp [results, Tryd.results7, go_sem, c0, c1]) rfl ⟨0, 0, false, rfl, GD.out, by repeat (first | exact B4.out.1 | exact (B4.out.1).size | exact Nat.le_refl _ | (simp; done) | refine Below.setCell ?_ ?_ _ | refine Below.alloc ?_ ?_ _)⟩
    | true =>
    cases b2 with
    | false =>
      have GD := Lib.hid (good_no HC.out (.inr (.inl rfl)))
      clear HC
      go_wp2
      exact bodyPost_ret (v := .tuple #[.agg #[.int .i64 0, .int .i64 0], .bool false]) (by simp [results, Tryd.results7, go_sem, c0, c1]) rfl ⟨0, 0, false, rfl, GD.out, by repeat (first | exact B4.out.1 | exact (B4.out.1).size | exact Nat.le_refl _ | (simp; done) | refine Below.setCell ?_ ?_ _ | refine Below.alloc ?_ ?_ _)⟩
    | true =>
      have GN : Hid (isR v1 v2 = false ∨ bytesOf (ratT v1 v2) ≠ s → Good s.data.toList 0 0 false) := fun h => good_no HC.out (by
        rcases h with h | h
        · exact .inr (.inr (.inl h))
        · exact .inr (.inr (.inr (by rw [bytesOf_data]; exact h))))
      clear HC
      go_wp2_with fail
      refine (implIsRatio_any v1 v2 _).mono ?_
      rintro e w5 ⟨rfl, hb⟩
      have B5 := Lib.hid ((RB.start B4.out v1 v2 23).below hb)
      clear hb c0 c1 f0 f1
      by_cases hr : isR v1 v2 = true
      · rw [hr]
        obtain ⟨g, hg⟩ : ∃ g, g = w4.heap.size := ⟨_, rfl⟩
        rw [← hg] at B5 ⊢
        obtain ⟨d0, d1⟩ := B5.out.2.2
        clear hg
        go_wp2_with fail
        refine (implRatioText_any v1 v2 _ (HR.out.below B5.out.1.1).1).mono ?_
        rintro e w6 ⟨rfl, hb⟩
        have B6 := Lib.hid (B5.out.below hb)
        obtain ⟨⟨hb6, -, c0, c1, f0, f1⟩, -, d0, d1⟩ := B6.out
        obtain ⟨T, hT⟩ : ∃ T, T = bytesOf (ratT v1 v2) := ⟨_, rfl⟩
        rw [← hT]
        clear hb
        by_cases e : T = s
        · have GD : Hid (Good s.data.toList v1 v2 true) := .inl ⟨rfl, hr, by rw [← e, hT, bytesOf_list]⟩
          have HB6 := Lib.hid hb6
          clear hT GN hr hb6 B5 B6
          subst e
          go_wp2
          exact bodyPost_ret (v := .tuple #[.agg #[.int .i64 v1, .int .i64 v2], .bool true]) (by simp [results, Tryd.results7, go_sem, c0, c1]) rfl ⟨v1, v2, true, rfl, GD.out, by repeat (first | exact HB6.out | exact (HB6.out).size | exact Nat.le_refl _ | (simp; done) | refine Below.setCell ?_ ?_ _ | refine Below.alloc ?_ ?_ _)⟩
        · have e1 : (T.toList == s.toList) = false := list_ne e
          have GD := Lib.hid (GN.out (.inr (by rw [← hT]; exact e)))
          have HB6 := Lib.hid hb6
          clear hT GN hr hb6 B5 B6 e
          go_wp2
          exact bodyPost_ret (v := .tuple #[.agg #[.int .i64 0, .int .i64 0], .bool false]) (by simp [results, Tryd.results7, go_sem, c0, c1]) rfl ⟨0, 0, false, rfl, GD.out, by repeat (first | exact HB6.out | exact (HB6.out).size | exact Nat.le_refl _ | (simp; done) | refine Below.setCell ?_ ?_ _ | refine Below.alloc ?_ ?_ _)⟩
      · have hr : isR v1 v2 = false := by simpa using hr
        have GD := Lib.hid (GN.out (.inl hr))
        rw [hr]
        obtain ⟨⟨hb6, -, c0, c1, f0, f1⟩, -, d0, d1⟩ := B5.out
        have HB6 := Lib.hid hb6
        clear GN hr hb6 B5
        go_wp2
        exact bodyPost_ret (v := .tuple #[.agg #[.int .i64 0, .int .i64 0], .bool false]) (by simp [results, Tryd.results7, go_sem, c0, c1]) rfl ⟨0, 0, false, rfl, GD.out, by repeat (first | exact HB6.out | exact (HB6.out).size | exact Nat.le_refl _ | (simp; done) | refine Below.setCell ?_ ?_ _ | refine Below.alloc ?_ ?_ _)⟩
end Go.Proofs.YtfccmgnoebdlgaaDoor
