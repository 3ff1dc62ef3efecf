/-
  Ratios that the reference draws.
-/
import Derived.Test.YtfccmgnoebdlgaaDoorDrawPick
import Derived.Test.YtfccmgnoebdlgaaDoorRatMisc2
import Derived.Test.YtfccmgnoebdlgaaDoorMathSums
namespace Go.Proofs.YtfccmgnoebdlgaaDoor
open Go.RowKit

theorem kcell {g : Nat} {w w' : World} (h : Kept g w w') : (∀ b o, b < w.heap.size → b ≠ g → w'.cell? ⟨b, o, none⟩ = w.cell? ⟨b, o, none⟩) ∧ (∀ b o, b < w.heap.size → b ≠ g → w'.frozen? ⟨b, o, none⟩ = w.frozen? ⟨b, o, none⟩) := by
  refine ⟨fun b o hb hg => h.cell (p := ⟨b, o, none⟩) hb hg, fun b o hb hg => ?_⟩
  have := h.block b hb (fun e => hg (by simpa using e))
  simp [World.frozen?, this]
/-- A block that holds two numbers. -/
def Two (w : World) (R : Nat) (p q : Int) : Prop :=
  R < w.heap.size ∧ w.cell? ⟨R, 0, none⟩ = some (.int .i64 p) ∧ w.cell? ⟨R, 1, none⟩ = some (.int .i64 q) ∧ w.frozen? ⟨R, 0, none⟩ = false ∧ w.frozen? ⟨R, 1, none⟩ = false
theorem Two.kept {g : Nat} {w w' : World} {R : Nat} {p q : Int} (h : Two w R p q) (hk : Kept g w w') (hg : R ≠ g) : Two w' R p q := by
  obtain ⟨h1, h2, h3, h4, h5⟩ := h
  obtain ⟨kc, kf⟩ := kcell hk
  exact ⟨Nat.lt_of_lt_of_le h1 hk.size, (kc R 0 h1 hg).trans h2, (kc R 1 h1 hg).trans h3, (kf R 0 h1 hg).trans h4, (kf R 1 h1 hg).trans h5⟩
theorem Two.below {w w' : World} {R : Nat} {p q : Int} (h : Two w R p q) (hb : Below w.heap.size w w') : Two w' R p q := by
  obtain ⟨h1, h2, h3, h4, h5⟩ := h
  obtain ⟨kc, kf⟩ := bcell hb
  exact ⟨Nat.lt_of_lt_of_le h1 hb.size, (kc R 0 h1).trans h2, (kc R 1 h1).trans h3, (kf R 0 h1).trans h4, (kf R 1 h1).trans h5⟩
theorem Two.alloc (w : World) (t : TypeId) (p q : Int) : Two (w.alloc (.cells #[.int .i64 p, .int .i64 q] t)) w.heap.size p q := by
  refine ⟨by simp, ?_, ?_, ?_, ?_⟩ <;> simp [go_sem]

theorem makR_bd (n d : Int) : -1000000000 ≤ (makR n d).1 ∧ (makR n d).1 ≤ 1000000000 ∧ 0 ≤ (makR n d).2.1 ∧ (makR n d).2.1 ≤ 1000000000 := by
  unfold makR
  split
  · unfold rd rdN rdD rdC
    by_cases h : isR (quN n d) (quD n d) = true
    · rw [if_pos h, if_pos h, if_pos h]
      obtain ⟨h1, h2, h3, h4, _⟩ := (isR_iff _ _).1 h
      exact ⟨h1, h2, by show 0 ≤ quD n d; omega, h4⟩
    · rw [if_neg h, if_neg h, if_neg h]; simp
  · simp [bad]

set_option maxRecDepth 8000 in
theorem l01DrawPart_any (g : Nat) (w : World) (h : Src w g) : Calls Tryd.prog 32 #[.pointer (some ⟨g, 0, none⟩)] w (DrawI g 0 1000000001 w) := by
  have HS := Lib.hid h
  clear h
  go_enter Tryd.func32, Tryd.ntmps32
  go_wp2_with fail
  refine (l01Next_any g 12 _ HS.out).mono ?_
  rintro e w1 ⟨x, rfl, x0, x1, hs1, hk1, hz1⟩
  have S1 := Lib.hid hs1
  have K1 := Lib.hid hk1
  clear hs1 hk1 hz1 x1
  by_cases e0 : x = 0
  · have b0 : (x == 0) = true := by rw [e0]; rfl
    clear e0
    go_wp2_with fail
    refine (l01Pick_any g _ _ [0, 1, 1000000000, 1000000001, 999999999, 999999937] _ _ rfl (S1.out.below' ((Below.refl _ _).alloc (Nat.le_refl _) _)) (rowI_made _ _ _ _ rfl) (made_ne S1.out) (by simp) (by simp)).mono ?_
    rintro e w2 ⟨y, rfl, hy, hs2, hk2, hz2⟩
    have hb : 0 ≤ y ∧ y ≤ 1000000001 := by simp only [List.mem_cons, List.not_mem_nil, or_false] at hy; omega
    have S2 := Lib.hid hs2
    have K2 := Lib.hid ((K1.out.alloc _).trans hk2)
    have HB := Lib.hid hb
    clear hs2 hk2 hz2 hb hy
    go_wp2
    go_ret
    exact ⟨y, rfl, HB.out.1, HB.out.2, S2.out, K2.out⟩
  · have b0 : (x == 0) = false := by simpa using e0
    clear e0
    by_cases e1 : x = 1
    · have b1 : (x == 1) = true := by rw [e1]; rfl
      clear e1
      go_wp2_with fail
      refine (l01Next_any g 1000000000 _ S1.out).mono ?_
      rintro e w2 ⟨y, rfl, y0, y1, hs2, hk2, hz2⟩
      have y2 : y < 1000000000 := by omega
      have S2 := Lib.hid hs2
      have K2 := Lib.hid (K1.out.trans hk2)
      clear hs2 hk2 hz2 y1
      go_wp2
      go_ret
      exact ⟨_, rfl, by omega, by omega, S2.out, K2.out⟩
    · have b1 : (x == 1) = false := by simpa using e1
      clear e1
      go_wp2_with fail
      refine (l01Next_any g 60 _ S1.out).mono ?_
      rintro e w2 ⟨y, rfl, y0, y1, hs2, hk2, hz2⟩
      have y2 : y < 60 := by omega
      have S2 := Lib.hid hs2
      have K2 := Lib.hid (K1.out.trans hk2)
      clear hs2 hk2 hz2 y1
      go_wp2
      go_ret
      exact ⟨_, rfl, by omega, by omega, S2.out, K2.out⟩

/-- A ratio that was drawn. -/
def DrawR (g : Nat) (w : World) (e : Ending) (w' : World) : Prop :=
  ∃ n d : Int, e = .returned (.agg #[.int .i64 n, .int .i64 d]) ∧ -1000000001 ≤ n ∧ n ≤ 1000000001 ∧ 0 ≤ d ∧ d ≤ 1000000001 ∧ Src w' g ∧ Kept g w w'

set_option maxHeartbeats 1000000 in
set_option maxRecDepth 100000 in
theorem l01DrawRatio_any (g : Nat) (w : World) (h : Src w g) : Calls Tryd.prog 27 #[.pointer (some ⟨g, 0, none⟩)] w (DrawR g w) := by
  have G := Lib.hid h.lt
  have HS := Lib.hid h
  clear h
  go_enter Tryd.func27, Tryd.ntmps27
  have gR : w.heap.size ≠ g := by have := G.out; omega
  go_wp2_with fail
  refine (l01DrawPart_any g _ (HS.out.below' ((Below.refl _ _).alloc (Nat.le_refl _) _))).mono ?_
  rintro e w1 ⟨n, rfl, n0, n1, hs1, hk1⟩
  have T1 := Lib.hid ((Two.alloc w _ 0 0).kept hk1 gR)
  have S1 := Lib.hid hs1
  have K1 := Lib.hid (((Kept.refl g w).alloc _).trans hk1)
  clear hs1 hk1
  go_wp2_with fail
  refine (l01Next_any g 3 _ S1.out).mono ?_
  rintro e w2 ⟨x, rfl, x0, x1, hs2, hk2, hz2⟩
  have T2 := Lib.hid (T1.out.kept hk2 gR)
  have S2 := Lib.hid hs2
  have K2 := Lib.hid (K1.out.trans hk2)
  clear hs2 hk2 hz2 x1
  obtain ⟨B, hB⟩ : ∃ B, B = (x == 0) := ⟨_, rfl⟩
  have b0 := hB.symm
  clear hB
  have HN : ∃ N : Int, -1000000001 ≤ N ∧ N ≤ 1000000001 ∧ N = if B = true then -n else n := ⟨_, by split <;> omega, by split <;> omega, rfl⟩
  obtain ⟨N, N0, N1, hN⟩ := HN
  cases B
  all_goals
    have HN := Lib.hid hN
    clear hN
    go_wp2_with fail
    first
      | (have hN' : n = N := HN.out.symm; clear HN; rw [hN']; clear hN')
      | (have hN' : -n = N := HN.out.symm; clear HN; rw [hN']; clear hN')
    refine (l01DrawPart_any g _ S2.out).mono ?_
    rintro e w3 ⟨d, rfl, d0, d1, hs3, hk3⟩
    have T3 := Lib.hid (T2.out.kept hk3 gR)
    have S3 := Lib.hid hs3
    have K3 := Lib.hid (K2.out.trans hk3)
    clear hs3 hk3
    go_wp2_with fail
    refine (specMakeRatio_any N d _).mono ?_
    rintro e w4 ⟨rfl, hb4⟩
    have T4 := Lib.hid (T3.out.below hb4)
    have S4 := Lib.hid (S3.out.below' hb4)
    have K4 := Lib.hid (K3.out.trans (Kept.of_below hb4))
    clear hb4
    have MB := makR_bd N d
    obtain ⟨p, q, k, hm⟩ : ∃ p q k, makR N d = (p, q, k) := ⟨_, _, _, rfl⟩
    rw [hm] at MB ⊢
    simp only at MB
    obtain ⟨p0, p1, q0, q1⟩ := MB
    simp only [ratV]
    clear hm
    have g4 : w4.heap.size ≠ g := by have := S4.out.lt; omega
    by_cases k0 : k = 0
    · have bk : (k != 0) = false := by rw [k0]; rfl
      clear k0
      go_wp2_with fail
      refine (l01Next_any g 24 _ (S4.out.below' ((Below.refl _ _).alloc (Nat.le_refl _) _))).mono ?_
      rintro e w5 ⟨z, rfl, z0, z1, hs5, hk5, hz5⟩
      have TE := Lib.hid ((T4.out.below ((Below.refl _ _).alloc (Nat.le_refl _) _)).kept hk5 gR)
      have UE := Lib.hid ((Two.alloc w4 _ p q).kept hk5 g4)
      have SE := Lib.hid hs5
      have KE := Lib.hid ((K4.out.alloc _).trans hk5)
      clear hs5 hk5 hz5 z1
      obtain ⟨_, c0, c1, f0, f1⟩ := TE.out
      obtain ⟨_, u0, u1, _, _⟩ := UE.out
      by_cases e1 : z = 0
      · have bz : (z == 0) = true := by rw [e1]; rfl
        clear e1
        go_wp2
        refine bodyPost_ret (v := .agg #[.int .i64 N, .int .i64 d]) ?_ rfl ?_
        · simp [results, Tryd.results27, go_sem, c0, c1]
        · refine ⟨N, d, rfl, N0, N1, d0, d1, ?_, ?_⟩
          · exact SE.out.below (((Below.refl w.heap.size w5).setCell (p := ⟨w.heap.size, 0, none⟩) (Nat.le_refl _) _).setCell (p := ⟨w.heap.size, 1, none⟩) (Nat.le_refl _) _) G.out
          · exact (KE.out.setCell (p := ⟨w.heap.size, 0, none⟩) (Nat.le_refl _) _).setCell (p := ⟨w.heap.size, 1, none⟩) (Nat.le_refl _) _
      · have bz : (z == 0) = false := by simpa using e1
        clear e1
        go_wp2
        refine bodyPost_ret (v := .agg #[.int .i64 p, .int .i64 q]) ?_ rfl ?_
        · simp [results, Tryd.results27, go_sem, c0, c1]
        · refine ⟨p, q, rfl, by omega, by omega, by omega, by omega, ?_, ?_⟩
          · exact SE.out.below (((Below.refl w.heap.size w5).setCell (p := ⟨w.heap.size, 0, none⟩) (Nat.le_refl _) _).setCell (p := ⟨w.heap.size, 1, none⟩) (Nat.le_refl _) _) G.out
          · exact (KE.out.setCell (p := ⟨w.heap.size, 0, none⟩) (Nat.le_refl _) _).setCell (p := ⟨w.heap.size, 1, none⟩) (Nat.le_refl _) _
    · have bk : (k != 0) = true := by simpa using k0
      clear k0
      obtain ⟨hl, c0, c1, f0, f1⟩ := T4.out
      go_wp2
      refine bodyPost_ret (v := .agg #[.int .i64 N, .int .i64 d]) ?_ rfl ?_
      · have a0 : ∀ (W : World) (o : Obj) (j : Nat), w.heap.size < W.heap.size → (W.alloc o).cell? ⟨w.heap.size, j, none⟩ = W.cell? ⟨w.heap.size, j, none⟩ := fun W o j h => ((Below.refl W.heap.size W).alloc (Nat.le_refl _) o).cell (p := ⟨w.heap.size, j, none⟩) h
        simp [results, Tryd.results27, go_sem, c0, c1, a0, hl]
      · refine ⟨N, d, rfl, N0, N1, d0, d1, ?_, ?_⟩
        · exact S4.out.below ((((Below.refl w.heap.size w4).setCell (p := ⟨w.heap.size, 0, none⟩) (Nat.le_refl _) _).setCell (p := ⟨w.heap.size, 1, none⟩) (Nat.le_refl _) _).alloc (by simp; omega) _) G.out
        · exact ((K4.out.setCell (p := ⟨w.heap.size, 0, none⟩) (Nat.le_refl _) _).setCell (p := ⟨w.heap.size, 1, none⟩) (Nat.le_refl _) _).alloc _
end Go.Proofs.YtfccmgnoebdlgaaDoor
