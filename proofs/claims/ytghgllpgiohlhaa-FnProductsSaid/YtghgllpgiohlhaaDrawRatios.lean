/-
  Pairs of ratios that the reference draws out of a code.
-/
import Derived.Test.YtghgllpgiohlhaaRatDraw
import Derived.BigRegion
import Derived.Deep.RegionLaw
namespace Go.Proofs.Ytghgllpgiohlhaa
open Go.RowKit

/-- Two ratios that were drawn. -/
def DrawR2 (w : World) (e : Ending) (w' : World) : Prop :=
  ∃ a b c d : Int, e = .returned (.tuple #[.agg #[.int .i64 a, .int .i64 b], .agg #[.int .i64 c, .int .i64 d]]) ∧ -1000000001 ≤ a ∧ a ≤ 1000000001 ∧ 0 ≤ b ∧ b ≤ 1000000001 ∧ -1000000001 ≤ c ∧ c ≤ 1000000001 ∧ 0 ≤ d ∧ d ≤ 1000000001 ∧ Below w.heap.size w w'

set_option maxHeartbeats 1000000 in
set_option maxRecDepth 100000 in
theorem drawAddRatios_any (A : Option Addr) (n c : Nat) (bs : Nat → Int) (w : World) (h : RowU w A n bs) (hn : n ≤ 1048576) :
    Calls Try.prog 6 #[.slice A n c] w (DrawR2 w) := by
  have HR := Lib.hid h
  clear h
  go_enter Try.func6, Try.ntmps6
  go_wp2_with fail
  refine (l01From_any A n c bs _ ?_ hn).mono ?_
  · exact (HR.out.below ((Below.refl _ _).alloc (Nat.le_refl _) _)).below ((Below.refl _ _).alloc (Nat.le_refl _) _)
  rintro e w1 ⟨g, rfl, hg, hs, hb⟩
  have z0 : w.heap.size + 1 < g := by simp at hg; omega
  have X1 := Lib.hid (((Two.alloc w _ 0 0).below ((Below.refl _ _).alloc (Nat.le_refl _) _)).below hb)
  have Y1 := Lib.hid ((Two.alloc (w.alloc _) _ 0 0).below hb)
  have B1 := Lib.hid ((((Below.refl w.heap.size w).alloc (Nat.le_refl _) _).alloc (by simp) _).trans (hb.mono (by simp; omega)))
  have S1 := Lib.hid hs
  clear hg hs hb
  go_wp2_with fail
  refine (l01DrawRatio_any g _ S1.out).mono ?_
  rintro e w2 ⟨a, b, rfl, a0, a1, b0, b1, hs2, hk2⟩
  have X2 := Lib.hid (X1.out.kept hk2 (by omega))
  have Y2 := Lib.hid (Y1.out.kept hk2 (by simp; omega))
  have B2 := Lib.hid (B1.out.trans (hk2.below B1.out.size (by omega)))
  have S2 := Lib.hid hs2
  clear hs2 hk2
  obtain ⟨w3, hw3⟩ : ∃ w3, w3 = w2.alloc (.cells #[.int .i64 a, .int .i64 b] 25) := ⟨_, rfl⟩
  have Z3 : Hid (Two w3 w2.heap.size a b) := by rw [hw3]; exact Two.alloc w2 _ a b
  have X3 : Hid (Two w3 w.heap.size 0 0) := by rw [hw3]; exact X2.out.below ((Below.refl _ _).alloc (Nat.le_refl _) _)
  have Y3 : Hid (Two w3 (w.heap.size + 1) 0 0) := by rw [hw3]; have := Y2.out.below ((Below.refl _ _).alloc (Nat.le_refl _) (.cells #[.int .i64 a, .int .i64 b] 25)); exact Lib.hid (by simpa using this)
  have S3 : Hid (Src w3 g) := by rw [hw3]; exact S2.out.below' ((Below.refl _ _).alloc (Nat.le_refl _) _)
  have B3 : Hid (Below w.heap.size w w3) := by rw [hw3]; exact B2.out.alloc B2.out.size _
  have gz : g < w2.heap.size := S2.out.lt
  go_wp2
  rw [← hw3]
  clear hw3 B2 S2 X2 Y2 B1 S1 X1 Y1
  have gx : w.heap.size ≠ g := by omega
  have gy : w.heap.size + 1 ≠ g := by omega
  have gu : w2.heap.size ≠ g := by omega
  have X3d : Hid (Two w3.drew w.heap.size 0 0) := X3.out.below (below_drewN (Below.refl _ _) 1)
  have Y3d : Hid (Two w3.drew (w.heap.size + 1) 0 0) := Y3.out.below (below_drewN (Below.refl _ _) 1)
  have Z3d : Hid (Two w3.drew w2.heap.size a b) := Z3.out.below (below_drewN (Below.refl _ _) 1)
  have S3d : Hid (Src w3.drew g) := S3.out.drewN 1
  have B3d : Hid (Below w.heap.size w w3.drew) := below_drewN B3.out 1
  obtain ⟨_, x0, x1, xf0, xf1⟩ := X3.out
  obtain ⟨_, y0, y1, yf0, yf1⟩ := Y3.out
  obtain ⟨_, u0, u1, uf0, uf1⟩ := Z3.out
  go_region_law (go_simp; go_at_call 23; refine (l01DrawRatio_any g _ S3d.out).mono ?_; rintro e w4 ⟨c4, d4, rfl, c40, c41, d40, d41, hs4, hk4⟩; have X4 := X3d.out.kept hk4 gx; have Y4 := Y3d.out.kept hk4 gy; have Z4 := Z3d.out.kept hk4 gu; have B4 := Lib.hid (And.intro B3d.out hk4); obtain ⟨_, x40, x41, xf40, xf41⟩ := X4; obtain ⟨_, y40, y41, yf40, yf41⟩ := Y4; obtain ⟨_, u40, u41, uf40, uf41⟩ := Z4; clear hs4 hk4)
  all_goals
    go_wp2
    refine bodyPost_ret (v := .tuple #[.agg #[.int .i64 a, .int .i64 b], .agg #[.int .i64 c4, .int .i64 d4]]) ?_ rfl ?_
    · simp [results, Try.results6, go_sem, x40, x41, y40, y41]
    · exact ⟨a, b, c4, d4, rfl, a0, a1, b0, b1, c40, c41, d40, d41, ((((B4.out.1.trans (B4.out.2.below B3d.out.size (by omega))).setCell (p := ⟨w.heap.size, 0, none⟩) (Nat.le_refl _) _).setCell (p := ⟨w.heap.size, 1, none⟩) (Nat.le_refl _) _).setCell (p := ⟨w.heap.size + 1, 0, none⟩) (Nat.le_succ _) _).setCell (p := ⟨w.heap.size + 1, 1, none⟩) (Nat.le_succ _) _⟩
set_option maxRecDepth 100000 in
theorem drawSubtractRatios_any (A : Option Addr) (n c : Nat) (bs : Nat → Int) (w : World) (h : RowU w A n bs) (hn : n ≤ 1048576) :
    Calls Try.prog 9 #[.slice A n c] w (DrawR2 w) := by
  have HR := Lib.hid h
  clear h
  go_enter Try.func9, Try.ntmps9
  go_wp2_with fail
  refine (drawAddRatios_any A n c bs _ ?_ hn).mono ?_
  · exact (HR.out.below ((Below.refl _ _).alloc (Nat.le_refl _) _)).below ((Below.refl _ _).alloc (Nat.le_refl _) _)
  rintro e w1 ⟨a, b, c4, d4, rfl, a0, a1, b0, b1, c40, c41, d40, d41, hb⟩
  have X1 := Lib.hid (((Two.alloc w _ 0 0).below ((Below.refl _ _).alloc (Nat.le_refl _) _)).below hb)
  have Y1 := Lib.hid ((Two.alloc (w.alloc _) _ 0 0).below hb)
  have B1 := Lib.hid ((((Below.refl w.heap.size w).alloc (Nat.le_refl _) _).alloc (by simp) _).trans (hb.mono (by simp; omega)))
  clear hb
  obtain ⟨_, x40, x41, xf40, xf41⟩ := X1.out
  have Y2 : Hid (Two w1 (w.heap.size + 1) 0 0) := Lib.hid (by simpa using Y1.out)
  obtain ⟨_, y40, y41, yf40, yf41⟩ := Y2.out
  go_wp2
  refine bodyPost_ret (v := .tuple #[.agg #[.int .i64 a, .int .i64 b], .agg #[.int .i64 c4, .int .i64 d4]]) ?_ rfl ?_
  · simp [results, Try.results9, go_sem, x40, x41, y40, y41]
  · exact ⟨a, b, c4, d4, rfl, a0, a1, b0, b1, c40, c41, d40, d41, (((B1.out.setCell (p := ⟨w.heap.size, 0, none⟩) (Nat.le_refl _) _).setCell (p := ⟨w.heap.size, 1, none⟩) (Nat.le_refl _) _).setCell (p := ⟨w.heap.size + 1, 0, none⟩) (Nat.le_succ _) _).setCell (p := ⟨w.heap.size + 1, 1, none⟩) (Nat.le_succ _) _⟩

set_option maxRecDepth 100000 in
theorem drawMultiplyRatios_any (A : Option Addr) (n c : Nat) (bs : Nat → Int) (w : World) (h : RowU w A n bs) (hn : n ≤ 1048576) :
    Calls Try.prog 14 #[.slice A n c] w (DrawR2 w) := by
  have HR := Lib.hid h
  clear h
  go_enter Try.func14, Try.ntmps14
  go_wp2_with fail
  refine (drawAddRatios_any A n c bs _ ?_ hn).mono ?_
  · exact (HR.out.below ((Below.refl _ _).alloc (Nat.le_refl _) _)).below ((Below.refl _ _).alloc (Nat.le_refl _) _)
  rintro e w1 ⟨a, b, c4, d4, rfl, a0, a1, b0, b1, c40, c41, d40, d41, hb⟩
  have X1 := Lib.hid (((Two.alloc w _ 0 0).below ((Below.refl _ _).alloc (Nat.le_refl _) _)).below hb)
  have Y1 := Lib.hid ((Two.alloc (w.alloc _) _ 0 0).below hb)
  have B1 := Lib.hid ((((Below.refl w.heap.size w).alloc (Nat.le_refl _) _).alloc (by simp) _).trans (hb.mono (by simp; omega)))
  clear hb
  obtain ⟨_, x40, x41, xf40, xf41⟩ := X1.out
  have Y2 : Hid (Two w1 (w.heap.size + 1) 0 0) := Lib.hid (by simpa using Y1.out)
  obtain ⟨_, y40, y41, yf40, yf41⟩ := Y2.out
  go_wp2
  refine bodyPost_ret (v := .tuple #[.agg #[.int .i64 a, .int .i64 b], .agg #[.int .i64 c4, .int .i64 d4]]) ?_ rfl ?_
  · simp [results, Try.results14, go_sem, x40, x41, y40, y41]
  · exact ⟨a, b, c4, d4, rfl, a0, a1, b0, b1, c40, c41, d40, d41, (((B1.out.setCell (p := ⟨w.heap.size, 0, none⟩) (Nat.le_refl _) _).setCell (p := ⟨w.heap.size, 1, none⟩) (Nat.le_refl _) _).setCell (p := ⟨w.heap.size + 1, 0, none⟩) (Nat.le_succ _) _).setCell (p := ⟨w.heap.size + 1, 1, none⟩) (Nat.le_succ _) _⟩

set_option maxRecDepth 100000 in
theorem drawDivideRatios_any (A : Option Addr) (n c : Nat) (bs : Nat → Int) (w : World) (h : RowU w A n bs) (hn : n ≤ 1048576) :
    Calls Try.prog 17 #[.slice A n c] w (DrawR2 w) := by
  have HR := Lib.hid h
  clear h
  go_enter Try.func17, Try.ntmps17
  go_wp2_with fail
  refine (drawAddRatios_any A n c bs _ ?_ hn).mono ?_
  · exact (HR.out.below ((Below.refl _ _).alloc (Nat.le_refl _) _)).below ((Below.refl _ _).alloc (Nat.le_refl _) _)
  rintro e w1 ⟨a, b, c4, d4, rfl, a0, a1, b0, b1, c40, c41, d40, d41, hb⟩
  have X1 := Lib.hid (((Two.alloc w _ 0 0).below ((Below.refl _ _).alloc (Nat.le_refl _) _)).below hb)
  have Y1 := Lib.hid ((Two.alloc (w.alloc _) _ 0 0).below hb)
  have B1 := Lib.hid ((((Below.refl w.heap.size w).alloc (Nat.le_refl _) _).alloc (by simp) _).trans (hb.mono (by simp; omega)))
  clear hb
  obtain ⟨_, x40, x41, xf40, xf41⟩ := X1.out
  have Y2 : Hid (Two w1 (w.heap.size + 1) 0 0) := Lib.hid (by simpa using Y1.out)
  obtain ⟨_, y40, y41, yf40, yf41⟩ := Y2.out
  go_wp2
  refine bodyPost_ret (v := .tuple #[.agg #[.int .i64 a, .int .i64 b], .agg #[.int .i64 c4, .int .i64 d4]]) ?_ rfl ?_
  · simp [results, Try.results17, go_sem, x40, x41, y40, y41]
  · exact ⟨a, b, c4, d4, rfl, a0, a1, b0, b1, c40, c41, d40, d41, (((B1.out.setCell (p := ⟨w.heap.size, 0, none⟩) (Nat.le_refl _) _).setCell (p := ⟨w.heap.size, 1, none⟩) (Nat.le_refl _) _).setCell (p := ⟨w.heap.size + 1, 0, none⟩) (Nat.le_succ _) _).setCell (p := ⟨w.heap.size + 1, 1, none⟩) (Nat.le_succ _) _⟩
end Go.Proofs.Ytghgllpgiohlhaa
