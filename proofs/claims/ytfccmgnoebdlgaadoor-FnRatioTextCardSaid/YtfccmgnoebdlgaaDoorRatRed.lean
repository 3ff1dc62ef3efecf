/-
  The reduction of a ratio in the reference and in the program: both return rdN, rdD, rdC.
-/
import Derived.Test.YtfccmgnoebdlgaaDoorRatIs
namespace Go.Proofs.YtfccmgnoebdlgaaDoor
open Go.RowKit

theorem rd_yes {n d g : Int} (hg : g = gcdI n d) (h : isR (n.tdiv g) (d / g) = true) : rdN n d = n.tdiv g ∧ rdD n d = d / g ∧ rdC n d = 0 := by
  subst hg
  unfold rdN rdD rdC quN quD
  rw [if_pos h, if_pos h, if_pos h]; exact ⟨rfl, rfl, rfl⟩
theorem rd_no {n d g : Int} (hg : g = gcdI n d) (h : isR (n.tdiv g) (d / g) = false) : rdN n d = 0 ∧ rdD n d = 0 ∧ rdC n d = 3 := by
  subst hg
  unfold rdN rdD rdC quN quD
  rw [h]; simp

set_option maxHeartbeats 1000000 in
theorem reduced_any (n d : Int) (w : World) (h1 : -2000000000000000000 ≤ n) (h2 : n ≤ 2000000000000000000) (h3 : 1 ≤ d) (h4 : d ≤ 1000000000000000000) :
    Calls Tryd.prog 34 #[.int .i64 n, .int .i64 d] w fun e w' => e = .returned (.tuple #[.agg #[.int .i64 (rdN n d), .int .i64 (rdD n d)], .int .i64 (rdC n d)]) ∧ Below w.heap.size w w' := by
  have a0 := absI_nonneg n
  have a1 : absI n ≤ 2000000000000000000 := absI_le h1 h2
  obtain ⟨g, hg⟩ : ∃ g, g = gcdI n d := ⟨_, rfl⟩
  have g1 : 1 ≤ g := by rw [hg]; exact gcdI_pos n d h3
  have G := Lib.hid hg
  clear hg
  go_enter Tryd.func34, Tryd.ntmps34
  go_wp2_with (first | (go_at_call 42; refine (absOf_any _ _ (by omega) (by omega)).mono ?_; rintro e w' ⟨rfl, rfl⟩) | (go_at_call 37; refine (divisorOf_any _ _ _ (by omega) (by omega) (by omega) (by omega)).mono ?_; rintro e w' ⟨rfl, nn, rfl⟩; rw [gcdI_absI, ← G.out]))
  go_region
  go_wp2_with fail
  refine (implIsRatio_any _ _ _).mono ?_
  rintro e w1 ⟨rfl, hb⟩
  obtain ⟨hc, hf⟩ := bcell hb
  have hz : w.heap.size + 1 < w1.heap.size := by have := hb.size; simp at this; omega
  have hB : Below w.heap.size w w1 := (below_drewN ((Below.refl _ _).alloc (Nat.le_refl _) _) _ |>.alloc (by simp) _).trans (hb.mono (by simp; omega))
  clear hb
  have c0 : w1.cell? ⟨w.heap.size, 0, none⟩ = some (.int .i64 0) := by rw [hc _ _ (by simp <;> omega)]; simp [go_sem]
  have c1 : w1.cell? ⟨w.heap.size, 1, none⟩ = some (.int .i64 0) := by rw [hc _ _ (by simp <;> omega)]; simp [go_sem]
  have c2 : w1.cell? ⟨w.heap.size + 1, 0, none⟩ = some (.int .i64 (n.tdiv g)) := by rw [hc _ _ (by simp <;> omega)]; simp [go_sem]
  have c3 : w1.cell? ⟨w.heap.size + 1, 1, none⟩ = some (.int .i64 (d / g)) := by rw [hc _ _ (by simp <;> omega)]; simp [go_sem]
  have f0 : w1.frozen? ⟨w.heap.size, 0, none⟩ = false := by rw [hf _ _ (by simp <;> omega)]; simp [go_sem]
  have f1 : w1.frozen? ⟨w.heap.size, 1, none⟩ = false := by rw [hf _ _ (by simp <;> omega)]; simp [go_sem]
  clear hc hf
  by_cases hr : isR (n.tdiv g) (d / g) = true
  · have R := Lib.hid (rd_yes G.out hr)
    have hr' : (!isR (n.tdiv g) (d / g)) = false := by rw [hr]; rfl
    rw [hr]
    clear hr hr'
    go_wp2
    exact bodyPost_ret (v := .tuple #[.agg #[.int .i64 (n.tdiv g), .int .i64 (d / g)], .int .i64 0]) (by simp [results, Tryd.results34, go_sem, c0, c1]) rfl ⟨by rw [R.out.1, R.out.2.1, R.out.2.2], hB.setCell (by simp) _ |>.setCell (by simp) _⟩
  · have hr : isR (n.tdiv g) (d / g) = false := by simpa using hr
    have R := Lib.hid (rd_no G.out hr)
    rw [hr]
    clear hr
    go_wp2
    exact bodyPost_ret (v := .tuple #[.agg #[.int .i64 0, .int .i64 0], .int .i64 3]) (by simp [results, Tryd.results34, go_sem, c0, c1]) rfl ⟨by rw [R.out.1, R.out.2.1, R.out.2.2], hB.setCell (by simp) _ |>.setCell (by simp) _⟩

set_option maxHeartbeats 1000000 in
theorem l01Ratio_any (n d : Int) (w : World) (h1 : -2000000000000000000 ≤ n) (h2 : n ≤ 2000000000000000000) (h3 : 1 ≤ d) (h4 : d ≤ 1000000000000000000) :
    Calls Tryd.prog 36 #[.int .i64 n, .int .i64 d] w fun e w' => e = .returned (.tuple #[.agg #[.int .i64 (rdN n d), .int .i64 (rdD n d)], .int .i64 (rdC n d)]) ∧ Below w.heap.size w w' := by
  have a0 := absI_nonneg n
  have a1 : absI n ≤ 2000000000000000000 := absI_le h1 h2
  obtain ⟨g, hg⟩ : ∃ g, g = gcdI n d := ⟨_, rfl⟩
  have g1 : 1 ≤ g := by rw [hg]; exact gcdI_pos n d h3
  have G := Lib.hid hg
  clear hg
  go_enter Tryd.func36, Tryd.ntmps36
  go_wp2_with (first | (go_at_call 47; refine (l01Abs_any _ _ (by omega) (by omega)).mono ?_; rintro e w' ⟨rfl, rfl⟩) | (go_at_call 38; refine (l01Gcd_any (d.toNat + 1) _ _ _ (by omega) (by omega) (by omega) (by omega) (by omega)).mono ?_; rintro e w' ⟨rfl, rfl⟩; rw [gcdI_absI, ← G.out]))
  go_region
  go_wp2_with fail
  refine (specIsRatio_any _ _ _).mono ?_
  rintro e w1 ⟨rfl, hb⟩
  obtain ⟨hc, hf⟩ := bcell hb
  have hz : w.heap.size + 1 < w1.heap.size := by have := hb.size; simp at this; omega
  have hB : Below w.heap.size w w1 := (below_drewN ((Below.refl _ _).alloc (Nat.le_refl _) _) _ |>.alloc (by simp) _).trans (hb.mono (by simp; omega))
  clear hb
  have c0 : w1.cell? ⟨w.heap.size, 0, none⟩ = some (.int .i64 0) := by rw [hc _ _ (by simp <;> omega)]; simp [go_sem]
  have c1 : w1.cell? ⟨w.heap.size, 1, none⟩ = some (.int .i64 0) := by rw [hc _ _ (by simp <;> omega)]; simp [go_sem]
  have c2 : w1.cell? ⟨w.heap.size + 1, 0, none⟩ = some (.int .i64 (n.tdiv g)) := by rw [hc _ _ (by simp <;> omega)]; simp [go_sem]
  have c3 : w1.cell? ⟨w.heap.size + 1, 1, none⟩ = some (.int .i64 (d / g)) := by rw [hc _ _ (by simp <;> omega)]; simp [go_sem]
  have f0 : w1.frozen? ⟨w.heap.size, 0, none⟩ = false := by rw [hf _ _ (by simp <;> omega)]; simp [go_sem]
  have f1 : w1.frozen? ⟨w.heap.size, 1, none⟩ = false := by rw [hf _ _ (by simp <;> omega)]; simp [go_sem]
  clear hc hf
  by_cases hr : isR (n.tdiv g) (d / g) = true
  · have R := Lib.hid (rd_yes G.out hr)
    have hr' : (!isR (n.tdiv g) (d / g)) = false := by rw [hr]; rfl
    rw [hr]
    clear hr hr'
    go_wp2
    exact bodyPost_ret (v := .tuple #[.agg #[.int .i64 (n.tdiv g), .int .i64 (d / g)], .int .i64 0]) (by simp [results, Tryd.results36, go_sem, c0, c1]) rfl ⟨by rw [R.out.1, R.out.2.1, R.out.2.2], hB.setCell (by simp) _ |>.setCell (by simp) _⟩
  · have hr : isR (n.tdiv g) (d / g) = false := by simpa using hr
    have R := Lib.hid (rd_no G.out hr)
    rw [hr]
    clear hr
    go_wp2
    exact bodyPost_ret (v := .tuple #[.agg #[.int .i64 0, .int .i64 0], .int .i64 3]) (by simp [results, Tryd.results36, go_sem, c0, c1]) rfl ⟨by rw [R.out.1, R.out.2.1, R.out.2.2], hB.setCell (by simp) _ |>.setCell (by simp) _⟩
end Go.Proofs.YtfccmgnoebdlgaaDoor
