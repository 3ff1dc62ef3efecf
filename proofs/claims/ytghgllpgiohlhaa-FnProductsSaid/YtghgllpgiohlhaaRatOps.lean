/-
  The operations on ratios in the reference and in the program: sum, product, quotient, difference.
-/
import Derived.Test.YtghgllpgiohlhaaRatRed
namespace Go.Proofs.Ytghgllpgiohlhaa
open Go.RowKit

/-- What a call that returns a ratio and a code hands back. -/
abbrev ratV (t : Int × Int × Int) : Value := .tuple #[.agg #[.int .i64 t.1, .int .i64 t.2.1], .int .i64 t.2.2]
theorem ratV_eq {t : Int × Int × Int} {n d c : Int} (h : t = (n, d, c)) : Ending.returned (.tuple #[.agg #[.int .i64 n, .int .i64 d], .int .i64 c]) = .returned (ratV t) := by subst h; rfl

set_option maxHeartbeats 1000000 in
theorem implAddRatios_any (a b c d : Int) (w : World) :
    Calls Try.prog 7 #[.agg #[.int .i64 a, .int .i64 b], .agg #[.int .i64 c, .int .i64 d]] w fun e w' => e = .returned (ratV (addR a b c d)) ∧ Below w.heap.size w w' := by
  cases ha : isR a b
  · have H := Lib.hid ha
    have R : Hid (addR a b c d = (0, 0, 1)) := by unfold addR; rw [if_neg (okk_left ha)]; rfl
    clear ha
    go_enter Try.func7, Try.ntmps7
    go_wp2_with fail
    refine (implIsRatio_any a b _).mono ?_
    rintro e w1 ⟨rfl, hb⟩
    rw [H.out]
    obtain ⟨hc, hf⟩ := bcell hb
    have hz : w.heap.size + 2 < w1.heap.size := by have := hb.size; simp at this; omega
    have hB : Below w.heap.size w w1 := ((((Below.refl _ _).alloc (Nat.le_refl _) _).alloc (by simp) _).alloc (by simp <;> omega) _).trans (hb.mono (by simp; omega))
    have c0 : w1.cell? ⟨w.heap.size + 2, 0, none⟩ = some (.int .i64 0) := by rw [hc _ _ (by simp <;> omega)]; simp [go_sem]
    have c1 : w1.cell? ⟨w.heap.size + 2, 1, none⟩ = some (.int .i64 0) := by rw [hc _ _ (by simp <;> omega)]; simp [go_sem]
    have f0 : w1.frozen? ⟨w.heap.size + 2, 0, none⟩ = false := by rw [hf _ _ (by simp <;> omega)]; simp [go_sem]
    have f1 : w1.frozen? ⟨w.heap.size + 2, 1, none⟩ = false := by rw [hf _ _ (by simp <;> omega)]; simp [go_sem]
    clear hb hc hf
    go_wp2
    exact bodyPost_ret (v := .tuple #[.agg #[.int .i64 0, .int .i64 0], .int .i64 1]) (by simp [results, Try.results7, go_sem, c0, c1]) rfl ⟨ratV_eq R.out, hB.setCell (by simp; omega) _ |>.setCell (by simp; omega) _⟩
  cases hd : isR c d
  · have H := Lib.hid ha
    have H' := Lib.hid hd
    have R : Hid (addR a b c d = (0, 0, 1)) := by unfold addR; rw [if_neg (okk_right hd)]; rfl
    clear ha hd
    go_enter Try.func7, Try.ntmps7
    go_wp2_with fail
    refine (implIsRatio_any a b _).mono ?_
    rintro e w1 ⟨rfl, hb⟩
    rw [H.out]
    obtain ⟨hc, hf⟩ := bcell hb
    have hz : w.heap.size + 2 < w1.heap.size := by have := hb.size; simp at this; omega
    have hB : Below w.heap.size w w1 := ((((Below.refl _ _).alloc (Nat.le_refl _) _).alloc (by simp) _).alloc (by simp <;> omega) _).trans (hb.mono (by simp; omega))
    have b0 : w1.cell? ⟨w.heap.size + 1, 0, none⟩ = some (.int .i64 c) := by rw [hc _ _ (by simp <;> omega)]; simp [go_sem]
    have b1 : w1.cell? ⟨w.heap.size + 1, 1, none⟩ = some (.int .i64 d) := by rw [hc _ _ (by simp <;> omega)]; simp [go_sem]
    have c0 : w1.cell? ⟨w.heap.size + 2, 0, none⟩ = some (.int .i64 0) := by rw [hc _ _ (by simp <;> omega)]; simp [go_sem]
    have c1 : w1.cell? ⟨w.heap.size + 2, 1, none⟩ = some (.int .i64 0) := by rw [hc _ _ (by simp <;> omega)]; simp [go_sem]
    have f0 : w1.frozen? ⟨w.heap.size + 2, 0, none⟩ = false := by rw [hf _ _ (by simp <;> omega)]; simp [go_sem]
    have f1 : w1.frozen? ⟨w.heap.size + 2, 1, none⟩ = false := by rw [hf _ _ (by simp <;> omega)]; simp [go_sem]
    clear hb hc hf
    go_wp2_with fail
    refine (implIsRatio_any c d _).mono ?_
    rintro e w2 ⟨rfl, hb⟩
    rw [H'.out]
    have hB2 : Below w.heap.size w w2 := hB.trans (hb.mono (by omega))
    have hz2 : w.heap.size + 2 < w2.heap.size := by have := hb.size; omega
    obtain ⟨hc, hf⟩ := bcell hb
    have c0' : w2.cell? ⟨w.heap.size + 2, 0, none⟩ = some (.int .i64 0) := by rw [hc _ _ hz]; exact c0
    have c1' : w2.cell? ⟨w.heap.size + 2, 1, none⟩ = some (.int .i64 0) := by rw [hc _ _ hz]; exact c1
    have f0' : w2.frozen? ⟨w.heap.size + 2, 0, none⟩ = false := by rw [hf _ _ hz]; exact f0
    have f1' : w2.frozen? ⟨w.heap.size + 2, 1, none⟩ = false := by rw [hf _ _ hz]; exact f1
    clear hb hc hf c0 c1 f0 f1 b0 b1
    go_wp2
    exact bodyPost_ret (v := .tuple #[.agg #[.int .i64 0, .int .i64 0], .int .i64 1]) (by simp [results, Try.results7, go_sem, c0', c1']) rfl ⟨ratV_eq R.out, hB2.setCell (by simp; omega) _ |>.setCell (by simp; omega) _⟩
  have H := Lib.hid ha
  have H' := Lib.hid hd
  have R0 : Hid (addR a b c d = rd (a * d + c * b) (b * d)) := by unfold addR; rw [if_pos (okk_true ha hd)]; rfl
  obtain ⟨k1, k2, k3, k4, _⟩ := (isR_iff a b).1 ha
  obtain ⟨m1, m2, m3, m4, _⟩ := (isR_iff c d).1 hd
  clear ha hd
  obtain ⟨p0, q0⟩ := mul_bd k1 k2 (x := a) (y := d) (by omega) m4
  obtain ⟨p1, q1⟩ := mul_bd m1 m2 (x := c) (y := b) (by omega) k4
  obtain ⟨p2, q2⟩ := mul_bd (x := b) (y := d) (by omega) k4 (by omega) m4
  have s0 := mul_pos' k3 m3
  go_enter Try.func7, Try.ntmps7
  go_wp2_with fail
  refine (implIsRatio_any a b _).mono ?_
  rintro e w1 ⟨rfl, hb⟩
  rw [H.out]
  obtain ⟨hc, hf⟩ := bcell hb
  have hz : w.heap.size + 2 < w1.heap.size := by have := hb.size; simp at this; omega
  have hB : Below w.heap.size w w1 := ((((Below.refl _ _).alloc (Nat.le_refl _) _).alloc (by simp) _).alloc (by simp <;> omega) _).trans (hb.mono (by simp; omega))
  have a0 : w1.cell? ⟨w.heap.size, 0, none⟩ = some (.int .i64 a) := by rw [hc _ _ (by simp <;> omega)]; simp [go_sem]
  have a1 : w1.cell? ⟨w.heap.size, 1, none⟩ = some (.int .i64 b) := by rw [hc _ _ (by simp <;> omega)]; simp [go_sem]
  have b0 : w1.cell? ⟨w.heap.size + 1, 0, none⟩ = some (.int .i64 c) := by rw [hc _ _ (by simp <;> omega)]; simp [go_sem]
  have b1 : w1.cell? ⟨w.heap.size + 1, 1, none⟩ = some (.int .i64 d) := by rw [hc _ _ (by simp <;> omega)]; simp [go_sem]
  have c0 : w1.cell? ⟨w.heap.size + 2, 0, none⟩ = some (.int .i64 0) := by rw [hc _ _ (by simp <;> omega)]; simp [go_sem]
  have c1 : w1.cell? ⟨w.heap.size + 2, 1, none⟩ = some (.int .i64 0) := by rw [hc _ _ (by simp <;> omega)]; simp [go_sem]
  have f0 : w1.frozen? ⟨w.heap.size + 2, 0, none⟩ = false := by rw [hf _ _ (by simp <;> omega)]; simp [go_sem]
  have f1 : w1.frozen? ⟨w.heap.size + 2, 1, none⟩ = false := by rw [hf _ _ (by simp <;> omega)]; simp [go_sem]
  clear hb hc hf
  go_wp2_with fail
  refine (implIsRatio_any c d _).mono ?_
  rintro e w2 ⟨rfl, hb⟩
  rw [H'.out]
  have hB2 : Below w.heap.size w w2 := hB.trans (hb.mono (by omega))
  have hz2 : w.heap.size + 2 < w2.heap.size := by have := hb.size; omega
  obtain ⟨hc, hf⟩ := bcell hb
  have a0' : w2.cell? ⟨w.heap.size, 0, none⟩ = some (.int .i64 a) := by rw [hc _ _ (by omega)]; exact a0
  have a1' : w2.cell? ⟨w.heap.size, 1, none⟩ = some (.int .i64 b) := by rw [hc _ _ (by omega)]; exact a1
  have b0' : w2.cell? ⟨w.heap.size + 1, 0, none⟩ = some (.int .i64 c) := by rw [hc _ _ (by omega)]; exact b0
  have b1' : w2.cell? ⟨w.heap.size + 1, 1, none⟩ = some (.int .i64 d) := by rw [hc _ _ (by omega)]; exact b1
  have c0' : w2.cell? ⟨w.heap.size + 2, 0, none⟩ = some (.int .i64 0) := by rw [hc _ _ hz]; exact c0
  have c1' : w2.cell? ⟨w.heap.size + 2, 1, none⟩ = some (.int .i64 0) := by rw [hc _ _ hz]; exact c1
  have f0' : w2.frozen? ⟨w.heap.size + 2, 0, none⟩ = false := by rw [hf _ _ hz]; exact f0
  have f1' : w2.frozen? ⟨w.heap.size + 2, 1, none⟩ = false := by rw [hf _ _ hz]; exact f1
  clear hb hc hf c0 c1 f0 f1 a0 a1 b0 b1
  go_wp2_with fail
  refine (reduced_any _ _ _ (by omega) (by omega) (by omega) (by omega)).mono ?_
  rintro e w3 ⟨rfl, hb⟩
  have hB3 : Below w.heap.size w w3 := hB2.trans (hb.mono (by omega))
  obtain ⟨hc, hf⟩ := bcell hb
  have c0 : w3.cell? ⟨w.heap.size + 2, 0, none⟩ = some (.int .i64 0) := by rw [hc _ _ hz2]; exact c0'
  have c1 : w3.cell? ⟨w.heap.size + 2, 1, none⟩ = some (.int .i64 0) := by rw [hc _ _ hz2]; exact c1'
  have f0 : w3.frozen? ⟨w.heap.size + 2, 0, none⟩ = false := by rw [hf _ _ hz2]; exact f0'
  have f1 : w3.frozen? ⟨w.heap.size + 2, 1, none⟩ = false := by rw [hf _ _ hz2]; exact f1'
  clear hb hc hf c0' c1' f0' f1' a0' a1' b0' b1'
  go_wp2
  exact bodyPost_ret (v := .tuple #[.agg #[.int .i64 _, .int .i64 _], .int .i64 _]) (by simp [results, Try.results7, go_sem, c0, c1]) rfl ⟨ratV_eq R0.out, hB3.setCell (by simp; omega) _ |>.setCell (by simp; omega) _⟩

set_option maxHeartbeats 1000000 in
theorem implMultiplyRatios_any (a b c d : Int) (w : World) :
    Calls Try.prog 15 #[.agg #[.int .i64 a, .int .i64 b], .agg #[.int .i64 c, .int .i64 d]] w fun e w' => e = .returned (ratV (mulR a b c d)) ∧ Below w.heap.size w w' := by
  cases ha : isR a b
  · have H := Lib.hid ha
    have R : Hid (mulR a b c d = (0, 0, 1)) := by unfold mulR; rw [if_neg (okk_left ha)]; rfl
    clear ha
    go_enter Try.func15, Try.ntmps15
    go_wp2_with fail
    refine (implIsRatio_any a b _).mono ?_
    rintro e w1 ⟨rfl, hb⟩
    rw [H.out]
    obtain ⟨hc, hf⟩ := bcell hb
    have hz : w.heap.size + 2 < w1.heap.size := by have := hb.size; simp at this; omega
    have hB : Below w.heap.size w w1 := ((((Below.refl _ _).alloc (Nat.le_refl _) _).alloc (by simp) _).alloc (by simp <;> omega) _).trans (hb.mono (by simp; omega))
    have c0 : w1.cell? ⟨w.heap.size + 2, 0, none⟩ = some (.int .i64 0) := by rw [hc _ _ (by simp <;> omega)]; simp [go_sem]
    have c1 : w1.cell? ⟨w.heap.size + 2, 1, none⟩ = some (.int .i64 0) := by rw [hc _ _ (by simp <;> omega)]; simp [go_sem]
    have f0 : w1.frozen? ⟨w.heap.size + 2, 0, none⟩ = false := by rw [hf _ _ (by simp <;> omega)]; simp [go_sem]
    have f1 : w1.frozen? ⟨w.heap.size + 2, 1, none⟩ = false := by rw [hf _ _ (by simp <;> omega)]; simp [go_sem]
    clear hb hc hf
    go_wp2
    exact bodyPost_ret (v := .tuple #[.agg #[.int .i64 0, .int .i64 0], .int .i64 1]) (by simp [results, Try.results15, go_sem, c0, c1]) rfl ⟨ratV_eq R.out, hB.setCell (by simp; omega) _ |>.setCell (by simp; omega) _⟩
  cases hd : isR c d
  · have H := Lib.hid ha
    have H' := Lib.hid hd
    have R : Hid (mulR a b c d = (0, 0, 1)) := by unfold mulR; rw [if_neg (okk_right hd)]; rfl
    clear ha hd
    go_enter Try.func15, Try.ntmps15
    go_wp2_with fail
    refine (implIsRatio_any a b _).mono ?_
    rintro e w1 ⟨rfl, hb⟩
    rw [H.out]
    obtain ⟨hc, hf⟩ := bcell hb
    have hz : w.heap.size + 2 < w1.heap.size := by have := hb.size; simp at this; omega
    have hB : Below w.heap.size w w1 := ((((Below.refl _ _).alloc (Nat.le_refl _) _).alloc (by simp) _).alloc (by simp <;> omega) _).trans (hb.mono (by simp; omega))
    have b0 : w1.cell? ⟨w.heap.size + 1, 0, none⟩ = some (.int .i64 c) := by rw [hc _ _ (by simp <;> omega)]; simp [go_sem]
    have b1 : w1.cell? ⟨w.heap.size + 1, 1, none⟩ = some (.int .i64 d) := by rw [hc _ _ (by simp <;> omega)]; simp [go_sem]
    have c0 : w1.cell? ⟨w.heap.size + 2, 0, none⟩ = some (.int .i64 0) := by rw [hc _ _ (by simp <;> omega)]; simp [go_sem]
    have c1 : w1.cell? ⟨w.heap.size + 2, 1, none⟩ = some (.int .i64 0) := by rw [hc _ _ (by simp <;> omega)]; simp [go_sem]
    have f0 : w1.frozen? ⟨w.heap.size + 2, 0, none⟩ = false := by rw [hf _ _ (by simp <;> omega)]; simp [go_sem]
    have f1 : w1.frozen? ⟨w.heap.size + 2, 1, none⟩ = false := by rw [hf _ _ (by simp <;> omega)]; simp [go_sem]
    clear hb hc hf
    go_wp2_with fail
    refine (implIsRatio_any c d _).mono ?_
    rintro e w2 ⟨rfl, hb⟩
    rw [H'.out]
    have hB2 : Below w.heap.size w w2 := hB.trans (hb.mono (by omega))
    have hz2 : w.heap.size + 2 < w2.heap.size := by have := hb.size; omega
    obtain ⟨hc, hf⟩ := bcell hb
    have c0' : w2.cell? ⟨w.heap.size + 2, 0, none⟩ = some (.int .i64 0) := by rw [hc _ _ hz]; exact c0
    have c1' : w2.cell? ⟨w.heap.size + 2, 1, none⟩ = some (.int .i64 0) := by rw [hc _ _ hz]; exact c1
    have f0' : w2.frozen? ⟨w.heap.size + 2, 0, none⟩ = false := by rw [hf _ _ hz]; exact f0
    have f1' : w2.frozen? ⟨w.heap.size + 2, 1, none⟩ = false := by rw [hf _ _ hz]; exact f1
    clear hb hc hf c0 c1 f0 f1 b0 b1
    go_wp2
    exact bodyPost_ret (v := .tuple #[.agg #[.int .i64 0, .int .i64 0], .int .i64 1]) (by simp [results, Try.results15, go_sem, c0', c1']) rfl ⟨ratV_eq R.out, hB2.setCell (by simp; omega) _ |>.setCell (by simp; omega) _⟩
  have H := Lib.hid ha
  have H' := Lib.hid hd
  have R0 : Hid (mulR a b c d = rd (a * c) (b * d)) := by unfold mulR; rw [if_pos (okk_true ha hd)]; rfl
  obtain ⟨k1, k2, k3, k4, _⟩ := (isR_iff a b).1 ha
  obtain ⟨m1, m2, m3, m4, _⟩ := (isR_iff c d).1 hd
  clear ha hd
  obtain ⟨p0, q0⟩ := mul_bd k1 k2 m1 m2
  obtain ⟨p1, q1⟩ := mul_bd (x := b) (y := d) (by omega) k4 (by omega) m4
  have s0 := mul_pos' k3 m3
  go_enter Try.func15, Try.ntmps15
  go_wp2_with fail
  refine (implIsRatio_any a b _).mono ?_
  rintro e w1 ⟨rfl, hb⟩
  rw [H.out]
  obtain ⟨hc, hf⟩ := bcell hb
  have hz : w.heap.size + 2 < w1.heap.size := by have := hb.size; simp at this; omega
  have hB : Below w.heap.size w w1 := ((((Below.refl _ _).alloc (Nat.le_refl _) _).alloc (by simp) _).alloc (by simp <;> omega) _).trans (hb.mono (by simp; omega))
  have a0 : w1.cell? ⟨w.heap.size, 0, none⟩ = some (.int .i64 a) := by rw [hc _ _ (by simp <;> omega)]; simp [go_sem]
  have a1 : w1.cell? ⟨w.heap.size, 1, none⟩ = some (.int .i64 b) := by rw [hc _ _ (by simp <;> omega)]; simp [go_sem]
  have b0 : w1.cell? ⟨w.heap.size + 1, 0, none⟩ = some (.int .i64 c) := by rw [hc _ _ (by simp <;> omega)]; simp [go_sem]
  have b1 : w1.cell? ⟨w.heap.size + 1, 1, none⟩ = some (.int .i64 d) := by rw [hc _ _ (by simp <;> omega)]; simp [go_sem]
  have c0 : w1.cell? ⟨w.heap.size + 2, 0, none⟩ = some (.int .i64 0) := by rw [hc _ _ (by simp <;> omega)]; simp [go_sem]
  have c1 : w1.cell? ⟨w.heap.size + 2, 1, none⟩ = some (.int .i64 0) := by rw [hc _ _ (by simp <;> omega)]; simp [go_sem]
  have f0 : w1.frozen? ⟨w.heap.size + 2, 0, none⟩ = false := by rw [hf _ _ (by simp <;> omega)]; simp [go_sem]
  have f1 : w1.frozen? ⟨w.heap.size + 2, 1, none⟩ = false := by rw [hf _ _ (by simp <;> omega)]; simp [go_sem]
  clear hb hc hf
  go_wp2_with fail
  refine (implIsRatio_any c d _).mono ?_
  rintro e w2 ⟨rfl, hb⟩
  rw [H'.out]
  have hB2 : Below w.heap.size w w2 := hB.trans (hb.mono (by omega))
  have hz2 : w.heap.size + 2 < w2.heap.size := by have := hb.size; omega
  obtain ⟨hc, hf⟩ := bcell hb
  have a0' : w2.cell? ⟨w.heap.size, 0, none⟩ = some (.int .i64 a) := by rw [hc _ _ (by omega)]; exact a0
  have a1' : w2.cell? ⟨w.heap.size, 1, none⟩ = some (.int .i64 b) := by rw [hc _ _ (by omega)]; exact a1
  have b0' : w2.cell? ⟨w.heap.size + 1, 0, none⟩ = some (.int .i64 c) := by rw [hc _ _ (by omega)]; exact b0
  have b1' : w2.cell? ⟨w.heap.size + 1, 1, none⟩ = some (.int .i64 d) := by rw [hc _ _ (by omega)]; exact b1
  have c0' : w2.cell? ⟨w.heap.size + 2, 0, none⟩ = some (.int .i64 0) := by rw [hc _ _ hz]; exact c0
  have c1' : w2.cell? ⟨w.heap.size + 2, 1, none⟩ = some (.int .i64 0) := by rw [hc _ _ hz]; exact c1
  have f0' : w2.frozen? ⟨w.heap.size + 2, 0, none⟩ = false := by rw [hf _ _ hz]; exact f0
  have f1' : w2.frozen? ⟨w.heap.size + 2, 1, none⟩ = false := by rw [hf _ _ hz]; exact f1
  clear hb hc hf c0 c1 f0 f1 a0 a1 b0 b1
  go_wp2_with fail
  refine (reduced_any _ _ _ (by omega) (by omega) (by omega) (by omega)).mono ?_
  rintro e w3 ⟨rfl, hb⟩
  have hB3 : Below w.heap.size w w3 := hB2.trans (hb.mono (by omega))
  obtain ⟨hc, hf⟩ := bcell hb
  have c0 : w3.cell? ⟨w.heap.size + 2, 0, none⟩ = some (.int .i64 0) := by rw [hc _ _ hz2]; exact c0'
  have c1 : w3.cell? ⟨w.heap.size + 2, 1, none⟩ = some (.int .i64 0) := by rw [hc _ _ hz2]; exact c1'
  have f0 : w3.frozen? ⟨w.heap.size + 2, 0, none⟩ = false := by rw [hf _ _ hz2]; exact f0'
  have f1 : w3.frozen? ⟨w.heap.size + 2, 1, none⟩ = false := by rw [hf _ _ hz2]; exact f1'
  clear hb hc hf c0' c1' f0' f1' a0' a1' b0' b1'
  go_wp2
  exact bodyPost_ret (v := .tuple #[.agg #[.int .i64 _, .int .i64 _], .int .i64 _]) (by simp [results, Try.results15, go_sem, c0, c1]) rfl ⟨ratV_eq R0.out, hB3.setCell (by simp; omega) _ |>.setCell (by simp; omega) _⟩

set_option maxHeartbeats 1000000 in
theorem implSubtractRatios_any (a b c d : Int) (w : World) :
    Calls Try.prog 10 #[.agg #[.int .i64 a, .int .i64 b], .agg #[.int .i64 c, .int .i64 d]] w fun e w' => e = .returned (ratV (subR a b c d)) ∧ Below w.heap.size w w' := by
  cases ha : isR a b
  · have H := Lib.hid ha
    have R : Hid (subR a b c d = (0, 0, 1)) := by unfold subR; rw [if_neg (okk_left ha)]; rfl
    clear ha
    go_enter Try.func10, Try.ntmps10
    go_wp2_with fail
    refine (implIsRatio_any a b _).mono ?_
    rintro e w1 ⟨rfl, hb⟩
    rw [H.out]
    obtain ⟨hc, hf⟩ := bcell hb
    have hz : w.heap.size + 2 < w1.heap.size := by have := hb.size; simp at this; omega
    have hB : Below w.heap.size w w1 := ((((Below.refl _ _).alloc (Nat.le_refl _) _).alloc (by simp) _).alloc (by simp <;> omega) _).trans (hb.mono (by simp; omega))
    have c0 : w1.cell? ⟨w.heap.size + 2, 0, none⟩ = some (.int .i64 0) := by rw [hc _ _ (by simp <;> omega)]; simp [go_sem]
    have c1 : w1.cell? ⟨w.heap.size + 2, 1, none⟩ = some (.int .i64 0) := by rw [hc _ _ (by simp <;> omega)]; simp [go_sem]
    have f0 : w1.frozen? ⟨w.heap.size + 2, 0, none⟩ = false := by rw [hf _ _ (by simp <;> omega)]; simp [go_sem]
    have f1 : w1.frozen? ⟨w.heap.size + 2, 1, none⟩ = false := by rw [hf _ _ (by simp <;> omega)]; simp [go_sem]
    clear hb hc hf
    go_wp2
    exact bodyPost_ret (v := .tuple #[.agg #[.int .i64 0, .int .i64 0], .int .i64 1]) (by simp [results, Try.results10, go_sem, c0, c1]) rfl ⟨ratV_eq R.out, hB.setCell (by simp; omega) _ |>.setCell (by simp; omega) _⟩
  cases hd : isR c d
  · have H := Lib.hid ha
    have H' := Lib.hid hd
    have R : Hid (subR a b c d = (0, 0, 1)) := by unfold subR; rw [if_neg (okk_right hd)]; rfl
    clear ha hd
    go_enter Try.func10, Try.ntmps10
    go_wp2_with fail
    refine (implIsRatio_any a b _).mono ?_
    rintro e w1 ⟨rfl, hb⟩
    rw [H.out]
    obtain ⟨hc, hf⟩ := bcell hb
    have hz : w.heap.size + 2 < w1.heap.size := by have := hb.size; simp at this; omega
    have hB : Below w.heap.size w w1 := ((((Below.refl _ _).alloc (Nat.le_refl _) _).alloc (by simp) _).alloc (by simp <;> omega) _).trans (hb.mono (by simp; omega))
    have b0 : w1.cell? ⟨w.heap.size + 1, 0, none⟩ = some (.int .i64 c) := by rw [hc _ _ (by simp <;> omega)]; simp [go_sem]
    have b1 : w1.cell? ⟨w.heap.size + 1, 1, none⟩ = some (.int .i64 d) := by rw [hc _ _ (by simp <;> omega)]; simp [go_sem]
    have c0 : w1.cell? ⟨w.heap.size + 2, 0, none⟩ = some (.int .i64 0) := by rw [hc _ _ (by simp <;> omega)]; simp [go_sem]
    have c1 : w1.cell? ⟨w.heap.size + 2, 1, none⟩ = some (.int .i64 0) := by rw [hc _ _ (by simp <;> omega)]; simp [go_sem]
    have f0 : w1.frozen? ⟨w.heap.size + 2, 0, none⟩ = false := by rw [hf _ _ (by simp <;> omega)]; simp [go_sem]
    have f1 : w1.frozen? ⟨w.heap.size + 2, 1, none⟩ = false := by rw [hf _ _ (by simp <;> omega)]; simp [go_sem]
    clear hb hc hf
    go_wp2_with fail
    refine (implIsRatio_any c d _).mono ?_
    rintro e w2 ⟨rfl, hb⟩
    rw [H'.out]
    have hB2 : Below w.heap.size w w2 := hB.trans (hb.mono (by omega))
    have hz2 : w.heap.size + 2 < w2.heap.size := by have := hb.size; omega
    obtain ⟨hc, hf⟩ := bcell hb
    have c0' : w2.cell? ⟨w.heap.size + 2, 0, none⟩ = some (.int .i64 0) := by rw [hc _ _ hz]; exact c0
    have c1' : w2.cell? ⟨w.heap.size + 2, 1, none⟩ = some (.int .i64 0) := by rw [hc _ _ hz]; exact c1
    have f0' : w2.frozen? ⟨w.heap.size + 2, 0, none⟩ = false := by rw [hf _ _ hz]; exact f0
    have f1' : w2.frozen? ⟨w.heap.size + 2, 1, none⟩ = false := by rw [hf _ _ hz]; exact f1
    clear hb hc hf c0 c1 f0 f1 b0 b1
    go_wp2
    exact bodyPost_ret (v := .tuple #[.agg #[.int .i64 0, .int .i64 0], .int .i64 1]) (by simp [results, Try.results10, go_sem, c0', c1']) rfl ⟨ratV_eq R.out, hB2.setCell (by simp; omega) _ |>.setCell (by simp; omega) _⟩
  have H := Lib.hid ha
  have H' := Lib.hid hd
  have R0 : Hid (subR a b c d = rd (a * d - c * b) (b * d)) := by unfold subR; rw [if_pos (okk_true ha hd)]; rfl
  obtain ⟨k1, k2, k3, k4, _⟩ := (isR_iff a b).1 ha
  obtain ⟨m1, m2, m3, m4, _⟩ := (isR_iff c d).1 hd
  clear ha hd
  obtain ⟨p0, q0⟩ := mul_bd k1 k2 (x := a) (y := d) (by omega) m4
  obtain ⟨p1, q1⟩ := mul_bd m1 m2 (x := c) (y := b) (by omega) k4
  obtain ⟨p2, q2⟩ := mul_bd (x := b) (y := d) (by omega) k4 (by omega) m4
  have s0 := mul_pos' k3 m3
  go_enter Try.func10, Try.ntmps10
  go_wp2_with fail
  refine (implIsRatio_any a b _).mono ?_
  rintro e w1 ⟨rfl, hb⟩
  rw [H.out]
  obtain ⟨hc, hf⟩ := bcell hb
  have hz : w.heap.size + 2 < w1.heap.size := by have := hb.size; simp at this; omega
  have hB : Below w.heap.size w w1 := ((((Below.refl _ _).alloc (Nat.le_refl _) _).alloc (by simp) _).alloc (by simp <;> omega) _).trans (hb.mono (by simp; omega))
  have a0 : w1.cell? ⟨w.heap.size, 0, none⟩ = some (.int .i64 a) := by rw [hc _ _ (by simp <;> omega)]; simp [go_sem]
  have a1 : w1.cell? ⟨w.heap.size, 1, none⟩ = some (.int .i64 b) := by rw [hc _ _ (by simp <;> omega)]; simp [go_sem]
  have b0 : w1.cell? ⟨w.heap.size + 1, 0, none⟩ = some (.int .i64 c) := by rw [hc _ _ (by simp <;> omega)]; simp [go_sem]
  have b1 : w1.cell? ⟨w.heap.size + 1, 1, none⟩ = some (.int .i64 d) := by rw [hc _ _ (by simp <;> omega)]; simp [go_sem]
  have c0 : w1.cell? ⟨w.heap.size + 2, 0, none⟩ = some (.int .i64 0) := by rw [hc _ _ (by simp <;> omega)]; simp [go_sem]
  have c1 : w1.cell? ⟨w.heap.size + 2, 1, none⟩ = some (.int .i64 0) := by rw [hc _ _ (by simp <;> omega)]; simp [go_sem]
  have f0 : w1.frozen? ⟨w.heap.size + 2, 0, none⟩ = false := by rw [hf _ _ (by simp <;> omega)]; simp [go_sem]
  have f1 : w1.frozen? ⟨w.heap.size + 2, 1, none⟩ = false := by rw [hf _ _ (by simp <;> omega)]; simp [go_sem]
  clear hb hc hf
  go_wp2_with fail
  refine (implIsRatio_any c d _).mono ?_
  rintro e w2 ⟨rfl, hb⟩
  rw [H'.out]
  have hB2 : Below w.heap.size w w2 := hB.trans (hb.mono (by omega))
  have hz2 : w.heap.size + 2 < w2.heap.size := by have := hb.size; omega
  obtain ⟨hc, hf⟩ := bcell hb
  have a0' : w2.cell? ⟨w.heap.size, 0, none⟩ = some (.int .i64 a) := by rw [hc _ _ (by omega)]; exact a0
  have a1' : w2.cell? ⟨w.heap.size, 1, none⟩ = some (.int .i64 b) := by rw [hc _ _ (by omega)]; exact a1
  have b0' : w2.cell? ⟨w.heap.size + 1, 0, none⟩ = some (.int .i64 c) := by rw [hc _ _ (by omega)]; exact b0
  have b1' : w2.cell? ⟨w.heap.size + 1, 1, none⟩ = some (.int .i64 d) := by rw [hc _ _ (by omega)]; exact b1
  have c0' : w2.cell? ⟨w.heap.size + 2, 0, none⟩ = some (.int .i64 0) := by rw [hc _ _ hz]; exact c0
  have c1' : w2.cell? ⟨w.heap.size + 2, 1, none⟩ = some (.int .i64 0) := by rw [hc _ _ hz]; exact c1
  have f0' : w2.frozen? ⟨w.heap.size + 2, 0, none⟩ = false := by rw [hf _ _ hz]; exact f0
  have f1' : w2.frozen? ⟨w.heap.size + 2, 1, none⟩ = false := by rw [hf _ _ hz]; exact f1
  clear hb hc hf c0 c1 f0 f1 a0 a1 b0 b1
  go_wp2_with fail
  refine (reduced_any _ _ _ (by omega) (by omega) (by omega) (by omega)).mono ?_
  rintro e w3 ⟨rfl, hb⟩
  have hB3 : Below w.heap.size w w3 := hB2.trans (hb.mono (by omega))
  obtain ⟨hc, hf⟩ := bcell hb
  have c0 : w3.cell? ⟨w.heap.size + 2, 0, none⟩ = some (.int .i64 0) := by rw [hc _ _ hz2]; exact c0'
  have c1 : w3.cell? ⟨w.heap.size + 2, 1, none⟩ = some (.int .i64 0) := by rw [hc _ _ hz2]; exact c1'
  have f0 : w3.frozen? ⟨w.heap.size + 2, 0, none⟩ = false := by rw [hf _ _ hz2]; exact f0'
  have f1 : w3.frozen? ⟨w.heap.size + 2, 1, none⟩ = false := by rw [hf _ _ hz2]; exact f1'
  clear hb hc hf c0' c1' f0' f1' a0' a1' b0' b1'
  go_wp2
  exact bodyPost_ret (v := .tuple #[.agg #[.int .i64 _, .int .i64 _], .int .i64 _]) (by simp [results, Try.results10, go_sem, c0, c1]) rfl ⟨ratV_eq R0.out, hB3.setCell (by simp; omega) _ |>.setCell (by simp; omega) _⟩

set_option maxHeartbeats 1000000 in
theorem specAddRatios_any (a b c d : Int) (w : World) :
    Calls Try.prog 8 #[.agg #[.int .i64 a, .int .i64 b], .agg #[.int .i64 c, .int .i64 d]] w fun e w' => e = .returned (ratV (addR a b c d)) ∧ Below w.heap.size w w' := by
  cases ha : isR a b
  · have H := Lib.hid ha
    have R : Hid (addR a b c d = (0, 0, 1)) := by unfold addR; rw [if_neg (okk_left ha)]; rfl
    clear ha
    go_enter Try.func8, Try.ntmps8
    go_wp2_with fail
    refine (specIsRatio_any a b _).mono ?_
    rintro e w1 ⟨rfl, hb⟩
    rw [H.out]
    obtain ⟨hc, hf⟩ := bcell hb
    have hz : w.heap.size + 2 < w1.heap.size := by have := hb.size; simp at this; omega
    have hB : Below w.heap.size w w1 := ((((Below.refl _ _).alloc (Nat.le_refl _) _).alloc (by simp) _).alloc (by simp <;> omega) _).trans (hb.mono (by simp; omega))
    have c0 : w1.cell? ⟨w.heap.size + 2, 0, none⟩ = some (.int .i64 0) := by rw [hc _ _ (by simp <;> omega)]; simp [go_sem]
    have c1 : w1.cell? ⟨w.heap.size + 2, 1, none⟩ = some (.int .i64 0) := by rw [hc _ _ (by simp <;> omega)]; simp [go_sem]
    have f0 : w1.frozen? ⟨w.heap.size + 2, 0, none⟩ = false := by rw [hf _ _ (by simp <;> omega)]; simp [go_sem]
    have f1 : w1.frozen? ⟨w.heap.size + 2, 1, none⟩ = false := by rw [hf _ _ (by simp <;> omega)]; simp [go_sem]
    clear hb hc hf
    go_wp2
    exact bodyPost_ret (v := .tuple #[.agg #[.int .i64 0, .int .i64 0], .int .i64 1]) (by simp [results, Try.results8, go_sem, c0, c1]) rfl ⟨ratV_eq R.out, hB.setCell (by simp; omega) _ |>.setCell (by simp; omega) _⟩
  cases hd : isR c d
  · have H := Lib.hid ha
    have H' := Lib.hid hd
    have R : Hid (addR a b c d = (0, 0, 1)) := by unfold addR; rw [if_neg (okk_right hd)]; rfl
    clear ha hd
    go_enter Try.func8, Try.ntmps8
    go_wp2_with fail
    refine (specIsRatio_any a b _).mono ?_
    rintro e w1 ⟨rfl, hb⟩
    rw [H.out]
    obtain ⟨hc, hf⟩ := bcell hb
    have hz : w.heap.size + 2 < w1.heap.size := by have := hb.size; simp at this; omega
    have hB : Below w.heap.size w w1 := ((((Below.refl _ _).alloc (Nat.le_refl _) _).alloc (by simp) _).alloc (by simp <;> omega) _).trans (hb.mono (by simp; omega))
    have b0 : w1.cell? ⟨w.heap.size + 1, 0, none⟩ = some (.int .i64 c) := by rw [hc _ _ (by simp <;> omega)]; simp [go_sem]
    have b1 : w1.cell? ⟨w.heap.size + 1, 1, none⟩ = some (.int .i64 d) := by rw [hc _ _ (by simp <;> omega)]; simp [go_sem]
    have c0 : w1.cell? ⟨w.heap.size + 2, 0, none⟩ = some (.int .i64 0) := by rw [hc _ _ (by simp <;> omega)]; simp [go_sem]
    have c1 : w1.cell? ⟨w.heap.size + 2, 1, none⟩ = some (.int .i64 0) := by rw [hc _ _ (by simp <;> omega)]; simp [go_sem]
    have f0 : w1.frozen? ⟨w.heap.size + 2, 0, none⟩ = false := by rw [hf _ _ (by simp <;> omega)]; simp [go_sem]
    have f1 : w1.frozen? ⟨w.heap.size + 2, 1, none⟩ = false := by rw [hf _ _ (by simp <;> omega)]; simp [go_sem]
    clear hb hc hf
    go_wp2_with fail
    refine (specIsRatio_any c d _).mono ?_
    rintro e w2 ⟨rfl, hb⟩
    rw [H'.out]
    have hB2 : Below w.heap.size w w2 := hB.trans (hb.mono (by omega))
    have hz2 : w.heap.size + 2 < w2.heap.size := by have := hb.size; omega
    obtain ⟨hc, hf⟩ := bcell hb
    have c0' : w2.cell? ⟨w.heap.size + 2, 0, none⟩ = some (.int .i64 0) := by rw [hc _ _ hz]; exact c0
    have c1' : w2.cell? ⟨w.heap.size + 2, 1, none⟩ = some (.int .i64 0) := by rw [hc _ _ hz]; exact c1
    have f0' : w2.frozen? ⟨w.heap.size + 2, 0, none⟩ = false := by rw [hf _ _ hz]; exact f0
    have f1' : w2.frozen? ⟨w.heap.size + 2, 1, none⟩ = false := by rw [hf _ _ hz]; exact f1
    clear hb hc hf c0 c1 f0 f1 b0 b1
    go_wp2
    exact bodyPost_ret (v := .tuple #[.agg #[.int .i64 0, .int .i64 0], .int .i64 1]) (by simp [results, Try.results8, go_sem, c0', c1']) rfl ⟨ratV_eq R.out, hB2.setCell (by simp; omega) _ |>.setCell (by simp; omega) _⟩
  have H := Lib.hid ha
  have H' := Lib.hid hd
  have R0 : Hid (addR a b c d = rd (a * d + c * b) (b * d)) := by unfold addR; rw [if_pos (okk_true ha hd)]; rfl
  obtain ⟨k1, k2, k3, k4, _⟩ := (isR_iff a b).1 ha
  obtain ⟨m1, m2, m3, m4, _⟩ := (isR_iff c d).1 hd
  clear ha hd
  obtain ⟨p0, q0⟩ := mul_bd k1 k2 (x := a) (y := d) (by omega) m4
  obtain ⟨p1, q1⟩ := mul_bd m1 m2 (x := c) (y := b) (by omega) k4
  obtain ⟨p2, q2⟩ := mul_bd (x := b) (y := d) (by omega) k4 (by omega) m4
  have s0 := mul_pos' k3 m3
  go_enter Try.func8, Try.ntmps8
  go_wp2_with fail
  refine (specIsRatio_any a b _).mono ?_
  rintro e w1 ⟨rfl, hb⟩
  rw [H.out]
  obtain ⟨hc, hf⟩ := bcell hb
  have hz : w.heap.size + 2 < w1.heap.size := by have := hb.size; simp at this; omega
  have hB : Below w.heap.size w w1 := ((((Below.refl _ _).alloc (Nat.le_refl _) _).alloc (by simp) _).alloc (by simp <;> omega) _).trans (hb.mono (by simp; omega))
  have a0 : w1.cell? ⟨w.heap.size, 0, none⟩ = some (.int .i64 a) := by rw [hc _ _ (by simp <;> omega)]; simp [go_sem]
  have a1 : w1.cell? ⟨w.heap.size, 1, none⟩ = some (.int .i64 b) := by rw [hc _ _ (by simp <;> omega)]; simp [go_sem]
  have b0 : w1.cell? ⟨w.heap.size + 1, 0, none⟩ = some (.int .i64 c) := by rw [hc _ _ (by simp <;> omega)]; simp [go_sem]
  have b1 : w1.cell? ⟨w.heap.size + 1, 1, none⟩ = some (.int .i64 d) := by rw [hc _ _ (by simp <;> omega)]; simp [go_sem]
  have c0 : w1.cell? ⟨w.heap.size + 2, 0, none⟩ = some (.int .i64 0) := by rw [hc _ _ (by simp <;> omega)]; simp [go_sem]
  have c1 : w1.cell? ⟨w.heap.size + 2, 1, none⟩ = some (.int .i64 0) := by rw [hc _ _ (by simp <;> omega)]; simp [go_sem]
  have f0 : w1.frozen? ⟨w.heap.size + 2, 0, none⟩ = false := by rw [hf _ _ (by simp <;> omega)]; simp [go_sem]
  have f1 : w1.frozen? ⟨w.heap.size + 2, 1, none⟩ = false := by rw [hf _ _ (by simp <;> omega)]; simp [go_sem]
  clear hb hc hf
  go_wp2_with fail
  refine (specIsRatio_any c d _).mono ?_
  rintro e w2 ⟨rfl, hb⟩
  rw [H'.out]
  have hB2 : Below w.heap.size w w2 := hB.trans (hb.mono (by omega))
  have hz2 : w.heap.size + 2 < w2.heap.size := by have := hb.size; omega
  obtain ⟨hc, hf⟩ := bcell hb
  have a0' : w2.cell? ⟨w.heap.size, 0, none⟩ = some (.int .i64 a) := by rw [hc _ _ (by omega)]; exact a0
  have a1' : w2.cell? ⟨w.heap.size, 1, none⟩ = some (.int .i64 b) := by rw [hc _ _ (by omega)]; exact a1
  have b0' : w2.cell? ⟨w.heap.size + 1, 0, none⟩ = some (.int .i64 c) := by rw [hc _ _ (by omega)]; exact b0
  have b1' : w2.cell? ⟨w.heap.size + 1, 1, none⟩ = some (.int .i64 d) := by rw [hc _ _ (by omega)]; exact b1
  have c0' : w2.cell? ⟨w.heap.size + 2, 0, none⟩ = some (.int .i64 0) := by rw [hc _ _ hz]; exact c0
  have c1' : w2.cell? ⟨w.heap.size + 2, 1, none⟩ = some (.int .i64 0) := by rw [hc _ _ hz]; exact c1
  have f0' : w2.frozen? ⟨w.heap.size + 2, 0, none⟩ = false := by rw [hf _ _ hz]; exact f0
  have f1' : w2.frozen? ⟨w.heap.size + 2, 1, none⟩ = false := by rw [hf _ _ hz]; exact f1
  clear hb hc hf c0 c1 f0 f1 a0 a1 b0 b1
  go_wp2_with fail
  refine (l01Ratio_any _ _ _ (by omega) (by omega) (by omega) (by omega)).mono ?_
  rintro e w3 ⟨rfl, hb⟩
  have hB3 : Below w.heap.size w w3 := hB2.trans (hb.mono (by omega))
  obtain ⟨hc, hf⟩ := bcell hb
  have c0 : w3.cell? ⟨w.heap.size + 2, 0, none⟩ = some (.int .i64 0) := by rw [hc _ _ hz2]; exact c0'
  have c1 : w3.cell? ⟨w.heap.size + 2, 1, none⟩ = some (.int .i64 0) := by rw [hc _ _ hz2]; exact c1'
  have f0 : w3.frozen? ⟨w.heap.size + 2, 0, none⟩ = false := by rw [hf _ _ hz2]; exact f0'
  have f1 : w3.frozen? ⟨w.heap.size + 2, 1, none⟩ = false := by rw [hf _ _ hz2]; exact f1'
  clear hb hc hf c0' c1' f0' f1' a0' a1' b0' b1'
  go_wp2
  exact bodyPost_ret (v := .tuple #[.agg #[.int .i64 _, .int .i64 _], .int .i64 _]) (by simp [results, Try.results8, go_sem, c0, c1]) rfl ⟨ratV_eq R0.out, hB3.setCell (by simp; omega) _ |>.setCell (by simp; omega) _⟩

set_option maxHeartbeats 1000000 in
theorem specMultiplyRatios_any (a b c d : Int) (w : World) :
    Calls Try.prog 16 #[.agg #[.int .i64 a, .int .i64 b], .agg #[.int .i64 c, .int .i64 d]] w fun e w' => e = .returned (ratV (mulR a b c d)) ∧ Below w.heap.size w w' := by
  cases ha : isR a b
  · have H := Lib.hid ha
    have R : Hid (mulR a b c d = (0, 0, 1)) := by unfold mulR; rw [if_neg (okk_left ha)]; rfl
    clear ha
    go_enter Try.func16, Try.ntmps16
    go_wp2_with fail
    refine (specIsRatio_any a b _).mono ?_
    rintro e w1 ⟨rfl, hb⟩
    rw [H.out]
    obtain ⟨hc, hf⟩ := bcell hb
    have hz : w.heap.size + 2 < w1.heap.size := by have := hb.size; simp at this; omega
    have hB : Below w.heap.size w w1 := ((((Below.refl _ _).alloc (Nat.le_refl _) _).alloc (by simp) _).alloc (by simp <;> omega) _).trans (hb.mono (by simp; omega))
    have c0 : w1.cell? ⟨w.heap.size + 2, 0, none⟩ = some (.int .i64 0) := by rw [hc _ _ (by simp <;> omega)]; simp [go_sem]
    have c1 : w1.cell? ⟨w.heap.size + 2, 1, none⟩ = some (.int .i64 0) := by rw [hc _ _ (by simp <;> omega)]; simp [go_sem]
    have f0 : w1.frozen? ⟨w.heap.size + 2, 0, none⟩ = false := by rw [hf _ _ (by simp <;> omega)]; simp [go_sem]
    have f1 : w1.frozen? ⟨w.heap.size + 2, 1, none⟩ = false := by rw [hf _ _ (by simp <;> omega)]; simp [go_sem]
    clear hb hc hf
    go_wp2
    exact bodyPost_ret (v := .tuple #[.agg #[.int .i64 0, .int .i64 0], .int .i64 1]) (by simp [results, Try.results16, go_sem, c0, c1]) rfl ⟨ratV_eq R.out, hB.setCell (by simp; omega) _ |>.setCell (by simp; omega) _⟩
  cases hd : isR c d
  · have H := Lib.hid ha
    have H' := Lib.hid hd
    have R : Hid (mulR a b c d = (0, 0, 1)) := by unfold mulR; rw [if_neg (okk_right hd)]; rfl
    clear ha hd
    go_enter Try.func16, Try.ntmps16
    go_wp2_with fail
    refine (specIsRatio_any a b _).mono ?_
    rintro e w1 ⟨rfl, hb⟩
    rw [H.out]
    obtain ⟨hc, hf⟩ := bcell hb
    have hz : w.heap.size + 2 < w1.heap.size := by have := hb.size; simp at this; omega
    have hB : Below w.heap.size w w1 := ((((Below.refl _ _).alloc (Nat.le_refl _) _).alloc (by simp) _).alloc (by simp <;> omega) _).trans (hb.mono (by simp; omega))
    have b0 : w1.cell? ⟨w.heap.size + 1, 0, none⟩ = some (.int .i64 c) := by rw [hc _ _ (by simp <;> omega)]; simp [go_sem]
    have b1 : w1.cell? ⟨w.heap.size + 1, 1, none⟩ = some (.int .i64 d) := by rw [hc _ _ (by simp <;> omega)]; simp [go_sem]
    have c0 : w1.cell? ⟨w.heap.size + 2, 0, none⟩ = some (.int .i64 0) := by rw [hc _ _ (by simp <;> omega)]; simp [go_sem]
    have c1 : w1.cell? ⟨w.heap.size + 2, 1, none⟩ = some (.int .i64 0) := by rw [hc _ _ (by simp <;> omega)]; simp [go_sem]
    have f0 : w1.frozen? ⟨w.heap.size + 2, 0, none⟩ = false := by rw [hf _ _ (by simp <;> omega)]; simp [go_sem]
    have f1 : w1.frozen? ⟨w.heap.size + 2, 1, none⟩ = false := by rw [hf _ _ (by simp <;> omega)]; simp [go_sem]
    clear hb hc hf
    go_wp2_with fail
    refine (specIsRatio_any c d _).mono ?_
    rintro e w2 ⟨rfl, hb⟩
    rw [H'.out]
    have hB2 : Below w.heap.size w w2 := hB.trans (hb.mono (by omega))
    have hz2 : w.heap.size + 2 < w2.heap.size := by have := hb.size; omega
    obtain ⟨hc, hf⟩ := bcell hb
    have c0' : w2.cell? ⟨w.heap.size + 2, 0, none⟩ = some (.int .i64 0) := by rw [hc _ _ hz]; exact c0
    have c1' : w2.cell? ⟨w.heap.size + 2, 1, none⟩ = some (.int .i64 0) := by rw [hc _ _ hz]; exact c1
    have f0' : w2.frozen? ⟨w.heap.size + 2, 0, none⟩ = false := by rw [hf _ _ hz]; exact f0
    have f1' : w2.frozen? ⟨w.heap.size + 2, 1, none⟩ = false := by rw [hf _ _ hz]; exact f1
    clear hb hc hf c0 c1 f0 f1 b0 b1
    go_wp2
    exact bodyPost_ret (v := .tuple #[.agg #[.int .i64 0, .int .i64 0], .int .i64 1]) (by simp [results, Try.results16, go_sem, c0', c1']) rfl ⟨ratV_eq R.out, hB2.setCell (by simp; omega) _ |>.setCell (by simp; omega) _⟩
  have H := Lib.hid ha
  have H' := Lib.hid hd
  have R0 : Hid (mulR a b c d = rd (a * c) (b * d)) := by unfold mulR; rw [if_pos (okk_true ha hd)]; rfl
  obtain ⟨k1, k2, k3, k4, _⟩ := (isR_iff a b).1 ha
  obtain ⟨m1, m2, m3, m4, _⟩ := (isR_iff c d).1 hd
  clear ha hd
  obtain ⟨p0, q0⟩ := mul_bd k1 k2 m1 m2
  obtain ⟨p1, q1⟩ := mul_bd (x := b) (y := d) (by omega) k4 (by omega) m4
  have s0 := mul_pos' k3 m3
  go_enter Try.func16, Try.ntmps16
  go_wp2_with fail
  refine (specIsRatio_any a b _).mono ?_
  rintro e w1 ⟨rfl, hb⟩
  rw [H.out]
  obtain ⟨hc, hf⟩ := bcell hb
  have hz : w.heap.size + 2 < w1.heap.size := by have := hb.size; simp at this; omega
  have hB : Below w.heap.size w w1 := ((((Below.refl _ _).alloc (Nat.le_refl _) _).alloc (by simp) _).alloc (by simp <;> omega) _).trans (hb.mono (by simp; omega))
  have a0 : w1.cell? ⟨w.heap.size, 0, none⟩ = some (.int .i64 a) := by rw [hc _ _ (by simp <;> omega)]; simp [go_sem]
  have a1 : w1.cell? ⟨w.heap.size, 1, none⟩ = some (.int .i64 b) := by rw [hc _ _ (by simp <;> omega)]; simp [go_sem]
  have b0 : w1.cell? ⟨w.heap.size + 1, 0, none⟩ = some (.int .i64 c) := by rw [hc _ _ (by simp <;> omega)]; simp [go_sem]
  have b1 : w1.cell? ⟨w.heap.size + 1, 1, none⟩ = some (.int .i64 d) := by rw [hc _ _ (by simp <;> omega)]; simp [go_sem]
  have c0 : w1.cell? ⟨w.heap.size + 2, 0, none⟩ = some (.int .i64 0) := by rw [hc _ _ (by simp <;> omega)]; simp [go_sem]
  have c1 : w1.cell? ⟨w.heap.size + 2, 1, none⟩ = some (.int .i64 0) := by rw [hc _ _ (by simp <;> omega)]; simp [go_sem]
  have f0 : w1.frozen? ⟨w.heap.size + 2, 0, none⟩ = false := by rw [hf _ _ (by simp <;> omega)]; simp [go_sem]
  have f1 : w1.frozen? ⟨w.heap.size + 2, 1, none⟩ = false := by rw [hf _ _ (by simp <;> omega)]; simp [go_sem]
  clear hb hc hf
  go_wp2_with fail
  refine (specIsRatio_any c d _).mono ?_
  rintro e w2 ⟨rfl, hb⟩
  rw [H'.out]
  have hB2 : Below w.heap.size w w2 := hB.trans (hb.mono (by omega))
  have hz2 : w.heap.size + 2 < w2.heap.size := by have := hb.size; omega
  obtain ⟨hc, hf⟩ := bcell hb
  have a0' : w2.cell? ⟨w.heap.size, 0, none⟩ = some (.int .i64 a) := by rw [hc _ _ (by omega)]; exact a0
  have a1' : w2.cell? ⟨w.heap.size, 1, none⟩ = some (.int .i64 b) := by rw [hc _ _ (by omega)]; exact a1
  have b0' : w2.cell? ⟨w.heap.size + 1, 0, none⟩ = some (.int .i64 c) := by rw [hc _ _ (by omega)]; exact b0
  have b1' : w2.cell? ⟨w.heap.size + 1, 1, none⟩ = some (.int .i64 d) := by rw [hc _ _ (by omega)]; exact b1
  have c0' : w2.cell? ⟨w.heap.size + 2, 0, none⟩ = some (.int .i64 0) := by rw [hc _ _ hz]; exact c0
  have c1' : w2.cell? ⟨w.heap.size + 2, 1, none⟩ = some (.int .i64 0) := by rw [hc _ _ hz]; exact c1
  have f0' : w2.frozen? ⟨w.heap.size + 2, 0, none⟩ = false := by rw [hf _ _ hz]; exact f0
  have f1' : w2.frozen? ⟨w.heap.size + 2, 1, none⟩ = false := by rw [hf _ _ hz]; exact f1
  clear hb hc hf c0 c1 f0 f1 a0 a1 b0 b1
  go_wp2_with fail
  refine (l01Ratio_any _ _ _ (by omega) (by omega) (by omega) (by omega)).mono ?_
  rintro e w3 ⟨rfl, hb⟩
  have hB3 : Below w.heap.size w w3 := hB2.trans (hb.mono (by omega))
  obtain ⟨hc, hf⟩ := bcell hb
  have c0 : w3.cell? ⟨w.heap.size + 2, 0, none⟩ = some (.int .i64 0) := by rw [hc _ _ hz2]; exact c0'
  have c1 : w3.cell? ⟨w.heap.size + 2, 1, none⟩ = some (.int .i64 0) := by rw [hc _ _ hz2]; exact c1'
  have f0 : w3.frozen? ⟨w.heap.size + 2, 0, none⟩ = false := by rw [hf _ _ hz2]; exact f0'
  have f1 : w3.frozen? ⟨w.heap.size + 2, 1, none⟩ = false := by rw [hf _ _ hz2]; exact f1'
  clear hb hc hf c0' c1' f0' f1' a0' a1' b0' b1'
  go_wp2
  exact bodyPost_ret (v := .tuple #[.agg #[.int .i64 _, .int .i64 _], .int .i64 _]) (by simp [results, Try.results16, go_sem, c0, c1]) rfl ⟨ratV_eq R0.out, hB3.setCell (by simp; omega) _ |>.setCell (by simp; omega) _⟩
end Go.Proofs.Ytghgllpgiohlhaa
