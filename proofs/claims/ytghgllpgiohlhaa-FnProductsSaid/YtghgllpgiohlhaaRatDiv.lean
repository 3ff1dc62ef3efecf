/-
  The quotient, the comparison, the making of a ratio and the greatest divisor, in the reference and in the program.
-/
import Derived.Test.YtghgllpgiohlhaaRatOps
namespace Go.Proofs.Ytghgllpgiohlhaa
open Go.RowKit

set_option maxHeartbeats 1000000 in
theorem implDivideRatios_any (a b c d : Int) (w : World) :
    Calls Try.prog 18 #[.agg #[.int .i64 a, .int .i64 b], .agg #[.int .i64 c, .int .i64 d]] w fun e w' => e = .returned (ratV (divR a b c d)) ∧ Below w.heap.size w w' := by
  cases ha : isR a b
  · have H := Lib.hid ha
    have R : Hid (divR a b c d = (0, 0, 1)) := by unfold divR; rw [if_neg (okk_left ha)]; rfl
    clear ha
    go_enter Try.func18, Try.ntmps18
    go_wp2_with fail
    refine (implIsRatio_any a b _).mono ?_
    rintro e w1 ⟨rfl, hb⟩
    rw [H.out]
    obtain ⟨hc, hf⟩ := bcell hb
    have hz : w.heap.size + 2 < w1.heap.size := by have := hb.size; simp at this; omega
    have hB : Below w.heap.size w w1 := ((((Below.refl _ _).alloc (Nat.le_refl _) _).alloc (by simp) _).alloc (by simp <;> omega) _).trans (hb.mono (by simp; omega))
    have c0 : w1.cell? ⟨w.heap.size + 2, 0, none⟩ = some (.int .i64 0) := by rw [hc _ _ (by simp <;> omega)]; simp [go_sem]
    have c1 : w1.cell? ⟨w.heap.size + 2, 1, none⟩ = some (.int .i64 0) := by rw [hc _ _ (by simp <;> omega)]; simp [go_sem]
    have f0 : w1.frozen? ⟨w.heap.size + 2, 0, none⟩ = false := by rw [hf _ _ (by simp <;> omega)]; simp [go_sem]
    have f1 : w1.frozen? ⟨w.heap.size + 2, 1, none⟩ = false := by rw [hf _ _ (by simp <;> omega)]; simp [go_sem]
    clear hb hc hf
    go_wp2
    exact bodyPost_ret (v := .tuple #[.agg #[.int .i64 0, .int .i64 0], .int .i64 1]) (by simp [results, Try.results18, go_sem, c0, c1]) rfl ⟨ratV_eq R.out, hB.setCell (by simp; omega) _ |>.setCell (by simp; omega) _⟩
  cases hd : isR c d
  · have H := Lib.hid ha
    have H' := Lib.hid hd
    have R : Hid (divR a b c d = (0, 0, 1)) := by unfold divR; rw [if_neg (okk_right hd)]; rfl
    clear ha hd
    go_enter Try.func18, Try.ntmps18
    go_wp2_with fail
    refine (implIsRatio_any a b _).mono ?_
    rintro e w1 ⟨rfl, hb⟩
    rw [H.out]
    obtain ⟨hc, hf⟩ := bcell hb
    have hz : w.heap.size + 2 < w1.heap.size := by have := hb.size; simp at this; omega
    have hB : Below w.heap.size w w1 := ((((Below.refl _ _).alloc (Nat.le_refl _) _).alloc (by simp) _).alloc (by simp <;> omega) _).trans (hb.mono (by simp; omega))
    have b0 : w1.cell? ⟨w.heap.size + 1, 0, none⟩ = some (.int .i64 c) := by rw [hc _ _ (by simp <;> omega)]; simp [go_sem]
    have b1 : w1.cell? ⟨w.heap.size + 1, 1, none⟩ = some (.int .i64 d) := by rw [hc _ _ (by simp <;> omega)]; simp [go_sem]
    have c0 : w1.cell? ⟨w.heap.size + 2, 0, none⟩ = some (.int .i64 0) := by rw [hc _ _ (by simp <;> omega)]; simp [go_sem]
    have c1 : w1.cell? ⟨w.heap.size + 2, 1, none⟩ = some (.int .i64 0) := by rw [hc _ _ (by simp <;> omega)]; simp [go_sem]
    have f0 : w1.frozen? ⟨w.heap.size + 2, 0, none⟩ = false := by rw [hf _ _ (by simp <;> omega)]; simp [go_sem]
    have f1 : w1.frozen? ⟨w.heap.size + 2, 1, none⟩ = false := by rw [hf _ _ (by simp <;> omega)]; simp [go_sem]
    clear hb hc hf
    go_wp2_with fail
    refine (implIsRatio_any c d _).mono ?_
    rintro e w2 ⟨rfl, hb⟩
    rw [H'.out]
    have hB2 : Below w.heap.size w w2 := hB.trans (hb.mono (by omega))
    have hz2 : w.heap.size + 2 < w2.heap.size := by have := hb.size; omega
    obtain ⟨hc, hf⟩ := bcell hb
    have c0' : w2.cell? ⟨w.heap.size + 2, 0, none⟩ = some (.int .i64 0) := by rw [hc _ _ hz]; exact c0
    have c1' : w2.cell? ⟨w.heap.size + 2, 1, none⟩ = some (.int .i64 0) := by rw [hc _ _ hz]; exact c1
    have f0' : w2.frozen? ⟨w.heap.size + 2, 0, none⟩ = false := by rw [hf _ _ hz]; exact f0
    have f1' : w2.frozen? ⟨w.heap.size + 2, 1, none⟩ = false := by rw [hf _ _ hz]; exact f1
    clear hb hc hf c0 c1 f0 f1 b0 b1
    go_wp2
    exact bodyPost_ret (v := .tuple #[.agg #[.int .i64 0, .int .i64 0], .int .i64 1]) (by simp [results, Try.results18, go_sem, c0', c1']) rfl ⟨ratV_eq R.out, hB2.setCell (by simp; omega) _ |>.setCell (by simp; omega) _⟩
  have H := Lib.hid ha
  have H' := Lib.hid hd
  have R0 : Hid (divR a b c d = (if c = 0 then bad 5 else if c < 0 then rd (-a * d) (-b * c) else rd (a * d) (b * c))) := by unfold divR; rw [if_pos (okk_true ha hd)]; rfl
  obtain ⟨k1, k2, k3, k4, _⟩ := (isR_iff a b).1 ha
  obtain ⟨m1, m2, m3, m4, _⟩ := (isR_iff c d).1 hd
  clear ha hd
  by_cases h0 : c = 0
  · subst h0
    have R : Hid (divR a b 0 d = (0, 0, 5)) := by rw [R0.out, if_pos rfl]; rfl
    clear R0
    have hd0 : isR 0 d = isR 0 d := rfl
    clear hd0
    go_enter Try.func18, Try.ntmps18
    go_wp2_with fail
    refine (implIsRatio_any a b _).mono ?_
    rintro e w1 ⟨rfl, hb⟩
    rw [H.out]
    obtain ⟨hc, hf⟩ := bcell hb
    have hz : w.heap.size + 2 < w1.heap.size := by have := hb.size; simp at this; omega
    have hB : Below w.heap.size w w1 := ((((Below.refl _ _).alloc (Nat.le_refl _) _).alloc (by simp) _).alloc (by simp <;> omega) _).trans (hb.mono (by simp; omega))
    have a0 : w1.cell? ⟨w.heap.size, 0, none⟩ = some (.int .i64 a) := by rw [hc _ _ (by simp <;> omega)]; simp [go_sem]
    have a1 : w1.cell? ⟨w.heap.size, 1, none⟩ = some (.int .i64 b) := by rw [hc _ _ (by simp <;> omega)]; simp [go_sem]
    have b0 : w1.cell? ⟨w.heap.size + 1, 0, none⟩ = some (.int .i64 0) := by rw [hc _ _ (by simp <;> omega)]; simp [go_sem]
    have b1 : w1.cell? ⟨w.heap.size + 1, 1, none⟩ = some (.int .i64 d) := by rw [hc _ _ (by simp <;> omega)]; simp [go_sem]
    have c0 : w1.cell? ⟨w.heap.size + 2, 0, none⟩ = some (.int .i64 0) := by rw [hc _ _ (by simp <;> omega)]; simp [go_sem]
    have c1 : w1.cell? ⟨w.heap.size + 2, 1, none⟩ = some (.int .i64 0) := by rw [hc _ _ (by simp <;> omega)]; simp [go_sem]
    have f0 : w1.frozen? ⟨w.heap.size + 2, 0, none⟩ = false := by rw [hf _ _ (by simp <;> omega)]; simp [go_sem]
    have f1 : w1.frozen? ⟨w.heap.size + 2, 1, none⟩ = false := by rw [hf _ _ (by simp <;> omega)]; simp [go_sem]
    clear hb hc hf
    go_wp2_with fail
    refine (implIsRatio_any 0 d _).mono ?_
    rintro e w2 ⟨rfl, hb⟩
    rw [H'.out]
    have hB2 : Below w.heap.size w w2 := hB.trans (hb.mono (by omega))
    have hz2 : w.heap.size + 2 < w2.heap.size := by have := hb.size; omega
    obtain ⟨hc, hf⟩ := bcell hb
    have a0' : w2.cell? ⟨w.heap.size, 0, none⟩ = some (.int .i64 a) := by rw [hc _ _ (by omega)]; exact a0
    have a1' : w2.cell? ⟨w.heap.size, 1, none⟩ = some (.int .i64 b) := by rw [hc _ _ (by omega)]; exact a1
    have b0' : w2.cell? ⟨w.heap.size + 1, 0, none⟩ = some (.int .i64 0) := by rw [hc _ _ (by omega)]; exact b0
    have b1' : w2.cell? ⟨w.heap.size + 1, 1, none⟩ = some (.int .i64 d) := by rw [hc _ _ (by omega)]; exact b1
    have c0' : w2.cell? ⟨w.heap.size + 2, 0, none⟩ = some (.int .i64 0) := by rw [hc _ _ hz]; exact c0
    have c1' : w2.cell? ⟨w.heap.size + 2, 1, none⟩ = some (.int .i64 0) := by rw [hc _ _ hz]; exact c1
    have f0' : w2.frozen? ⟨w.heap.size + 2, 0, none⟩ = false := by rw [hf _ _ hz]; exact f0
    have f1' : w2.frozen? ⟨w.heap.size + 2, 1, none⟩ = false := by rw [hf _ _ hz]; exact f1
    clear hb hc hf c0 c1 f0 f1 a0 a1 b0 b1
    go_wp2
    exact bodyPost_ret (v := .tuple #[.agg #[.int .i64 0, .int .i64 0], .int .i64 5]) (by simp [results, Try.results18, go_sem, c0', c1']) rfl ⟨ratV_eq R.out, hB2.setCell (by simp; omega) _ |>.setCell (by simp; omega) _⟩
  have g0 : (c == 0) = false := by simp; omega
  have G0 := Lib.hid h0
  clear h0
  by_cases hneg : c < 0
  · have R : Hid (divR a b c d = rd (-a * d) (-b * c)) := by rw [R0.out, if_neg G0.out, if_pos hneg]; rfl
    clear R0
    obtain ⟨p0, q0⟩ := mul_bd (x := -a) (y := d) (by omega) (by omega) (by omega) m4
    obtain ⟨p1, q1⟩ := mul_bd (x := -b) (y := c) (by omega) (by omega) m1 m2
    have s0 : 1 ≤ -b * c := by
      have := mul_pos' (x := b) (y := -c) k3 (by omega)
      rw [Int.neg_mul]; rw [Int.mul_neg] at this; exact this
    go_enter Try.func18, Try.ntmps18
    go_wp2_with fail
    refine (implIsRatio_any a b _).mono ?_
    rintro e w1 ⟨rfl, hb⟩
    rw [H.out]
    obtain ⟨hc, hf⟩ := bcell hb
    have hz : w.heap.size + 2 < w1.heap.size := by have := hb.size; simp at this; omega
    have hB : Below w.heap.size w w1 := ((((Below.refl _ _).alloc (Nat.le_refl _) _).alloc (by simp) _).alloc (by simp <;> omega) _).trans (hb.mono (by simp; omega))
    have a0 : w1.cell? ⟨w.heap.size, 0, none⟩ = some (.int .i64 a) := by rw [hc _ _ (by simp <;> omega)]; simp [go_sem]
    have a1 : w1.cell? ⟨w.heap.size, 1, none⟩ = some (.int .i64 b) := by rw [hc _ _ (by simp <;> omega)]; simp [go_sem]
    have b0 : w1.cell? ⟨w.heap.size + 1, 0, none⟩ = some (.int .i64 c) := by rw [hc _ _ (by simp <;> omega)]; simp [go_sem]
    have b1 : w1.cell? ⟨w.heap.size + 1, 1, none⟩ = some (.int .i64 d) := by rw [hc _ _ (by simp <;> omega)]; simp [go_sem]
    have c0 : w1.cell? ⟨w.heap.size + 2, 0, none⟩ = some (.int .i64 0) := by rw [hc _ _ (by simp <;> omega)]; simp [go_sem]
    have c1 : w1.cell? ⟨w.heap.size + 2, 1, none⟩ = some (.int .i64 0) := by rw [hc _ _ (by simp <;> omega)]; simp [go_sem]
    have f0 : w1.frozen? ⟨w.heap.size + 2, 0, none⟩ = false := by rw [hf _ _ (by simp <;> omega)]; simp [go_sem]
    have f1 : w1.frozen? ⟨w.heap.size + 2, 1, none⟩ = false := by rw [hf _ _ (by simp <;> omega)]; simp [go_sem]
    clear hb hc hf
    go_wp2_with fail
    refine (implIsRatio_any c d _).mono ?_
    rintro e w2 ⟨rfl, hb⟩
    rw [H'.out]
    have hB2 : Below w.heap.size w w2 := hB.trans (hb.mono (by omega))
    have hz2 : w.heap.size + 2 < w2.heap.size := by have := hb.size; omega
    obtain ⟨hc, hf⟩ := bcell hb
    have a0' : w2.cell? ⟨w.heap.size, 0, none⟩ = some (.int .i64 a) := by rw [hc _ _ (by omega)]; exact a0
    have a1' : w2.cell? ⟨w.heap.size, 1, none⟩ = some (.int .i64 b) := by rw [hc _ _ (by omega)]; exact a1
    have b0' : w2.cell? ⟨w.heap.size + 1, 0, none⟩ = some (.int .i64 c) := by rw [hc _ _ (by omega)]; exact b0
    have b1' : w2.cell? ⟨w.heap.size + 1, 1, none⟩ = some (.int .i64 d) := by rw [hc _ _ (by omega)]; exact b1
    have c0' : w2.cell? ⟨w.heap.size + 2, 0, none⟩ = some (.int .i64 0) := by rw [hc _ _ hz]; exact c0
    have c1' : w2.cell? ⟨w.heap.size + 2, 1, none⟩ = some (.int .i64 0) := by rw [hc _ _ hz]; exact c1
    have f0' : w2.frozen? ⟨w.heap.size + 2, 0, none⟩ = false := by rw [hf _ _ hz]; exact f0
    have f1' : w2.frozen? ⟨w.heap.size + 2, 1, none⟩ = false := by rw [hf _ _ hz]; exact f1
    clear hb hc hf c0 c1 f0 f1 a0 a1 b0 b1
    go_wp2_with fail
    refine (reduced_any _ _ _ (by omega) (by omega) (by omega) (by omega)).mono ?_
    rintro e w3 ⟨rfl, hb⟩
    have hB3 : Below w.heap.size w w3 := hB2.trans (hb.mono (by omega))
    obtain ⟨hc, hf⟩ := bcell hb
    have c0 : w3.cell? ⟨w.heap.size + 2, 0, none⟩ = some (.int .i64 0) := by rw [hc _ _ hz2]; exact c0'
    have c1 : w3.cell? ⟨w.heap.size + 2, 1, none⟩ = some (.int .i64 0) := by rw [hc _ _ hz2]; exact c1'
    have f0 : w3.frozen? ⟨w.heap.size + 2, 0, none⟩ = false := by rw [hf _ _ hz2]; exact f0'
    have f1 : w3.frozen? ⟨w.heap.size + 2, 1, none⟩ = false := by rw [hf _ _ hz2]; exact f1'
    clear hb hc hf c0' c1' f0' f1' a0' a1' b0' b1'
    go_wp2
    exact bodyPost_ret (v := .tuple #[.agg #[.int .i64 _, .int .i64 _], .int .i64 _]) (by simp [results, Try.results18, go_sem, c0, c1]) rfl ⟨ratV_eq R.out, hB3.setCell (by simp; omega) _ |>.setCell (by simp; omega) _⟩
  · have hpos : 0 < c := by have := G0.out; omega
    have R : Hid (divR a b c d = rd (a * d) (b * c)) := by rw [R0.out, if_neg G0.out, if_neg hneg]; rfl
    clear R0 hneg
    obtain ⟨p0, q0⟩ := mul_bd (x := a) (y := d) k1 k2 (by omega) m4
    obtain ⟨p1, q1⟩ := mul_bd (x := b) (y := c) (by omega) k4 m1 m2
    have s0 := mul_pos' (x := b) (y := c) k3 (by omega)
    go_enter Try.func18, Try.ntmps18
    go_wp2_with fail
    refine (implIsRatio_any a b _).mono ?_
    rintro e w1 ⟨rfl, hb⟩
    rw [H.out]
    obtain ⟨hc, hf⟩ := bcell hb
    have hz : w.heap.size + 2 < w1.heap.size := by have := hb.size; simp at this; omega
    have hB : Below w.heap.size w w1 := ((((Below.refl _ _).alloc (Nat.le_refl _) _).alloc (by simp) _).alloc (by simp <;> omega) _).trans (hb.mono (by simp; omega))
    have a0 : w1.cell? ⟨w.heap.size, 0, none⟩ = some (.int .i64 a) := by rw [hc _ _ (by simp <;> omega)]; simp [go_sem]
    have a1 : w1.cell? ⟨w.heap.size, 1, none⟩ = some (.int .i64 b) := by rw [hc _ _ (by simp <;> omega)]; simp [go_sem]
    have b0 : w1.cell? ⟨w.heap.size + 1, 0, none⟩ = some (.int .i64 c) := by rw [hc _ _ (by simp <;> omega)]; simp [go_sem]
    have b1 : w1.cell? ⟨w.heap.size + 1, 1, none⟩ = some (.int .i64 d) := by rw [hc _ _ (by simp <;> omega)]; simp [go_sem]
    have c0 : w1.cell? ⟨w.heap.size + 2, 0, none⟩ = some (.int .i64 0) := by rw [hc _ _ (by simp <;> omega)]; simp [go_sem]
    have c1 : w1.cell? ⟨w.heap.size + 2, 1, none⟩ = some (.int .i64 0) := by rw [hc _ _ (by simp <;> omega)]; simp [go_sem]
    have f0 : w1.frozen? ⟨w.heap.size + 2, 0, none⟩ = false := by rw [hf _ _ (by simp <;> omega)]; simp [go_sem]
    have f1 : w1.frozen? ⟨w.heap.size + 2, 1, none⟩ = false := by rw [hf _ _ (by simp <;> omega)]; simp [go_sem]
    clear hb hc hf
    go_wp2_with fail
    refine (implIsRatio_any c d _).mono ?_
    rintro e w2 ⟨rfl, hb⟩
    rw [H'.out]
    have hB2 : Below w.heap.size w w2 := hB.trans (hb.mono (by omega))
    have hz2 : w.heap.size + 2 < w2.heap.size := by have := hb.size; omega
    obtain ⟨hc, hf⟩ := bcell hb
    have a0' : w2.cell? ⟨w.heap.size, 0, none⟩ = some (.int .i64 a) := by rw [hc _ _ (by omega)]; exact a0
    have a1' : w2.cell? ⟨w.heap.size, 1, none⟩ = some (.int .i64 b) := by rw [hc _ _ (by omega)]; exact a1
    have b0' : w2.cell? ⟨w.heap.size + 1, 0, none⟩ = some (.int .i64 c) := by rw [hc _ _ (by omega)]; exact b0
    have b1' : w2.cell? ⟨w.heap.size + 1, 1, none⟩ = some (.int .i64 d) := by rw [hc _ _ (by omega)]; exact b1
    have c0' : w2.cell? ⟨w.heap.size + 2, 0, none⟩ = some (.int .i64 0) := by rw [hc _ _ hz]; exact c0
    have c1' : w2.cell? ⟨w.heap.size + 2, 1, none⟩ = some (.int .i64 0) := by rw [hc _ _ hz]; exact c1
    have f0' : w2.frozen? ⟨w.heap.size + 2, 0, none⟩ = false := by rw [hf _ _ hz]; exact f0
    have f1' : w2.frozen? ⟨w.heap.size + 2, 1, none⟩ = false := by rw [hf _ _ hz]; exact f1
    clear hb hc hf c0 c1 f0 f1 a0 a1 b0 b1
    go_wp2_with fail
    refine (reduced_any _ _ _ (by omega) (by omega) (by omega) (by omega)).mono ?_
    rintro e w3 ⟨rfl, hb⟩
    have hB3 : Below w.heap.size w w3 := hB2.trans (hb.mono (by omega))
    obtain ⟨hc, hf⟩ := bcell hb
    have c0 : w3.cell? ⟨w.heap.size + 2, 0, none⟩ = some (.int .i64 0) := by rw [hc _ _ hz2]; exact c0'
    have c1 : w3.cell? ⟨w.heap.size + 2, 1, none⟩ = some (.int .i64 0) := by rw [hc _ _ hz2]; exact c1'
    have f0 : w3.frozen? ⟨w.heap.size + 2, 0, none⟩ = false := by rw [hf _ _ hz2]; exact f0'
    have f1 : w3.frozen? ⟨w.heap.size + 2, 1, none⟩ = false := by rw [hf _ _ hz2]; exact f1'
    clear hb hc hf c0' c1' f0' f1' a0' a1' b0' b1'
    go_wp2
    exact bodyPost_ret (v := .tuple #[.agg #[.int .i64 _, .int .i64 _], .int .i64 _]) (by simp [results, Try.results18, go_sem, c0, c1]) rfl ⟨ratV_eq R.out, hB3.setCell (by simp; omega) _ |>.setCell (by simp; omega) _⟩

set_option maxHeartbeats 1000000 in
theorem specDivideRatios_any (a b c d : Int) (w : World) :
    Calls Try.prog 19 #[.agg #[.int .i64 a, .int .i64 b], .agg #[.int .i64 c, .int .i64 d]] w fun e w' => e = .returned (ratV (divR a b c d)) ∧ Below w.heap.size w w' := by
  cases ha : isR a b
  · have H := Lib.hid ha
    have R : Hid (divR a b c d = (0, 0, 1)) := by unfold divR; rw [if_neg (okk_left ha)]; rfl
    clear ha
    go_enter Try.func19, Try.ntmps19
    go_wp2_with fail
    refine (specIsRatio_any a b _).mono ?_
    rintro e w1 ⟨rfl, hb⟩
    rw [H.out]
    obtain ⟨hc, hf⟩ := bcell hb
    have hz : w.heap.size + 2 < w1.heap.size := by have := hb.size; simp at this; omega
    have hB : Below w.heap.size w w1 := ((((Below.refl _ _).alloc (Nat.le_refl _) _).alloc (by simp) _).alloc (by simp <;> omega) _).trans (hb.mono (by simp; omega))
    have c0 : w1.cell? ⟨w.heap.size + 2, 0, none⟩ = some (.int .i64 0) := by rw [hc _ _ (by simp <;> omega)]; simp [go_sem]
    have c1 : w1.cell? ⟨w.heap.size + 2, 1, none⟩ = some (.int .i64 0) := by rw [hc _ _ (by simp <;> omega)]; simp [go_sem]
    have f0 : w1.frozen? ⟨w.heap.size + 2, 0, none⟩ = false := by rw [hf _ _ (by simp <;> omega)]; simp [go_sem]
    have f1 : w1.frozen? ⟨w.heap.size + 2, 1, none⟩ = false := by rw [hf _ _ (by simp <;> omega)]; simp [go_sem]
    clear hb hc hf
    go_wp2
    exact bodyPost_ret (v := .tuple #[.agg #[.int .i64 0, .int .i64 0], .int .i64 1]) (by simp [results, Try.results19, go_sem, c0, c1]) rfl ⟨ratV_eq R.out, hB.setCell (by simp; omega) _ |>.setCell (by simp; omega) _⟩
  cases hd : isR c d
  · have H := Lib.hid ha
    have H' := Lib.hid hd
    have R : Hid (divR a b c d = (0, 0, 1)) := by unfold divR; rw [if_neg (okk_right hd)]; rfl
    clear ha hd
    go_enter Try.func19, Try.ntmps19
    go_wp2_with fail
    refine (specIsRatio_any a b _).mono ?_
    rintro e w1 ⟨rfl, hb⟩
    rw [H.out]
    obtain ⟨hc, hf⟩ := bcell hb
    have hz : w.heap.size + 2 < w1.heap.size := by have := hb.size; simp at this; omega
    have hB : Below w.heap.size w w1 := ((((Below.refl _ _).alloc (Nat.le_refl _) _).alloc (by simp) _).alloc (by simp <;> omega) _).trans (hb.mono (by simp; omega))
    have b0 : w1.cell? ⟨w.heap.size + 1, 0, none⟩ = some (.int .i64 c) := by rw [hc _ _ (by simp <;> omega)]; simp [go_sem]
    have b1 : w1.cell? ⟨w.heap.size + 1, 1, none⟩ = some (.int .i64 d) := by rw [hc _ _ (by simp <;> omega)]; simp [go_sem]
    have c0 : w1.cell? ⟨w.heap.size + 2, 0, none⟩ = some (.int .i64 0) := by rw [hc _ _ (by simp <;> omega)]; simp [go_sem]
    have c1 : w1.cell? ⟨w.heap.size + 2, 1, none⟩ = some (.int .i64 0) := by rw [hc _ _ (by simp <;> omega)]; simp [go_sem]
    have f0 : w1.frozen? ⟨w.heap.size + 2, 0, none⟩ = false := by rw [hf _ _ (by simp <;> omega)]; simp [go_sem]
    have f1 : w1.frozen? ⟨w.heap.size + 2, 1, none⟩ = false := by rw [hf _ _ (by simp <;> omega)]; simp [go_sem]
    clear hb hc hf
    go_wp2_with fail
    refine (specIsRatio_any c d _).mono ?_
    rintro e w2 ⟨rfl, hb⟩
    rw [H'.out]
    have hB2 : Below w.heap.size w w2 := hB.trans (hb.mono (by omega))
    have hz2 : w.heap.size + 2 < w2.heap.size := by have := hb.size; omega
    obtain ⟨hc, hf⟩ := bcell hb
    have c0' : w2.cell? ⟨w.heap.size + 2, 0, none⟩ = some (.int .i64 0) := by rw [hc _ _ hz]; exact c0
    have c1' : w2.cell? ⟨w.heap.size + 2, 1, none⟩ = some (.int .i64 0) := by rw [hc _ _ hz]; exact c1
    have f0' : w2.frozen? ⟨w.heap.size + 2, 0, none⟩ = false := by rw [hf _ _ hz]; exact f0
    have f1' : w2.frozen? ⟨w.heap.size + 2, 1, none⟩ = false := by rw [hf _ _ hz]; exact f1
    clear hb hc hf c0 c1 f0 f1 b0 b1
    go_wp2
    exact bodyPost_ret (v := .tuple #[.agg #[.int .i64 0, .int .i64 0], .int .i64 1]) (by simp [results, Try.results19, go_sem, c0', c1']) rfl ⟨ratV_eq R.out, hB2.setCell (by simp; omega) _ |>.setCell (by simp; omega) _⟩
  have H := Lib.hid ha
  have H' := Lib.hid hd
  have R0 : Hid (divR a b c d = (if c = 0 then bad 5 else if c < 0 then rd (-a * d) (-b * c) else rd (a * d) (b * c))) := by unfold divR; rw [if_pos (okk_true ha hd)]; rfl
  obtain ⟨k1, k2, k3, k4, _⟩ := (isR_iff a b).1 ha
  obtain ⟨m1, m2, m3, m4, _⟩ := (isR_iff c d).1 hd
  clear ha hd
  by_cases h0 : c = 0
  · subst h0
    have R : Hid (divR a b 0 d = (0, 0, 5)) := by rw [R0.out, if_pos rfl]; rfl
    clear R0
    have hd0 : isR 0 d = isR 0 d := rfl
    clear hd0
    go_enter Try.func19, Try.ntmps19
    go_wp2_with fail
    refine (specIsRatio_any a b _).mono ?_
    rintro e w1 ⟨rfl, hb⟩
    rw [H.out]
    obtain ⟨hc, hf⟩ := bcell hb
    have hz : w.heap.size + 2 < w1.heap.size := by have := hb.size; simp at this; omega
    have hB : Below w.heap.size w w1 := ((((Below.refl _ _).alloc (Nat.le_refl _) _).alloc (by simp) _).alloc (by simp <;> omega) _).trans (hb.mono (by simp; omega))
    have a0 : w1.cell? ⟨w.heap.size, 0, none⟩ = some (.int .i64 a) := by rw [hc _ _ (by simp <;> omega)]; simp [go_sem]
    have a1 : w1.cell? ⟨w.heap.size, 1, none⟩ = some (.int .i64 b) := by rw [hc _ _ (by simp <;> omega)]; simp [go_sem]
    have b0 : w1.cell? ⟨w.heap.size + 1, 0, none⟩ = some (.int .i64 0) := by rw [hc _ _ (by simp <;> omega)]; simp [go_sem]
    have b1 : w1.cell? ⟨w.heap.size + 1, 1, none⟩ = some (.int .i64 d) := by rw [hc _ _ (by simp <;> omega)]; simp [go_sem]
    have c0 : w1.cell? ⟨w.heap.size + 2, 0, none⟩ = some (.int .i64 0) := by rw [hc _ _ (by simp <;> omega)]; simp [go_sem]
    have c1 : w1.cell? ⟨w.heap.size + 2, 1, none⟩ = some (.int .i64 0) := by rw [hc _ _ (by simp <;> omega)]; simp [go_sem]
    have f0 : w1.frozen? ⟨w.heap.size + 2, 0, none⟩ = false := by rw [hf _ _ (by simp <;> omega)]; simp [go_sem]
    have f1 : w1.frozen? ⟨w.heap.size + 2, 1, none⟩ = false := by rw [hf _ _ (by simp <;> omega)]; simp [go_sem]
    clear hb hc hf
    go_wp2_with fail
    refine (specIsRatio_any 0 d _).mono ?_
    rintro e w2 ⟨rfl, hb⟩
    rw [H'.out]
    have hB2 : Below w.heap.size w w2 := hB.trans (hb.mono (by omega))
    have hz2 : w.heap.size + 2 < w2.heap.size := by have := hb.size; omega
    obtain ⟨hc, hf⟩ := bcell hb
    have a0' : w2.cell? ⟨w.heap.size, 0, none⟩ = some (.int .i64 a) := by rw [hc _ _ (by omega)]; exact a0
    have a1' : w2.cell? ⟨w.heap.size, 1, none⟩ = some (.int .i64 b) := by rw [hc _ _ (by omega)]; exact a1
    have b0' : w2.cell? ⟨w.heap.size + 1, 0, none⟩ = some (.int .i64 0) := by rw [hc _ _ (by omega)]; exact b0
    have b1' : w2.cell? ⟨w.heap.size + 1, 1, none⟩ = some (.int .i64 d) := by rw [hc _ _ (by omega)]; exact b1
    have c0' : w2.cell? ⟨w.heap.size + 2, 0, none⟩ = some (.int .i64 0) := by rw [hc _ _ hz]; exact c0
    have c1' : w2.cell? ⟨w.heap.size + 2, 1, none⟩ = some (.int .i64 0) := by rw [hc _ _ hz]; exact c1
    have f0' : w2.frozen? ⟨w.heap.size + 2, 0, none⟩ = false := by rw [hf _ _ hz]; exact f0
    have f1' : w2.frozen? ⟨w.heap.size + 2, 1, none⟩ = false := by rw [hf _ _ hz]; exact f1
    clear hb hc hf c0 c1 f0 f1 a0 a1 b0 b1
    go_wp2
    exact bodyPost_ret (v := .tuple #[.agg #[.int .i64 0, .int .i64 0], .int .i64 5]) (by simp [results, Try.results19, go_sem, c0', c1']) rfl ⟨ratV_eq R.out, hB2.setCell (by simp; omega) _ |>.setCell (by simp; omega) _⟩
  have g0 : (c == 0) = false := by simp; omega
  have G0 := Lib.hid h0
  clear h0
  by_cases hneg : c < 0
  · have R : Hid (divR a b c d = rd (-a * d) (-b * c)) := by rw [R0.out, if_neg G0.out, if_pos hneg]; rfl
    clear R0
    obtain ⟨p0, q0⟩ := mul_bd (x := -a) (y := d) (by omega) (by omega) (by omega) m4
    obtain ⟨p1, q1⟩ := mul_bd (x := -b) (y := c) (by omega) (by omega) m1 m2
    have s0 : 1 ≤ -b * c := by
      have := mul_pos' (x := b) (y := -c) k3 (by omega)
      rw [Int.neg_mul]; rw [Int.mul_neg] at this; exact this
    go_enter Try.func19, Try.ntmps19
    go_wp2_with fail
    refine (specIsRatio_any a b _).mono ?_
    rintro e w1 ⟨rfl, hb⟩
    rw [H.out]
    obtain ⟨hc, hf⟩ := bcell hb
    have hz : w.heap.size + 2 < w1.heap.size := by have := hb.size; simp at this; omega
    have hB : Below w.heap.size w w1 := ((((Below.refl _ _).alloc (Nat.le_refl _) _).alloc (by simp) _).alloc (by simp <;> omega) _).trans (hb.mono (by simp; omega))
    have a0 : w1.cell? ⟨w.heap.size, 0, none⟩ = some (.int .i64 a) := by rw [hc _ _ (by simp <;> omega)]; simp [go_sem]
    have a1 : w1.cell? ⟨w.heap.size, 1, none⟩ = some (.int .i64 b) := by rw [hc _ _ (by simp <;> omega)]; simp [go_sem]
    have b0 : w1.cell? ⟨w.heap.size + 1, 0, none⟩ = some (.int .i64 c) := by rw [hc _ _ (by simp <;> omega)]; simp [go_sem]
    have b1 : w1.cell? ⟨w.heap.size + 1, 1, none⟩ = some (.int .i64 d) := by rw [hc _ _ (by simp <;> omega)]; simp [go_sem]
    have c0 : w1.cell? ⟨w.heap.size + 2, 0, none⟩ = some (.int .i64 0) := by rw [hc _ _ (by simp <;> omega)]; simp [go_sem]
    have c1 : w1.cell? ⟨w.heap.size + 2, 1, none⟩ = some (.int .i64 0) := by rw [hc _ _ (by simp <;> omega)]; simp [go_sem]
    have f0 : w1.frozen? ⟨w.heap.size + 2, 0, none⟩ = false := by rw [hf _ _ (by simp <;> omega)]; simp [go_sem]
    have f1 : w1.frozen? ⟨w.heap.size + 2, 1, none⟩ = false := by rw [hf _ _ (by simp <;> omega)]; simp [go_sem]
    clear hb hc hf
    go_wp2_with fail
    refine (specIsRatio_any c d _).mono ?_
    rintro e w2 ⟨rfl, hb⟩
    rw [H'.out]
    have hB2 : Below w.heap.size w w2 := hB.trans (hb.mono (by omega))
    have hz2 : w.heap.size + 2 < w2.heap.size := by have := hb.size; omega
    obtain ⟨hc, hf⟩ := bcell hb
    have a0' : w2.cell? ⟨w.heap.size, 0, none⟩ = some (.int .i64 a) := by rw [hc _ _ (by omega)]; exact a0
    have a1' : w2.cell? ⟨w.heap.size, 1, none⟩ = some (.int .i64 b) := by rw [hc _ _ (by omega)]; exact a1
    have b0' : w2.cell? ⟨w.heap.size + 1, 0, none⟩ = some (.int .i64 c) := by rw [hc _ _ (by omega)]; exact b0
    have b1' : w2.cell? ⟨w.heap.size + 1, 1, none⟩ = some (.int .i64 d) := by rw [hc _ _ (by omega)]; exact b1
    have c0' : w2.cell? ⟨w.heap.size + 2, 0, none⟩ = some (.int .i64 0) := by rw [hc _ _ hz]; exact c0
    have c1' : w2.cell? ⟨w.heap.size + 2, 1, none⟩ = some (.int .i64 0) := by rw [hc _ _ hz]; exact c1
    have f0' : w2.frozen? ⟨w.heap.size + 2, 0, none⟩ = false := by rw [hf _ _ hz]; exact f0
    have f1' : w2.frozen? ⟨w.heap.size + 2, 1, none⟩ = false := by rw [hf _ _ hz]; exact f1
    clear hb hc hf c0 c1 f0 f1 a0 a1 b0 b1
    go_wp2_with fail
    refine (l01Ratio_any _ _ _ (by omega) (by omega) (by omega) (by omega)).mono ?_
    rintro e w3 ⟨rfl, hb⟩
    have hB3 : Below w.heap.size w w3 := hB2.trans (hb.mono (by omega))
    obtain ⟨hc, hf⟩ := bcell hb
    have c0 : w3.cell? ⟨w.heap.size + 2, 0, none⟩ = some (.int .i64 0) := by rw [hc _ _ hz2]; exact c0'
    have c1 : w3.cell? ⟨w.heap.size + 2, 1, none⟩ = some (.int .i64 0) := by rw [hc _ _ hz2]; exact c1'
    have f0 : w3.frozen? ⟨w.heap.size + 2, 0, none⟩ = false := by rw [hf _ _ hz2]; exact f0'
    have f1 : w3.frozen? ⟨w.heap.size + 2, 1, none⟩ = false := by rw [hf _ _ hz2]; exact f1'
    clear hb hc hf c0' c1' f0' f1' a0' a1' b0' b1'
    go_wp2
    exact bodyPost_ret (v := .tuple #[.agg #[.int .i64 _, .int .i64 _], .int .i64 _]) (by simp [results, Try.results19, go_sem, c0, c1]) rfl ⟨ratV_eq R.out, hB3.setCell (by simp; omega) _ |>.setCell (by simp; omega) _⟩
  · have hpos : 0 < c := by have := G0.out; omega
    have R : Hid (divR a b c d = rd (a * d) (b * c)) := by rw [R0.out, if_neg G0.out, if_neg hneg]; rfl
    clear R0 hneg
    obtain ⟨p0, q0⟩ := mul_bd (x := a) (y := d) k1 k2 (by omega) m4
    obtain ⟨p1, q1⟩ := mul_bd (x := b) (y := c) (by omega) k4 m1 m2
    have s0 := mul_pos' (x := b) (y := c) k3 (by omega)
    go_enter Try.func19, Try.ntmps19
    go_wp2_with fail
    refine (specIsRatio_any a b _).mono ?_
    rintro e w1 ⟨rfl, hb⟩
    rw [H.out]
    obtain ⟨hc, hf⟩ := bcell hb
    have hz : w.heap.size + 2 < w1.heap.size := by have := hb.size; simp at this; omega
    have hB : Below w.heap.size w w1 := ((((Below.refl _ _).alloc (Nat.le_refl _) _).alloc (by simp) _).alloc (by simp <;> omega) _).trans (hb.mono (by simp; omega))
    have a0 : w1.cell? ⟨w.heap.size, 0, none⟩ = some (.int .i64 a) := by rw [hc _ _ (by simp <;> omega)]; simp [go_sem]
    have a1 : w1.cell? ⟨w.heap.size, 1, none⟩ = some (.int .i64 b) := by rw [hc _ _ (by simp <;> omega)]; simp [go_sem]
    have b0 : w1.cell? ⟨w.heap.size + 1, 0, none⟩ = some (.int .i64 c) := by rw [hc _ _ (by simp <;> omega)]; simp [go_sem]
    have b1 : w1.cell? ⟨w.heap.size + 1, 1, none⟩ = some (.int .i64 d) := by rw [hc _ _ (by simp <;> omega)]; simp [go_sem]
    have c0 : w1.cell? ⟨w.heap.size + 2, 0, none⟩ = some (.int .i64 0) := by rw [hc _ _ (by simp <;> omega)]; simp [go_sem]
    have c1 : w1.cell? ⟨w.heap.size + 2, 1, none⟩ = some (.int .i64 0) := by rw [hc _ _ (by simp <;> omega)]; simp [go_sem]
    have f0 : w1.frozen? ⟨w.heap.size + 2, 0, none⟩ = false := by rw [hf _ _ (by simp <;> omega)]; simp [go_sem]
    have f1 : w1.frozen? ⟨w.heap.size + 2, 1, none⟩ = false := by rw [hf _ _ (by simp <;> omega)]; simp [go_sem]
    clear hb hc hf
    go_wp2_with fail
    refine (specIsRatio_any c d _).mono ?_
    rintro e w2 ⟨rfl, hb⟩
    rw [H'.out]
    have hB2 : Below w.heap.size w w2 := hB.trans (hb.mono (by omega))
    have hz2 : w.heap.size + 2 < w2.heap.size := by have := hb.size; omega
    obtain ⟨hc, hf⟩ := bcell hb
    have a0' : w2.cell? ⟨w.heap.size, 0, none⟩ = some (.int .i64 a) := by rw [hc _ _ (by omega)]; exact a0
    have a1' : w2.cell? ⟨w.heap.size, 1, none⟩ = some (.int .i64 b) := by rw [hc _ _ (by omega)]; exact a1
    have b0' : w2.cell? ⟨w.heap.size + 1, 0, none⟩ = some (.int .i64 c) := by rw [hc _ _ (by omega)]; exact b0
    have b1' : w2.cell? ⟨w.heap.size + 1, 1, none⟩ = some (.int .i64 d) := by rw [hc _ _ (by omega)]; exact b1
    have c0' : w2.cell? ⟨w.heap.size + 2, 0, none⟩ = some (.int .i64 0) := by rw [hc _ _ hz]; exact c0
    have c1' : w2.cell? ⟨w.heap.size + 2, 1, none⟩ = some (.int .i64 0) := by rw [hc _ _ hz]; exact c1
    have f0' : w2.frozen? ⟨w.heap.size + 2, 0, none⟩ = false := by rw [hf _ _ hz]; exact f0
    have f1' : w2.frozen? ⟨w.heap.size + 2, 1, none⟩ = false := by rw [hf _ _ hz]; exact f1
    clear hb hc hf c0 c1 f0 f1 a0 a1 b0 b1
    go_wp2_with fail
    refine (l01Ratio_any _ _ _ (by omega) (by omega) (by omega) (by omega)).mono ?_
    rintro e w3 ⟨rfl, hb⟩
    have hB3 : Below w.heap.size w w3 := hB2.trans (hb.mono (by omega))
    obtain ⟨hc, hf⟩ := bcell hb
    have c0 : w3.cell? ⟨w.heap.size + 2, 0, none⟩ = some (.int .i64 0) := by rw [hc _ _ hz2]; exact c0'
    have c1 : w3.cell? ⟨w.heap.size + 2, 1, none⟩ = some (.int .i64 0) := by rw [hc _ _ hz2]; exact c1'
    have f0 : w3.frozen? ⟨w.heap.size + 2, 0, none⟩ = false := by rw [hf _ _ hz2]; exact f0'
    have f1 : w3.frozen? ⟨w.heap.size + 2, 1, none⟩ = false := by rw [hf _ _ hz2]; exact f1'
    clear hb hc hf c0' c1' f0' f1' a0' a1' b0' b1'
    go_wp2
    exact bodyPost_ret (v := .tuple #[.agg #[.int .i64 _, .int .i64 _], .int .i64 _]) (by simp [results, Try.results19, go_sem, c0, c1]) rfl ⟨ratV_eq R.out, hB3.setCell (by simp; omega) _ |>.setCell (by simp; omega) _⟩
end Go.Proofs.Ytghgllpgiohlhaa
