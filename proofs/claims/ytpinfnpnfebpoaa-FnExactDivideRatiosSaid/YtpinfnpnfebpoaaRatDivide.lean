/-
  The walks of the laws on the operations with two ratios.
-/
import Derived.Test.YtpinfnpnfebpoaaRatLaws
import Derived.Deep.DeepCutAuto
namespace Go.Proofs.Ytpinfnpnfebpoaa
open Go.RowKit

set_option maxHeartbeats 2000000 in
theorem FnExactDivideRatios_walk (a b : Int) (_ha : -9223372036854775808 ≤ a ∧ a ≤ 9223372036854775807) (_hb : -9223372036854775808 ≤ b ∧ b ≤ 9223372036854775807) (c d : Int) (hc : -9223372036854775808 ≤ c ∧ c ≤ 9223372036854775807) (_hd : -9223372036854775808 ≤ d ∧ d ≤ 9223372036854775807) (w : World) :
    Calls Try.prog 11 #[.agg #[.int .i64 a, .int .i64 b], .agg #[.int .i64 c, .int .i64 d]] w fun e w' => e = .returned (.bool true) ∧ Below w.heap.size w w' := by
  have HC := Lib.hid hc
  clear _ha _hb hc _hd
  go_enter Try.func11, Try.ntmps11
  go_upto_region 1 with (fail)
  generalize hW : (w.alloc (.cells #[.int .i64 a, .int .i64 b] 27)).alloc (.cells #[.int .i64 c, .int .i64 d] 27) = W
  have hB : Below w.heap.size w W := by rw [← hW]; exact ((Below.refl _ _).alloc (Nat.le_refl _) _).alloc (by simp) _
  have z : w.heap.size + 1 < W.heap.size := by rw [← hW]; simp
  have z0 : w.heap.size < W.heap.size := by omega
  have a0 : W.cell? ⟨w.heap.size, 0, none⟩ = some (.int .i64 a) := by rw [← hW]; simp [go_sem]
  have a1 : W.cell? ⟨w.heap.size, 1, none⟩ = some (.int .i64 b) := by rw [← hW]; simp [go_sem]
  have b0 : W.cell? ⟨w.heap.size + 1, 0, none⟩ = some (.int .i64 c) := by rw [← hW]; simp [go_sem]
  have b1 : W.cell? ⟨w.heap.size + 1, 1, none⟩ = some (.int .i64 d) := by rw [← hW]; simp [go_sem]
  clear hW
  go_cut [5, 6] (fun p k wx => RatAt W wx p k (divR a b c d).1 (divR a b c d).2.1 (divR a b c d).2.2)
  case first =>
    have mk : ∀ w', Held W w' → Held W w' ∧ w'.cell? ⟨w.heap.size, 0, none⟩ = some (.int .i64 a) ∧ w'.cell? ⟨w.heap.size, 1, none⟩ = some (.int .i64 b) ∧ w'.cell? ⟨w.heap.size + 1, 0, none⟩ = some (.int .i64 c) ∧ w'.cell? ⟨w.heap.size + 1, 1, none⟩ = some (.int .i64 d) :=
      fun w' h => ⟨h, h.cell z0 a0, h.cell z0 a1, h.cell z b0, h.cell z b1⟩
    have MK := Lib.hid mk
    clear mk
    go_region_held3 (fun w' => Held W w' ∧ w'.cell? ⟨w.heap.size, 0, none⟩ = some (.int .i64 a) ∧ w'.cell? ⟨w.heap.size, 1, none⟩ = some (.int .i64 b) ∧ w'.cell? ⟨w.heap.size + 1, 0, none⟩ = some (.int .i64 c) ∧ w'.cell? ⟨w.heap.size + 1, 1, none⟩ = some (.int .i64 d))
      (first | exact MK.out _ (held0 _) | exact MK.out _ (heldC (by assumption) (by assumption)) | exact MK.out _ (heldA2 (by assumption) hs.out _) | exact MK.out _ (heldA (by assumption) _) | (refine MK.out _ (heldS2 (by assumption) ?_ ?_ _ _) <;> first | exact Nat.le_refl _ | exact Hid.out (by assumption)))
      (first
        | (go_at_call 17; refine (toRatio_any _ _ _).mono ?_; rintro e w' ⟨rfl, hb⟩; have hs := Lib.hid (heldSize (by assumption) hb); obtain ⟨hc, hf⟩ := bcell hb; have hz := belowLt hb; (try have hy := belowLt2 hb (by assumption)))
        | (go_at_call 30; refine (specDivideRatios_any a b c d _).mono ?_; rintro e w' ⟨rfl, hb⟩; have hs := Lib.hid (heldSize (by assumption) hb); obtain ⟨hc, hf⟩ := bcell hb; have hz := belowLt hb; (try have hy := belowLt2 hb (by assumption))))
    all_goals (go_wp2_with fail; go_meet)
    all_goals (refine ⟨_, rfl, rfl, ?_, ?_, ?_, ?_, And.left (by assumption)⟩)
    all_goals (first | exact Nat.le_refl _ | exact Hid.out (by assumption) | (refine two_set0 (u := .int .i64 0) ?_; simp [go_sem, *]; done) | (refine two_set1 (u := .int .i64 0) ?_; simp [go_sem, *]; done) | (refine size_set2 (n := 0) ?_ rfl; simp [*]; done) | (simp [go_sem]; done))

  case rest =>
    obtain ⟨V, rfl⟩ : ∃ V, V = wc := ⟨_, rfl⟩
    obtain ⟨g, rfl, rfl, g0, g1, gW, gz, gH⟩ := hcut
    replace a0 := gH.cell z0 a0
    replace a1 := gH.cell z0 a1
    replace b0 := gH.cell z b0
    replace b1 := gH.cell z b1
    replace hB : Below w.heap.size w V := hB.trans (Below.mono gH (by omega))
    have zV := Below.size gH
    replace z : w.heap.size + 1 < V.heap.size := by omega
    replace z0 : w.heap.size < V.heap.size := by omega
    clear gH zV gW
    clear W
    go_upto_region 2 with (fail)
    go_cut [7, 8] (fun p k wx => RatAt V wx p k (divR a b c d).1 (divR a b c d).2.1 (divR a b c d).2.2)
    case first =>
      have mk : ∀ w', Held V w' → Held V w' ∧ w'.cell? ⟨w.heap.size, 0, none⟩ = some (.int .i64 a) ∧ w'.cell? ⟨w.heap.size, 1, none⟩ = some (.int .i64 b) ∧ w'.cell? ⟨w.heap.size + 1, 0, none⟩ = some (.int .i64 c) ∧ w'.cell? ⟨w.heap.size + 1, 1, none⟩ = some (.int .i64 d) :=
        fun w' h => ⟨h, h.cell z0 a0, h.cell z0 a1, h.cell z b0, h.cell z b1⟩
      have MK := Lib.hid mk
      clear mk
      go_region_held3 (fun w' => Held V w' ∧ w'.cell? ⟨w.heap.size, 0, none⟩ = some (.int .i64 a) ∧ w'.cell? ⟨w.heap.size, 1, none⟩ = some (.int .i64 b) ∧ w'.cell? ⟨w.heap.size + 1, 0, none⟩ = some (.int .i64 c) ∧ w'.cell? ⟨w.heap.size + 1, 1, none⟩ = some (.int .i64 d))
        (first | exact MK.out _ (held0 _) | exact MK.out _ (heldC (by assumption) (by assumption)) | exact MK.out _ (heldA2 (by assumption) hs.out _) | exact MK.out _ (heldA (by assumption) _) | (refine MK.out _ (heldS2 (by assumption) ?_ ?_ _ _) <;> first | exact Nat.le_refl _ | exact Hid.out (by assumption)))
        (first
          | (go_at_call 17; refine (toRatio_any _ _ _).mono ?_; rintro e w' ⟨rfl, hb⟩; have hs := Lib.hid (heldSize (by assumption) hb); obtain ⟨hc, hf⟩ := bcell hb; have hz := belowLt hb; (try have hy := belowLt2 hb (by assumption)))
          | (go_at_call 31; refine (implDivideRatios_any a b c d _).mono ?_; rintro e w' ⟨rfl, hb⟩; have hs := Lib.hid (heldSize (by assumption) hb); obtain ⟨hc, hf⟩ := bcell hb; have hz := belowLt hb; (try have hy := belowLt2 hb (by assumption))))
      all_goals (go_wp2_with fail; go_meet)
      all_goals (refine ⟨_, rfl, rfl, ?_, ?_, ?_, ?_, And.left (by assumption)⟩)
      all_goals (first | exact Nat.le_refl _ | exact Hid.out (by assumption) | (refine two_set0 (u := .int .i64 0) ?_; simp [go_sem, *]; done) | (refine two_set1 (u := .int .i64 0) ?_; simp [go_sem, *]; done) | (refine size_set2 (n := 0) ?_ rfl; simp [*]; done) | (simp [go_sem]; done))
    case rest =>
      obtain ⟨X, rfl⟩ : ∃ X, X = wc := ⟨_, rfl⟩
      obtain ⟨h, rfl, rfl, h0, h1, hW, hz, hH⟩ := hcut
      replace g0 := hH.cell gz g0
      replace g1 := hH.cell gz g1
      replace hB : Below w.heap.size w X := hB.trans (Below.mono hH (by omega))
      have hX := hB.size
      clear a0 a1 b0 b1 z z0 hH
      go_wp2_with (go_at_call 21; refine (eqRatio_same _ _ _).mono ?_; rintro e w' ⟨rfl, hb⟩)
      go_ret
      exact ⟨rfl, hB.trans (hb.mono hX)⟩
end Go.Proofs.Ytpinfnpnfebpoaa
