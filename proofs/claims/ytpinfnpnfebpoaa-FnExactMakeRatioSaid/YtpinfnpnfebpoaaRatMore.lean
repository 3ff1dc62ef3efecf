/-
  The walks of the laws on CompareRatios and MakeRatio.
-/
import Derived.Test.YtpinfnpnfebpoaaRatLaws
import Derived.Deep.DeepCutAuto
namespace Go.Proofs.Ytpinfnpnfebpoaa
open Go.RowKit

set_option maxHeartbeats 2000000 in
theorem FnExactCompareRatios_walk (a b : Int) (_ha : -9223372036854775808 ≤ a ∧ a ≤ 9223372036854775807) (_hb : -9223372036854775808 ≤ b ∧ b ≤ 9223372036854775807) (c d : Int) (_hc : -9223372036854775808 ≤ c ∧ c ≤ 9223372036854775807) (_hd : -9223372036854775808 ≤ d ∧ d ≤ 9223372036854775807) (w : World) :
    Calls Try.prog 10 #[.agg #[.int .i64 a, .int .i64 b], .agg #[.int .i64 c, .int .i64 d]] w fun e w' => e = .returned (.bool true) ∧ Below w.heap.size w w' := by
  clear _ha _hb _hc _hd
  go_enter Try.func10, Try.ntmps10
  go_wp2
  generalize hW : (w.alloc (.cells #[.int .i64 a, .int .i64 b] 27)).alloc (.cells #[.int .i64 c, .int .i64 d] 27) = W
  have hB : Below w.heap.size w W := by rw [← hW]; exact ((Below.refl _ _).alloc (Nat.le_refl _) _).alloc (by simp) _
  have z : w.heap.size + 1 < W.heap.size := by rw [← hW]; simp
  have z0 : w.heap.size < W.heap.size := by omega
  have a0 : W.cell? ⟨w.heap.size, 0, none⟩ = some (.int .i64 a) := by rw [← hW]; simp [go_sem]
  have a1 : W.cell? ⟨w.heap.size, 1, none⟩ = some (.int .i64 b) := by rw [← hW]; simp [go_sem]
  have b0 : W.cell? ⟨w.heap.size + 1, 0, none⟩ = some (.int .i64 c) := by rw [← hW]; simp [go_sem]
  have b1 : W.cell? ⟨w.heap.size + 1, 1, none⟩ = some (.int .i64 d) := by rw [← hW]; simp [go_sem]
  clear hW
  have MKW : Hid (∀ w', Held W w' → Held W w' ∧ w'.cell? ⟨w.heap.size, 0, none⟩ = some (.int .i64 a) ∧ w'.cell? ⟨w.heap.size, 1, none⟩ = some (.int .i64 b) ∧ w'.cell? ⟨w.heap.size + 1, 0, none⟩ = some (.int .i64 c) ∧ w'.cell? ⟨w.heap.size + 1, 1, none⟩ = some (.int .i64 d)) :=
    fun w' h => ⟨h, h.cell z0 a0, h.cell z0 a1, h.cell z b0, h.cell z b1⟩
  go_region_held3 (fun w' => Held W w' ∧ w'.cell? ⟨w.heap.size, 0, none⟩ = some (.int .i64 a) ∧ w'.cell? ⟨w.heap.size, 1, none⟩ = some (.int .i64 b) ∧ w'.cell? ⟨w.heap.size + 1, 0, none⟩ = some (.int .i64 c) ∧ w'.cell? ⟨w.heap.size + 1, 1, none⟩ = some (.int .i64 d))
    (first | exact MKW.out _ (held0 _) | exact MKW.out _ (heldC (by assumption) (by assumption)))
    (first
      | (go_at_call 17; refine (toRatio_any _ _ _).mono ?_; rintro e w' ⟨rfl, hb⟩)
      | (go_at_call 28; refine (specCompareRatios_any a b c d _).mono ?_; rintro e w' ⟨rfl, hb⟩))

  rename_i hV
  obtain ⟨V, rfl⟩ : ∃ V, V = w' := ⟨_, rfl⟩
  clear hb
  obtain ⟨gH, a0', a1', b0', b1'⟩ := hV
  clear a0 a1 b0 b1
  have a0 := a0'
  have a1 := a1'
  have b0 := b0'
  have b1 := b1'
  clear a0' a1' b0' b1' MKW
  replace hB : Below w.heap.size w V := hB.trans (Below.mono gH (by omega))
  have zV := Below.size gH
  replace z : w.heap.size + 1 < V.heap.size := by omega
  replace z0 : w.heap.size < V.heap.size := by omega
  clear gH zV
  go_wp2
  have MKV : Hid (∀ w', Held V w' → Held V w' ∧ w'.cell? ⟨w.heap.size, 0, none⟩ = some (.int .i64 a) ∧ w'.cell? ⟨w.heap.size, 1, none⟩ = some (.int .i64 b) ∧ w'.cell? ⟨w.heap.size + 1, 0, none⟩ = some (.int .i64 c) ∧ w'.cell? ⟨w.heap.size + 1, 1, none⟩ = some (.int .i64 d)) :=
    fun w' h => ⟨h, h.cell z0 a0, h.cell z0 a1, h.cell z b0, h.cell z b1⟩
  go_region_held3 (fun w' => Held V w' ∧ w'.cell? ⟨w.heap.size, 0, none⟩ = some (.int .i64 a) ∧ w'.cell? ⟨w.heap.size, 1, none⟩ = some (.int .i64 b) ∧ w'.cell? ⟨w.heap.size + 1, 0, none⟩ = some (.int .i64 c) ∧ w'.cell? ⟨w.heap.size + 1, 1, none⟩ = some (.int .i64 d))
    (first | exact MKV.out _ (held0 _) | exact MKV.out _ (heldC (by assumption) (by assumption)))
    (first
      | (go_at_call 17; refine (toRatio_any _ _ _).mono ?_; rintro e w' ⟨rfl, hb⟩)
      | (go_at_call 29; refine (implCompareRatios_any a b c d _).mono ?_; rintro e w' ⟨rfl, hb⟩))

  rename_i hV
  replace hB : Below w.heap.size w w' := hB.trans (Below.mono hV.1 (by omega))
  clear hV hb a0 a1 b0 b1 MKV z z0
  go_wp2
  go_ret
  exact ⟨rfl, hB⟩

set_option maxHeartbeats 2000000 in
theorem FnExactMakeRatio_walk (a : Int) (_ha : -9223372036854775808 ≤ a ∧ a ≤ 9223372036854775807) (b : Int) (_hb : -9223372036854775808 ≤ b ∧ b ≤ 9223372036854775807) (w : World) :
    Calls Try.prog 6 #[.int .i64 a, .int .i64 b] w fun e w' => e = .returned (.bool true) ∧ Below w.heap.size w w' := by
  clear _ha _hb
  go_enter Try.func6, Try.ntmps6
  go_wp2_with fail
  refine (specMakeRatio_any a b _).mono ?_
  rintro e w1 ⟨rfl, hb⟩
  go_wp2_with fail
  refine (implMakeRatio_any a b _).mono ?_
  rintro e w2 ⟨rfl, hb2⟩
  obtain ⟨hc, hf⟩ := bcell hb2
  have c0 : w2.cell? ⟨w1.heap.size, 0, none⟩ = some (.int .i64 (makR a b).1) := by rw [hc _ _ (by simp)]; simp [go_sem]
  have c1 : w2.cell? ⟨w1.heap.size, 1, none⟩ = some (.int .i64 (makR a b).2.1) := by rw [hc _ _ (by simp)]; simp [go_sem]
  have hz : w1.heap.size < w2.heap.size := by have := hb2.size; simp at this; omega
  have hB : Below w.heap.size w w2 := (hb.alloc hb.size _).trans (hb2.mono (by simp; have := hb.size; omega))
  clear hb hb2 hc hf
  go_wp2_with (go_at_call 21; refine (eqRatio_same _ _ _).mono ?_; rintro e w' ⟨rfl, hb⟩)
  go_ret
  exact ⟨rfl, (hB.alloc hB.size _).trans (hb.mono (by simp; have := hB.size; omega))⟩
end Go.Proofs.Ytpinfnpnfebpoaa
