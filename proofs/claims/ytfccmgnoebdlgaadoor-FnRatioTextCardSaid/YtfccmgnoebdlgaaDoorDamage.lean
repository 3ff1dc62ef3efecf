/-
  A text that is changed slightly, sometimes.
-/
import Derived.Test.YtfccmgnoebdlgaaDoorDrawFrom
import Derived.Test.YtfccmgnoebdlgaaDoorOwn
import Derived.Deep.RegionLaw
namespace Go.Proofs.YtfccmgnoebdlgaaDoor
open Go.RowKit

/-- A text that was drawn. -/
def DrawS (g m : Nat) (w : World) (e : Ending) (w' : World) : Prop := ∃ s : ByteArray, e = .returned (.string s) ∧ s.size ≤ m ∧ Src w' g ∧ Kept g w w'

def bits8 : List ByteArray := [⟨#[48]⟩, ⟨#[35]⟩, ⟨#[46]⟩, ⟨#[47]⟩, ⟨#[32]⟩, ⟨#[97]⟩, ⟨#[45]⟩, ⟨#[10]⟩]
theorem bits8_at (y : Nat) (hy : y < 8) : ∃ sx : ByteArray, sx.size = 1 ∧ ∀ W : World, (W.alloc (.cells #[.string ⟨#[48]⟩, .string ⟨#[35]⟩, .string ⟨#[46]⟩, .string ⟨#[47]⟩, .string ⟨#[32]⟩, .string ⟨#[97]⟩, .string ⟨#[45]⟩, .string ⟨#[10]⟩] 9)).cell? ⟨W.heap.size, y, none⟩ = some (.string sx) := by
  refine ⟨bits8.getD y ⟨#[]⟩, ?_, fun W => ?_⟩
  · have : ∀ y : Fin 8, (bits8.getD y.val ⟨#[]⟩).size = 1 := by decide
    exact this ⟨y, hy⟩
  · have h := World.rowIs_alloc W #[.string ⟨#[48]⟩, .string ⟨#[35]⟩, .string ⟨#[46]⟩, .string ⟨#[47]⟩, .string ⟨#[32]⟩, .string ⟨#[97]⟩, .string ⟨#[45]⟩, .string ⟨#[10]⟩] 9 (fun i => Value.string (bits8.getD i ⟨#[]⟩)) (fun i hi => by
      have hi' : i < 8 := hi
      have : i = 0 ∨ i = 1 ∨ i = 2 ∨ i = 3 ∨ i = 4 ∨ i = 5 ∨ i = 6 ∨ i = 7 := by omega
      rcases this with rfl | rfl | rfl | rfl | rfl | rfl | rfl | rfl <;> rfl)
    exact h.cell (i := y) hy
theorem next8_A (g : Nat) (w2 : World) (h : Src w2 g) (k m : Nat) (hkm : k ≤ 1000 ∧ m ≤ 1000) : Calls Tryd.prog 30 #[.pointer (some ⟨g, 0, none⟩), .int .i64 8] ((w2.alloc (.cells #[.string ⟨#[48]⟩, .string ⟨#[35]⟩, .string ⟨#[46]⟩, .string ⟨#[47]⟩, .string ⟨#[32]⟩, .string ⟨#[97]⟩, .string ⟨#[45]⟩, .string ⟨#[10]⟩] 9)).drew) fun e w' =>
    ∃ (y : Nat) (sx : ByteArray), e = .returned (.int .i64 y) ∧ (y : Int) < 8 ∧ ¬ (9223372036854775807 < k + sx.size) ∧ ¬ (9223372036854775807 < k + sx.size + (m - k)) ∧ Hid (sx.size = 1) ∧ w'.cell? ⟨w2.heap.size, y, none⟩ = some (.string sx) ∧ Hid (Src w' g ∧ Kept g w2 w') := by
  refine (l01Next_any g 8 _ (h.below' ((Below.refl _ _).alloc (Nat.le_refl _) (.cells #[.string ⟨#[48]⟩, .string ⟨#[35]⟩, .string ⟨#[46]⟩, .string ⟨#[47]⟩, .string ⟨#[32]⟩, .string ⟨#[97]⟩, .string ⟨#[45]⟩, .string ⟨#[10]⟩] 9)).drew)).mono ?_
  rintro e w3 ⟨y, rfl, y0, y1, hs, hk, hz⟩
  obtain ⟨y, rfl⟩ := Int.eq_ofNat_of_zero_le y0
  obtain ⟨sx, sx1, hsx⟩ := bits8_at y (by omega)
  have GL := h.lt
  exact ⟨y, sx, rfl, by omega, by omega, by omega, sx1, (hk.cell (p := ⟨w2.heap.size, y, none⟩) (by simp) (by simp; omega)).trans (hsx w2), hs, (((Kept.refl g w2).alloc _).drewN 1).trans hk⟩
theorem next8_B (g : Nat) (w2 : World) (h : Src w2 g) (k m : Nat) (hkm : k ≤ 1000 ∧ m ≤ 1000) : Calls Tryd.prog 30 #[.pointer (some ⟨g, 0, none⟩), .int .i64 8] w2.drew fun e w' =>
    ∃ (y : Nat) (sx : ByteArray), e = .returned (.int .i64 y) ∧ (y : Int) < 8 ∧ ¬ (9223372036854775807 < k + sx.size) ∧ ¬ (9223372036854775807 < k + sx.size + (m - k)) ∧ Hid (sx.size = 1) ∧ (w'.alloc (.cells #[.string ⟨#[48]⟩, .string ⟨#[35]⟩, .string ⟨#[46]⟩, .string ⟨#[47]⟩, .string ⟨#[32]⟩, .string ⟨#[97]⟩, .string ⟨#[45]⟩, .string ⟨#[10]⟩] 9)).cell? ⟨w'.heap.size, y, none⟩ = some (.string sx) ∧ Hid (Src (w'.alloc (.cells #[.string ⟨#[48]⟩, .string ⟨#[35]⟩, .string ⟨#[46]⟩, .string ⟨#[47]⟩, .string ⟨#[32]⟩, .string ⟨#[97]⟩, .string ⟨#[45]⟩, .string ⟨#[10]⟩] 9)) g ∧ Kept g w2 (w'.alloc (.cells #[.string ⟨#[48]⟩, .string ⟨#[35]⟩, .string ⟨#[46]⟩, .string ⟨#[47]⟩, .string ⟨#[32]⟩, .string ⟨#[97]⟩, .string ⟨#[45]⟩, .string ⟨#[10]⟩] 9))) := by
  refine (l01Next_any g 8 _ (h.below' (Below.refl _ w2).drew)).mono ?_
  rintro e w3 ⟨y, rfl, y0, y1, hs, hk, hz⟩
  obtain ⟨y, rfl⟩ := Int.eq_ofNat_of_zero_le y0
  obtain ⟨sx, sx1, hsx⟩ := bits8_at y (by omega)
  exact ⟨y, sx, rfl, by omega, by omega, by omega, sx1, hsx w3, hs.below' ((Below.refl _ _).alloc (Nat.le_refl _) _), (((Kept.refl g w2).drewN 1).trans hk).alloc _⟩
set_option maxHeartbeats 4000000 in
set_option maxRecDepth 8000 in
theorem l01Damage_any (g : Nat) (t : ByteArray) (w : World) (h : Src w g) (ht : t.size ≤ 1000) : Calls Tryd.prog 31 #[.pointer (some ⟨g, 0, none⟩), .string t] w (DrawS g (t.size + 1) w) := by
  have HS := Lib.hid h
  clear h
  go_enter Tryd.func31, Tryd.ntmps31
  go_wp2_with fail
  refine (l01Next_any g ((t.size : Int) + 1) _ HS.out).mono ?_
  rintro e w1 ⟨k, rfl, k0, k1, hs, hk, hz⟩
  obtain ⟨k, rfl⟩ := Int.eq_ofNat_of_zero_le k0
  have kt : k ≤ t.size := by omega
  have S1 := Lib.hid hs
  have K1 := Lib.hid hk
  clear hs hk hz k1 k0
  go_wp2_with fail
  refine (l01Next_any g 8 _ S1.out).mono ?_
  rintro e w2 ⟨x, rfl, x0, x1, hs, hk, hz⟩
  have S2 := Lib.hid hs
  have K2 := Lib.hid (K1.out.trans hk)
  have j0 : (0 : Int) ≤ (k : Int) := by omega
  have j1 : (k : Int) ≤ (t.size : Int) := by omega
  clear hs hk hz x1
  by_cases e0 : x = 0
  · subst e0
    go_wp2
    go_ret
    exact ⟨t.extract 0 k, rfl, by rw [ByteArray.size_extract]; omega, S2.out, K2.out⟩
  · have b0 : (x == 0) = false := by simpa using e0
    by_cases e1 : x = 1
    · subst e1
      clear e0 b0 x0
      have CA := Lib.hid (next8_A g w2 S2.out k t.size ⟨by omega, by omega⟩)
      have CB := Lib.hid (next8_B g w2 S2.out k t.size ⟨by omega, by omega⟩)
      go_wp2
      go_region_law (first
        | (go_simp; go_at_call 30; refine CA.out.mono ?_; rintro e w3 ⟨y, sx, rfl, y9, z1, z2, SX, hcx, EE⟩)
        | (go_simp; go_at_call 30; refine CB.out.mono ?_; rintro e w3 ⟨y, sx, rfl, y9, z1, z2, SX, hcx, EE⟩))
      all_goals
        go_wp2
        go_ret
        refine ⟨_, rfl, ?_, EE.out.1, K2.out.trans EE.out.2⟩
        have := SX.out
        simp only [ByteArray.size_append, ByteArray.size_extract]
        omega
    · have b1 : (x == 1) = false := by simpa using e1
      by_cases e2 : x = 2
      · subst e2
        clear e0 b0 x0 e1 b1
        by_cases hkt : k < t.size
        · have i1 : IntKind.i64.wrap ((k : Int) + 1) = (k : Int) + 1 := IntWalk.i64_in _ (by omega)
          have i2 : ((k : Int) + 1).toNat = k + 1 := by omega
          have i3 : (k : Int) + 1 ≤ (t.size : Int) := by omega
          have i4 : (0 : Int) ≤ (k : Int) + 1 := by omega
          go_wp2
          go_quiet (fail)
          go_wp2
          go_ret
          refine ⟨_, rfl, ?_, S2.out.drewN _, K2.out.trans (Kept.of_below (below_drewN (Below.refl _ _) _))⟩
          simp only [ByteArray.size_append, ByteArray.size_extract]
          omega
        · go_wp2
          go_ret
          exact ⟨t, rfl, by omega, S2.out, K2.out⟩
      · have b2 : (x == 2) = false := by simpa using e2
        go_wp2
        go_ret
        exact ⟨t, rfl, by omega, S2.out, K2.out⟩
end Go.Proofs.YtfccmgnoebdlgaaDoor
