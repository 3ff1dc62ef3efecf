/-
  The text of a ratio in the reference and in the program (2).
-/
import Derived.Test.YtfccmgnoebdlgaaDoorRatText
import Derived.Lib.LaidTab
import Derived.Lib.AppendIntMem
namespace Go.Proofs.YtfccmgnoebdlgaaDoor
open Go.RowKit

/-- The table of the powers of ten lies where it lay. -/
def Tab (w : World) : Prop := Lib.TabIs Tryd.prog w "internal/strconv.uint64pow10" .u64 Lib.pow10Tab
theorem Tab.below {w w' : World} (h : Tab w) (hb : Below w.heap.size w w') : Tab w' := by
  have hg : Tryd.prog.globalNamed "internal/strconv.uint64pow10" = some 3 := by kernel_rfl
  have hc := h.cell hg 0 (by decide)
  have hlt : 3 < w.heap.size := by
    by_cases h' : 3 < w.heap.size
    · exact h'
    · simp [World.cell?, Array.getElem?_eq_none (Nat.le_of_not_lt h')] at hc
  unfold Tab Lib.TabIs World.var? at h ⊢
  rw [hg] at h ⊢
  simp only [Option.bind_some] at h ⊢
  rw [hb.block _ hlt]
  exact h
theorem itoa_len {n : Int} (h1 : -9223372036854775808 ≤ n) (h2 : n ≤ 9223372036854775807) : (bytesOf (Lib.itoa n)).size ≤ 21 := by
  rw [bytesOf_size]; exact Lib.itoa_length_le n h1 h2

theorem decimal_any (n : Int) (w : World) (h1 : -9223372036854775808 ≤ n) (h2 : n ≤ 9223372036854775807) (ht : Tab w) :
    Calls Tryd.prog 29 #[.int .i64 n] w fun e w' => e = .returned (.string (bytesOf (Lib.itoa n))) ∧ Below w.heap.size w w' := by
  have HT := Lib.hid ht
  clear ht
  go_enter Tryd.func29, Tryd.ntmps29
  go_wp2_with fail
  refine (Tryd.strconv_FormatInt_10 n h1 h2 _ HT.out).mono ?_
  rintro e w1 ⟨rfl, k, os, rfl⟩
  obtain ⟨T, hT⟩ : ∃ T : ByteArray, T = ⟨(Lib.itoa n).toArray⟩ := ⟨_, rfl⟩
  rw [← hT]
  have R := Lib.hid hT
  clear hT
  go_wp2
  go_ret
  exact ⟨by rw [R.out]; rfl, Lib.below_grow _ _ (Nat.le_refl _) _ _⟩

theorem l01Number_any (n : Int) (w : World) (h1 : -100000000000000000 ≤ n) (h2 : n ≤ 100000000000000000) :
    Calls Tryd.prog 40 #[.int .i64 n] w fun e w' => e = .returned (.string (bytesOf (Lib.itoa n))) ∧ Below w.heap.size w w' := by
  by_cases h0 : n < 0
  · obtain ⟨u, hu⟩ := Int.eq_ofNat_of_zero_le (show 0 ≤ -n by omega)
    have e1 : IntKind.i64.wrap (-n) = (u : Int) := by rw [hu]; exact IntWalk.i64_in _ (by omega)
    obtain ⟨T, hT⟩ : ∃ T, T = bytesOf (Lib.decDigits u) := ⟨_, rfl⟩
    have C := Lib.hid (fun W : World => l01Dec_any (u + 1) u W (by omega) (by omega))
    rw [← hT] at C
    have ts : T.size ≤ 100 := by rw [hT, bytesOf_size]; have := decDigits_len 17 u (by omega); omega
    have Z1 : ¬ (9223372036854775807 < 1 + T.size) := by omega
    have R : Hid (bytesOf (Lib.itoa n) = bytesOf [45] ++ T) := by
      show _ = _
      rw [hT, bytesOf_append, show n = -(u : Int) by omega, Lib.itoa_neg u (by omega)]; rfl
    clear hT ts hu h1 h2
    go_enter Tryd.func40, Tryd.ntmps40
    go_wp2_with fail
    refine (C.out _).mono ?_
    rintro e w1 ⟨rfl, hb⟩
    have B1 := Lib.hid hb
    clear hb
    go_wp2
    go_ret
    exact ⟨by rw [R.out]; rfl, B1.out⟩
  · obtain ⟨u, rfl⟩ := Int.eq_ofNat_of_zero_le (show 0 ≤ n by omega)
    have C := Lib.hid (fun W : World => l01Dec_any (u + 1) u W (by omega) (by omega))
    rw [← Lib.itoa_nonneg] at C
    obtain ⟨T, hT⟩ : ∃ T, T = bytesOf (Lib.itoa (u : Int)) := ⟨_, rfl⟩
    rw [← hT] at C ⊢
    clear hT h1 h2
    go_enter Tryd.func40, Tryd.ntmps40
    go_wp2_with fail
    refine (C.out _).mono ?_
    rintro e w1 ⟨rfl, hb⟩
    have B1 := Lib.hid hb
    clear hb
    go_wp2
    go_ret
    exact ⟨rfl, B1.out⟩
end Go.Proofs.YtfccmgnoebdlgaaDoor
