/-
  The walk of the law FnExactRatioText.
-/
import Derived.Test.YtfccmgnoebdlgaaDoorRatText3
import Derived.Test.YtfccmgnoebdlgaaDoorRatLaws
namespace Go.Proofs.YtfccmgnoebdlgaaDoor
open Go.RowKit

set_option maxHeartbeats 1000000 in
theorem FnExactRatioText_walk (a b : Int) (w : World) (ht : Tab w) :
    Calls Tryd.prog 5 #[.agg #[.int .i64 a, .int .i64 b]] w fun e w' => e = .returned (.bool true) ∧ Below w.heap.size w w' := by
  have HT := Lib.hid ht
  clear ht
  go_enter Tryd.func5, Tryd.ntmps5
  go_wp2_with fail
  refine (toRatio_any a b _).mono ?_
  rintro e w1 ⟨rfl, hb⟩
  have Q1 := Lib.hid (RW.start w a b 39 (((Below.refl _ w).alloc (Nat.le_refl _) _).trans (hb.mono (by simp))) hb)
  obtain ⟨c0, c1⟩ : w1.cell? ⟨w.heap.size, 0, none⟩ = some (.int .i64 a) ∧ w1.cell? ⟨w.heap.size, 1, none⟩ = some (.int .i64 b) := Q1.out.2.2
  clear hb
  go_wp2_with fail
  refine (specRatioText_any a b _).mono ?_
  rintro e w2 ⟨rfl, hb⟩
  have Q2 := Lib.hid (Q1.out.below hb)
  obtain ⟨d0, d1⟩ : w2.cell? ⟨w.heap.size, 0, none⟩ = some (.int .i64 a) ∧ w2.cell? ⟨w.heap.size, 1, none⟩ = some (.int .i64 b) := Q2.out.2.2
  clear hb c0 c1 Q1
  go_wp2_with fail
  refine (toRatio_any a b _).mono ?_
  rintro e w3 ⟨rfl, hb⟩
  have B3 := Lib.hid (Q2.out.1.trans (hb.mono Q2.out.1.size))
  clear hb d0 d1 Q2
  go_wp2_with fail
  refine (implRatioText_any a b _ (HT.out.below B3.out)).mono ?_
  rintro e w4 ⟨rfl, hb⟩
  have B4 := Lib.hid (B3.out.trans (hb.mono B3.out.size))
  obtain ⟨T, hT⟩ : ∃ T, T = bytesOf (ratT a b) := ⟨_, rfl⟩
  rw [← hT]
  clear hb hT
  go_wp2
  go_ret
  exact ⟨rfl, B4.out⟩
end Go.Proofs.YtfccmgnoebdlgaaDoor
