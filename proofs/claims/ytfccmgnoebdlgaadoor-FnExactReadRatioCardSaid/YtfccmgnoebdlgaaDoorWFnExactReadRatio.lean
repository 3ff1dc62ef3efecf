/-
  The walk of the law FnExactReadRatio.
-/
import Derived.Test.YtfccmgnoebdlgaaDoorRatRead5
import Derived.Test.YtfccmgnoebdlgaaDoorRatLaws
namespace Go.Proofs.YtfccmgnoebdlgaaDoor
open Go.RowKit

set_option maxHeartbeats 2000000 in
theorem FnExactReadRatio_walk (s : ByteArray) (w : World) (hr : Rd w) :
    Calls Tryd.prog 3 #[.string s] w fun e w' => e = .returned (.bool true) ∧ Below w.heap.size w w' := by
  have HR := Lib.hid hr
  clear hr
  by_cases hs : 1048576 < s.size
  · have h1 : 1048576 < (s.size : Int) := by omega
    go_enter Tryd.func3, Tryd.ntmps3
    go_wp2
    go_ret
    exact ⟨rfl, Below.refl _ _⟩
  have h1 : ¬ (1048576 < (s.size : Int)) := by omega
  have hs2 : s.size ≤ 1048576 := by omega
  clear hs
  go_enter Tryd.func3, Tryd.ntmps3
  go_wp2_with fail
  refine (specReadRatio_any s _ hs2).mono ?_
  rintro e w1 ⟨n, d, b, rfl, hg, hb⟩
  have G1 := Lib.hid hg
  have B1 := Lib.hid hb
  have A1 := Lib.hid (box2 w1 (.int .i64 n) (.int .i64 d) 23)
  clear hg hb
  go_wp2_with fail
  refine (implReadRatio_any s _ hs2 (HR.out.below (B1.out.alloc B1.out.size _))).mono ?_
  rintro e w2 ⟨m, q, c, rfl, hg, hb⟩
  obtain ⟨e1, e2, e3⟩ := G1.out.same hg
  subst e1 e2 e3
  have lt : w1.heap.size < (w1.alloc (.cells #[.int .i64 n, .int .i64 d] 23)).heap.size := by simp
  have B2 := Lib.hid ((B1.out.alloc B1.out.size (.cells #[.int .i64 n, .int .i64 d] 23)).trans (hb.mono (by have := B1.out.size; omega)))
  have lt2 : w1.heap.size < w2.heap.size := Nat.lt_of_lt_of_le lt hb.size
  have AL : Below w2.heap.size w2 (w2.alloc (.cells #[.int .i64 n, .int .i64 d] 23)) := (Below.refl _ _).alloc (Nat.le_refl _) _
  have c0 : (w2.alloc (.cells #[.int .i64 n, .int .i64 d] 23)).cell? ⟨w1.heap.size, 0, none⟩ = some (.int .i64 n) := (AL.cell (p := ⟨w1.heap.size, 0, none⟩) lt2).trans ((hb.cell (p := ⟨w1.heap.size, 0, none⟩) lt).trans A1.out.1)
  have c1 : (w2.alloc (.cells #[.int .i64 n, .int .i64 d] 23)).cell? ⟨w1.heap.size, 1, none⟩ = some (.int .i64 d) := (AL.cell (p := ⟨w1.heap.size, 1, none⟩) lt2).trans ((hb.cell (p := ⟨w1.heap.size, 1, none⟩) lt).trans A1.out.2)
  clear hg hb lt lt2 AL A1
  go_wp2_with fail
  refine (eqRatio_same n d _).mono ?_
  rintro e w3 ⟨rfl, hb⟩
  have B3 := Lib.hid ((B2.out.alloc B2.out.size _).trans (hb.mono (by have := B2.out.size; simp; omega)))
  clear hb c0 c1
  go_wp2
  go_ret
  exact ⟨rfl, B3.out⟩
end Go.Proofs.YtfccmgnoebdlgaaDoor
