/-
  The walks of the laws on single functions of layer 1.
-/
import Derived.Test.YtfccmgnoebdlgaaDoorRatDiv
import Derived.Test.YtfccmgnoebdlgaaDoorRatMisc2
import Derived.Test.YtfccmgnoebdlgaaDoorOpen
namespace Go.Proofs.YtfccmgnoebdlgaaDoor
open Go.RowKit

theorem toRatio_any (a b : Int) (w : World) :
    Calls Tryd.prog 21 #[.agg #[.int .i64 a, .int .i64 b]] w fun e w' => e = .returned (.agg #[.int .i64 a, .int .i64 b]) ∧ Below w.heap.size w w' := by
  go_enter Tryd.func21, Tryd.ntmps21
  go_wp2
  exact bodyPost_ret (v := .agg #[.int .i64 a, .int .i64 b]) (by simp [results, Tryd.results21, go_sem]) rfl ⟨rfl, (((Below.refl _ _).alloc (Nat.le_refl _) _).alloc (by simp) _).alloc (by simp <;> omega) _⟩

theorem eqRatio_same (a b : Int) (w : World) :
    Calls Tryd.prog 8 #[.agg #[.int .i64 a, .int .i64 b], .agg #[.int .i64 a, .int .i64 b]] w fun e w' => e = .returned (.bool true) ∧ Below w.heap.size w w' := by
  go_enter Tryd.func8, Tryd.ntmps8
  go_wp2
  go_ret
  exact ⟨rfl, ((Below.refl _ _).alloc (Nat.le_refl _) _).alloc (by simp) _⟩

theorem heldS2 {W w : World} {C : Prop} (h : Held W w ∧ C) {p q : Addr} (hp : W.heap.size ≤ p.block) (hq : W.heap.size ≤ q.block) (u v : Value) : Held W ((w.setCell p u).setCell q v) :=
  Below.setCell (Below.setCell h.1 hp u) hq v
theorem belowLt {w w1 : World} (hb : Below w.heap.size w w1) : ∀ g, g < w.heap.size → g < w1.heap.size := fun _ h => Nat.lt_of_lt_of_le h hb.size
theorem belowLt2 {w w1 : World} (hb : Below w.heap.size w w1) {a : Nat} (h : ∀ g, g < a → g < w.heap.size) : ∀ g, g < a → g < w1.heap.size := fun g k => belowLt hb g (h g k)
theorem two_set0 {w : World} {g : Nat} {x y u : Value} (h : w.cell? ⟨g, 0, none⟩ = some u) : ((w.setCell ⟨g, 0, none⟩ x).setCell ⟨g, 1, none⟩ y).cell? ⟨g, 0, none⟩ = some x := by
  rw [World.cell?_setCell_other _ _ _ _ (by simp)]
  exact World.cell?_setCell_same _ _ _ h
theorem two_set1 {w : World} {g : Nat} {x y u : Value} (h : w.cell? ⟨g, 1, none⟩ = some u) : ((w.setCell ⟨g, 0, none⟩ x).setCell ⟨g, 1, none⟩ y).cell? ⟨g, 1, none⟩ = some y :=
  World.cell?_setCell_same _ _ _ (u := u) (by rw [World.cell?_setCell_other _ _ _ _ (by simp)]; exact h)
theorem size_set2 {w : World} {g n : Nat} {p q : Addr} {x y : Value} (h : g < w.heap.size) (_hn : n = 0) : g < ((w.setCell p x).setCell q y).heap.size := by simpa [World.setCell] using h
/-- Behind a drawn region: a slot points to a new block that holds a ratio, another slot holds a code. -/
def RatAt (W wx : World) (p c : Value) (n d k : Int) : Prop :=
  ∃ g, p = .pointer (some ⟨g, 0, none⟩) ∧ c = .int .i64 k ∧ wx.cell? ⟨g, 0, none⟩ = some (.int .i64 n) ∧ wx.cell? ⟨g, 1, none⟩ = some (.int .i64 d) ∧ W.heap.size ≤ g ∧ g < wx.heap.size ∧ Held W wx

end Go.Proofs.YtfccmgnoebdlgaaDoor
