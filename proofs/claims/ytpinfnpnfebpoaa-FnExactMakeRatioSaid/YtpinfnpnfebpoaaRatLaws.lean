/-
  The walks of the laws on single functions of layer 1.
-/
import Derived.Test.YtpinfnpnfebpoaaRatDiv
import Derived.Test.YtpinfnpnfebpoaaRatMisc2
import Derived.Test.YtpinfnpnfebpoaaOpen
namespace Go.Proofs.Ytpinfnpnfebpoaa
open Go.RowKit

theorem FnExactConstants_walk (w : World) :
    Calls Try.prog 3 #[] w fun e w' => e = .returned (.bool true) ∧ Below w.heap.size w w' := by
  go_enter Try.func3, Try.ntmps3
  go_wp2
  go_ret
  exact ⟨rfl, Below.refl _ _⟩

theorem toRatio_any (a b : Int) (w : World) :
    Calls Try.prog 17 #[.agg #[.int .i64 a, .int .i64 b]] w fun e w' => e = .returned (.agg #[.int .i64 a, .int .i64 b]) ∧ Below w.heap.size w w' := by
  go_enter Try.func17, Try.ntmps17
  go_wp2
  exact bodyPost_ret (v := .agg #[.int .i64 a, .int .i64 b]) (by simp [results, Try.results17, go_sem]) rfl ⟨rfl, (((Below.refl _ _).alloc (Nat.le_refl _) _).alloc (by simp) _).alloc (by simp <;> omega) _⟩

theorem eqRatio_same (a b : Int) (w : World) :
    Calls Try.prog 21 #[.agg #[.int .i64 a, .int .i64 b], .agg #[.int .i64 a, .int .i64 b]] w fun e w' => e = .returned (.bool true) ∧ Below w.heap.size w w' := by
  go_enter Try.func21, Try.ntmps21
  go_wp2
  go_ret
  exact ⟨rfl, ((Below.refl _ _).alloc (Nat.le_refl _) _).alloc (by simp) _⟩

theorem heldS2 {W w : World} {C : Prop} (h : Held W w ∧ C) {p q : Addr} (hp : W.heap.size ≤ p.block) (hq : W.heap.size ≤ q.block) (u v : Value) : Held W ((w.setCell p u).setCell q v) :=
  Below.setCell (Below.setCell h.1 hp u) hq v
theorem belowLt {w w1 : World} (hb : Below w.heap.size w w1) : ∀ g, g < w.heap.size → g < w1.heap.size := fun _ h => Nat.lt_of_lt_of_le h hb.size
theorem belowLt2 {w w1 : World} (hb : Below w.heap.size w w1) {a : Nat} (h : ∀ g, g < a → g < w.heap.size) : ∀ g, g < a → g < w1.heap.size := fun g k => belowLt hb g (h g k)
theorem two_set0 {w : World} {g : Nat} {x y u : Value} (h : w.cell? ⟨g, 0, none⟩ = some u) : ((w.setCell ⟨g, 0, none⟩ x).setCell ⟨g, 1, none⟩ y).cell? ⟨g, 0, none⟩ = some x := by
  rw [World.cell?_setCell_other _ _ _ _ (by simp)]
  exact World.cell?_setCell_same _ _ _ h
theorem two_set1 {w : World} {g : Nat} {x y u : Value} (h : w.cell? ⟨g, 1, none⟩ = some u) : ((w.setCell ⟨g, 0, none⟩ x).setCell ⟨g, 1, none⟩ y).cell? ⟨g, 1, none⟩ = some y :=
  World.cell?_setCell_same _ _ _ (u := u) (by rw [World.cell?_setCell_other _ _ _ _ (by simp)]; exact h)
theorem size_set2 {w : World} {g n : Nat} {p q : Addr} {x y : Value} (h : g < w.heap.size) (_hn : n = 0) : g < ((w.setCell p x).setCell q y).heap.size := by simpa [World.setCell] using h
/-- Behind a drawn region: a slot points to a new block that holds a ratio, another slot holds a code. -/
def RatAt (W wx : World) (p c : Value) (n d k : Int) : Prop :=
  ∃ g, p = .pointer (some ⟨g, 0, none⟩) ∧ c = .int .i64 k ∧ wx.cell? ⟨g, 0, none⟩ = some (.int .i64 n) ∧ wx.cell? ⟨g, 1, none⟩ = some (.int .i64 d) ∧ W.heap.size ≤ g ∧ g < wx.heap.size ∧ Held W wx

theorem FnExactGreatestDivisor_walk (a : Int) (_ha : -9223372036854775808 ≤ a ∧ a ≤ 9223372036854775807) (b : Int) (_hb : -9223372036854775808 ≤ b ∧ b ≤ 9223372036854775807) (w : World) :
    Calls Try.prog 4 #[.int .i64 a, .int .i64 b] w fun e w' => e = .returned (.bool true) ∧ Below w.heap.size w w' := by
  clear _ha _hb
  go_enter Try.func4, Try.ntmps4
  go_wp2_with (first | (go_at_call 14; refine (specGreatestDivisor_any a b _).mono ?_; rintro e w' ⟨rfl, n1, rfl⟩) | (go_at_call 15; refine (implGreatestDivisor_any a b _).mono ?_; rintro e w' ⟨rfl, n1, rfl⟩))
  go_ret
  exact ⟨rfl, below_drewN (Below.refl _ _) _⟩

theorem FnExactIsRatio_walk (a b : Int) (_ha : -9223372036854775808 ≤ a ∧ a ≤ 9223372036854775807) (_hb : -9223372036854775808 ≤ b ∧ b ≤ 9223372036854775807) (w : World) :
    Calls Try.prog 5 #[.agg #[.int .i64 a, .int .i64 b]] w fun e w' => e = .returned (.bool true) ∧ Below w.heap.size w w' := by
  clear _ha _hb
  go_enter Try.func5, Try.ntmps5
  go_wp2_with fail
  refine (toRatio_any a b _).mono ?_
  rintro e w1 ⟨rfl, hb1⟩
  have hB1 : Below w.heap.size w w1 := ((Below.refl _ _).alloc (Nat.le_refl _) _).trans (hb1.mono (by simp))
  have c0 : w1.cell? ⟨w.heap.size, 0, none⟩ = some (.int .i64 a) := by rw [(bcell hb1).1 _ _ (by simp)]; simp [go_sem]
  have c1 : w1.cell? ⟨w.heap.size, 1, none⟩ = some (.int .i64 b) := by rw [(bcell hb1).1 _ _ (by simp)]; simp [go_sem]
  have z1 : w.heap.size < w1.heap.size := by have := hb1.size; simp at this; omega
  clear hb1
  go_wp2_with fail
  refine (specIsRatio_any a b _).mono ?_
  rintro e w2 ⟨rfl, hb1⟩
  have hB2 := hB1.trans (hb1.mono (by omega))
  have c0' : w2.cell? ⟨w.heap.size, 0, none⟩ = some (.int .i64 a) := by rw [(bcell hb1).1 _ _ z1]; exact c0
  have c1' : w2.cell? ⟨w.heap.size, 1, none⟩ = some (.int .i64 b) := by rw [(bcell hb1).1 _ _ z1]; exact c1
  clear hb1 c0 c1
  go_wp2_with fail
  refine (toRatio_any a b _).mono ?_
  rintro e w3 ⟨rfl, hb1⟩
  have hB3 := hB2.trans (hb1.mono hB2.size)
  clear hb1 c0' c1'
  go_wp2_with fail
  refine (implIsRatio_any a b _).mono ?_
  rintro e w4 ⟨rfl, hb1⟩
  have hB4 := hB3.trans (hb1.mono hB3.size)
  clear hb1
  go_wp2
  go_ret
  exact ⟨rfl, hB4⟩
end Go.Proofs.Ytpinfnpnfebpoaa
