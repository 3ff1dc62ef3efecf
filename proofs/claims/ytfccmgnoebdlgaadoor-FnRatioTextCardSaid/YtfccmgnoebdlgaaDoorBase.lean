/-
  Small lemmas for the walks of every layer: endings, worlds, regions that only read.
-/
import Derived.WalkKit
import Derived.WalkSpells
import Derived.WalkLawsBesides
import Derived.Lib.Hide
import Derived.Deep.QuietTactic
import Derived.BigQuiet
import Derived.Deep.RegionHeld3
import Derived.RowKit3
namespace Go.Proofs.YtfccmgnoebdlgaaDoor
open Go.RowKit

theorem ret_int {k : IntKind} {a b : Int} (h : a = b) : Ending.returned (.int k a) = .returned (.int k b) := by rw [h]
theorem ret_bool {a b : Bool} (h : a = b) : Ending.returned (.bool a) = .returned (.bool b) := by rw [h]
theorem ret_two {a b : Value} {c d : Value} (h : a = c) (h' : b = d) : Ending.returned (.tuple #[a, b]) = .returned (.tuple #[c, d]) := by rw [h, h']
theorem int_eq {k : IntKind} {a b : Int} (h : a = b) : Value.int k a = .int k b := by rw [h]

/-- One call of a leaf in a region that only reads. -/
theorem quiet_left {P : Program} {f : FuncId} {args : Array Value} {w : World} {n : Nat} {v : Value}
    (h : Calls P f args (w.drewN n) fun e w' => e = .returned v ∧ w.drewN n = w') : Calls P f args (w.drewN n) fun e w'' => e = .returned v ∧ ∃ m, w'' = w.drewN m :=
  h.mono fun _ _ ⟨he, hm⟩ => ⟨he, n, hm.symm⟩
theorem quiet_add {P : Program} {f : FuncId} {args : Array Value} {w : World} {a n : Nat} {v : Value}
    (h : Calls P f args (w.drewN (a + n)) fun e w' => e = .returned v ∧ ∃ m, w' = (w.drewN (a + n)).drewN m) :
    Calls P f args (w.drewN (a + n)) fun e w'' => e = .returned v ∧ ∃ m, w'' = w.drewN (a + m) :=
  h.mono fun _ _ ⟨he, m, hm⟩ => ⟨he, n + m, by rw [hm, World.drewN_drewN, Nat.add_assoc]⟩
theorem quiet_add_left {P : Program} {f : FuncId} {args : Array Value} {w : World} {a n : Nat} {v : Value}
    (h : Calls P f args (w.drewN (a + n)) fun e w' => e = .returned v ∧ w.drewN (a + n) = w') :
    Calls P f args (w.drewN (a + n)) fun e w'' => e = .returned v ∧ ∃ m, w'' = w.drewN (a + m) :=
  h.mono fun _ _ ⟨he, hm⟩ => ⟨he, n, hm.symm⟩

theorem bcell {W w1 : World} (hb : Below W.heap.size W w1) : (∀ b o, b < W.heap.size → w1.cell? ⟨b, o, none⟩ = W.cell? ⟨b, o, none⟩) ∧ (∀ b o, b < W.heap.size → w1.frozen? ⟨b, o, none⟩ = W.frozen? ⟨b, o, none⟩) :=
  ⟨fun b o h => hb.cell (p := ⟨b, o, none⟩) h, fun b o h => hb.frozen (p := ⟨b, o, none⟩) h⟩
theorem below_drewN {B : Nat} {a w : World} (h : Below B a w) (n : Nat) : Below B a (w.drewN n) := ⟨h.os, h.tape, h.output, h.size, h.block⟩

/-! ### A drawn region that holds calls which make memory: what was there when it began is kept. -/
/-- Nothing below W's own size has changed. -/
def Held (W w' : World) : Prop := Below W.heap.size W w'
theorem Held.cell {W w' : World} (h : Held W w') {b o : Nat} {v : Value} (hb : b < W.heap.size) (hc : W.cell? ⟨b, o, none⟩ = some v) : w'.cell? ⟨b, o, none⟩ = some v :=
  (Below.cell h (p := ⟨b, o, none⟩) hb).trans hc
theorem Held.frozen {W w' : World} (h : Held W w') {b o : Nat} {v : Bool} (hb : b < W.heap.size) (hc : W.frozen? ⟨b, o, none⟩ = v) : w'.frozen? ⟨b, o, none⟩ = v :=
  (Below.frozen h (p := ⟨b, o, none⟩) hb).trans hc
theorem held0 (W : World) : Held W W.drew := (Below.refl _ _).drew
theorem heldA {W w : World} {C : Prop} (h : Held W w ∧ C) (o : Obj) : Held W (w.alloc o) := Below.alloc h.1 (Below.size h.1) o
theorem heldS {W w : World} {C : Prop} (h : Held W w ∧ C) {p : Addr} (hp : W.heap.size ≤ p.block) (v : Value) : Held W (w.setCell p v) := Below.setCell h.1 hp v
theorem heldA2 {W w : World} {C : Prop} {o1 : Obj} (h : Held W (w.alloc o1) ∧ C) (hs : W.heap.size ≤ w.heap.size) (o : Obj) : Held W (w.alloc o) :=
  ⟨h.1.os, h.1.tape, h.1.output, by simp; omega, fun k hk => by
    rw [Below.heap_alloc w o k (by omega), ← Below.heap_alloc w o1 k (by omega)]; exact h.1.block k hk⟩
theorem heldSize {W w w1 : World} {C : Prop} (h : Held W w ∧ C) (hb : Below w.heap.size w w1) : W.heap.size ≤ w1.heap.size :=
  Nat.le_trans (Below.size h.1) hb.size
theorem heldC {W w w1 : World} {C : Prop} (h : Held W w ∧ C) (hb : Below w.heap.size w w1) : Held W w1 := Below.trans h.1 (hb.mono (Below.size h.1))
end Go.Proofs.YtfccmgnoebdlgaaDoor
