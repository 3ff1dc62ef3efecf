/-
  Copies of lists: spec.l01Own and slices.Clone.
-/
import Derived.Test.YtfccmgnoebdlgaaDoorInts
import Derived.Test.YtfccmgnoebdlgaaDoorWords
import Derived.Laws.Rows
import Derived.Laws.Tables
namespace Go.Proofs.YtfccmgnoebdlgaaDoor
open Go.RowKit

theorem RowI.reads {w : World} {A : Option Addr} {xs : List Int} (h : RowI w A xs) : Reads w w.heap.size 1 A xs.length (xs.map (Value.int .i64)) := by
  refine ⟨by simp, fun hn => ?_⟩
  rcases h with h | ⟨b, off, rfl, hb, hc⟩
  · subst h; simp at hn
  · refine ⟨_, rfl, hb, fun j u hu => ?_⟩
    rw [Go.WideShapes.add_plain]
    have hj : j < xs.length := by
      have := (List.getElem?_eq_some_iff.1 hu).1
      simpa using this
    rw [hc j hj]
    simp [hj] at hu
    rw [← hu]
    simp [List.getD_eq_getElem?_getD, hj]
theorem ints_one (xs : List Int) : ∀ u ∈ xs.map (Value.int .i64), u.oneCell' = true := by
  intro u hu
  obtain ⟨n, _, rfl⟩ := List.mem_map.1 hu
  rfl

/-- A cut of a list. -/
theorem RowI.cut {w : World} {A : Option Addr} {xs : List Int} (h : RowI w A xs) {k cap : Nat} (hk : k ≤ xs.length) (hc : xs.length ≤ cap) :
    RowI w (if cap = k then A else A.map (·.add k)) (xs.drop k) := by
  rcases h with h | ⟨b, off, rfl, hb, hcell⟩
  · subst h; exact .inl (by simp)
  · by_cases e : cap = k
    · rw [if_pos e]
      refine .inl ?_
      rw [List.drop_eq_nil_iff]; omega
    · rw [if_neg e]
      refine .inr ⟨b, off + k, by simp [Go.WideShapes.add_plain], hb, fun j hj => ?_⟩
      rw [List.length_drop] at hj
      have := hcell (k + j) (by omega)
      rw [Nat.add_assoc, this]
      simp [List.getD_eq_getElem?_getD, List.getElem?_drop]
theorem OwnI.of_rowIs {w : World} {lo g c : Nat} {t : TypeId} {f : Nat → Value} {ys : List Int} (h1 : lo ≤ g) (h2 : g < w.heap.size) (h3 : ys.length ≤ c) (h4 : c ≤ maxLen) (hr : w.rowIs g t c f) (hf : ∀ j, j < ys.length → f j = .int .i64 (ys.getD j 0)) : OwnI w lo (some ⟨g, 0, none⟩) c ys :=
  .inr ⟨g, f, t, rfl, h1, h2, h3, h4, hr, hf⟩
theorem rowIs_zeros (w : World) (m : Nat) (t : TypeId) (cs : Array Value) (hcs : cs = Array.replicate m (.int .i64 0)) (g : Nat) (hg : w.heap.size = g) : (w.alloc (.cells cs t)).rowIs g t m (fun _ => .int .i64 0) := by
  subst hg hcs
  refine ⟨_, heap_alloc_new _ _, by simp, fun i hi => by simp [hi]⟩
theorem below_setRow {B g : Nat} {a w : World} (h : Below B a w) (hg : B ≤ g) (cs : Array Value) : Below B a (w.setRow g cs) :=
  ⟨h.os, h.tape, h.output, by have := h.size; simp [World.setRow]; exact this, fun k hk => by rw [setRow_other _ _ _ _ (by omega)]; exact h.block k hk⟩
end Go.Proofs.YtfccmgnoebdlgaaDoor
