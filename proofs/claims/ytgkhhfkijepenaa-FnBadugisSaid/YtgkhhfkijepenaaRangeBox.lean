/-
  Boxes of captured variables under a range over a function: what a round keeps.
-/
import Derived.Test.YtgkhhfkijepenaaChosen
import Derived.Shelf.RegionOpen
import Derived.RangeFuncBox
namespace Go.Proofs.Ytgkhhfkijepenaa
open Go.RowKit Go.Shelf

theorem keep_lt {T : TypeId} {B : Nat} {W W' : World} {row : Option Nat} (hg : W.grownBy W' row) (hr : Free T B W row) {k : Nat} (hk : k < B) (hB : B ≤ W.heap.size) : W'.heap[k]? = W.heap[k]? :=
  hg.block k (by omega) (fun e => by have := (hr k e.symm).1; omega)
/-- What a body of a round has kept. -/
theorem kt_below {T : TypeId} {B : Nat} {W W' : World} (h : Below W.heap.size W W') : KeepsFrom B W W' ∧ KeepsT T W W' :=
  ⟨⟨h.size, fun k _ _ hk _ => (h.block k (Array.getElem?_eq_some_iff.1 hk).1).trans hk⟩, KeepsT.of_below h⟩
theorem kt_set {B : Nat} {W : World} {b : Nat} {t : TypeId} {u v : Value} (h : Boxed W b t u) (ht : t ≠ 3) : KeepsFrom B W (W.setCell ⟨b, 0, none⟩ v) ∧ KeepsT 3 W (W.setCell ⟨b, 0, none⟩ v) := by
  refine ⟨(KeepsOthers.setCell W _ v).from B, KeepsT.of_grownBy (grown_set W b 0 v) (fun r cs m' e => ?_)⟩
  cases e
  have h1 : W.heap[b]? = some (.cells #[u] t (0, 0)) := h
  rw [h1]
  intro e
  cases e
  exact ht rfl
theorem kt_trans {T : TypeId} {B : Nat} {A C D : World} (h : KeepsFrom B A C ∧ KeepsT T A C) (k : KeepsFrom B C D ∧ KeepsT T C D) : KeepsFrom B A D ∧ KeepsT T A D := ⟨h.1.trans k.1, h.2.trans k.2⟩
theorem goodC_put (k : Nat) : ∀ x (W : World) (l : Nat) (o o' : Obj), GoodC k x W → W.heap[l]? = some o → o.isCells = false → GoodC k x (W.putObj l o') := by
  rintro ⟨G, c⟩ W l o o' ⟨h1, h2⟩ hl ho
  exact ⟨h1.keep (KeepsT.putObj o' hl ho), h2⟩
theorem bx_isC {W : World} {B : Nat} {n : Int} (h : Boxed W B 3 (.int .i64 n)) : IsC W B 1 (fun _ => n) :=
  ⟨_, h, rfl, fun i hi => by
    have : i = 0 := by omega
    subst this; rfl⟩
theorem bx_under {W W' : World} {B : Nat} {t : TypeId} {v : Value} (h : Boxed W B t v) (hb : Below W.heap.size W W') : Boxed W' B t v := (hb.block B h.lt).trans h
theorem bx_own {W W' : World} {B b : Nat} {t T : TypeId} {v : Value} {row : Option Nat} (h : Boxed W b t v) (hg : W.grownBy W' row) (hr : Free T B W row) (hb : b < B) (hB : B ≤ W.heap.size) : Boxed W' b t v := (keep_lt hg hr hb hB).trans h
theorem bx_drew {W : World} {B : Nat} {t : TypeId} {v : Value} (h : Boxed W B t v) : Boxed W.drew B t v := h
theorem chosen_in {n k G : Nat} {c : List Nat} {pre : List (Nat × List Nat)} (h : ∃ G', pre ++ [(G, c)] <+: chL n k G') : c ∈ idxC n k := by
  obtain ⟨G', h⟩ := h
  have : (G, c) ∈ chL n k G' := h.subset (by simp)
  obtain ⟨c', hc', e⟩ := List.mem_map.1 this
  cases e
  exact hc'
theorem below_own {w W W' : World} {B : Nat} {T : TypeId} {row : Option Nat} (h : Below w.heap.size w W) (hg : W.grownBy W' row) (hr : Free T B W row) (hw : w.heap.size ≤ B) (hB : B ≤ W.heap.size) : Below w.heap.size w W' :=
  ⟨hg.os.trans h.os, hg.tape.trans h.tape, hg.output.trans h.output, Nat.le_trans h.size hg.size, fun k hk => (keep_lt hg hr (by omega) hB).trans (h.block k hk)⟩
end Go.Proofs.Ytgkhhfkijepenaa
