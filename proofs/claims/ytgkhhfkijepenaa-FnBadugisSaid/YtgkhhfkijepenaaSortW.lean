/-
  slices.Sort and slices.Reverse at a list of the call's own.
-/
import Derived.Test.YtgkhhfkijepenaaLaid
import Derived.Test.YtgkhhfkijepenaaOwn
import Derived.Test.YtgkhhfkijepenaaMathSort
import Derived.Sort.OwnSortedInts
namespace Go.Proofs.Ytgkhhfkijepenaa
open Go.RowKit Go.Sort

/-- The block of a list of the call's own. -/
theorem own_form {w : World} {lo c g : Nat} {xs : List Int} (h : OwnI w lo (some ⟨g, 0, none⟩) c xs) :
    ∃ cs t, w.heap[g]? = some (.cells cs t (0, 0)) ∧ cs.size = c ∧ cs.toList.take xs.length = xs.map (Value.int .i64) ∧ lo ≤ g ∧ g < w.heap.size ∧ xs.length ≤ c ∧ c ≤ maxLen := by
  rcases h with ⟨h, _⟩ | ⟨g', f, t, e, h1, h2, h3, h4, ⟨cs, hg, hs, hcs⟩, hf⟩
  · cases h
  · cases e
    refine ⟨cs, t, hg, hs, ?_, h1, h2, h3, h4⟩
    apply List.ext_getElem?
    intro k
    rw [List.getElem?_take]
    by_cases hk : k < xs.length
    · rw [if_pos hk]
      have := hcs k (by omega)
      rw [hf k hk] at this
      rw [Array.getElem?_toList, this]
      simp [List.getD_eq_getElem?_getD, hk]
    · rw [if_neg hk]
      symm
      rw [List.getElem?_eq_none]
      simp; omega
/-- Written over. -/
theorem own_put {w : World} {lo c g n : Nat} {xs ts : List Int} {os : Array Obj} (h : OwnI w lo (some ⟨g, 0, none⟩) c xs) (hl : ts.length = xs.length) :
    OwnI (grow (putRow (Value.int .i64) (Sort.ahead w n) g 0 ts.toArray) os) lo (some ⟨g, 0, none⟩) c ts := by
  obtain ⟨cs, t, hg, hs, ht, h1, h2, h3, h4⟩ := own_form h
  have hb := heap_sortedI (n := n) (os := os) ts.toArray hg
  have hsz : (putCells (Value.int .i64) 0 ts.toArray cs).size = c := by simp [putCells, hs]
  have htk := take_putCellsI cs ts (by omega)
  refine .inr ⟨g, fun i => ((putCells (Value.int .i64) 0 ts.toArray cs)[i]?).getD undef, t, rfl, h1, (Array.getElem?_eq_some_iff.1 hb).1, by omega, h4, ⟨_, hb, hsz, fun i hi => ?_⟩, fun k hk => ?_⟩
  · have : i < (putCells (Value.int .i64) 0 ts.toArray cs).size := by omega
    simp only [Array.getElem?_eq_getElem this, Option.getD_some]
  · have h5 : ((putCells (Value.int .i64) 0 ts.toArray cs).toList.take ts.length)[k]? = (ts.map (Value.int .i64))[k]? := by rw [htk]
    rw [List.getElem?_take, if_pos hk, Array.getElem?_toList] at h5
    show ((putCells (Value.int .i64) 0 ts.toArray cs)[k]?).getD undef = _
    rw [h5]
    simp [List.getD_eq_getElem?_getD, hk]
theorem own_some {w : World} {lo c : Nat} {A : Option Addr} {xs : List Int} (h : OwnI w lo A c xs) : (A = none ∧ c = 0 ∧ xs = []) ∨ ∃ g, A = some ⟨g, 0, none⟩ := by
  rcases h with h | ⟨g, f, t, e, _⟩
  · exact .inl h
  · exact .inr ⟨g, e⟩

theorem sort_any (lo : Nat) (A : Option Addr) (c : Nat) (xs : List Int) (len : Nat) (w : World) (hlen : len = xs.length) (h : OwnI w lo A c xs) (hl : xs.length ≤ 1048576) :
    Calls Try.prog 44 #[.slice A len c] w fun e w' => e = .returned (.tuple #[]) ∧ OwnI w' lo A c (sortS xs) ∧ w.grownBy w' (A.map (·.block)) := by
  subst hlen
  rcases own_some h with ⟨rfl, rfl, rfl⟩ | ⟨g, rfl⟩
  · have hc := AnyM.slices_Sort_int_none Try.sortI none 0 w
    change Calls Try.prog 44 _ _ _ at hc
    refine hc.mono ?_
    rintro e w' ⟨rfl, rfl⟩
    exact ⟨rfl, h, World.grownBy.refl _ _⟩
  · obtain ⟨cs, t, hg, hs, ht, h1, h2, h3, h4⟩ := own_form h
    have hc := AnyM.slices_Sort_int Try.sortI g 0 c xs w (holds_of_blockI hg ht) h2 (by omega)
    change Calls Try.prog 44 _ _ _ at hc
    refine hc.mono ?_
    rintro e w' ⟨rfl, n, os, rfl⟩
    rw [← sortS_eq]
    exact ⟨rfl, own_put h (sortS_length xs), grownBy_sortedI _⟩

theorem rev_any (lo : Nat) (A : Option Addr) (c : Nat) (xs : List Int) (len : Nat) (w : World) (hlen : len = xs.length) (h : OwnI w lo A c xs) (hl : xs.length ≤ 1048576) :
    Calls Try.prog 45 #[.slice A len c] w fun e w' => e = .returned (.tuple #[]) ∧ OwnI w' lo A c xs.reverse ∧ w.grownBy w' (A.map (·.block)) := by
  subst hlen
  rcases own_some h with ⟨rfl, rfl, rfl⟩ | ⟨g, rfl⟩
  · have hc := AnyG.slices_Reverse_int_empty Try.revI none 0 w
    change Calls Try.prog 45 _ _ _ at hc
    refine hc.mono ?_
    rintro e w' ⟨rfl, rfl⟩
    exact ⟨rfl, h, World.grownBy.refl _ _⟩
  · obtain ⟨cs, t, hg, hs, ht, h1, h2, h3, h4⟩ := own_form h
    have hc := AnyG.slices_Reverse_int Try.revI g 0 c xs w (holds_of_blockI hg ht) (by omega)
    change Calls Try.prog 45 _ _ _ at hc
    refine hc.mono ?_
    rintro e w' ⟨rfl, n, rfl⟩
    have e1 : putRow (Value.int .i64) (Sort.ahead w n) g 0 xs.reverse.toArray = grow (putRow (Value.int .i64) (Sort.ahead w n) g 0 xs.reverse.toArray) #[] := (grow_empty _).symm
    rw [e1]
    exact ⟨rfl, own_put h (by simp), grownBy_sortedI _⟩
end Go.Proofs.Ytgkhhfkijepenaa
