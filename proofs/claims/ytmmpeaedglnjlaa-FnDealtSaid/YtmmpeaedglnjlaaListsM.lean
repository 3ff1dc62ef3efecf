/-
  Lists of lists whose rows lie apart, in the laws: compared, marked, read again.
-/
import Derived.Test.YtmmpeaedglnjlaaLists
import Derived.Deep.RegionLaw
namespace Go.Proofs.Ytmmpeaedglnjlaa
open Go.RowKit

/-- Where the rows of a list of lists lie, each in a block of its own. -/
def Apart (w : World) (lo b off : Nat) (R : Nat → Option Addr × Nat) (yss : List (List Int)) : Prop :=
  (∀ j, j < yss.length → w.cell? ⟨b, off + j, none⟩ = some (.slice (R j).1 (yss.getD j []).length (R j).2) ∧ OwnI w lo (R j).1 (R j).2 (yss.getD j []) ∧ (R j).1.map (·.block) ≠ some b) ∧
  ∀ i j, i < yss.length → j < yss.length → i ≠ j → ∀ q, (R i).1.map (·.block) = some q → (R j).1.map (·.block) ≠ some q
/-- A list of lists of the call's own whose rows lie apart. -/
def OwnSS (w : World) (lo : Nat) (A : Option Addr) (yss : List (List Int)) : Prop :=
  yss = [] ∨ ∃ b off R, A = some ⟨b, off, none⟩ ∧ b < w.heap.size ∧ Apart w lo b off R yss
theorem Apart.below {w w' : World} {lo b off : Nat} {R : Nat → Option Addr × Nat} {yss : List (List Int)} (h : Apart w lo b off R yss) (hl : b < w.heap.size) (hb : Below w.heap.size w w') : Apart w' lo b off R yss :=
  ⟨fun j hj => ⟨(hb.cell (p := ⟨b, off + j, none⟩) hl).trans (h.1 j hj).1, (h.1 j hj).2.1.below hb, (h.1 j hj).2.2⟩, h.2⟩
theorem OwnSS.below {w w' : World} {lo : Nat} {A : Option Addr} {yss : List (List Int)} (h : OwnSS w lo A yss) (hb : Below w.heap.size w w') : OwnSS w' lo A yss := by
  rcases h with h | ⟨b, off, R, e, hl, hA⟩
  · exact .inl h
  · exact .inr ⟨b, off, R, e, Nat.lt_of_lt_of_le hl hb.size, hA.below hl hb⟩
theorem OwnSS.lists {w : World} {lo : Nat} {A : Option Addr} {yss : List (List Int)} (h : OwnSS w lo A yss) : ListsO w lo A yss := by
  rcases h with h | ⟨b, off, R, e, hl, hA⟩
  · exact .inl h
  · exact .inr ⟨b, off, e, hl, fun j hj => ⟨_, _, (hA.1 j hj).1, (hA.1 j hj).2.1⟩⟩
/-- One row is written anew. -/
theorem Apart.set {w w' : World} {lo b off k : Nat} {R : Nat → Option Addr × Nat} {yss : List (List Int)} {zs : List Int} (h : Apart w lo b off R yss) (hk : k < yss.length) (hb : b < w.heap.size) (hz : zs.length = (yss.getD k []).length)
    (ho : OwnI w' lo (R k).1 (R k).2 zs) (hw : OnlyI w w' (R k).1) : Apart w' lo b off R (yss.set k zs) := by
  refine ⟨fun j hj => ?_, fun i j hi hj => h.2 i j (by simpa using hi) (by simpa using hj)⟩
  rw [List.length_set] at hj
  obtain ⟨h1, h2, h3⟩ := h.1 j hj
  have hc : w'.cell? ⟨b, off + j, none⟩ = w.cell? ⟨b, off + j, none⟩ := World.cell?_of_block (hw.1.block b hb (fun e => (h.1 k hk).2.2 e.symm))
  rw [hc]
  by_cases e : j = k
  · subst e
    have e2 : (yss.set j zs).getD j [] = zs := by simp [List.getD_eq_getElem?_getD, hj]
    rw [e2, hz]
    exact ⟨h1, ho, h3⟩
  · have e2 : (yss.set k zs).getD j [] = yss.getD j [] := by simp [List.getD_eq_getElem?_getD, Ne.symm e]
    rw [e2]
    exact ⟨h1, h2.grown hw.1 (fun q hq e3 => h.2 j k hj hk e q hq e3), h3⟩

/-- So many numbers in the first rows. -/
def tot (yss : List (List Int)) (j : Nat) : Nat := ((yss.take j).map List.length).sum
theorem tot_succ {yss : List (List Int)} {j : Nat} (h : j < yss.length) : tot yss (j + 1) = tot yss j + (yss.getD j []).length := by
  unfold tot
  rw [List.take_succ_eq_append_getElem h, List.map_append, List.sum_append]
  simp [List.getD_eq_getElem?_getD, h]
theorem tot_le {yss : List (List Int)} : ∀ d j, j + d ≤ yss.length → tot yss j ≤ tot yss (j + d)
  | 0, _, _ => Nat.le_refl _
  | d + 1, j, h => by
    have := tot_le (yss := yss) d j (by omega)
    have e := tot_succ (yss := yss) (j := j + d) (by omega)
    rw [← Nat.add_assoc, e]; omega
/-- The first rows marked. -/
def mkU (k0 : Int) (yss : List (List Int)) (k : Nat) : List (List Int) := (List.range yss.length).map fun j => if j < k then marks (k0 + (tot yss j : Nat)) (yss.getD j []).length else yss.getD j []
theorem mkU_length (k0 : Int) (yss : List (List Int)) (k : Nat) : (mkU k0 yss k).length = yss.length := by simp [mkU]
theorem mkU_getD (k0 : Int) (yss : List (List Int)) (k j : Nat) (h : j < yss.length) : (mkU k0 yss k).getD j [] = if j < k then marks (k0 + (tot yss j : Nat)) (yss.getD j []).length else yss.getD j [] := by
  simp [mkU, List.getD_eq_getElem?_getD, h]
theorem mkU_zero (k0 : Int) (yss : List (List Int)) : mkU k0 yss 0 = yss := by
  apply List.ext_getElem (by simp [mkU])
  intro i h1 h2
  simp [mkU, List.getD_eq_getElem?_getD, h2]
theorem mkU_step (k0 : Int) (yss : List (List Int)) (k : Nat) : (mkU k0 yss k).set k (marks (k0 + (tot yss k : Nat)) (yss.getD k []).length) = mkU k0 yss (k + 1) := by
  apply List.ext_getElem (by simp [mkU])
  intro i h1 h2
  rw [List.getElem_set]
  by_cases e : k = i
  · subst e; simp [mkU]
  · rw [if_neg e]
    have e2 : (i < k) = (i < k + 1) := by simp; omega
    simp only [mkU, List.getElem_map, List.getElem_range, e2]

end Go.Proofs.Ytmmpeaedglnjlaa
