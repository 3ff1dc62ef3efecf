/-
  A list in memory of the call's own whose block bears the numbers' type: it can be appended to.
-/
import Derived.Test.YtmmpeaedglnjlaaInts
namespace Go.Proofs.Ytmmpeaedglnjlaa
open Go.RowKit

def OwnT (w : World) (lo : Nat) (A : Option Addr) (c : Nat) (xs : List Int) : Prop :=
  (A = none ∧ c = 0 ∧ xs = []) ∨
  ∃ g f, A = some ⟨g, 0, none⟩ ∧ lo ≤ g ∧ g < w.heap.size ∧ xs.length ≤ c ∧ c ≤ maxLen ∧ w.rowIs g 2 c f ∧ ∀ k, k < xs.length → f k = .int .i64 (xs.getD k 0)
theorem OwnT.own {w : World} {lo : Nat} {A : Option Addr} {c : Nat} {xs : List Int} (h : OwnT w lo A c xs) : OwnI w lo A c xs := by
  rcases h with h | ⟨g, f, h⟩
  · exact .inl h
  · exact .inr ⟨g, f, _, h⟩
theorem OwnT.mono {w : World} {lo lo' : Nat} {A : Option Addr} {c : Nat} {xs : List Int} (h : OwnT w lo A c xs) (hl : lo' ≤ lo) : OwnT w lo' A c xs := by
  rcases h with h | ⟨g, f, e, h1, r⟩
  · exact .inl h
  · exact .inr ⟨g, f, e, by omega, r⟩
theorem OwnT.below {w w' : World} {lo : Nat} {A : Option Addr} {c : Nat} {xs : List Int} (h : OwnT w lo A c xs) (hb : Below w.heap.size w w') : OwnT w' lo A c xs := by
  rcases h with h | ⟨g, f, e, h1, hl, hc, hm, hr, hf⟩
  · exact .inl h
  · exact .inr ⟨g, f, e, h1, Nat.lt_of_lt_of_le hl hb.size, hc, hm, hr.of_block (hb.block g hl), hf⟩
theorem ownT_of_owns {w : World} {lo : Nat} {v : Value} {xs : List Int} (h : w.ownsRow lo 2 1 v xs.length (xs.map (Value.int .i64))) :
    ∃ A c, v = .slice A xs.length c ∧ OwnT w lo A c xs := by
  rcases h.2 with ⟨rfl, h0⟩ | ⟨g, cap, cur, rfl, hb, hg, hc, hm, hs, ht⟩
  · have : xs = [] := by simpa using h0
    subst this
    exact ⟨none, 0, rfl, .inl ⟨rfl, rfl, rfl⟩⟩
  · have hs' : cur.size = cap := by omega
    refine ⟨some ⟨g, 0, none⟩, cap, rfl, .inr ⟨g, fun i => (cur[i]?).getD undef, rfl, hb, (Array.getElem?_eq_some_iff.1 hg).1, hc, hm, ⟨cur, hg, hs', fun i hi => ?_⟩, fun k hk => ?_⟩⟩
    · have : i < cur.size := by omega
      simp [this]
    · have h1 : (cur.toList.take (xs.length * 1))[k]? = (xs.map (Value.int .i64))[k]? := by rw [ht]
      rw [List.getElem?_take, if_pos (by omega)] at h1
      simp [hk] at h1
      simp [h1, List.getD_eq_getElem?_getD, hk]
theorem OwnT.owns {w : World} {lo : Nat} {A : Option Addr} {c : Nat} {xs : List Int} (h : OwnT w lo A c xs) : w.ownsRow lo 2 1 (.slice A xs.length c) xs.length (xs.map (Value.int .i64)) := by
  refine ⟨by simp, ?_⟩
  rcases h with ⟨rfl, rfl, rfl⟩ | ⟨g, f, rfl, h1, h2, h3, h4, ⟨cs, hg, hs, hcs⟩, hf⟩
  · exact .inl ⟨rfl, rfl⟩
  · refine .inr ⟨g, c, cs, rfl, h1, hg, h3, h4, by omega, ?_⟩
    apply List.ext_getElem?
    intro k
    rw [List.getElem?_take]
    by_cases hk : k < xs.length * 1
    · rw [if_pos hk]
      have hk' : k < xs.length := by omega
      have := hcs k (by omega)
      rw [hf k hk'] at this
      rw [Array.getElem?_toList, this]
      simp [List.getD_eq_getElem?_getD, hk']
    · rw [if_neg hk]
      symm
      rw [List.getElem?_eq_none]
      simp; omega
def GivesT (w : World) (xs : List Int) (e : Ending) (w' : World) : Prop :=
  ∃ A c, e = .returned (.slice A xs.length c) ∧ OwnT w' w.heap.size A c xs ∧ Below w.heap.size w w'
theorem GivesT.gives {w : World} {xs : List Int} {e : Ending} {w' : World} (h : GivesT w xs e w') : GivesI w xs e w' := by
  obtain ⟨A, c, h1, h2, h3⟩ := h; exact ⟨A, c, h1, h2.own, h3⟩
end Go.Proofs.Ytmmpeaedglnjlaa
