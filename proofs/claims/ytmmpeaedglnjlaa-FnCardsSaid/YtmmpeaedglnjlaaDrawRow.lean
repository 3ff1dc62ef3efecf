/-
  Lists that a draw keeps.
-/
import Derived.Test.YtmmpeaedglnjlaaDrawFrom
import Derived.Test.YtmmpeaedglnjlaaOwnT
import Derived.Test.YtmmpeaedglnjlaaOwn
namespace Go.Proofs.Ytmmpeaedglnjlaa
open Go.RowKit

theorem OwnT.keptG {w w' : World} {lo g : Nat} {A : Option Addr} {d : Nat} {ys : List Int} (h : OwnT w lo A d ys) (hk : Kept g w w') (hg : g < lo) : OwnT w' lo A d ys := by
  rcases h with h | ⟨q, f, e, h1, hl, hc, hm, hr, hf⟩
  · exact .inl h
  · exact .inr ⟨q, f, e, h1, Nat.lt_of_lt_of_le hl hk.size, hc, hm, hr.of_block (hk.block q hl (fun e' => by simp at e'; omega)), hf⟩
/-- A list that was drawn. -/
def DrawL (g : Nat) (w : World) (e : Ending) (w' : World) : Prop :=
  ∃ ys A c, e = .returned (.slice A ys.length c) ∧ RowI w' A ys ∧ ys.length ≤ 256 ∧ ys.length ≤ c ∧ c ≤ maxLen ∧ (∀ b, A.map (·.block) = some b → w.heap.size ≤ b) ∧ Src w' g ∧ Kept g w w'
theorem DrawL.of_own {g lo : Nat} {w w' : World} {A : Option Addr} {c len : Nat} {ys : List Int} (hlen : len = ys.length) (h : OwnI w' lo A c ys) (hlo : w.heap.size ≤ lo) (hl : ys.length ≤ 256) (hs : Src w' g) (hk : Kept g w w') : DrawL g w (.returned (.slice A len c)) w' := by
  subst hlen
  refine ⟨ys, A, c, rfl, h.row, hl, h.cap.1, h.cap.2, fun b hb => ?_, hs, hk⟩
  have := (h.lo_block b hb).1
  omega

theorem RowI.keptG {w w' : World} {g : Nat} {A : Option Addr} {ys : List Int} (h : RowI w A ys) (hk : Kept g w w') (hne : ∀ b, A.map (·.block) = some b → b ≠ g) : RowI w' A ys := by
  rcases h with h | ⟨b, off, rfl, hb, hc⟩
  · exact .inl h
  · exact .inr ⟨b, off, rfl, Nat.lt_of_lt_of_le hb hk.size, fun k hkk => (hk.cell (p := ⟨b, off + k, none⟩) hb (hne b rfl)).trans (hc k hkk)⟩
end Go.Proofs.Ytmmpeaedglnjlaa
