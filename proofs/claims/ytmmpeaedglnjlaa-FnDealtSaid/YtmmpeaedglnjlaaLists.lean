/-
  Lists of lists in memory.
-/
import Derived.Test.YtmmpeaedglnjlaaInts
import Derived.Test.YtmmpeaedglnjlaaOwn
import Derived.Deep.AppendLies
namespace Go.Proofs.Ytmmpeaedglnjlaa
open Go.RowKit

theorem OwnI.grown {w w' : World} {lo : Nat} {B : Option Addr} {d : Nat} {ys : List Int} {row : Option Nat} (h : OwnI w lo B d ys) (hg : w.grownBy w' row) (hne : ∀ b, B.map (·.block) = some b → row ≠ some b) : OwnI w' lo B d ys := by
  rcases h with h | ⟨g, f, t, e, h1, hl, hc, hm, hr, hf⟩
  · exact .inl h
  · subst e
    exact .inr ⟨g, f, t, rfl, h1, Nat.lt_of_lt_of_le hl hg.size, hc, hm, hr.of_block (hg.block g hl (fun e' => hne g rfl e'.symm)), hf⟩
theorem OwnI.lt_block {w : World} {lo : Nat} {A : Option Addr} {c : Nat} {xs : List Int} (h : OwnI w lo A c xs) {b : Nat} (hb : A.map (·.block) = some b) : b < w.heap.size := (h.lo_block b hb).2

/-- A list of lists of the call's own, as it is read. -/
def ListsO (w : World) (lo : Nat) (A : Option Addr) (yss : List (List Int)) : Prop :=
  yss = [] ∨ ∃ b off, A = some ⟨b, off, none⟩ ∧ b < w.heap.size ∧ ∀ j, j < yss.length → ∃ B c, w.cell? ⟨b, off + j, none⟩ = some (.slice B (yss.getD j []).length c) ∧ OwnI w lo B c (yss.getD j [])
theorem ListsO.below {w w' : World} {lo : Nat} {A : Option Addr} {yss : List (List Int)} (h : ListsO w lo A yss) (hb : Below w.heap.size w w') : ListsO w' lo A yss := by
  rcases h with h | ⟨b, off, e, hl, hc⟩
  · exact .inl h
  · refine .inr ⟨b, off, e, Nat.lt_of_lt_of_le hl hb.size, fun j hj => ?_⟩
    obtain ⟨B, c, h1, h2⟩ := hc j hj
    exact ⟨B, c, (hb.cell (p := ⟨b, off + j, none⟩) hl).trans h1, h2.below hb⟩
theorem ListsO.mono {w : World} {lo lo' : Nat} {A : Option Addr} {yss : List (List Int)} (h : ListsO w lo A yss) (hl : lo' ≤ lo) : ListsO w lo' A yss := by
  rcases h with h | ⟨b, off, e, hb, hc⟩
  · exact .inl h
  · refine .inr ⟨b, off, e, hb, fun j hj => ?_⟩
    obtain ⟨B, c, h1, h2⟩ := hc j hj
    exact ⟨B, c, h1, h2.mono hl⟩
theorem ListsO.at_ {w : World} {lo : Nat} {A : Option Addr} {yss : List (List Int)} {j : Nat} (h : ListsO w lo A yss) (hj : j < yss.length) :
    ∃ b off, A = some ⟨b, off, none⟩ ∧ b < w.heap.size ∧ ∃ B c, w.cell? ⟨b, off + j, none⟩ = some (.slice B (yss.getD j []).length c) ∧ OwnI w lo B c (yss.getD j []) := by
  rcases h with h | ⟨b, off, e, hl, hc⟩
  · subst h; simp at hj
  · exact ⟨b, off, e, hl, hc j hj⟩

/-- What the cells of a growing list of lists stand for. -/
def Rws (w : World) (lo : Nat) (v : Value) (vals : List Value) (zss : List (List Int)) : Prop :=
  vals.length = zss.length ∧ ∀ j, j < zss.length → ∃ B c, vals[j]? = some (.slice B (zss.getD j []).length c) ∧ OwnI w lo B c (zss.getD j []) ∧ ∀ b, B.map (·.block) = some b → v.ownBlock ≠ some b
theorem Rws.nil_ (w : World) (lo : Nat) (v : Value) : Rws w lo v [] [] := ⟨rfl, fun j hj => absurd hj (by simp)⟩
theorem Rws.below {w w' : World} {lo : Nat} {v : Value} {vals : List Value} {zss : List (List Int)} (h : Rws w lo v vals zss) (hb : Below w.heap.size w w') : Rws w' lo v vals zss :=
  ⟨h.1, fun j hj => by
    obtain ⟨B, c, h1, h2, h3⟩ := h.2 j hj
    exact ⟨B, c, h1, h2.below hb, h3⟩⟩
theorem Rws.grown {w w' : World} {lo : Nat} {v : Value} {vals : List Value} {zss : List (List Int)} (h : Rws w lo v vals zss) (hg : w.grownBy w' v.ownBlock) : Rws w' lo v vals zss :=
  ⟨h.1, fun j hj => by
    obtain ⟨B, c, h1, h2, h3⟩ := h.2 j hj
    exact ⟨B, c, h1, h2.grown hg h3, h3⟩⟩
/-- One list more. -/
theorem Rws.snoc {w w' : World} {lo q ln cap : Nat} {v : Value} {vals : List Value} {zss : List (List Int)} {B : Option Addr} {c : Nat} {ys : List Int} (h : Rws w lo v vals zss)
    (ho : OwnI w lo B c ys) (hne : ∀ b, B.map (·.block) = some b → v.ownBlock ≠ some b) (hg : w.grownBy w' v.ownBlock) (hat : v.ownBlock = some q ∨ q = w.heap.size) :
    Rws w' lo (.slice (some ⟨q, 0, none⟩) ln cap) (vals ++ [.slice B ys.length c]) (zss ++ [ys]) := by
  have far : ∀ {B' : Option Addr} {c' : Nat} {zs : List Int}, OwnI w lo B' c' zs → (∀ b, B'.map (·.block) = some b → v.ownBlock ≠ some b) → ∀ b, B'.map (·.block) = some b → (Value.slice (some ⟨q, 0, none⟩) ln cap).ownBlock ≠ some b := by
    intro B' c' zs h1 h2 b hb e
    have e' : q = b := by simpa [Value.ownBlock] using e
    subst e'
    rcases hat with hat | hat
    · exact h2 q hb hat
    · have := h1.lt_block hb; omega
  refine ⟨by simp [h.1], fun j hj => ?_⟩
  rcases Nat.lt_or_ge j zss.length with hlt | hge
  · obtain ⟨B', c', h1, h2, h3⟩ := h.2 j hlt
    have e : (zss ++ [ys]).getD j [] = zss.getD j [] := by simp [List.getD_eq_getElem?_getD, List.getElem?_append_left hlt]
    rw [e]
    exact ⟨B', c', by rw [List.getElem?_append_left (by rw [h.1]; exact hlt)]; exact h1, h2.grown hg h3, far h2 h3⟩
  · have hj' : j = zss.length := by simp at hj; omega
    subst hj'
    have e : (zss ++ [ys]).getD zss.length [] = ys := by simp [List.getD_eq_getElem?_getD]
    rw [e]
    exact ⟨B, c, by rw [← h.1]; simp, ho.grown hg hne, far ho hne⟩
/-- What has been collected reads as a list of lists. -/
theorem Rws.lists {w : World} {lo n : Nat} {T : TypeId} {v : Value} {vals : List Value} {zss : List (List Int)} (h : Rws w lo v vals zss) (ho : w.ownsRow lo T 1 v n vals) (hn : n = zss.length) :
    ∃ A c, v = .slice A zss.length c ∧ ListsO w lo A zss ∧ ∀ b, A.map (·.block) = some b → lo ≤ b := by
  subst hn
  have key : ∃ A c, v = .slice A zss.length c ∧ ListsO w lo A zss := by
    rcases Nat.eq_zero_or_pos zss.length with h0 | h0
    · have : zss = [] := List.eq_nil_of_length_eq_zero h0
      subst this
      rcases ho.2 with ⟨rfl, _⟩ | ⟨g, cap, cur, rfl, _⟩
      · exact ⟨none, 0, rfl, .inl rfl⟩
      · exact ⟨_, cap, rfl, .inl rfl⟩
    · obtain ⟨g, cap, hv, hlo, hlt⟩ := ho.form h0
      subst hv
      refine ⟨_, cap, rfl, .inr ⟨g, 0, rfl, hlt, fun j hj => ?_⟩⟩
      obtain ⟨B, c, h1, h2, _⟩ := h.2 j hj
      refine ⟨B, c, ?_, h2⟩
      have := ho.cells (g := g) rfl j _ h1
      rw [Go.WideShapes.add_plain] at this
      exact this
  obtain ⟨A, c, hv, hL⟩ := key
  refine ⟨A, c, hv, hL, fun b hb => (ho.lt b ?_).1⟩
  subst hv
  cases A with
  | none => cases hb
  | some a => exact hb
/-- A list of lists that lies apart from a growing value. -/
def ListsA (w : World) (lo : Nat) (v : Value) (A : Option Addr) (yss : List (List Int)) : Prop :=
  yss = [] ∨ ∃ b off, A = some ⟨b, off, none⟩ ∧ b < w.heap.size ∧ v.ownBlock ≠ some b ∧ ∀ j, j < yss.length → ∃ B c, w.cell? ⟨b, off + j, none⟩ = some (.slice B (yss.getD j []).length c) ∧ OwnI w lo B c (yss.getD j []) ∧ ∀ b', B.map (·.block) = some b' → v.ownBlock ≠ some b'
theorem ListsA.below {w w' : World} {lo : Nat} {v : Value} {A : Option Addr} {yss : List (List Int)} (h : ListsA w lo v A yss) (hb : Below w.heap.size w w') : ListsA w' lo v A yss := by
  rcases h with h | ⟨b, off, e, hl, hv, hc⟩
  · exact .inl h
  · refine .inr ⟨b, off, e, Nat.lt_of_lt_of_le hl hb.size, hv, fun j hj => ?_⟩
    obtain ⟨B, c, h1, h2, h3⟩ := hc j hj
    exact ⟨B, c, (hb.cell (p := ⟨b, off + j, none⟩) hl).trans h1, h2.below hb, h3⟩
/-- One that was made behind the growing value lies apart from it. -/
theorem ListsO.apart {w : World} {lo : Nat} {v : Value} {A : Option Addr} {yss : List (List Int)} (h : ListsO w lo A yss) (hA : ∀ b, A.map (·.block) = some b → lo ≤ b) (hv : ∀ b, v.ownBlock = some b → b < lo) : ListsA w lo v A yss := by
  rcases h with h | ⟨b, off, e, hl, hc⟩
  · exact .inl h
  · subst e
    refine .inr ⟨b, off, rfl, hl, fun e => by have := hv b e; have := hA b rfl; omega, fun j hj => ?_⟩
    obtain ⟨B, c, h1, h2⟩ := hc j hj
    exact ⟨B, c, h1, h2, fun b' hb' e => by have := hv b' e; have := (h2.lo_block b' hb').1; omega⟩
theorem ListsA.grown {w w' : World} {lo q ln cap : Nat} {v : Value} {A : Option Addr} {yss : List (List Int)} (h : ListsA w lo v A yss) (hg : w.grownBy w' v.ownBlock) (hat : v.ownBlock = some q ∨ q = w.heap.size) : ListsA w' lo (.slice (some ⟨q, 0, none⟩) ln cap) A yss := by
  rcases h with h | ⟨b, off, e, hl, hv, hc⟩
  · exact .inl h
  · have far : ∀ b', b' < w.heap.size → v.ownBlock ≠ some b' → (Value.slice (some ⟨q, 0, none⟩) ln cap).ownBlock ≠ some b' := by
      intro b' h1 h2 e
      have e' : q = b' := by simpa [Value.ownBlock] using e
      subst e'
      rcases hat with hat | hat
      · exact h2 hat
      · omega
    refine .inr ⟨b, off, e, Nat.lt_of_lt_of_le hl hg.size, far b hl hv, fun j hj => ?_⟩
    obtain ⟨B, c, h1, h2, h3⟩ := hc j hj
    exact ⟨B, c, (World.cell?_of_block (w := w) (hg.block b hl (fun e => hv e.symm))).trans h1, h2.grown hg h3, fun b' hb' => far b' (h2.lt_block hb') (h3 b' hb')⟩
theorem ListsA.at_ {w : World} {lo : Nat} {v : Value} {A : Option Addr} {yss : List (List Int)} {j : Nat} (h : ListsA w lo v A yss) (hj : j < yss.length) :
    ∃ b off, A = some ⟨b, off, none⟩ ∧ b < w.heap.size ∧ ∃ B c, w.cell? ⟨b, off + j, none⟩ = some (.slice B (yss.getD j []).length c) ∧ OwnI w lo B c (yss.getD j []) := by
  rcases h with h | ⟨b, off, e, hl, _, hc⟩
  · subst h; simp at hj
  · obtain ⟨B, c, h1, h2, _⟩ := hc j hj
    exact ⟨b, off, e, hl, B, c, h1, h2⟩
/-- A new block is owned whole. -/
theorem owns_new (w : World) (cs : Array Value) (T : TypeId) (n : Nat) (hn : cs.size = n) (hm : n ≤ maxLen) : (w.alloc (.cells cs T)).ownsRow w.heap.size T 1 (.slice (some ⟨w.heap.size, 0, none⟩) n n) n cs.toList := by
  subst hn
  exact ⟨by simp, .inr ⟨w.heap.size, cs.size, cs, rfl, Nat.le_refl _, heap_alloc_new _ _, Nat.le_refl _, hm, by simp, by simp [List.take_of_length_le]⟩⟩
/-- A number ahead of a list, put together by an append. -/
theorem own_cons {w : World} {lo n : Nat} {v : Value} {x : Int} {ys : List Int} (h : w.ownsRow lo 2 1 v (1 + n) ([.int .i64 x] ++ ys.map (Value.int .i64))) (hn : n = ys.length) :
    ∃ A c, v = .slice A (x :: ys).length c ∧ OwnI w lo A c (x :: ys) := by
  subst hn
  refine ownI_of_owns (xs := x :: ys) ?_
  rw [List.length_cons, Nat.add_comm]
  exact h
end Go.Proofs.Ytmmpeaedglnjlaa
