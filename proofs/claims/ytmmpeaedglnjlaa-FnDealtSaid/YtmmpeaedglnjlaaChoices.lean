/-
  spec.l04Choices: all lists of k elements of a list.
-/
import Derived.Test.YtmmpeaedglnjlaaLists
import Derived.Test.YtmmpeaedglnjlaaWords
import Derived.Test.YtmmpeaedglnjlaaMathChoice
import Derived.Deep.RegionLaw
namespace Go.Proofs.Ytmmpeaedglnjlaa
open Go.RowKit

theorem ints_info : (Try.prog.info? 22).map (fun i => (i.zero, i.size, i.bytes)) = some (some (.slice none 0 0), 1, 24) := by kernel_rfl

/-- What the two loops know of the list that grows. -/
def Chs (w wr : World) (v : Value) (ln : Nat) (vals : List Value) (zss : List (List Int)) : Prop :=
  wr.ownsRow w.heap.size 22 1 v ln vals ∧ Rws wr w.heap.size v vals zss ∧ zss.length = ln ∧ Below w.heap.size w wr
theorem Chs.start (w : World) : Chs w (w.alloc (.cells #[] 22)) (.slice (some ⟨w.heap.size, 0, none⟩) 0 0) 0 [] [] :=
  ⟨World.ownsRow_made w #[] 0 (Nat.le_refl _) (by decide) rfl, Rws.nil_ _ _ _, rfl, (Below.refl _ _).alloc (Nat.le_refl _) _⟩
theorem Chs.below {w wr wr' : World} {v : Value} {ln : Nat} {vals : List Value} {zss : List (List Int)} (h : Chs w wr v ln vals zss) (hb : Below wr.heap.size wr wr') : Chs w wr' v ln vals zss := by
  obtain ⟨h1, h2, h3, h4⟩ := h
  refine ⟨h1.kept (row := none) ⟨hb.os, hb.tape, hb.output, hb.size, fun i hi _ => hb.block i hi⟩ ?_, h2.below hb, h3, h4.trans (hb.mono h4.size)⟩
  cases e : v.ownBlock <;> simp
theorem ch_temp {w w' : World} {o : Obj} (hg : (w.alloc o).drew.grownBy w' (Value.ownBlock (.slice (some ⟨w.heap.size, 0, none⟩) 1 1))) : Below w.heap.size w w' :=
  ((Below.refl w.heap.size w).alloc (Nat.le_refl _) o).drew.grown hg (by simp) (fun j e => by simp [Value.ownBlock] at e; omega)
/-- One list more has been appended. -/
theorem Chs.step {w wr w4 w5 : World} {v : Value} {ln q cap : Nat} {vals : List Value} {zss : List (List Int)} {B : Option Addr} {c : Nat} {ys : List Int} {n : Nat} {o : Obj} (h : Chs w wr v ln vals zss) (hb : Below wr.heap.size wr w4)
    (ho : OwnI w4 wr.heap.size B c ys) (hn : n = ys.length)
    (hown : w5.ownsRow w.heap.size 22 1 (.slice (some ⟨q, 0, none⟩) (ln + 1) cap) (ln + 1) (vals ++ [.slice B n c])) (hg : (w4.alloc o).grownBy w5 v.ownBlock) (hat : v.ownBlock = some q ∨ q = (w4.alloc o).heap.size) :
    Chs w w5 (.slice (some ⟨q, 0, none⟩) (ln + 1) cap) (ln + 1) (vals ++ [.slice B n c]) (zss ++ [ys]) ∧
    ∀ {lo : Nat} {A : Option Addr} {yss : List (List Int)}, ListsA wr lo v A yss → ListsA w5 lo (.slice (some ⟨q, 0, none⟩) (ln + 1) cap) A yss := by
  subst hn
  have h4 := h.below (hb.trans ((Below.refl _ _).alloc hb.size o))
  have hva : ∀ b, v.ownBlock = some b → w.heap.size ≤ b ∧ b < wr.heap.size := fun b e => h.1.lt b e
  have ho4 : OwnI (w4.alloc o) w.heap.size B c ys := (ho.mono h.2.2.2.size).below ((Below.refl _ _).alloc (Nat.le_refl _) o)
  refine ⟨⟨hown, h4.2.1.snoc ho4 (fun b hb' e => ?_) hg hat, by simp [h.2.2.1], ?_⟩, fun hL => ?_⟩
  · have := (ho.lo_block b hb').1
    have := (hva b e).2
    omega
  · exact h4.2.2.2.grown hg (h4.2.2.2.size) (fun b e => (hva b e).1)
  · exact (hL.below (hb.trans ((Below.refl _ _).alloc hb.size o))).grown hg hat

/-- A call hands back a list of lists of its own. -/
def GivesL (w : World) (yss : List (List Int)) (e : Ending) (w' : World) : Prop :=
  ∃ A' c', e = .returned (.slice A' yss.length c') ∧ ListsO w' w.heap.size A' yss ∧ (∀ b, A'.map (·.block) = some b → w.heap.size ≤ b) ∧ Below w.heap.size w w'
theorem gives_one (w : World) : GivesL w [[]] (.returned (.slice (some ⟨w.heap.size + 1, 0, none⟩) 1 1)) ((w.alloc (.cells #[] 2)).alloc (.cells #[.slice (some ⟨w.heap.size, 0, none⟩) 0 0] 22)) := by
  have ho : OwnI (w.alloc (.cells #[] 2)) w.heap.size (some ⟨w.heap.size, 0, none⟩) 0 [] :=
    .inr ⟨w.heap.size, fun _ => undef, _, rfl, Nat.le_refl _, by simp, Nat.le_refl _, by simp [maxLen], World.rowIs_alloc w #[] _ _ (fun i hi => absurd hi (by simp)), fun k hk => absurd hk (by simp)⟩
  refine ⟨_, _, rfl, .inr ⟨w.heap.size + 1, 0, rfl, by simp, fun j hj => ?_⟩, fun b hb => by simp at hb; omega, ((Below.refl _ _).alloc (Nat.le_refl _) _).alloc (by simp) _⟩
  have hj0 : j = 0 := by simp at hj; omega
  subst hj0
  refine ⟨some ⟨w.heap.size, 0, none⟩, 0, ?_, ho.below ((Below.refl _ _).alloc (Nat.le_refl _) _)⟩
  have := (World.rowIs_alloc (w.alloc (.cells #[] 2)) #[.slice (some ⟨w.heap.size, 0, none⟩) 0 0] 22 (fun _ => .slice (some ⟨w.heap.size, 0, none⟩) 0 0) (fun i hi => by
    have : i = 0 := by simp at hi; omega
    subst this; rfl)).cell (i := 0) (by simp)
  rw [World.size_alloc] at this
  exact this

end Go.Proofs.Ytmmpeaedglnjlaa
