/-
  DealHands in the program.
-/
import Derived.Test.YtmmpeaedglnjlaaDealS
import Derived.Test.YtmmpeaedglnjlaaListsM
namespace Go.Proofs.Ytmmpeaedglnjlaa
open Go.RowKit

/-- How many of the first i cards go to hand j. -/
def cntD (N i j : Nat) : Nat := i / N + if j < i % N then 1 else 0
theorem cnt_zero (N j : Nat) : cntD N 0 j = 0 := by simp [cntD]
theorem cnt_next {N : Nat} (i : Nat) (hN : 0 < N) : (i % N + 1 < N ∧ (i + 1) / N = i / N ∧ (i + 1) % N = i % N + 1) ∨ (i % N + 1 = N ∧ (i + 1) / N = i / N + 1 ∧ (i + 1) % N = 0) := by
  have h := Nat.div_add_mod i N
  have hr := Nat.mod_lt i hN
  have e : i + 1 = N * (i / N) + (i % N + 1) := by omega
  rcases Nat.lt_or_ge (i % N + 1) N with hlt | hge
  · left
    refine ⟨hlt, ?_, ?_⟩
    · rw [e, Nat.mul_add_div hN, Nat.div_eq_of_lt hlt]; rfl
    · rw [e, Nat.mul_add_mod, Nat.mod_eq_of_lt hlt]
  · right
    have h1 : i % N + 1 = N := by omega
    refine ⟨h1, ?_, ?_⟩
    · rw [e, h1, Nat.mul_add_div hN, Nat.div_self hN]
    · rw [e, h1, Nat.mul_add_mod, Nat.mod_self]
theorem cnt_same {N i j : Nat} (hN : 0 < N) (hj : i % N = j) : cntD N (i + 1) j = cntD N i j + 1 ∧ cntD N i j * N + j = i := by
  have h := Nat.div_add_mod i N
  have hr := Nat.mod_lt i hN
  refine ⟨?_, ?_⟩
  · rcases cnt_next i hN with ⟨a, b, c⟩ | ⟨a, b, c⟩
    · unfold cntD; rw [b, c, if_pos (by omega), if_neg (by omega)]
    · unfold cntD; rw [b, c, if_neg (by omega), if_neg (by omega)]
  · unfold cntD; rw [if_neg (by omega), Nat.add_zero, Nat.mul_comm]; omega
theorem cnt_other {N i j : Nat} (hN : 0 < N) (hj : j < N) (hne : i % N ≠ j) : cntD N (i + 1) j = cntD N i j := by
  have hr := Nat.mod_lt i hN
  rcases cnt_next i hN with ⟨a, b, c⟩ | ⟨a, b, c⟩
  · unfold cntD; rw [b, c]; split <;> split <;> omega
  · unfold cntD; rw [b, c]; split <;> split <;> omega
theorem cnt_all {N C j : Nat} (hN : 0 < N) : cntD N (N * C) j = C := by
  unfold cntD; rw [Nat.mul_div_cancel_left _ hN, Nat.mul_mod_right]; simp

/-- The hands that grow. -/
def DealW (w1 wr : World) (N : Nat) (xs : List Int) (i : Nat) (R : Nat → Value) : Prop :=
  wr.rowIs w1.heap.size 22 N R ∧
  (∀ j, j < N → wr.ownsRow (w1.heap.size + 1) 2 1 (R j) (cntD N i j) ((handK xs N j (cntD N i j)).map (Value.int .i64))) ∧
  (∀ j l, j < N → l < N → j ≠ l → ∀ q, (R j).ownBlock = some q → (R l).ownBlock ≠ some q) ∧
  Below w1.heap.size w1 wr
theorem DealW.start (w1 : World) (N : Nat) (xs : List Int) : DealW w1 (w1.alloc (.cells (madeCells #[.slice none 0 0] N) 22)) N xs 0 (fun _ => .slice none 0 0) :=
  ⟨World.rowIs_made _ _ _ _, fun j hj => by rw [cnt_zero]; exact ⟨by simp [handK], .inl ⟨rfl, rfl⟩⟩, fun _ _ _ _ _ q h => by simp [Value.ownBlock] at h, (Below.refl _ _).alloc (Nat.le_refl _) _⟩
theorem DealW.mid {w1 wr w5 : World} {N i j : Nat} {o : Obj} {xs : List Int} {R : Nat → Value} (h : DealW w1 wr N xs i R) (hj : j < N) (hg : (wr.alloc o).drew.grownBy w5 (R j).ownBlock) : w5.rowIs w1.heap.size 22 N R := by
  have lt := h.1.lt
  refine (h.1.alloc o).drew.of_block (hg.block _ (by simp; omega) (fun e => ?_))
  have := ((h.2.1 j hj).lt _ e.symm).1
  omega
theorem DealW.step {w1 wr w5 : World} {N i j q cap : Nat} {o : Obj} {xs : List Int} {R : Nat → Value} {x : Int} (h : DealW w1 wr N xs i R) (hN : 0 < N) (hj : i % N = j) (hx : x = xs.getD i 0)
    (hown : w5.ownsRow (w1.heap.size + 1) 2 1 (.slice (some ⟨q, 0, none⟩) (cntD N i j + 1) cap) (cntD N i j + 1) ((handK xs N j (cntD N i j)).map (Value.int .i64) ++ [.int .i64 x]))
    (hg : (wr.alloc o).drew.grownBy w5 (R j).ownBlock) (hat : (R j).ownBlock = some q ∨ q = (wr.alloc o).drew.heap.size) :
    DealW w1 (w5.setCell ⟨w1.heap.size, j, none⟩ (.slice (some ⟨q, 0, none⟩) (cntD N i j + 1) cap)) N xs (i + 1) (fun l => if l = j then .slice (some ⟨q, 0, none⟩) (cntD N i j + 1) cap else R l) := by
  have hjN : j < N := by rw [← hj]; exact Nat.mod_lt i hN
  have hm := h.mid hjN hg
  have hq : w1.heap.size + 1 ≤ q := (hown.lt q rfl).1
  have hset : ∀ v, w5.grownBy (w5.setCell ⟨w1.heap.size, j, none⟩ v) (some w1.heap.size) := fun v => ⟨rfl, rfl, rfl, by simp [World.setCell], fun k hk hne => Below.heap_setCell _ _ _ _ (fun e => hne (by rw [e]))⟩
  have hdr : wr.heap.size < (wr.alloc o).drew.heap.size := by simp
  have far : ∀ l, l < N → l ≠ j → (R l).ownBlock ≠ some q := by
    intro l hl hne e
    rcases hat with hat | hat
    · exact h.2.2.1 l j hl hjN hne q e hat
    · have := ((h.2.1 l hl).lt q e).2
      omega
  refine ⟨hm.set j _, fun l hl => ?_, fun a b ha hb hab k e0 => ?_, ?_⟩
  · show World.ownsRow _ _ _ _ (if l = j then Value.slice (some ⟨q, 0, none⟩) (cntD N i j + 1) cap else R l) _ _
    by_cases e : l = j
    · subst e
      obtain ⟨e1, e2⟩ := cnt_same hN hj
      rw [if_pos rfl, e1, handK_succ, e2, ← hx, List.map_append]
      exact hown.kept (hset _) (.inr (by simp [Value.ownBlock]; omega))
    · rw [if_neg e, cnt_other hN hl (by omega)]
      have h1 := ((h.2.1 l hl).alloc o).drew
      have h2 := h1.kept hg (by
        cases eb : (R l).ownBlock with
        | none => exact .inl rfl
        | some k => exact .inr (fun e' => h.2.2.1 l j hl hjN e k eb e'.symm))
      refine h2.kept (hset _) ?_
      cases eb : (R l).ownBlock with
      | none => exact .inl rfl
      | some k =>
        have := ((h.2.1 l hl).lt k eb).1
        exact .inr (by simp; omega)
  · have e : (if a = j then Value.slice (some ⟨q, 0, none⟩) (cntD N i j + 1) cap else R a).ownBlock = some k := e0
    clear e0
    show (if b = j then Value.slice (some ⟨q, 0, none⟩) (cntD N i j + 1) cap else R b).ownBlock ≠ some k
    by_cases ea : a = j
    · subst ea
      rw [if_pos rfl] at e
      have : k = q := by simpa [Value.ownBlock] using e.symm
      subst this
      rw [if_neg (Ne.symm hab)]
      exact far b hb (Ne.symm hab)
    · rw [if_neg ea] at e
      by_cases eb : b = j
      · subst eb
        rw [if_pos rfl]
        intro e2
        have : q = k := by simpa [Value.ownBlock] using e2
        subst this
        exact far a ha ea e
      · rw [if_neg eb]
        exact h.2.2.1 a b ha hb hab k e
  · exact ((((h.2.2.2.alloc h.2.2.2.size o).drew).grown hg (by simp; have := h.2.2.2.size; omega) (fun k e => by have := ((h.2.1 j hjN).lt k e).1; omega))).setCell (Nat.le_refl _) _
/-- What has been dealt, as rows that lie apart. -/
theorem DealW.done {w1 wr : World} {N C : Nat} {xs : List Int} {R : Nat → Value} (h : DealW w1 wr N xs (N * C) R) (hN : 0 < N) : OwnSS wr w1.heap.size (some ⟨w1.heap.size, 0, none⟩) (dealK xs N C N) := by
  have key : ∀ j, j < N → ∃ A c, R j = .slice A C c ∧ OwnI wr (w1.heap.size + 1) A c (handK xs N j C) := by
    intro j hj
    have := h.2.1 j hj
    rw [cnt_all hN] at this
    obtain ⟨A, c, hv, ho⟩ := ownI_of_owns (xs := handK xs N j C) (by rw [handK_length]; exact this)
    rw [handK_length] at hv
    exact ⟨A, c, hv, ho⟩
  have g : ∀ j, j < N → (dealK xs N C N).getD j [] = handK xs N j C := fun j hj => by simp [dealK, List.getD_eq_getElem?_getD, hj]
  refine .inr ⟨w1.heap.size, 0, fun j => match R j with | .slice A _ c => (A, c) | _ => (none, 0), rfl, h.1.lt, fun j hj => ?_, fun a b ha hb hab q e => ?_⟩
  · rw [dealK_length] at hj
    obtain ⟨A, c, hv, ho⟩ := key j hj
    have hc := h.1.cell (i := j) hj
    rw [hv] at hc
    rw [g j hj, handK_length, Nat.zero_add]
    simp only [hv]
    refine ⟨hc, ho.mono (by omega), fun e => ?_⟩
    have := (ho.lo_block _ e).1
    omega
  · rw [dealK_length] at ha hb
    obtain ⟨A, c, hv, ho⟩ := key a ha
    obtain ⟨B, d, hw, ho'⟩ := key b hb
    simp only [hv, hw] at e ⊢
    intro e2
    refine h.2.2.1 a b ha hb hab q ?_ ?_
    · rw [hv]; cases A with
      | none => cases e
      | some z => simpa [Value.ownBlock] using e
    · rw [hw]; cases B with
      | none => cases e2
      | some z => simpa [Value.ownBlock] using e2
end Go.Proofs.Ytmmpeaedglnjlaa
