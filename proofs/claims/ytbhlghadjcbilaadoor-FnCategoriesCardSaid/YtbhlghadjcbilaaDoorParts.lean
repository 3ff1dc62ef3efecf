/-
  ValueParts, IsEightOrBetter and CountEights in the reference and in the program.
-/
import Derived.Test.YtbhlghadjcbilaaDoorInWalk
import Derived.Test.YtbhlghadjcbilaaDoorInts
import Derived.Test.YtbhlghadjcbilaaDoorOwn
namespace Go.Proofs.YtbhlghadjcbilaaDoor
open Go.RowKit

def vq (v : Int) : Nat → Int
  | 0 => v
  | m + 1 => vq v m / 13
theorem vq_pos (v : Int) (h : 0 ≤ v) (hv : v ≤ 3341636) (m : Nat) : 0 ≤ vq v m ∧ vq v m ≤ 3341636 := by
  induction m with
  | zero => exact ⟨h, hv⟩
  | succ m ih => show 0 ≤ vq v m / 13 ∧ vq v m / 13 ≤ 3341636; omega
/-- The kickers that a number stands for. -/
def digs (v : Int) : List Int := [vq v 4 % 13, vq v 3 % 13, vq v 2 % 13, vq v 1 % 13, vq v 0 % 13]
def ptL (v : Int) : List Int := if 0 ≤ v ∧ v ≤ 3341636 then digs v else []
def ptK (v : Int) : Int := if 0 ≤ v ∧ v ≤ 3341636 then v / 371293 else 0
def ptC (v : Int) : Int := if 0 ≤ v ∧ v ≤ 3341636 then 0 else 2
/-- A call hands back a number, a list of its own and a code. -/
def GivesD (w : World) (p : Int) (ys : List Int) (k : Int) (e : Ending) (w' : World) : Prop :=
  ∃ A c, e = .returned (.tuple #[.int .i64 p, .slice A ys.length c, .int .i64 k]) ∧ OwnI w' w.heap.size A c ys ∧ Below w.heap.size w w'

theorem digitsOf_any (v : Int) (w : World) (h0 : 0 ≤ v) (h1 : v ≤ 3341636) :
    Calls Tryd.prog 22 #[.int .i64 v] w (GivesI w (digs v)) := by
  have hmk : ∀ w : World, (Instr.makeSlice 27 (.int .i64 5) (.int .i64 5)).run Tryd.prog w = .ok (.slice (some ⟨w.heap.size, 0, none⟩) 5 5) (w.alloc (.cells (madeCells #[.int .i64 0] 5) 2)) := fun _ => by kernel_rfl
  have V0 := Lib.hid (And.intro h0 h1)
  clear h0 h1
  go_enter Tryd.func22, Tryd.ntmps22
  go_wp2
  go_loopw [0, 4] (fun x i wr => ∃ m : Nat, m ≤ 5 ∧ i = .int .i64 (4 - (m : Int)) ∧ x = .int .i64 (vq v m) ∧ wr.rowIs w.heap.size 2 5 (fun j => .int .i64 (if 4 < j + m then vq v (4 - j) % 13 else 0)) ∧ Hid (Below w.heap.size w wr))
    (fun _ i _ => (intOf i + 1).toNat)
  case atStart => exact ⟨0, by omega, rfl, rfl, (World.rowIs_made w _ 5 _).congr (fun i hi => by rw [if_neg (by omega)]), (Below.refl _ _).alloc (Nat.le_refl _) _⟩
  case round =>
    obtain ⟨m, hm, rfl, rfl, hr, hB⟩ := hrel
    clear hmk
    obtain ⟨q, hq⟩ : ∃ q, q = vq v m := ⟨_, rfl⟩
    have hq2 := vq_pos v V0.out.1 V0.out.2 m
    rw [← hq] at hq2 ⊢
    obtain ⟨q0, q1⟩ := hq2
    by_cases hlt : m < 5
    · obtain ⟨p, hp⟩ : ∃ p : Nat, p + m = 4 := ⟨4 - m, by omega⟩
      have ep : (4 : Int) - (m : Int) = (p : Int) := by omega
      rw [ep]
      have hc2 := hr.cell (i := p) (by omega)
      rw [if_neg (by omega)] at hc2
      have hf2 := hr.frozen p
      have HRW := Lib.hid hr
      have HQ := Lib.hid hq
      have HP := Lib.hid hp
      have hp5 : p < 5 := by omega
      clear hr hq hp ep hlt hm
      go_wp2
      go_roundw
      case rel =>
        have hp := HP.out
        refine ⟨m + 1, by omega, int_eq (by omega), by rw [HQ.out]; rfl, (HRW.out.set p _).congr (fun j hj => ?_), hB.out.setCell (Nat.le_refl _) _⟩
        by_cases e : j = p
        · subst e
          rw [if_pos rfl, if_pos (by omega), HQ.out, show 4 - j = m by omega]
        · rw [if_neg e]
          by_cases e2 : 4 < j + m
          · rw [if_pos e2, if_pos (by omega)]
          · rw [if_neg e2, if_neg (by omega)]
      case measure => simp [intOf] <;> omega
    · have hm5 : m = 5 := by omega
      subst hm5
      have HRW := Lib.hid hr
      clear hr hlt hq
      go_wp2
      go_ret
      refine ⟨some ⟨w.heap.size, 0, none⟩, 5, rfl, OwnI.of_rowIs (Nat.le_refl _) HRW.out.lt (by simp [digs]) (by decide) HRW.out (fun j hj => ?_), hB.out⟩
      have : j = 0 ∨ j = 1 ∨ j = 2 ∨ j = 3 ∨ j = 4 := by simp [digs] at hj; omega
      rcases this with rfl | rfl | rfl | rfl | rfl <;> rfl

theorem implParts_any (v : Int) (w : World) : Calls Tryd.prog 9 #[.int .i64 v] w (GivesD w (ptK v) (ptL v) (ptC v)) := by
  by_cases hv : 0 ≤ v ∧ v ≤ 3341636
  · have R : Hid (ptK v = v / 371293 ∧ ptL v = digs v ∧ ptC v = 0) := by show _ ∧ _ ∧ _; unfold ptK ptL ptC; rw [if_pos hv, if_pos hv, if_pos hv]; exact ⟨rfl, rfl, rfl⟩
    obtain ⟨h0, h1⟩ := hv
    go_enter Tryd.func9, Tryd.ntmps9
    go_wp2_with (go_at_call 15; refine (within_yes _ _ _ _ (by omega) (by omega)).mono ?_; rintro e w2 ⟨rfl, rfl⟩)
    refine (digitsOf_any v _ h0 h1).mono ?_
    rintro e w2 ⟨A, c, rfl, ho, hb⟩
    have HO := Lib.hid ho
    clear ho
    go_wp2
    go_ret3
    rw [R.out.1, R.out.2.1, R.out.2.2]
    exact ⟨A, c, rfl, HO.out, hb⟩
  · have R : Hid (ptK v = 0 ∧ ptL v = [] ∧ ptC v = 2) := by show _ ∧ _ ∧ _; unfold ptK ptL ptC; rw [if_neg hv, if_neg hv, if_neg hv]; exact ⟨rfl, rfl, rfl⟩
    have H : Hid (v < 0 ∨ 3341636 < v) := by show v < 0 ∨ 3341636 < v; omega
    clear hv
    go_enter Tryd.func9, Tryd.ntmps9
    go_wp2_with (go_at_call 15; refine (within_no _ _ _ _ H.out).mono ?_; rintro e w2 ⟨rfl, rfl⟩)
    go_ret3
    rw [R.out.1, R.out.2.1, R.out.2.2]
    exact ⟨none, 0, rfl, OwnI.nil_ _ _, Below.refl _ _⟩

theorem specParts_any (v : Int) (w : World) : Calls Tryd.prog 10 #[.int .i64 v] w (GivesD w (ptK v) (ptL v) (ptC v)) := by
  by_cases hv : 0 ≤ v ∧ v ≤ 3341636
  · have R : Hid (ptK v = v / 371293 ∧ ptL v = digs v ∧ ptC v = 0) := by show _ ∧ _ ∧ _; unfold ptK ptL ptC; rw [if_pos hv, if_pos hv, if_pos hv]; exact ⟨rfl, rfl, rfl⟩
    obtain ⟨h0, h1⟩ := hv
    have D : Hid (digs v = [v % 371293 / 28561, v % 371293 / 2197 % 13, v % 371293 / 169 % 13, v % 371293 / 13 % 13, v % 13]) := by
      show digs v = _
      have e1 : vq v 4 % 13 = v % 371293 / 28561 := by show v / 13 / 13 / 13 / 13 % 13 = _; omega
      have e2 : vq v 3 % 13 = v % 371293 / 2197 % 13 := by show v / 13 / 13 / 13 % 13 = _; omega
      have e3 : vq v 2 % 13 = v % 371293 / 169 % 13 := by show v / 13 / 13 % 13 = _; omega
      have e4 : vq v 1 % 13 = v % 371293 / 13 % 13 := by show v / 13 % 13 = _; omega
      unfold digs
      rw [e1, e2, e3, e4]; rfl
    go_enter Tryd.func10, Tryd.ntmps10
    go_wp2_with (go_at_call 23; refine (l01In_yes _ _ _ _ (by omega) (by omega)).mono ?_; rintro e w2 ⟨rfl, rfl⟩)
    go_ret3
    rw [R.out.1, R.out.2.1, R.out.2.2, D.out]
    refine ⟨_, _, rfl, OwnI.of_rowIs (Nat.le_refl _) (by simp) (by simp) (by decide) (World.rowIs_alloc w _ _ (fun j => .int .i64 ([v % 371293 / 28561, v % 371293 / 2197 % 13, v % 371293 / 169 % 13, v % 371293 / 13 % 13, v % 13].getD j 0)) (fun i hi => ?_)) (fun j _ => rfl), (Below.refl _ _).alloc (Nat.le_refl _) _⟩
    have : i = 0 ∨ i = 1 ∨ i = 2 ∨ i = 3 ∨ i = 4 := by simp at hi; omega
    rcases this with rfl | rfl | rfl | rfl | rfl <;> rfl
  · have R : Hid (ptK v = 0 ∧ ptL v = [] ∧ ptC v = 2) := by show _ ∧ _ ∧ _; unfold ptK ptL ptC; rw [if_neg hv, if_neg hv, if_neg hv]; exact ⟨rfl, rfl, rfl⟩
    have H : Hid (v < 0 ∨ 3341636 < v) := by show v < 0 ∨ 3341636 < v; omega
    clear hv
    go_enter Tryd.func10, Tryd.ntmps10
    go_wp2_with (go_at_call 23; refine (l01In_no _ _ _ _ H.out).mono ?_; rintro e w2 ⟨rfl, rfl⟩)
    go_ret3
    rw [R.out.1, R.out.2.1, R.out.2.2]
    exact ⟨none, 0, rfl, OwnI.nil_ _ _, Below.refl _ _⟩

/-! ### IsEightOrBetter, CountEights -/
def eightB (v : Int) : Bool := decide (0 ≤ v ∧ v ≤ 228487)
end Go.Proofs.YtbhlghadjcbilaaDoor
