/-
  RanksIn in the reference and in the program.
-/
import Derived.Test.YtbhlghadjcbilaaDoorAreCards
import Derived.Test.YtbhlghadjcbilaaDoorOwn
import Derived.Test.YtbhlghadjcbilaaDoorMathCount
import Derived.Laws.Rows
import Derived.Laws.Tables
namespace Go.Proofs.YtbhlghadjcbilaaDoor
open Go.RowKit

set_option maxRecDepth 8000 in
/-- The counts in the reference. -/
theorem l02RankCounts_any (A : Option Addr) (c : Nat) (xs : List Int) (w : World) (h : RowI w A xs) (hl : xs.length ≤ 1048576) (hok : okC xs) :
    Calls Tryd.prog 29 #[.slice A xs.length c] w (GivesI w (cntL rkKey 13 xs)) := by
  obtain ⟨n, hn⟩ : ∃ n, n = xs.length := ⟨_, rfl⟩
  rw [← hn] at hl ⊢
  have HN := Lib.hid hn
  have HR := Lib.hid h
  have HO := Lib.hid hok
  clear hn h hok
  have hmk : ∀ w : World, (Instr.makeSlice 27 (.int .i64 13) (.int .i64 13)).run Tryd.prog w = .ok (.slice (some ⟨w.heap.size, 0, none⟩) 13 13) (w.alloc (.cells (madeCells #[.int .i64 0] 13) 2)) := fun _ => by kernel_rfl
  go_enter Tryd.func29, Tryd.ntmps29
  go_wp2
  go_loopw [4] (fun i wr => ∃ k : Nat, k ≤ n ∧ i = .int .i64 k ∧ wr.rowIs w.heap.size 2 13 (fun j => .int .i64 (cntN rkKey xs j k)) ∧ Hid (Below w.heap.size w wr))
    (fun i _ => n - (intOf i).toNat)
  case atStart => exact ⟨0, Nat.zero_le _, rfl, (World.rowIs_made w _ 13 _).congr (fun i _ => by simp [cntN]), (Below.refl _ _).alloc (Nat.le_refl _) _⟩
  case round =>
    obtain ⟨k, hk, rfl, hr, hB⟩ := hrel
    clear hmk
    by_cases hlt : k < n
    · obtain ⟨b, off, rfl, hb, hc⟩ := HR.out.at_ (k := k) (by rw [← HN.out]; exact hlt)
      have hx2 := okC_getD HO.out (k := k) (by rw [← HN.out]; exact hlt)
      obtain ⟨x, hx⟩ : ∃ x, x = xs.getD k 0 := ⟨_, rfl⟩
      rw [← hx] at hx2
      obtain ⟨x0, x1⟩ := hx2
      have hc1 : wr.cell? ⟨b, off + k, none⟩ = some (.int .i64 x) := by rw [hx]; exact (hB.out.cell (p := ⟨b, off + k, none⟩) hb).trans hc
      obtain ⟨q, hq⟩ : ∃ q : Nat, x / 4 = (q : Int) := ⟨(x / 4).toNat, by omega⟩
      have k0 : (0 : Int) ≤ x / 4 := by omega
      have k1 : x / 4 < 13 := by omega
      have k4 : (x / 4).toNat = q := by omega
      have hqm : q < 13 := by omega
      have hc2 := hr.cell (i := q) hqm
      obtain ⟨v, hv⟩ : ∃ v, v = cntN rkKey xs q k := ⟨_, rfl⟩
      have hv2 := cntN_le rkKey xs q k
      rw [← hv] at hc2 hv2
      obtain ⟨v0, v1⟩ := hv2
      have k5 : IntKind.i64.wrap (v + 1) = v + 1 := IntWalk.i64_in _ (by omega)
      have hf2 := hr.frozen q
      have HRW := Lib.hid hr
      have HX := Lib.hid hx
      have HQ := Lib.hid hq
      have HV := Lib.hid hv
      have bne : ¬ b = w.heap.size := by omega
      clear hr hx hc hq hv hb
      go_wp2
      go_roundw
      case rel =>
        refine ⟨k + 1, by omega, by go_num, (HRW.out.set q _).congr (fun j _ => ?_), hB.out.setCell (Nat.le_refl _) _⟩
        have hkey : rkKey (xs.getD k 0) = (q : Int) := by rw [← HX.out, ← HQ.out]; rfl
        rw [cntN_succ, hkey]
        by_cases e : j = q
        · subst e
          rw [if_pos rfl, if_pos rfl, HV.out]
        · have e2 : ¬ (q : Int) = (j : Int) := by omega
          rw [if_neg e, if_neg e2, Int.add_zero]
      case measure => simp [intOf]; omega
    · have hkn : k = n := by omega
      have HRW := Lib.hid hr
      subst hkn
      clear hr hlt
      go_wp2
      go_ret
      have O : OwnI wr w.heap.size (some ⟨w.heap.size, 0, none⟩) 13 (cntL rkKey 13 xs) := OwnI.of_rowIs (Nat.le_refl _) HRW.out.lt (by rw [cntL_length]; exact Nat.le_refl _) (by simp only [maxLen]; omega) HRW.out (fun j hj => by
        rw [cntL_length] at hj
        rw [cntL_getD _ _ _ _ hj, ← HN.out])
      exact ⟨some ⟨w.heap.size, 0, none⟩, 13, by rw [cntL_length]; rfl, O, hB.out⟩

end Go.Proofs.YtbhlghadjcbilaaDoor
