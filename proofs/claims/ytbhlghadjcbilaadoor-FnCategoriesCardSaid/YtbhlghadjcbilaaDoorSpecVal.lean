/-
  The category and the value of five cards in the reference.
-/
import Derived.Test.YtbhlghadjcbilaaDoorSpecKick
import Derived.Deep.RegionLaw
import Derived.BigRegion
namespace Go.Proofs.YtbhlghadjcbilaaDoor
open Go.RowKit

/-- Of the first k ranks, from below, how many occur n times. -/
def manyK (c : Nat → Nat) (k n : Nat) : Nat := ((List.range k).filter fun r => c r == n).length
theorem manyK_succ (c : Nat → Nat) (k n : Nat) : manyK c (k + 1) n = manyK c k n + if c k = n then 1 else 0 := by
  unfold manyK
  rw [List.range_succ, List.filter_append, List.length_append]
  by_cases e : c k = n
  · simp [e]
  · simp [e]
theorem manyK_all (c : Nat → Nat) (n : Nat) : manyK c 13 n = manyS c n := by
  unfold manyK manyS
  have : ranks = (List.range 13).reverse := by decide
  rw [this, List.filter_reverse, List.length_reverse]
theorem manyK_le (c : Nat → Nat) (k n : Nat) : manyK c k n ≤ k := by
  unfold manyK
  exact Nat.le_trans (List.length_filter_le _ _) (by simp)
theorem suit_row {w : World} {lo : Nat} {A : Option Addr} {cp : Nat} {xs : List Int} (h : OwnI w lo A cp (cntL suKey 4 xs)) : ∃ b off, A = some ⟨b, off, none⟩ ∧ b < w.heap.size ∧ ∀ r, r < 4 → w.cell? ⟨b, off + r, none⟩ = some (.int .i64 (sut xs r : Nat)) := by
  rcases h.row with h | ⟨b, off, e, hb, hc⟩
  · have := congrArg List.length h; rw [cntL_length] at this; cases this
  · refine ⟨b, off, e, hb, fun r hr => ?_⟩
    rw [hc r (by rw [cntL_length]; exact hr), cntL_getD _ _ _ _ hr, sutN_sut _ _ _ (Nat.le_refl _), List.take_length]

set_option maxHeartbeats 2000000 in
set_option maxRecDepth 8000 in
theorem l04Category_any (A : Option Addr) (cp : Nat) (xs : List Int) (w : World) (h : RowI w A xs) (h5 : xs.length = 5) (hok : okC xs) :
    Calls Tryd.prog 24 #[.slice A xs.length cp] w fun e w' => e = .returned (.int .i64 (catS (cnt xs) (fluB xs) : Nat)) ∧ Below w.heap.size w w' := by
  have HR := Lib.hid h
  have HO := Lib.hid hok
  have H5 := Lib.hid h5
  have hl : xs.length ≤ 1048576 := by omega
  obtain ⟨c, hc⟩ : ∃ c, c = cnt xs := ⟨_, rfl⟩
  have hc4 : Hid (∀ r, c r ≤ 4) := by rw [hc]; exact cnt_le hok
  rw [← hc]
  have HCC := Lib.hid hc
  clear h hok hc h5
  have hmk : ∀ w : World, (Instr.makeSlice 27 (.int .i64 5) (.int .i64 5)).run Tryd.prog w = .ok (.slice (some ⟨w.heap.size, 0, none⟩) 5 5) (w.alloc (.cells (madeCells #[.int .i64 0] 5) 2)) := fun _ => by kernel_rfl
  obtain ⟨b0, off0, rfl, hb0, hx0⟩ := HR.out.at_ (k := 0) (by rw [H5.out]; omega)
  have hx2 := okC_getD HO.out (k := 0) (by rw [H5.out]; omega)
  obtain ⟨x, hx⟩ : ∃ x, x = xs.getD 0 0 := ⟨_, rfl⟩
  rw [← hx] at hx0 hx2
  rw [Nat.add_zero] at hx0
  obtain ⟨x0, x1⟩ := hx2
  obtain ⟨r, hr⟩ : ∃ r : Nat, x % 4 = (r : Int) := ⟨(x % 4).toNat, by omega⟩
  have FL : Hid (fluB xs = decide (sut xs r = 5)) := by show _ = _; unfold fluB; rw [← hx, hr]; rfl
  have hr4 : r < 4 := by omega
  have hx0H := Lib.hid (And.intro hb0 hx0)
  have HRR := Lib.hid hr
  clear hx hr hb0 hx0
  go_enter Tryd.func24, Tryd.ntmps24
  go_wp2_with fail
  refine (l02RankCounts_any _ cp xs _ HR.out hl HO.out).mono ?_
  rintro e w1 ⟨A1, c1, rfl, ho, hb⟩
  have CN : Hid (IsCnt w1 A1 c) := by show IsCnt w1 A1 c; rw [HCC.out]; exact isCnt_of ho
  have B1 := Lib.hid hb
  rw [cntL_length]
  clear ho hb
  obtain ⟨b, off, rfl, hbb, hcell⟩ := CN.out
  have HCL := Lib.hid (And.intro hbb hcell)
  clear hbb hcell
  go_wp2
  go_loopw [5] (fun i wr => ∃ k : Nat, k ≤ 13 ∧ i = .int .i64 (k : Int) ∧ wr.rowIs w1.heap.size 2 5 (fun j => .int .i64 (manyK c k j : Nat)) ∧ Hid (Below w1.heap.size w1 wr))
    (fun i _ => 13 - (intOf i).toNat)
  case atStart => exact ⟨0, by omega, rfl, (World.rowIs_made w1 _ 5 _).congr (fun i _ => by simp [manyK]), (Below.refl _ _).alloc (Nat.le_refl _) _⟩
  case round =>
    obtain ⟨k, hk, rfl, hrow, hB⟩ := hrel
    clear hmk
    by_cases hlt : k < 13
    · have cC : wr.cell? ⟨b, off + k, none⟩ = some (.int .i64 (c k : Nat)) := (hB.out.cell (p := ⟨b, off + k, none⟩) HCL.out.1).trans (HCL.out.2 k hlt)
      obtain ⟨q, hq⟩ : ∃ q, q = c k := ⟨_, rfl⟩
      have hq4 : q ≤ 4 := by rw [hq]; exact hc4.out k
      rw [← hq] at cC
      have hq5 : q < 5 := by omega
      have hqi : (q : Int) < 5 := by omega
      have hc2 := hrow.cell (i := q) hq5
      have hf2 := hrow.frozen q
      obtain ⟨N, hN⟩ : ∃ N, N = manyK c k q := ⟨_, rfl⟩
      have hN13 : N ≤ 13 := by rw [hN]; exact Nat.le_trans (manyK_le c k q) (by omega)
      rw [← hN] at hc2
      have w1' : IntKind.i64.wrap ((N : Int) + 1) = (N : Int) + 1 := IntWalk.i64_in _ (by omega)
      have HRW := Lib.hid hrow
      have HQ := Lib.hid hq
      have HN := Lib.hid hN
      have bne : ¬ b = w1.heap.size := by have := HCL.out.1; omega
      clear hrow hq hN
      go_wp2
      go_roundw
      case rel =>
        refine ⟨k + 1, by omega, by go_num, (HRW.out.set q _).congr (fun j _ => ?_), hB.out.setCell (Nat.le_refl _) _⟩
        rw [manyK_succ, ← HQ.out]
        by_cases e : j = q
        · subst e; rw [if_pos rfl, if_pos rfl, HN.out]; rfl
        · rw [if_neg e, if_neg (by omega)]; rfl
      case measure => simp [intOf]; omega
    · have hk13 : k = 13 := by omega
      subst hk13
      have m4 := hrow.cell (i := 4) (by omega)
      have m3 := hrow.cell (i := 3) (by omega)
      have m2 := hrow.cell (i := 2) (by omega)
      rw [manyK_all] at m4 m3 m2
      obtain ⟨n4, e4⟩ : ∃ n, n = manyS c 4 := ⟨_, rfl⟩
      obtain ⟨n3, e3⟩ : ∃ n, n = manyS c 3 := ⟨_, rfl⟩
      obtain ⟨n2, e2⟩ : ∃ n, n = manyS c 2 := ⟨_, rfl⟩
      rw [← e4] at m4
      rw [← e3] at m3
      rw [← e2] at m2
      have MM := Lib.hid (And.intro m4 (And.intro m3 (And.intro m2 hrow.lt)))
      have EE := Lib.hid (And.intro e4 (And.intro e3 e2))
      have BW := Lib.hid (B1.out.trans (hB.out.mono B1.out.size))
      have x0c : wr.cell? ⟨b0, off0, none⟩ = some (.int .i64 x) := (BW.out.cell (p := ⟨b0, off0, none⟩) hx0H.out.1).trans hx0H.out.2
      have RW := Lib.hid (HR.out.below BW.out)
      have HBsz : Hid (b0 < wr.heap.size) := Nat.lt_of_lt_of_le hx0H.out.1 BW.out.size
      have hri := HRR.out
      have r0 : x.tmod 4 = (r : Int) := by rw [Int.tmod_eq_emod_of_nonneg x0, hri]
      have r1 : (r : Int) < 4 := by omega
      have len2 : 0 < xs.length := by have := H5.out; omega
      clear m4 m3 m2 e4 e3 e2 hrow hlt hk hri
      go_wp2
      go_region_law (go_simp; go_at_call 30; refine (l02SuitCounts_any _ cp xs _ (RW.out.drewN 1) hl HO.out).mono ?_; rintro e w3 ⟨A3, c3, rfl, ho, hb⟩; obtain ⟨b3, off3, rfl, hb3, hc3⟩ := suit_row ho; have hcr := hc3 r hr4; have x3c : w3.cell? ⟨b0, off0, none⟩ = some (.int .i64 x) := (hb.cell (p := ⟨b0, off0, none⟩) HBsz.out).trans x0c; have B3 := Lib.hid hb; rw [cntL_length]; clear ho hb hb3 hc3)
      all_goals
        have eF : (((sut xs r : Nat) : Int) == 5) = fluB xs := by
          rw [FL.out, Bool.eq_iff_iff, beq_iff_eq, decide_eq_true_eq]; omega
        rw [eF]
        have q4 : w3.cell? ⟨w1.heap.size, 4, none⟩ = some (.int .i64 (n4 : Nat)) := (B3.out.cell (p := ⟨w1.heap.size, 4, none⟩) MM.out.2.2.2).trans MM.out.1
        have q3 : w3.cell? ⟨w1.heap.size, 3, none⟩ = some (.int .i64 (n3 : Nat)) := (B3.out.cell (p := ⟨w1.heap.size, 3, none⟩) MM.out.2.2.2).trans MM.out.2.1
        have q2 : w3.cell? ⟨w1.heap.size, 2, none⟩ = some (.int .i64 (n2 : Nat)) := (B3.out.cell (p := ⟨w1.heap.size, 2, none⟩) MM.out.2.2.2).trans MM.out.2.2.1
        have CN3 : Hid (IsCnt w3 (some ⟨b, off, none⟩) c) := by
          refine ⟨b, off, rfl, ?_, fun j hj => ?_⟩
          · have := HCL.out.1; have := MM.out.2.2.2; have := B3.out.size; simp at this; omega
          · have h1 : b < wr.heap.size := by have := HCL.out.1; have := MM.out.2.2.2; omega
            exact (B3.out.cell (p := ⟨b, off + j, none⟩) h1).trans ((by assumption : Hid (Below w1.heap.size w1 wr)).out.cell (p := ⟨b, off + j, none⟩) HCL.out.1 |>.trans (HCL.out.2 j hj))
        have BE := Lib.hid (BW.out.trans ((below_drewN (Below.refl _ _) 1).mono BW.out.size |>.trans (B3.out.mono BW.out.size)))
        obtain ⟨F, hF⟩ : ∃ F, F = fluB xs := ⟨_, rfl⟩
        rw [← hF]
        have CAT : Hid (catS c F = if (stS c).isSome = true ∧ F = true then 8 else if n4 = 1 then 7 else if n3 = 1 ∧ n2 = 1 then 6 else if F = true then 5 else if (stS c).isSome = true then 4 else if n3 = 1 then 3 else if n2 = 2 then 2 else if n2 = 1 then 1 else 0) := by
          show _ = _
          unfold catS
          rw [EE.out.1, EE.out.2.1, EE.out.2.2]
        have HF := Lib.hid hF
        clear eF hF x3c hcr
        cases F
        all_goals
          cases hs : stS c
          all_goals
            rw [hs] at CAT
            have HS := Lib.hid hs
            have CAT2 := CAT.out
            simp at CAT2
            have CAT3 := Lib.hid CAT2
            clear hs CAT2
            go_wp2_with fail
            refine (l04Straight_any _ c1 c _ CN3.out).mono ?_
            rintro e w4 ⟨rfl, rfl⟩
            unfold stSI
            rw [HS.out]
            go_wp2
            all_goals
              go_ret
              refine ⟨ret_int ?_, BE.out⟩
              rw [← HF.out, CAT3.out]
              first
                | rfl
                | ((repeat' split) <;> first | rfl | (exfalso; omega))
                | (simp only [beq_iff_eq, beq_eq_false_iff_ne, ne_eq] at *; (repeat' split) <;> first | rfl | (exfalso; omega))
end Go.Proofs.YtbhlghadjcbilaaDoor
