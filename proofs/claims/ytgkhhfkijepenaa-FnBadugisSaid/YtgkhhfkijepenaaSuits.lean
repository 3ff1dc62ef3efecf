/-
  SuitsIn in the reference and in the program.
-/
import Derived.Test.YtgkhhfkijepenaaAreCards
import Derived.Test.YtgkhhfkijepenaaOwn
import Derived.Test.YtgkhhfkijepenaaMathCount
import Derived.Laws.Rows
import Derived.Laws.Tables
namespace Go.Proofs.Ytgkhhfkijepenaa
open Go.RowKit

theorem arr4_info : (Try.prog.info? 53).map (·.size) = some 4 := by kernel_rfl

set_option maxRecDepth 8000 in
/-- The counts in the program: an array. -/
theorem suitsIn_any (A : Option Addr) (c : Nat) (xs : List Int) (w : World) (h : RowI w A xs) (hl : xs.length ≤ 1048576) (hok : okC xs) :
    Calls Try.prog 47 #[.slice A xs.length c] w fun e w' => ∃ cs : Array Value, e = .returned (.agg cs) ∧ Hid (cs.size = 4 ∧ ∀ j, j < 4 → cs[j]? = some (.int .i64 (cntN suKey xs j xs.length))) ∧ Below w.heap.size w w' := by
  obtain ⟨n, hn⟩ : ∃ n, n = xs.length := ⟨_, rfl⟩
  rw [← hn] at hl ⊢
  have HN := Lib.hid hn
  have HR := Lib.hid h
  have HO := Lib.hid hok
  clear hn h hok
  go_enter Try.func47, Try.ntmps47
  go_wp2
  go_loopw [5, 8] (fun _ i wr => ∃ k : Nat, k ≤ n ∧ i = .int .i64 k ∧ wr.rowIs (w.heap.size + 1) 53 4 (fun j => .int .i64 (cntN suKey xs j k)) ∧ Hid (wr.rowIs w.heap.size 53 4 (fun _ => .int .i64 0)) ∧ Hid (Below w.heap.size w wr))
    (fun _ i _ => n - (intOf i).toNat)
  case atStart => exact ⟨0, Nat.zero_le _, rfl, (rowIs_zeros (w.alloc _) 4 _ _ rfl (w.heap.size + 1) (by simp)).congr (fun i _ => by simp [cntN]), (rowIs_zeros w 4 _ _ rfl _ rfl).alloc _, ((Below.refl _ _).alloc (Nat.le_refl _) _).alloc (by simp) _⟩
  case round =>
    obtain ⟨k, hk, rfl, hr, hz, hB⟩ := hrel
    by_cases hlt : k < n
    · obtain ⟨b, off, rfl, hb, hc⟩ := HR.out.at_ (k := k) (by rw [← HN.out]; exact hlt)
      have hx2 := okC_getD HO.out (k := k) (by rw [← HN.out]; exact hlt)
      obtain ⟨x, hx⟩ : ∃ x, x = xs.getD k 0 := ⟨_, rfl⟩
      rw [← hx] at hx2
      obtain ⟨x0, x1⟩ := hx2
      have hc1 : wr.cell? ⟨b, off + k, none⟩ = some (.int .i64 x) := by rw [hx]; exact (hB.out.cell (p := ⟨b, off + k, none⟩) hb).trans hc
      obtain ⟨q, hq⟩ : ∃ q : Nat, x % 4 = (q : Int) := ⟨(x % 4).toNat, by omega⟩
      have k0 : (0 : Int) ≤ x % 4 := by omega
      have k1 : x % 4 < 4 := by omega
      have k4 : (x % 4).toNat = q := by omega
      have hqm : q < 4 := by omega
      have hc2 := hr.cell (i := q) hqm
      obtain ⟨v, hv⟩ : ∃ v, v = cntN suKey xs q k := ⟨_, rfl⟩
      have hv2 := cntN_le suKey xs q k
      rw [← hv] at hc2 hv2
      obtain ⟨v0, v1⟩ := hv2
      have k5 : IntKind.i64.wrap (v + 1) = v + 1 := IntWalk.i64_in _ (by omega)
      have hf2 := hr.frozen q
      have HRW := Lib.hid hr
      have HX := Lib.hid hx
      have HQ := Lib.hid hq
      have HV := Lib.hid hv
      have bne : ¬ b = w.heap.size + 1 := by omega
      clear hr hx hc hq hv hb
      go_wp2
      go_roundw
      case rel =>
        refine ⟨k + 1, by omega, by go_num, (HRW.out.set q _).congr (fun j _ => ?_), hz.out.setOther (by simp) _, hB.out.setCell (by simp) _⟩
        have hkey : suKey (xs.getD k 0) = (q : Int) := by rw [← HX.out, ← HQ.out]; rfl
        rw [cntN_succ, hkey]
        by_cases e : j = q
        · subst e
          rw [if_pos rfl, if_pos rfl, HV.out]
        · have e2 : ¬ (q : Int) = (j : Int) := by omega
          rw [if_neg e, if_neg e2, Int.add_zero]
      case measure => simp [intOf]; omega
    · have hkn : k = n := by omega
      obtain ⟨cs, hg1, hs1, hc1⟩ := hr
      obtain ⟨c0, hg0, hs0, _⟩ := hz.out
      have HG1 := Lib.hid hg1
      have HG0 := Lib.hid hg0
      have HC := Lib.hid hc1
      have all1 : cs.all (·.oneCell') = true := by
        rw [Array.all_eq_true]
        intro i hi
        have := hc1 i (by rw [← hs1]; exact hi)
        rw [Array.getElem?_eq_getElem hi] at this
        rw [Option.some.inj this]; rfl
      have HA := Lib.hid all1
      subst hkn
      clear hlt hg1 hg0 hc1 all1
      go_wp2_with (first
        | refine wpList_load_row rfl 53 (.tmp 3) rfl (w.heap.size + 1) rfl 53 cs (0, 0) _ HG1.out Try.underlying53 rfl (by rw [arr4_info, hs1]) ?_
        | refine wpList_store_row rfl 53 (.tmp 2) (.tmp 19) rfl w.heap.size cs rfl rfl 53 c0 HG0.out (by rw [arr4_info, hs1]) (by rw [hs0, hs1]) HA.out ?_)
      refine bodyPost_ret (results_cell_row (g := w.heap.size) (t := 53) (cs := cs) (fr := (0, 0)) (d := _) rfl _ _ rfl (setRow_heap _ _ _ _ _ _ HG0.out) Try.underlying53 rfl (by rw [arr4_info, hs1])) rfl ?_
      exact ⟨cs, rfl, ⟨hs1, HC.out⟩, below_setRow hB.out (Nat.le_refl _) _⟩

theorem implSuitsIn_any (A : Option Addr) (c : Nat) (xs : List Int) (w : World) (h : RowI w A xs) (hl : xs.length ≤ 1048576) :
    Calls Try.prog 17 #[.slice A xs.length c] w (GivesC w (suL xs) (arC xs)) := by
  have HR := Lib.hid h
  clear h
  cases hd : areC xs
  · have H := Lib.hid hd
    have R : Hid (suL xs = [] ∧ arC xs = 1) := by show _ ∧ _; unfold suL arC; rw [hd]; exact ⟨rfl, rfl⟩
    clear hd
    go_enter Try.func17, Try.ntmps17
    go_wp2_with fail
    refine (implAreCards_below A c xs _ HR.out hl).mono ?_
    rintro e w1 ⟨rfl, hb⟩
    rw [H.out]
    go_wp2
    go_ret2
    exact ⟨none, 0, by rw [R.out.1, R.out.2]; rfl, by rw [R.out.1]; exact OwnI.nil_ _ _, hb⟩
  · have H := Lib.hid hd
    have HD := Lib.hid ((areC_iff xs).1 hd)
    have R : Hid (suL xs = cntL suKey 4 xs ∧ arC xs = 0) := by show _ ∧ _; unfold suL arC; rw [if_pos hd, if_pos hd]; exact ⟨rfl, rfl⟩
    clear hd
    go_enter Try.func17, Try.ntmps17
    go_wp2_with fail
    refine (implAreCards_below A c xs _ HR.out hl).mono ?_
    rintro e w1 ⟨rfl, hb⟩
    rw [H.out]
    go_wp2_with fail
    refine (suitsIn_any A c xs _ (HR.out.below hb) hl HD.out).mono ?_
    rintro e w2 ⟨cs, rfl, hcs, hb2⟩
    obtain ⟨hs1, hcs⟩ := hcs.out
    have all1 : cs.all (·.oneCell') = true := by
      rw [Array.all_eq_true]
      intro i hi
      have := hcs i (by rw [← hs1]; exact hi)
      rw [Array.getElem?_eq_getElem hi] at this
      rw [Option.some.inj this]; rfl
    have HA := Lib.hid all1
    have HC := Lib.hid hcs
    have HB := Lib.hid (hb.trans (hb2.mono hb.size))
    clear all1 hcs hb hb2
    go_wp2_with (refine wpList_store_row rfl 53 (.tmp 4) (.tmp 9) rfl w2.heap.size cs rfl rfl 53 _ (heap_alloc_new _ _) (by rw [arr4_info, hs1]) (by rw [hs1]; rfl) HA.out ?_)
    go_ret2
    have O : ∀ old : Array Value, OwnI ((w2.alloc (.cells old 53)).setRow w2.heap.size cs) w.heap.size (some ⟨w2.heap.size, 0, none⟩) 4 (cntL suKey 4 xs) := fun old => by
      have ROW : World.rowIs ((w2.alloc (.cells old 53)).setRow w2.heap.size cs) w2.heap.size 53 4 (fun j => .int .i64 (cntN suKey xs j xs.length)) := ⟨cs, setRow_heap _ _ _ _ _ (0, 0) (heap_alloc_new _ _), hs1, HC.out⟩
      exact OwnI.of_rowIs HB.out.size ROW.lt (by rw [cntL_length]; exact Nat.le_refl _) (by simp only [maxLen]; omega) ROW (fun j hj => by
        rw [cntL_length] at hj
        rw [cntL_getD _ _ _ _ hj])
    exact ⟨some ⟨w2.heap.size, 0, none⟩, 4, by rw [R.out.1, R.out.2, cntL_length]; rfl, by rw [R.out.1]; exact O _, below_setRow (HB.out.alloc HB.out.size _) HB.out.size _⟩
end Go.Proofs.Ytgkhhfkijepenaa
