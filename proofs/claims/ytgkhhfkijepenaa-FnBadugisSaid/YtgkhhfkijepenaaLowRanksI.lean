/-
  impl.LowRanks.
-/
import Derived.Test.YtgkhhfkijepenaaSortW
import Derived.Test.YtgkhhfkijepenaaLowSpec
import Derived.Test.YtgkhhfkijepenaaSized
import Derived.Test.YtgkhhfkijepenaaLowRanksS
namespace Go.Proofs.Ytgkhhfkijepenaa
open Go.RowKit

theorem map_low_getD {xs : List Int} {k : Nat} (h : k < xs.length) : (xs.map lowI).getD k 0 = lowI (xs.getD k 0) := by simp [List.getD_eq_getElem?_getD, h]

set_option maxHeartbeats 2000000 in
theorem implLow_any (A : Option Addr) (c : Nat) (xs : List Int) (w : World) (h : RowI w A xs) (hl : xs.length ≤ 1048576) :
    Calls Try.prog 14 #[.slice A xs.length c] w (GivesC w (lowL xs) (lowC xs)) := by
  have HR := Lib.hid h
  clear h
  by_cases h8 : xs.length ≤ 8
  · have d1 : decide ((8 : Int) < (xs.length : Int)) = false := by simp; omega
    by_cases ho : okC xs
    · have hs : szP xs 0 8 := ⟨Nat.zero_le _, h8, ho⟩
      have R : Hid (lowL xs = (sortS (xs.map lowI)).reverse ∧ lowC xs = 0) := by show _ ∧ _; unfold lowL lowC; rw [if_pos hs, if_pos hs]; exact ⟨rfl, rfl⟩
      have AC : Hid (areC xs = true) := (areC_iff xs).2 ho
      have HO := Lib.hid ho
      obtain ⟨n, hn⟩ : ∃ n, n = xs.length := ⟨_, rfl⟩
      have hmk := run_make_row' (P := Try.prog) 24 2 _ 8 Try.underlying24 int_info rfl .i64 .i64 n (by omega) (by omega)
      have CALL := Lib.hid (implAreCards_any A c xs w HR.out hl)
      rw [← hn] at h8 d1 CALL ⊢
      have HN := Lib.hid hn
      clear hs ho hn hl
      go_enter Try.func14, Try.ntmps14
      go_wp2_with (go_at_call 31; refine CALL.out.mono ?_; rintro e w1 ⟨rfl, rfl⟩; rw [AC.out])
      go_wp2
      go_loopw [20] (fun i wr => ∃ k : Nat, k ≤ n ∧ i = .int .i64 k ∧ Hid (wr.rowIs w.heap.size 2 n (fun j => .int .i64 (if j < k then (xs.map lowI).getD j 0 else 0))) ∧ Hid (Below w.heap.size w wr))
        (fun i _ => n - (intOf i).toNat)
      case atStart => exact ⟨0, Nat.zero_le _, rfl, (World.rowIs_made w _ n _).congr (fun i _ => by simp), (Below.refl _ _).alloc (Nat.le_refl _) _⟩
      case round =>
        obtain ⟨k, hk, rfl, RW, BW⟩ := hrel
        clear hmk
        by_cases hlt : k < n
        · have hkx : k < xs.length := by rw [← HN.out]; exact hlt
          obtain ⟨b, off, rfl, hb, hcell⟩ := HR.out.at_ hkx
          obtain ⟨x, hx⟩ : ∃ x, x = xs.getD k 0 := ⟨_, rfl⟩
          have hxm : x ∈ xs := by rw [hx, List.getD_eq_getElem?_getD, List.getElem?_eq_getElem hkx]; exact List.getElem_mem hkx
          have x01 := HO.out.1 x hxm
          have hc1 : wr.cell? ⟨b, off + k, none⟩ = some (.int .i64 x) := by rw [hx]; exact (BW.out.cell (p := ⟨b, off + k, none⟩) hb).trans hcell
          have HX : Hid ((xs.map lowI).getD k 0 = lowI x) := by show _ = _; rw [map_low_getD hkx, hx]
          have hc2 := RW.out.cell hlt
          simp only [Nat.lt_irrefl, if_false] at hc2
          have hf2 := RW.out.frozen k
          clear hx hxm hcell hb hkx
          go_wp2_with fail
          refine (implRank_any2 x _ x01.1 x01.2).mono ?_
          rintro e w3 ⟨rfl, rfl⟩
          obtain ⟨y, hy⟩ : ∃ y, y = lowI x := ⟨_, rfl⟩
          have HY := Lib.hid hy
          rw [← hy]
          clear hy x01
          go_wp2
          go_roundw
          case rel =>
            exact ⟨k + 1, by omega, by go_num, (RW.out.set k _).congr (fun j _ => by
              by_cases e : j = k
              · subst e; simp only [if_true, Nat.lt_succ_self]; rw [HX.out, HY.out]
              · simp only [e, if_false]
                by_cases e2 : j < k
                · simp [e2, Nat.lt_succ_of_lt e2]
                · have : ¬ j < k + 1 := by omega
                  simp [e2, this]), BW.out.setCell (Nat.le_refl _) _⟩
          case measure => simp [intOf]; omega
        · have hkn : k = n := by omega
          have ML : Hid ((xs.map lowI).length = n) := by show _ = _; rw [List.length_map, ← HN.out]
          have OW : Hid (OwnI wr w.heap.size (some ⟨w.heap.size, 0, none⟩) n (xs.map lowI)) := by
            refine OwnI.of_rowIs (Nat.le_refl _) RW.out.lt (by rw [ML.out]; exact Nat.le_refl _) (by simp only [maxLen]; omega) RW.out (fun j hj => ?_)
            rw [ML.out] at hj
            have : j < k := by omega
            simp [this]
          clear hkn
          go_wp2_with fail
          refine (sort_any w.heap.size _ n (xs.map lowI) n _ ML.out.symm OW.out (by rw [ML.out]; omega)).mono ?_
          rintro e w4 ⟨rfl, ho4, hg4⟩
          have O4 := Lib.hid ho4
          have B4 := Lib.hid (BW.out.grown hg4 BW.out.size (fun j e => by cases e; exact Nat.le_refl _))
          clear ho4 hg4
          go_wp2_with fail
          refine (rev_any w.heap.size _ n (sortS (xs.map lowI)) n _ (by rw [sortS_length, ML.out]) O4.out (by rw [sortS_length, ML.out]; omega)).mono ?_
          rintro e w5 ⟨rfl, ho5, hg5⟩
          have FIN : Hid (GivesC w (lowL xs) (lowC xs) (.returned (.tuple #[.slice (some ⟨w.heap.size, 0, none⟩) n n, .int .i64 0])) w5) := by
            rw [R.out.1, R.out.2]
            exact ⟨_, n, by rw [List.length_reverse, sortS_length, ML.out], ho5, B4.out.grown hg5 B4.out.size (fun j e => by cases e; exact Nat.le_refl _)⟩
          clear ho5 hg5
          go_wp2
          go_ret2
          exact FIN.out
    · have R : Hid (lowL xs = [] ∧ lowC xs = 1) := by show _ ∧ _; unfold lowL lowC; rw [if_neg (fun h => ho h.2.2), if_neg (fun h => ho h.2.2)]; exact ⟨rfl, rfl⟩
      have AC : Hid (areC xs = false) := areC_no ho
      have CALL := Lib.hid (implAreCards_any A c xs w HR.out hl)
      clear ho h8 hl
      go_enter Try.func14, Try.ntmps14
      go_wp2_with (go_at_call 31; refine CALL.out.mono ?_; rintro e w1 ⟨rfl, rfl⟩; rw [AC.out])
      go_ret2
      exact ⟨none, 0, by rw [R.out.1, R.out.2]; rfl, by rw [R.out.1]; exact OwnI.nil_ _ _, Below.refl _ _⟩
  · have R : Hid (lowL xs = [] ∧ lowC xs = 1) := by show _ ∧ _; unfold lowL lowC; rw [if_neg (fun h => h8 h.2.1), if_neg (fun h => h8 h.2.1)]; exact ⟨rfl, rfl⟩
    have d1 : decide ((8 : Int) < (xs.length : Int)) = true := by simp; omega
    clear h8 hl
    go_enter Try.func14, Try.ntmps14
    go_wp2
    go_ret2
    exact ⟨none, 0, by rw [R.out.1, R.out.2]; rfl, by rw [R.out.1]; exact OwnI.nil_ _ _, Below.refl _ _⟩
end Go.Proofs.Ytgkhhfkijepenaa
