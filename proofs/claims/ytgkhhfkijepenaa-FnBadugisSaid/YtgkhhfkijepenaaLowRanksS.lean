/-
  LowRanks in the reference.
-/
import Derived.Test.YtgkhhfkijepenaaSized
import Derived.Test.YtgkhhfkijepenaaLowSpec
import Derived.Test.YtgkhhfkijepenaaSorted
namespace Go.Proofs.Ytgkhhfkijepenaa
open Go.RowKit

def lowL (xs : List Int) : List Int := if szP xs 0 8 then (sortS (xs.map lowI)).reverse else []
def lowC (xs : List Int) : Int := if szP xs 0 8 then 0 else 1
theorem rev_next {U : List Int} {k : Nat} (h : k < U.length) : U.reverse.take (k + 1) = U.reverse.take k ++ [U.getD (U.length - 1 - k) 0] := by
  rw [List.take_succ_eq_append_getElem (by simpa using h), List.getElem_reverse, List.getD_eq_getElem?_getD, List.getElem?_eq_getElem (by omega)]
  rfl

set_option maxHeartbeats 2000000 in
set_option maxRecDepth 8000 in
theorem specLow_any (A : Option Addr) (c : Nat) (xs : List Int) (w : World) (h : RowI w A xs) (hl : xs.length ≤ 1048576) :
    Calls Try.prog 15 #[.slice A xs.length c] w (GivesC w (lowL xs) (lowC xs)) := by
  have HR := Lib.hid h
  clear h
  by_cases hs : szP xs 0 8
  · have R : Hid (lowL xs = (sortS (xs.map lowI)).reverse ∧ lowC xs = 0) := by show _ ∧ _; unfold lowL lowC; rw [if_pos hs, if_pos hs]; exact ⟨rfl, rfl⟩
    have D : Hid (decide (szP xs 0 8) = true) := decide_eq_true hs
    have HS := Lib.hid hs
    obtain ⟨i0, hi, hz0, hz1, hz2⟩ := info_parts int_info
    have HI := Lib.hid (And.intro hi (And.intro hz0 (And.intro hz1 hz2)))
    obtain ⟨U, hU⟩ : ∃ U, U = sortS (xs.map lowI) := ⟨_, rfl⟩
    have UX : Hid (U.length = xs.length) := by show _ = _; rw [hU, sortS_length, List.length_map]
    have HU := Lib.hid hU
    clear hs hi hz0 hz1 hz2 hU
    go_enter Try.func15, Try.ntmps15
    go_wp2_with fail
    refine (l04Sized_any A c xs 0 8 _ _ _ rfl rfl HR.out hl).mono ?_
    rintro e w1 ⟨rfl, hb⟩
    rw [D.out]
    obtain ⟨n, hn⟩ : ∃ n, n = xs.length := ⟨_, rfl⟩
    have n8 : n ≤ 8 := by rw [hn]; exact HS.out.2.1
    have UL : Hid (U.length = n) := UX.out.trans hn.symm
    have HN := Lib.hid hn
    rw [← hn]
    clear hn hl
    have B1 := Lib.hid hb
    clear hb
    go_wp2_with fail
    refine (l05Ranks_any A c xs n _ HN.out (HR.out.below B1.out) (by rw [← HN.out]; exact n8) HS.out.2.2).mono ?_
    rintro e w2 ⟨A2, c2, rfl, ho, hb⟩
    have B2 := Lib.hid (B1.out.trans (hb.mono B1.out.size))
    have O2 := Lib.hid ho.own.row
    obtain ⟨ys, hys⟩ : ∃ ys, ys = xs.map lowI := ⟨_, rfl⟩
    have YL : Hid (ys.length = n) := by show _ = _; rw [hys, List.length_map, ← HN.out]
    have HU2 : Hid (U = sortS ys) := HU.out.trans (by rw [hys])
    have O2Y : Hid (RowI w2 A2 ys) := by rw [hys]; exact O2.out
    rw [← hys, YL.out]
    clear ho hb hys O2
    go_wp2_with fail
    refine (l02Sorted_any A2 c2 ys n _ YL.out.symm O2Y.out (by rw [YL.out]; omega)).mono ?_
    rintro e w3 ⟨A3, c3, rfl, ho, hb⟩
    rw [← HU2.out, UL.out]
    rw [← HU2.out] at ho
    have B3 := Lib.hid (B2.out.trans (hb.mono B2.out.size))
    have O3 := Lib.hid ho.own.row
    clear ho hb O2Y
    go_wp2
    go_loopw [5, 6] (fun v i wr => ∃ k : Nat, k ≤ n ∧ i = .int .i64 ((n : Int) - 1 - (k : Int)) ∧ Hid (wr.ownsRow w3.heap.size 2 1 v k ((U.reverse.take k).map (Value.int .i64))) ∧ Hid (Below w3.heap.size w3 wr)) (fun _ i _ => (intOf i + 1).toNat)
    case atStart => exact ⟨0, Nat.zero_le _, by simp, World.ownsRow_made w3 #[] 0 (Nat.le_refl _) (by decide) rfl, (Below.refl _ _).alloc (Nat.le_refl _) _⟩
    case round =>
      obtain ⟨k, hk, rfl, OW, BL⟩ := hrel
      by_cases hkn : k < n
      · obtain ⟨m, hm⟩ : ∃ m, m = n - 1 - k := ⟨_, rfl⟩
        have hmi : (n : Int) - 1 - (k : Int) = (m : Int) := by omega
        have mn : m < n := by omega
        rw [hmi]
        obtain ⟨b, off, rfl, hb, hcell⟩ := O3.out.at_ (k := m) (by rw [UL.out]; exact mn)
        obtain ⟨x, hx⟩ : ∃ x, x = U.getD m 0 := ⟨_, rfl⟩
        have hcw : wr.cell? ⟨b, off + m, none⟩ = some (.int .i64 x) := by rw [hx]; exact (BL.out.cell (p := ⟨b, off + m, none⟩) hb).trans hcell
        have TK : Hid (U.reverse.take (k + 1) = U.reverse.take k ++ [x]) := by show _ = _; rw [rev_next (by rw [UL.out]; exact hkn), hx, UL.out, hm]
        have KM : Hid (k + m + 1 = n) := by show _ = _; omega
        clear hm hmi hx hcell hb
        have m0 : (0 : Int) ≤ (m : Int) := by omega
        have m1 : (m : Int) < (n : Int) := by omega
        go_wp2_with (at_builtin; refine wpList_append_lies _ rfl (.tmp 21) (.tmp 26) 24 rfl w3.heap.size 2 i0 (.int .i64 0) 1 8 Try.underlying24 HI.out.1 HI.out.2.1 HI.out.2.2.1 HI.out.2.2.2 rfl (by decide) _ k _ rfl (OW.out.alloc _) ⟨wr.heap.size, 0, none⟩ 1 1 [.int .i64 x] rfl rfl (World.news_of_block (heap_alloc_new _ _)) (by simp [Value.oneCell']) (by decide) (by simp only [maxLen]; omega) (by omega) (by simp; have := BL.out.size; omega) _ rfl ?_; intro q cap w5 hown5 hgrow5 hat5 hlt5; have O5 := Lib.hid hown5; have G5 := Lib.hid hgrow5; clear hown5 hgrow5 hat5 hlt5)
        go_roundw
        case rel => exact ⟨k + 1, by omega, by have := KM.out; go_num, by show World.ownsRow _ _ _ _ _ _ _; rw [TK.out, List.map_append]; exact O5.out, ((BL.out.alloc BL.out.size _).grown G5.out (by simp; have := BL.out.size; omega) (fun j e => (OW.out.lt j e).1))⟩
        case measure => simp [intOf] <;> omega
      · have hkn' : k = n := by omega
        have hneg : (n : Int) - 1 - (k : Int) = -1 := by omega
        rw [hneg]
        have OW2 := OW.out
        rw [hkn', List.take_of_length_le (by rw [List.length_reverse, UL.out]; exact Nat.le_refl _)] at OW2
        obtain ⟨A', c', hv, hT⟩ := ownI_of_owns (xs := U.reverse) (by rw [List.length_reverse, UL.out]; exact OW2)
        rw [List.length_reverse, UL.out] at hv
        subst hv
        have FIN : Hid (GivesC w (lowL xs) (lowC xs) (.returned (.tuple #[.slice A' n c', .int .i64 0])) wr) := by
          rw [R.out.1, R.out.2, ← HU.out]
          exact ⟨A', c', by rw [List.length_reverse, UL.out], hT.mono B3.out.size, B3.out.trans (BL.out.mono B3.out.size)⟩
        clear hT OW2 hneg hkn
        go_wp2
        go_ret2
        exact FIN.out
  · have R : Hid (lowL xs = [] ∧ lowC xs = 1) := by show _ ∧ _; unfold lowL lowC; rw [if_neg hs, if_neg hs]; exact ⟨rfl, rfl⟩
    have D : Hid (decide (szP xs 0 8) = false) := decide_eq_false hs
    clear hs
    go_enter Try.func15, Try.ntmps15
    go_wp2_with fail
    refine (l04Sized_any A c xs 0 8 _ _ _ rfl rfl HR.out hl).mono ?_
    rintro e w1 ⟨rfl, hb⟩
    rw [D.out]
    have B1 := Lib.hid hb
    clear hb
    go_wp2
    go_ret2
    exact ⟨none, 0, by rw [R.out.1, R.out.2]; rfl, by rw [R.out.1]; exact OwnI.nil_ _ _, B1.out⟩
end Go.Proofs.Ytgkhhfkijepenaa
