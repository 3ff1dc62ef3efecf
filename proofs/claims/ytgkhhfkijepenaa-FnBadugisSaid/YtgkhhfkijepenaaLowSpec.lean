/-
  Low ranks of cards in the reference.
-/
import Derived.Test.YtgkhhfkijepenaaOwnT
import Derived.Test.YtgkhhfkijepenaaOwn
import Derived.Test.YtgkhhfkijepenaaMathCards
import Derived.Test.YtgkhhfkijepenaaMathSort
import Derived.Deep.AppendLies
import Derived.Deep.RegionLaw
namespace Go.Proofs.Ytgkhhfkijepenaa
open Go.RowKit

theorem l05Rank_any2 (x : Int) (w : World) (h0 : 0 ≤ x) (h1 : x ≤ 51) : Calls Try.prog 55 #[.int .i64 x] w fun e w' => e = .returned (.int .i64 (lowI x)) ∧ w = w' := by
  go_enter Try.func55, Try.ntmps55
  go_wp2
  go_ret
  exact ⟨ret_int (by unfold lowI; omega), rfl⟩

theorem implRank_any2 (x : Int) (w : World) (h0 : 0 ≤ x) (h1 : x ≤ 51) : Calls Try.prog 26 #[.int .i64 x] w fun e w' => e = .returned (.int .i64 (lowI x)) ∧ w = w' := by
  go_enter Try.func26, Try.ntmps26
  go_wp2
  go_ret
  exact ⟨ret_int (by unfold lowI; omega), rfl⟩

set_option maxHeartbeats 1000000 in
theorem l05Ranks_any (A : Option Addr) (c : Nat) (xs : List Int) (n : Nat) (w : World) (hn : n = xs.length) (h : RowI w A xs) (hl : xs.length ≤ 8) (ho : okC xs) :
    Calls Try.prog 30 #[.slice A n c] w (GivesT w (xs.map lowI)) := by
  rw [← hn] at hl
  have HN := Lib.hid hn
  have HR := Lib.hid h
  have HO := Lib.hid ho
  obtain ⟨i0, hi, hz0, hz1, hz2⟩ := info_parts int_info
  have HI := Lib.hid (And.intro hi (And.intro hz0 (And.intro hz1 hz2)))
  clear hn h ho hi hz0 hz1 hz2
  go_enter Try.func30, Try.ntmps30
  go_wp2
  go_loopw [3, 4] (fun v i wr => ∃ k : Nat, k ≤ n ∧ i = .int .i64 k ∧ Hid (wr.ownsRow w.heap.size 2 1 v k (((xs.take k).map lowI).map (Value.int .i64))) ∧ Hid (Below w.heap.size w wr)) (fun _ i _ => n - (intOf i).toNat)
  case atStart => exact ⟨0, Nat.zero_le _, rfl, World.ownsRow_made w #[] 0 (Nat.le_refl _) (by decide) rfl, (Below.refl _ _).alloc (Nat.le_refl _) _⟩
  case round =>
    obtain ⟨k, hk, rfl, OW, BL⟩ := hrel
    by_cases hkn : k < n
    · have hkx : k < xs.length := by rw [← HN.out]; exact hkn
      obtain ⟨b, off, rfl, hb, hcell⟩ := HR.out.at_ hkx
      obtain ⟨x, hx⟩ : ∃ x, x = xs.getD k 0 := ⟨_, rfl⟩
      have hxm : x ∈ xs := by rw [hx, List.getD_eq_getElem?_getD, List.getElem?_eq_getElem hkx]; exact List.getElem_mem hkx
      have x01 := HO.out.1 x hxm
      have hcw : wr.cell? ⟨b, off + k, none⟩ = some (.int .i64 x) := by rw [hx]; exact (BL.out.cell (p := ⟨b, off + k, none⟩) hb).trans hcell
      have TK : Hid ((xs.take (k + 1)).map lowI = (xs.take k).map lowI ++ [lowI x]) := by
        show _ = _
        rw [List.take_succ_eq_append_getElem hkx, List.map_append, hx, List.getD_eq_getElem?_getD, List.getElem?_eq_getElem hkx]; rfl
      clear hx hxm hcell hb hkx
      go_wp2_with fail
      refine (l05Rank_any2 x _ x01.1 x01.2).mono ?_
      rintro e w3 ⟨rfl, rfl⟩
      obtain ⟨y, hy⟩ : ∃ y, y = lowI x := ⟨_, rfl⟩
      have HY := Lib.hid hy
      rw [← hy]
      clear hy x01
      go_wp2_with (at_builtin; refine wpList_append_lies _ rfl (.tmp 12) (.tmp 18) 24 rfl w.heap.size 2 i0 (.int .i64 0) 1 8 Try.underlying24 HI.out.1 HI.out.2.1 HI.out.2.2.1 HI.out.2.2.2 rfl (by decide) _ k _ rfl (OW.out.alloc _) ⟨wr.heap.size, 0, none⟩ 1 1 [.int .i64 y] rfl rfl (World.news_of_block (heap_alloc_new _ _)) (by simp [Value.oneCell']) (by decide) (by simp only [maxLen]; omega) (by omega) (by simp; have := BL.out.size; omega) _ rfl ?_; intro q cap w5 hown5 hgrow5 hat5 hlt5; have O5 := Lib.hid hown5; have G5 := Lib.hid hgrow5; clear hown5 hgrow5 hat5 hlt5)
      go_roundw
      case rel => exact ⟨k + 1, by omega, by go_num, by show World.ownsRow _ _ _ _ _ _ _; rw [TK.out, ← HY.out, List.map_append]; exact O5.out, ((BL.out.alloc BL.out.size _).grown G5.out (by simp; have := BL.out.size; omega) (fun j e => (OW.out.lt j e).1))⟩
      case measure => simp [intOf]; omega
    · have hkn' : k = n := by omega
      subst hkn'
      have OW2 := OW.out
      rw [HN.out, List.take_length] at OW2
      obtain ⟨A', c', hv, hT⟩ := ownT_of_owns (xs := xs.map lowI) (by rw [List.length_map]; exact OW2)
      rw [List.length_map, ← HN.out] at hv
      subst hv
      have FIN : Hid (GivesT w (xs.map lowI) (.returned (.slice A' k c')) wr) := ⟨A', c', by rw [List.length_map, ← HN.out], hT, BL.out⟩
      clear OW2 hT hkn
      go_wp2
      go_ret
      exact FIN.out
end Go.Proofs.Ytgkhhfkijepenaa
