/-
  RiffleDeck in the reference and in the program.
-/
import Derived.Test.YtljlnfdbjeinaaaDeck
import Derived.Test.YtljlnfdbjeinaaaMathRiffle
import Derived.Deep.AppendLies
import Derived.Deep.RegionLaw
namespace Go.Proofs.Ytljlnfdbjeinaaa
open Go.RowKit

set_option maxHeartbeats 1000000 in
theorem specRiffle_any (A : Option Addr) (c : Nat) (xs : List Int) (w : World) (h : RowI w A xs) (hl : xs.length ≤ 1048576) :
    Calls Try.prog 27 #[.slice A xs.length c] w (GivesC w (rifL xs) (rifC xs)) := by
  have HR := Lib.hid h
  clear h
  cases hd : deckB xs
  · have H := Lib.hid hd
    have R : Hid (rifL xs = [] ∧ rifC xs = 1) := by show _ ∧ _; unfold rifL rifC; rw [hd]; exact ⟨rfl, rfl⟩
    clear hd
    go_enter Try.func27, Try.ntmps27
    go_wp2_with fail
    refine (specIsDeck_any A c xs _ HR.out hl).mono ?_
    rintro e w1 ⟨rfl, hb⟩
    rw [H.out]
    go_wp2
    go_ret2
    exact ⟨none, 0, by rw [R.out.1, R.out.2]; rfl, by rw [R.out.1]; exact OwnI.nil_ _ _, hb⟩
  · have H := Lib.hid hd
    have HD := Lib.hid ((deckB_iff xs).1 hd)
    have R : Hid (rifL xs = rifK xs 26 ∧ rifC xs = 0) := by show _ ∧ _; unfold rifL rifC; rw [if_pos hd, if_pos hd]; exact ⟨rfl, rfl⟩
    clear hd
    obtain ⟨i0, hi, hz0, hz1, hz2⟩ := info_parts int_info
    have HI := Lib.hid (And.intro hi (And.intro hz0 (And.intro hz1 hz2)))
    clear hi hz0 hz1 hz2
    go_enter Try.func27, Try.ntmps27
    go_wp2_with fail
    refine (specIsDeck_any A c xs _ HR.out hl).mono ?_
    rintro e w1 ⟨rfl, hb⟩
    rw [H.out]
    have HB := Lib.hid hb
    have HR1 := Lib.hid (HR.out.below hb)
    clear hb
    go_wp2
    go_loopw [4, 5] (fun v i wr => ∃ k : Nat, k ≤ 26 ∧ i = .int .i64 k ∧ Hid (wr.ownsRow w1.heap.size 2 1 v (2 * k) ((rifK xs k).map (Value.int .i64))) ∧ Hid (Below w1.heap.size w1 wr))
      (fun _ i _ => 26 - (intOf i).toNat)
    case atStart => exact ⟨0, Nat.zero_le _, rfl, World.ownsRow_made w1 #[] 0 (Nat.le_refl _) (by decide) rfl, (Below.refl _ _).alloc (Nat.le_refl _) _⟩
    case round =>
      obtain ⟨k, hk, rfl, hown, hB⟩ := hrel
      by_cases hlt : k < 26
      · have hk1 : k < xs.length := by rw [HD.out.2]; omega
        have hk2 : 26 + k < xs.length := by rw [HD.out.2]; omega
        obtain ⟨b, off, rfl, hb, hc⟩ := HR1.out.at_ hk1
        obtain ⟨b', off', he, _, hc'⟩ := HR1.out.at_ hk2
        simp only [Option.some.injEq, Addr.mk.injEq, and_true] at he
        obtain ⟨rfl, rfl⟩ := he
        obtain ⟨x, hx⟩ : ∃ x, x = xs.getD k 0 := ⟨_, rfl⟩
        obtain ⟨y, hy⟩ : ∃ y, y = xs.getD (26 + k) 0 := ⟨_, rfl⟩
        have hc1 : wr.cell? ⟨b, off + k, none⟩ = some (.int .i64 x) := by rw [hx]; exact (hB.out.cell (p := ⟨b, off + k, none⟩) hb).trans hc
        have hc2 : wr.cell? ⟨b, off + (26 + k), none⟩ = some (.int .i64 y) := by rw [hy]; exact (hB.out.cell (p := ⟨b, off + (26 + k), none⟩) hb).trans hc'
        have hn := Lib.hid HD.out.2
        have k0 : (0 : Int) ≤ (k : Int) := by omega
        have k1 : (k : Int) < (xs.length : Int) := by omega
        have k2 : (26 : Int) + (k : Int) < (xs.length : Int) := by omega
        have k3 : IntKind.i64.wrap (26 + (k : Int)) = 26 + (k : Int) := IntWalk.i64_in _ (by omega)
        have k4 : (26 + (k : Int)).toNat = 26 + k := by omega
        have k5 : (0 : Int) ≤ 26 + (k : Int) := by omega
        have HX := Lib.hid hx
        have HY := Lib.hid hy
        have HK := Lib.hid hk1
        clear hx hy hc hc' hb hk1 hk2
        go_wp2
        go_region_law (refine step_append_lies _ rfl (.tmp 14) (.tmp 24) 22 rfl w1.heap.size 2 i0 (.int .i64 0) 1 8 Try.underlying22 HI.out.1 HI.out.2.1 HI.out.2.2.1 HI.out.2.2.2 rfl (by decide) _ (2 * k) _ rfl ((hown.out.alloc _).drew) ⟨wr.heap.size, 0, none⟩ 2 2 [.int .i64 x, .int .i64 y] rfl rfl (World.news_of_block (heap_alloc_new _ _)) (by simp [Value.oneCell']) (by decide) (by simp only [maxLen]; omega) (by omega) (by simp; have := hB.out.size; omega) _ rfl ?_; intro g cap w2 hown2 hgrow2 hat hlt2)
        all_goals
          have R1 := Lib.hid hown2
          have G1 := Lib.hid (hB.out.trans ((((Below.refl _ _).alloc hB.out.size _).drew).grown hgrow2 (by simp; have := hB.out.size; omega) (fun j e => (hown.out.lt j e).1)))
          clear hown2 hgrow2 hat hlt2
          go_wp2
          go_roundw
          case rel =>
            refine ⟨k + 1, by omega, by go_num, ?_, G1⟩
            show World.ownsRow _ _ _ _ _ _ _
            have e : 2 * (k + 1) = 2 * k + 2 := by omega
            have e2 : (rifK xs (k + 1)).map (Value.int .i64) = (rifK xs k).map (Value.int .i64) ++ [Value.int .i64 x, Value.int .i64 y] := by
              simp [rifK, HX.out, HY.out]
            rw [e, e2]
            exact R1.out
          case measure => simp [intOf]; omega
      · have hkn : k = 26 := by omega
        subst hkn
        have e : 2 * 26 = (rifK xs 26).length := (rifK_length xs 26).symm
        obtain ⟨A', c', hv, ho⟩ := ownI_of_owns (xs := rifK xs 26) (by rw [← e]; exact hown.out)
        have HO := Lib.hid ho
        subst hv
        clear ho hlt
        go_wp2
        go_ret2
        exact ⟨A', c', by rw [R.out.1, R.out.2]; rfl, by rw [R.out.1]; exact HO.out.mono HB.out.size, HB.out.trans (hB.out.mono HB.out.size)⟩

set_option maxHeartbeats 1000000 in
theorem implRiffle_any (A : Option Addr) (c : Nat) (xs : List Int) (w : World) (h : RowI w A xs) (hl : xs.length ≤ 1048576) :
    Calls Try.prog 26 #[.slice A xs.length c] w (GivesC w (rifL xs) (rifC xs)) := by
  have HR := Lib.hid h
  clear h
  cases hd : deckB xs
  · have H := Lib.hid hd
    have R : Hid (rifL xs = [] ∧ rifC xs = 1) := by show _ ∧ _; unfold rifL rifC; rw [hd]; exact ⟨rfl, rfl⟩
    clear hd
    go_enter Try.func26, Try.ntmps26
    go_wp2_with fail
    refine (implIsDeck_any A c xs _ HR.out hl).mono ?_
    rintro e w1 ⟨rfl, hb⟩
    rw [H.out]
    go_wp2
    go_ret2
    exact ⟨none, 0, by rw [R.out.1, R.out.2]; rfl, by rw [R.out.1]; exact OwnI.nil_ _ _, hb⟩
  · have H := Lib.hid hd
    have HD := Lib.hid ((deckB_iff xs).1 hd)
    have R : Hid (rifL xs = rifK xs 26 ∧ rifC xs = 0) := by show _ ∧ _; unfold rifL rifC; rw [if_pos hd, if_pos hd]; exact ⟨rfl, rfl⟩
    clear hd
    have hmk : ∀ w : World, (Instr.makeSlice 22 (.int .i64 0) (.int .i64 52)).run Try.prog w = .ok (.slice (some ⟨w.heap.size, 0, none⟩) 0 52) (w.alloc (.cells (madeCells #[.int .i64 0] 52) 2)) := fun _ => by kernel_rfl
    obtain ⟨i0, hi, hz0, hz1, hz2⟩ := info_parts int_info
    have HI := Lib.hid (And.intro hi (And.intro hz0 (And.intro hz1 hz2)))
    clear hi hz0 hz1 hz2
    go_enter Try.func26, Try.ntmps26
    go_wp2_with fail
    refine (implIsDeck_any A c xs _ HR.out hl).mono ?_
    rintro e w1 ⟨rfl, hb⟩
    rw [H.out]
    have HB := Lib.hid hb
    have HR1 := Lib.hid (HR.out.below hb)
    clear hb
    go_wp2
    go_loopw [4, 5, 10] (fun v _ i wr => ∃ k : Nat, k ≤ 26 ∧ i = .int .i64 k ∧ Hid (wr.ownsRow w1.heap.size 2 1 v (2 * k) ((rifK xs k).map (Value.int .i64))) ∧ Hid (Below w1.heap.size w1 wr))
      (fun _ _ i _ => 26 - (intOf i).toNat)
    case atStart => exact ⟨0, Nat.zero_le _, rfl, World.ownsRow_made w1 _ 52 (Nat.le_refl _) (by decide) (size_madeCells _ _), (Below.refl _ _).alloc (Nat.le_refl _) _⟩
    case round =>
      obtain ⟨k, hk, rfl, hown, hB⟩ := hrel
      clear hmk
      by_cases hlt : k < 26
      · have hk1 : k < xs.length := by rw [HD.out.2]; omega
        have hk2 : 26 + k < xs.length := by rw [HD.out.2]; omega
        obtain ⟨b, off, rfl, hb, hc⟩ := HR1.out.at_ hk1
        obtain ⟨b', off', he, _, hc'⟩ := HR1.out.at_ hk2
        simp only [Option.some.injEq, Addr.mk.injEq, and_true] at he
        obtain ⟨rfl, rfl⟩ := he
        obtain ⟨x, hx⟩ : ∃ x, x = xs.getD k 0 := ⟨_, rfl⟩
        obtain ⟨y, hy⟩ : ∃ y, y = xs.getD (26 + k) 0 := ⟨_, rfl⟩
        have hc1 : wr.cell? ⟨b, off + k, none⟩ = some (.int .i64 x) := by rw [hx]; exact (hB.out.cell (p := ⟨b, off + k, none⟩) hb).trans hc
        have hc2 : wr.cell? ⟨b, off + (k + 26), none⟩ = some (.int .i64 y) := by rw [hy]; exact (hB.out.cell (p := ⟨b, off + (k + 26), none⟩) hb).trans (by rw [Nat.add_comm k 26]; exact hc')
        have hn := Lib.hid HD.out.2
        have k0 : (0 : Int) ≤ (k : Int) := by omega
        have k1 : (k : Int) < (xs.length : Int) := by omega
        have k2 : (k : Int) + 26 < (xs.length : Int) := by omega
        have k3 : IntKind.i64.wrap ((k : Int) + 26) = (k : Int) + 26 := IntWalk.i64_in _ (by omega)
        have k4 : ((k : Int) + 26).toNat = k + 26 := by omega
        have k5 : (0 : Int) ≤ (k : Int) + 26 := by omega
        have HX := Lib.hid hx
        have HY := Lib.hid hy
        have HK := Lib.hid hk1
        clear hx hy hc hc' hb hk1 hk2
        go_wp2
        go_region_law (refine step_append_lies _ rfl (.tmp 13) (.tmp 23) 22 rfl w1.heap.size 2 i0 (.int .i64 0) 1 8 Try.underlying22 HI.out.1 HI.out.2.1 HI.out.2.2.1 HI.out.2.2.2 rfl (by decide) _ (2 * k) _ rfl ((hown.out.alloc _).drew) ⟨wr.heap.size, 0, none⟩ 2 2 [.int .i64 x, .int .i64 y] rfl rfl (World.news_of_block (heap_alloc_new _ _)) (by simp [Value.oneCell']) (by decide) (by simp only [maxLen]; omega) (by omega) (by simp; have := hB.out.size; omega) _ rfl ?_; intro g cap w2 hown2 hgrow2 hat hlt2)
        all_goals
          have R1 := Lib.hid hown2
          have G1 := Lib.hid (hB.out.trans ((((Below.refl _ _).alloc hB.out.size _).drew).grown hgrow2 (by simp; have := hB.out.size; omega) (fun j e => (hown.out.lt j e).1)))
          clear hown2 hgrow2 hat hlt2
          go_wp2
          go_roundw
          case rel =>
            refine ⟨k + 1, by omega, by go_num, ?_, G1⟩
            show World.ownsRow _ _ _ _ _ _ _
            have e : 2 * (k + 1) = 2 * k + 2 := by omega
            have e2 : (rifK xs (k + 1)).map (Value.int .i64) = (rifK xs k).map (Value.int .i64) ++ [Value.int .i64 x, Value.int .i64 y] := by
              simp [rifK, HX.out, HY.out]
            rw [e, e2]
            exact R1.out
          case measure => simp [intOf]; omega
      · have hkn : k = 26 := by omega
        subst hkn
        have e : 2 * 26 = (rifK xs 26).length := (rifK_length xs 26).symm
        obtain ⟨A', c', hv, ho⟩ := ownI_of_owns (xs := rifK xs 26) (by rw [← e]; exact hown.out)
        have HO := Lib.hid ho
        subst hv
        clear ho hlt
        go_wp2
        go_ret2
        exact ⟨A', c', by rw [R.out.1, R.out.2]; rfl, by rw [R.out.1]; exact HO.out.mono HB.out.size, HB.out.trans (hB.out.mono HB.out.size)⟩
end Go.Proofs.Ytljlnfdbjeinaaa
