/-
  DealHands in the reference.
-/
import Derived.Test.YtmmpeaedglnjlaaDeck
import Derived.Test.YtmmpeaedglnjlaaChoices
import Derived.Deep.AppendLies
import Derived.Deep.RegionLaw
namespace Go.Proofs.Ytmmpeaedglnjlaa
open Go.RowKit

/-- The first k cards of a hand, the first m hands. -/
def handK (xs : List Int) (H m k : Nat) : List Int := (List.range k).map fun i => xs.getD (i * H + m) 0
def dealK (xs : List Int) (H C m : Nat) : List (List Int) := (List.range m).map fun h => handK xs H h C
theorem handK_succ (xs : List Int) (H m k : Nat) : handK xs H m (k + 1) = handK xs H m k ++ [xs.getD (k * H + m) 0] := by simp [handK, List.range_succ]
theorem handK_length (xs : List Int) (H m k : Nat) : (handK xs H m k).length = k := by simp [handK]
theorem dealK_succ (xs : List Int) (H C m : Nat) : dealK xs H C (m + 1) = dealK xs H C m ++ [handK xs H m C] := by simp [dealK, List.range_succ]
theorem dealK_length (xs : List Int) (H C m : Nat) : (dealK xs H C m).length = m := by simp [dealK]
def dealOk (xs : List Int) (h c : Int) : Prop := deckP xs ∧ (1 ≤ h ∧ h ≤ 10) ∧ 0 ≤ c ∧ c ≤ 52 / h
instance (xs : List Int) (h c : Int) : Decidable (dealOk xs h c) := by unfold dealOk deckP; infer_instance
def dealL (xs : List Int) (h c : Int) : List (List Int) := if dealOk xs h c then dealK xs h.toNat c.toNat h.toNat else []
def dealC (xs : List Int) (h c : Int) : Int := if deckB xs = true then if dealOk xs h c then 0 else 2 else 1
theorem deal_room {H C : Nat} (h1 : 1 ≤ H) (h10 : H ≤ 10) (hc : (C : Int) ≤ 52 / (H : Int)) : C * H ≤ 52 := by
  have : (52 : Int) / (H : Int) * (H : Int) ≤ 52 := Int.ediv_mul_le _ (by omega)
  have h2 : (C : Int) * (H : Int) ≤ 52 / (H : Int) * (H : Int) := Int.mul_le_mul_of_nonneg_right hc (by omega)
  have h3 : (C : Int) * (H : Int) ≤ 52 := by omega
  exact_mod_cast h3
theorem deal_idx {H C k m : Nat} (hr : C * H ≤ 52) (hk : k < C) (hm : m < H) : k * H + m ≤ 51 := by
  have : (k + 1) * H ≤ C * H := Nat.mul_le_mul_right H hk
  rw [Nat.add_mul, Nat.one_mul] at this
  omega
/-- A call hands back a list of lists of its own, and a code. -/
def GivesLC (w : World) (yss : List (List Int)) (k : Int) (e : Ending) (w' : World) : Prop :=
  ∃ A' c', e = .returned (.tuple #[.slice A' yss.length c', .int .i64 k]) ∧ ListsO w' w.heap.size A' yss ∧ Below w.heap.size w w'

set_option maxHeartbeats 4000000 in
set_option maxRecDepth 8000 in
theorem specDeal_any (A : Option Addr) (c : Nat) (xs : List Int) (h d : Int) (w : World) (hr : RowI w A xs) (hl : xs.length ≤ 1048576) :
    Calls Try.prog 18 #[.slice A xs.length c, .int .i64 h, .int .i64 d] w (GivesLC w (dealL xs h d) (dealC xs h d)) := by
  have HR := Lib.hid hr
  clear hr
  cases hd : deckB xs
  · have H := Lib.hid hd
    have R : Hid (dealL xs h d = [] ∧ dealC xs h d = 1) := by
      show _ ∧ _
      have hn : ¬ dealOk xs h d := fun e => by rw [(deckB_iff xs).2 e.1] at hd; cases hd
      unfold dealL dealC
      rw [if_neg hn, hd]
      exact ⟨rfl, rfl⟩
    clear hd
    go_enter Try.func18, Try.ntmps18
    go_wp2_with fail
    refine (specIsDeck_any A c xs _ HR.out hl).mono ?_
    rintro e w1 ⟨rfl, hb⟩
    rw [H.out]
    have HB := Lib.hid hb
    clear hb
    go_wp2
    go_ret2
    exact ⟨none, 0, by rw [R.out.1, R.out.2]; rfl, by rw [R.out.1]; exact .inl rfl, HB.out⟩
  have H := Lib.hid hd
  have HD := Lib.hid ((deckB_iff xs).1 hd)
  by_cases hh : 1 ≤ h ∧ h ≤ 10
  · obtain ⟨N, rfl⟩ := Int.eq_ofNat_of_zero_le (show 0 ≤ h by omega)
    have hN1 : 1 ≤ N := by omega
    have hN10 : N ≤ 10 := by omega
    have n0 : ¬ ((N : Int) = 0) := by omega
    have n1 : ((N : Int) == 0) = false := by simp; omega
    have hq : (52 : Int).tdiv (N : Int) = 52 / (N : Int) := Int.tdiv_eq_ediv_of_nonneg (by omega)
    have hq0 : 0 ≤ (52 : Int) / (N : Int) := Int.ediv_nonneg (by omega) (by omega)
    have hq1 : (52 : Int) / (N : Int) ≤ 52 := Int.ediv_le_self _ (by omega)
    clear hh
    by_cases hc : 0 ≤ d ∧ d ≤ 52 / (N : Int)
    · obtain ⟨C, rfl⟩ := Int.eq_ofNat_of_zero_le hc.1
      have R : Hid (dealL xs (N : Int) (C : Int) = dealK xs N C N ∧ dealC xs (N : Int) (C : Int) = 0) := by
        show _ ∧ _
        have hn : dealOk xs (N : Int) (C : Int) := ⟨HD.out, ⟨by omega, by omega⟩, hc⟩
        unfold dealL dealC
        rw [if_pos hn, if_pos hd, if_pos hn]
        exact ⟨rfl, rfl⟩
      have RM : Hid (C * N ≤ 52) := deal_room hN1 hN10 hc.2
      have hC2 := hc.2
      have hC52 : C ≤ 52 := by omega
      obtain ⟨i0, hi, hz0, hz1, hz2⟩ := info_parts int_info
      have HI := Lib.hid (And.intro hi (And.intro hz0 (And.intro hz1 hz2)))
      obtain ⟨i1, hi', hz0', hz1', hz2'⟩ := info_parts ints_info
      have HJ := Lib.hid (And.intro hi' (And.intro hz0' (And.intro hz1' hz2')))
      clear hd hc hi hz0 hz1 hz2 hi' hz0' hz1' hz2'
      go_enter Try.func18, Try.ntmps18
      go_wp2_with fail
      refine (specIsDeck_any A c xs _ HR.out hl).mono ?_
      rintro e w1 ⟨rfl, hb⟩
      rw [H.out]
      have HB := Lib.hid hb
      have HR1 := Lib.hid (HR.out.below hb)
      have ST0 := Lib.hid (Chs.start w1)
      clear hb
      go_wp2_with fail
      refine (l01In_yes _ _ _ _ (by omega) (by omega)).mono ?_
      rintro e w2 ⟨rfl, rfl⟩
      go_wp2_with fail
      refine (l01In_yes _ _ _ _ (by omega) (by omega)).mono ?_
      rintro e w2 ⟨rfl, rfl⟩
      clear hq hq0 hq1 hC2 n0 n1
      go_wp2
      go_loopw [8, 9, 10, 11] (fun v i _ _ wr => ∃ (m : Nat) (vals : List Value), m ≤ N ∧ i = .int .i64 m ∧ Hid (Chs w1 wr v m vals (dealK xs N C m))) (fun _ i _ _ _ => N - (intOf i).toNat)
      case atStart => exact ⟨0, [], Nat.zero_le _, rfl, ST0.out⟩
      case round =>
        obtain ⟨m, vals, hm, rfl, CH⟩ := hrel
        obtain ⟨wo, rfl⟩ : ∃ wo : World, wo = wr := ⟨_, rfl⟩
        clear ST0
        by_cases hmN : m < N
        · have MN := Lib.hid hmN
          go_wp2
          go_loopw [10, 11] (fun v' j wr => ∃ k : Nat, k ≤ C ∧ j = .int .i64 k ∧ Hid (wr.ownsRow wo.heap.size 2 1 v' k ((handK xs N m k).map (Value.int .i64))) ∧ Hid (Below wo.heap.size wo wr)) (fun _ j _ => C - (intOf j).toNat)
          case atStart => exact ⟨0, Nat.zero_le _, rfl, World.ownsRow_made wo #[] 0 (Nat.le_refl _) (by decide) rfl, (Below.refl _ _).alloc (Nat.le_refl _) _⟩
          case round =>
            obtain ⟨k, hk, rfl, OWk, BLk⟩ := hrel
            by_cases hkC : k < C
            · have hix := deal_idx RM.out hkC MN.out
              obtain ⟨b, off, rfl, hb, hcell⟩ := HR1.out.at_ (k := k * N + m) (by rw [HD.out.2]; omega)
              obtain ⟨x, hx⟩ : ∃ x, x = xs.getD (k * N + m) 0 := ⟨_, rfl⟩
              rw [← hx] at hcell
              have HX := Lib.hid hx
              have hcw : wr.cell? ⟨b, off + (k * N + m), none⟩ = some (.int .i64 x) := ((CH.out.2.2.2.trans (BLk.out.mono CH.out.2.2.2.size)).cell (p := ⟨b, off + (k * N + m), none⟩) hb).trans hcell
              have p0 : (0 : Int) ≤ (k : Int) * (N : Int) := Int.mul_nonneg (by omega) (by omega)
              have p1 : (k : Int) * (N : Int) + (m : Int) ≤ 51 := by exact_mod_cast hix
              have p2 : (k : Int) * (N : Int) ≤ 51 := by omega
              have wr1 : IntKind.i64.wrap ((k : Int) * (N : Int)) = (k : Int) * (N : Int) := IntWalk.i64_in _ (by omega)
              have wr2 : IntKind.i64.wrap ((k : Int) * (N : Int) + (m : Int)) = (k : Int) * (N : Int) + (m : Int) := IntWalk.i64_in _ (by omega)
              have tn : ((k : Int) * (N : Int) + (m : Int)).toNat = k * N + m := by rw [← Int.natCast_mul, ← Int.natCast_add]; exact Int.toNat_natCast _
              have q0 : (0 : Int) ≤ (k : Int) * (N : Int) + (m : Int) := by omega
              have q1 : (k : Int) * (N : Int) + (m : Int) < (xs.length : Int) := by rw [HD.out.2]; omega
              clear hx hcell hb hix
              go_wp2_with (at_builtin; refine wpList_append_lies _ rfl (.tmp 37) (.tmp 46) 22 rfl wo.heap.size 2 i0 (.int .i64 0) 1 8 Try.underlying22 HI.out.1 HI.out.2.1 HI.out.2.2.1 HI.out.2.2.2 rfl (by decide) _ k _ rfl (OWk.out.alloc _) ⟨wr.heap.size, 0, none⟩ 1 1 [.int .i64 x] rfl rfl (World.news_of_block (heap_alloc_new _ _)) (by simp [Value.oneCell']) (by decide) (by simp only [maxLen]; omega) (by omega) (by simp; have := BLk.out.size; omega) _ rfl ?_; intro q cap w5 hown5 hgrow5 hat5 hlt5; have O5 := Lib.hid hown5; have G5 := Lib.hid hgrow5; clear hown5 hgrow5 hat5 hlt5)
              go_roundw
              case rel => exact ⟨k + 1, by omega, by go_num, by show World.ownsRow _ _ _ _ _ _ _; rw [handK_succ, ← HX.out, List.map_append]; exact O5.out, ((BLk.out.alloc BLk.out.size _).grown G5.out (by simp; have := BLk.out.size; omega) (fun j e => (OWk.out.lt j e).1))⟩
              case measure => simp [intOf]; omega
            · have hkn : k = C := by omega
              subst hkn
              obtain ⟨A2, c2, hv, ho2⟩ := ownI_of_owns (xs := handK xs N m k) (by rw [handK_length]; exact OWk.out)
              rw [handK_length] at hv
              subst hv
              have HO := Lib.hid ho2
              have HL : Hid (k = (handK xs N m k).length) := (handK_length ..).symm
              have CHq := Lib.hid (CH.out.below BLk.out)
              clear hkC ho2
              go_wp2_with (at_builtin; refine wpList_append_lies _ rfl (.tmp 48) (.tmp 50) 36 rfl w1.heap.size 22 i1 (.slice none 0 0) 1 24 Try.underlying36 HJ.out.1 HJ.out.2.1 HJ.out.2.2.1 HJ.out.2.2.2 rfl (by decide) _ m _ rfl (CHq.out.1.alloc _) ⟨wr.heap.size, 0, none⟩ 1 1 [.slice A2 k c2] rfl rfl (World.news_of_block (heap_alloc_new _ _)) (by simp [Value.oneCell']) (by decide) (by simp only [maxLen]; omega) (by omega) (by simp; have := CHq.out.2.2.2.size; omega) _ rfl ?_; intro q cap w5 hown5 hgrow5 hat5 hlt5; have ST := Lib.hid (CH.out.step BLk.out HO.out HL.out hown5 hgrow5 hat5).1; clear hown5 hgrow5 hat5 hlt5)
              go_roundw
              case rel => exact ⟨m + 1, _, by omega, by go_num, by show Chs _ _ _ _ _ _; rw [dealK_succ]; exact ST.out⟩
              case measure => simp [intOf]; omega
        · have hmn : m = N := by omega
          subst hmn
          clear hmN
          obtain ⟨A', c', hv, hL, hlo⟩ := CH.out.2.1.lists CH.out.1 CH.out.2.2.1.symm
          rw [dealK_length] at hv
          subst hv
          have FIN : Hid (GivesLC w (dealL xs (m : Int) (C : Int)) (dealC xs (m : Int) (C : Int)) (.returned (.tuple #[.slice A' m c', .int .i64 0])) wo) := by
            refine ⟨A', c', by rw [R.out.1, R.out.2, dealK_length], by rw [R.out.1]; exact hL.mono HB.out.size, HB.out.trans (CH.out.2.2.2.mono HB.out.size)⟩
          clear hL hlo
          go_wp2
          go_ret2
          exact FIN.out
    · have R : Hid (dealL xs N d = [] ∧ dealC xs N d = 2) := by
        show _ ∧ _
        have hn : ¬ dealOk xs N d := fun e => hc e.2.2
        unfold dealL dealC
        rw [if_neg hn, if_pos hd, if_neg hn]
        exact ⟨rfl, rfl⟩
      have HC : Hid (d < 0 ∨ 52 / (N : Int) < d) := by show _ ∨ _; omega
      clear hd hc
      go_enter Try.func18, Try.ntmps18
      go_wp2_with fail
      refine (specIsDeck_any A c xs _ HR.out hl).mono ?_
      rintro e w1 ⟨rfl, hb⟩
      rw [H.out]
      have HB := Lib.hid hb
      clear hb
      go_wp2_with fail
      refine (l01In_yes _ _ _ _ (by omega) (by omega)).mono ?_
      rintro e w2 ⟨rfl, rfl⟩
      go_wp2_with fail
      refine (l01In_no _ _ _ _ HC.out).mono ?_
      rintro e w2 ⟨rfl, rfl⟩
      go_wp2
      go_ret2
      exact ⟨none, 0, by rw [R.out.1, R.out.2]; rfl, by rw [R.out.1]; exact .inl rfl, HB.out⟩
  · have R : Hid (dealL xs h d = [] ∧ dealC xs h d = 2) := by
      show _ ∧ _
      have hn : ¬ dealOk xs h d := fun e => hh e.2.1
      unfold dealL dealC
      rw [if_neg hn, if_pos hd, if_neg hn]
      exact ⟨rfl, rfl⟩
    have HC : Hid (h < 1 ∨ 10 < h) := by show _ ∨ _; omega
    clear hd hh
    go_enter Try.func18, Try.ntmps18
    go_wp2_with fail
    refine (specIsDeck_any A c xs _ HR.out hl).mono ?_
    rintro e w1 ⟨rfl, hb⟩
    rw [H.out]
    have HB := Lib.hid hb
    clear hb
    go_wp2_with fail
    refine (l01In_no _ _ _ _ HC.out).mono ?_
    rintro e w2 ⟨rfl, rfl⟩
    go_wp2
    go_ret2
    exact ⟨none, 0, by rw [R.out.1, R.out.2]; rfl, by rw [R.out.1]; exact .inl rfl, HB.out⟩
end Go.Proofs.Ytmmpeaedglnjlaa
