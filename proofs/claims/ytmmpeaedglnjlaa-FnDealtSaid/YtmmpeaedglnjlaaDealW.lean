/-
  DealHands in the program: the walk.
-/
import Derived.Test.YtmmpeaedglnjlaaDealI
namespace Go.Proofs.Ytmmpeaedglnjlaa
open Go.RowKit

/-- One card more, in the words of the walk. -/
theorem deal_next {w1 wr w5 : World} {N t j n q cap : Nat} {o : Obj} {xs : List Int} {R : Nat → Value} {rv : Value} {x : Int} (h : DealW w1 wr N xs t R) (hN : 0 < N) (hj : t % N = j) (hx : x = xs.getD t 0) (hn : n = cntD N t j) (hrv : rv = R j)
    (hown : w5.ownsRow (w1.heap.size + 1) 2 1 (.slice (some ⟨q, 0, none⟩) (n + 1) cap) (n + 1) ((handK xs N j n).map (Value.int .i64) ++ [.int .i64 x]))
    (hg : (wr.alloc o).drew.grownBy w5 rv.ownBlock) (hat : rv.ownBlock = some q ∨ q = (wr.alloc o).drew.heap.size) :
    DealW w1 (w5.setCell ⟨w1.heap.size, j, none⟩ (.slice (some ⟨q, 0, none⟩) (n + 1) cap)) N xs (t + 1) (fun l => if l = j then .slice (some ⟨q, 0, none⟩) (n + 1) cap else R l) := by
  subst hn hrv
  exact h.step hN hj hx hown hg hat
theorem OwnSS.mono {w : World} {lo lo' : Nat} {A : Option Addr} {yss : List (List Int)} (h : OwnSS w lo A yss) (hl : lo' ≤ lo) : OwnSS w lo' A yss := by
  rcases h with h | ⟨b, off, R, e, hb, hA⟩
  · exact .inl h
  · exact .inr ⟨b, off, R, e, hb, fun j hj => ⟨(hA.1 j hj).1, (hA.1 j hj).2.1.mono hl, (hA.1 j hj).2.2⟩, hA.2⟩
/-- A call hands back rows of its own that lie apart, and a code. -/
def GivesSS (w : World) (yss : List (List Int)) (k : Int) (e : Ending) (w' : World) : Prop :=
  ∃ A' c', e = .returned (.tuple #[.slice A' yss.length c', .int .i64 k]) ∧ OwnSS w' w.heap.size A' yss ∧ (∀ b, A'.map (·.block) = some b → w.heap.size ≤ b) ∧ Below w.heap.size w w'

set_option maxHeartbeats 4000000 in
set_option maxRecDepth 8000 in
theorem implDeal_any (A : Option Addr) (c : Nat) (xs : List Int) (h d : Int) (w : World) (hr : RowI w A xs) (hl : xs.length ≤ 1048576) :
    Calls Try.prog 17 #[.slice A xs.length c, .int .i64 h, .int .i64 d] w (GivesSS w (dealL xs h d) (dealC xs h d)) := by
  have HR := Lib.hid hr
  clear hr
  cases hd : deckB xs
  · have H := Lib.hid hd
    have R : Hid (dealL xs h d = [] ∧ dealC xs h d = 1) := by
      show _ ∧ _
      have hn : ¬ dealOk xs h d := fun e => by rw [(deckB_iff xs).2 e.1] at hd; cases hd
      unfold dealL dealC
      rw [if_neg hn, hd]
      exact ⟨rfl, rfl⟩
    clear hd
    go_enter Try.func17, Try.ntmps17
    go_wp2_with fail
    refine (implIsDeck_any A c xs _ HR.out hl).mono ?_
    rintro e w1 ⟨rfl, hb⟩
    rw [H.out]
    have HB := Lib.hid hb
    clear hb
    go_wp2
    go_ret2
    exact ⟨none, 0, by rw [R.out.1, R.out.2]; rfl, by rw [R.out.1]; exact .inl rfl, (fun b hb => by cases hb), HB.out⟩
  have H := Lib.hid hd
  have HD := Lib.hid ((deckB_iff xs).1 hd)
  by_cases hh : 1 ≤ h ∧ h ≤ 10
  · obtain ⟨N, rfl⟩ := Int.eq_ofNat_of_zero_le (show 0 ≤ h by omega)
    have hN1 : 1 ≤ N := by omega
    have hN10 : N ≤ 10 := by omega
    have n0 : ¬ ((N : Int) = 0) := by omega
    have n1 : ((N : Int) == 0) = false := by simp; omega
    have hq : (52 : Int).tdiv (N : Int) = 52 / (N : Int) := Int.tdiv_eq_ediv_of_nonneg (by omega)
    have hq0 : 0 ≤ (52 : Int) / (N : Int) := Int.ediv_nonneg (by omega) (by omega)
    have hq1 : (52 : Int) / (N : Int) ≤ 52 := Int.ediv_le_self _ (by omega)
    clear hh
    by_cases hc : 0 ≤ d ∧ d ≤ 52 / (N : Int)
    · obtain ⟨C, rfl⟩ := Int.eq_ofNat_of_zero_le hc.1
      have R : Hid (dealL xs (N : Int) (C : Int) = dealK xs N C N ∧ dealC xs (N : Int) (C : Int) = 0) := by
        show _ ∧ _
        have hn : dealOk xs (N : Int) (C : Int) := ⟨HD.out, ⟨by omega, by omega⟩, hc⟩
        unfold dealL dealC
        rw [if_pos hn, if_pos hd, if_pos hn]
        exact ⟨rfl, rfl⟩
      have RM : Hid (C * N ≤ 52) := deal_room hN1 hN10 hc.2
      have hC2 := hc.2
      have hC52 : C ≤ 52 := by omega
      obtain ⟨i0, hi, hz0, hz1, hz2⟩ := info_parts int_info
      have HI := Lib.hid (And.intro hi (And.intro hz0 (And.intro hz1 hz2)))
      clear hd hc hi hz0 hz1 hz2
      go_enter Try.func17, Try.ntmps17
      go_wp2_with fail
      refine (implIsDeck_any A c xs _ HR.out hl).mono ?_
      rintro e w1 ⟨rfl, hb⟩
      rw [H.out]
      have HB := Lib.hid hb
      have HR1 := Lib.hid (HR.out.below hb)
      clear hb
      go_wp2_with fail
      refine (within_yes _ _ _ _ (by omega) (by omega)).mono ?_
      rintro e w2 ⟨rfl, rfl⟩
      go_wp2_with fail
      refine (within_yes _ _ _ _ (by omega) (by omega)).mono ?_
      rintro e w2 ⟨rfl, rfl⟩
      clear hq hq0 hq1 hC2
      have hN0 : 0 < N := hN1
      have hmk : ∀ w : World, (Instr.makeSlice 36 (.int .i64 (N : Int)) (.int .i64 (N : Int))).run Try.prog w = .ok (.slice (some ⟨w.heap.size, 0, none⟩) N N) (w.alloc (.cells (madeCells #[.slice none 0 0] N) 22)) :=
        fun w => run_make_row' _ 22 (.slice none 0 0) 24 Try.underlying36 ints_info rfl .i64 .i64 N (by omega) (by omega) w
      have ST0 := Lib.hid (DealW.start w1 N xs)
      obtain ⟨T, hT⟩ : ∃ T, T = N * C := ⟨_, rfl⟩
      have T52 : T ≤ 52 := by rw [hT, Nat.mul_comm]; exact RM.out
      have hTi : (N : Int) * (C : Int) = (T : Int) := by rw [hT, Int.natCast_mul]
      have HT := Lib.hid hT
      clear hT
      go_wp2
      go_loopw [9, 28] (fun _ i wr => ∃ (t : Nat) (R : Nat → Value), t ≤ T ∧ i = .int .i64 t ∧ Hid (DealW w1 wr N xs t R)) (fun _ i _ => T - (intOf i).toNat)
      case atStart => exact ⟨0, _, Nat.zero_le _, rfl, ST0.out⟩
      case round =>
        obtain ⟨t, R', ht, rfl, DW⟩ := hrel
        clear ST0
        by_cases htT : t < T
        · obtain ⟨b, off, rfl, hb, hcell⟩ := HR1.out.at_ (k := t) (by rw [HD.out.2]; omega)
          obtain ⟨x, hx⟩ : ∃ x, x = xs.getD t 0 := ⟨_, rfl⟩
          rw [← hx] at hcell
          have HX := Lib.hid hx
          have hcw : wr.cell? ⟨b, off + t, none⟩ = some (.int .i64 x) := (DW.out.2.2.2.cell (p := ⟨b, off + t, none⟩) hb).trans hcell
          obtain ⟨j, hj⟩ : ∃ j, t % N = j := ⟨_, rfl⟩
          have hjN : j < N := by rw [← hj]; exact Nat.mod_lt t hN0
          have JN := Lib.hid (And.intro hjN hj)
          have hem : (t : Int) % (N : Int) = (j : Int) := by rw [← Int.natCast_emod, hj]
          have htm : (t : Int).tmod (N : Int) = (j : Int) := by rw [Int.tmod_eq_emod_of_nonneg (by omega), hem]
          have ji : (j : Int) < (N : Int) := by omega
          have nz : ¬ N = 0 := by omega
          have j0 : (0 : Int) ≤ (j : Int) := by omega
          have ti : (t : Int) < (xs.length : Int) := by rw [HD.out.2]; omega
          obtain ⟨n, hn⟩ : ∃ n, n = cntD N t j := ⟨_, rfl⟩
          have n52 : n ≤ 52 := by
            have e2 := (cnt_same hN0 hj).2
            rw [← hn] at e2
            have := Nat.le_mul_of_pos_right n hN0
            omega
          obtain ⟨rv, hrv⟩ : ∃ rv, rv = R' j := ⟨_, rfl⟩
          have NN := Lib.hid hn
          have RV := Lib.hid hrv
          have OWj : Hid (wr.ownsRow (w1.heap.size + 1) 2 1 rv n ((handK xs N j n).map (Value.int .i64))) := by
            have := DW.out.2.1 j hjN
            rw [← hn, ← hrv] at this
            exact this
          have hD := DW.out.1.cell (i := j) hjN
          have hDa := (DW.out.1.alloc (.cells #[.int .i64 x] 2)).cell (i := j) hjN
          rw [← hrv] at hD hDa
          have SZ : Hid (w1.heap.size + 1 ≤ wr.heap.size) := DW.out.1.lt
          clear hx hcell hb hj hn hrv
          go_wp2
          go_region_law (refine step_append_lies _ rfl (.tmp 40) (.tmp 45) 22 rfl (w1.heap.size + 1) 2 i0 (.int .i64 0) 1 8 Try.underlying22 HI.out.1 HI.out.2.1 HI.out.2.2.1 HI.out.2.2.2 rfl (by decide) _ n _ rfl ((OWj.out.alloc _).drew) ⟨wr.heap.size, 0, none⟩ 1 1 [.int .i64 x] rfl rfl (World.news_of_block (heap_alloc_new _ _)) (by simp [Value.oneCell']) (by decide) (by simp only [maxLen]; omega) (by omega) (by simp; have := SZ.out; omega) _ rfl ?_; intro q cap w5 hown5 hgrow5 hat5 hlt5; have MD := DW.out.mid JN.out.1 (by rw [← RV.out]; exact hgrow5); have hD5 := MD.cell (i := j) JN.out.1; have hf5 := MD.frozen j; rw [← RV.out] at hD5; have ST := Lib.hid (deal_next DW.out hN0 JN.out.2 HX.out NN.out RV.out hown5 hgrow5 hat5); clear MD hown5 hgrow5 hat5 hlt5)
          all_goals
            go_wp2
            go_roundw
            case rel => exact ⟨t + 1, _, by omega, by go_num, ST.out⟩
            case measure => simp [intOf]; omega
        · have htn : t = T := by omega
          subst htn
          clear htT
          have FIN : Hid (GivesSS w (dealL xs (N : Int) (C : Int)) (dealC xs (N : Int) (C : Int)) (.returned (.tuple #[.slice (some ⟨w1.heap.size, 0, none⟩) N N, .int .i64 0])) wr) := by
            have DN := DW.out
            rw [HT.out] at DN
            refine ⟨_, N, by rw [R.out.1, R.out.2, dealK_length], by rw [R.out.1]; exact (DN.done hN0).mono HB.out.size, (fun b hb => by cases hb; exact HB.out.size), HB.out.trans (DW.out.2.2.2.mono HB.out.size)⟩
          go_wp2
          go_ret2
          exact FIN.out
    · have R : Hid (dealL xs N d = [] ∧ dealC xs N d = 2) := by
        show _ ∧ _
        have hn : ¬ dealOk xs N d := fun e => hc e.2.2
        unfold dealL dealC
        rw [if_neg hn, if_pos hd, if_neg hn]
        exact ⟨rfl, rfl⟩
      have HC : Hid (d < 0 ∨ 52 / (N : Int) < d) := by show _ ∨ _; omega
      clear hd hc
      go_enter Try.func17, Try.ntmps17
      go_wp2_with fail
      refine (implIsDeck_any A c xs _ HR.out hl).mono ?_
      rintro e w1 ⟨rfl, hb⟩
      rw [H.out]
      have HB := Lib.hid hb
      clear hb
      go_wp2_with fail
      refine (within_yes _ _ _ _ (by omega) (by omega)).mono ?_
      rintro e w2 ⟨rfl, rfl⟩
      go_wp2_with fail
      refine (within_no _ _ _ _ HC.out).mono ?_
      rintro e w2 ⟨rfl, rfl⟩
      go_wp2
      go_ret2
      exact ⟨none, 0, by rw [R.out.1, R.out.2]; rfl, by rw [R.out.1]; exact .inl rfl, (fun b hb => by cases hb), HB.out⟩
  · have R : Hid (dealL xs h d = [] ∧ dealC xs h d = 2) := by
      show _ ∧ _
      have hn : ¬ dealOk xs h d := fun e => hh e.2.1
      unfold dealL dealC
      rw [if_neg hn, if_pos hd, if_neg hn]
      exact ⟨rfl, rfl⟩
    have HC : Hid (h < 1 ∨ 10 < h) := by show _ ∨ _; omega
    clear hd hh
    go_enter Try.func17, Try.ntmps17
    go_wp2_with fail
    refine (implIsDeck_any A c xs _ HR.out hl).mono ?_
    rintro e w1 ⟨rfl, hb⟩
    rw [H.out]
    have HB := Lib.hid hb
    clear hb
    go_wp2_with fail
    refine (within_no _ _ _ _ HC.out).mono ?_
    rintro e w2 ⟨rfl, rfl⟩
    go_wp2
    go_ret2
    exact ⟨none, 0, by rw [R.out.1, R.out.2]; rfl, by rw [R.out.1]; exact .inl rfl, (fun b hb => by cases hb), HB.out⟩
end Go.Proofs.Ytmmpeaedglnjlaa
