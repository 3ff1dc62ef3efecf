/-
  spec.l04Choices: all lists of k elements of a list.
-/
import Derived.Test.YtgkhhfkijepenaaLists
import Derived.Test.YtgkhhfkijepenaaWords
import Derived.Test.YtgkhhfkijepenaaMathChoice
import Derived.Deep.RegionLaw
namespace Go.Proofs.Ytgkhhfkijepenaa
open Go.RowKit

theorem ints_info : (Try.prog.info? 24).map (fun i => (i.zero, i.size, i.bytes)) = some (some (.slice none 0 0), 1, 24) := by kernel_rfl

/-- What the two loops know of the list that grows. -/
def Chs (w wr : World) (v : Value) (ln : Nat) (vals : List Value) (zss : List (List Int)) : Prop :=
  wr.ownsRow w.heap.size 24 1 v ln vals ∧ Rws wr w.heap.size v vals zss ∧ zss.length = ln ∧ Below w.heap.size w wr
theorem Chs.start (w : World) : Chs w (w.alloc (.cells #[] 24)) (.slice (some ⟨w.heap.size, 0, none⟩) 0 0) 0 [] [] :=
  ⟨World.ownsRow_made w #[] 0 (Nat.le_refl _) (by decide) rfl, Rws.nil_ _ _ _, rfl, (Below.refl _ _).alloc (Nat.le_refl _) _⟩
theorem Chs.below {w wr wr' : World} {v : Value} {ln : Nat} {vals : List Value} {zss : List (List Int)} (h : Chs w wr v ln vals zss) (hb : Below wr.heap.size wr wr') : Chs w wr' v ln vals zss := by
  obtain ⟨h1, h2, h3, h4⟩ := h
  refine ⟨h1.kept (row := none) ⟨hb.os, hb.tape, hb.output, hb.size, fun i hi _ => hb.block i hi⟩ ?_, h2.below hb, h3, h4.trans (hb.mono h4.size)⟩
  cases e : v.ownBlock <;> simp
theorem ch_temp {w w' : World} {o : Obj} (hg : (w.alloc o).drew.grownBy w' (Value.ownBlock (.slice (some ⟨w.heap.size, 0, none⟩) 1 1))) : Below w.heap.size w w' :=
  ((Below.refl w.heap.size w).alloc (Nat.le_refl _) o).drew.grown hg (by simp) (fun j e => by simp [Value.ownBlock] at e; omega)
/-- One list more has been appended. -/
theorem Chs.step {w wr w4 w5 : World} {v : Value} {ln q cap : Nat} {vals : List Value} {zss : List (List Int)} {B : Option Addr} {c : Nat} {ys : List Int} {n : Nat} {o : Obj} (h : Chs w wr v ln vals zss) (hb : Below wr.heap.size wr w4)
    (ho : OwnI w4 wr.heap.size B c ys) (hn : n = ys.length)
    (hown : w5.ownsRow w.heap.size 24 1 (.slice (some ⟨q, 0, none⟩) (ln + 1) cap) (ln + 1) (vals ++ [.slice B n c])) (hg : (w4.alloc o).grownBy w5 v.ownBlock) (hat : v.ownBlock = some q ∨ q = (w4.alloc o).heap.size) :
    Chs w w5 (.slice (some ⟨q, 0, none⟩) (ln + 1) cap) (ln + 1) (vals ++ [.slice B n c]) (zss ++ [ys]) ∧
    ∀ {lo : Nat} {A : Option Addr} {yss : List (List Int)}, ListsA wr lo v A yss → ListsA w5 lo (.slice (some ⟨q, 0, none⟩) (ln + 1) cap) A yss := by
  subst hn
  have h4 := h.below (hb.trans ((Below.refl _ _).alloc hb.size o))
  have hva : ∀ b, v.ownBlock = some b → w.heap.size ≤ b ∧ b < wr.heap.size := fun b e => h.1.lt b e
  have ho4 : OwnI (w4.alloc o) w.heap.size B c ys := (ho.mono h.2.2.2.size).below ((Below.refl _ _).alloc (Nat.le_refl _) o)
  refine ⟨⟨hown, h4.2.1.snoc ho4 (fun b hb' e => ?_) hg hat, by simp [h.2.2.1], ?_⟩, fun hL => ?_⟩
  · have := (ho.lo_block b hb').1
    have := (hva b e).2
    omega
  · exact h4.2.2.2.grown hg (h4.2.2.2.size) (fun b e => (hva b e).1)
  · exact (hL.below (hb.trans ((Below.refl _ _).alloc hb.size o))).grown hg hat

/-- A call hands back a list of lists of its own. -/
def GivesL (w : World) (yss : List (List Int)) (e : Ending) (w' : World) : Prop :=
  ∃ A' c', e = .returned (.slice A' yss.length c') ∧ ListsO w' w.heap.size A' yss ∧ (∀ b, A'.map (·.block) = some b → w.heap.size ≤ b) ∧ Below w.heap.size w w'
theorem gives_one (w : World) : GivesL w [[]] (.returned (.slice (some ⟨w.heap.size + 1, 0, none⟩) 1 1)) ((w.alloc (.cells #[] 2)).alloc (.cells #[.slice (some ⟨w.heap.size, 0, none⟩) 0 0] 24)) := by
  have ho : OwnI (w.alloc (.cells #[] 2)) w.heap.size (some ⟨w.heap.size, 0, none⟩) 0 [] :=
    .inr ⟨w.heap.size, fun _ => undef, _, rfl, Nat.le_refl _, by simp, Nat.le_refl _, by simp [maxLen], World.rowIs_alloc w #[] _ _ (fun i hi => absurd hi (by simp)), fun k hk => absurd hk (by simp)⟩
  refine ⟨_, _, rfl, .inr ⟨w.heap.size + 1, 0, rfl, by simp, fun j hj => ?_⟩, fun b hb => by simp at hb; omega, ((Below.refl _ _).alloc (Nat.le_refl _) _).alloc (by simp) _⟩
  have hj0 : j = 0 := by simp at hj; omega
  subst hj0
  refine ⟨some ⟨w.heap.size, 0, none⟩, 0, ?_, ho.below ((Below.refl _ _).alloc (Nat.le_refl _) _)⟩
  have := (World.rowIs_alloc (w.alloc (.cells #[] 2)) #[.slice (some ⟨w.heap.size, 0, none⟩) 0 0] 24 (fun _ => .slice (some ⟨w.heap.size, 0, none⟩) 0 0) (fun i hi => by
    have : i = 0 := by simp at hi; omega
    subst this; rfl)).cell (i := 0) (by simp)
  rw [World.size_alloc] at this
  exact this

set_option maxHeartbeats 4000000 in
set_option maxRecDepth 8000 in
theorem l04Choices_any (k : Nat) : ∀ (A : Option Addr) (c : Nat) (xs : List Int) (len : Nat) (kk : Int) (w : World), len = xs.length → kk = (k : Int) → kk ≤ 1000 → RowI w A xs → xs.length ≤ 8 → xs.length ≤ c → c ≤ maxLen →
    Calls Try.prog 50 #[.slice A len c, .int .i64 kk] w
      (GivesL w (comb xs k)) := by
  obtain ⟨i0, hi, hz0, hz1, hz2⟩ := info_parts int_info
  have HI := Lib.hid (And.intro hi (And.intro hz0 (And.intro hz1 hz2)))
  obtain ⟨i1, hi', hz0', hz1', hz2'⟩ := info_parts ints_info
  have HJ := Lib.hid (And.intro hi' (And.intro hz0' (And.intro hz1' hz2')))
  clear hi hz0 hz1 hz2 hi' hz0' hz1' hz2'
  induction k with
  | zero =>
    intro A c xs len kk w hlen hkk _ hr hl hc hcm
    subst hlen hkk
    rw [comb_zero]
    clear hr
    go_enter Try.func50, Try.ntmps50
    go_wp2
    go_ret
    exact gives_one w
  | succ k ih =>
    intro A c xs len kk w hlen hkk hk1 hr hl hc hcm
    subst hlen
    have HR := Lib.hid hr
    have k1 : 1 ≤ kk := by omega
    have HK := Lib.hid hkk
    have kz : (kk == 0) = false := by simp; omega
    obtain ⟨n, hn⟩ : ∃ n, n = xs.length := ⟨_, rfl⟩
    rw [← hn] at hl hc ⊢
    have HN := Lib.hid hn
    have ST := Lib.hid (Chs.start w)
    have HC := Lib.hid hcm
    clear hr hkk hn hcm
    go_enter Try.func50, Try.ntmps50
    go_wp2
    go_loopw [5, 6, 7, 8] (fun v i _ _ wr => ∃ (m ln : Nat) (vals : List Value) (zss : List (List Int)), i = .int .i64 m ∧ m ≤ n ∧ Hid (Chs w wr v ln vals zss) ∧ Hid (zss ++ comb (xs.drop m) (k + 1) = comb xs (k + 1)))
      (fun _ i _ _ _ => n - (intOf i).toNat)
    case atStart => exact ⟨0, 0, [], [], rfl, Nat.zero_le _, ST.out, rfl⟩
    case round =>
      obtain ⟨m, ln, vals, zss, rfl, hm, CH, EQ⟩ := hrel
      obtain ⟨wo, rfl⟩ : ∃ wo : World, wo = wr := ⟨_, rfl⟩
      clear ST
      by_cases hgo : (m : Int) + kk ≤ (n : Int)
      · have hmn : m < n := by omega
        obtain ⟨b, off, rfl, hb, hcell⟩ := HR.out.at_ (k := m) (by rw [← HN.out]; exact hmn)
        obtain ⟨x, hx⟩ : ∃ x, x = xs.getD m 0 := ⟨_, rfl⟩
        have hcut := HR.out.cut (k := m + 1) (cap := c) (by rw [← HN.out]; exact hmn) (by rw [← HN.out]; exact hc)
        have hdl : (xs.drop (m + 1)).length = n - (m + 1) := by rw [List.length_drop, ← HN.out]
        have HB := CH.out.2.2.2
        have hcr : wo.cell? ⟨b, off + m, none⟩ = some (.int .i64 x) := by rw [hx]; exact (HB.cell (p := ⟨b, off + m, none⟩) hb).trans hcell
        have hbr : b < wo.heap.size := Nat.lt_of_lt_of_le hb HB.size
        have hbw : b < w.heap.size := hb
        have hcw : w.cell? ⟨b, off + m, none⟩ = some (.int .i64 x) := by rw [hx]; exact hcell
        have hcutr := hcut.below HB
        obtain ⟨R, hR⟩ : ∃ R, R = comb (xs.drop (m + 1)) k := ⟨_, rfl⟩
        have EQ2 : Hid (zss ++ (R.map (x :: ·) ++ comb (xs.drop (m + 1)) (k + 1)) = comb xs (k + 1)) := by
          show _ = _
          rw [← EQ.out, comb_drop (i := m) (by rw [← HN.out]; exact hmn), hR, hx]
        have HRR := Lib.hid hR
        have HX := Lib.hid hx
        have HD := Lib.hid hdl
        clear hR hx hdl hcell hcut HB EQ hb
        have m1 : m + 1 ≤ c := by omega
        have m2 : m + 1 ≤ n := by omega
        have HBW := Lib.hid (And.intro hbw hcw)
        have hk256 : ∀ zs' : List (List Int), ∀ ws : List (List Int), zs' ++ ws = comb xs (k + 1) → zs'.length ≤ 256 := by
          intro zs' ws e
          have h1 := comb_size8 (xs := xs) (k + 1) (by rw [← HN.out]; exact hl)
          rw [← e, List.length_append] at h1
          omega
        have K256 := Lib.hid hk256
        clear hcr hk256 hbw hcw
        by_cases hc1 : c = m + 1
        all_goals
          first
          | have CUT := Lib.hid (show RowI wo (some ⟨b, off, none⟩) (xs.drop (m + 1)) by rwa [if_pos hc1] at hcutr)
          | have CUT := Lib.hid (show RowI wo (some ⟨b, off + (m + 1), none⟩) (xs.drop (m + 1)) by rw [if_neg hc1] at hcutr; rw [← Go.WideShapes.add_plain]; exact hcutr)
          clear hcutr
          go_wp2_with fail
          refine (ih _ _ (xs.drop (m + 1)) _ _ _ HD.out.symm (by have := HK.out; omega) (by omega) CUT.out (by rw [HD.out]; omega) (by rw [HD.out]; omega) (by have := HC.out; omega)).mono ?_
          rintro e w2 ⟨A2, c2, rfl, hL2, hlo2, hb2⟩
          rw [← HRR.out] at hL2 ⊢
          first
          | (rw [← hc1]; have HC1 := Lib.hid hc1; clear hc1)
          | skip
          obtain ⟨rn, hrn⟩ : ∃ rn, rn = R.length := ⟨_, rfl⟩
          rw [← hrn]
          have R256 : rn ≤ 256 := by rw [hrn, HRR.out]; exact comb_size8 _ (by rw [HD.out]; omega)
          have RK : Hid (∀ S ∈ R, S.length = k) := by intro S hS; rw [HRR.out] at hS; exact comb_len hS
          have hk8 : Hid (k ≤ 8) := by show k ≤ 8; have := HK.out; omega
          have L2 := Lib.hid (hL2.apart hlo2 (fun b' hb' => (CH.out.1.lt b' hb').2))
          have CH2 := Lib.hid (CH.out.below hb2)
          have RN := Lib.hid hrn
          clear hL2 hlo2 hb2 hrn
          go_wp2
          go_loopw [5, 8] (fun v j wr => ∃ (q ln' : Nat) (vals' : List Value) (zss' : List (List Int)), j = .int .i64 q ∧ q ≤ rn ∧ Hid (Chs w wr v ln' vals' zss') ∧ Hid (ListsA wr wo.heap.size v A2 R) ∧ Hid (zss' ++ ((R.drop q).map (x :: ·) ++ comb (xs.drop (m + 1)) (k + 1)) = comb xs (k + 1)))
            (fun _ j _ => rn - (intOf j).toNat)
          case atStart => exact ⟨0, ln, vals, zss, rfl, Nat.zero_le _, CH2.out, L2.out, EQ2.out⟩
          case round =>
            obtain ⟨q, ln', vals', zss', rfl, hq, CH3, L3, EQ3⟩ := hrel
            by_cases hqr : q < rn
            · have ln256 : ln' ≤ 256 := by have := K256.out _ _ EQ3.out; have := CH3.out.2.2.1; omega
              obtain ⟨b2, off2, rfl, hb2, B, d, hc2, ho2⟩ := L3.out.at_ (j := q) (by rw [← RN.out]; exact hqr)
              obtain ⟨ys, hys⟩ : ∃ ys, ys = R.getD q [] := ⟨_, rfl⟩
              rw [← hys] at hc2 ho2
              have hyk : ys.length = k := by rw [hys]; exact RK.out _ (getD_mem (by rw [← RN.out]; exact hqr))
              obtain ⟨yn, hyn⟩ : ∃ yn, yn = ys.length := ⟨_, rfl⟩
              rw [← hyn] at hc2 hyk
              have hy8 : yn ≤ 8 := by have := hk8.out; omega
              have hbx : b < wr.heap.size := Nat.lt_of_lt_of_le HBW.out.1 CH3.out.2.2.2.size
              have hcx : wr.cell? ⟨b, off + m, none⟩ = some (.int .i64 x) := (CH3.out.2.2.2.cell (p := ⟨b, off + m, none⟩) HBW.out.1).trans HBW.out.2
              have YS := Lib.hid hys
              have YN := Lib.hid hyn
              have OW0 : Hid (((wr.alloc (.cells #[.int .i64 x] 2)).drew).ownsRow wr.heap.size 2 1 (.slice (some ⟨wr.heap.size, 0, none⟩) 1 1) 1 [.int .i64 x]) := (owns_new wr #[.int .i64 x] 2 1 rfl (by decide)).drew
              have RD0 : Hid (Reads ((wr.alloc (.cells #[.int .i64 x] 2)).drew) (wr.heap.size + 1) 1 B yn (ys.map (Value.int .i64))) := by
                have := (ho2.row.below (((Below.refl wr.heap.size wr).alloc (Nat.le_refl _) (.cells #[.int .i64 x] 2)).drew)).reads
                have e2 : ((wr.alloc (.cells #[.int .i64 x] 2)).drew).heap.size = wr.heap.size + 1 := by simp
                rw [← hyn, e2] at this
                exact this
              clear hys hyn hyk ho2
              have BS0 : Hid (wr.heap.size ≤ ((wr.alloc (.cells #[.int .i64 x] 2)).drew).heap.size) := by show _ ≤ _; simp
              have BD0 : Hid (1 + yn ≤ maxLen ∧ (1 + yn) * 8 ≤ 140737488355328 ∧ ln' + 1 ≤ maxLen ∧ (ln' + 1) * 24 ≤ 140737488355328) := by
                show _ ∧ _ ∧ _ ∧ _
                simp only [maxLen]; omega
              go_wp2
              go_region_law (first
                | ((refine step_append_any _ rfl (.tmp 40) (.tmp 44) 24 rfl wr.heap.size 2 i0 (.int .i64 0) 1 8 Try.underlying24 HI.out.1 HI.out.2.1 HI.out.2.2.1 HI.out.2.2.2 rfl (by decide) _ 1 _ rfl OW0.out (wr.heap.size + 1) B yn _ (ys.map (Value.int .i64)) rfl RD0.out (ints_one _) BD0.out.1 BD0.out.2.1 BS0.out ?_); intro v4 w4 hown4 hg4 hat4; have G4 := Lib.hid (ch_temp hg4); obtain ⟨A4, c4, rfl, hoi4⟩ := own_cons hown4 YN.out; have O4 := Lib.hid hoi4; have CH4 := Lib.hid (CH3.out.below G4.out); have Z4 := Lib.hid (CH4.out.2.2.2.size); clear hown4 hg4 hat4 hoi4)
                | ((refine step_append_lies _ rfl (.tmp 35) (.tmp 46) 58 rfl w.heap.size 24 i1 (.slice none 0 0) 1 24 Try.underlying58 HJ.out.1 HJ.out.2.1 HJ.out.2.2.1 HJ.out.2.2.2 rfl (by decide) _ ln' _ rfl (CH4.out.1.alloc _) ⟨w4.heap.size, 0, none⟩ 1 1 _ rfl rfl (World.news_of_block (heap_alloc_new _ _)) (by simp [Value.oneCell']) (by decide) BD0.out.2.2.1 BD0.out.2.2.2 (by simp; have := Z4.out; omega) _ rfl ?_); intro q5 cap5 w5 hown5 hgrow5 hat5 hlt5; have ST5 := Lib.hid (CH3.out.step G4.out O4.out rfl hown5 hgrow5 hat5); clear hown5 hgrow5 hat5 hlt5))
              all_goals
                have EQ4 : Hid ((zss' ++ [x :: ys]) ++ ((R.drop (q + 1)).map (x :: ·) ++ comb (xs.drop (m + 1)) (k + 1)) = comb xs (k + 1)) := by
                  show _ = _
                  rw [← EQ3.out, drop_step (cs := R) (j := q) (by rw [← RN.out]; exact hqr), ← YS.out]
                  simp only [List.map_cons, List.append_assoc, List.cons_append, List.nil_append]
                have LL := Lib.hid (ST5.out.2 L3.out)
                have CC := Lib.hid ST5.out.1
                clear hc2 hcx ST5
                go_wp2
                go_roundw
                case rel => exact ⟨q + 1, ln' + 1, _, _, by go_num, by omega, CC.out, LL.out, EQ4.out⟩
                case measure => simp [intOf]; omega
            · have hqn : q = rn := by omega
              have EQ4 : Hid (zss' ++ comb (xs.drop (m + 1)) (k + 1) = comb xs (k + 1)) := by
                show _ = _
                rw [← EQ3.out, hqn, RN.out, List.drop_length]
                rfl
              subst hqn
              clear hqr
              go_wp2
              go_roundw
              case rel => exact ⟨m + 1, ln', vals', zss', by go_num, by omega, CH3.out, EQ4.out⟩
              case measure => simp [intOf]; omega
      · have E : zss = comb xs (k + 1) := by
          rw [← EQ.out, comb_nil, List.append_nil]
          rw [List.length_drop, ← HN.out]; have := HK.out; omega
        obtain ⟨A', c', hv, hL, hlo⟩ := CH.out.2.1.lists CH.out.1 CH.out.2.2.1.symm
        have FIN : Hid (GivesL w (comb xs (k + 1)) (.returned (.slice A' zss.length c')) wo) := by rw [← E]; exact ⟨A', c', rfl, hL, hlo, CH.out.2.2.2⟩
        subst hv
        clear hL hlo E
        go_wp2
        go_ret
        exact FIN.out
end Go.Proofs.Ytgkhhfkijepenaa
