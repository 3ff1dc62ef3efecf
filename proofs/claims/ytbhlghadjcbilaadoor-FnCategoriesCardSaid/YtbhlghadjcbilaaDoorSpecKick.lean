/-
  The kickers of five cards in the reference.
-/
import Derived.Test.YtbhlghadjcbilaaDoorSpecHigh
import Derived.Deep.AppendLies
namespace Go.Proofs.YtbhlghadjcbilaaDoor
open Go.RowKit

theorem nI_append (us bs : List Nat) : nI (us ++ bs) = nI us ++ nI bs := by simp [nI]
theorem ordB_le (c : Nat → Nat) (n q : Nat) : (ordB c n q).length ≤ q * n := by
  have H : ∀ l : List Nat, (l.flatMap fun r => if c r = n then List.replicate n r else []).length ≤ l.length * n := by
    intro l
    induction l with
    | nil => simp
    | cons r l ih =>
      rw [List.flatMap_cons, List.length_append, List.length_cons, Nat.succ_mul]
      by_cases e : c r = n
      · rw [if_pos e, List.length_replicate]; omega
      · rw [if_neg e, List.length_nil, Nat.zero_add]; exact Nat.le_trans ih (Nat.le_add_right _ _)
  refine Nat.le_trans (H _) (Nat.mul_le_mul_right n ?_)
  rw [List.length_take]; omega
theorem ordA_le (c : Nat → Nat) (m : Nat) (hm : m ≤ 4) : (ordA c m).length ≤ 52 * m := by
  induction m with
  | zero => simp [ordA]
  | succ m ih =>
    rw [ordA_succ c m (by omega), List.length_append]
    have h1 := ih (by omega)
    have h2 := ordB_le c (4 - m) 13
    have h3 : 13 * (4 - m) ≤ 52 := by omega
    omega

set_option maxHeartbeats 2000000 in
set_option maxRecDepth 8000 in
theorem l04Kickers_any (A : Option Addr) (cp : Nat) (xs : List Int) (w : World) (h : RowI w A xs) (hl : xs.length ≤ 1048576) (hok : okC xs) :
    Calls Tryd.prog 26 #[.slice A xs.length cp] w (GivesI w (nI (kickS (cnt xs)))) := by
  have HR := Lib.hid h
  have HO := Lib.hid hok
  obtain ⟨c, hc⟩ : ∃ c, c = cnt xs := ⟨_, rfl⟩
  rw [← hc]
  have HCC := Lib.hid hc
  obtain ⟨i0, hi, hz0, hz1, hz2⟩ := info_parts int_info
  have HI := Lib.hid (And.intro hi (And.intro hz0 (And.intro hz1 hz2)))
  clear h hok hc hi hz0 hz1 hz2
  go_enter Tryd.func26, Tryd.ntmps26
  go_wp2_with fail
  refine (l02RankCounts_any A cp xs _ HR.out hl HO.out).mono ?_
  rintro e w1 ⟨A1, c1, rfl, ho, hb⟩
  have CN : Hid (IsCnt w1 A1 c) := by show IsCnt w1 A1 c; rw [HCC.out]; exact isCnt_of ho
  have B1 := Lib.hid hb
  rw [cntL_length]
  clear ho hb
  go_wp2_with fail
  refine (l04Straight_any A1 c1 c _ CN.out).mono ?_
  rintro e w2 ⟨rfl, rfl⟩
  by_cases hs : stS c = some 3
  · have e3 : stSI c = 3 := by unfold stSI; rw [hs]; rfl
    rw [e3]
    have R : Hid (kickS c = [3, 2, 1, 0, 12]) := by show kickS c = _; unfold kickS; rw [if_pos hs]
    clear hs e3
    go_wp2
    go_ret
    refine ⟨_, _, by rw [R.out]; rfl, ?_, B1.out.alloc B1.out.size _⟩
    rw [R.out]
    refine OwnI.of_rowIs B1.out.size (by simp) (by simp [nI]) (by decide) (World.rowIs_alloc w1 _ _ (fun j => .int .i64 ((nI [3, 2, 1, 0, 12]).getD j 0)) (fun i hi => ?_)) (fun j _ => rfl)
    have : i = 0 ∨ i = 1 ∨ i = 2 ∨ i = 3 ∨ i = 4 := by simp at hi; omega
    rcases this with rfl | rfl | rfl | rfl | rfl <;> rfl
  · obtain ⟨Z, hZ⟩ : ∃ Z, Z = stSI c := ⟨_, rfl⟩
    have e3 : (Z == 3) = false := by
      rw [hZ]
      refine beq_eq_false_iff_ne.2 fun e => hs ?_
      unfold stSI at e
      cases hh : stS c
      · rw [hh] at e; simp at e
      · next u =>
        rw [hh] at e
        have : u = 3 := by simp at e; omega
        rw [this]
    rw [← hZ]
    have R : Hid (kickS c = ordA c 4) := by show kickS c = _; unfold kickS; rw [if_neg hs]; rfl
    obtain ⟨b, off, rfl, hbb, hcell⟩ := CN.out
    have HCL := Lib.hid (And.intro hbb hcell)
    clear hs hZ hbb hcell
    go_wp2
    go_loopw [4, 5, 6, 7] (fun v nn _ _ wr => ∃ (m ln : Nat) (ks : List Nat), m ≤ 4 ∧ nn = .int .i64 (4 - (m : Int)) ∧ Hid (ks = ordA c m ∧ ln = ks.length) ∧ Hid (wr.ownsRow w1.heap.size 2 1 v ln ((nI ks).map (Value.int .i64))) ∧ Hid (Below w1.heap.size w1 wr))
      (fun _ nn _ _ _ => (intOf nn).toNat)
    case atStart => exact ⟨0, 0, [], by omega, rfl, ⟨rfl, rfl⟩, World.ownsRow_made w1 #[] 0 (Nat.le_refl _) (by decide) rfl, (Below.refl _ _).alloc (Nat.le_refl _) _⟩
    case round =>
      obtain ⟨m, ln, ks, hm, rfl, hk, hown, hB⟩ := hrel
      by_cases hm4 : m < 4
      · obtain ⟨n, hn⟩ : ∃ n : Nat, n + m = 4 := ⟨4 - m, by omega⟩
        have en : (4 : Int) - (m : Int) = (n : Int) := by omega
        rw [en]
        have hn1 : 1 ≤ n := by omega
        have hn4 : n ≤ 4 := by omega
        have dn : decide ((1 : Int) ≤ (n : Int)) = true := by simp; omega
        have HNM := Lib.hid (And.intro hn hm4)
        clear en hn hm hm4
        obtain ⟨wo, hwo⟩ : ∃ wo : World, wo = wr := ⟨_, rfl⟩
        rw [← hwo] at hown hB ⊢
        clear hwo
        go_wp2
        go_loopw [4, 6, 7] (fun v rr _ wr => ∃ (q ln : Nat) (ks : List Nat), q ≤ 13 ∧ rr = .int .i64 (12 - (q : Int)) ∧ Hid (ks = ordA c m ++ ordB c n q ∧ ln = ks.length) ∧ Hid (wr.ownsRow w1.heap.size 2 1 v ln ((nI ks).map (Value.int .i64))) ∧ Hid (Below w1.heap.size w1 wr))
          (fun _ rr _ _ => (intOf rr + 1).toNat)
        case atStart => exact ⟨0, ln, ks, by omega, rfl, ⟨by rw [hk.out.1]; simp [ordB], hk.out.2⟩, hown.out, hB.out⟩
        case round =>
          clear hk hown hB
          obtain ⟨q, ln, ks, hq, rfl, hk, hown, hB⟩ := hrel
          by_cases hq13 : q < 13
          · obtain ⟨p, hp⟩ : ∃ p : Nat, p + q = 12 := ⟨12 - q, by omega⟩
            have ep : (12 : Int) - (q : Int) = (p : Int) := by omega
            rw [ep]
            have hp13 : p < 13 := by omega
            have hpi : (p : Int) < 13 := by omega
            have HPQ := Lib.hid (And.intro hp hq13)
            clear ep hp hq hq13
            obtain ⟨wp, hwp⟩ : ∃ wp : World, wp = wr := ⟨_, rfl⟩
            rw [← hwp] at hown hB ⊢
            clear hwp
            obtain ⟨C, hC⟩ : ∃ C, C = c p := ⟨_, rfl⟩
            have HC := Lib.hid hC
            clear hC
            go_wp2
            go_loopw [4, 7] (fun v kk wr => ∃ (j ln : Nat) (ks : List Nat), j ≤ n ∧ (j = 0 ∨ C = n) ∧ kk = .int .i64 (j : Int) ∧ Hid (ks = ordA c m ++ ordB c n q ++ List.replicate j p ∧ ln = ks.length) ∧ Hid (wr.ownsRow w1.heap.size 2 1 v ln ((nI ks).map (Value.int .i64))) ∧ Hid (Below w1.heap.size w1 wr))
              (fun _ kk _ => n - (intOf kk).toNat)
            case atStart => exact ⟨0, ln, ks, by omega, .inl rfl, rfl, ⟨by rw [hk.out.1]; simp, hk.out.2⟩, hown.out, hB.out⟩
            case round =>
              clear hk hown hB
              obtain ⟨j, ln, ks, hj, hj0, rfl, hk, hown, hB⟩ := hrel
              have cC : wr.cell? ⟨b, off + p, none⟩ = some (.int .i64 (C : Nat)) := by rw [HC.out]; exact (hB.out.cell (p := ⟨b, off + p, none⟩) HCL.out.1).trans (HCL.out.2 p hp13)
              by_cases hgo : j < n ∧ C = n
              · obtain ⟨hjn, hCn⟩ := hgo
                have eC : ((C : Int) == (n : Int)) = true := by rw [hCn]; simp
                have hln : ln ≤ 400 := by
                  rw [hk.out.2, hk.out.1, List.length_append, List.length_append, List.length_replicate]
                  have h1 := ordA_le c m (by have := HNM.out; omega)
                  have h2 := ordB_le c n q
                  have h3 : q * n ≤ 13 * 4 := Nat.mul_le_mul (by have := HPQ.out; omega) hn4
                  have := HNM.out
                  omega
                have HCn := Lib.hid hCn
                clear hCn hj0
                go_wp2_with (at_builtin; refine wpList_append_lies _ rfl (.tmp 36) (.tmp 38) 27 rfl w1.heap.size 2 i0 (.int .i64 0) 1 8 Tryd.underlying27 HI.out.1 HI.out.2.1 HI.out.2.2.1 HI.out.2.2.2 rfl (by decide) _ ln _ rfl (hown.out.alloc _) ⟨wr.heap.size, 0, none⟩ 1 1 [.int .i64 p] rfl rfl (World.news_of_block (heap_alloc_new _ _)) (by simp [Value.oneCell']) (by decide) (by simp only [maxLen]; omega) (by omega) (by simp; have := hB.out.size; omega) _ rfl ?_; intro g cap w2 hown2 hgrow2 hat hlt2; have R1 := Lib.hid hown2; have G1 := Lib.hid (hB.out.trans ((((Below.refl _ _).alloc hB.out.size _)).grown hgrow2 (by simp; have := hB.out.size; omega) (fun j e => (hown.out.lt j e).1))); clear hown2 hgrow2 hat hlt2)
                go_roundw
                case rel =>
                  refine ⟨j + 1, ln + 1, ks ++ [p], by omega, .inr HCn.out, by go_num, ⟨?_, ?_⟩, ?_, G1⟩
                  · rw [hk.out.1, List.append_assoc, ← rep_snoc]
                  · rw [hk.out.2]; simp
                  · show World.ownsRow _ _ _ _ _ _ _
                    rw [nI_append, List.map_append]
                    exact R1.out
                case measure => simp [intOf]; omega
              · have hend : ks = ordA c m ++ ordB c n (q + 1) := by
                  rw [ordB_succ c n q HPQ.out.2, show 12 - q = p by have := HPQ.out; omega, ← HC.out, hk.out.1]
                  by_cases e : C = n
                  · rw [if_pos e, show j = n by omega, List.append_assoc]
                  · have : j = 0 := by omega
                    subst this
                    rw [if_neg e]; simp
                have HEND := Lib.hid hend
                have hn' : ¬ (j < n ∧ C = n) := hgo
                clear hend hgo
                by_cases hjn : j < n
                · have eC : ((C : Int) == (n : Int)) = false := by
                    refine beq_eq_false_iff_ne.2 fun e => hn' ⟨hjn, by omega⟩
                  have hz : Hid (j = 0 ∨ C = n) := hj0
                  clear hj0 hn'
                  go_wp2
                  go_roundw
                  case rel => exact ⟨q + 1, ln, ks, by have := HPQ.out; omega, int_eq (by have := HPQ.out; omega), ⟨HEND.out, hk.out.2⟩, hown, hB⟩
                  case measure => simp [intOf] <;> omega
                · have hz : Hid (j = 0 ∨ C = n) := hj0
                  clear hj0 hn'
                  go_wp2
                  go_roundw
                  case rel => exact ⟨q + 1, ln, ks, by have := HPQ.out; omega, int_eq (by have := HPQ.out; omega), ⟨HEND.out, hk.out.2⟩, hown, hB⟩
                  case measure => simp [intOf] <;> omega
          · have hq' : q = 13 := by omega
            subst hq'
            have HEND : Hid (ks = ordA c (m + 1)) := by
              show ks = _
              rw [ordA_succ c m HNM.out.2, show 4 - m = n by have := HNM.out; omega, hk.out.1]
            go_wp2
            go_roundw
            case rel => exact ⟨m + 1, ln, ks, by have := HNM.out; omega, int_eq (by have := HNM.out; omega), ⟨HEND.out, hk.out.2⟩, hown, hB⟩
            case measure => simp [intOf] <;> omega
      · have hm' : m = 4 := by omega
        subst hm'
        have e2 : ks = ordA c 4 := hk.out.1
        have e1 : ln = (nI (ordA c 4)).length := by rw [nI_length, ← e2]; exact hk.out.2
        obtain ⟨A', c', hv, ho⟩ := ownI_of_owns (xs := nI (ordA c 4)) (by rw [← e1, ← e2]; exact hown.out)
        have HO2 := Lib.hid ho
        subst hv
        clear ho e1 e2
        go_wp2
        go_ret
        exact ⟨A', c', by rw [R.out]; rfl, by rw [R.out]; exact HO2.out.mono B1.out.size, B1.out.trans (hB.out.mono B1.out.size)⟩
end Go.Proofs.YtbhlghadjcbilaaDoor
