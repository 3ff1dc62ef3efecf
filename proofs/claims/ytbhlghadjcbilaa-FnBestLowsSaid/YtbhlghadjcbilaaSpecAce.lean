/-
  The ace-to-five value of five cards in the reference.
-/
import Derived.Test.YtbhlghadjcbilaaSpecVal
namespace Go.Proofs.Ytbhlghadjcbilaa
open Go.RowKit

/-- The low rank of a card; how many cards have a low rank. -/
def lrK (x : Int) : Int := (x / 4 + 1) % 13
def lcnt (xs : List Int) (r : Nat) : Nat := xs.countP fun x => decide (lrK x = (r : Int))
theorem lcnt_le {xs : List Int} (ho : okC xs) (r : Nat) : lcnt xs r ≤ 4 := by
  have H : ∀ x ∈ xs, 0 ≤ x ∧ x ≤ 51 := ho.1
  have e : lcnt xs r = xs.countP (fun x => decide (0 ≤ x ∧ x ≤ 51) && decide (lrK x = (r : Int))) := List.countP_congr fun x hx => by simp [H x hx]
  rw [e]
  refine key_le ho (fun x => x % 4) 4 _ (fun x y h1 h2 h3 => ?_) (fun x _ _ _ => by omega)
  simp only [Bool.and_eq_true, decide_eq_true_eq] at h1 h2
  obtain ⟨⟨a1, a2⟩, a3⟩ := h1
  obtain ⟨⟨b1, b2⟩, b3⟩ := h2
  unfold lrK at a3 b3
  have : x % 4 = y % 4 := h3
  omega
theorem total_lcnt {xs : List Int} (ho : okC xs) : total (lcnt xs) = xs.length := by
  have H : ∀ ys : List Int, (∀ x ∈ ys, 0 ≤ x ∧ x ≤ 51) → total (lcnt ys) = ys.length := by
    intro ys
    induction ys with
    | nil => intro _; decide
    | cons x ys ih =>
      intro h
      have ih := ih (fun y hy => h y (by simp [hy]))
      have hx := h x (by simp)
      have e : ∀ r, lcnt (x :: ys) r = lcnt ys r + if lrK x = (r : Int) then 1 else 0 := fun r => by
        unfold lcnt; rw [List.countP_cons]; simp
      have : total (lcnt (x :: ys)) = total (lcnt ys) + (ranks.map fun r => if lrK x = ((r : Nat) : Int) then 1 else 0).sum := by
        unfold total
        rw [← sum_add]
        congr 1
        exact List.map_congr_left fun r _ => e r
      rw [this, ih]
      obtain ⟨q, hq⟩ : ∃ q : Nat, lrK x = (q : Int) := ⟨(lrK x).toNat, by unfold lrK; omega⟩
      have hq13 : q < 13 := by unfold lrK at hq; omega
      have : (ranks.map fun r => if lrK x = ((r : Nat) : Int) then 1 else 0).sum = 1 := by
        rw [hq]
        have : (fun r : Nat => if (q : Int) = (r : Int) then 1 else 0) = fun r : Nat => if q = r then 1 else 0 := by
          funext r
          by_cases e : q = r
          · simp [e]
          · rw [if_neg e, if_neg (by omega)]
        rw [this]
        have all : ∀ q, q < 13 → (ranks.map fun r => if q = r then 1 else 0).sum = 1 := by decide
        exact all q hq13
      simp [this]
  exact H xs ho.1
theorem cntN_lcnt (xs : List Int) (j k : Nat) (hk : k ≤ xs.length) : cntN lrK xs j k = ((lcnt (xs.take k) j : Nat) : Int) := by
  induction k with
  | zero => rfl
  | succ k ih =>
    rw [cntN_succ, ih (by omega), take_snoc (by omega)]
    generalize xs.getD k 0 = x
    unfold lcnt
    rw [List.countP_append]
    by_cases e : lrK x = (j : Int)
    · simp [e]
    · simp [e]
theorem isCnt_low {w : World} {lo : Nat} {A : Option Addr} {cp : Nat} {xs : List Int} (h : OwnI w lo A cp (cntL lrK 13 xs)) : IsCnt w A (lcnt xs) := by
  rcases h.row with h | ⟨b, off, e, hb, hc⟩
  · have := congrArg List.length h; rw [cntL_length] at this; cases this
  · refine ⟨b, off, e, hb, fun r hr => ?_⟩
    rw [hc r (by rw [cntL_length]; exact hr), cntL_getD _ _ _ _ hr, cntN_lcnt _ _ _ (Nat.le_refl _), List.take_length]

theorem ord_len {c : Nat → Nat} (hc : ∀ r, c r ≤ 4) (h5 : total c = 5) : (ordS c).length = 5 ∧ ∀ d ∈ ordS c, d < 13 := by
  refine ⟨?_, fun d hd => ?_⟩
  · have ht := total_Fl c hc
    rw [h5] at ht
    have rep : ∀ (n : Nat) (l : List Nat), (l.flatMap (List.replicate n)).length = n * l.length := fun n l => by
      induction l with
      | nil => rfl
      | cons a l ih => rw [List.flatMap_cons, List.length_append, List.length_replicate, ih, List.length_cons, Nat.mul_succ]; omega
    rw [ordS_eq, List.length_append, List.length_append, List.length_append, rep, rep, rep]
    omega
  · unfold ordS at hd
    simp only [List.mem_flatMap] at hd
    obtain ⟨n, _, r, hr, hd⟩ := hd
    split at hd
    · have := List.eq_of_mem_replicate hd
      have := mem_ranks.1 hr
      omega
    · cases hd
theorem pat_le {c : Nat → Nat} (hc : ∀ r, c r ≤ 4) (h5 : total c = 5) : (if manyS c 4 = 1 then 5 else if manyS c 3 = 1 ∧ manyS c 2 = 1 then 4 else if manyS c 3 = 1 then 3 else manyS c 2) ≤ 5 := by
  have ht := total_Fl c hc
  have e : manyS c 2 = (Fl c 2).length := rfl
  (repeat' split) <;> omega
theorem l05Rank_any (x : Int) (w : World) (h0 : 0 ≤ x) (h1 : x ≤ 51) : Calls Try.prog 117 #[.int .i64 x] w fun e w' => e = .returned (.int .i64 (lrK x)) ∧ w = w' := by
  go_enter Try.func117, Try.ntmps117
  go_wp2
  go_ret
  exact ⟨rfl, rfl⟩
theorem lowRank_any (x : Int) (w : World) (h0 : 0 ≤ x) (h1 : x ≤ 51) : Calls Try.prog 68 #[.int .i64 x] w fun e w' => e = .returned (.int .i64 (lrK x)) ∧ w = w' := by
  go_enter Try.func68, Try.ntmps68
  go_wp2
  go_ret
  exact ⟨rfl, rfl⟩

set_option maxRecDepth 8000 in
/-- The counts of low ranks in the reference. -/
theorem l05Counts_any (A : Option Addr) (c : Nat) (xs : List Int) (w : World) (h : RowI w A xs) (hl : xs.length ≤ 1048576) (hok : okC xs) :
    Calls Try.prog 132 #[.slice A xs.length c] w (GivesI w (cntL lrK 13 xs)) := by
  obtain ⟨n, hn⟩ : ∃ n, n = xs.length := ⟨_, rfl⟩
  rw [← hn] at hl ⊢
  have HN := Lib.hid hn
  have HR := Lib.hid h
  have HO := Lib.hid hok
  clear hn h hok
  have hmk : ∀ w : World, (Instr.makeSlice 24 (.int .i64 13) (.int .i64 13)).run Try.prog w = .ok (.slice (some ⟨w.heap.size, 0, none⟩) 13 13) (w.alloc (.cells (madeCells #[.int .i64 0] 13) 2)) := fun _ => by kernel_rfl
  go_enter Try.func132, Try.ntmps132
  go_wp2
  go_loopw [4] (fun i wr => ∃ k : Nat, k ≤ n ∧ i = .int .i64 k ∧ wr.rowIs w.heap.size 2 13 (fun j => .int .i64 (cntN lrK xs j k)) ∧ Hid (Below w.heap.size w wr))
    (fun i _ => n - (intOf i).toNat)
  case atStart => exact ⟨0, Nat.zero_le _, rfl, (World.rowIs_made w _ 13 _).congr (fun i _ => by simp [cntN]), (Below.refl _ _).alloc (Nat.le_refl _) _⟩
  case round =>
    obtain ⟨k, hk, rfl, hr, hB⟩ := hrel
    clear hmk
    by_cases hlt : k < n
    · obtain ⟨b, off, rfl, hb, hc⟩ := HR.out.at_ (k := k) (by rw [← HN.out]; exact hlt)
      have hx2 := okC_getD HO.out (k := k) (by rw [← HN.out]; exact hlt)
      obtain ⟨x, hx⟩ : ∃ x, x = xs.getD k 0 := ⟨_, rfl⟩
      rw [← hx] at hx2
      obtain ⟨x0, x1⟩ := hx2
      have hc1 : wr.cell? ⟨b, off + k, none⟩ = some (.int .i64 x) := by rw [hx]; exact (hB.out.cell (p := ⟨b, off + k, none⟩) hb).trans hc
      obtain ⟨q, hq⟩ : ∃ q : Nat, lrK x = (q : Int) := ⟨(lrK x).toNat, by unfold lrK; omega⟩
      have hqm : q < 13 := by unfold lrK at hq; omega
      have k1 : (q : Int) < 13 := by omega
      have hc2 := hr.cell (i := q) hqm
      obtain ⟨v, hv⟩ : ∃ v, v = cntN lrK xs q k := ⟨_, rfl⟩
      have hv2 := cntN_le lrK xs q k
      rw [← hv] at hc2 hv2
      obtain ⟨v0, v1⟩ := hv2
      have k5 : IntKind.i64.wrap (v + 1) = v + 1 := IntWalk.i64_in _ (by omega)
      have hf2 := hr.frozen q
      have HRW := Lib.hid hr
      have HX := Lib.hid hx
      have HQ := Lib.hid hq
      have HV := Lib.hid hv
      have bne : ¬ b = w.heap.size := by omega
      clear hr hx hc hq hv hb
      go_wp2_with fail
      refine (l05Rank_any x _ x0 x1).mono ?_
      rintro e w2 ⟨rfl, rfl⟩
      rw [HQ.out]
      go_wp2
      go_roundw
      case rel =>
        refine ⟨k + 1, by omega, by go_num, (HRW.out.set q _).congr (fun j _ => ?_), hB.out.setCell (Nat.le_refl _) _⟩
        have hkey : lrK (xs.getD k 0) = (q : Int) := by rw [← HX.out, ← HQ.out]
        rw [cntN_succ, hkey]
        by_cases e : j = q
        · subst e
          rw [if_pos rfl, if_pos rfl, HV.out]
        · have e2 : ¬ (q : Int) = (j : Int) := by omega
          rw [if_neg e, if_neg e2, Int.add_zero]
      case measure => simp [intOf]; omega
    · have hkn : k = n := by omega
      have HRW := Lib.hid hr
      subst hkn
      clear hr hlt
      go_wp2
      go_ret
      have O : OwnI wr w.heap.size (some ⟨w.heap.size, 0, none⟩) 13 (cntL lrK 13 xs) := OwnI.of_rowIs (Nat.le_refl _) HRW.out.lt (by rw [cntL_length]; exact Nat.le_refl _) (by simp only [maxLen]; omega) HRW.out (fun j hj => by
        rw [cntL_length] at hj
        rw [cntL_getD _ _ _ _ hj, ← HN.out])
      exact ⟨some ⟨w.heap.size, 0, none⟩, 13, by rw [cntL_length]; rfl, O, hB.out⟩

set_option maxHeartbeats 2000000 in
set_option maxRecDepth 8000 in
theorem l05Ordered_any (A : Option Addr) (cp : Nat) (c : Nat → Nat) (w1 : World) (h : IsCnt w1 A c) :
    Calls Try.prog 134 #[.slice A 13 cp] w1 (GivesI w1 (nI (ordS c))) := by
  obtain ⟨i0, hi, hz0, hz1, hz2⟩ := info_parts int_info
  have HI := Lib.hid (And.intro hi (And.intro hz0 (And.intro hz1 hz2)))
  obtain ⟨b, off, rfl, hbb, hcell⟩ := h
  have HCL := Lib.hid (And.intro hbb hcell)
  have R : Hid (ordS c = ordA c 4) := rfl
  clear hi hz0 hz1 hz2 hbb hcell
  go_enter Try.func134, Try.ntmps134
  go_wp2
  go_loopw [3, 4, 5, 6] (fun v nn _ _ wr => ∃ (m ln : Nat) (ks : List Nat), m ≤ 4 ∧ nn = .int .i64 (4 - (m : Int)) ∧ Hid (ks = ordA c m ∧ ln = ks.length) ∧ Hid (wr.ownsRow w1.heap.size 2 1 v ln ((nI ks).map (Value.int .i64))) ∧ Hid (Below w1.heap.size w1 wr))
    (fun _ nn _ _ _ => (intOf nn).toNat)
  case atStart => exact ⟨0, 0, [], by omega, rfl, ⟨rfl, rfl⟩, World.ownsRow_made w1 #[] 0 (Nat.le_refl _) (by decide) rfl, (Below.refl _ _).alloc (Nat.le_refl _) _⟩
  case round =>
    obtain ⟨m, ln, ks, hm, rfl, hk, hown, hB⟩ := hrel
    by_cases hm4 : m < 4
    · obtain ⟨n, hn⟩ : ∃ n : Nat, n + m = 4 := ⟨4 - m, by omega⟩
      have en : (4 : Int) - (m : Int) = (n : Int) := by omega
      rw [en]
      have hn1 : 1 ≤ n := by omega
      have hn4 : n ≤ 4 := by omega
      have dn : decide ((1 : Int) ≤ (n : Int)) = true := by simp; omega
      have HNM := Lib.hid (And.intro hn hm4)
      clear en hn hm hm4
      obtain ⟨wo, hwo⟩ : ∃ wo : World, wo = wr := ⟨_, rfl⟩
      rw [← hwo] at hown hB ⊢
      clear hwo
      go_wp2
      go_loopw [3, 5, 6] (fun v rr _ wr => ∃ (q ln : Nat) (ks : List Nat), q ≤ 13 ∧ rr = .int .i64 (12 - (q : Int)) ∧ Hid (ks = ordA c m ++ ordB c n q ∧ ln = ks.length) ∧ Hid (wr.ownsRow w1.heap.size 2 1 v ln ((nI ks).map (Value.int .i64))) ∧ Hid (Below w1.heap.size w1 wr))
        (fun _ rr _ _ => (intOf rr + 1).toNat)
      case atStart => exact ⟨0, ln, ks, by omega, rfl, ⟨by rw [hk.out.1]; simp [ordB], hk.out.2⟩, hown.out, hB.out⟩
      case round =>
        clear hk hown hB
        obtain ⟨q, ln, ks, hq, rfl, hk, hown, hB⟩ := hrel
        by_cases hq13 : q < 13
        · obtain ⟨p, hp⟩ : ∃ p : Nat, p + q = 12 := ⟨12 - q, by omega⟩
          have ep : (12 : Int) - (q : Int) = (p : Int) := by omega
          rw [ep]
          have hp13 : p < 13 := by omega
          have hpi : (p : Int) < 13 := by omega
          have HPQ := Lib.hid (And.intro hp hq13)
          clear ep hp hq hq13
          obtain ⟨wp, hwp⟩ : ∃ wp : World, wp = wr := ⟨_, rfl⟩
          rw [← hwp] at hown hB ⊢
          clear hwp
          obtain ⟨C, hC⟩ : ∃ C, C = c p := ⟨_, rfl⟩
          have HC := Lib.hid hC
          clear hC
          go_wp2
          go_loopw [3, 6] (fun v kk wr => ∃ (j ln : Nat) (ks : List Nat), j ≤ n ∧ (j = 0 ∨ C = n) ∧ kk = .int .i64 (j : Int) ∧ Hid (ks = ordA c m ++ ordB c n q ++ List.replicate j p ∧ ln = ks.length) ∧ Hid (wr.ownsRow w1.heap.size 2 1 v ln ((nI ks).map (Value.int .i64))) ∧ Hid (Below w1.heap.size w1 wr))
            (fun _ kk _ => n - (intOf kk).toNat)
          case atStart => exact ⟨0, ln, ks, by omega, .inl rfl, rfl, ⟨by rw [hk.out.1]; simp, hk.out.2⟩, hown.out, hB.out⟩
          case round =>
            clear hk hown hB
            obtain ⟨j, ln, ks, hj, hj0, rfl, hk, hown, hB⟩ := hrel
            have cC : wr.cell? ⟨b, off + p, none⟩ = some (.int .i64 (C : Nat)) := by rw [HC.out]; exact (hB.out.cell (p := ⟨b, off + p, none⟩) HCL.out.1).trans (HCL.out.2 p hp13)
            by_cases hgo : j < n ∧ C = n
            · obtain ⟨hjn, hCn⟩ := hgo
              have eC : ((C : Int) == (n : Int)) = true := by rw [hCn]; simp
              have hln : ln ≤ 400 := by
                rw [hk.out.2, hk.out.1, List.length_append, List.length_append, List.length_replicate]
                have h1 := ordA_le c m (by have := HNM.out; omega)
                have h2 := ordB_le c n q
                have h3 : q * n ≤ 13 * 4 := Nat.mul_le_mul (by have := HPQ.out; omega) hn4
                have := HNM.out
                omega
              have HCn := Lib.hid hCn
              clear hCn hj0
              go_wp2_with (at_builtin; refine wpList_append_lies _ rfl (.tmp 29) (.tmp 31) 24 rfl w1.heap.size 2 i0 (.int .i64 0) 1 8 Try.underlying24 HI.out.1 HI.out.2.1 HI.out.2.2.1 HI.out.2.2.2 rfl (by decide) _ ln _ rfl (hown.out.alloc _) ⟨wr.heap.size, 0, none⟩ 1 1 [.int .i64 p] rfl rfl (World.news_of_block (heap_alloc_new _ _)) (by simp [Value.oneCell']) (by decide) (by simp only [maxLen]; omega) (by omega) (by simp; have := hB.out.size; omega) _ rfl ?_; intro g cap w2 hown2 hgrow2 hat hlt2; have R1 := Lib.hid hown2; have G1 := Lib.hid (hB.out.trans ((((Below.refl _ _).alloc hB.out.size _)).grown hgrow2 (by simp; have := hB.out.size; omega) (fun j e => (hown.out.lt j e).1))); clear hown2 hgrow2 hat hlt2)
              go_roundw
              case rel =>
                refine ⟨j + 1, ln + 1, ks ++ [p], by omega, .inr HCn.out, by go_num, ⟨?_, ?_⟩, ?_, G1⟩
                · rw [hk.out.1, List.append_assoc, ← rep_snoc]
                · rw [hk.out.2]; simp
                · show World.ownsRow _ _ _ _ _ _ _
                  rw [nI_append, List.map_append]
                  exact R1.out
              case measure => simp [intOf]; omega
            · have hend : ks = ordA c m ++ ordB c n (q + 1) := by
                rw [ordB_succ c n q HPQ.out.2, show 12 - q = p by have := HPQ.out; omega, ← HC.out, hk.out.1]
                by_cases e : C = n
                · rw [if_pos e, show j = n by omega, List.append_assoc]
                · have : j = 0 := by omega
                  subst this
                  rw [if_neg e]; simp
              have HEND := Lib.hid hend
              have hn' : ¬ (j < n ∧ C = n) := hgo
              clear hend hgo
              by_cases hjn : j < n
              · have eC : ((C : Int) == (n : Int)) = false := by
                  refine beq_eq_false_iff_ne.2 fun e => hn' ⟨hjn, by omega⟩
                have hz : Hid (j = 0 ∨ C = n) := hj0
                clear hj0 hn'
                go_wp2
                go_roundw
                case rel => exact ⟨q + 1, ln, ks, by have := HPQ.out; omega, int_eq (by have := HPQ.out; omega), ⟨HEND.out, hk.out.2⟩, hown, hB⟩
                case measure => simp [intOf] <;> omega
              · have hz : Hid (j = 0 ∨ C = n) := hj0
                clear hj0 hn'
                go_wp2
                go_roundw
                case rel => exact ⟨q + 1, ln, ks, by have := HPQ.out; omega, int_eq (by have := HPQ.out; omega), ⟨HEND.out, hk.out.2⟩, hown, hB⟩
                case measure => simp [intOf] <;> omega
        · have hq' : q = 13 := by omega
          subst hq'
          have HEND : Hid (ks = ordA c (m + 1)) := by
            show ks = _
            rw [ordA_succ c m HNM.out.2, show 4 - m = n by have := HNM.out; omega, hk.out.1]
          go_wp2
          go_roundw
          case rel => exact ⟨m + 1, ln, ks, by have := HNM.out; omega, int_eq (by have := HNM.out; omega), ⟨HEND.out, hk.out.2⟩, hown, hB⟩
          case measure => simp [intOf] <;> omega
    · have hm' : m = 4 := by omega
      subst hm'
      have e2 : ks = ordA c 4 := hk.out.1
      have e1 : ln = (nI (ordA c 4)).length := by rw [nI_length, ← e2]; exact hk.out.2
      obtain ⟨A', c', hv, ho⟩ := ownI_of_owns (xs := nI (ordA c 4)) (by rw [← e1, ← e2]; exact hown.out)
      have HO2 := Lib.hid ho
      subst hv
      clear ho e1 e2
      go_wp2
      go_ret
      exact ⟨A', c', by rw [R.out]; rfl, by rw [R.out]; exact HO2.out, hB.out⟩

/-- The pattern of five cards. -/
def patS (c : Nat → Nat) : Nat := if manyS c 4 = 1 then 5 else if manyS c 3 = 1 ∧ manyS c 2 = 1 then 4 else if manyS c 3 = 1 then 3 else manyS c 2
set_option maxHeartbeats 2000000 in
set_option maxRecDepth 8000 in
theorem l05Pattern_any (A : Option Addr) (cp : Nat) (c : Nat → Nat) (w1 : World) (h : IsCnt w1 A c) (h4 : ∀ r, c r ≤ 4) :
    Calls Try.prog 133 #[.slice A 13 cp] w1 fun e w' => e = .returned (.int .i64 (patS c : Nat)) ∧ Below w1.heap.size w1 w' := by
  have hc4 := Lib.hid h4
  obtain ⟨b, off, rfl, hbb, hcell⟩ := h
  have HCL := Lib.hid (And.intro hbb hcell)
  have hmk : ∀ w : World, (Instr.makeSlice 24 (.int .i64 5) (.int .i64 5)).run Try.prog w = .ok (.slice (some ⟨w.heap.size, 0, none⟩) 5 5) (w.alloc (.cells (madeCells #[.int .i64 0] 5) 2)) := fun _ => by kernel_rfl
  clear h4 hbb hcell
  go_enter Try.func133, Try.ntmps133
  go_wp2
  go_loopw [4] (fun i wr => ∃ k : Nat, k ≤ 13 ∧ i = .int .i64 (k : Int) ∧ wr.rowIs w1.heap.size 2 5 (fun j => .int .i64 (manyK c k j : Nat)) ∧ Hid (Below w1.heap.size w1 wr))
    (fun i _ => 13 - (intOf i).toNat)
  case atStart => exact ⟨0, by omega, rfl, (World.rowIs_made w1 _ 5 _).congr (fun i _ => by simp [manyK]), (Below.refl _ _).alloc (Nat.le_refl _) _⟩
  case round =>
    obtain ⟨k, hk, rfl, hrow, hB⟩ := hrel
    clear hmk
    by_cases hlt : k < 13
    · have cC : wr.cell? ⟨b, off + k, none⟩ = some (.int .i64 (c k : Nat)) := (hB.out.cell (p := ⟨b, off + k, none⟩) HCL.out.1).trans (HCL.out.2 k hlt)
      obtain ⟨q, hq⟩ : ∃ q, q = c k := ⟨_, rfl⟩
      have hq4 : q ≤ 4 := by rw [hq]; exact hc4.out k
      rw [← hq] at cC
      have hq5 : q < 5 := by omega
      have hqi : (q : Int) < 5 := by omega
      have hc2 := hrow.cell (i := q) hq5
      have hf2 := hrow.frozen q
      obtain ⟨N, hN⟩ : ∃ N, N = manyK c k q := ⟨_, rfl⟩
      have hN13 : N ≤ 13 := by rw [hN]; exact Nat.le_trans (manyK_le c k q) (by omega)
      rw [← hN] at hc2
      have w1' : IntKind.i64.wrap ((N : Int) + 1) = (N : Int) + 1 := IntWalk.i64_in _ (by omega)
      have HRW := Lib.hid hrow
      have HQ := Lib.hid hq
      have HN := Lib.hid hN
      have bne : ¬ b = w1.heap.size := by have := HCL.out.1; omega
      clear hrow hq hN
      go_wp2
      go_roundw
      case rel =>
        refine ⟨k + 1, by omega, by go_num, (HRW.out.set q _).congr (fun j _ => ?_), hB.out.setCell (Nat.le_refl _) _⟩
        rw [manyK_succ, ← HQ.out]
        by_cases e : j = q
        · subst e; rw [if_pos rfl, if_pos rfl, HN.out]; rfl
        · rw [if_neg e, if_neg (by omega)]; rfl
      case measure => simp [intOf]; omega
    · have hk13 : k = 13 := by omega
      subst hk13
      have m4 := hrow.cell (i := 4) (by omega)
      have m3 := hrow.cell (i := 3) (by omega)
      have m2 := hrow.cell (i := 2) (by omega)
      rw [manyK_all] at m4 m3 m2
      obtain ⟨n4, e4⟩ : ∃ n, n = manyS c 4 := ⟨_, rfl⟩
      obtain ⟨n3, e3⟩ : ∃ n, n = manyS c 3 := ⟨_, rfl⟩
      obtain ⟨n2, e2⟩ : ∃ n, n = manyS c 2 := ⟨_, rfl⟩
      rw [← e4] at m4
      rw [← e3] at m3
      rw [← e2] at m2
      have MM := Lib.hid (And.intro m4 (And.intro m3 (And.intro m2 hrow.lt)))
      have EE := Lib.hid (And.intro e4 (And.intro e3 e2))
      have CAT : Hid (patS c = if n4 = 1 then 5 else if n3 = 1 ∧ n2 = 1 then 4 else if n3 = 1 then 3 else n2) := by
        show _ = _
        unfold patS
        rw [EE.out.1, EE.out.2.1, EE.out.2.2]
      have LT := Lib.hid hrow.lt
      have BE := Lib.hid hB
      clear e4 e3 e2 hrow hlt hk
      go_wp2
      all_goals
        go_ret
        refine ⟨ret_int ?_, hB.out⟩
        rw [CAT.out]
        first
          | ((repeat' split) <;> first | rfl | (exfalso; omega))
          | (simp only [beq_iff_eq, beq_eq_false_iff_ne, ne_eq] at *; (repeat' split) <;> first | rfl | (exfalso; omega))

theorem l05Ace_any (A : Option Addr) (cp : Nat) (xs : List Int) (w : World) (h : RowI w A xs) (h5 : xs.length = 5) (hok : okC xs) :
    Calls Try.prog 104 #[.slice A xs.length cp] w fun e w' => e = .returned (.int .i64 ((371293 * patS (lcnt xs) + kvN 0 (ordS (lcnt xs)) : Nat) : Int)) ∧ Below w.heap.size w w' := by
  have HR := Lib.hid h
  have HO := Lib.hid hok
  have hl : xs.length ≤ 1048576 := by omega
  obtain ⟨c, hc⟩ : ∃ c, c = lcnt xs := ⟨_, rfl⟩
  have hc4 : Hid (∀ r, c r ≤ 4) := by rw [hc]; exact lcnt_le hok
  have h5t : total c = 5 := by rw [hc, total_lcnt hok, h5]
  have hol := ord_len hc4.out h5t
  have hpat : patS c ≤ 5 := pat_le hc4.out h5t
  have hkv : kvN 0 (ordS c) < 371293 := by have := kv_range hol.1 hol.2 0; omega
  obtain ⟨K, hK⟩ : ∃ K, K = kvN 0 (ordS c) := ⟨_, rfl⟩
  obtain ⟨P, hP⟩ : ∃ P, P = patS c := ⟨_, rfl⟩
  rw [← hc, ← hK, ← hP]
  rw [← hK] at hkv
  rw [← hP] at hpat
  have HCC := Lib.hid hc
  have HK := Lib.hid hK
  have HP := Lib.hid hP
  have OL := Lib.hid hol
  clear h hok hc hK hP hol h5t h5
  go_enter Try.func104, Try.ntmps104
  go_wp2_with fail
  refine (l05Counts_any A cp xs _ HR.out hl HO.out).mono ?_
  rintro e w1 ⟨A1, c1, rfl, ho, hb⟩
  have CN : Hid (IsCnt w1 A1 c) := by show IsCnt w1 A1 c; rw [HCC.out]; exact isCnt_low ho
  have B1 := Lib.hid hb
  rw [cntL_length]
  clear ho hb
  go_wp2_with fail
  refine (l05Pattern_any A1 c1 c _ CN.out hc4.out).mono ?_
  rintro e w2 ⟨rfl, hb⟩
  rw [← HP.out]
  have B2 := Lib.hid (B1.out.trans (hb.mono B1.out.size))
  have CN2 : Hid (IsCnt w2 A1 c) := by
    obtain ⟨b, off, e, hbb, hcell⟩ := CN.out
    exact ⟨b, off, e, Nat.lt_of_lt_of_le hbb hb.size, fun r hr => (hb.cell (p := ⟨b, off + r, none⟩) hbb).trans (hcell r hr)⟩
  clear hb
  go_wp2_with fail
  refine (l05Ordered_any A1 c1 c _ CN2.out).mono ?_
  rintro e w3 ⟨A3, c3, rfl, ho, hb⟩
  have O3 := Lib.hid ho.row
  have B3 := Lib.hid (B2.out.trans (hb.mono B2.out.size))
  rw [nI_length]
  clear ho hb
  go_wp2_with fail
  refine (digits_any A3 c3 (ordS c) _ O3.out (by rw [OL.out.1]; omega) OL.out.2).mono ?_
  rintro e w4 ⟨rfl, rfl⟩
  rw [← HK.out]
  go_wp2
  go_ret
  exact ⟨ret_int (by omega), B3.out⟩
end Go.Proofs.Ytbhlghadjcbilaa
