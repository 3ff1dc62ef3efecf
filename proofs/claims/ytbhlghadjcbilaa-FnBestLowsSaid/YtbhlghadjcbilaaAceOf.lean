/-
  The ace-to-five value of five cards in the program.
-/
import Derived.Test.YtbhlghadjcbilaaSpecAce
import Derived.Test.YtbhlghadjcbilaaHighVal
namespace Go.Proofs.Ytbhlghadjcbilaa
open Go.RowKit

theorem lcnt_snoc (xs : List Int) (x : Int) (r : Nat) : lcnt (xs ++ [x]) r = lcnt xs r + if lrK x = (r : Int) then 1 else 0 := by
  unfold lcnt; rw [List.countP_append]; simp [List.countP_cons]
theorem ordB_lt {c : Nat → Nat} {n q d : Nat} (h : d ∈ ordB c n q) : d < 13 := by
  unfold ordB at h
  obtain ⟨r, hr, hd⟩ := List.mem_flatMap.1 h
  split at hd
  · have := List.eq_of_mem_replicate hd
    have := mem_ranks.1 (List.mem_of_mem_take hr)
    omega
  · cases hd
theorem ordA_lt {c : Nat → Nat} {m d : Nat} (h : d ∈ ordA c m) : d < 13 := by
  unfold ordA at h
  obtain ⟨n, _, h⟩ := List.mem_flatMap.1 h
  obtain ⟨r, hr, hd⟩ := List.mem_flatMap.1 h
  split at hd
  · have := List.eq_of_mem_replicate hd
    have := mem_ranks.1 hr
    omega
  · cases hd
theorem ordB_mono (c : Nat → Nat) (n q : Nat) : ∀ d, q + d ≤ 13 → (ordB c n q).length ≤ (ordB c n (q + d)).length
  | 0, _ => Nat.le_refl _
  | d + 1, h => by
    have := ordB_mono c n q d (by omega)
    rw [← Nat.add_assoc, ordB_succ c n (q + d) (by omega), List.length_append]
    omega
theorem ordA_mono (c : Nat → Nat) (m : Nat) : ∀ d, m + d ≤ 4 → (ordA c m).length ≤ (ordA c (m + d)).length
  | 0, _ => Nat.le_refl _
  | d + 1, h => by
    have := ordA_mono c m d (by omega)
    rw [← Nat.add_assoc, ordA_succ c (m + d) (by omega), List.length_append]
    omega
/-- Each beginning of the ordered ranks has at most five of them. -/
theorem ord_part {c : Nat → Nat} (hl : (ordS c).length = 5) {m q j p : Nat} (hm : m < 4) (hq : q < 13) (hp : p + q = 12) (hj : j = 0 ∨ (c p = 4 - m ∧ j ≤ 4 - m)) :
    (ordA c m ++ ordB c (4 - m) q ++ List.replicate j p).length ≤ 5 := by
  have h1 := ordB_mono c (4 - m) (q + 1) (13 - (q + 1)) (by omega)
  have h2 := ordA_mono c (m + 1) (4 - (m + 1)) (by omega)
  rw [show m + 1 + (4 - (m + 1)) = 4 by omega, ordA_succ c m hm, List.length_append] at h2
  rw [show q + 1 + (13 - (q + 1)) = 13 by omega, ordB_succ c (4 - m) q hq, List.length_append, show 12 - q = p by omega] at h1
  have h3 : (ordA c 4).length = 5 := hl
  rw [List.length_append, List.length_append, List.length_replicate]
  rcases hj with rfl | ⟨e, hj⟩
  · omega
  · rw [if_pos e, List.length_replicate] at h1; omega
def prB (c : Nat → Nat) (n q : Nat) : Nat := if n = 2 then ((ranks.take q).filter fun r => c r == 2).length else 0
def prA (c : Nat → Nat) : Nat → Nat
  | 0 => 0
  | m + 1 => prA c m + prB c (4 - m) 13
def moB (c : Nat → Nat) (b n q : Nat) : Nat := if ((ranks.take q).any fun r => c r == n) = true then max b n else b
def moA (c : Nat → Nat) : Nat → Nat
  | 0 => 0
  | m + 1 => moB c (moA c m) (4 - m) 13
theorem prB_succ (c : Nat → Nat) (n q p : Nat) (h : q < 13) (hp : p + q = 12) : prB c n (q + 1) = prB c n q + if n = 2 ∧ c p = 2 then 1 else 0 := by
  unfold prB
  by_cases hn : n = 2
  · rw [if_pos hn, if_pos hn, ranks_take q h, List.filter_append, List.length_append, show 12 - q = p by omega]
    by_cases e : c p = 2
    · rw [if_pos ⟨hn, e⟩]; simp [e]
    · rw [if_neg (fun h => e h.2)]; simp [e]
  · rw [if_neg hn, if_neg hn, if_neg (fun h => hn h.1)]
theorem moB_succ (c : Nat → Nat) (b n q p : Nat) (h : q < 13) (hp : p + q = 12) : moB c b n (q + 1) = if c p = n then max (moB c b n q) n else moB c b n q := by
  unfold moB
  rw [ranks_take q h, List.any_append, show 12 - q = p by omega]
  by_cases e : c p = n
  · rw [if_pos e]
    cases (ranks.take q).any fun r => c r == n
    · simp [e]
    · simp only [Bool.true_or, if_true]; omega
  · rw [if_neg e]
    simp [e]
theorem any_Fl (c : Nat → Nat) (n : Nat) : (ranks.any fun r => c r == n) = decide (0 < (Fl c n).length) := by
  rw [Bool.eq_iff_iff, List.any_eq_true, decide_eq_true_eq]
  constructor
  · rintro ⟨r, h1, h2⟩
    exact List.length_pos_of_mem (List.mem_filter.2 ⟨h1, h2⟩)
  · intro h
    obtain ⟨r, hr⟩ := List.exists_mem_of_length_pos h
    exact ⟨r, (List.mem_filter.1 hr).1, (List.mem_filter.1 hr).2⟩
theorem pr_all (c : Nat → Nat) : prA c 4 = (Fl c 2).length := by
  show 0 + prB c 4 13 + prB c 3 13 + prB c 2 13 + prB c 1 13 = _
  unfold prB
  simp
  rfl
/-- The pattern as the program has it. -/
theorem pat_of {c : Nat → Nat} (hc : ∀ r, c r ≤ 4) (h5 : total c = 5) : patS c = if moA c 4 = 4 then 5 else if moA c 4 = 3 then 3 + prA c 4 else prA c 4 := by
  have shape := five_shape hc h5
  rw [pr_all]
  have e4 := any_Fl c 4; have e3 := any_Fl c 3; have e2 := any_Fl c 2; have e1 := any_Fl c 1
  have m : moA c 4 = moB c (moB c (moB c (moB c 0 4 13) 3 13) 2 13) 1 13 := rfl
  have tk : ranks.take 13 = ranks := rfl
  rw [m]
  unfold moB patS
  simp only [tk, e4, e3, e2, e1, decide_eq_true_eq]
  have q4 : manyS c 4 = (Fl c 4).length := rfl
  have q3 : manyS c 3 = (Fl c 3).length := rfl
  have q2 : manyS c 2 = (Fl c 2).length := rfl
  rw [q4, q3, q2]
  generalize (Fl c 4).length = a4 at shape
  generalize (Fl c 3).length = a3 at shape
  generalize (Fl c 2).length = a2 at shape
  generalize (Fl c 1).length = a1 at shape
  rcases shape with ⟨rfl, rfl, rfl, rfl⟩ | ⟨rfl, rfl, rfl, rfl⟩ | ⟨rfl, rfl, rfl, rfl⟩ | ⟨rfl, rfl, rfl, rfl⟩ | ⟨rfl, rfl, rfl, rfl⟩ | ⟨rfl, rfl, rfl, rfl⟩ <;> rfl

theorem prB_le (c : Nat → Nat) (n q : Nat) : prB c n q ≤ 13 := by
  unfold prB
  split
  · refine Nat.le_trans (List.length_filter_le _ _) ?_
    rw [List.length_take]
    exact Nat.min_le_right _ 13
  · exact Nat.zero_le _
theorem prA_le (c : Nat → Nat) : ∀ m, prA c m ≤ 13 * m
  | 0 => Nat.zero_le _
  | m + 1 => by have := prA_le c m; have := prB_le c (4 - m) 13; show prA c m + prB c (4 - m) 13 ≤ _; omega
theorem moB_le {c : Nat → Nat} {b n q : Nat} (hb : b ≤ 4) (hn : n ≤ 4) : moB c b n q ≤ 4 := by
  unfold moB
  split <;> omega
theorem moA_le (c : Nat → Nat) : ∀ m, moA c m ≤ 4
  | 0 => Nat.zero_le _
  | m + 1 => moB_le (moA_le c m) (Nat.sub_le _ _)

set_option maxHeartbeats 4000000 in
set_option maxRecDepth 100000 in
theorem aceValue_any (A : Option Addr) (cp : Nat) (xs : List Int) (w : World) (h : RowI w A xs) (h5 : xs.length = 5) (hok : okC xs) :
    Calls Try.prog 96 #[.slice A xs.length cp] w fun e w' => e = .returned (.int .i64 ((371293 * patS (lcnt xs) + kvN 0 (ordS (lcnt xs)) : Nat) : Int)) ∧ Below w.heap.size w w' := by
  have h5t : total (lcnt xs) = 5 := by rw [total_lcnt hok, h5]
  have OL := Lib.hid (ord_len (lcnt_le hok) h5t)
  have PT := Lib.hid (pat_of (lcnt_le hok) h5t)
  have PL : Hid (patS (lcnt xs) ≤ 5) := pat_le (lcnt_le hok) h5t
  obtain ⟨n, hn⟩ : ∃ n, n = xs.length := ⟨_, rfl⟩
  rw [← hn] at h5 ⊢
  have n5 : n ≤ 5 := by omega
  have HN := Lib.hid hn
  have HR := Lib.hid h
  have HO := Lib.hid hok
  clear hn h hok h5 h5t
  go_enter Try.func96, Try.ntmps96
  go_wp2
  go_loopw [5, 14] (fun _ i wr => ∃ k : Nat, k ≤ n ∧ i = .int .i64 k ∧ wr.rowIs w.heap.size 84 13 (fun j => .int .i64 (lcnt (xs.take k) j : Nat)) ∧ Hid (Below w.heap.size w wr))
    (fun _ i _ => n - (intOf i).toNat)
  case atStart => exact ⟨0, Nat.zero_le _, rfl, (rowIs_rep w 13 _ _ _ rfl _ rfl).congr (fun _ _ => rfl), (Below.refl _ _).alloc (Nat.le_refl _) _⟩
  case round =>
    obtain ⟨k, hk, rfl, r1, hB⟩ := hrel
    by_cases hlt : k < n
    · obtain ⟨b, off, rfl, hb, hc⟩ := HR.out.at_ (k := k) (by rw [← HN.out]; exact hlt)
      have hx2 := okC_getD HO.out (k := k) (by rw [← HN.out]; exact hlt)
      obtain ⟨x, hx⟩ : ∃ x, x = xs.getD k 0 := ⟨_, rfl⟩
      rw [← hx] at hx2
      obtain ⟨x0, x1⟩ := hx2
      have hc1 : wr.cell? ⟨b, off + k, none⟩ = some (.int .i64 x) := by rw [hx]; exact (hB.out.cell (p := ⟨b, off + k, none⟩) hb).trans hc
      obtain ⟨q, hq⟩ : ∃ q : Nat, lrK x = (q : Int) := ⟨(lrK x).toNat, by unfold lrK; omega⟩
      have hq13 : q < 13 := by unfold lrK at hq; omega
      have k1 : (q : Int) < 13 := by omega
      obtain ⟨ys, hys⟩ : ∃ ys, ys = xs.take k := ⟨_, rfl⟩
      rw [← hys] at r1
      have hyl : ys.length ≤ 5 := by rw [hys, List.length_take]; omega
      have c1 := r1.cell (i := q) hq13
      have f1 := r1.frozen q
      obtain ⟨C, hC⟩ : ∃ C, C = lcnt ys q := ⟨_, rfl⟩
      have hcn : C ≤ 5 := by rw [hC]; exact Nat.le_trans List.countP_le_length hyl
      rw [← hC] at c1
      have w1 : IntKind.i64.wrap ((C : Int) + 1) = (C : Int) + 1 := IntWalk.i64_in _ (by omega)
      have HX := Lib.hid (And.intro hx hq)
      have HY := Lib.hid hys
      have HC := Lib.hid hC
      have R1 := Lib.hid r1
      have bne1 : ¬ b = w.heap.size := by omega
      clear hx hq hys hC r1 hc hyl hb
      go_wp2_with fail
      refine (lowRank_any x _ x0 x1).mono ?_
      rintro e w2 ⟨rfl, rfl⟩
      rw [HX.out.2]
      go_wp2
      go_roundw
      case rel =>
        have ET : xs.take (k + 1) = ys ++ [x] := by rw [take_snoc (by rw [← HN.out]; exact hlt), ← HY.out, ← HX.out.1]
        refine ⟨k + 1, by omega, by go_num, ?_, hB.out.setCell (Nat.le_refl _) _⟩
        rw [ET]
        refine (R1.out.set q _).congr fun j _ => ?_
        rw [lcnt_snoc, HX.out.2, HC.out]
        by_cases e : j = q
        · subst e; rw [if_pos rfl, if_pos rfl]; rfl
        · rw [if_neg e, if_neg (by omega)]; rfl
      case measure => simp [intOf]; omega
    · have hkn : k = n := by omega
      subst hkn
      have et : xs.take k = xs := by rw [HN.out, List.take_length]
      rw [et] at r1
      obtain ⟨c, hc⟩ : ∃ c, c = lcnt xs := ⟨_, rfl⟩
      rw [← hc] at r1 OL PT PL
      have HCC := Lib.hid hc
      have hc4 : Hid (∀ r, c r ≤ 4) := by rw [hc]; exact lcnt_le HO.out
      have R1 := Lib.hid r1
      clear et r1 hlt hk hc
      obtain ⟨wo, hwo⟩ : ∃ wo : World, wo = wr := ⟨_, rfl⟩
      rw [← hwo] at R1 hB ⊢
      clear hwo
      go_wp2
      go_loop [6, 7, 8, 9, 10] (fun v p mo t _ => ∃ m : Nat, m ≤ 4 ∧ t = .int .i64 (4 - (m : Int)) ∧ v = .int .i64 (kvN 0 (ordA c m) : Nat) ∧ p = .int .i64 (prA c m : Nat) ∧ mo = .int .i64 (moA c m : Nat))
        (fun _ _ _ t _ => (intOf t).toNat)
      case atStart => exact ⟨0, by omega, rfl, rfl, rfl, rfl⟩
      case round =>
        obtain ⟨m, hm, rfl, rfl, rfl, rfl⟩ := hrel
        by_cases hm4 : m < 4
        · obtain ⟨t, ht⟩ : ∃ t : Nat, t + m = 4 := ⟨4 - m, by omega⟩
          have et : (4 : Int) - (m : Int) = (t : Int) := by omega
          rw [et]
          have t1 : 1 ≤ t := by omega
          have t4 : t ≤ 4 := by omega
          have dt : decide ((0 : Int) < (t : Int)) = true := by simp; omega
          have HT := Lib.hid (And.intro ht hm4)
          obtain ⟨P0, hP0⟩ : ∃ P0, P0 = prA c m := ⟨_, rfl⟩
          obtain ⟨M0, hM0⟩ : ∃ M0, M0 = moA c m := ⟨_, rfl⟩
          rw [← hP0, ← hM0]
          have P0L : P0 ≤ 52 := by rw [hP0]; have := prA_le c m; omega
          have M0L : M0 ≤ 4 := by rw [hM0]; exact moA_le c m
          have HPM := Lib.hid (And.intro hP0 hM0)
          obtain ⟨V0, hV0⟩ : ∃ V0, V0 = kvN 0 (ordA c m) := ⟨_, rfl⟩
          rw [← hV0]
          have HV0 := Lib.hid hV0
          clear et ht hm hm4 hP0 hM0 hV0
          go_wp2
          go_loop [6, 7, 8, 10] (fun v p mo r => ∃ q : Nat, q ≤ 13 ∧ r = .int .i64 (12 - (q : Int)) ∧ v = .int .i64 (kvN 0 (ordA c m ++ ordB c t q) : Nat) ∧ p = .int .i64 (P0 + prB c t q : Nat) ∧ mo = .int .i64 (moB c M0 t q : Nat))
            (fun _ _ _ r => (intOf r + 1).toNat)
          case atStart => exact ⟨0, by omega, rfl, by rw [HV0.out]; simp [ordB], by simp [prB], by simp [moB]⟩
          case round =>
            obtain ⟨q, hq, rfl, rfl, rfl, rfl⟩ := hrel
            by_cases hq13 : q < 13
            · obtain ⟨p, hp⟩ : ∃ p : Nat, p + q = 12 := ⟨12 - q, by omega⟩
              have ep : (12 : Int) - (q : Int) = (p : Int) := by omega
              rw [ep]
              have hp13 : p < 13 := by omega
              have hpi : (p : Int) < 13 := by omega
              have HPQ := Lib.hid (And.intro hp hq13)
              have cC := R1.out.cell (i := p) hp13
              obtain ⟨C, hC⟩ : ∃ C, C = c p := ⟨_, rfl⟩
              rw [← hC] at cC
              have HC := Lib.hid hC
              have HS := Lib.hid (prB_succ c t q p hq13 hp)
              have HM := Lib.hid (moB_succ c M0 t q p hq13 hp)
              have HB := Lib.hid (ordB_succ c t q hq13)
              have PBL := prB_le c t q
              have MBL := moB_le (q := q) (c := c) M0L t4
              have VB : kvN 0 (ordA c m ++ ordB c t q) < 3341637 := by
                refine kv_small (fun d hd => ?_) ?_ (by omega)
                · rcases List.mem_append.1 hd with h | h
                  · exact ordA_lt h
                  · exact ordB_lt h
                · have := ord_part (j := 0) OL.out.1 HT.out.2 hq13 hp (.inl rfl)
                  rw [show 4 - m = t by have := HT.out; omega] at this
                  simpa using this
              obtain ⟨PP, hPP⟩ : ∃ PP, PP = P0 + prB c t q := ⟨_, rfl⟩
              obtain ⟨MM, hMM⟩ : ∃ MM, MM = moB c M0 t q := ⟨_, rfl⟩
              obtain ⟨VV, hVV⟩ : ∃ VV, VV = kvN 0 (ordA c m ++ ordB c t q) := ⟨_, rfl⟩
              rw [← hPP, ← hMM, ← hVV]
              rw [← hMM] at MBL
              rw [← hVV] at VB
              have PPL : PP ≤ 65 := by omega
              have HPP := Lib.hid hPP
              have HMM := Lib.hid hMM
              have HVV := Lib.hid hVV
              clear ep hp hq hq13 hC hPP hMM hVV PBL
              by_cases hCt : C = t
              · have eC : ((C : Int) != (t : Int)) = false := by rw [hCt]; simp
                have HCT := Lib.hid hCt
                clear hCt
                obtain ⟨T, hT⟩ : ∃ T, T = ((t : Int) == 2) := ⟨_, rfl⟩
                have HTT := Lib.hid hT
                have hT2 := hT.symm
                clear hT
                cases T
                all_goals
                  go_wp2
                all_goals
                  go_loop [6, 46] (fun v i => ∃ j : Nat, j ≤ t ∧ i = .int .i64 j ∧ v = .int .i64 (kvN VV (List.replicate j p) : Nat)) (fun _ i => t - (intOf i).toNat)
                  case atStart => exact ⟨0, by omega, rfl, rfl⟩
                  case round =>
                    obtain ⟨j, hj, rfl, rfl⟩ := hrel
                    by_cases hjt : j < t
                    · have WB : kvN VV (List.replicate j p) < 3341637 := by
                        rw [HVV.out, ← kvN_append]
                        refine kv_small (fun d hd => ?_) ?_ (by omega)
                        · rcases List.mem_append.1 hd with h | h
                          · rcases List.mem_append.1 h with h | h
                            · exact ordA_lt h
                            · exact ordB_lt h
                          · have := List.eq_of_mem_replicate h; omega
                        · have := ord_part (j := j) OL.out.1 HT.out.2 HPQ.out.2 HPQ.out.1 (.inr ⟨by rw [← HC.out, HCT.out]; have := HT.out; omega, by have := HT.out; omega⟩)
                          rw [show 4 - m = t by have := HT.out; omega] at this
                          exact this
                      obtain ⟨WW, hWW⟩ : ∃ WW, WW = kvN VV (List.replicate j p) := ⟨_, rfl⟩
                      rw [← hWW]
                      rw [← hWW] at WB
                      have HWW := Lib.hid hWW
                      clear hWW
                      go_wp2
                      go_round
                      case rel =>
                        refine ⟨j + 1, by omega, by go_num, int_eq ?_⟩
                        rw [rep_snoc, kvN_append, ← HWW.out]
                        simp [kvN]
                      case measure => simp [intOf] <;> omega
                    · have hjt' : j = t := by omega
                      subst hjt'
                      go_wp2
                      go_round
                      case rel =>
                        refine ⟨q + 1, by have := HPQ.out; omega, int_eq (by have := HPQ.out; omega), ?_, ?_, ?_⟩
                        · rw [HB.out, show 12 - q = p by have := HPQ.out; omega, ← HC.out, if_pos HCT.out, ← List.append_assoc, kvN_append, ← HVV.out]
                        · have e2 := HTT.out
                          refine int_eq ?_
                          rw [HS.out, ← HC.out]
                          have := HCT.out
                          have := HPP.out
                          simp at e2
                          split <;> omega
                        · refine int_eq ?_
                          rw [HM.out, ← HC.out, if_pos HCT.out, ← HMM.out]
                          omega
                      case measure => simp [intOf] <;> omega
              · have eC : ((C : Int) != (t : Int)) = true := by
                  refine bne_iff_ne.2 fun e => hCt (by omega)
                have HCT := Lib.hid hCt
                clear hCt
                go_wp2
                go_round
                case rel =>
                  refine ⟨q + 1, by have := HPQ.out; omega, int_eq (by have := HPQ.out; omega), ?_, ?_, ?_⟩
                  · rw [HB.out, show 12 - q = p by have := HPQ.out; omega, ← HC.out, if_neg HCT.out, List.append_nil, HVV.out]
                  · rw [HS.out, ← HC.out, if_neg (fun h => HCT.out (h.2.trans h.1.symm)), HPP.out]; rfl
                  · rw [HM.out, ← HC.out, if_neg HCT.out, HMM.out]
                case measure => simp [intOf] <;> omega
            · have hq' : q = 13 := by omega
              subst hq'
              go_wp2
              go_round
              case rel =>
                refine ⟨m + 1, by have := HT.out; omega, int_eq (by have := HT.out; omega), ?_, ?_, ?_⟩
                · rw [ordA_succ c m HT.out.2, show 4 - m = t by have := HT.out; omega]
                · show Value.int .i64 (P0 + prB c t 13 : Nat) = .int .i64 (prA c m + prB c (4 - m) 13 : Nat)
                  rw [HPM.out.1, show 4 - m = t by have := HT.out; omega]
                · show Value.int .i64 (moB c M0 t 13 : Nat) = .int .i64 (moB c (moA c m) (4 - m) 13 : Nat)
                  rw [HPM.out.2, show 4 - m = t by have := HT.out; omega]
              case measure => simp [intOf] <;> omega
        · have hm' : m = 4 := by omega
          subst hm'
          have e4 : kvN 0 (ordA c 4) = kvN 0 (ordS c) := rfl
          rw [e4]
          have KB : kvN 0 (ordS c) < 371293 := by have := kv_range OL.out.1 OL.out.2 0; omega
          have PB : prA c 4 ≤ 13 * 4 := prA_le c 4
          have MB : moA c 4 ≤ 4 := moA_le c 4
          obtain ⟨K, hK⟩ : ∃ K, K = kvN 0 (ordS c) := ⟨_, rfl⟩
          obtain ⟨P, hP⟩ : ∃ P, P = prA c 4 := ⟨_, rfl⟩
          obtain ⟨M, hM⟩ : ∃ M, M = moA c 4 := ⟨_, rfl⟩
          rw [← hK, ← hP, ← hM]
          rw [← hK] at KB
          rw [← hP] at PB PT
          rw [← hM] at MB PT
          have PT2 : Hid (patS c = if M = 4 then 5 else if M = 3 then 3 + P else P) := PT
          have HK := Lib.hid hK
          clear e4 hK hP hM hm hm4
          by_cases m4 : M = 4
          · have b4 : ((M : Int) == 4) = true := by rw [m4]; rfl
            have HM4 := Lib.hid m4
            clear m4
            go_wp2
            go_ret
            refine ⟨?_, hB.out⟩
            rw [← HCC.out, PT2.out, if_pos HM4.out, ← HK.out]
            exact ret_int (by omega)
          · have b4 : ((M : Int) == 4) = false := beq_eq_false_iff_ne.2 (by omega)
            by_cases m3 : M = 3
            · have b3 : ((M : Int) == 3) = true := by rw [m3]; rfl
              have HM4 := Lib.hid m4
              have HM3 := Lib.hid m3
              clear m4 m3
              go_wp2
              go_ret
              refine ⟨?_, hB.out⟩
              rw [← HCC.out, PT2.out, if_neg HM4.out, if_pos HM3.out, ← HK.out]
              exact ret_int (by omega)
            · have b3 : ((M : Int) == 3) = false := beq_eq_false_iff_ne.2 (by omega)
              have HM4 := Lib.hid m4
              have HM3 := Lib.hid m3
              clear m4 m3
              go_wp2
              go_ret
              refine ⟨?_, hB.out⟩
              rw [← HCC.out, PT2.out, if_neg HM4.out, if_neg HM3.out, ← HK.out]
              exact ret_int (by omega)
/-- The ace-to-five value. -/
def aceN (xs : List Int) : Nat := 371293 * patS (lcnt xs) + kvN 0 (ordS (lcnt xs))
def acV (xs : List Int) : Int := if fiveP xs then ((aceN xs : Nat) : Int) else 0
theorem acV_yes {xs : List Int} (h : fiveP xs) : acV xs = ((aceN xs : Nat) : Int) ∧ hvC xs = 0 := ⟨by unfold acV; rw [if_pos h], (five_yes h).2.1⟩
theorem acV_no {xs : List Int} (h : ¬ fiveP xs) : acV xs = 0 ∧ hvC xs = 1 := ⟨by unfold acV; rw [if_neg h], (five_no h).2.1⟩

theorem specAce_any (A : Option Addr) (cp : Nat) (xs : List Int) (w : World) (h : RowI w A xs) (hl : xs.length ≤ 1048576) :
    Calls Try.prog 55 #[.slice A xs.length cp] w fun e w' => e = .returned (.tuple #[.int .i64 (acV xs), .int .i64 (hvC xs)]) ∧ Below w.heap.size w w' := by
  have HR := Lib.hid h
  clear h
  by_cases hf : fiveP xs
  · have D : Hid (decide (szP xs 5 5) = true) := decide_eq_true hf
    have R := Lib.hid (acV_yes hf)
    have HF := Lib.hid hf
    clear hf
    go_enter Try.func55, Try.ntmps55
    go_wp2_with fail
    refine (l04Sized_any A cp xs 5 5 _ _ _ rfl rfl HR.out hl).mono ?_
    rintro e w1 ⟨rfl, hb⟩
    rw [D.out]
    have B1 := Lib.hid hb
    clear hb
    go_wp2_with fail
    refine (l05Ace_any A cp xs _ (HR.out.below B1.out) (by have := HF.out.1; have := HF.out.2.1; omega) HF.out.2.2).mono ?_
    rintro e w2 ⟨rfl, hb⟩
    have B2 := Lib.hid (B1.out.trans (hb.mono B1.out.size))
    clear hb
    go_wp2
    go_ret2
    exact ⟨by rw [R.out.1, R.out.2]; rfl, B2.out⟩
  · have D : Hid (decide (szP xs 5 5) = false) := decide_eq_false hf
    have R := Lib.hid (acV_no hf)
    clear hf
    go_enter Try.func55, Try.ntmps55
    go_wp2_with fail
    refine (l04Sized_any A cp xs 5 5 _ _ _ rfl rfl HR.out hl).mono ?_
    rintro e w1 ⟨rfl, hb⟩
    rw [D.out]
    have B1 := Lib.hid hb
    clear hb
    go_wp2
    go_ret2
    exact ⟨by rw [R.out.1, R.out.2]; rfl, B1.out⟩

theorem implAce_any (A : Option Addr) (cp : Nat) (xs : List Int) (w : World) (h : RowI w A xs) (hl : xs.length ≤ 1048576) :
    Calls Try.prog 54 #[.slice A xs.length cp] w fun e w' => e = .returned (.tuple #[.int .i64 (acV xs), .int .i64 (hvC xs)]) ∧ Below w.heap.size w w' := by
  have HR := Lib.hid h
  clear h
  by_cases h5 : xs.length = 5
  · have d5 : ((xs.length : Int) != 5) = false := by rw [h5]; rfl
    cases ha : areC xs
    · have R := Lib.hid (acV_no (fun h : fiveP xs => by have := areC_iff xs |>.2 h.2.2; rw [ha] at this; cases this))
      have HA := Lib.hid ha
      clear ha h5
      go_enter Try.func54, Try.ntmps54
      go_wp2_with fail
      refine (implAreCards_any A cp xs _ HR.out hl).mono ?_
      rintro e w1 ⟨rfl, rfl⟩
      rw [HA.out]
      go_wp2
      go_ret2
      exact ⟨by rw [R.out.1, R.out.2]; rfl, Below.refl _ _⟩
    · have hok := (areC_iff xs).1 ha
      have R := Lib.hid (acV_yes (show fiveP xs from ⟨by omega, by omega, hok⟩))
      have HO := Lib.hid hok
      have HA := Lib.hid ha
      have H5 := Lib.hid h5
      clear ha h5 hok
      go_enter Try.func54, Try.ntmps54
      go_wp2_with fail
      refine (implAreCards_any A cp xs _ HR.out hl).mono ?_
      rintro e w1 ⟨rfl, rfl⟩
      rw [HA.out]
      go_wp2_with fail
      refine (aceValue_any A cp xs _ HR.out H5.out HO.out).mono ?_
      rintro e w2 ⟨rfl, hb⟩
      have B2 := Lib.hid hb
      clear hb
      go_wp2
      go_ret2
      exact ⟨by rw [R.out.1, R.out.2]; rfl, B2.out⟩
  · have d5 : ((xs.length : Int) != 5) = true := by simp; omega
    have R := Lib.hid (acV_no (fun h : fiveP xs => h5 (by have := h.1; have := h.2.1; omega)))
    clear h5
    go_enter Try.func54, Try.ntmps54
    go_wp2
    go_ret2
    exact ⟨by rw [R.out.1, R.out.2]; rfl, Below.refl _ _⟩
end Go.Proofs.Ytbhlghadjcbilaa
