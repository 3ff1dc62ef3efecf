/-
  The badugi of four cards in the reference.
-/
import Derived.Test.YtgkhhfkijepenaaBadDown
import Derived.Test.YtgkhhfkijepenaaBadApart
import Derived.Test.YtgkhhfkijepenaaBadLess
import Derived.Test.YtgkhhfkijepenaaChoices
import Derived.Test.YtgkhhfkijepenaaSized
namespace Go.Proofs.Ytgkhhfkijepenaa
open Go.RowKit

theorem l05Ranks_n (A : Option Addr) (c : Nat) (xs : List Int) (n : Nat) (w : World) (hn : n = xs.length) (h : RowI w A xs) (hl : n ≤ 8) (ho : okC xs) :
    Calls Try.prog 30 #[.slice A n c] w fun e w' => ∃ A' c', e = .returned (.slice A' n c') ∧ OwnT w' w.heap.size A' c' (xs.map lowI) ∧ Below w.heap.size w w' := by
  refine (l05Ranks_any A c xs n w hn h (by rw [← hn]; exact hl) ho).mono ?_
  rintro e w' ⟨A', c', rfl, h1, h2⟩
  exact ⟨A', c', by rw [List.length_map, hn], h1, h2⟩
theorem l05Down_n (A : Option Addr) (c : Nat) (xs : List Int) (n : Nat) (w : World) (hn : n = xs.length) (h : RowI w A xs) (hl : n ≤ 8) (ho : okC xs) :
    Calls Try.prog 51 #[.slice A n c] w fun e w' => ∃ A' c', e = .returned (.slice A' n c') ∧ OwnT w' w.heap.size A' c' (dnL xs) ∧ Below w.heap.size w w' := by
  refine (l05Down_any A c xs n w hn h (by rw [← hn]; omega) ho.1).mono ?_
  rintro e w' ⟨A', c', rfl, h1, h2⟩
  exact ⟨A', c', by rw [dnL_length, hn], h1, h2⟩

/-! Steps of the search. -/
theorem stepB_no {L D : List Int} (h : apB D = false) : stepB L D = L := by unfold stepB; rw [h]; simp
theorem stepB_first {D : List Int} (h : apB D = true) : stepB [] D = D := by unfold stepB; rw [if_pos ⟨h, .inl rfl⟩]
theorem stepB_yes {L D : List Int} (h : apB D = true) (hl : lessB D L = true) : stepB L D = D := by unfold stepB; rw [if_pos ⟨h, .inr hl⟩]
theorem stepB_keep {L D : List Int} (hne : L ≠ []) (hl : lessB D L = false) : stepB L D = L := by
  unfold stepB
  rw [if_neg (fun h => by rcases h.2 with h | h; exact hne h; rw [hl] at h; cases h)]
theorem less_r {D L : List Int} (h : lexI (D.map lowI) (L.map lowI) = true) : lessB D L = true := by
  unfold lessB
  rw [if_neg (fun e => by rw [e, lexI_self] at h; cases h)]; exact h
theorem less_r0 {D L : List Int} (h : lexI (D.map lowI) (L.map lowI) = false) (he : eqL (D.map lowI) (L.map lowI) = false) : lessB D L = false := by
  unfold lessB
  rw [if_neg (fun e => by rw [e, eqL_self] at he; cases he)]; exact h
theorem less_c {D L : List Int} (he : eqL (D.map lowI) (L.map lowI) = true) : lessB D L = lexI D L := by
  unfold lessB
  rw [if_pos (by simpa [eqL] using he)]
theorem take_snocL' {cs : List (List Int)} {i : Nat} (h : i < cs.length) : cs.take (i + 1) = cs.take i ++ [cs.getD i []] := by
  rw [List.take_succ_eq_append_getElem h]
  simp [List.getD_eq_getElem?_getD, h]
theorem lowest_take1 {xs : List Int} (h : xs ≠ []) : lowest (xs.take 1) = xs.getD 0 0 := by
  cases xs with
  | nil => exact absurd rfl h
  | cons x r => rfl
theorem minB_take {cs : List (List Int)} {q : Nat} (h : q < cs.length) : minB ((cs.take (q + 1)).map dnL) = stepB (minB ((cs.take q).map dnL)) (dnL (cs.getD q [])) := by
  rw [take_snocL' h, List.map_append, List.map_cons, List.map_nil, minB_snoc]
theorem minB_len {cs : List (List Int)} {m : Nat} (hm : 0 < m) (h : ∀ S ∈ cs, S.length = m) : minB (cs.map dnL) = [] ∨ (minB (cs.map dnL)).length = m := by
  have hl : ∀ S ∈ cs.map dnL, S.length = m := fun S hS => by
    obtain ⟨s, hs, rfl⟩ := List.mem_map.1 hS
    rw [dnL_length]; exact h s hs
  rcases minB_facts hm (cs.map dnL) hl with ⟨h1, _⟩ | ⟨h1, _⟩
  · exact .inl h1
  · exact .inr (hl _ h1)
theorem minB_mem {cs : List (List Int)} {m : Nat} (hm : 0 < m) (h : ∀ S ∈ cs, S.length = m) : minB (cs.map dnL) = [] ∨ ∃ s ∈ cs, minB (cs.map dnL) = dnL s := by
  have hl : ∀ S ∈ cs.map dnL, S.length = m := fun S hS => by
    obtain ⟨s, hs, rfl⟩ := List.mem_map.1 hS
    rw [dnL_length]; exact h s hs
  rcases minB_facts hm (cs.map dnL) hl with ⟨h1, _⟩ | ⟨h1, _⟩
  · exact .inl h1
  · obtain ⟨s, hs, e⟩ := List.mem_map.1 h1
    exact .inr ⟨s, hs, e.symm⟩
/-- Which choice counts. -/
def noneAbove (xs : List Int) (m : Nat) : Prop := ∀ j, m < j → j ≤ 4 → minB ((comb xs j).map dnL) = []
theorem bg_is {xs : List Int} (ho : okC xs) {m : Nat} (h2 : 2 ≤ m) (h4 : m ≤ 4) (ha : noneAbove xs m) (hne : minB ((comb xs m).map dnL) ≠ []) : bgL xs = minB ((comb xs m).map dnL) := by
  have e : ∀ j, 0 < j → minB (comb (srtL xs) j) = minB ((comb xs j).map dnL) := fun j hj => min_eq ho hj
  unfold bgL
  rw [e 4 (by omega), e 3 (by omega), e 2 (by omega)]
  have : m = 2 ∨ m = 3 ∨ m = 4 := by omega
  rcases this with rfl | rfl | rfl
  · rw [ha 4 (by omega) (by omega), ha 3 (by omega) (by omega)]
    simp [hne]
  · rw [ha 4 (by omega) (by omega)]
    simp [hne]
  · rw [if_pos hne]
theorem bg_one {xs : List Int} (ho : okC xs) (h : xs ≠ []) (ha : noneAbove xs 1) : bgL xs = [lowest xs] := by
  have e : ∀ j, 0 < j → minB (comb (srtL xs) j) = minB ((comb xs j).map dnL) := fun j hj => min_eq ho hj
  unfold bgL
  rw [e 4 (by omega), e 3 (by omega), e 2 (by omega), ha 4 (by omega) (by omega), ha 3 (by omega) (by omega), ha 2 (by omega) (by omega), min_one h]
  simp

/-- The best so far, in memory. -/
def BestO (w wr : World) (v : Value) (L : List Int) : Prop := ∃ A c, v = .slice A L.length c ∧ OwnT wr w.heap.size A c L
theorem BestO.below {w wr wr' : World} {v : Value} {L : List Int} (h : BestO w wr v L) (hb : Below wr.heap.size wr wr') : BestO w wr' v L := by
  obtain ⟨A, c, e, h⟩ := h
  exact ⟨A, c, e, h.below hb⟩
theorem bestO_nil {w wr : World} (h : w.heap.size ≤ wr.heap.size) : BestO w (wr.alloc (.cells #[] 2)) (.slice (some ⟨wr.heap.size, 0, none⟩) 0 0) [] :=
  ⟨_, _, rfl, .inr ⟨wr.heap.size, fun _ => undef, rfl, h, by simp, by simp, by simp [maxLen], World.rowIs_alloc wr #[] _ _ (fun i hi => absurd hi (by simp)), fun j hj => absurd hj (by simp)⟩⟩

set_option maxHeartbeats 8000000 in
set_option maxRecDepth 8000 in
theorem l05Badugi_any (A : Option Addr) (c : Nat) (xs : List Int) (w : World) (h : RowI w A xs) (h4 : xs.length = 4) (ho : okC xs) (hc : 4 ≤ c) (hcm : c ≤ maxLen) :
    Calls Try.prog 28 #[.slice A 4 c] w (GivesT w (bgL xs)) := by
  have HR := Lib.hid h
  have HO := Lib.hid ho
  have H4 := Lib.hid h4
  have HC := Lib.hid (And.intro hc hcm)
  have B0 := Lib.hid (Below.refl w.heap.size w)
  clear h ho h4 hc hcm
  go_enter Try.func28, Try.ntmps28
  go_wp2
  go_loopw [3, 4, 5, 6, 7] (fun nv _ _ _ _ wr => ∃ m : Nat, 1 ≤ m ∧ m ≤ 4 ∧ nv = .int .i64 m ∧ Hid (noneAbove xs m) ∧ Hid (Below w.heap.size w wr)) (fun nv _ _ _ _ _ => (intOf nv).toNat)
  case atStart => exact ⟨4, by omega, by omega, rfl, fun j h1 h2 => by omega, B0.out⟩
  case round =>
    obtain ⟨m, hm1, hm4, rfl, NA, BO⟩ := hrel
    by_cases hm : 1 < m
    · have m8 : m ≤ 8 := by omega
      obtain ⟨cs, hcs⟩ : ∃ cs, cs = comb xs m := ⟨_, rfl⟩
      have CS := Lib.hid hcs
      have CL : Hid (∀ S ∈ cs, S.length = m) := by intro S hS; rw [CS.out] at hS; exact comb_len hS
      have CO : Hid (∀ S ∈ cs, okC S) := by
        intro S hS; rw [CS.out] at hS
        have h1 := (comb_mem.1 hS).1
        exact ⟨fun c hc => HO.out.1 c (h1.mem hc), HO.out.2.sublist h1⟩
      obtain ⟨N, hN⟩ : ∃ N, N = cs.length := ⟨_, rfl⟩
      have HN := Lib.hid hN
      have N256 : N ≤ 256 := by rw [hN, hcs]; exact comb_size8 _ (by rw [H4.out]; omega)
      clear hcs hN
      go_wp2_with fail
      refine (l04Choices_any m A c xs 4 _ _ H4.out.symm rfl (by omega) (HR.out.below BO.out) (by rw [H4.out]; omega) (by rw [H4.out]; exact HC.out.1) HC.out.2).mono ?_
      rintro e w1 ⟨A1, c1, rfl, hL, _, hb⟩
      rw [← CS.out, ← HN.out]
      rw [← CS.out] at hL
      have L1 := Lib.hid hL
      have B1 := Lib.hid (BO.out.trans (hb.mono BO.out.size))
      clear hL hb
      go_wp2
      go_loopw [5, 6, 7] (fun v i _ wr => ∃ (q : Nat) (L : List Int), i = .int .i64 q ∧ q ≤ N ∧ Hid (L = minB ((cs.take q).map dnL)) ∧ Hid (BestO w wr v L) ∧ Hid (Below w1.heap.size w1 wr)) (fun _ i _ _ => N - (intOf i).toNat)
      case atStart => exact ⟨0, [], rfl, Nat.zero_le _, rfl, bestO_nil B1.out.size, (Below.refl _ _).alloc (Nat.le_refl _) _⟩
      case round =>
        obtain ⟨q, L, rfl, hq, LM, BE, BB⟩ := hrel
        obtain ⟨AL, cL, rfl, hOL⟩ := BE.out
        have OL := Lib.hid hOL
        clear hOL BE
        have LL : Hid (L = [] ∨ L.length = m) := by show _ ∨ _; rw [LM.out]; exact minB_len (by omega) (fun S hS => CL.out S (List.mem_of_mem_take hS))
        by_cases hqn : q < N
        · have hqc : q < cs.length := by rw [← HN.out]; exact hqn
          obtain ⟨b, off, rfl, hb, B, d, hcell, hown⟩ := L1.out.at_ hqc
          obtain ⟨S, hS⟩ : ∃ S, S = cs.getD q [] := ⟨_, rfl⟩
          have hSm : S ∈ cs := by rw [hS]; exact getD_mem hqc
          rw [← hS] at hcell hown
          have SN : Hid (S.length = m) := CL.out S hSm
          have SO : Hid (okC S) := CO.out S hSm
          have hcr : wr.cell? ⟨b, off + q, none⟩ = some (.slice B m d) := by rw [← SN.out]; exact (BB.out.cell (p := ⟨b, off + q, none⟩) hb).trans hcell
          have OS := Lib.hid (hown.below BB.out).row
          obtain ⟨D, hD⟩ : ∃ D, D = dnL S := ⟨_, rfl⟩
          have DN : Hid (D.length = m) := by show _ = _; rw [hD, dnL_length, SN.out]
          have DO : Hid (okC D) := by show okC _; rw [hD]; exact okC_perm (dnL_facts S).2.symm SO.out
          have NX : Hid (minB ((cs.take (q + 1)).map dnL) = stepB L D) := by show _ = _; rw [minB_take hqc, ← LM.out, hD, hS]
          have LO : Hid (L ≠ [] → okC L) := by
            intro hne
            rcases minB_mem (cs := cs.take q) (m := m) (by omega) (fun S hS => CL.out S (List.mem_of_mem_take hS)) with e | ⟨s, hs, e⟩
            · exact absurd (LM.out.trans e) hne
            · rw [LM.out, e]; exact okC_perm (dnL_facts s).2.symm (CO.out s (List.mem_of_mem_take hs))
          have HD := Lib.hid hD
          have LM2 := LM
          clear hS hSm hcell hown hb hqc hD LM
          go_wp2_with fail
          refine (l05Down_n B d S m _ SN.out.symm OS.out m8 SO.out).mono ?_
          rintro e w2 ⟨A2, c2, rfl, ho, hb⟩
          rw [← HD.out] at ho
          have OD := Lib.hid ho
          have BB2 := Lib.hid (BB.out.trans (hb.mono BB.out.size))
          have OL2 := Lib.hid (OL.out.below hb)
          have OWD := Lib.hid (ho.mono (Nat.le_trans B1.out.size BB.out.size))
          clear ho hb hcr OS OL
          obtain ⟨ap, hap⟩ : ∃ ap, ap = apB D := ⟨_, rfl⟩
          have HAP := Lib.hid hap
          clear hap
          go_wp2_with fail
          refine (l05Apart_any A2 c2 D m _ DN.out.symm OD.out.own.row (by omega) DO.out.1).mono ?_
          rintro e w3 ⟨rfl, n3, hw3⟩
          rw [← HAP.out]
          have D3 : Below w2.heap.size w2 w3 := by rw [hw3]; exact below_drewN (Below.refl _ _) _
          have BB3 := Lib.hid (BB2.out.trans (D3.mono BB2.out.size))
          have OL3 := Lib.hid (OL2.out.below D3)
          have OD3 := Lib.hid (OWD.out.below D3)
          clear hw3 D3 OD OWD OL2
          obtain ⟨ln, hln⟩ : ∃ ln, ln = L.length := ⟨_, rfl⟩
          have LN := Lib.hid hln
          rw [← hln]
          clear hln
          by_cases hap : ap = true
          · subst hap
            by_cases hl0 : ln = 0
            · subst hl0
              have LE : Hid (L = []) := List.eq_nil_of_length_eq_zero LN.out.symm
              have ST : Hid (minB ((cs.take (q + 1)).map dnL) = D) := by show _ = _; rw [NX.out, LE.out]; exact stepB_first HAP.out.symm
              clear LN LE NX
              go_wp2
              go_roundw
              case rel => exact ⟨q + 1, D, by go_num, by omega, ST.out.symm, ⟨_, _, by rw [DN.out], OD3.out⟩, BB3.out⟩
              case measure => simp [intOf]; omega
            · have LNE : Hid (L ≠ []) := by intro e; exact hl0 (by rw [LN.out, e]; rfl)
              have LNM : ln = m := by
                rcases LL.out with e | e
                · exact absurd e LNE.out
                · rw [LN.out, e]
              have LK : Hid (L.length = m) := by show _ = _; rw [← LN.out, LNM]
              rw [LNM]
              clear hl0 LNM
              have m0 : ((m : Int) == 0) = false := by simp; omega
              obtain ⟨t1, ht1⟩ : ∃ t1, t1 = lexI (D.map lowI) (L.map lowI) := ⟨_, rfl⟩
              obtain ⟨t2, ht2⟩ : ∃ t2, t2 = eqL (D.map lowI) (L.map lowI) := ⟨_, rfl⟩
              obtain ⟨t3, ht3⟩ : ∃ t3, t3 = lexI D L := ⟨_, rfl⟩
              have T1 := Lib.hid ht1
              have T2 := Lib.hid ht2
              have T3 := Lib.hid ht3
              clear ht1 ht2 ht3
              have DR3 := Lib.hid OD3.out.own.row
              have LR3 := Lib.hid OL3.out.own.row
              go_wp2_with fail
              refine (l05Ranks_n A2 c2 D m _ DN.out.symm (DR3.out) m8 DO.out).mono ?_
              rintro e w4 ⟨A4, c4, rfl, ho, hb⟩
              have R4 := Lib.hid ho.own.row
              have BB4 := Lib.hid (BB3.out.trans (hb.mono BB3.out.size))
              have H4 := Lib.hid hb
              have H4' := Lib.hid hb
              clear ho hb
              go_wp2_with fail
              refine (l05Ranks_n AL cL L m _ LK.out.symm (LR3.out.below H4'.out) m8 (LO.out LNE.out)).mono ?_
              rintro e w5 ⟨A5, c5, rfl, ho, hb⟩
              have R5 := Lib.hid ho.own.row
              have BB5 := Lib.hid (BB4.out.trans (hb.mono BB4.out.size))
              have H5 := Lib.hid hb
              have H5' := Lib.hid (H4'.out.trans (hb.mono H4'.out.size))
              clear ho hb
              go_wp2_with fail
              refine (l05Less_any A4 A5 c4 c5 (D.map lowI) (L.map lowI) m _ (by rw [List.length_map, DN.out]) (by rw [List.length_map, LK.out]) (R4.out.below H5.out) R5.out (by omega)).mono ?_
              rintro e w6 ⟨rfl, n6, hw6⟩
              rw [← T1.out]
              have D6 : Below w5.heap.size w5 w6 := by rw [hw6]; exact below_drewN (Below.refl _ _) _
              have BB6 := Lib.hid (BB5.out.trans (D6.mono BB5.out.size))
              have K6 := Lib.hid (H4'.out.trans ((H5.out.trans (D6.mono H5.out.size)).mono H4'.out.size))
              clear hw6 D6 R4 R5
              by_cases ht1 : t1 = true
              · subst ht1
                have ST : Hid (minB ((cs.take (q + 1)).map dnL) = D) := by show _ = _; rw [NX.out]; exact stepB_yes HAP.out.symm (less_r T1.out.symm)
                go_wp2
                go_roundw
                case rel => exact ⟨q + 1, D, by go_num, by omega, ST.out.symm, ⟨_, _, by rw [DN.out], (OD3.out.below K6.out)⟩, BB6.out⟩
                case measure => simp [intOf]; omega
              · have ht1' : t1 = false := by simpa using ht1
                subst ht1'
                clear ht1
                go_wp2_with fail
                refine (l05Ranks_n A2 c2 D m _ DN.out.symm (DR3.out.below K6.out) m8 DO.out).mono ?_
                rintro e w7 ⟨A7, c7, rfl, ho, hb⟩
                have R7 := Lib.hid ho.own.row
                have BB7 := Lib.hid (BB6.out.trans (hb.mono BB6.out.size))
                have H7 := Lib.hid hb
                have H7' := Lib.hid (K6.out.trans (hb.mono K6.out.size))
                clear ho hb
                go_wp2_with fail
                refine (l05Ranks_n AL cL L m _ LK.out.symm (LR3.out.below H7'.out) m8 (LO.out LNE.out)).mono ?_
                rintro e w8 ⟨A8, c8, rfl, ho, hb⟩
                have R8 := Lib.hid ho.own.row
                have BB8 := Lib.hid (BB7.out.trans (hb.mono BB7.out.size))
                have H8 := Lib.hid hb
                have H8' := Lib.hid (H7'.out.trans (hb.mono H7'.out.size))
                clear ho hb
                go_wp2_with fail
                refine (l01Same_any A7 A8 c7 c8 (D.map lowI) (L.map lowI) m _ (by rw [List.length_map, DN.out]) (by rw [List.length_map, LK.out]) (R7.out.below H8.out) R8.out (by omega)).mono ?_
                rintro e w9 ⟨rfl, n9, hw9⟩
                rw [← T2.out]
                have D9 : Below w8.heap.size w8 w9 := by rw [hw9]; exact below_drewN (Below.refl _ _) _
                have BB9 := Lib.hid (BB8.out.trans (D9.mono BB8.out.size))
                have K9 := Lib.hid (H7'.out.trans ((H8.out.trans (D9.mono H8.out.size)).mono H7'.out.size))
                clear hw9 D9 R7 R8
                by_cases ht2 : t2 = true
                · subst ht2
                  go_wp2_with fail
                  refine (l05Less_any A2 AL c2 cL D L m _ DN.out.symm LK.out.symm (DR3.out.below K9.out) (LR3.out.below K9.out) (by omega)).mono ?_
                  rintro e w10 ⟨rfl, n10, hw10⟩
                  rw [← T3.out]
                  have D10 : Below w9.heap.size w9 w10 := by rw [hw10]; exact below_drewN (Below.refl _ _) _
                  have BB10 := Lib.hid (BB9.out.trans (D10.mono BB9.out.size))
                  have K10 := Lib.hid (K9.out.trans (D10.mono K9.out.size))
                  clear hw10 D10
                  by_cases ht3 : t3 = true
                  · subst ht3
                    have ST : Hid (minB ((cs.take (q + 1)).map dnL) = D) := by show _ = _; rw [NX.out]; exact stepB_yes HAP.out.symm (by rw [less_c T2.out.symm]; exact T3.out.symm)
                    go_wp2
                    go_roundw
                    case rel => exact ⟨q + 1, D, by go_num, by omega, ST.out.symm, ⟨_, _, by rw [DN.out], (OD3.out.below K10.out)⟩, BB10.out⟩
                    case measure => simp [intOf]; omega
                  · have ht3' : t3 = false := by simpa using ht3
                    subst ht3'
                    clear ht3
                    have ST : Hid (minB ((cs.take (q + 1)).map dnL) = L) := by show _ = _; rw [NX.out]; exact stepB_keep LNE.out (by rw [less_c T2.out.symm]; exact T3.out.symm)
                    go_wp2
                    go_roundw
                    case rel => exact ⟨q + 1, L, by go_num, by omega, ST.out.symm, ⟨_, _, by rw [LK.out], OL3.out.below K10.out⟩, BB10.out⟩
                    case measure => simp [intOf]; omega
                · have ht2' : t2 = false := by simpa using ht2
                  subst ht2'
                  clear ht2
                  have ST : Hid (minB ((cs.take (q + 1)).map dnL) = L) := by show _ = _; rw [NX.out]; exact stepB_keep LNE.out (less_r0 T1.out.symm T2.out.symm)
                  go_wp2
                  go_roundw
                  case rel => exact ⟨q + 1, L, by go_num, by omega, ST.out.symm, ⟨_, _, by rw [LK.out], OL3.out.below K9.out⟩, BB9.out⟩
                  case measure => simp [intOf]; omega
          · have hap' : ap = false := by simpa using hap
            subst hap'
            clear hap
            have ST : Hid (minB ((cs.take (q + 1)).map dnL) = L) := by show _ = _; rw [NX.out]; exact stepB_no HAP.out.symm
            rw [LN.out]
            go_wp2
            go_roundw
            case rel => exact ⟨q + 1, L, by go_num, by omega, ST.out.symm, ⟨_, _, rfl, OL3.out⟩, BB3.out⟩
            case measure => simp [intOf]; omega
        · have hqN : q = cs.length := by rw [← HN.out]; omega
          have LF : Hid (L = minB ((comb xs m).map dnL)) := by show _ = _; rw [LM.out, hqN, List.take_length, CS.out]
          have BW := Lib.hid (B1.out.trans (BB.out.mono B1.out.size))
          obtain ⟨ln, hln⟩ : ∃ ln, ln = L.length := ⟨_, rfl⟩
          have LN := Lib.hid hln
          rw [← hln]
          clear hqN hln
          by_cases hl0 : ln = 0
          · subst hl0
            have NA2 : Hid (noneAbove xs (m - 1)) := fun j h1 h2 => by
              rcases Nat.lt_or_ge m j with h | h
              · exact NA.out j h h2
              · have : j = m := by omega
                subst this
                rw [← LF.out]; exact List.eq_nil_of_length_eq_zero LN.out.symm
            go_wp2
            go_roundw
            case rel => exact ⟨m - 1, by omega, by omega, by go_num, NA2.out, BW.out⟩
            case measure => simp [intOf]; omega
          · have l0 : (0 : Int) < (ln : Int) := by omega
            have LNE : L ≠ [] := by intro e; exact hl0 (by rw [LN.out, e]; rfl)
            have FIN : Hid (GivesT w (bgL xs) (.returned (.slice AL ln cL)) wr) := by
              rw [bg_is HO.out (by omega) hm4 NA.out (by rw [← LF.out]; exact LNE), ← LF.out]
              exact ⟨AL, cL, by rw [LN.out], OL.out, BW.out⟩
            clear LNE hl0
            go_wp2
            go_ret
            exact FIN.out
    · have hm' : m = 1 := by omega
      have NA1 : Hid (noneAbove xs 1) := by rw [← hm']; exact NA.out
      have NE : Hid (xs ≠ []) := by intro e; have := H4.out; rw [e] at this; simp at this
      have R := Lib.hid (bg_one HO.out NE.out NA1.out)
      have HRr := Lib.hid (HR.out.below BO.out)
      have ATX : Hid (∀ k, k < 4 → 0 ≤ xs.getD k 0 ∧ xs.getD k 0 ≤ 51) := fun k hk => HO.out.1 _ (by rw [List.getD_eq_getElem?_getD, List.getElem?_eq_getElem (by rw [H4.out]; exact hk)]; exact List.getElem_mem _)
      obtain ⟨b, off, rfl, hb, hcell⟩ := HRr.out.at_ (k := 0) (by rw [H4.out]; omega)
      obtain ⟨x0, hx0⟩ : ∃ x0, x0 = xs.getD 0 0 := ⟨_, rfl⟩
      rw [← hx0, Nat.add_zero] at hcell
      have X0 := Lib.hid hx0
      clear hb hx0 hm1 hm4 hm'
      go_wp2
      go_loop [8, 9] (fun bv i => ∃ (k : Nat) (y : Int), i = .int .i64 k ∧ bv = .int .i64 y ∧ 1 ≤ k ∧ k ≤ 4 ∧ Hid (y = lowest (xs.take k) ∧ 0 ≤ y ∧ y ≤ 51)) (fun _ i => 4 - (intOf i).toNat)
      case atStart => exact ⟨1, x0, rfl, rfl, by omega, by omega, by rw [lowest_take1 NE.out]; exact X0.out, by rw [X0.out]; exact ATX.out 0 (by omega)⟩
      case round =>
        obtain ⟨k, y, rfl, rfl, hk1, hk4, LY⟩ := hrel
        clear hcell
        by_cases hkn : k < 4
        · obtain ⟨b', off', he, hb', hcell'⟩ := HRr.out.at_ (k := k) (by rw [H4.out]; exact hkn)
          simp only [Option.some.injEq, Addr.mk.injEq, and_true] at he
          obtain ⟨rfl, rfl⟩ := he
          obtain ⟨x, hx⟩ : ∃ x, x = xs.getD k 0 := ⟨_, rfl⟩
          rw [← hx] at hcell'
          have x01 := ATX.out k hkn
          rw [← hx] at x01
          have NX : Hid (lowest (xs.take (k + 1)) = lo1 y x) := by
            show _ = _
            rw [take_snoc (by rw [H4.out]; exact hkn), lowest_snoc (by intro e; have := congrArg List.length e; rw [List.length_take, H4.out] at this; simp at this; omega), ← LY.out.1, hx]
          obtain ⟨u, hu⟩ : ∃ u, u = lowI x := ⟨_, rfl⟩
          obtain ⟨v, hv⟩ : ∃ v, v = lowI y := ⟨_, rfl⟩
          have cx : ∀ W : World, Calls Try.prog 55 #[.int .i64 x] W fun e w' => e = .returned (.int .i64 u) ∧ W = w' := fun W => by rw [hu]; exact l05Rank_any2 x W x01.1 x01.2
          have cy : ∀ W : World, Calls Try.prog 55 #[.int .i64 y] W fun e w' => e = .returned (.int .i64 v) ∧ W = w' := fun W => by rw [hv]; exact l05Rank_any2 y W LY.out.2.1 LY.out.2.2
          have CX := Lib.hid cx
          have CY := Lib.hid cy
          have LO1 : Hid (lo1 y x = if u < v ∨ u = v ∧ x < y then x else y) := by show _ = _; rw [hu, hv]; rfl
          have X01 := Lib.hid x01
          have i1 : (k : Int) < 4 := by omega
          clear cx cy hb' hx x01 hu hv
          by_cases c1 : u < v
          · have ST : Hid (lowest (xs.take (k + 1)) = x) := by show _ = _; rw [NX.out, LO1.out, if_pos (.inl c1)]
            go_wp2_with (first | (go_at_call_of 55 x; refine (CX.out _).mono ?_; rintro e w' ⟨rfl, rfl⟩) | (go_at_call_of 55 y; refine (CY.out _).mono ?_; rintro e w' ⟨rfl, rfl⟩))
            go_round
            case rel => exact ⟨k + 1, x, by go_num, rfl, by omega, by omega, ST.out.symm, X01.out⟩
            case measure => simp [intOf]; omega
          · by_cases c2 : u = v
            · have c2' : (u == v) = true := by simpa using c2
              by_cases c3 : x < y
              · have ST : Hid (lowest (xs.take (k + 1)) = x) := by show _ = _; rw [NX.out, LO1.out, if_pos (.inr ⟨c2, c3⟩)]
                clear c2
                go_wp2_with (first | (go_at_call_of 55 x; refine (CX.out _).mono ?_; rintro e w' ⟨rfl, rfl⟩) | (go_at_call_of 55 y; refine (CY.out _).mono ?_; rintro e w' ⟨rfl, rfl⟩))
                go_round
                case rel => exact ⟨k + 1, x, by go_num, rfl, by omega, by omega, ST.out.symm, X01.out⟩
                case measure => simp [intOf]; omega
              · have ST : Hid (lowest (xs.take (k + 1)) = y) := by show _ = _; rw [NX.out, LO1.out, if_neg (by omega)]
                clear c2
                go_wp2_with (first | (go_at_call_of 55 x; refine (CX.out _).mono ?_; rintro e w' ⟨rfl, rfl⟩) | (go_at_call_of 55 y; refine (CY.out _).mono ?_; rintro e w' ⟨rfl, rfl⟩))
                go_round
                case rel => exact ⟨k + 1, y, by go_num, rfl, by omega, by omega, ST.out.symm, LY.out.2⟩
                case measure => simp [intOf]; omega
            · have c2' : (u == v) = false := by simpa using c2
              have ST : Hid (lowest (xs.take (k + 1)) = y) := by show _ = _; rw [NX.out, LO1.out, if_neg (by omega)]
              clear c2
              go_wp2_with (first | (go_at_call_of 55 x; refine (CX.out _).mono ?_; rintro e w' ⟨rfl, rfl⟩) | (go_at_call_of 55 y; refine (CY.out _).mono ?_; rintro e w' ⟨rfl, rfl⟩))
              go_round
              case rel => exact ⟨k + 1, y, by go_num, rfl, by omega, by omega, ST.out.symm, LY.out.2⟩
              case measure => simp [intOf]; omega
        · have hk : k = 4 := by omega
          subst hk
          have FIN : Hid (GivesT w (bgL xs) (.returned (.slice (some ⟨wr.heap.size, 0, none⟩) 1 1)) (wr.alloc (.cells #[.int .i64 y] 2))) := by
            have e : [lowest xs] = [y] := by rw [LY.out.1, List.take_of_length_le (by rw [H4.out]; exact Nat.le_refl _)]
            rw [R.out, e]
            refine ⟨_, 1, rfl, .inr ⟨wr.heap.size, fun _ => .int .i64 y, rfl, BO.out.size, by simp, by simp, by simp [maxLen], World.rowIs_alloc wr #[.int .i64 y] _ _ (fun i hi => by
              have : i = 0 := by simp at hi; omega
              subst this; rfl), fun j hj => by
              have : j = 0 := by simp at hj; omega
              subst this; rfl⟩, BO.out.alloc BO.out.size _⟩
          clear hkn
          go_wp2
          go_ret
          exact FIN.out
end Go.Proofs.Ytgkhhfkijepenaa
