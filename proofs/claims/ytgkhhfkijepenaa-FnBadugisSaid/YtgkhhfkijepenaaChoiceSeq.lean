/-
  impl.choices: the function that it hands back ranges over all choices of indices.
-/
import Derived.Test.YtgkhhfkijepenaaRangeC
import Derived.Test.YtgkhhfkijepenaaMathIdx
import Derived.Test.YtgkhhfkijepenaaInts
import Derived.RangeFuncLeaves
import Derived.Shelf.Abstract
import Derived.WalkKit
import Derived.OwnWalkIn
import Derived.TacticsInMore
import Derived.LoopNIn
import Derived.LoopIn
import Derived.Sort.LoopGhostIn
import Derived.Sort.BigQuietIn
namespace Go.Proofs.Ytgkhhfkijepenaa
open Go.RowKit Go.Shelf

attribute [local go_sem] Oper.semAt_some

theorem goint_info : (Try.prog.info? 3).map (fun i => (i.zero, i.size, i.bytes)) = some (some (.int .i64 0), 1, 8) := by kernel_rfl
/-- A block of ints. -/
def IsC (W : World) (G k : Nat) (f : Nat → Int) : Prop := W.rowIs G 3 k (fun j => .int .i64 (f j))
theorem IsC.keep {W W' : World} {G k : Nat} {f : Nat → Int} (h : IsC W G k f) (hk : KeepsT 3 W W') : IsC W' G k f := by
  obtain ⟨cs, h1, h2⟩ := h
  exact ⟨cs, hk.same G cs (0, 0) h1, h2⟩
theorem IsC.turns {W : World} {G k B : Nat} {f : Nat → Int} (h : IsC W G k f) (hB : B ≤ G) : Turns 3 B W (some G) := by
  obtain ⟨cs, h1, _⟩ := h
  intro r e
  cases e
  exact ⟨hB, cs, _, h1⟩
theorem IsC.other {W : World} {G G' k i : Nat} {f : Nat → Int} {v : Value} (h : IsC W G k f) (hne : G ≠ G') : IsC (W.setCell ⟨G', i, none⟩ v) G k f := by
  obtain ⟨cs, h1, h2⟩ := h
  exact ⟨cs, by rw [Below.heap_setCell _ _ _ _ hne]; exact h1, h2⟩
theorem IsC.set {W : World} {G k : Nat} {f : Nat → Int} (h : IsC W G k f) (i : Nat) (x : Int) : IsC (W.setCell ⟨G, i, none⟩ (.int .i64 x)) G k (fun j => if j = i then x else f j) :=
  (World.rowIs.set h i (.int .i64 x)).congr (fun j _ => by by_cases e : j = i <;> simp [e])
theorem grown_set (W : World) (G i : Nat) (v : Value) : W.grownBy (W.setCell ⟨G, i, none⟩ v) (some G) :=
  ⟨rfl, rfl, rfl, by simp [World.setCell], fun j _ hne => by rw [Below.heap_setCell _ _ _ _ (by simpa using hne)]⟩
theorem IsC.at_ {W : World} {G k : Nat} {f : Nat → Int} (h : IsC W G k f) {i : Nat} {v : Int} (hi : i < k) (e : f i = v) : W.cell? ⟨G, i, none⟩ = some (.int .i64 v) := by
  rw [← e]
  exact World.rowIs.cell h hi
theorem IsC.drewN {W : World} {G k : Nat} {f : Nat → Int} (h : IsC W G k f) (n : Nat) : IsC (W.drewN n) G k f := h.of_block rfl
theorem grown_drewN (W : World) (n : Nat) : W.grownBy (W.drewN n) none := ⟨rfl, rfl, rfl, Nat.le_refl _, fun _ _ _ => rfl⟩

/-- What is handed over. -/
def GoodC (k : Nat) (x : Nat × List Nat) (W : World) : Prop := IsC W x.1 k (fun j => (x.2.getD j 0 : Nat)) ∧ x.2.length = k
def encC (k : Nat) (x : Nat × List Nat) : Array Value := #[.slice (some ⟨x.1, 0, none⟩) k k]

set_option maxHeartbeats 4000000 in
set_option maxRecDepth 100000 in
theorem choices_seq (m n k nb kb : Nat) (hnk : (n, k) ∈ sizesC) (w : World) (hn : IsC w nb 1 (fun _ => (n : Int))) (hk : IsC w kb 1 (fun _ => (k : Int))) :
    SeqC Fence.wide m Try.prog 3 60 #[.pointer (some ⟨kb, 0, none⟩), .pointer (some ⟨nb, 0, none⟩)] (encC k) (GoodC k) (fun xs => ∃ G, xs = chL n k G) (fun pre => ∃ G, pre <+: chL n k G) w := by
  intro l J Jx W hW hJ hJx hY h0
  obtain ⟨k1, kn, n8⟩ := sizes_le hnk
  have NB := Lib.hid (show IsC W nb 1 (fun _ => (n : Int)) from hn.of_block (hW.block nb hn.lt))
  have KB := Lib.hid (show IsC W kb 1 (fun _ => (k : Int)) from hk.of_block (hW.block kb hk.lt))
  have hNl : nb < W.heap.size := NB.out.lt
  have hKl : kb < W.heap.size := KB.out.lt
  have HNK := Lib.hid hnk
  have HJ := Lib.hid hJ
  have HJX := Lib.hid hJx
  have HY := Lib.hid hY
  have H0 := Lib.hid h0
  have hck := KB.out.cell (i := 0) (by omega)
  have hmk := run_make_row' (P := Try.prog) 46 3 _ 8 Try.underlying46 goint_info rfl .i64 .i64 k (by omega) (by omega)
  clear hW hJ hJx hY h0 hn hk hnk
  refine callsIn_of_wp Try.func60 rfl trivial ?_ rfl
  simp only [Try.ntmps60, List.size_toArray, List.length_cons, List.length_nil, Nat.reduceAdd, Nat.reduceSub, Array.replicate_succ, Array.replicate_zero, List.push_toArray, List.append_toArray, List.nil_append, List.cons_append]
  gi_wp2
  -- the first choice is laid
  obtain ⟨G, hG⟩ : ∃ G, G = W.heap.size := ⟨_, rfl⟩
  have nG : nb ≠ G := by omega
  have kG : kb ≠ G := by omega
  have HG := Lib.hid hG
  have NR : Hid (IsC (W.alloc (.cells (madeCells #[.int .i64 0] k) 3)) nb 1 (fun _ => (n : Int))) := NB.out.of_block (Below.heap_alloc _ _ _ hNl)
  have KR : Hid (IsC (W.alloc (.cells (madeCells #[.int .i64 0] k) 3)) kb 1 (fun _ => (k : Int))) := KB.out.of_block (Below.heap_alloc _ _ _ hKl)
  have J0 : Hid (J [] (W.alloc (.cells (madeCells #[.int .i64 0] k) 3))) := HJ.out [] W _ none H0.out (World.grownBy_alloc W _ none) (fun r e => by cases e)
  have C0 : Hid (IsC (W.alloc (.cells (madeCells #[.int .i64 0] k) 3)) G k (fun j => if j < 0 then (j : Int) else 0)) := by
    rw [hG]
    exact (World.rowIs_made W _ k _).congr (fun i _ => by simp)
  rw [← hG]
  clear hmk hG hck NB KB H0
  gi_loopw [12] (fun i wr => ∃ q : Nat, q ≤ k ∧ i = .int .i64 q ∧ Hid (IsC wr G k (fun j => if j < q then (j : Int) else 0)) ∧ Hid (IsC wr nb 1 (fun _ => (n : Int))) ∧ Hid (IsC wr kb 1 (fun _ => (k : Int))) ∧ Hid (J [] wr))
    (fun i _ => k - (intOf i).toNat)
  case atStart => exact ⟨0, Nat.zero_le _, rfl, C0.out, NR.out, KR.out, J0.out⟩
  case round =>
    obtain ⟨q, hq, rfl, CR, NR1, KR1, JR⟩ := hrel
    clear NR KR C0 J0
    by_cases hlt : q < k
    · have hc := CR.out.cell (i := q) hlt
      have hf := CR.out.frozen q
      have C2 : Hid (IsC (wr.setCell ⟨G, q, none⟩ (.int .i64 q)) G k (fun j => if j < q + 1 then (j : Int) else 0)) :=
        (CR.out.set q q).congr (fun j _ => by
          by_cases e : j = q
          · subst e; simp
          · by_cases e2 : j < q
            · simp [e, e2, Nat.lt_succ_of_lt e2]
            · have : ¬ j < q + 1 := by omega
              simp [e, e2, this])
      have N2 := Lib.hid (NR1.out.other (i := q) (v := .int .i64 q) nG)
      have K2 := Lib.hid (KR1.out.other (i := q) (v := .int .i64 q) kG)
      have J2 := Lib.hid (HJ.out [] wr _ (some G) JR.out (grown_set wr G q (.int .i64 q)) (CR.out.turns (Nat.le_of_eq HG.out.symm)))
      gi_wp2
      go_roundw
      case rel => exact ⟨q + 1, by omega, by go_num, C2.out, N2.out, K2.out, J2.out⟩
      case measure => simp [intOf]; omega
    · have hqk : k = q := by omega
      subst hqk
      have hck := KR1.out.cell (i := 0) (by omega)
      have hcn := NR1.out.cell (i := 0) (by omega)
      have CI : Hid (IsC wr G k (fun j => (((idxC n k).getD 0 []).getD j 0 : Nat))) := by
        have e := (idx_more (idx_head HNK.out)).2
        rw [e]
        refine CR.out.congr (fun j hj => ?_)
        simp [hj, List.getD_eq_getElem?_getD]
      have N0 : Hid (0 < (idxC n k).length) := (idx_more (idx_head HNK.out)).1
      have d0 : decide ((n : Int) < (k : Int)) = false := by simp; omega
      clear hlt CR
      gi_wp2
      clear hck hcn
      gi_loopg [6, 7] ((idxC n k).length) (fun gk _ _ wr => ∃ q : Nat, gk + q = (idxC n k).length ∧ 0 < gk ∧ Hid (IsC wr G k (fun j => (((idxC n k).getD q []).getD j 0 : Nat))) ∧ Hid (IsC wr nb 1 (fun _ => (n : Int))) ∧ Hid (IsC wr kb 1 (fun _ => (k : Int))) ∧ Hid (J ((chL n k G).take q) wr))
      case atStart => exact ⟨0, by omega, N0.out, CI.out, NR1.out, KR1.out, by rw [List.take_zero]; exact JR.out⟩
      case round =>
        obtain ⟨q, hgk, hg0, CQ, NQ, KQ, JQ⟩ := hrel
        have hqN : q < (idxC n k).length := by omega
        obtain ⟨c, hc⟩ : ∃ c, c = (idxC n k).getD q [] := ⟨_, rfl⟩
        rw [← hc] at CQ
        have HC := Lib.hid hc
        have hcm := idx_mem (idx_getD_mem hqN)
        rw [← hc] at hcm
        have HCM := Lib.hid hcm
        obtain ⟨fn, tmps, assign, body, hy, hR⟩ := HY.out _ (G, c) wr JQ.out ⟨CQ.out, hcm.1⟩ ⟨G, by rw [hc, ← chL_take hqN]; exact List.take_prefix _ _⟩
        have EQ : Hid ((chL n k G).take q ++ [(G, c)] = (chL n k G).take (q + 1)) := by show _ = _; rw [hc, chL_take hqN]
        have HQN := Lib.hid hqN
        have HGK := Lib.hid (And.intro hgk hg0)
        simp only [encC] at hy
        clear hc hcm hqN hgk hg0
        gi_wp2
        refine ⟨fun h => (by cases h), hR.mono ?_⟩
        rintro e W3 (⟨rfl, hJ3, hk3⟩ | ⟨rfl, hJx3⟩)
        · have C3 := Lib.hid (CQ.out.keep hk3)
          have N3 := Lib.hid (NQ.out.keep hk3)
          have K3 := Lib.hid (KQ.out.keep hk3)
          have J3 : Hid (J ((chL n k G).take (q + 1)) W3) := by show J _ _; rw [← EQ.out]; exact hJ3
          have hck := K3.out.cell (i := 0) (by omega)
          have hcn := N3.out.cell (i := 0) (by omega)
          clear hy hR hJ3 hk3 CQ NQ KQ JQ CI N0 NR1 KR1 JR
          gi_wp2
          clear hck hcn
          gi_loopw [6] (fun i wr => ∃ r d : Nat, r ≤ k ∧ i = .int .i64 ((r : Int) - 1) ∧ Hid (lastN n k c k = lastN n k c r) ∧ wr = W3.drewN d)
            (fun i _ => (intOf i + 1).toNat)
          case atStart => exact ⟨k, 0, Nat.le_refl _, rfl, rfl, rfl⟩
          case round =>
            obtain ⟨r, d, hr, rfl, LN, rfl⟩ := hrel
            rcases Nat.eq_zero_or_pos r with hr0 | hr0
            · subst hr0
              have DN := idx_step HNK.out HQN.out
              rw [← HC.out, step_none (by rw [LN.out]; rfl)] at DN
              have DN2 := idx_done DN.symm
              have FIN : Hid (∃ xs : List (Nat × List Nat), (∃ G, xs = chL n k G) ∧ J xs (W3.drewN d)) := by
                refine ⟨chL n k G, ⟨G, rfl⟩, ?_⟩
                have e : (chL n k G).take (q + 1) = chL n k G := List.take_of_length_le (by rw [chL_length]; exact DN2)
                have := J3.out
                rw [e] at this
                exact HJ.out _ _ _ none this (grown_drewN W3 d) (fun r e => by cases e)
              clear DN DN2
              rw [show (((0 : Nat) : Int) - 1) = -1 from rfl]
              gi_wp2
              gi_big_quiet_th (fail)
              gi_wp2
              refine bodyPost_ret (results_none rfl _ _ _) rfl ?_
              obtain ⟨xs, hxs, hJxs⟩ := FIN.out
              exact ⟨⟨_, rfl⟩, .inl ⟨xs, hxs, by rw [← World.drewN_drewN]; exact HJ.out _ _ _ none hJxs (grown_drewN _ _) (fun r e => by cases e)⟩⟩
            · obtain ⟨r', rfl⟩ : ∃ r', r = r' + 1 := ⟨r - 1, by omega⟩
              rw [show (((r' + 1 : Nat) : Int) - 1) = (r' : Int) by omega]
              have hrk : r' < k := by omega
              obtain ⟨cv, hcv⟩ : ∃ cv, cv = c.getD r' 0 := ⟨_, rfl⟩
              have cvn : cv < n := by rw [hcv]; exact HCM.out.2 r' hrk
              have hcc : W3.cell? ⟨G, r', none⟩ = some (.int .i64 (cv : Nat)) := by rw [hcv]; exact C3.out.cell (i := r') hrk
              have hck : W3.cell? ⟨kb, 0, none⟩ = some (.int .i64 (k : Nat)) := K3.out.cell (i := 0) (by omega)
              have hcn : W3.cell? ⟨nb, 0, none⟩ = some (.int .i64 (n : Nat)) := N3.out.cell (i := 0) (by omega)
              have d1 : decide ((0 : Int) ≤ (r' : Int)) = true := by simp
              have i1 : (0 : Int) ≤ (r' : Int) := by omega
              have i2 : (r' : Int) < (k : Int) := by omega
              have HCV := Lib.hid hcv
              have e1 : IntKind.i64.wrap ((n : Int) - (k : Int)) = (n : Int) - (k : Int) := IntWalk.i64_in _ (by omega)
              have e2 : IntKind.i64.wrap ((n : Int) - (k : Int) + (r' : Int)) = (n : Int) - (k : Int) + (r' : Int) := IntWalk.i64_in _ (by omega)
              by_cases heq : cv = n - k + r'
              · have b1 : ((cv : Int) == (n : Int) - (k : Int) + (r' : Int)) = true := by simp; omega
                have LN2 : Hid (lastN n k c k = lastN n k c r') := by show _ = _; rw [LN.out, lastN_yes (by rw [← HCV.out]; exact heq)]
                clear hcv heq
                gi_wp2
                gi_big_quiet_th (fail)
                gi_wp2
                go_roundw
                case rel => exact ⟨r', _, by omega, rfl, LN2.out, rfl⟩
                case measure => simp [intOf]
              · have b1 : ((cv : Int) == (n : Int) - (k : Int) + (r' : Int)) = false := by simp; omega
                have LN2 : Hid (lastN n k c k = some r') := by show _ = _; rw [LN.out, lastN_no (by rw [← HCV.out]; exact heq)]
                have hfc := C3.out.frozen r'
                have d2 : decide ((r' : Int) < 0) = false := by simp
                have SC : Hid (stepC n k c = some (c.take r' ++ List.range' (c.getD r' 0 + 1) (k - r'))) := step_some LN2.out
                obtain ⟨c', hc'⟩ : ∃ c', c' = c.take r' ++ List.range' (c.getD r' 0 + 1) (k - r') := ⟨_, rfl⟩
                have NX := idx_step HNK.out HQN.out
                rw [← HC.out, SC.out, ← hc'] at NX
                have NXT := Lib.hid (idx_more NX.symm)
                have G4 : Hid (∀ j, j < k → c'.getD j 0 = if j < r' then c.getD j 0 else cv + 1 + (j - r')) := by
                  intro j hj
                  rw [hc', step_getD HCM.out.1 hrk hj, ← HCV.out]
                clear hcv heq NX hc'
                gi_wp2
                gi_big_quiet_th (fail)
                gi_wp2
                obtain ⟨W4, hW4⟩ : ∃ W4, W4 = (W3.drewN (d + nq)).setCell ⟨G, r', none⟩ (.int .i64 ((cv : Int) + 1)) := ⟨_, rfl⟩
                have J3b : J ((chL n k G).take (q + 1)) (W3.drewN (d + nq)) := HJ.out _ _ _ none J3.out (grown_drewN W3 (d + nq)) (fun r e => by cases e)
                have C3b : IsC (W3.drewN (d + nq)) G k (fun j => (c.getD j 0 : Nat)) := C3.out.drewN _
                have J4 : Hid (J ((chL n k G).take (q + 1)) W4) := by
                  rw [hW4]
                  exact HJ.out _ _ _ (some G) J3b (grown_set _ G r' _) (C3b.turns (Nat.le_of_eq HG.out.symm))
                have N4 : Hid (IsC W4 nb 1 (fun _ => (n : Int))) := by rw [hW4]; exact (N3.out.drewN _).other nG
                have K4 : Hid (IsC W4 kb 1 (fun _ => (k : Int))) := by rw [hW4]; exact (K3.out.drewN _).other kG
                have C4 : Hid (IsC W4 G k (fun j => if j < r' then ((c.getD j 0 : Nat) : Int) else if j < r' + 1 then ((cv + 1 + (j - r') : Nat) : Int) else ((c.getD j 0 : Nat) : Int))) := by
                  rw [hW4]
                  refine (C3b.set r' ((cv : Int) + 1)).congr (fun j _ => ?_)
                  by_cases e : j = r'
                  · subst e; simp
                  · by_cases e2 : j < r'
                    · simp [e, e2]
                    · have : ¬ j < r' + 1 := by omega
                      simp [e, e2, this]
                rw [← hW4]
                clear hcc hck hcn hfc J3b C3b hW4 C3 N3 K3 J3
                gi_loopw [7] (fun mm wr => ∃ p : Nat, r' < p ∧ p ≤ k ∧ mm = .int .i64 p ∧ Hid (IsC wr G k (fun j => if j < r' then ((c.getD j 0 : Nat) : Int) else if j < p then ((cv + 1 + (j - r') : Nat) : Int) else ((c.getD j 0 : Nat) : Int))) ∧ Hid (IsC wr nb 1 (fun _ => (n : Int))) ∧ Hid (IsC wr kb 1 (fun _ => (k : Int))) ∧ Hid (J ((chL n k G).take (q + 1)) wr))
                  (fun mm _ => k - (intOf mm).toNat)
                case atStart => exact ⟨r' + 1, by omega, by omega, by go_num, C4.out, N4.out, K4.out, J4.out⟩
                case round =>
                  obtain ⟨p, hp1, hp2, rfl, C5, N5, K5, J5⟩ := hrel
                  clear C4 N4 K4 J4
                  have hck := K5.out.cell (i := 0) (by omega)
                  by_cases hlt : p < k
                  · obtain ⟨y, hy⟩ : ∃ y, y = cv + 1 + (p - 1 - r') := ⟨_, rfl⟩
                    have hc1 := C5.out.at_ (i := p - 1) (v := ((y : Nat) : Int)) (by omega) (by rw [if_neg (by omega), if_pos (by omega), hy])
                    have y20 : y ≤ 20 := by omega
                    obtain ⟨z, hz⟩ : ∃ z, z = c.getD p 0 := ⟨_, rfl⟩
                    have hc2 := C5.out.at_ (i := p) (v := ((z : Nat) : Int)) hlt (by rw [if_neg (by omega), if_neg (by omega), hz])
                    have hf2 := C5.out.frozen p
                    have hpp : ((p : Int) - 1).toNat = p - 1 := by omega
                    have hp0 : (0 : Int) ≤ (p : Int) - 1 := by omega
                    have hp3 : (p : Int) - 1 < (k : Int) := by omega
                    have C6 : Hid (IsC (wr.setCell ⟨G, p, none⟩ (.int .i64 ((y : Int) + 1))) G k (fun j => if j < r' then ((c.getD j 0 : Nat) : Int) else if j < p + 1 then ((cv + 1 + (j - r') : Nat) : Int) else ((c.getD j 0 : Nat) : Int))) := by
                      refine (C5.out.set p ((y : Int) + 1)).congr (fun j _ => ?_)
                      by_cases e : j = p
                      · subst e
                        have h1 : ¬ j < r' := by omega
                        simp [h1]
                        omega
                      · by_cases e1 : j < r'
                        · simp [e, e1]
                        · by_cases e2 : j < p
                          · have : j < p + 1 := by omega
                            simp [e, e1, e2, this]
                          · have : ¬ j < p + 1 := by omega
                            simp [e, e1, e2, this]
                    have N6 := Lib.hid (N5.out.other (i := p) (v := .int .i64 ((y : Int) + 1)) nG)
                    have K6 := Lib.hid (K5.out.other (i := p) (v := .int .i64 ((y : Int) + 1)) kG)
                    have J6 := Lib.hid (HJ.out _ wr _ (some G) J5.out (grown_set wr G p (.int .i64 ((y : Int) + 1))) (C5.out.turns (Nat.le_of_eq HG.out.symm)))
                    clear hy hz
                    gi_wp2
                    go_roundw
                    case rel => exact ⟨p + 1, by omega, by omega, by go_num, C6.out, N6.out, K6.out, J6.out⟩
                    case measure => simp [intOf]; omega
                  · have hpk : p = k := by omega
                    have C6 : Hid (IsC wr G k (fun j => (((idxC n k).getD (q + 1) []).getD j 0 : Nat))) := by
                      rw [NXT.out.2]
                      refine C5.out.congr (fun j hj => int_eq ?_)
                      show _ = ((c'.getD j 0 : Nat) : Int)
                      rw [G4.out j hj]
                      by_cases e1 : j < r'
                      · simp [e1]
                      · have : j < p := by omega
                        simp [e1, this]
                    have RL := Lib.hid (show (gk - 1) + (q + 1) = (idxC n k).length ∧ 0 < gk - 1 by have := HGK.out; have := NXT.out.1; omega)
                    have GP : Hid (gk - 1 < gk) := by show gk - 1 < gk; have := HGK.out.2; omega
                    gi_wp2
                    gi_roundg (gk - 1)
                    case rel => exact ⟨q + 1, RL.out.1, RL.out.2, C6.out, N5.out, K5.out, J5.out⟩
                    case measure => exact GP.out
        · have JX := Lib.hid hJx3
          clear hy hR hJx3
          gi_wp2
          go_end0
          exact ⟨⟨_, rfl⟩, .inr ⟨_, ⟨G, by rw [EQ.out]; exact List.take_prefix _ _⟩, JX.out⟩⟩
end Go.Proofs.Ytgkhhfkijepenaa
