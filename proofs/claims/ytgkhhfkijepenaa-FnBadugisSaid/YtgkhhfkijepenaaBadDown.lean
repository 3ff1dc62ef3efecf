/-
  spec.l05Down: cards by decreasing low ranks.
-/
import Derived.Test.YtgkhhfkijepenaaPick
import Derived.Test.YtgkhhfkijepenaaMathBadugi
import Derived.Test.YtgkhhfkijepenaaLowSpec
namespace Go.Proofs.Ytgkhhfkijepenaa
open Go.RowKit

/-- The list that is put in order. -/
def Dwn (w wr : World) (v : Value) (k : Nat) (zs xs : List Int) : Prop :=
  (∃ A c, v = .slice A k c ∧ OwnT wr w.heap.size A c zs) ∧ zs.length = k ∧ zs = dnL (xs.take k) ∧ Below w.heap.size w wr
theorem dwn_round {k m : Nat} {w w2 w6 : World} {v6 : Value} {u : Int} {zs xs : List Int} (hk : Below w.heap.size w w2) (hp : zs = dnL (xs.take k)) (hl : zs.length = k) (hm : m ≤ k) (hkx : k < xs.length) (hu : u = xs.getD k 0)
    (h1 : ∀ i, i < m → lowI u < lowI (zs.getD i 0)) (h2 : m = k ∨ lowI (zs.getD m 0) ≤ lowI u)
    (hb : Below w2.heap.size w2 w6) (ho : w6.ownsRow w2.heap.size 2 1 v6 (0 + m + 1 + (k - m)) ([] ++ (zs.take m).map (Value.int .i64) ++ [.int .i64 u] ++ (zs.drop m).map (Value.int .i64))) :
    Dwn w w6 v6 (k + 1) (zs.take m ++ [u] ++ zs.drop m) xs := by
  have hln : (zs.take m ++ [u] ++ zs.drop m).length = k + 1 := by simp; omega
  have e1 : 0 + m + 1 + (k - m) = (zs.take m ++ [u] ++ zs.drop m).length := by rw [hln]; omega
  obtain ⟨A6, c6, hv, ho6⟩ := ownT_of_owns (xs := zs.take m ++ [u] ++ zs.drop m) (v := v6) (by rw [← e1]; simpa using ho)
  refine ⟨⟨A6, c6, by rw [hv, hln], ho6.mono hk.size⟩, hln, ?_, hk.trans (hb.mono hk.size)⟩
  rw [take_snoc hkx, dnL_snoc, ← hu, ← hp, insD_at u zs m (by omega) h1 (by rw [hl]; exact h2)]
  simp

theorem dwn_addr {w : World} {lo k c : Nat} {A : Option Addr} {zs : List Int} (h : OwnT w lo A c zs) (hk : zs.length = k) : (A = none ∧ c = 0 ∧ k = 0) ∨ ∃ q, A = some ⟨q, 0, none⟩ := by
  rcases h with ⟨h1, h2, h3⟩ | ⟨q, f, h, _⟩
  · exact .inl ⟨h1, h2, by rw [← hk, h3]; rfl⟩
  · exact .inr ⟨q, h⟩

set_option maxHeartbeats 16000000 in
set_option maxRecDepth 8000 in
theorem l05Down_any (A : Option Addr) (c : Nat) (xs : List Int) (len : Nat) (w : World) (hlen : len = xs.length) (hr : RowI w A xs) (hl : xs.length ≤ 256) (ho : ∀ x ∈ xs, 0 ≤ x ∧ x ≤ 51) :
    Calls Try.prog 51 #[.slice A len c] w (GivesT w (dnL xs)) := by
  subst hlen
  have HR := Lib.hid hr
  have HOK := Lib.hid ho
  obtain ⟨i0, hi, hz0, hz1, hz2⟩ := info_parts int_info
  have HI := Lib.hid (And.intro hi (And.intro hz0 (And.intro hz1 hz2)))
  obtain ⟨n, hn⟩ : ∃ n, n = xs.length := ⟨_, rfl⟩
  rw [← hn] at hl ⊢
  have HN := Lib.hid hn
  have ST : Hid (Dwn w (w.alloc (.cells #[] 2)) (.slice (some ⟨w.heap.size, 0, none⟩) 0 0) 0 [] xs) := by
    refine ⟨⟨_, _, rfl, .inr ⟨w.heap.size, fun _ => undef, rfl, Nat.le_refl _, by simp, by simp, by simp [maxLen], World.rowIs_alloc w #[] _ _ (fun i hi => absurd hi (by simp)), fun j hj => absurd hj (by simp)⟩⟩, rfl, by rw [List.take_zero]; rfl, (Below.refl _ _).alloc (Nat.le_refl _) _⟩
  clear hr hi hz0 hz1 hz2 hn ho
  go_enter Try.func51, Try.ntmps51
  go_wp2
  go_loopw [3, 4, 5] (fun v i _ wr => ∃ (k : Nat) (zs : List Int), i = .int .i64 k ∧ k ≤ n ∧ Hid (Dwn w wr v k zs xs))
    (fun _ i _ _ => n - (intOf i).toNat)
  case atStart => exact ⟨0, [], rfl, Nat.zero_le _, ST.out⟩
  case round =>
    obtain ⟨k, zs, rfl, hk, PK⟩ := hrel
    clear ST
    by_cases hkn : k < n
    · obtain ⟨⟨A', c', rfl, hT⟩, hzl, hsort, hbel⟩ := PK.out
      obtain ⟨wo, rfl⟩ : ∃ wo : World, wo = wr := ⟨_, rfl⟩
      have hkc : k ≤ c' := by have := hT.own.cap.1; omega
      have hcm := hT.own.cap.2
      obtain ⟨b, off, rfl, hb, hcell⟩ := HR.out.at_ (k := k) (by rw [← HN.out]; exact hkn)
      obtain ⟨u, hu⟩ : ∃ u, u = xs.getD k 0 := ⟨_, rfl⟩
      have OT := Lib.hid hT
      have ZL := Lib.hid hzl
      have SO := Lib.hid hsort
      have KP := Lib.hid hbel
      have HC := Lib.hid (And.intro hb hcell)
      have CM := Lib.hid hcm
      have HU := Lib.hid hu
      have U01 : Hid (0 ≤ u ∧ u ≤ 51) := HOK.out u (by rw [hu, List.getD_eq_getElem?_getD, List.getElem?_eq_getElem (by rw [← HN.out]; exact hkn)]; exact List.getElem_mem _)
      obtain ⟨ul, hul⟩ : ∃ ul, ul = lowI u := ⟨_, rfl⟩
      have UL := Lib.hid hul
      have CU : Hid (∀ W : World, Calls Try.prog 55 #[.int .i64 u] W fun e w' => e = .returned (.int .i64 ul) ∧ W = w') := fun W => by rw [UL.out]; exact l05Rank_any2 u W U01.out.1 U01.out.2
      have ZM : Hid (∀ y ∈ zs, 0 ≤ y ∧ y ≤ 51) := fun y hy => HOK.out y (List.mem_of_mem_take ((dnL_facts (xs.take k)).2.mem_iff.1 (by rw [← hsort]; exact hy)))
      clear hul
      have hco : wo.cell? ⟨b, off + k, none⟩ = some (.int .i64 u) := by rw [hu]; exact (hbel.cell (p := ⟨b, off + k, none⟩) hb).trans hcell
      clear PK hT hzl hsort hbel hb hcell hcm hu
      rcases dwn_addr OT.out ZL.out with ⟨rfl, c0, k0⟩ | ⟨q0, rfl⟩
      · have K0 := Lib.hid (And.intro c0 k0)
        clear c0 k0
        go_wp2
        go_loopw [5] (fun a wr => ∃ m : Nat, m ≤ k ∧ a = .int .i64 m ∧ Hid (∀ i, i < m → lowI u < lowI (zs.getD i 0)) ∧ ∃ q, wr = wo.drewN q) (fun a _ => k - (intOf a).toNat)
        case atStart => exact ⟨0, Nat.zero_le _, rfl, fun i hi => absurd hi (by omega), 0, rfl⟩
        case round =>
          obtain ⟨m, hmk, rfl, LO, q, hwq⟩ := hrel
          have HWQ := Lib.hid hwq
          have OTI : Hid (OwnT wr w.heap.size none c' zs) := by show OwnT _ _ _ _ _; rw [hwq]; exact OT.out.below (below_drewN (Below.refl _ _) _)
          have hcoi : wr.cell? ⟨b, off + k, none⟩ = some (.int .i64 u) := by rw [hwq]; exact hco
          clear hwq
          by_cases hm : m < k
          · exact absurd hm (by have := K0.out; omega)
          · have hmk' : m = k := by omega
            have GT : Hid (m = k ∨ lowI (zs.getD m 0) ≤ lowI u) := .inl hmk'
            have hm2 : ¬ ((m : Int) < (k : Int)) := by omega
            clear hmk'
            go_wp2
            go_quiet (fail)
            go_wp2
            obtain ⟨w2, hw2⟩ : ∃ w2, w2 = wr.drewN nq := ⟨_, rfl⟩
            have D2 : Below wo.heap.size wo w2 := by rw [hw2, HWQ.out]; exact below_drewN (below_drewN (Below.refl _ _) _) _
            rw [← hw2]
            have K2 := Lib.hid (KP.out.trans (D2.mono KP.out.size))
            have O2 := Lib.hid (OT.out.below D2)
            have hcb : w2.cell? ⟨b, off + k, none⟩ = some (.int .i64 u) := by rw [HU.out]; exact (K2.out.cell (p := ⟨b, off + k, none⟩) HC.out.1).trans HC.out.2
            have hb2 : b < w2.heap.size := Nat.lt_of_lt_of_le HC.out.1 K2.out.size
            clear hw2 D2 hco hcoi
            have R2 := Lib.hid O2.out.own.row
            have RF := Lib.hid (R2.out.first m)
            have hcut := R2.out.cut (k := m) (cap := c') (by rw [ZL.out]; exact hmk) (by rw [ZL.out]; exact hkc)
            have m1 : m ≤ c' := by omega
            have m2 : (m : Int) ≤ (k : Int) := by omega
            have m3 : (m : Int) ≤ (c' : Int) := by omega
            have BD0 : Hid (0 + m ≤ maxLen ∧ (0 + m) * 8 ≤ 140737488355328 ∧ 0 + m + 1 ≤ maxLen ∧ (0 + m + 1) * 8 ≤ 140737488355328 ∧ 0 + m + 1 + (k - m) ≤ maxLen ∧ (0 + m + 1 + (k - m)) * 8 ≤ 140737488355328) := by
              show _ ∧ _ ∧ _ ∧ _ ∧ _ ∧ _
              simp only [maxLen]; omega
            have OWS := Lib.hid (pk_own w2 (.int .i64 u))
            have RDS := Lib.hid (pk_rd (.int .i64 u) RF.out (n := m) (by rw [List.length_take, ZL.out]; omega))
            have BS1 : Hid (w2.heap.size ≤ ((w2.alloc (.cells #[] 2)).drew).heap.size) := by show _ ≤ _; simp
            have BS2 : Hid (w2.heap.size ≤ (((w2.alloc (.cells #[] 2)).alloc (.cells #[.int .i64 u] 2)).drew).heap.size) := by show _ ≤ _; simp; omega
            have BS3 : Hid (w2.heap.size ≤ (((w2.alloc (.cells #[.int .i64 u] 2)).alloc (.cells #[] 2)).drew).heap.size) := by show _ ≤ _; simp; omega
            have TL := Lib.hid (show RowI w2 none (zs.drop m) from .inl (by rw [List.drop_eq_nil_of_le]; have := ZL.out; have := K0.out; omega))
            have hc : c' = m := by have := K0.out; omega
            clear hcut
            go_wp2
            go_region_law (first
              | ((refine step_append_any _ rfl (.tmp 32) (.tmp 35) 24 rfl w2.heap.size 2 i0 (.int .i64 0) 1 8 Try.underlying24 HI.out.1 HI.out.2.1 HI.out.2.2.1 HI.out.2.2.2 rfl (by decide) _ 0 [] rfl OWS.out.1.out (w2.heap.size + 2) _ m _ ((zs.take m).map (Value.int .i64)) rfl RDS.out.1.out (ints_one _) BD0.out.1 BD0.out.2.1 BS1.out ?_); intro v4 w4 hown4 hg4 hat4; have O4 := Lib.hid hown4; have G4 := Lib.hid (deal_g4 hg4); have V4 := Lib.hid (show ∀ j, v4.ownBlock = some j → w2.heap.size ≤ j from fun j e => (hown4.lt j e).1); have Z4 := Lib.hid (show w2.heap.size ≤ w4.heap.size from G4.out.size); have C4 := (G4.out.cell (p := ⟨b, off + k, none⟩) hb2).trans hcb; have hb4 := Nat.lt_of_lt_of_le hb2 G4.out.size; clear hown4 hg4 hat4)
              | ((refine step_append_any _ rfl (.tmp 32) (.tmp 35) 24 rfl w2.heap.size 2 i0 (.int .i64 0) 1 8 Try.underlying24 HI.out.1 HI.out.2.1 HI.out.2.2.1 HI.out.2.2.2 rfl (by decide) _ 0 [] rfl OWS.out.2.1.out (w2.heap.size + 2) _ m _ ((zs.take m).map (Value.int .i64)) rfl RDS.out.2.1.out (ints_one _) BD0.out.1 BD0.out.2.1 BS2.out ?_); intro v4 w4 hown4 hg4 hat4; have O4 := Lib.hid hown4; have P4 := Lib.hid (pk_g2 hg4); have G4 := Lib.hid P4.out.1; have X4 := Lib.hid P4.out.2; have V4 := Lib.hid (show ∀ j, v4.ownBlock = some j → w2.heap.size ≤ j from fun j e => (hown4.lt j e).1); have Z4 := Lib.hid (show w2.heap.size ≤ w4.heap.size from G4.out.size); have C4 := (G4.out.cell (p := ⟨b, off + k, none⟩) hb2).trans hcb; have hb4 := Nat.lt_of_lt_of_le hb2 G4.out.size; clear hown4 hg4 hat4)
              | ((refine step_append_any _ rfl (.tmp 32) (.tmp 35) 24 rfl w2.heap.size 2 i0 (.int .i64 0) 1 8 Try.underlying24 HI.out.1 HI.out.2.1 HI.out.2.2.1 HI.out.2.2.2 rfl (by decide) _ 0 [] rfl OWS.out.2.2.out (w2.heap.size + 2) _ m _ ((zs.take m).map (Value.int .i64)) rfl RDS.out.2.2.out (ints_one _) BD0.out.1 BD0.out.2.1 BS3.out ?_); intro v4 w4 hown4 hg4 hat4; have O4 := Lib.hid hown4; have P4 := Lib.hid (pk_g3 hg4); have G4 := Lib.hid P4.out.1; have X4 := Lib.hid P4.out.2; have V4 := Lib.hid (show ∀ j, v4.ownBlock = some j → w2.heap.size ≤ j from fun j e => (hown4.lt j e).1); have Z4 := Lib.hid (show w2.heap.size ≤ w4.heap.size from G4.out.size); have C4 := (G4.out.cell (p := ⟨b, off + k, none⟩) hb2).trans hcb; have hb4 := Nat.lt_of_lt_of_le hb2 G4.out.size; clear hown4 hg4 hat4)
              | ((refine step_append_any _ rfl (.tmp 36) (.tmp 41) 24 rfl w2.heap.size 2 i0 (.int .i64 0) 1 8 Try.underlying24 HI.out.1 HI.out.2.1 HI.out.2.2.1 HI.out.2.2.2 rfl (by decide) _ (0 + m) _ rfl (O4.out.alloc _) _ (some ⟨w4.heap.size, 0, none⟩) 1 _ [.int .i64 u] rfl (pk_one (pk_new _ _)) (ints_one [u]) BD0.out.2.2.1 BD0.out.2.2.2.1 (pk_sz Z4.out _) ?_); intro v5 w5 hown5 hg5 hat5; have O5 := Lib.hid hown5; have G5 := Lib.hid ((G4.out.alloc Z4.out _).grown hg5 (pk_sz Z4.out _) (fun j e => V4.out j e)); have V5 := Lib.hid (show ∀ j, v5.ownBlock = some j → w2.heap.size ≤ j from fun j e => (hown5.lt j e).1); have Z5 := Lib.hid (show w2.heap.size ≤ w5.heap.size from G5.out.size); have T5 := Lib.hid (pk_tail ZL.out (TL.out.below G5.out)); clear hown5 hg5 hat5)
              | ((refine step_append_any _ rfl (.tmp 36) (.tmp 41) 24 rfl w2.heap.size 2 i0 (.int .i64 0) 1 8 Try.underlying24 HI.out.1 HI.out.2.1 HI.out.2.2.1 HI.out.2.2.2 rfl (by decide) _ (0 + m) _ rfl O4.out _ (some ⟨w2.heap.size + 1, 0, none⟩) 1 _ [.int .i64 u] rfl X4.out (ints_one [u]) BD0.out.2.2.1 BD0.out.2.2.2.1 Z4.out ?_); intro v5 w5 hown5 hg5 hat5; have O5 := Lib.hid hown5; have G5 := Lib.hid (G4.out.grown hg5 Z4.out (fun j e => V4.out j e)); have V5 := Lib.hid (show ∀ j, v5.ownBlock = some j → w2.heap.size ≤ j from fun j e => (hown5.lt j e).1); have Z5 := Lib.hid (show w2.heap.size ≤ w5.heap.size from G5.out.size); have T5 := Lib.hid (pk_tail ZL.out (TL.out.below G5.out)); clear hown5 hg5 hat5)
              | ((refine step_append_any _ rfl (.tmp 36) (.tmp 41) 24 rfl w2.heap.size 2 i0 (.int .i64 0) 1 8 Try.underlying24 HI.out.1 HI.out.2.1 HI.out.2.2.1 HI.out.2.2.2 rfl (by decide) _ (0 + m) _ rfl O4.out _ (some ⟨w2.heap.size, 0, none⟩) 1 _ [.int .i64 u] rfl X4.out (ints_one [u]) BD0.out.2.2.1 BD0.out.2.2.2.1 Z4.out ?_); intro v5 w5 hown5 hg5 hat5; have O5 := Lib.hid hown5; have G5 := Lib.hid (G4.out.grown hg5 Z4.out (fun j e => V4.out j e)); have V5 := Lib.hid (show ∀ j, v5.ownBlock = some j → w2.heap.size ≤ j from fun j e => (hown5.lt j e).1); have Z5 := Lib.hid (show w2.heap.size ≤ w5.heap.size from G5.out.size); have T5 := Lib.hid (pk_tail ZL.out (TL.out.below G5.out)); clear hown5 hg5 hat5)
              | ((refine step_append_any _ rfl (.tmp 42) (.tmp 45) 24 rfl w2.heap.size 2 i0 (.int .i64 0) 1 8 Try.underlying24 HI.out.1 HI.out.2.1 HI.out.2.2.1 HI.out.2.2.2 rfl (by decide) _ (0 + m + 1) _ rfl O5.out _ _ (k - m) _ ((zs.drop m).map (Value.int .i64)) rfl T5.out (ints_one _) BD0.out.2.2.2.2.1 BD0.out.2.2.2.2.2 Z5.out ?_); intro v6 w6 hown6 hg6 hat6; have O6 := Lib.hid hown6; have G6 := Lib.hid (G5.out.grown hg6 Z5.out (fun j e => V5.out j e)); clear hown6 hg6 hat6))
            all_goals
              have RD := Lib.hid (dwn_round K2.out SO.out ZL.out hmk (by rw [← HN.out]; exact hkn) HU.out LO.out GT.out G6.out O6.out)
              clear C4 hb4 hcb
              go_wp2
              go_roundw
              case rel => exact ⟨k + 1, _, by go_num, by omega, RD.out⟩
              case measure => simp [intOf]; omega
      · skip
        go_wp2
        go_loopw [5] (fun a wr => ∃ m : Nat, m ≤ k ∧ a = .int .i64 m ∧ Hid (∀ i, i < m → lowI u < lowI (zs.getD i 0)) ∧ ∃ q, wr = wo.drewN q) (fun a _ => k - (intOf a).toNat)
        case atStart => exact ⟨0, Nat.zero_le _, rfl, fun i hi => absurd hi (by omega), 0, rfl⟩
        case round =>
          obtain ⟨m, hmk, rfl, LO, q, hwq⟩ := hrel
          have HWQ := Lib.hid hwq
          have OTI : Hid (OwnT wr w.heap.size (some ⟨q0, 0, none⟩) c' zs) := by show OwnT _ _ _ _ _; rw [hwq]; exact OT.out.below (below_drewN (Below.refl _ _) _)
          have hcoi : wr.cell? ⟨b, off + k, none⟩ = some (.int .i64 u) := by rw [hwq]; exact hco
          clear hwq
          by_cases hm : m < k
          · obtain ⟨_, _, he, hb2', hcell2⟩ := OTI.out.own.row.at_ (k := m) (by rw [ZL.out]; exact hm)
            simp only [Option.some.injEq, Addr.mk.injEq, and_true] at he
            obtain ⟨rfl, rfl⟩ := he
            rw [Nat.zero_add] at hcell2
            obtain ⟨y, hy⟩ : ∃ y, y = zs.getD m 0 := ⟨_, rfl⟩
            rw [← hy] at hcell2
            have HY := Lib.hid hy
            obtain ⟨yl, hyl⟩ : ∃ yl, yl = lowI y := ⟨_, rfl⟩
            have YL := Lib.hid hyl
            have CY : Hid (∀ W : World, Calls Try.prog 55 #[.int .i64 y] W fun e w' => e = .returned (.int .i64 yl) ∧ W = w') := fun W => by
              rw [YL.out]
              have y01 := ZM.out y (by rw [HY.out, List.getD_eq_getElem?_getD, List.getElem?_eq_getElem (by rw [ZL.out]; exact hm)]; exact List.getElem_mem _)
              exact l05Rank_any2 y W y01.1 y01.2
            clear hy hb2' hyl
            have i0' : (0 : Int) ≤ (m : Int) := by omega
            have i1' : (m : Int) < (k : Int) := by omega
            by_cases hle : ul < yl
            · have LO2 : Hid (∀ i, i < m + 1 → lowI u < lowI (zs.getD i 0)) := fun i hi => by
                rcases Nat.lt_or_ge i m with h | h
                · exact LO.out i h
                · have : i = m := by omega
                  rw [this, ← HY.out, ← YL.out, ← UL.out]; exact hle
              go_wp2
              go_quiet (first | (go_at_call_of 55 y; exact quiet_left (CY.out _)) | (go_at_call_of 55 u; exact quiet_left (CU.out _)))
              go_wp2
              go_roundw
              case rel => exact ⟨m + 1, by omega, by go_num, LO2.out, _, by rw [HWQ.out, World.drewN_drewN]⟩
              case measure => simp [intOf]; omega
            · have GT : Hid (m = k ∨ lowI (zs.getD m 0) ≤ lowI u) := .inr (by rw [← HY.out, ← YL.out, ← UL.out]; omega)
              go_wp2
              go_quiet (first | (go_at_call_of 55 y; exact quiet_left (CY.out _)) | (go_at_call_of 55 u; exact quiet_left (CU.out _)))
              go_wp2
              clear hcell2
              obtain ⟨w2, hw2⟩ : ∃ w2, w2 = wr.drewN nq := ⟨_, rfl⟩
              have D2 : Below wo.heap.size wo w2 := by rw [hw2, HWQ.out]; exact below_drewN (below_drewN (Below.refl _ _) _) _
              rw [← hw2]
              have K2 := Lib.hid (KP.out.trans (D2.mono KP.out.size))
              have O2 := Lib.hid (OT.out.below D2)
              have hcb : w2.cell? ⟨b, off + k, none⟩ = some (.int .i64 u) := by rw [HU.out]; exact (K2.out.cell (p := ⟨b, off + k, none⟩) HC.out.1).trans HC.out.2
              have hb2 : b < w2.heap.size := Nat.lt_of_lt_of_le HC.out.1 K2.out.size
              clear hw2 D2 hco hcoi
              have R2 := Lib.hid O2.out.own.row
              have RF := Lib.hid (R2.out.first m)
              have hcut := R2.out.cut (k := m) (cap := c') (by rw [ZL.out]; exact hmk) (by rw [ZL.out]; exact hkc)
              have m1 : m ≤ c' := by omega
              have m2 : (m : Int) ≤ (k : Int) := by omega
              have m3 : (m : Int) ≤ (c' : Int) := by omega
              have BD0 : Hid (0 + m ≤ maxLen ∧ (0 + m) * 8 ≤ 140737488355328 ∧ 0 + m + 1 ≤ maxLen ∧ (0 + m + 1) * 8 ≤ 140737488355328 ∧ 0 + m + 1 + (k - m) ≤ maxLen ∧ (0 + m + 1 + (k - m)) * 8 ≤ 140737488355328) := by
                show _ ∧ _ ∧ _ ∧ _ ∧ _ ∧ _
                simp only [maxLen]; omega
              have OWS := Lib.hid (pk_own w2 (.int .i64 u))
              have RDS := Lib.hid (pk_rd (.int .i64 u) RF.out (n := m) (by rw [List.length_take, ZL.out]; omega))
              have BS1 : Hid (w2.heap.size ≤ ((w2.alloc (.cells #[] 2)).drew).heap.size) := by show _ ≤ _; simp
              have BS2 : Hid (w2.heap.size ≤ (((w2.alloc (.cells #[] 2)).alloc (.cells #[.int .i64 u] 2)).drew).heap.size) := by show _ ≤ _; simp; omega
              have BS3 : Hid (w2.heap.size ≤ (((w2.alloc (.cells #[.int .i64 u] 2)).alloc (.cells #[] 2)).drew).heap.size) := by show _ ≤ _; simp; omega
              by_cases hc : c' = m
              all_goals
                first
                | have TL := Lib.hid (show RowI w2 (some ⟨q0, 0, none⟩) (zs.drop m) by rwa [if_pos hc] at hcut)
                | have TL := Lib.hid (show RowI w2 (some ⟨q0, m, none⟩) (zs.drop m) by rw [if_neg hc] at hcut; simpa [Go.WideShapes.add_plain] using hcut)
                clear hcut
                go_wp2
                go_region_law (first
                  | ((refine step_append_any _ rfl (.tmp 32) (.tmp 35) 24 rfl w2.heap.size 2 i0 (.int .i64 0) 1 8 Try.underlying24 HI.out.1 HI.out.2.1 HI.out.2.2.1 HI.out.2.2.2 rfl (by decide) _ 0 [] rfl OWS.out.1.out (w2.heap.size + 2) _ m _ ((zs.take m).map (Value.int .i64)) rfl RDS.out.1.out (ints_one _) BD0.out.1 BD0.out.2.1 BS1.out ?_); intro v4 w4 hown4 hg4 hat4; have O4 := Lib.hid hown4; have G4 := Lib.hid (deal_g4 hg4); have V4 := Lib.hid (show ∀ j, v4.ownBlock = some j → w2.heap.size ≤ j from fun j e => (hown4.lt j e).1); have Z4 := Lib.hid (show w2.heap.size ≤ w4.heap.size from G4.out.size); have C4 := (G4.out.cell (p := ⟨b, off + k, none⟩) hb2).trans hcb; have hb4 := Nat.lt_of_lt_of_le hb2 G4.out.size; clear hown4 hg4 hat4)
                  | ((refine step_append_any _ rfl (.tmp 32) (.tmp 35) 24 rfl w2.heap.size 2 i0 (.int .i64 0) 1 8 Try.underlying24 HI.out.1 HI.out.2.1 HI.out.2.2.1 HI.out.2.2.2 rfl (by decide) _ 0 [] rfl OWS.out.2.1.out (w2.heap.size + 2) _ m _ ((zs.take m).map (Value.int .i64)) rfl RDS.out.2.1.out (ints_one _) BD0.out.1 BD0.out.2.1 BS2.out ?_); intro v4 w4 hown4 hg4 hat4; have O4 := Lib.hid hown4; have P4 := Lib.hid (pk_g2 hg4); have G4 := Lib.hid P4.out.1; have X4 := Lib.hid P4.out.2; have V4 := Lib.hid (show ∀ j, v4.ownBlock = some j → w2.heap.size ≤ j from fun j e => (hown4.lt j e).1); have Z4 := Lib.hid (show w2.heap.size ≤ w4.heap.size from G4.out.size); have C4 := (G4.out.cell (p := ⟨b, off + k, none⟩) hb2).trans hcb; have hb4 := Nat.lt_of_lt_of_le hb2 G4.out.size; clear hown4 hg4 hat4)
                  | ((refine step_append_any _ rfl (.tmp 32) (.tmp 35) 24 rfl w2.heap.size 2 i0 (.int .i64 0) 1 8 Try.underlying24 HI.out.1 HI.out.2.1 HI.out.2.2.1 HI.out.2.2.2 rfl (by decide) _ 0 [] rfl OWS.out.2.2.out (w2.heap.size + 2) _ m _ ((zs.take m).map (Value.int .i64)) rfl RDS.out.2.2.out (ints_one _) BD0.out.1 BD0.out.2.1 BS3.out ?_); intro v4 w4 hown4 hg4 hat4; have O4 := Lib.hid hown4; have P4 := Lib.hid (pk_g3 hg4); have G4 := Lib.hid P4.out.1; have X4 := Lib.hid P4.out.2; have V4 := Lib.hid (show ∀ j, v4.ownBlock = some j → w2.heap.size ≤ j from fun j e => (hown4.lt j e).1); have Z4 := Lib.hid (show w2.heap.size ≤ w4.heap.size from G4.out.size); have C4 := (G4.out.cell (p := ⟨b, off + k, none⟩) hb2).trans hcb; have hb4 := Nat.lt_of_lt_of_le hb2 G4.out.size; clear hown4 hg4 hat4)
                  | ((refine step_append_any _ rfl (.tmp 36) (.tmp 41) 24 rfl w2.heap.size 2 i0 (.int .i64 0) 1 8 Try.underlying24 HI.out.1 HI.out.2.1 HI.out.2.2.1 HI.out.2.2.2 rfl (by decide) _ (0 + m) _ rfl (O4.out.alloc _) _ (some ⟨w4.heap.size, 0, none⟩) 1 _ [.int .i64 u] rfl (pk_one (pk_new _ _)) (ints_one [u]) BD0.out.2.2.1 BD0.out.2.2.2.1 (pk_sz Z4.out _) ?_); intro v5 w5 hown5 hg5 hat5; have O5 := Lib.hid hown5; have G5 := Lib.hid ((G4.out.alloc Z4.out _).grown hg5 (pk_sz Z4.out _) (fun j e => V4.out j e)); have V5 := Lib.hid (show ∀ j, v5.ownBlock = some j → w2.heap.size ≤ j from fun j e => (hown5.lt j e).1); have Z5 := Lib.hid (show w2.heap.size ≤ w5.heap.size from G5.out.size); have T5 := Lib.hid (pk_tail ZL.out (TL.out.below G5.out)); clear hown5 hg5 hat5)
                  | ((refine step_append_any _ rfl (.tmp 36) (.tmp 41) 24 rfl w2.heap.size 2 i0 (.int .i64 0) 1 8 Try.underlying24 HI.out.1 HI.out.2.1 HI.out.2.2.1 HI.out.2.2.2 rfl (by decide) _ (0 + m) _ rfl O4.out _ (some ⟨w2.heap.size + 1, 0, none⟩) 1 _ [.int .i64 u] rfl X4.out (ints_one [u]) BD0.out.2.2.1 BD0.out.2.2.2.1 Z4.out ?_); intro v5 w5 hown5 hg5 hat5; have O5 := Lib.hid hown5; have G5 := Lib.hid (G4.out.grown hg5 Z4.out (fun j e => V4.out j e)); have V5 := Lib.hid (show ∀ j, v5.ownBlock = some j → w2.heap.size ≤ j from fun j e => (hown5.lt j e).1); have Z5 := Lib.hid (show w2.heap.size ≤ w5.heap.size from G5.out.size); have T5 := Lib.hid (pk_tail ZL.out (TL.out.below G5.out)); clear hown5 hg5 hat5)
                  | ((refine step_append_any _ rfl (.tmp 36) (.tmp 41) 24 rfl w2.heap.size 2 i0 (.int .i64 0) 1 8 Try.underlying24 HI.out.1 HI.out.2.1 HI.out.2.2.1 HI.out.2.2.2 rfl (by decide) _ (0 + m) _ rfl O4.out _ (some ⟨w2.heap.size, 0, none⟩) 1 _ [.int .i64 u] rfl X4.out (ints_one [u]) BD0.out.2.2.1 BD0.out.2.2.2.1 Z4.out ?_); intro v5 w5 hown5 hg5 hat5; have O5 := Lib.hid hown5; have G5 := Lib.hid (G4.out.grown hg5 Z4.out (fun j e => V4.out j e)); have V5 := Lib.hid (show ∀ j, v5.ownBlock = some j → w2.heap.size ≤ j from fun j e => (hown5.lt j e).1); have Z5 := Lib.hid (show w2.heap.size ≤ w5.heap.size from G5.out.size); have T5 := Lib.hid (pk_tail ZL.out (TL.out.below G5.out)); clear hown5 hg5 hat5)
                  | ((refine step_append_any _ rfl (.tmp 42) (.tmp 45) 24 rfl w2.heap.size 2 i0 (.int .i64 0) 1 8 Try.underlying24 HI.out.1 HI.out.2.1 HI.out.2.2.1 HI.out.2.2.2 rfl (by decide) _ (0 + m + 1) _ rfl O5.out _ _ (k - m) _ ((zs.drop m).map (Value.int .i64)) rfl T5.out (ints_one _) BD0.out.2.2.2.2.1 BD0.out.2.2.2.2.2 Z5.out ?_); intro v6 w6 hown6 hg6 hat6; have O6 := Lib.hid hown6; have G6 := Lib.hid (G5.out.grown hg6 Z5.out (fun j e => V5.out j e)); clear hown6 hg6 hat6))
                all_goals
                  have RD := Lib.hid (dwn_round K2.out SO.out ZL.out hmk (by rw [← HN.out]; exact hkn) HU.out LO.out GT.out G6.out O6.out)
                  clear C4 hb4 hcb
                  go_wp2
                  go_roundw
                  case rel => exact ⟨k + 1, _, by go_num, by omega, RD.out⟩
                  case measure => simp [intOf]; omega
          · have hmk' : m = k := by omega
            have GT : Hid (m = k ∨ lowI (zs.getD m 0) ≤ lowI u) := .inl hmk'
            have hm2 : ¬ ((m : Int) < (k : Int)) := by omega
            clear hmk'
            go_wp2
            go_quiet (fail)
            go_wp2
            obtain ⟨w2, hw2⟩ : ∃ w2, w2 = wr.drewN nq := ⟨_, rfl⟩
            have D2 : Below wo.heap.size wo w2 := by rw [hw2, HWQ.out]; exact below_drewN (below_drewN (Below.refl _ _) _) _
            rw [← hw2]
            have K2 := Lib.hid (KP.out.trans (D2.mono KP.out.size))
            have O2 := Lib.hid (OT.out.below D2)
            have hcb : w2.cell? ⟨b, off + k, none⟩ = some (.int .i64 u) := by rw [HU.out]; exact (K2.out.cell (p := ⟨b, off + k, none⟩) HC.out.1).trans HC.out.2
            have hb2 : b < w2.heap.size := Nat.lt_of_lt_of_le HC.out.1 K2.out.size
            clear hw2 D2 hco hcoi
            have R2 := Lib.hid O2.out.own.row
            have RF := Lib.hid (R2.out.first m)
            have hcut := R2.out.cut (k := m) (cap := c') (by rw [ZL.out]; exact hmk) (by rw [ZL.out]; exact hkc)
            have m1 : m ≤ c' := by omega
            have m2 : (m : Int) ≤ (k : Int) := by omega
            have m3 : (m : Int) ≤ (c' : Int) := by omega
            have BD0 : Hid (0 + m ≤ maxLen ∧ (0 + m) * 8 ≤ 140737488355328 ∧ 0 + m + 1 ≤ maxLen ∧ (0 + m + 1) * 8 ≤ 140737488355328 ∧ 0 + m + 1 + (k - m) ≤ maxLen ∧ (0 + m + 1 + (k - m)) * 8 ≤ 140737488355328) := by
              show _ ∧ _ ∧ _ ∧ _ ∧ _ ∧ _
              simp only [maxLen]; omega
            have OWS := Lib.hid (pk_own w2 (.int .i64 u))
            have RDS := Lib.hid (pk_rd (.int .i64 u) RF.out (n := m) (by rw [List.length_take, ZL.out]; omega))
            have BS1 : Hid (w2.heap.size ≤ ((w2.alloc (.cells #[] 2)).drew).heap.size) := by show _ ≤ _; simp
            have BS2 : Hid (w2.heap.size ≤ (((w2.alloc (.cells #[] 2)).alloc (.cells #[.int .i64 u] 2)).drew).heap.size) := by show _ ≤ _; simp; omega
            have BS3 : Hid (w2.heap.size ≤ (((w2.alloc (.cells #[.int .i64 u] 2)).alloc (.cells #[] 2)).drew).heap.size) := by show _ ≤ _; simp; omega
            by_cases hc : c' = m
            all_goals
              first
              | have TL := Lib.hid (show RowI w2 (some ⟨q0, 0, none⟩) (zs.drop m) by rwa [if_pos hc] at hcut)
              | have TL := Lib.hid (show RowI w2 (some ⟨q0, m, none⟩) (zs.drop m) by rw [if_neg hc] at hcut; simpa [Go.WideShapes.add_plain] using hcut)
              clear hcut
              go_wp2
              go_region_law (first
                | ((refine step_append_any _ rfl (.tmp 32) (.tmp 35) 24 rfl w2.heap.size 2 i0 (.int .i64 0) 1 8 Try.underlying24 HI.out.1 HI.out.2.1 HI.out.2.2.1 HI.out.2.2.2 rfl (by decide) _ 0 [] rfl OWS.out.1.out (w2.heap.size + 2) _ m _ ((zs.take m).map (Value.int .i64)) rfl RDS.out.1.out (ints_one _) BD0.out.1 BD0.out.2.1 BS1.out ?_); intro v4 w4 hown4 hg4 hat4; have O4 := Lib.hid hown4; have G4 := Lib.hid (deal_g4 hg4); have V4 := Lib.hid (show ∀ j, v4.ownBlock = some j → w2.heap.size ≤ j from fun j e => (hown4.lt j e).1); have Z4 := Lib.hid (show w2.heap.size ≤ w4.heap.size from G4.out.size); have C4 := (G4.out.cell (p := ⟨b, off + k, none⟩) hb2).trans hcb; have hb4 := Nat.lt_of_lt_of_le hb2 G4.out.size; clear hown4 hg4 hat4)
                | ((refine step_append_any _ rfl (.tmp 32) (.tmp 35) 24 rfl w2.heap.size 2 i0 (.int .i64 0) 1 8 Try.underlying24 HI.out.1 HI.out.2.1 HI.out.2.2.1 HI.out.2.2.2 rfl (by decide) _ 0 [] rfl OWS.out.2.1.out (w2.heap.size + 2) _ m _ ((zs.take m).map (Value.int .i64)) rfl RDS.out.2.1.out (ints_one _) BD0.out.1 BD0.out.2.1 BS2.out ?_); intro v4 w4 hown4 hg4 hat4; have O4 := Lib.hid hown4; have P4 := Lib.hid (pk_g2 hg4); have G4 := Lib.hid P4.out.1; have X4 := Lib.hid P4.out.2; have V4 := Lib.hid (show ∀ j, v4.ownBlock = some j → w2.heap.size ≤ j from fun j e => (hown4.lt j e).1); have Z4 := Lib.hid (show w2.heap.size ≤ w4.heap.size from G4.out.size); have C4 := (G4.out.cell (p := ⟨b, off + k, none⟩) hb2).trans hcb; have hb4 := Nat.lt_of_lt_of_le hb2 G4.out.size; clear hown4 hg4 hat4)
                | ((refine step_append_any _ rfl (.tmp 32) (.tmp 35) 24 rfl w2.heap.size 2 i0 (.int .i64 0) 1 8 Try.underlying24 HI.out.1 HI.out.2.1 HI.out.2.2.1 HI.out.2.2.2 rfl (by decide) _ 0 [] rfl OWS.out.2.2.out (w2.heap.size + 2) _ m _ ((zs.take m).map (Value.int .i64)) rfl RDS.out.2.2.out (ints_one _) BD0.out.1 BD0.out.2.1 BS3.out ?_); intro v4 w4 hown4 hg4 hat4; have O4 := Lib.hid hown4; have P4 := Lib.hid (pk_g3 hg4); have G4 := Lib.hid P4.out.1; have X4 := Lib.hid P4.out.2; have V4 := Lib.hid (show ∀ j, v4.ownBlock = some j → w2.heap.size ≤ j from fun j e => (hown4.lt j e).1); have Z4 := Lib.hid (show w2.heap.size ≤ w4.heap.size from G4.out.size); have C4 := (G4.out.cell (p := ⟨b, off + k, none⟩) hb2).trans hcb; have hb4 := Nat.lt_of_lt_of_le hb2 G4.out.size; clear hown4 hg4 hat4)
                | ((refine step_append_any _ rfl (.tmp 36) (.tmp 41) 24 rfl w2.heap.size 2 i0 (.int .i64 0) 1 8 Try.underlying24 HI.out.1 HI.out.2.1 HI.out.2.2.1 HI.out.2.2.2 rfl (by decide) _ (0 + m) _ rfl (O4.out.alloc _) _ (some ⟨w4.heap.size, 0, none⟩) 1 _ [.int .i64 u] rfl (pk_one (pk_new _ _)) (ints_one [u]) BD0.out.2.2.1 BD0.out.2.2.2.1 (pk_sz Z4.out _) ?_); intro v5 w5 hown5 hg5 hat5; have O5 := Lib.hid hown5; have G5 := Lib.hid ((G4.out.alloc Z4.out _).grown hg5 (pk_sz Z4.out _) (fun j e => V4.out j e)); have V5 := Lib.hid (show ∀ j, v5.ownBlock = some j → w2.heap.size ≤ j from fun j e => (hown5.lt j e).1); have Z5 := Lib.hid (show w2.heap.size ≤ w5.heap.size from G5.out.size); have T5 := Lib.hid (pk_tail ZL.out (TL.out.below G5.out)); clear hown5 hg5 hat5)
                | ((refine step_append_any _ rfl (.tmp 36) (.tmp 41) 24 rfl w2.heap.size 2 i0 (.int .i64 0) 1 8 Try.underlying24 HI.out.1 HI.out.2.1 HI.out.2.2.1 HI.out.2.2.2 rfl (by decide) _ (0 + m) _ rfl O4.out _ (some ⟨w2.heap.size + 1, 0, none⟩) 1 _ [.int .i64 u] rfl X4.out (ints_one [u]) BD0.out.2.2.1 BD0.out.2.2.2.1 Z4.out ?_); intro v5 w5 hown5 hg5 hat5; have O5 := Lib.hid hown5; have G5 := Lib.hid (G4.out.grown hg5 Z4.out (fun j e => V4.out j e)); have V5 := Lib.hid (show ∀ j, v5.ownBlock = some j → w2.heap.size ≤ j from fun j e => (hown5.lt j e).1); have Z5 := Lib.hid (show w2.heap.size ≤ w5.heap.size from G5.out.size); have T5 := Lib.hid (pk_tail ZL.out (TL.out.below G5.out)); clear hown5 hg5 hat5)
                | ((refine step_append_any _ rfl (.tmp 36) (.tmp 41) 24 rfl w2.heap.size 2 i0 (.int .i64 0) 1 8 Try.underlying24 HI.out.1 HI.out.2.1 HI.out.2.2.1 HI.out.2.2.2 rfl (by decide) _ (0 + m) _ rfl O4.out _ (some ⟨w2.heap.size, 0, none⟩) 1 _ [.int .i64 u] rfl X4.out (ints_one [u]) BD0.out.2.2.1 BD0.out.2.2.2.1 Z4.out ?_); intro v5 w5 hown5 hg5 hat5; have O5 := Lib.hid hown5; have G5 := Lib.hid (G4.out.grown hg5 Z4.out (fun j e => V4.out j e)); have V5 := Lib.hid (show ∀ j, v5.ownBlock = some j → w2.heap.size ≤ j from fun j e => (hown5.lt j e).1); have Z5 := Lib.hid (show w2.heap.size ≤ w5.heap.size from G5.out.size); have T5 := Lib.hid (pk_tail ZL.out (TL.out.below G5.out)); clear hown5 hg5 hat5)
                | ((refine step_append_any _ rfl (.tmp 42) (.tmp 45) 24 rfl w2.heap.size 2 i0 (.int .i64 0) 1 8 Try.underlying24 HI.out.1 HI.out.2.1 HI.out.2.2.1 HI.out.2.2.2 rfl (by decide) _ (0 + m + 1) _ rfl O5.out _ _ (k - m) _ ((zs.drop m).map (Value.int .i64)) rfl T5.out (ints_one _) BD0.out.2.2.2.2.1 BD0.out.2.2.2.2.2 Z5.out ?_); intro v6 w6 hown6 hg6 hat6; have O6 := Lib.hid hown6; have G6 := Lib.hid (G5.out.grown hg6 Z5.out (fun j e => V5.out j e)); clear hown6 hg6 hat6))
              all_goals
                have RD := Lib.hid (dwn_round K2.out SO.out ZL.out hmk (by rw [← HN.out]; exact hkn) HU.out LO.out GT.out G6.out O6.out)
                clear C4 hb4 hcb
                go_wp2
                go_roundw
                case rel => exact ⟨k + 1, _, by go_num, by omega, RD.out⟩
                case measure => simp [intOf]; omega
    · have hkn' : k = n := by omega
      obtain ⟨⟨A', c', rfl, hT⟩, hzl, hsort, hbel⟩ := PK.out
      rw [hkn', HN.out, List.take_length] at hsort
      have FIN : Hid (GivesT w (dnL xs) (.returned (.slice A' k c')) wr) := ⟨A', c', by rw [← hsort, hzl], by rw [← hsort]; exact hT, hbel⟩
      clear hT hzl hsort hbel PK hkn'
      go_wp2
      go_ret
      exact FIN.out
end Go.Proofs.Ytgkhhfkijepenaa
