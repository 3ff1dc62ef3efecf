/-
  Cards that the reference deals out of a source.
-/
import Derived.Test.YtmmpeaedglnjlaaDrawRow
import Derived.Test.YtmmpeaedglnjlaaDrawPick
import Derived.Deep.RegionLaw
import Derived.Deep.AppendLies
import Derived.Test.YtmmpeaedglnjlaaOthers
namespace Go.Proofs.Ytmmpeaedglnjlaa
open Go.RowKit

theorem RowI.grown {w w' : World} {A : Option Addr} {xs : List Int} {row : Option Nat} (h : RowI w A xs) (hg : w.grownBy w' row) (hne : ∀ b, A.map (·.block) = some b → some b ≠ row) : RowI w' A xs := by
  rcases h with h | ⟨b, off, rfl, hb, hc⟩
  · exact .inl h
  · exact .inr ⟨b, off, rfl, Nat.lt_of_lt_of_le hb hg.size, fun k hk => (World.cell?_of_block (w := w) (hg.block b hb (hne b rfl))).trans (hc k hk)⟩
theorem RowI.first {w : World} {A : Option Addr} {xs : List Int} (h : RowI w A xs) (k : Nat) : RowI w A (xs.take k) := by
  rcases h with h | ⟨b, off, e, hb, hc⟩
  · subst h; exact .inl (by simp)
  · refine .inr ⟨b, off, e, hb, fun j hj => ?_⟩
    rw [List.length_take] at hj
    rw [hc j (by omega)]
    simp [List.getD_eq_getElem?_getD, show j < k by omega]
/-- The list that is left, apart from the list that grows. -/
def Left (lo : Nat) (wr : World) (A : Option Addr) (c m : Nat) (v : Value) (xs : List Int) : Prop :=
  RowI wr A xs ∧ xs.length = m ∧ m ≤ c ∧ c ≤ maxLen ∧ ∀ b, A.map (·.block) = some b → lo ≤ b ∧ v.ownBlock ≠ some b
/-- The list that grows, the source, what is kept. -/
def Grows (lo g : Nat) (w wr : World) (v : Value) (ln : Nat) (zs : List Int) : Prop :=
  (wr.ownsRow lo 2 1 v ln (zs.map (Value.int .i64)) ∧ zs.length = ln) ∧ Src wr g ∧ Kept g w wr ∧ lo ≤ wr.heap.size

theorem owns_keptG {w w' : World} {lo g n : Nat} {v : Value} {xs : List Value} (h : w.ownsRow lo 2 1 v n xs) (hk : Kept g w w') (hg : g < lo) : w'.ownsRow lo 2 1 v n xs := by
  refine h.kept hk ?_
  cases e : v.ownBlock with
  | none => exact .inl rfl
  | some q => exact .inr (fun e2 => by have := (h.lt q e).1; cases e2; omega)
theorem deal_start {w w1 : World} {g : Nat} {A1 : Option Addr} {c1 : Nat} {ys : List Int} (hs : Src w g) (ho : OwnI w1 w.heap.size A1 c1 ys) (hb : Below w.heap.size w w1) :
    Left w.heap.size (w1.alloc (.cells #[] 2)) A1 c1 ys.length (.slice (some ⟨w1.heap.size, 0, none⟩) 0 0) ys ∧ Grows w.heap.size g w (w1.alloc (.cells #[] 2)) (.slice (some ⟨w1.heap.size, 0, none⟩) 0 0) 0 [] := by
  refine ⟨⟨ho.row.below ((Below.refl _ _).alloc (Nat.le_refl _) _), rfl, ho.cap.1, ho.cap.2, fun b hb' => ⟨(ho.lo_block b hb').1, fun e => ?_⟩⟩, ⟨World.ownsRow_made w1 #[] 0 hb.size (by decide) rfl, rfl⟩, (hs.below' hb).below' ((Below.refl _ _).alloc (Nat.le_refl _) _), (Kept.of_below hb).alloc _, Nat.le_trans hb.size (by simp)⟩
  have := (ho.lo_block b hb').2
  simp [Value.ownBlock] at e; omega

/-- A round of the dealing has ended. -/
theorem deal_round {lo g k m ln : Nat} {w w3 w5 : World} {v v5 : Value} {xs zs : List Int} (hG : Grows lo g w w3 v ln zs) (hb : Below w3.heap.size w3 w5)
    (ho : w5.ownsRow w3.heap.size 2 1 v5 (0 + k + (m - (k + 1))) ([] ++ (xs.take k).map (Value.int .i64) ++ (xs.drop (k + 1)).map (Value.int .i64))) :
    ∃ A6 c6, v5 = .slice A6 (0 + k + (m - (k + 1))) c6 ∧ Left lo w5 A6 c6 (0 + k + (m - (k + 1))) v (xs.take k ++ xs.drop (k + 1)) ∧ Grows lo g w w5 v ln zs := by
  obtain ⟨⟨hown, hzl⟩, hsrc, hk, hsz⟩ := hG
  have hl : (xs.take k ++ xs.drop (k + 1)).length = 0 + k + (m - (k + 1)) := by
    have := ho.1
    simp only [List.nil_append, List.length_append, List.length_map] at this
    rw [List.length_append]; omega
  obtain ⟨A6, c6, hv, ho6⟩ := ownT_of_owns (xs := xs.take k ++ xs.drop (k + 1)) (v := v5) (by rw [hl, List.map_append]; simpa using ho)
  rw [hl] at hv
  have hoI := ho6.own
  have hvlt : ∀ j, v.ownBlock = some j → j < w3.heap.size := fun j e => (hown.lt j e).2
  refine ⟨A6, c6, hv, ⟨hoI.row, hl, by rw [← hl]; exact hoI.cap.1, hoI.cap.2, fun b hb' => ⟨Nat.le_trans hsz (hoI.lo_block b hb').1, fun e => ?_⟩⟩, ⟨?_, hzl⟩, hsrc.below' hb, hk.trans (Kept.of_below hb), Nat.le_trans hsz hb.size⟩
  · have := (hoI.lo_block b hb').1
    have := hvlt b e
    omega
  · refine hown.kept (row := none) ⟨hb.os, hb.tape, hb.output, hb.size, fun i hi _ => hb.block i hi⟩ ?_
    cases e : v.ownBlock <;> simp

theorem deal_g4 {w w' : World} {o : Obj} (hg : (w.alloc o).drew.grownBy w' (Value.ownBlock (.slice (some ⟨w.heap.size, 0, none⟩) 0 0))) : Below w.heap.size w w' :=
  ((Below.refl w.heap.size w).alloc (Nat.le_refl _) o).drew.grown hg (by simp) (fun j e => by simp [Value.ownBlock] at e; omega)
theorem deal_reads {w : World} {B : Addr} {xs : List Int} {k m : Nat} (hl : xs.length = m) (h : RowI w (some B) (xs.drop (k + 1))) : Reads w w.heap.size 1 (some B) (m - (k + 1)) ((xs.drop (k + 1)).map (Value.int .i64)) := by
  have := h.reads
  rwa [List.length_drop, hl] at this
theorem deal_perm {xs : List Int} {k : Nat} (h : k < xs.length) : ([xs.getD k 0] ++ (xs.take k ++ xs.drop (k + 1))).Perm xs := by
  have e : xs = xs.take k ++ xs.getD k 0 :: xs.drop (k + 1) := by
    rw [List.getD_eq_getElem?_getD, List.getElem?_eq_getElem h]
    simp
  conv => rhs; rw [e]
  show (xs.getD k 0 :: (xs.take k ++ xs.drop (k + 1))).Perm _
  exact List.perm_middle.symm
set_option maxHeartbeats 4000000 in
set_option maxRecDepth 8000 in
theorem l02DealP_any (g : Nat) (n : Int) (A : Option Addr) (c : Nat) (wo : List Int) (len : Nat) (w : World) (hlen : len = wo.length) (hn : n ≤ 100000) (h : Src w g) (hr : RowI w A wo) (hl : wo.length ≤ 1048576) :
    Calls Try.prog 54 #[.pointer (some ⟨g, 0, none⟩), .int .i64 n, .slice A len c] w
      fun e w' => ∃ ys A' c', e = .returned (.slice A' ys.length c') ∧ OwnT w' w.heap.size A' c' ys ∧ ys.length ≤ 52 ∧ (n ≤ 0 → ys.length = 0) ∧ (∃ rest, (ys ++ rest).Perm (othK wo 52) ∧ (0 ≤ n → ((ys.length : Int) = n ∨ rest = []) ∧ (ys.length : Int) ≤ n)) ∧ Src w' g ∧ Kept g w w' := by
  subst hlen
  have HS := Lib.hid h
  have HR := Lib.hid hr
  have GL : Hid (g < w.heap.size) := h.lt
  obtain ⟨i0, hi, hz0, hz1, hz2⟩ := info_parts int_info
  have HI := Lib.hid (And.intro hi (And.intro hz0 (And.intro hz1 hz2)))
  clear h hr hi hz0 hz1 hz2
  go_enter Try.func54, Try.ntmps54
  go_wp2_with fail
  refine (l02Others_any A c wo _ HR.out hl).mono ?_
  rintro e w1 ⟨A1, c1, rfl, ho, hb⟩
  have hlo := othK_le wo 52
  have ST := Lib.hid (deal_start HS.out ho hb)
  obtain ⟨O, hO⟩ : ∃ O, O = othK wo 52 := ⟨_, rfl⟩
  rw [← hO] at hlo ST ⊢
  obtain ⟨m0, hm0⟩ : ∃ m0, m0 = O.length := ⟨_, rfl⟩
  rw [← hm0] at hlo ST ⊢
  have HO := Lib.hid hO
  clear ho hb hm0 hO
  go_wp2
  go_loopw [1, 7, 8, 9] (fun nn rest v _ wr => ∃ (n' : Int) (A' : Option Addr) (c' m ln : Nat) (xs zs : List Int), nn = .int .i64 n' ∧ n' ≤ n ∧ rest = .slice A' m c' ∧ m + ln ≤ 52 ∧ (n ≤ 0 → ln = 0) ∧ Hid (Left w.heap.size wr A' c' m v xs) ∧ Hid (Grows w.heap.size g w wr v ln zs) ∧ Hid ((zs ++ xs).Perm O ∧ n' + (ln : Int) = n ∧ (0 ≤ n → 0 ≤ n')))
    (fun nn _ _ _ _ => (intOf nn).toNat)
  case atStart => exact ⟨n, A1, c1, m0, 0, O, [], rfl, Int.le_refl _, rfl, by omega, fun _ => rfl, ST.out.1, ST.out.2, by rw [List.nil_append], by omega, fun h => h⟩
  case round =>
    obtain ⟨n', A', c', m, ln, xs, zs, rfl, hnn, rfl, hml, hz, LF, GR, PM⟩ := hrel
    clear ST
    by_cases hgo : 0 < n' ∧ 0 < m
    · obtain ⟨hn0, hm0⟩ := hgo
      have dn : decide (0 < n') = true := by simpa using hn0
      obtain ⟨hrow, hxl, hmc, hcm, hne⟩ := LF.out
      obtain ⟨⟨hown, hzl⟩, hsrc, hk, hsz⟩ := GR.out
      obtain ⟨b, off, rfl, hb, hcell⟩ : ∃ b off, A' = some ⟨b, off, none⟩ ∧ b < wr.heap.size ∧ ∀ k, k < xs.length → wr.cell? ⟨b, off + k, none⟩ = some (.int .i64 (xs.getD k 0)) := by
        rcases hrow with h | h
        · rw [h] at hxl; simp at hxl; omega
        · exact h
      have hbl := hne b rfl
      have S1 := Lib.hid hsrc
      have OW := Lib.hid hown
      have RW := Lib.hid hrow
      have NB := Lib.hid hbl
      have KK := Lib.hid (And.intro hk hsz)
      have XL := Lib.hid (And.intro hxl hzl)
      have hn1 : n' ≤ 100000 := by omega
      have hz' : Hid (0 < n) := by show 0 < n; omega
      clear LF GR hrow hown hsrc hk hsz hne hbl hz hcell hb hxl hzl
      go_wp2_with fail
      refine (l01Next_any g (m : Int) _ S1.out).mono ?_
      rintro e w2 ⟨x, rfl, x0, x1, hs2, hk2, hz2⟩
      obtain ⟨k, rfl⟩ := Int.eq_ofNat_of_zero_le x0
      have hkm : k < m := by omega
      have hki : (k : Int) < (m : Int) := by omega
      have S2 := Lib.hid hs2
      have R2 := Lib.hid (RW.out.keptG hk2 (fun b' hb' => by have := NB.out.1; have := GL.out; simp at hb'; omega))
      have O2 := Lib.hid (owns_keptG OW.out hk2 GL.out)
      have K2 := Lib.hid (And.intro (KK.out.1.trans hk2) (Nat.le_trans KK.out.2 hk2.size))
      obtain ⟨b1, off1, he, hb1, hcell⟩ := R2.out.at_ (k := k) (by rw [XL.out.1]; exact hkm)
      simp only [Option.some.injEq, Addr.mk.injEq, and_true] at he
      obtain ⟨rfl, rfl⟩ := he
      obtain ⟨u, hu⟩ : ∃ u, u = xs.getD k 0 := ⟨_, rfl⟩
      rw [← hu] at hcell
      have PM2 : Hid ((zs ++ [u] ++ (xs.take k ++ xs.drop (k + 1))).Perm O) := by
        refine List.Perm.trans ?_ PM.out.1
        rw [List.append_assoc]
        refine List.Perm.append_left zs ?_
        rw [hu]
        exact deal_perm (by rw [XL.out.1]; exact hkm)
      have HB1 := Lib.hid hb1
      clear hs2 hk2 hz2 x1 hu hb1
      go_wp2_with (at_builtin; refine wpList_append_lies _ rfl (.tmp 26) (.tmp 31) 22 rfl w.heap.size 2 i0 (.int .i64 0) 1 8 Try.underlying22 HI.out.1 HI.out.2.1 HI.out.2.2.1 HI.out.2.2.2 rfl (by decide) _ ln _ rfl (O2.out.alloc _) ⟨w2.heap.size, 0, none⟩ 1 1 [.int .i64 u] rfl rfl (World.news_of_block (heap_alloc_new _ _)) (by simp [Value.oneCell']) (by decide) (by simp only [maxLen]; omega) (by omega) (by simp; have := K2.out.2; omega) _ rfl ?_; intro q cap w3 hown3 hgrow3 hat3 hlt3; have O3 := Lib.hid hown3; have G3 := Lib.hid hgrow3; have AT := Lib.hid hat3; clear hown3 hgrow3 hat3 hlt3)
      have R3 := Lib.hid ((R2.out.below ((Below.refl _ _).alloc (Nat.le_refl _) _)).grown G3.out (fun b' hb' => by have := NB.out.2; simp at hb'; subst hb'; exact fun e => this e.symm))
      have GR3 : Hid (Grows w.heap.size g w w3 (.slice (some ⟨q, 0, none⟩) (ln + 1) cap) (ln + 1) (zs ++ [u])) := by
        have hlo : ∀ j, Value.ownBlock u8 = some j → w.heap.size ≤ j := fun j e => (O2.out.lt j e).1
        refine ⟨⟨?_, by rw [List.length_append, XL.out.2]; rfl⟩, ?_, (K2.out.1.alloc _).grown G3.out hlo, ?_⟩
        · rw [List.map_append]; exact O3.out
        · exact S2.out.below (((Below.refl w.heap.size w2).alloc K2.out.2 _).grown G3.out (by simp; have := K2.out.2; omega) hlo) GL.out
        · have := G3.out.size; simp at this; have := K2.out.2; omega
      have HD := Lib.hid (R3.out.first k)
      have hmc' : k + 1 ≤ c' := by omega
      have w1k : IntKind.i64.wrap ((k : Int) + 1) = (k : Int) + 1 := IntWalk.i64_in _ (by omega)
      have k2 : (0 : Int) ≤ (k : Int) + 1 := by omega
      have k3 : ((k : Int) + 1).toNat = k + 1 := by omega
      have k4 : k ≤ c' := by omega
      have k5 : k + 1 ≤ m := by omega
      have k6 : (k : Int) ≤ (k : Int) + 1 := by omega
      have k7 : (k : Int) + 1 ≤ (m : Int) := by omega
      have hcut := R3.out.cut (k := k + 1) (cap := c') (by rw [XL.out.1]; omega) (by rw [XL.out.1]; exact hmc)
      clear hcell HB1
      have OW0 : Hid (((w3.alloc (.cells #[] 2)).drew).ownsRow w3.heap.size 2 1 (.slice (some ⟨w3.heap.size, 0, none⟩) 0 0) 0 []) := (World.ownsRow_made w3 #[] 0 (Nat.le_refl _) (by decide) rfl).drew
      have RD0 : Hid (Reads ((w3.alloc (.cells #[] 2)).drew) (w3.heap.size + 1) 1 (some ⟨b, off, none⟩) k ((xs.take k).map (Value.int .i64))) := by
        have := (HD.out.below (((Below.refl w3.heap.size w3).alloc (Nat.le_refl _) (.cells #[] 2)).drew)).reads
        have e : (xs.take k).length = k := by rw [List.length_take, XL.out.1]; omega
        have e2 : ((w3.alloc (.cells #[] 2)).drew).heap.size = w3.heap.size + 1 := by simp
        rw [e, e2] at this
        exact this
      have BS0 : Hid (w3.heap.size ≤ ((w3.alloc (.cells #[] 2)).drew).heap.size) := by show _ ≤ _; simp
      have BD0 : Hid (0 + k ≤ maxLen ∧ (0 + k) * 8 ≤ 140737488355328 ∧ 0 + k + (m - (k + 1)) ≤ maxLen ∧ (0 + k + (m - (k + 1))) * 8 ≤ 140737488355328) := by
        show _ ∧ _ ∧ _ ∧ _
        simp only [maxLen]; omega
      by_cases hc : c' = k + 1
      · have TL := Lib.hid (show RowI w3 (some ⟨b, off, none⟩) (xs.drop (k + 1)) by rwa [if_pos hc] at hcut)
        clear hcut
        go_wp2
        go_region_law (first
          | ((refine step_append_any _ rfl (.tmp 33) (.tmp 36) 22 rfl w3.heap.size 2 i0 (.int .i64 0) 1 8 Try.underlying22 HI.out.1 HI.out.2.1 HI.out.2.2.1 HI.out.2.2.2 rfl (by decide) _ 0 [] rfl OW0.out (w3.heap.size + 1) (some ⟨b, off, none⟩) k _ ((xs.take k).map (Value.int .i64)) rfl RD0.out (ints_one _) BD0.out.1 BD0.out.2.1 BS0.out ?_); intro v4 w4 hown4 hg4 hat4; have O4 := Lib.hid hown4; have G4 := Lib.hid (deal_g4 hg4); have V4 := Lib.hid (show ∀ j, v4.ownBlock = some j → w3.heap.size ≤ j from fun j e => (hown4.lt j e).1); have Z4 := Lib.hid (show w3.heap.size ≤ w4.heap.size from G4.out.size); have T4 := Lib.hid (deal_reads (B := ⟨b, off, none⟩) XL.out.1 (TL.out.below G4.out)); clear hown4 hg4 hat4)
          | ((refine step_append_any _ rfl (.tmp 37) (.tmp 41) 22 rfl w3.heap.size 2 i0 (.int .i64 0) 1 8 Try.underlying22 HI.out.1 HI.out.2.1 HI.out.2.2.1 HI.out.2.2.2 rfl (by decide) _ (0 + k) _ rfl O4.out w4.heap.size (some ⟨b, off, none⟩) (m - (k + 1)) _ ((xs.drop (k + 1)).map (Value.int .i64)) rfl T4.out (ints_one _) BD0.out.2.2.1 BD0.out.2.2.2 Z4.out ?_); intro v5 w5 hown5 hg5 hat5; have O5 := Lib.hid hown5; have G5 := Lib.hid (G4.out.grown hg5 Z4.out (fun j e => V4.out j e)); clear hown5 hg5 hat5))
        all_goals
          have Q := Lib.hid (deal_round (xs := xs) (k := k) GR3.out G5.out O5.out)
          obtain ⟨A6, c6, hv6, LF6, GR6⟩ := Q.out
          clear Q
          subst hv6
          have L6 := Lib.hid LF6
          have R6 := Lib.hid GR6
          clear LF6 GR6
          go_wp2
          go_roundw
          case rel => exact ⟨n' - 1, A6, c6, 0 + k + (m - (k + 1)), ln + 1, _, _, rfl, by omega, by rw [Nat.zero_add], by omega, fun h => absurd hz'.out (by omega), L6.out, R6.out, PM2.out, by have := PM.out.2.1; omega, fun _ => by omega⟩
          case measure => simp [intOf]; omega
      · have TL := Lib.hid (show RowI w3 (some ⟨b, off + (k + 1), none⟩) (xs.drop (k + 1)) by rw [if_neg hc] at hcut; rw [← Go.WideShapes.add_plain]; exact hcut)
        clear hcut
        go_wp2
        go_region_law (first
          | ((refine step_append_any _ rfl (.tmp 33) (.tmp 36) 22 rfl w3.heap.size 2 i0 (.int .i64 0) 1 8 Try.underlying22 HI.out.1 HI.out.2.1 HI.out.2.2.1 HI.out.2.2.2 rfl (by decide) _ 0 [] rfl OW0.out (w3.heap.size + 1) (some ⟨b, off, none⟩) k _ ((xs.take k).map (Value.int .i64)) rfl RD0.out (ints_one _) BD0.out.1 BD0.out.2.1 BS0.out ?_); intro v4 w4 hown4 hg4 hat4; have O4 := Lib.hid hown4; have G4 := Lib.hid (deal_g4 hg4); have V4 := Lib.hid (show ∀ j, v4.ownBlock = some j → w3.heap.size ≤ j from fun j e => (hown4.lt j e).1); have Z4 := Lib.hid (show w3.heap.size ≤ w4.heap.size from G4.out.size); have T4 := Lib.hid (deal_reads (B := ⟨b, off + (k + 1), none⟩) XL.out.1 (TL.out.below G4.out)); clear hown4 hg4 hat4)
          | ((refine step_append_any _ rfl (.tmp 37) (.tmp 41) 22 rfl w3.heap.size 2 i0 (.int .i64 0) 1 8 Try.underlying22 HI.out.1 HI.out.2.1 HI.out.2.2.1 HI.out.2.2.2 rfl (by decide) _ (0 + k) _ rfl O4.out w4.heap.size (some ⟨b, off + (k + 1), none⟩) (m - (k + 1)) _ ((xs.drop (k + 1)).map (Value.int .i64)) rfl T4.out (ints_one _) BD0.out.2.2.1 BD0.out.2.2.2 Z4.out ?_); intro v5 w5 hown5 hg5 hat5; have O5 := Lib.hid hown5; have G5 := Lib.hid (G4.out.grown hg5 Z4.out (fun j e => V4.out j e)); clear hown5 hg5 hat5))
        all_goals
          have Q := Lib.hid (deal_round (xs := xs) (k := k) GR3.out G5.out O5.out)
          obtain ⟨A6, c6, hv6, LF6, GR6⟩ := Q.out
          clear Q
          subst hv6
          have L6 := Lib.hid LF6
          have R6 := Lib.hid GR6
          clear LF6 GR6
          go_wp2
          go_roundw
          case rel => exact ⟨n' - 1, A6, c6, 0 + k + (m - (k + 1)), ln + 1, _, _, rfl, by omega, by rw [Nat.zero_add], by omega, fun h => absurd hz'.out (by omega), L6.out, R6.out, PM2.out, by have := PM.out.2.1; omega, fun _ => by omega⟩
          case measure => simp [intOf]; omega
    · obtain ⟨⟨hown, hzl⟩, hsrc, hk, hsz⟩ := GR.out
      obtain ⟨A', c', hv, ho⟩ := ownT_of_owns (xs := zs) (by rw [hzl]; exact hown)
      have E := Lib.hid (And.intro ho (And.intro hsrc (And.intro hk hzl)))
      subst hv
      clear hown ho hsrc hk hsz
      by_cases hn0 : 0 < n'
      · have dn : decide (0 < n') = true := by simpa using hn0
        have hm0 : m = 0 := by omega
        have EX : Hid (xs = []) := List.eq_nil_of_length_eq_zero (by rw [LF.out.2.1]; exact hm0)
        subst hm0
        go_wp2
        go_ret
        exact ⟨zs, A', c', by rw [E.out.2.2.2]; rfl, E.out.1, by rw [E.out.2.2.2]; omega, fun h => by have := hz h; have := E.out.2.2.2; simpa using (show zs.length = 0 by omega), ⟨xs, by rw [← HO.out]; exact PM.out.1, fun h => ⟨.inr EX.out, by have := PM.out.2.1; have := PM.out.2.2 h; have := E.out.2.2.2; omega⟩⟩, E.out.2.1, E.out.2.2.1⟩
      · have dn : decide (0 < n') = false := by simpa using hn0
        go_wp2
        go_ret
        exact ⟨zs, A', c', by rw [E.out.2.2.2]; rfl, E.out.1, by rw [E.out.2.2.2]; omega, fun h => by have := hz h; have := E.out.2.2.2; simpa using (show zs.length = 0 by omega), ⟨xs, by rw [← HO.out]; exact PM.out.1, fun h => ⟨.inl (by have := PM.out.2.1; have := PM.out.2.2 h; have := E.out.2.2.2; omega), by have := PM.out.2.1; have := PM.out.2.2 h; have := E.out.2.2.2; omega⟩⟩, E.out.2.1, E.out.2.2.1⟩

theorem l02Deal_any (g : Nat) (n : Int) (A : Option Addr) (c : Nat) (wo : List Int) (len : Nat) (w : World) (hlen : len = wo.length) (hn : n ≤ 100000) (h : Src w g) (hr : RowI w A wo) (hl : wo.length ≤ 1048576) :
    Calls Try.prog 54 #[.pointer (some ⟨g, 0, none⟩), .int .i64 n, .slice A len c] w
      fun e w' => ∃ ys A' c', e = .returned (.slice A' ys.length c') ∧ OwnT w' w.heap.size A' c' ys ∧ ys.length ≤ 52 ∧ (n ≤ 0 → ys.length = 0) ∧ Src w' g ∧ Kept g w w' :=
  (l02DealP_any g n A c wo len w hlen hn h hr hl).mono fun _ _ ⟨ys, A', c', h1, h2, h3, h4, _, h5⟩ => ⟨ys, A', c', h1, h2, h3, h4, h5⟩
end Go.Proofs.Ytmmpeaedglnjlaa
