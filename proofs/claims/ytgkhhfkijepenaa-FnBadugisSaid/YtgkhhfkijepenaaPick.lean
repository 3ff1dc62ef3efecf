/-
  spec.l02Pick: a list in another order, drawn.
-/
import Derived.Test.YtgkhhfkijepenaaDrawDeal
namespace Go.Proofs.Ytgkhhfkijepenaa
open Go.RowKit

theorem pick_perm {xs zs : List Int} {k m : Nat} (hk : k < xs.length) (h : zs.Perm (xs.take k)) : (zs.take m ++ [xs.getD k 0] ++ zs.drop m).Perm (xs.take (k + 1)) := by
  rw [take_snoc hk]
  have h1 : (zs.take m ++ [xs.getD k 0] ++ zs.drop m).Perm (xs.getD k 0 :: (zs.take m ++ zs.drop m)) := by
    rw [List.append_assoc]
    exact List.perm_middle
  rw [List.take_append_drop] at h1
  refine h1.trans ?_
  have h2 : (xs.take k ++ [xs.getD k 0]).Perm (xs.getD k 0 :: xs.take k) := by
    have := List.perm_middle (a := xs.getD k 0) (l₁ := xs.take k) (l₂ := [])
    rwa [List.append_nil] at this
  exact (List.Perm.cons _ h).trans h2.symm
/-- The three orders in which the two blocks of a pick can be laid. -/
theorem pk_own (w : World) (u : Value) : Hid (((w.alloc (.cells #[] 2)).drew).ownsRow w.heap.size 2 1 (.slice (some ⟨w.heap.size, 0, none⟩) 0 0) 0 []) ∧
    Hid ((((w.alloc (.cells #[] 2)).alloc (.cells #[u] 2)).drew).ownsRow w.heap.size 2 1 (.slice (some ⟨w.heap.size, 0, none⟩) 0 0) 0 []) ∧
    Hid ((((w.alloc (.cells #[u] 2)).alloc (.cells #[] 2)).drew).ownsRow w.heap.size 2 1 (.slice (some ⟨w.heap.size + 1, 0, none⟩) 0 0) 0 []) := by
  refine ⟨(World.ownsRow_made w #[] 0 (Nat.le_refl _) (by decide) rfl).drew, ((World.ownsRow_made w #[] 0 (Nat.le_refl _) (by decide) rfl).alloc _).drew, ?_⟩
  have := (World.ownsRow_made (base := w.heap.size) (e := 2) (size := 1) (w.alloc (.cells #[u] 2)) #[] 0 (by simp) (by decide) rfl).drew
  rw [World.size_alloc] at this
  exact this
theorem pk_rd {w : World} {A : Option Addr} {ys : List Int} {n : Nat} (u : Value) (h : RowI w A ys) (hn : ys.length = n) :
    Hid (Reads ((w.alloc (.cells #[] 2)).drew) (w.heap.size + 2) 1 A n (ys.map (Value.int .i64))) ∧
    Hid (Reads (((w.alloc (.cells #[] 2)).alloc (.cells #[u] 2)).drew) (w.heap.size + 2) 1 A n (ys.map (Value.int .i64))) ∧
    Hid (Reads (((w.alloc (.cells #[u] 2)).alloc (.cells #[] 2)).drew) (w.heap.size + 2) 1 A n (ys.map (Value.int .i64))) := by
  subst hn
  refine ⟨((h.below ((Below.refl _ _).alloc (Nat.le_refl _) _)).reads.more (by simp)).drew, ((h.below (((Below.refl _ _).alloc (Nat.le_refl _) _).alloc (by simp) _)).reads.more (by simp)).drew, ((h.below (((Below.refl _ _).alloc (Nat.le_refl _) _).alloc (by simp) _)).reads.more (by simp)).drew⟩
theorem pk_one {w : World} {b : Nat} {u : Value} (h : w.cell? ⟨b, 0, none⟩ = some u) : Reads w w.heap.size 1 (some ⟨b, 0, none⟩) 1 [u] := by
  refine ⟨rfl, fun _ => ⟨_, rfl, World.block_lt_of_cell? w _ h, fun j v hv => ?_⟩⟩
  have hj : j = 0 := by
    have := (List.getElem?_eq_some_iff.1 hv).1
    simp at this; omega
  subst hj
  simp at hv; subst hv
  rw [Go.WideShapes.add_plain]
  exact h
theorem pk_new (w : World) (u : Value) : (w.alloc (.cells #[u] 2)).cell? ⟨w.heap.size, 0, none⟩ = some u :=
  (World.rowIs_alloc w #[u] 2 (fun _ => u) (fun i hi => by
    have : i = 0 := by simp at hi; omega
    subst this; rfl)).cell (i := 0) (by simp)
theorem pk_g2 {w w' : World} {u : Value} (hg : (((w.alloc (.cells #[] 2)).alloc (.cells #[u] 2)).drew).grownBy w' (Value.ownBlock (.slice (some ⟨w.heap.size, 0, none⟩) 0 0))) : Below w.heap.size w w' ∧ Reads w' w'.heap.size 1 (some ⟨w.heap.size + 1, 0, none⟩) 1 [u] := by
  refine ⟨(((Below.refl w.heap.size w).alloc (Nat.le_refl _) _).alloc (by simp) _).drew.grown hg (by simp; omega) (fun j e => by simp [Value.ownBlock] at e; omega), pk_one ?_⟩
  refine (hg.cell_far ⟨w.heap.size + 1, 0, none⟩ (by simp) (by simp [Value.ownBlock])).trans ?_
  have := pk_new (w.alloc (.cells #[] 2)) u
  rw [World.size_alloc] at this
  exact this
theorem pk_g3 {w w' : World} {u : Value} (hg : (((w.alloc (.cells #[u] 2)).alloc (.cells #[] 2)).drew).grownBy w' (Value.ownBlock (.slice (some ⟨w.heap.size + 1, 0, none⟩) 0 0))) : Below w.heap.size w w' ∧ Reads w' w'.heap.size 1 (some ⟨w.heap.size, 0, none⟩) 1 [u] := by
  refine ⟨(((Below.refl w.heap.size w).alloc (Nat.le_refl _) _).alloc (by simp) _).drew.grown hg (by simp; omega) (fun j e => by simp [Value.ownBlock] at e; omega), pk_one ?_⟩
  refine (hg.cell_far ⟨w.heap.size, 0, none⟩ (by simp; omega) (by simp [Value.ownBlock])).trans ?_
  have := (((Below.refl (w.heap.size + 1) (w.alloc (.cells #[u] 2))).alloc (by simp) (.cells #[] 2)).drew).cell (p := ⟨w.heap.size, 0, none⟩) (by simp)
  exact this.trans (pk_new w u)
theorem pk_sz {a : Nat} {w : World} (h : a ≤ w.heap.size) (o : Obj) : a ≤ (w.alloc o).heap.size := by rw [World.size_alloc]; omega
theorem pk_tail {w : World} {A : Option Addr} {zs : List Int} {k m : Nat} (hl : zs.length = k) (h : RowI w A (zs.drop m)) : Reads w w.heap.size 1 A (k - m) ((zs.drop m).map (Value.int .i64)) := by
  have := h.reads
  rwa [List.length_drop, hl] at this
/-- The list that grows while it is picked. -/
def Picks (lo g : Nat) (w wr : World) (v : Value) (k : Nat) (zs xs : List Int) : Prop :=
  (∃ A c, v = .slice A k c ∧ OwnT wr lo A c zs) ∧ zs.length = k ∧ zs.Perm (xs.take k) ∧ Src wr g ∧ Kept g w wr ∧ lo ≤ wr.heap.size

theorem pick_some {w : World} {lo k m : Nat} {A : Option Addr} {c : Nat} {zs : List Int} (h : OwnT w lo A c zs) (hk : k ≤ c) (hm : m ≤ k) (hc : ¬ c = m) : ∃ q, A = some ⟨q, 0, none⟩ := by
  rcases h with ⟨_, h, _⟩ | ⟨q, f, h, _⟩
  · omega
  · exact ⟨q, h⟩
theorem pick_round {lo g k m : Nat} {w w2 w6 : World} {v6 : Value} {u : Int} {zs xs : List Int} (hs : Src w2 g) (hk : Kept g w w2) (hsz : lo ≤ w2.heap.size) (hp : zs.Perm (xs.take k)) (hl : zs.length = k) (hm : m ≤ k) (hkx : k < xs.length) (hu : u = xs.getD k 0)
    (hb : Below w2.heap.size w2 w6) (ho : w6.ownsRow w2.heap.size 2 1 v6 (0 + m + 1 + (k - m)) ([] ++ (zs.take m).map (Value.int .i64) ++ [.int .i64 u] ++ (zs.drop m).map (Value.int .i64))) :
    Picks lo g w w6 v6 (k + 1) (zs.take m ++ [u] ++ zs.drop m) xs := by
  have hln : (zs.take m ++ [u] ++ zs.drop m).length = k + 1 := by simp; omega
  have e1 : 0 + m + 1 + (k - m) = (zs.take m ++ [u] ++ zs.drop m).length := by rw [hln]; omega
  obtain ⟨A6, c6, hv, ho6⟩ := ownT_of_owns (xs := zs.take m ++ [u] ++ zs.drop m) (v := v6) (by rw [← e1]; simpa using ho)
  refine ⟨⟨A6, c6, by rw [hv, hln], ho6.mono hsz⟩, hln, ?_, hs.below' hb, hk.trans (Kept.of_below hb), Nat.le_trans hsz hb.size⟩
  rw [hu]
  exact pick_perm hkx hp

set_option maxHeartbeats 4000000 in
set_option maxRecDepth 8000 in
theorem l02Pick_any (g : Nat) (A : Option Addr) (c : Nat) (xs : List Int) (len : Nat) (w : World) (hlen : len = xs.length) (h : Src w g) (hr : RowI w A xs) (hne : ∀ b, A.map (·.block) = some b → b ≠ g) (hl : xs.length ≤ 256) :
    Calls Try.prog 48 #[.pointer (some ⟨g, 0, none⟩), .slice A len c] w
      fun e w' => ∃ ys A' c', e = .returned (.slice A' ys.length c') ∧ OwnT w' w.heap.size A' c' ys ∧ ys.Perm xs ∧ Src w' g ∧ Kept g w w' := by
  subst hlen
  have HS := Lib.hid h
  have HR := Lib.hid hr
  have HNE := Lib.hid hne
  have GL : Hid (g < w.heap.size) := h.lt
  obtain ⟨i0, hi, hz0, hz1, hz2⟩ := info_parts int_info
  have HI := Lib.hid (And.intro hi (And.intro hz0 (And.intro hz1 hz2)))
  obtain ⟨n, hn⟩ : ∃ n, n = xs.length := ⟨_, rfl⟩
  rw [← hn] at hl ⊢
  have HN := Lib.hid hn
  have ST : Hid (Picks w.heap.size g w (w.alloc (.cells #[] 2)) (.slice (some ⟨w.heap.size, 0, none⟩) 0 0) 0 [] xs) := by
    refine ⟨⟨_, _, rfl, .inr ⟨w.heap.size, fun _ => undef, rfl, Nat.le_refl _, by simp, by simp, by simp [maxLen], World.rowIs_alloc w #[] _ _ (fun i hi => absurd hi (by simp)), fun j hj => absurd hj (by simp)⟩⟩, rfl, by rw [List.take_zero], h.below' ((Below.refl _ _).alloc (Nat.le_refl _) _), (Kept.refl _ _).alloc _, by simp⟩
  clear h hr hne hi hz0 hz1 hz2 hn
  go_enter Try.func48, Try.ntmps48
  go_wp2
  go_loopw [5, 6, 7] (fun v i _ wr => ∃ (k : Nat) (zs : List Int), i = .int .i64 k ∧ k ≤ n ∧ Hid (Picks w.heap.size g w wr v k zs xs))
    (fun _ i _ _ => n - (intOf i).toNat)
  case atStart => exact ⟨0, [], rfl, Nat.zero_le _, ST.out⟩
  case round =>
    obtain ⟨k, zs, rfl, hk, PK⟩ := hrel
    clear ST
    by_cases hkn : k < n
    · obtain ⟨⟨A', c', rfl, hT⟩, hzl, hperm, hsrc, hkept, hsz⟩ := PK.out
      have hkc : k ≤ c' := by have := hT.own.cap.1; omega
      have hcm := hT.own.cap.2
      obtain ⟨b, off, rfl, hb, hcell⟩ := HR.out.at_ (k := k) (by rw [← HN.out]; exact hkn)
      have hbg : b ≠ g := HNE.out b rfl
      have OT := Lib.hid hT
      have ZL := Lib.hid hzl
      have PM := Lib.hid hperm
      have SR := Lib.hid hsrc
      have KP := Lib.hid (And.intro hkept hsz)
      have HC := Lib.hid (And.intro hb (And.intro hcell hbg))
      have CM := Lib.hid hcm
      clear PK hT hzl hperm hsrc hkept hsz hb hcell hbg hcm
      go_wp2_with fail
      refine (l01Next_any g ((k : Int) + 1) _ SR.out).mono ?_
      rintro e w2 ⟨x, rfl, x0, x1, hs2, hk2, hz2⟩
      obtain ⟨m, rfl⟩ := Int.eq_ofNat_of_zero_le x0
      have hmk : m ≤ k := by omega
      have S2 := Lib.hid hs2
      have K2 := Lib.hid (And.intro (KP.out.1.trans hk2) (Nat.le_trans KP.out.2 hk2.size))
      have O2 := Lib.hid (OT.out.keptG hk2 GL.out)
      obtain ⟨u, hu⟩ : ∃ u, u = xs.getD k 0 := ⟨_, rfl⟩
      have hcb : w2.cell? ⟨b, off + k, none⟩ = some (.int .i64 u) := by
        rw [hu]
        exact (K2.out.1.cell (p := ⟨b, off + k, none⟩) HC.out.1 HC.out.2.2).trans HC.out.2.1
      have hb2 : b < w2.heap.size := Nat.lt_of_lt_of_le HC.out.1 (K2.out.1.size)
      have HU := Lib.hid hu
      have R2 := Lib.hid O2.out.own.row
      have RF := Lib.hid (R2.out.first m)
      have hcut := R2.out.cut (k := m) (cap := c') (by rw [ZL.out]; exact hmk) (by rw [ZL.out]; exact hkc)
      have m1 : m ≤ c' := by omega
      have m2 : (m : Int) ≤ (k : Int) := by omega
      have m3 : (m : Int) ≤ (c' : Int) := by omega
      have BD0 : Hid (0 + m ≤ maxLen ∧ (0 + m) * 8 ≤ 140737488355328 ∧ 0 + m + 1 ≤ maxLen ∧ (0 + m + 1) * 8 ≤ 140737488355328 ∧ 0 + m + 1 + (k - m) ≤ maxLen ∧ (0 + m + 1 + (k - m)) * 8 ≤ 140737488355328) := by
        show _ ∧ _ ∧ _ ∧ _ ∧ _ ∧ _
        simp only [maxLen]; omega
      have OWS := Lib.hid (pk_own w2 (.int .i64 u))
      have RDS := Lib.hid (pk_rd (.int .i64 u) RF.out (n := m) (by rw [List.length_take, ZL.out]; omega))
      have BS1 : Hid (w2.heap.size ≤ ((w2.alloc (.cells #[] 2)).drew).heap.size) := by show _ ≤ _; simp
      have BS2 : Hid (w2.heap.size ≤ (((w2.alloc (.cells #[] 2)).alloc (.cells #[.int .i64 u] 2)).drew).heap.size) := by show _ ≤ _; simp; omega
      have BS3 : Hid (w2.heap.size ≤ (((w2.alloc (.cells #[.int .i64 u] 2)).alloc (.cells #[] 2)).drew).heap.size) := by show _ ≤ _; simp; omega
      clear hs2 hk2 hz2 hu x1
      by_cases hc : c' = m
      all_goals
        first
        | have TL := Lib.hid (show RowI w2 A' (zs.drop m) by rwa [if_pos hc] at hcut)
        | (obtain ⟨q, rfl⟩ : ∃ q, A' = some ⟨q, 0, none⟩ := pick_some OT.out hkc hmk hc
           have TL := Lib.hid (show RowI w2 (some ⟨q, m, none⟩) (zs.drop m) by rw [if_neg hc] at hcut; simpa [Go.WideShapes.add_plain] using hcut))
        clear hcut
        go_wp2
        go_region_law (first
          | ((refine step_append_any _ rfl (.tmp 20) (.tmp 23) 24 rfl w2.heap.size 2 i0 (.int .i64 0) 1 8 Try.underlying24 HI.out.1 HI.out.2.1 HI.out.2.2.1 HI.out.2.2.2 rfl (by decide) _ 0 [] rfl OWS.out.1.out (w2.heap.size + 2) _ m _ ((zs.take m).map (Value.int .i64)) rfl RDS.out.1.out (ints_one _) BD0.out.1 BD0.out.2.1 BS1.out ?_); intro v4 w4 hown4 hg4 hat4; have O4 := Lib.hid hown4; have G4 := Lib.hid (deal_g4 hg4); have V4 := Lib.hid (show ∀ j, v4.ownBlock = some j → w2.heap.size ≤ j from fun j e => (hown4.lt j e).1); have Z4 := Lib.hid (show w2.heap.size ≤ w4.heap.size from G4.out.size); have C4 := (G4.out.cell (p := ⟨b, off + k, none⟩) hb2).trans hcb; have hb4 := Nat.lt_of_lt_of_le hb2 G4.out.size; clear hown4 hg4 hat4)
          | ((refine step_append_any _ rfl (.tmp 20) (.tmp 23) 24 rfl w2.heap.size 2 i0 (.int .i64 0) 1 8 Try.underlying24 HI.out.1 HI.out.2.1 HI.out.2.2.1 HI.out.2.2.2 rfl (by decide) _ 0 [] rfl OWS.out.2.1.out (w2.heap.size + 2) _ m _ ((zs.take m).map (Value.int .i64)) rfl RDS.out.2.1.out (ints_one _) BD0.out.1 BD0.out.2.1 BS2.out ?_); intro v4 w4 hown4 hg4 hat4; have O4 := Lib.hid hown4; have P4 := Lib.hid (pk_g2 hg4); have G4 := Lib.hid P4.out.1; have X4 := Lib.hid P4.out.2; have V4 := Lib.hid (show ∀ j, v4.ownBlock = some j → w2.heap.size ≤ j from fun j e => (hown4.lt j e).1); have Z4 := Lib.hid (show w2.heap.size ≤ w4.heap.size from G4.out.size); have C4 := (G4.out.cell (p := ⟨b, off + k, none⟩) hb2).trans hcb; have hb4 := Nat.lt_of_lt_of_le hb2 G4.out.size; clear hown4 hg4 hat4)
          | ((refine step_append_any _ rfl (.tmp 20) (.tmp 23) 24 rfl w2.heap.size 2 i0 (.int .i64 0) 1 8 Try.underlying24 HI.out.1 HI.out.2.1 HI.out.2.2.1 HI.out.2.2.2 rfl (by decide) _ 0 [] rfl OWS.out.2.2.out (w2.heap.size + 2) _ m _ ((zs.take m).map (Value.int .i64)) rfl RDS.out.2.2.out (ints_one _) BD0.out.1 BD0.out.2.1 BS3.out ?_); intro v4 w4 hown4 hg4 hat4; have O4 := Lib.hid hown4; have P4 := Lib.hid (pk_g3 hg4); have G4 := Lib.hid P4.out.1; have X4 := Lib.hid P4.out.2; have V4 := Lib.hid (show ∀ j, v4.ownBlock = some j → w2.heap.size ≤ j from fun j e => (hown4.lt j e).1); have Z4 := Lib.hid (show w2.heap.size ≤ w4.heap.size from G4.out.size); have C4 := (G4.out.cell (p := ⟨b, off + k, none⟩) hb2).trans hcb; have hb4 := Nat.lt_of_lt_of_le hb2 G4.out.size; clear hown4 hg4 hat4)
          | ((refine step_append_any _ rfl (.tmp 24) (.tmp 29) 24 rfl w2.heap.size 2 i0 (.int .i64 0) 1 8 Try.underlying24 HI.out.1 HI.out.2.1 HI.out.2.2.1 HI.out.2.2.2 rfl (by decide) _ (0 + m) _ rfl (O4.out.alloc _) _ (some ⟨w4.heap.size, 0, none⟩) 1 _ [.int .i64 u] rfl (pk_one (pk_new _ _)) (ints_one [u]) BD0.out.2.2.1 BD0.out.2.2.2.1 (pk_sz Z4.out _) ?_); intro v5 w5 hown5 hg5 hat5; have O5 := Lib.hid hown5; have G5 := Lib.hid ((G4.out.alloc Z4.out _).grown hg5 (pk_sz Z4.out _) (fun j e => V4.out j e)); have V5 := Lib.hid (show ∀ j, v5.ownBlock = some j → w2.heap.size ≤ j from fun j e => (hown5.lt j e).1); have Z5 := Lib.hid (show w2.heap.size ≤ w5.heap.size from G5.out.size); have T5 := Lib.hid (pk_tail ZL.out (TL.out.below G5.out)); clear hown5 hg5 hat5)
          | ((refine step_append_any _ rfl (.tmp 24) (.tmp 29) 24 rfl w2.heap.size 2 i0 (.int .i64 0) 1 8 Try.underlying24 HI.out.1 HI.out.2.1 HI.out.2.2.1 HI.out.2.2.2 rfl (by decide) _ (0 + m) _ rfl O4.out _ (some ⟨w2.heap.size + 1, 0, none⟩) 1 _ [.int .i64 u] rfl X4.out (ints_one [u]) BD0.out.2.2.1 BD0.out.2.2.2.1 Z4.out ?_); intro v5 w5 hown5 hg5 hat5; have O5 := Lib.hid hown5; have G5 := Lib.hid (G4.out.grown hg5 Z4.out (fun j e => V4.out j e)); have V5 := Lib.hid (show ∀ j, v5.ownBlock = some j → w2.heap.size ≤ j from fun j e => (hown5.lt j e).1); have Z5 := Lib.hid (show w2.heap.size ≤ w5.heap.size from G5.out.size); have T5 := Lib.hid (pk_tail ZL.out (TL.out.below G5.out)); clear hown5 hg5 hat5)
          | ((refine step_append_any _ rfl (.tmp 24) (.tmp 29) 24 rfl w2.heap.size 2 i0 (.int .i64 0) 1 8 Try.underlying24 HI.out.1 HI.out.2.1 HI.out.2.2.1 HI.out.2.2.2 rfl (by decide) _ (0 + m) _ rfl O4.out _ (some ⟨w2.heap.size, 0, none⟩) 1 _ [.int .i64 u] rfl X4.out (ints_one [u]) BD0.out.2.2.1 BD0.out.2.2.2.1 Z4.out ?_); intro v5 w5 hown5 hg5 hat5; have O5 := Lib.hid hown5; have G5 := Lib.hid (G4.out.grown hg5 Z4.out (fun j e => V4.out j e)); have V5 := Lib.hid (show ∀ j, v5.ownBlock = some j → w2.heap.size ≤ j from fun j e => (hown5.lt j e).1); have Z5 := Lib.hid (show w2.heap.size ≤ w5.heap.size from G5.out.size); have T5 := Lib.hid (pk_tail ZL.out (TL.out.below G5.out)); clear hown5 hg5 hat5)
          | ((refine step_append_any _ rfl (.tmp 30) (.tmp 33) 24 rfl w2.heap.size 2 i0 (.int .i64 0) 1 8 Try.underlying24 HI.out.1 HI.out.2.1 HI.out.2.2.1 HI.out.2.2.2 rfl (by decide) _ (0 + m + 1) _ rfl O5.out _ _ (k - m) _ ((zs.drop m).map (Value.int .i64)) rfl T5.out (ints_one _) BD0.out.2.2.2.2.1 BD0.out.2.2.2.2.2 Z5.out ?_); intro v6 w6 hown6 hg6 hat6; have O6 := Lib.hid hown6; have G6 := Lib.hid (G5.out.grown hg6 Z5.out (fun j e => V5.out j e)); clear hown6 hg6 hat6))
        all_goals
          have RD := Lib.hid (pick_round S2.out K2.out.1 K2.out.2 PM.out ZL.out hmk (by rw [← HN.out]; exact hkn) HU.out G6.out O6.out)
          clear C4 hb4 hcb
          go_wp2
          go_roundw
          case rel => exact ⟨k + 1, _, by go_num, by omega, RD.out⟩
          case measure => simp [intOf]; omega
    · have hkn' : k = n := by omega
      obtain ⟨⟨A', c', rfl, hT⟩, hzl, hperm, hsrc, hkept, hsz⟩ := PK.out
      rw [hkn', HN.out, List.take_length] at hperm
      have FIN : Hid (∃ ys A'' c'', Ending.returned (Value.slice A' k c') = .returned (.slice A'' ys.length c'') ∧ OwnT wr w.heap.size A'' c'' ys ∧ ys.Perm xs ∧ Src wr g ∧ Kept g w wr) := ⟨zs, A', c', by rw [hzl], hT, hperm, hsrc, hkept⟩
      clear hT hzl hperm hsrc hkept hsz PK hkn'
      go_wp2
      go_ret
      exact FIN.out
end Go.Proofs.Ytgkhhfkijepenaa
