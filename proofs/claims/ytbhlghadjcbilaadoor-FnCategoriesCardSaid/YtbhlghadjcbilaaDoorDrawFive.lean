/-
  spec.l04DrawFive: five cards, drawn.
-/
import Derived.Test.YtbhlghadjcbilaaDoorPick
import Derived.Test.YtbhlghadjcbilaaDoorMathDraw
namespace Go.Proofs.YtbhlghadjcbilaaDoor
open Go.RowKit

/-- The list that is put together. -/
def Fv (lo g : Nat) (w wr : World) (v : Value) (k : Nat) (zs : List Int) : Prop :=
  (∃ A c, v = .slice A k c ∧ OwnT wr lo A c zs) ∧ zs.length = k ∧ Src wr g ∧ Kept g w wr ∧ lo ≤ wr.heap.size
theorem ownT_new (w : World) (cs : Array Value) (ys : List Int) (h : cs = (ys.map (Value.int .i64)).toArray) (n : Nat) (hn : ys.length = n) (hm : n ≤ maxLen) : OwnT (w.alloc (.cells cs 2)) w.heap.size (some ⟨w.heap.size, 0, none⟩) n ys := by
  subst h hn
  refine .inr ⟨w.heap.size, fun j => .int .i64 (ys.getD j 0), rfl, Nat.le_refl _, by simp, Nat.le_refl _, hm, ?_, fun k hk => rfl⟩
  have := World.rowIs_alloc w (ys.map (Value.int .i64)).toArray 2 (fun j => .int .i64 (ys.getD j 0)) (fun i hi => by
    have hi' : i < ys.length := by simpa using hi
    simp [List.getD_eq_getElem?_getD, hi'])
  rwa [show (ys.map (Value.int .i64)).toArray.size = ys.length by simp] at this
theorem fv_new {lo g : Nat} {w wr : World} (cs : Array Value) (ys : List Int) (h : cs = (ys.map (Value.int .i64)).toArray) (n : Nat) (hn : ys.length = n) (hm : n ≤ maxLen) (hs : Src wr g) (hk : Kept g w wr) (hl : lo ≤ wr.heap.size) :
    Fv lo g w (wr.alloc (.cells cs 2)) (.slice (some ⟨wr.heap.size, 0, none⟩) n n) n ys :=
  ⟨⟨_, _, rfl, (ownT_new wr cs ys h n hn hm).mono hl⟩, hn, hs.below' ((Below.refl _ _).alloc (Nat.le_refl _) _), hk.alloc _, by rw [World.size_alloc]; omega⟩
theorem ownT_row {w : World} {lo : Nat} {A : Option Addr} {c : Nat} {xs : List Int} (h : OwnT w lo A c xs) (k : Nat) : ∀ j, (Value.slice A k c).ownBlock = some j → lo ≤ j := by
  intro j e
  cases A with
  | none => cases e
  | some a => exact (h.own.lo_block j (by simpa [Value.ownBlock] using e)).1
theorem fv_snoc {lo g k q cap : Nat} {w w2 w3 : World} {o : Obj} {v : Value} {zs : List Int} {x : Int} (h : Fv lo g w w2 v k zs) (hlo : w.heap.size ≤ lo) (hg : g < lo) (ho : w3.ownsRow lo 2 1 (.slice (some ⟨q, 0, none⟩) (k + 1) cap) (k + 1) (zs.map (Value.int .i64) ++ [.int .i64 x]))
    (hw : (w2.alloc o).grownBy w3 v.ownBlock) : Fv lo g w w3 (.slice (some ⟨q, 0, none⟩) (k + 1) cap) (k + 1) (zs ++ [x]) := by
  obtain ⟨⟨A, c, rfl, hT⟩, hl, hs, hk, hsz⟩ := h
  have hln : (zs ++ [x]).length = k + 1 := by simp [hl]
  obtain ⟨A', c', hv, hT'⟩ := ownT_of_owns (xs := zs ++ [x]) (v := .slice (some ⟨q, 0, none⟩) (k + 1) cap) (by rw [hln]; simpa using ho)
  have hrow := ownT_row hT k
  refine ⟨⟨A', c', by rw [hv, hln], hT'⟩, hln, ?_, (hk.alloc o).grown hw (fun j e => Nat.le_trans hlo (hrow j e)), ?_⟩
  · exact hs.below (((Below.refl lo w2).alloc hsz o).grown hw (by rw [World.size_alloc]; omega) hrow) hg
  · have := hw.size; rw [World.size_alloc] at this; omega
theorem Fv.owns {lo g k : Nat} {w wr : World} {v : Value} {zs : List Int} (h : Fv lo g w wr v k zs) : wr.ownsRow lo 2 1 v k (zs.map (Value.int .i64)) := by
  obtain ⟨⟨A, c, rfl, hT⟩, hl, _⟩ := h
  subst hl
  exact hT.owns
/-- Five cards that were drawn. -/
def Fives (g m : Nat) (w : World) (e : Ending) (w' : World) : Prop :=
  ∃ ys A c, e = .returned (.slice A ys.length c) ∧ OwnT w' w.heap.size A c ys ∧ okC ys ∧ ys.length = m ∧ Src w' g ∧ Kept g w w'
/-- Cards behind which others are dealt. -/
theorem fv_deal {lo g ln n : Nat} {w w2 w3 w4 : World} {v v4 : Value} {zs ys rest : List Int} (h : Fv lo g w w2 v ln zs) (hg : g < lo) (hok : okC zs) (hn : ln + n ≤ 52)
    (hp : (ys ++ rest).Perm (othK zs 52)) (hq : ((ys.length : Int) = n ∨ rest = []) ∧ (ys.length : Int) ≤ n) (hs : Src w3 g) (hk : Kept g w2 w3)
    (ho : w4.ownsRow lo 2 1 v4 (ln + ys.length) (zs.map (Value.int .i64) ++ ys.map (Value.int .i64))) (hw : w3.grownBy w4 v.ownBlock) (hlo : w.heap.size ≤ lo) :
    (∃ A c, v4 = .slice A (zs ++ ys).length c ∧ OwnT w4 lo A c (zs ++ ys)) ∧ okC (zs ++ ys) ∧ (zs ++ ys).length = ln + n ∧ Src w4 g ∧ Kept g w w4 ∧ lo ≤ w4.heap.size := by
  obtain ⟨⟨A, c, rfl, hT⟩, hl, hs2, hk2, hsz⟩ := h
  subst hl
  obtain ⟨h1, h2⟩ := deal_ok hok hp hq.1 hq.2 hn
  have e : zs.length + ys.length = (zs ++ ys).length := by simp
  obtain ⟨A', c', hv, hT'⟩ := ownT_of_owns (xs := zs ++ ys) (v := v4) (by rw [← e]; simpa using ho)
  have hrow := ownT_row hT zs.length
  have hsz3 : lo ≤ w3.heap.size := Nat.le_trans hsz hk.size
  refine ⟨⟨A', c', hv, hT'⟩, h1, by rw [← e, h2], ?_, (hk2.trans hk).grown hw (fun j e => Nat.le_trans hlo (hrow j e)), Nat.le_trans hsz3 hw.size⟩
  exact hs.below ((Below.refl lo w3).grown hw hsz3 hrow) hg
theorem fives_pick {lo g m : Nat} {w w4 w5 : World} {A' : Option Addr} {c' : Nat} {zs ys : List Int} (hok : okC zs) (hl : zs.length = m) (hk : Kept g w w4) (hlo : w.heap.size ≤ lo) (hsz : lo ≤ w4.heap.size)
    (ho : OwnT w5 w4.heap.size A' c' ys) (hp : ys.Perm zs) (hs : Src w5 g) (hk5 : Kept g w4 w5) : Fives g m w (.returned (.slice A' ys.length c')) w5 :=
  ⟨ys, A', c', rfl, ho.mono (by omega), okC_perm hp.symm hok, by rw [hp.length_eq, hl], hs, hk.trans hk5⟩
theorem ownT_ne {w : World} {lo g : Nat} {A : Option Addr} {c : Nat} {xs : List Int} (h : OwnT w lo A c xs) (hg : g < lo) : ∀ b, A.map (·.block) = some b → b ≠ g := fun b hb e => by
  have := (h.own.lo_block b hb).1; omega

theorem Fv.lit {lo g k c : Nat} {w wr : World} {A : Option Addr} {zs : List Int} (h : Fv lo g w wr (.slice A k c) k zs) : OwnT wr lo A c zs := by
  obtain ⟨⟨A', c', hv, hT⟩, _⟩ := h
  simp only [Value.slice.injEq, true_and] at hv
  obtain ⟨rfl, rfl⟩ := hv
  exact hT
theorem Fv.next {lo g k : Nat} {w wr w' : World} {v : Value} {zs : List Int} (h : Fv lo g w wr v k zs) (hg : g < lo) (hs : Src w' g) (hk : Kept g wr w') : Fv lo g w w' v k zs := by
  obtain ⟨⟨A, c, rfl, hT⟩, hl, _, hk2, hsz⟩ := h
  exact ⟨⟨A, c, rfl, hT.keptG hk hg⟩, hl, hs, hk2.trans hk, Nat.le_trans hsz hk.size⟩

set_option maxHeartbeats 8000000 in
set_option maxRecDepth 100000 in
theorem l04DrawFive_any (g : Nat) (w : World) (h : Src w g) : Calls Tryd.prog 20 #[.pointer (some ⟨g, 0, none⟩)] w (Fives g 5 w) := by
  have HS := Lib.hid h
  have GL : Hid (g < w.heap.size) := h.lt
  obtain ⟨i0, hi, hz0, hz1, hz2⟩ := info_parts int_info
  have HI := Lib.hid (And.intro hi (And.intro hz0 (And.intro hz1 hz2)))
  clear h hi hz0 hz1 hz2
  go_enter Tryd.func20, Tryd.ntmps20
  go_wp2_with fail
  refine (l01Next_any g 13 _ HS.out).mono ?_
  rintro e w1 ⟨r, rfl, r0, r1, hs, hk, hz⟩
  have S1 := Lib.hid hs
  have K1 := Lib.hid hk
  clear hs hk hz
  go_wp2_with fail
  refine (l01Next_any g 4 _ S1.out).mono ?_
  rintro e w2 ⟨s, rfl, s0, s1, hs, hk, hz⟩
  have S2 := Lib.hid hs
  have K2 := Lib.hid (K1.out.trans hk)
  clear hs hk hz
  go_wp2_with fail
  refine (l01Next_any g 12 _ S2.out).mono ?_
  rintro e w3 ⟨o, rfl, o0, o1, hs, hk, hz⟩
  have S3 := Lib.hid hs
  have K3 := Lib.hid (K2.out.trans hk)
  have F3 := Lib.hid (fv_new (lo := w.heap.size) (g := g) #[] [] rfl 0 rfl (by simp [maxLen]) S3.out K3.out K3.out.size)
  have r12 : r < 13 := by omega
  have s3 : s < 4 := by omega
  have o11 : o < 12 := by omega
  clear hs hk hz r1 s1 o1
  go_wp2_with fail
  refine (l01Next_any g 8 _ F3.out.2.2.1).mono ?_
  rintro e w4 ⟨x, rfl, x0, x1, hs, hk, hz⟩
  have F4 := Lib.hid (F3.out.next GL.out hs hk)
  have x7 : x < 8 := by omega
  obtain ⟨t, ht⟩ : ∃ t, t = (r + 1 + o) % 13 := ⟨_, rfl⟩
  have t0 : 0 ≤ t := by omega
  have t12 : t < 13 := by omega
  have hrt : r ≠ t := by omega
  have HRT := Lib.hid hrt
  rw [← ht]
  have hx : x = 0 ∨ x = 1 ∨ x = 2 ∨ x = 3 ∨ x = 4 ∨ x = 5 ∨ x = 6 ∨ x = 7 := by omega
  clear hs hk hz x1 x0 x7 ht hrt
  rcases hx with rfl | rfl | rfl | rfl | rfl | rfl | rfl | rfl
  · go_wp2
    go_loopw [6, 7] (fun v i wr => ∃ (k : Nat) (zs : List Int), i = .int .i64 k ∧ k ≤ 5 ∧ Hid (Fv w.heap.size g w wr v k zs) ∧ Hid (ruleC (fun (j : Nat) => (r + (j : Int)) % 13) zs k))
      (fun _ i _ => 5 - (intOf i).toNat)
    case atStart => exact ⟨0, [], rfl, by omega, F4.out, ruleC_nil _⟩
    case round =>
      obtain ⟨k, zs, rfl, hk5, FV, RC⟩ := hrel
      clear F4
      by_cases hk : k < 5
      · have k1 : (k : Int) < 5 := by omega
        have GG : Hid ((0 ≤ (r + (k : Int)) % 13 ∧ (r + (k : Int)) % 13 < 13) ∧ ∀ j, j < k → (r + (j : Int)) % 13 ≠ (r + (k : Int)) % 13) := ⟨by omega, fun j hj => by omega⟩
        obtain ⟨⟨AV, cv, hv, hTV⟩, hvr⟩ := FV.out
        subst hv
        clear hTV hvr
        go_wp2_with fail
        refine (l01Next_any g 4 _ FV.out.2.2.1).mono ?_
        rintro e w5 ⟨y, rfl, y0, y1, hs, hkk, hz⟩
        have F5 := Lib.hid (FV.out.next GL.out hs hkk)
        have y3 : y < 4 := by omega
        clear hs hkk hz y1
        go_wp2_with (at_builtin; refine wpList_append_lies _ rfl (.tmp 29) (.tmp 38) 27 rfl w.heap.size 2 i0 (.int .i64 0) 1 8 Tryd.underlying27 HI.out.1 HI.out.2.1 HI.out.2.2.1 HI.out.2.2.2 rfl (by decide) _ k _ rfl ((F5.out.owns).alloc _) ⟨_, 0, none⟩ 1 1 _ rfl rfl (World.news_of_block (heap_alloc_new _ _)) (by simp [Value.oneCell']) (by decide) (by simp only [maxLen]; omega) (by omega) (by simp; have := F5.out.2.2.2.2; omega) _ rfl ?_; intro q cap w6 hown6 hgrow6 hat6 hlt6; have F6 := Lib.hid (fv_snoc F5.out (Nat.le_refl _) GL.out hown6 hgrow6); clear hown6 hgrow6 hat6 hlt6)
        have RC2 : Hid (ruleC (fun (j : Nat) => (r + (j : Int)) % 13) (zs ++ [4 * ((r + (k : Int)) % 13) + y]) (k + 1)) := RC.out.snoc GG.out.1 GG.out.2 (by omega) (by omega)
        go_wp2
        go_roundw
        case rel => exact ⟨k + 1, _, by go_num, by omega, F6.out, RC2.out⟩
        case measure => simp [intOf]; omega
      · have hk5' : k = 5 := by omega
        subst hk5'
        have OK : Hid (okC zs) := RC.out.1
        clear hk hk5 RC
        obtain ⟨⟨AV, cv, hv, hTV⟩, hvr⟩ := FV.out
        subst hv
        clear hTV hvr
        have TL := Lib.hid FV.out.lit
        have SL := Lib.hid FV.out.2.2.1
        have ZL := Lib.hid FV.out.2.1
        go_wp2_with fail
        refine (l02DealP_any g _ _ _ zs _ _ ZL.out.symm (by omega) SL.out TL.out.own.row (by rw [ZL.out]; omega)).mono ?_
        rintro e w7 ⟨ys, A2, c2, rfl, hO, h52, hdz, ⟨rest, hp, hq⟩, hs7, hk7⟩
        have F7 := Lib.hid (FV.out.next GL.out hs7 hk7)
        have DP := Lib.hid (And.intro hp (And.intro (show ((ys.length : Int) = (0 : Nat) ∨ rest = []) ∧ (ys.length : Int) ≤ (0 : Nat) by have := hq (by omega); simpa using this) (And.intro hs7 hk7)))
        have RD := Lib.hid hO.own.row.reads
        have SZ := Lib.hid (And.intro F7.out.2.2.2.2 h52)
        have HLN : ys.length ≤ 52 := h52
        clear hO h52 hp hq hs7 hk7 hdz
        go_wp2_with (at_builtin; refine wpList_append_any _ rfl (.tmp 163) (.tmp 169) 27 rfl w.heap.size 2 i0 (.int .i64 0) 1 8 Tryd.underlying27 HI.out.1 HI.out.2.1 HI.out.2.2.1 HI.out.2.2.2 rfl (by decide) _ 5 _ rfl F7.out.owns w7.heap.size A2 ys.length c2 (ys.map (Value.int .i64)) rfl RD.out (ints_one ys) (by simp only [maxLen]; omega) (by omega) SZ.out.1 ?_; intro v8 w8 hown8 hg8 hat8; have D8 := Lib.hid (fv_deal (n := 0) FV.out GL.out OK.out (by omega) DP.out.1 DP.out.2.1 DP.out.2.2.1 DP.out.2.2.2 hown8 hg8 (Nat.le_refl _)); clear hown8 hg8 hat8)
        obtain ⟨⟨A8, c8, hv8, hT8⟩, hok8, hl8, hs8, hk8, hz8⟩ := D8.out
        clear D8
        subst hv8
        have T8 := Lib.hid hT8
        have E8 := Lib.hid (And.intro hok8 (And.intro hl8 (And.intro hs8 (And.intro hk8 hz8))))
        clear hT8 hok8 hl8 hs8 hk8 hz8
        go_wp2_with fail
        refine (l02Pick_any g A8 c8 (zs ++ ys) _ _ rfl E8.out.2.2.1 T8.out.own.row (ownT_ne T8.out GL.out) (by rw [E8.out.2.1]; omega)).mono ?_
        rintro e w9 ⟨ps, A9, c9, rfl, hT9, hp9, hs9, hk9⟩
        have FIN : Hid (Fives g 5 w (.returned (.slice A9 ps.length c9)) w9) := fives_pick E8.out.1 E8.out.2.1 E8.out.2.2.2.1 (Nat.le_refl _) E8.out.2.2.2.2 hT9 hp9 hs9 hk9
        clear hT9 hp9 hs9 hk9
        go_wp2
        go_ret
        exact FIN.out
  · go_wp2
    go_loopw [6, 8] (fun v i wr => ∃ (k : Nat) (zs : List Int), i = .int .i64 k ∧ k ≤ 5 ∧ Hid (Fv w.heap.size g w wr v k zs) ∧ Hid (ruleC (fun (j : Nat) => (r + (j : Int)) % 13) zs k))
      (fun _ i _ => 5 - (intOf i).toNat)
    case atStart => exact ⟨0, [], rfl, by omega, F4.out, ruleC_nil _⟩
    case round =>
      obtain ⟨k, zs, rfl, hk5, FV, RC⟩ := hrel
      clear F4
      by_cases hk : k < 5
      · have k1 : (k : Int) < 5 := by omega
        have GG : Hid ((0 ≤ (r + (k : Int)) % 13 ∧ (r + (k : Int)) % 13 < 13) ∧ ∀ j, j < k → (r + (j : Int)) % 13 ≠ (r + (k : Int)) % 13) := ⟨by omega, fun j hj => by omega⟩
        obtain ⟨⟨AV, cv, hv, hTV⟩, hvr⟩ := FV.out
        subst hv
        clear hTV hvr
        go_wp2_with (at_builtin; refine wpList_append_lies _ rfl (.tmp 46) (.tmp 54) 27 rfl w.heap.size 2 i0 (.int .i64 0) 1 8 Tryd.underlying27 HI.out.1 HI.out.2.1 HI.out.2.2.1 HI.out.2.2.2 rfl (by decide) _ k _ rfl ((FV.out.owns).alloc _) ⟨_, 0, none⟩ 1 1 _ rfl rfl (World.news_of_block (heap_alloc_new _ _)) (by simp [Value.oneCell']) (by decide) (by simp only [maxLen]; omega) (by omega) (by simp; have := FV.out.2.2.2.2; omega) _ rfl ?_; intro q cap w6 hown6 hgrow6 hat6 hlt6; have F6 := Lib.hid (fv_snoc FV.out (Nat.le_refl _) GL.out hown6 hgrow6); clear hown6 hgrow6 hat6 hlt6)
        have RC2 : Hid (ruleC (fun (j : Nat) => (r + (j : Int)) % 13) (zs ++ [4 * ((r + (k : Int)) % 13) + s]) (k + 1)) := RC.out.snoc GG.out.1 GG.out.2 (by omega) (by omega)
        go_wp2
        go_roundw
        case rel => exact ⟨k + 1, _, by go_num, by omega, F6.out, RC2.out⟩
        case measure => simp [intOf]; omega
      · have hk5' : k = 5 := by omega
        subst hk5'
        have OK : Hid (okC zs) := RC.out.1
        clear hk hk5 RC
        obtain ⟨⟨AV, cv, hv, hTV⟩, hvr⟩ := FV.out
        subst hv
        clear hTV hvr
        have TL := Lib.hid FV.out.lit
        have SL := Lib.hid FV.out.2.2.1
        have ZL := Lib.hid FV.out.2.1
        go_wp2_with fail
        refine (l02DealP_any g _ _ _ zs _ _ ZL.out.symm (by omega) SL.out TL.out.own.row (by rw [ZL.out]; omega)).mono ?_
        rintro e w7 ⟨ys, A2, c2, rfl, hO, h52, hdz, ⟨rest, hp, hq⟩, hs7, hk7⟩
        have F7 := Lib.hid (FV.out.next GL.out hs7 hk7)
        have DP := Lib.hid (And.intro hp (And.intro (show ((ys.length : Int) = (0 : Nat) ∨ rest = []) ∧ (ys.length : Int) ≤ (0 : Nat) by have := hq (by omega); simpa using this) (And.intro hs7 hk7)))
        have RD := Lib.hid hO.own.row.reads
        have SZ := Lib.hid (And.intro F7.out.2.2.2.2 h52)
        have HLN : ys.length ≤ 52 := h52
        clear hO h52 hp hq hs7 hk7 hdz
        go_wp2_with (at_builtin; refine wpList_append_any _ rfl (.tmp 163) (.tmp 169) 27 rfl w.heap.size 2 i0 (.int .i64 0) 1 8 Tryd.underlying27 HI.out.1 HI.out.2.1 HI.out.2.2.1 HI.out.2.2.2 rfl (by decide) _ 5 _ rfl F7.out.owns w7.heap.size A2 ys.length c2 (ys.map (Value.int .i64)) rfl RD.out (ints_one ys) (by simp only [maxLen]; omega) (by omega) SZ.out.1 ?_; intro v8 w8 hown8 hg8 hat8; have D8 := Lib.hid (fv_deal (n := 0) FV.out GL.out OK.out (by omega) DP.out.1 DP.out.2.1 DP.out.2.2.1 DP.out.2.2.2 hown8 hg8 (Nat.le_refl _)); clear hown8 hg8 hat8)
        obtain ⟨⟨A8, c8, hv8, hT8⟩, hok8, hl8, hs8, hk8, hz8⟩ := D8.out
        clear D8
        subst hv8
        have T8 := Lib.hid hT8
        have E8 := Lib.hid (And.intro hok8 (And.intro hl8 (And.intro hs8 (And.intro hk8 hz8))))
        clear hT8 hok8 hl8 hs8 hk8 hz8
        go_wp2_with fail
        refine (l02Pick_any g A8 c8 (zs ++ ys) _ _ rfl E8.out.2.2.1 T8.out.own.row (ownT_ne T8.out GL.out) (by rw [E8.out.2.1]; omega)).mono ?_
        rintro e w9 ⟨ps, A9, c9, rfl, hT9, hp9, hs9, hk9⟩
        have FIN : Hid (Fives g 5 w (.returned (.slice A9 ps.length c9)) w9) := fives_pick E8.out.1 E8.out.2.1 E8.out.2.2.2.1 (Nat.le_refl _) E8.out.2.2.2.2 hT9 hp9 hs9 hk9
        clear hT9 hp9 hs9 hk9
        go_wp2
        go_ret
        exact FIN.out
  · obtain ⟨zs, hzs⟩ : ∃ zs : List Int, zs = [4 * r, 4 * r + 1, 4 * r + 2, 4 * r + 3, 4 * t + s] := ⟨_, rfl⟩
    have OK : Hid (okC zs) := by rw [hzs]; exact case2_ok r0 r12 t0 t12 HRT.out s0 s3
    have FN : Hid (Fv w.heap.size g w (w4.alloc (.cells #[.int .i64 (4 * r), .int .i64 (4 * r + 1), .int .i64 (4 * r + 2), .int .i64 (4 * r + 3), .int .i64 (4 * t + s)] 2)) (.slice (some ⟨w4.heap.size, 0, none⟩) 5 5) 5 zs) := by
      rw [hzs]
      exact fv_new _ _ rfl 5 rfl (by simp [maxLen]) F4.out.2.2.1 F4.out.2.2.2.1 F4.out.2.2.2.2
    clear hzs F4
    have TL := Lib.hid FN.out.lit
    have ZL := Lib.hid FN.out.2.1
    go_wp2_with fail
    refine (l02Pick_any g _ _ zs _ _ ZL.out.symm FN.out.2.2.1 TL.out.own.row (ownT_ne TL.out GL.out) (by rw [ZL.out]; omega)).mono ?_
    rintro e w9 ⟨ps, A9, c9, rfl, hT9, hp9, hs9, hk9⟩
    have FIN : Hid (Fives g 5 w (.returned (.slice A9 ps.length c9)) w9) := fives_pick OK.out ZL.out FN.out.2.2.2.1 (Nat.le_refl _) FN.out.2.2.2.2 hT9 hp9 hs9 hk9
    clear hT9 hp9 hs9 hk9
    go_wp2
    go_ret
    exact FIN.out
  · go_wp2_with fail
    refine (l01Next_any g 2 _ F4.out.2.2.1).mono ?_
    rintro e w5 ⟨y, rfl, y0, y1, hs, hk, hz⟩
    have F5 := Lib.hid (F4.out.next GL.out hs hk)
    have y2 : y < 2 := by omega
    clear hs hk hz y1 F4
    obtain ⟨zs, hzs⟩ : ∃ zs : List Int, zs = [4 * r, 4 * r + 1 + y, 4 * r + 3, 4 * t + s, 4 * t + (s + 1) % 4] := ⟨_, rfl⟩
    have OK : Hid (okC zs) := by rw [hzs]; exact case3_ok r0 r12 t0 t12 HRT.out s0 s3 y0 y2
    have FN : Hid (Fv w.heap.size g w (w5.alloc (.cells #[.int .i64 (4 * r), .int .i64 (4 * r + 1 + y), .int .i64 (4 * r + 3), .int .i64 (4 * t + s), .int .i64 (4 * t + (s + 1) % 4)] 2)) (.slice (some ⟨w5.heap.size, 0, none⟩) 5 5) 5 zs) := by
      rw [hzs]
      exact fv_new _ _ rfl 5 rfl (by simp [maxLen]) F5.out.2.2.1 F5.out.2.2.2.1 F5.out.2.2.2.2
    clear hzs F5
    have TL := Lib.hid FN.out.lit
    have ZL := Lib.hid FN.out.2.1
    go_wp2_with fail
    refine (l02Pick_any g _ _ zs _ _ ZL.out.symm FN.out.2.2.1 TL.out.own.row (ownT_ne TL.out GL.out) (by rw [ZL.out]; omega)).mono ?_
    rintro e w9 ⟨ps, A9, c9, rfl, hT9, hp9, hs9, hk9⟩
    have FIN : Hid (Fives g 5 w (.returned (.slice A9 ps.length c9)) w9) := fives_pick OK.out ZL.out FN.out.2.2.2.1 (Nat.le_refl _) FN.out.2.2.2.2 hT9 hp9 hs9 hk9
    clear hT9 hp9 hs9 hk9
    go_wp2
    go_ret
    exact FIN.out
  · go_wp2
    go_loopw [6, 9] (fun v i wr => ∃ (k : Nat) (zs : List Int), i = .int .i64 k ∧ k ≤ 5 ∧ Hid (Fv w.heap.size g w wr v k zs) ∧ Hid (ruleC (fun (j : Nat) => (r + 2 * (j : Int)) % 13) zs k))
      (fun _ i _ => 5 - (intOf i).toNat)
    case atStart => exact ⟨0, [], rfl, by omega, F4.out, ruleC_nil _⟩
    case round =>
      obtain ⟨k, zs, rfl, hk5, FV, RC⟩ := hrel
      clear F4
      by_cases hk : k < 5
      · have k1 : (k : Int) < 5 := by omega
        have GG : Hid ((0 ≤ (r + 2 * (k : Int)) % 13 ∧ (r + 2 * (k : Int)) % 13 < 13) ∧ ∀ j, j < k → (r + 2 * (j : Int)) % 13 ≠ (r + 2 * (k : Int)) % 13) := ⟨by omega, fun j hj => by omega⟩
        obtain ⟨⟨AV, cv, hv, hTV⟩, hvr⟩ := FV.out
        subst hv
        clear hTV hvr
        go_wp2_with (at_builtin; refine wpList_append_lies _ rfl (.tmp 109) (.tmp 118) 27 rfl w.heap.size 2 i0 (.int .i64 0) 1 8 Tryd.underlying27 HI.out.1 HI.out.2.1 HI.out.2.2.1 HI.out.2.2.2 rfl (by decide) _ k _ rfl ((FV.out.owns).alloc _) ⟨_, 0, none⟩ 1 1 _ rfl rfl (World.news_of_block (heap_alloc_new _ _)) (by simp [Value.oneCell']) (by decide) (by simp only [maxLen]; omega) (by omega) (by simp; have := FV.out.2.2.2.2; omega) _ rfl ?_; intro q cap w6 hown6 hgrow6 hat6 hlt6; have F6 := Lib.hid (fv_snoc FV.out (Nat.le_refl _) GL.out hown6 hgrow6); clear hown6 hgrow6 hat6 hlt6)
        have RC2 : Hid (ruleC (fun (j : Nat) => (r + 2 * (j : Int)) % 13) (zs ++ [4 * ((r + 2 * (k : Int)) % 13) + s]) (k + 1)) := RC.out.snoc GG.out.1 GG.out.2 (by omega) (by omega)
        go_wp2
        go_roundw
        case rel => exact ⟨k + 1, _, by go_num, by omega, F6.out, RC2.out⟩
        case measure => simp [intOf]; omega
      · have hk5' : k = 5 := by omega
        subst hk5'
        have OK : Hid (okC zs) := RC.out.1
        clear hk hk5 RC
        obtain ⟨⟨AV, cv, hv, hTV⟩, hvr⟩ := FV.out
        subst hv
        clear hTV hvr
        have TL := Lib.hid FV.out.lit
        have SL := Lib.hid FV.out.2.2.1
        have ZL := Lib.hid FV.out.2.1
        go_wp2_with fail
        refine (l02DealP_any g _ _ _ zs _ _ ZL.out.symm (by omega) SL.out TL.out.own.row (by rw [ZL.out]; omega)).mono ?_
        rintro e w7 ⟨ys, A2, c2, rfl, hO, h52, hdz, ⟨rest, hp, hq⟩, hs7, hk7⟩
        have F7 := Lib.hid (FV.out.next GL.out hs7 hk7)
        have DP := Lib.hid (And.intro hp (And.intro (show ((ys.length : Int) = (0 : Nat) ∨ rest = []) ∧ (ys.length : Int) ≤ (0 : Nat) by have := hq (by omega); simpa using this) (And.intro hs7 hk7)))
        have RD := Lib.hid hO.own.row.reads
        have SZ := Lib.hid (And.intro F7.out.2.2.2.2 h52)
        have HLN : ys.length ≤ 52 := h52
        clear hO h52 hp hq hs7 hk7 hdz
        go_wp2_with (at_builtin; refine wpList_append_any _ rfl (.tmp 163) (.tmp 169) 27 rfl w.heap.size 2 i0 (.int .i64 0) 1 8 Tryd.underlying27 HI.out.1 HI.out.2.1 HI.out.2.2.1 HI.out.2.2.2 rfl (by decide) _ 5 _ rfl F7.out.owns w7.heap.size A2 ys.length c2 (ys.map (Value.int .i64)) rfl RD.out (ints_one ys) (by simp only [maxLen]; omega) (by omega) SZ.out.1 ?_; intro v8 w8 hown8 hg8 hat8; have D8 := Lib.hid (fv_deal (n := 0) FV.out GL.out OK.out (by omega) DP.out.1 DP.out.2.1 DP.out.2.2.1 DP.out.2.2.2 hown8 hg8 (Nat.le_refl _)); clear hown8 hg8 hat8)
        obtain ⟨⟨A8, c8, hv8, hT8⟩, hok8, hl8, hs8, hk8, hz8⟩ := D8.out
        clear D8
        subst hv8
        have T8 := Lib.hid hT8
        have E8 := Lib.hid (And.intro hok8 (And.intro hl8 (And.intro hs8 (And.intro hk8 hz8))))
        clear hT8 hok8 hl8 hs8 hk8 hz8
        go_wp2_with fail
        refine (l02Pick_any g A8 c8 (zs ++ ys) _ _ rfl E8.out.2.2.1 T8.out.own.row (ownT_ne T8.out GL.out) (by rw [E8.out.2.1]; omega)).mono ?_
        rintro e w9 ⟨ps, A9, c9, rfl, hT9, hp9, hs9, hk9⟩
        have FIN : Hid (Fives g 5 w (.returned (.slice A9 ps.length c9)) w9) := fives_pick E8.out.1 E8.out.2.1 E8.out.2.2.2.1 (Nat.le_refl _) E8.out.2.2.2.2 hT9 hp9 hs9 hk9
        clear hT9 hp9 hs9 hk9
        go_wp2
        go_ret
        exact FIN.out
  · obtain ⟨zs, hzs⟩ : ∃ zs : List Int, zs = [4 * r + s, 4 * r + (s + 1) % 4, 4 * t + s, 4 * t + (s + 2) % 4] := ⟨_, rfl⟩
    have OK : Hid (okC zs) := by rw [hzs]; exact case5_ok r0 r12 t0 t12 HRT.out s0 s3
    have FN : Hid (Fv w.heap.size g w (w4.alloc (.cells #[.int .i64 (4 * r + s), .int .i64 (4 * r + (s + 1) % 4), .int .i64 (4 * t + s), .int .i64 (4 * t + (s + 2) % 4)] 2)) (.slice (some ⟨w4.heap.size, 0, none⟩) 4 4) 4 zs) := by
      rw [hzs]
      exact fv_new _ _ rfl 4 rfl (by simp [maxLen]) F4.out.2.2.1 F4.out.2.2.2.1 F4.out.2.2.2.2
    clear hzs F4
    have TL := Lib.hid FN.out.lit
    have SL := Lib.hid FN.out.2.2.1
    have ZL := Lib.hid FN.out.2.1
    go_wp2_with fail
    refine (l02DealP_any g _ _ _ zs _ _ ZL.out.symm (by omega) SL.out TL.out.own.row (by rw [ZL.out]; omega)).mono ?_
    rintro e w7 ⟨ys, A2, c2, rfl, hO, h52, hdz, ⟨rest, hp, hq⟩, hs7, hk7⟩
    have F7 := Lib.hid (FN.out.next GL.out hs7 hk7)
    have DP := Lib.hid (And.intro hp (And.intro (show ((ys.length : Int) = (1 : Nat) ∨ rest = []) ∧ (ys.length : Int) ≤ (1 : Nat) by have := hq (by omega); simpa using this) (And.intro hs7 hk7)))
    have RD := Lib.hid hO.own.row.reads
    have SZ := Lib.hid (And.intro F7.out.2.2.2.2 h52)
    have HLN : ys.length ≤ 52 := h52
    clear hO h52 hp hq hs7 hk7 hdz
    go_wp2_with (at_builtin; refine wpList_append_any _ rfl (.tmp 163) (.tmp 169) 27 rfl w.heap.size 2 i0 (.int .i64 0) 1 8 Tryd.underlying27 HI.out.1 HI.out.2.1 HI.out.2.2.1 HI.out.2.2.2 rfl (by decide) _ 4 _ rfl F7.out.owns w7.heap.size A2 ys.length c2 (ys.map (Value.int .i64)) rfl RD.out (ints_one ys) (by simp only [maxLen]; omega) (by omega) SZ.out.1 ?_; intro v8 w8 hown8 hg8 hat8; have D8 := Lib.hid (fv_deal (n := 1) FN.out GL.out OK.out (by omega) DP.out.1 DP.out.2.1 DP.out.2.2.1 DP.out.2.2.2 hown8 hg8 (Nat.le_refl _)); clear hown8 hg8 hat8)
    obtain ⟨⟨A8, c8, hv8, hT8⟩, hok8, hl8, hs8, hk8, hz8⟩ := D8.out
    clear D8
    subst hv8
    have T8 := Lib.hid hT8
    have E8 := Lib.hid (And.intro hok8 (And.intro hl8 (And.intro hs8 (And.intro hk8 hz8))))
    clear hT8 hok8 hl8 hs8 hk8 hz8
    go_wp2_with fail
    refine (l02Pick_any g A8 c8 (zs ++ ys) _ _ rfl E8.out.2.2.1 T8.out.own.row (ownT_ne T8.out GL.out) (by rw [E8.out.2.1]; omega)).mono ?_
    rintro e w9 ⟨ps, A9, c9, rfl, hT9, hp9, hs9, hk9⟩
    have FIN : Hid (Fives g 5 w (.returned (.slice A9 ps.length c9)) w9) := fives_pick E8.out.1 E8.out.2.1 E8.out.2.2.2.1 (Nat.le_refl _) E8.out.2.2.2.2 hT9 hp9 hs9 hk9
    clear hT9 hp9 hs9 hk9
    go_wp2
    go_ret
    exact FIN.out
  · obtain ⟨zs, hzs⟩ : ∃ zs : List Int, zs = [4 * r + s, 4 * r + (s + 1) % 4, 4 * r + (s + 2) % 4] := ⟨_, rfl⟩
    have OK : Hid (okC zs) := by rw [hzs]; exact case6_ok r0 r12 s0 s3
    have FN : Hid (Fv w.heap.size g w (w4.alloc (.cells #[.int .i64 (4 * r + s), .int .i64 (4 * r + (s + 1) % 4), .int .i64 (4 * r + (s + 2) % 4)] 2)) (.slice (some ⟨w4.heap.size, 0, none⟩) 3 3) 3 zs) := by
      rw [hzs]
      exact fv_new _ _ rfl 3 rfl (by simp [maxLen]) F4.out.2.2.1 F4.out.2.2.2.1 F4.out.2.2.2.2
    clear hzs F4
    have TL := Lib.hid FN.out.lit
    have SL := Lib.hid FN.out.2.2.1
    have ZL := Lib.hid FN.out.2.1
    go_wp2_with fail
    refine (l02DealP_any g _ _ _ zs _ _ ZL.out.symm (by omega) SL.out TL.out.own.row (by rw [ZL.out]; omega)).mono ?_
    rintro e w7 ⟨ys, A2, c2, rfl, hO, h52, hdz, ⟨rest, hp, hq⟩, hs7, hk7⟩
    have F7 := Lib.hid (FN.out.next GL.out hs7 hk7)
    have DP := Lib.hid (And.intro hp (And.intro (show ((ys.length : Int) = (2 : Nat) ∨ rest = []) ∧ (ys.length : Int) ≤ (2 : Nat) by have := hq (by omega); simpa using this) (And.intro hs7 hk7)))
    have RD := Lib.hid hO.own.row.reads
    have SZ := Lib.hid (And.intro F7.out.2.2.2.2 h52)
    have HLN : ys.length ≤ 52 := h52
    clear hO h52 hp hq hs7 hk7 hdz
    go_wp2_with (at_builtin; refine wpList_append_any _ rfl (.tmp 163) (.tmp 169) 27 rfl w.heap.size 2 i0 (.int .i64 0) 1 8 Tryd.underlying27 HI.out.1 HI.out.2.1 HI.out.2.2.1 HI.out.2.2.2 rfl (by decide) _ 3 _ rfl F7.out.owns w7.heap.size A2 ys.length c2 (ys.map (Value.int .i64)) rfl RD.out (ints_one ys) (by simp only [maxLen]; omega) (by omega) SZ.out.1 ?_; intro v8 w8 hown8 hg8 hat8; have D8 := Lib.hid (fv_deal (n := 2) FN.out GL.out OK.out (by omega) DP.out.1 DP.out.2.1 DP.out.2.2.1 DP.out.2.2.2 hown8 hg8 (Nat.le_refl _)); clear hown8 hg8 hat8)
    obtain ⟨⟨A8, c8, hv8, hT8⟩, hok8, hl8, hs8, hk8, hz8⟩ := D8.out
    clear D8
    subst hv8
    have T8 := Lib.hid hT8
    have E8 := Lib.hid (And.intro hok8 (And.intro hl8 (And.intro hs8 (And.intro hk8 hz8))))
    clear hT8 hok8 hl8 hs8 hk8 hz8
    go_wp2_with fail
    refine (l02Pick_any g A8 c8 (zs ++ ys) _ _ rfl E8.out.2.2.1 T8.out.own.row (ownT_ne T8.out GL.out) (by rw [E8.out.2.1]; omega)).mono ?_
    rintro e w9 ⟨ps, A9, c9, rfl, hT9, hp9, hs9, hk9⟩
    have FIN : Hid (Fives g 5 w (.returned (.slice A9 ps.length c9)) w9) := fives_pick E8.out.1 E8.out.2.1 E8.out.2.2.2.1 (Nat.le_refl _) E8.out.2.2.2.2 hT9 hp9 hs9 hk9
    clear hT9 hp9 hs9 hk9
    go_wp2
    go_ret
    exact FIN.out
  · have OK : Hid (okC ([] : List Int)) := okC_nil
    have TL := Lib.hid F4.out.lit
    have SL := Lib.hid F4.out.2.2.1
    have ZL := Lib.hid F4.out.2.1
    go_wp2_with fail
    refine (l02DealP_any g _ _ _ [] _ _ ZL.out.symm (by omega) SL.out TL.out.own.row (by rw [ZL.out]; omega)).mono ?_
    rintro e w7 ⟨ys, A2, c2, rfl, hO, h52, hdz, ⟨rest, hp, hq⟩, hs7, hk7⟩
    have F7 := Lib.hid (F4.out.next GL.out hs7 hk7)
    have DP := Lib.hid (And.intro hp (And.intro (show ((ys.length : Int) = (5 : Nat) ∨ rest = []) ∧ (ys.length : Int) ≤ (5 : Nat) by have := hq (by omega); simpa using this) (And.intro hs7 hk7)))
    have RD := Lib.hid hO.own.row.reads
    have SZ := Lib.hid (And.intro F7.out.2.2.2.2 h52)
    have HLN : ys.length ≤ 52 := h52
    clear hO h52 hp hq hs7 hk7 hdz
    go_wp2_with (at_builtin; refine wpList_append_any _ rfl (.tmp 163) (.tmp 169) 27 rfl w.heap.size 2 i0 (.int .i64 0) 1 8 Tryd.underlying27 HI.out.1 HI.out.2.1 HI.out.2.2.1 HI.out.2.2.2 rfl (by decide) _ 0 _ rfl F7.out.owns w7.heap.size A2 ys.length c2 (ys.map (Value.int .i64)) rfl RD.out (ints_one ys) (by simp only [maxLen]; omega) (by omega) SZ.out.1 ?_; intro v8 w8 hown8 hg8 hat8; have D8 := Lib.hid (fv_deal (n := 5) F4.out GL.out OK.out (by omega) DP.out.1 DP.out.2.1 DP.out.2.2.1 DP.out.2.2.2 hown8 hg8 (Nat.le_refl _)); clear hown8 hg8 hat8)
    obtain ⟨⟨A8, c8, hv8, hT8⟩, hok8, hl8, hs8, hk8, hz8⟩ := D8.out
    clear D8
    subst hv8
    have T8 := Lib.hid hT8
    have E8 := Lib.hid (And.intro hok8 (And.intro hl8 (And.intro hs8 (And.intro hk8 hz8))))
    clear hT8 hok8 hl8 hs8 hk8 hz8
    go_wp2_with fail
    refine (l02Pick_any g A8 c8 ([] ++ ys) _ _ rfl E8.out.2.2.1 T8.out.own.row (ownT_ne T8.out GL.out) (by rw [E8.out.2.1]; omega)).mono ?_
    rintro e w9 ⟨ps, A9, c9, rfl, hT9, hp9, hs9, hk9⟩
    have FIN : Hid (Fives g 5 w (.returned (.slice A9 ps.length c9)) w9) := fives_pick E8.out.1 E8.out.2.1 E8.out.2.2.2.1 (Nat.le_refl _) E8.out.2.2.2.2 hT9 hp9 hs9 hk9
    clear hT9 hp9 hs9 hk9
    go_wp2
    go_ret
    exact FIN.out
end Go.Proofs.YtbhlghadjcbilaaDoor
