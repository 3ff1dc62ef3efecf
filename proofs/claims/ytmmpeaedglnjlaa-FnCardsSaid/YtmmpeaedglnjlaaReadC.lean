/-
  ReadCards in the reference and in the program.
-/
import Derived.Test.YtmmpeaedglnjlaaAreCards
import Derived.Test.YtmmpeaedglnjlaaOwnT
import Derived.Test.YtmmpeaedglnjlaaMathDeck
import Derived.Test.YtmmpeaedglnjlaaLaid
import Derived.Lib.IndexLaws
import Derived.Deep.AppendLies
namespace Go.Proofs.Ytmmpeaedglnjlaa
open Go.RowKit

def rkS : ByteArray := ⟨#[50, 51, 52, 53, 54, 55, 56, 57, 84, 74, 81, 75, 65]⟩
def suS : ByteArray := ⟨#[99, 100, 104, 115]⟩
theorem index_hit : ∀ {l : List UInt8} {c : UInt8} {k : Nat}, l[k]? = some c → (∀ j, j < k → l[j]? ≠ some c) → Lib.indexByte l c = (k : Int)
  | [], _, _, h, _ => by simp at h
  | b :: l, c, 0, h, _ => by
    have : b = c := by simpa using h
    simp [Lib.indexByte, this]
  | b :: l, c, k + 1, h, hn => by
    have hb : ¬ b = c := by have := hn 0 (by omega); simpa using this
    have ih := index_hit (l := l) (c := c) (k := k) (by simpa using h) (fun j hj => by have := hn (j + 1) (by omega); simpa using this)
    have h1 : ¬ ((k : Int) = -1) := by omega
    simp [Lib.indexByte, hb, ih, h1]
theorem index_miss : ∀ {l : List UInt8} {c : UInt8}, (∀ j : Nat, l[j]? ≠ some c) → Lib.indexByte l c = -1
  | [], _, _ => rfl
  | b :: l, c, h => by
    have hb : ¬ b = c := by have := h 0; simpa using this
    have ih := index_miss (l := l) (c := c) (fun j => by have := h (j + 1); simpa using this)
    simp [Lib.indexByte, hb, ih]
theorem index_lt {l : List UInt8} {c : UInt8} : Lib.indexByte l c < (l.length : Int) := by
  by_cases h : Lib.indexByte l c = -1
  · rw [h]; omega
  · have h0 := Lib.indexByte_ge l c
    obtain ⟨o, ho⟩ := Int.eq_ofNat_of_zero_le (show 0 ≤ Lib.indexByte l c by omega)
    have h1 := (Lib.indexByte_some ho).1
    have := (List.getElem?_eq_some_iff.1 h1).1
    rw [ho]; omega

theorem l02Find_any (s : ByteArray) (c : UInt8) (w : World) (hs : s.size ≤ 100) :
    Calls Try.prog 36 #[.string s, .int .u8 ((c.toNat : Nat) : Int)] w fun e w' => e = .returned (.int .i64 (Lib.indexByte s.data.toList c)) ∧ w = w' := by
  go_enter Try.func36, Try.ntmps36
  go_wp2
  go_loop [5] (fun i => ∃ k : Nat, k ≤ s.size ∧ i = .int .i64 k ∧ Hid (∀ j, j < k → s.data.toList[j]? ≠ some c)) (fun i => s.size - (intOf i).toNat)
  case atStart => exact ⟨0, Nat.zero_le _, rfl, fun j hj => absurd hj (by omega)⟩
  case round =>
    obtain ⟨k, hk, rfl, HK⟩ := hrel
    by_cases hlt : k < s.size
    · have hd : s.data.toList[k]? = some (s[k]'hlt) := by
        rw [Array.getElem?_toList, Array.getElem?_eq_getElem (show k < s.data.size from hlt)]; rfl
      have i1 : (k : Int) < (s.size : Int) := by omega
      by_cases e : s[k]'hlt = c
      · have R : Hid (Lib.indexByte s.data.toList c = (k : Int)) := index_hit (by rw [hd, e]) HK.out
        have b1 : ((((s[k]'hlt).toNat : Nat) : Int) == ((c.toNat : Nat) : Int)) = true := by rw [e]; simp
        clear e hd
        go_wp2
        go_ret
        exact ⟨ret_int R.out.symm, rfl⟩
      · have b1 : ((((s[k]'hlt).toNat : Nat) : Int) == ((c.toNat : Nat) : Int)) = false := by
          have : (s[k]'hlt).toNat ≠ c.toNat := fun h => e (UInt8.toNat_inj.1 h)
          simp; omega
        have NX : Hid (∀ j, j < k + 1 → s.data.toList[j]? ≠ some c) := fun j hj => by
          rcases Nat.lt_or_ge j k with h | h
          · exact HK.out j h
          · have : j = k := by omega
            subst this
            rw [hd]; simpa using e
        clear e hd
        go_wp2
        go_round
        case rel => exact ⟨k + 1, by omega, by go_num, NX.out⟩
        case measure => simp [intOf]; omega
    · have R : Hid (Lib.indexByte s.data.toList c = -1) := index_miss (fun j => by
        rcases Nat.lt_or_ge j k with h | h
        · exact HK.out j h
        · rw [List.getElem?_eq_none (show s.data.toList.length ≤ j by have : s.data.toList.length = s.size := rfl; omega)]; simp)
      go_wp2
      go_ret
      exact ⟨ret_int R.out.symm, rfl⟩

/-! ### What is read -/
def byteAt (s : ByteArray) (m : Nat) : UInt8 := s.data.toList.getD m 0
theorem byteAt_eq {s : ByteArray} {m : Nat} (h : m < s.size) : s[m]'h = byteAt s m := by
  have hd : s.data.toList[m]? = some (s[m]'h) := by
    rw [Array.getElem?_toList, Array.getElem?_eq_getElem (show m < s.data.size from h)]; rfl
  unfold byteAt
  rw [List.getD_eq_getElem?_getD, hd]
  rfl
def rkI (s : ByteArray) (k : Nat) : Int := Lib.indexByte rkS.data.toList (byteAt s (2 * k))
def suI (s : ByteArray) (k : Nat) : Int := Lib.indexByte suS.data.toList (byteAt s (2 * k + 1))
theorem rkI_bd (s : ByteArray) (k : Nat) : -1 ≤ rkI s k ∧ rkI s k < 13 := ⟨Lib.indexByte_ge _ _, index_lt⟩
theorem suI_bd (s : ByteArray) (k : Nat) : -1 ≤ suI s k ∧ suI s k < 4 := ⟨Lib.indexByte_ge _ _, index_lt⟩
def goodR (s : ByteArray) (k : Nat) : Prop := ∀ j, j < k → 0 ≤ rkI s j ∧ 0 ≤ suI s j
def crdK (s : ByteArray) (k : Nat) : List Int := (List.range k).map fun j => 4 * rkI s j + suI s j
theorem crdK_succ (s : ByteArray) (k : Nat) : crdK s (k + 1) = crdK s k ++ [4 * rkI s k + suI s k] := by simp [crdK, List.range_succ]
theorem crdK_length (s : ByteArray) (k : Nat) : (crdK s k).length = k := by simp [crdK]
instance (s : ByteArray) (k : Nat) : Decidable (goodR s k) := by unfold goodR; infer_instance
def readP (s : ByteArray) : Prop := s.size % 2 = 0 ∧ goodR s (s.size / 2) ∧ okC (crdK s (s.size / 2))
instance (s : ByteArray) : Decidable (readP s) := inferInstanceAs (Decidable (_ ∧ _))
def readL (s : ByteArray) : List Int := if readP s then crdK s (s.size / 2) else []
def readX (s : ByteArray) : Int := if readP s then 0 else 6
theorem read_yes {s : ByteArray} (h : readP s) : readL s = crdK s (s.size / 2) ∧ readX s = 0 := by unfold readL readX; rw [if_pos h, if_pos h]; exact ⟨rfl, rfl⟩
theorem read_no {s : ByteArray} (h : ¬ readP s) : readL s = [] ∧ readX s = 6 := by unfold readL readX; rw [if_neg h, if_neg h]; exact ⟨rfl, rfl⟩
theorem read_short {s : ByteArray} (h : readP s) : s.size ≤ 104 := by
  have := nodup_len 52 _ h.2.2.2 (fun c hc => by have := h.2.2.1 c hc; omega)
  rw [crdK_length] at this
  have := h.1
  omega
theorem goodR_bad {s : ByteArray} {k : Nat} (hk : 2 * k + 1 < s.size) (h : ¬ (0 ≤ rkI s k ∧ 0 ≤ suI s k)) : ¬ readP s := fun hp => h (hp.2.1 k (by omega))
theorem goodR_snoc {s : ByteArray} {k : Nat} (h : goodR s k) (h2 : 0 ≤ rkI s k ∧ 0 ≤ suI s k) : goodR s (k + 1) := fun j hj => by
  rcases Nat.lt_or_ge j k with h' | h'
  · exact h j h'
  · have : j = k := by omega
    subst this; exact h2
theorem specAreCards_len (A : Option Addr) (c : Nat) (xs : List Int) (len : Nat) (w : World) (hlen : len = xs.length) (h : RowI w A xs) (hl : xs.length ≤ 1048576) :
    Calls Try.prog 33 #[.slice A len c] w fun e w' => e = .returned (.bool (areC xs)) ∧ Below w.heap.size w w' := by subst hlen; exact specAreCards_any A c xs w h hl

set_option maxHeartbeats 4000000 in
set_option maxRecDepth 8000 in
theorem specRead_any (s : ByteArray) (w : World) (hs : s.size ≤ 1048576) :
    Calls Try.prog 11 #[.string s] w (GivesC w (readL s) (readX s)) := by
  obtain ⟨i0, hi, hz0, hz1, hz2⟩ := info_parts int_info
  have HI := Lib.hid (And.intro hi (And.intro hz0 (And.intro hz1 hz2)))
  clear hi hz0 hz1 hz2
  go_enter Try.func11, Try.ntmps11
  go_wp2
  go_loopw [4, 5, 6, 7] (fun v i _ _ wr => ∃ k m : Nat, i = .int .i64 m ∧ m ≤ s.size ∧ Hid (m = 2 * k) ∧ Hid (goodR s k) ∧ Hid (wr.ownsRow w.heap.size 2 1 v k ((crdK s k).map (Value.int .i64))) ∧ Hid (Below w.heap.size w wr)) (fun _ i _ _ _ => s.size - (intOf i).toNat)
  case atStart => exact ⟨0, 0, rfl, Nat.zero_le _, rfl, fun j hj => absurd hj (by omega), World.ownsRow_made w #[] 0 (Nat.le_refl _) (by decide) rfl, (Below.refl _ _).alloc (Nat.le_refl _) _⟩
  case round =>
    obtain ⟨k, m, rfl, hm, HM, GK, OW, BL⟩ := hrel
    by_cases hlt : m + 1 < s.size
    · have hm0 : m < s.size := by omega
      have j0 : (0 : Int) ≤ (m : Int) := by omega
      have j1 : (m : Int) < (s.size : Int) := by omega
      have j2 : IntKind.i64.wrap ((m : Int) + 1) = (m : Int) + 1 := IntWalk.i64_in _ (by omega)
      have j3 : ((m : Int) + 1).toNat = m + 1 := by omega
      have j4 : (m : Int) + 1 < (s.size : Int) := by omega
      have j5 : (0 : Int) ≤ (m : Int) + 1 := by omega
      obtain ⟨r, hr⟩ : ∃ r, r = rkI s k := ⟨_, rfl⟩
      obtain ⟨u, hu⟩ : ∃ u, u = suI s k := ⟨_, rfl⟩
      obtain ⟨r0, r1⟩ : -1 ≤ r ∧ r < 13 := by rw [hr]; exact rkI_bd s k
      obtain ⟨u0, u1⟩ : -1 ≤ u ∧ u < 4 := by rw [hu]; exact suI_bd s k
      have CR : Hid (∀ (W : World), Calls Try.prog 36 #[.string ⟨#[50, 51, 52, 53, 54, 55, 56, 57, 84, 74, 81, 75, 65]⟩, .int .u8 (((s[m]'hm0).toNat : Nat) : Int)] W fun e w' => e = .returned (.int .i64 r) ∧ W = w') := fun W => by
        rw [hr]; unfold rkI; rw [← HM.out, ← byteAt_eq hm0]; exact l02Find_any rkS _ W (by decide)
      have CS : Hid (∀ (W : World), Calls Try.prog 36 #[.string ⟨#[99, 100, 104, 115]⟩, .int .u8 (((s[m + 1]'hlt).toNat : Nat) : Int)] W fun e w' => e = .returned (.int .i64 u) ∧ W = w') := fun W => by
        rw [hu]; unfold suI; rw [← HM.out, ← byteAt_eq hlt]; exact l02Find_any suS _ W (by decide)
      have RU := Lib.hid (And.intro hr hu)
      clear hr hu
      by_cases hg : 0 ≤ r ∧ 0 ≤ u
      · obtain ⟨g0, g1⟩ := hg
        have d0 : decide (r < 0) = false := by simp; omega
        have d1 : decide (u < 0) = false := by simp; omega
        have GN : Hid (goodR s (k + 1)) := goodR_snoc GK.out (by rw [← RU.out.1, ← RU.out.2]; exact ⟨g0, g1⟩)
        have CN : Hid (crdK s (k + 1) = crdK s k ++ [4 * r + u]) := by show _ = _; rw [crdK_succ, ← RU.out.1, ← RU.out.2]
        go_wp2
        go_quiet (first | (go_at_call_of 36 (50 : UInt8); exact quiet_left (CR.out _)) | (go_at_call_of 36 (99 : UInt8); exact quiet_left (CS.out _)))
        have OWq : Hid ((wr.drewN nq).ownsRow w.heap.size 2 1 u4 k ((crdK s k).map (Value.int .i64))) := OW.out
        have BLq : Hid (Below w.heap.size w (wr.drewN nq)) := below_drewN BL.out nq
        obtain ⟨wq, hwq⟩ : ∃ wq, wq = wr.drewN nq := ⟨_, rfl⟩
        rw [← hwq] at OWq BLq ⊢
        clear hwq OW BL
        go_wp2_with (at_builtin; refine wpList_append_lies _ rfl (.tmp 31) (.tmp 36) 22 rfl w.heap.size 2 i0 (.int .i64 0) 1 8 Try.underlying22 HI.out.1 HI.out.2.1 HI.out.2.2.1 HI.out.2.2.2 rfl (by decide) _ k _ rfl (OWq.out.alloc _) ⟨wq.heap.size, 0, none⟩ 1 1 [.int .i64 (4 * r + u)] rfl rfl (World.news_of_block (heap_alloc_new _ _)) (by simp [Value.oneCell']) (by decide) (by simp only [maxLen]; have := HM.out; omega) (by have := HM.out; omega) (by simp; have := BLq.out.size; omega) _ rfl ?_; intro q cap w5 hown5 hgrow5 hat5 hlt5; have O5 := Lib.hid hown5; have G5 := Lib.hid hgrow5; clear hown5 hgrow5 hat5 hlt5)
        go_roundw
        case rel => exact ⟨k + 1, m + 2, by go_num, by omega, by have := HM.out; show _ = _; omega, GN.out, by show World.ownsRow _ _ _ _ _ _ _; rw [CN.out, List.map_append]; exact O5.out, ((BLq.out.alloc BLq.out.size _).grown G5.out (by simp; have := BLq.out.size; omega) (fun j e => (OWq.out.lt j e).1))⟩
        case measure => simp [intOf]; omega
      · have R := Lib.hid (read_no (goodR_bad (by rw [← HM.out]; exact hlt) (by rw [← RU.out.1, ← RU.out.2]; exact hg)))
        have FIN : Hid (∀ q, GivesC w (readL s) (readX s) (.returned (.tuple #[.slice none 0 0, .int .i64 6])) (wr.drewN q)) := fun q => by
          rw [R.out.1, R.out.2]
          exact ⟨none, 0, rfl, OwnI.nil_ _ _, below_drewN BL.out q⟩
        by_cases g0 : r < 0
        · clear hg
          go_wp2
          go_quiet (first | (go_at_call_of 36 (50 : UInt8); exact quiet_left (CR.out _)) | (go_at_call_of 36 (99 : UInt8); exact quiet_left (CS.out _)))
          go_wp2
          go_ret2
          exact FIN.out _
        · have g1 : u < 0 := by omega
          have g0' : 0 ≤ r := by omega
          clear hg g0
          go_wp2
          go_quiet (first | (go_at_call_of 36 (50 : UInt8); exact quiet_left (CR.out _)) | (go_at_call_of 36 (99 : UInt8); exact quiet_left (CS.out _)))
          go_wp2
          go_ret2
          exact FIN.out _
    · have jn : ¬ ((m : Int) + 1 < (s.size : Int)) := by omega
      have j2 : IntKind.i64.wrap ((m : Int) + 1) = (m : Int) + 1 := IntWalk.i64_in _ (by omega)
      by_cases hodd : s.size % 2 = 1
      · have R := Lib.hid (read_no (s := s) (fun h => by have := h.1; omega))
        have b1 : (((s.size : Nat) : Int).tmod 2 == 1) = true := by rw [Int.tmod_eq_emod_of_nonneg (by omega)]; simp; omega
        have FIN : Hid (GivesC w (readL s) (readX s) (.returned (.tuple #[.slice none 0 0, .int .i64 6])) wr) := by
          rw [R.out.1, R.out.2]
          exact ⟨none, 0, rfl, OwnI.nil_ _ _, BL.out⟩
        go_wp2
        go_ret2
        exact FIN.out
      · have b1 : (((s.size : Nat) : Int).tmod 2 == 1) = false := by rw [Int.tmod_eq_emod_of_nonneg (by omega)]; simp; omega
        have KS : Hid (k = s.size / 2) := by show _ = _; have := HM.out; omega
        have ks : k ≤ 1048576 := by have := KS.out; omega
        obtain ⟨AF, cF, hv, hT⟩ := ownT_of_owns (xs := crdK s k) (by rw [crdK_length]; exact OW.out)
        rw [crdK_length] at hv
        subst hv
        have OT := Lib.hid hT
        clear hT OW
        obtain ⟨ok, hok⟩ : ∃ ok, ok = areC (crdK s k) := ⟨_, rfl⟩
        have HOK := Lib.hid hok
        clear hok
        go_wp2_with fail
        refine (specAreCards_len AF cF (crdK s k) k _ (crdK_length s k).symm OT.out.own.row (by rw [crdK_length]; exact ks)).mono ?_
        rintro e w1 ⟨rfl, hb⟩
        rw [← HOK.out]
        have B1 := Lib.hid (BL.out.trans (hb.mono BL.out.size))
        have O1 := Lib.hid (OT.out.below hb)
        clear hb OT
        cases ok with
        | true =>
          have R := Lib.hid (read_yes (s := s) ⟨by omega, by rw [← KS.out]; exact GK.out, by rw [← KS.out]; exact (areC_iff _).1 HOK.out.symm⟩)
          have FIN : Hid (GivesC w (readL s) (readX s) (.returned (.tuple #[.slice AF k cF, .int .i64 0])) w1) := by
            rw [R.out.1, R.out.2, ← KS.out]
            exact ⟨AF, cF, by rw [crdK_length], O1.out.own, B1.out⟩
          go_wp2
          go_ret2
          exact FIN.out
        | false =>
          have R := Lib.hid (read_no (s := s) (fun h => by
            have h3 := (areC_iff _).2 h.2.2
            rw [← KS.out, ← HOK.out] at h3; cases h3))
          have FIN : Hid (GivesC w (readL s) (readX s) (.returned (.tuple #[.slice none 0 0, .int .i64 6])) w1) := by
            rw [R.out.1, R.out.2]
            exact ⟨none, 0, rfl, OwnI.nil_ _ _, B1.out⟩
          go_wp2
          go_ret2
          exact FIN.out
theorem implAreCards_len' (A : Option Addr) (c : Nat) (xs : List Int) (len : Nat) (w : World) (hlen : len = xs.length) (h : RowI w A xs) (hl : xs.length ≤ 1048576) :
    Calls Try.prog 30 #[.slice A len c] w fun e w' => e = .returned (.bool (areC xs)) ∧ w = w' := by subst hlen; exact implAreCards_any A c xs w h hl
theorem indexByte_of (S : ByteArray) (b : UInt8) (W : World) : Calls Try.prog 37 #[.string S, .int .u8 ((b.toNat : Nat) : Int)] W fun e w' => e = .returned (.int .i64 (Lib.indexByte S.data.toList b)) ∧ W = w' := by
  have h := Try.strings_IndexByte S ((b.toNat : Nat) : Int) W
  have e : (((b.toNat : Nat) : Int)).toNat.toUInt8 = b := by simp
  rw [e] at h
  exact h.mono fun _ _ ⟨h1, h2⟩ => ⟨h1, h2.symm⟩

set_option maxHeartbeats 4000000 in
set_option maxRecDepth 8000 in
theorem implRead_any (s : ByteArray) (w : World) (hs : s.size ≤ 1048576) :
    Calls Try.prog 12 #[.string s] w (GivesC w (readL s) (readX s)) := by
  by_cases hodd : s.size % 2 = 1
  · have R := Lib.hid (read_no (s := s) (fun h => by have := h.1; omega))
    have b1 : (((s.size : Nat) : Int) % 2 != 0) = true := by simp; omega
    have FIN : Hid (GivesC w (readL s) (readX s) (.returned (.tuple #[.slice none 0 0, .int .i64 6])) w) := by
      rw [R.out.1, R.out.2]
      exact ⟨none, 0, rfl, OwnI.nil_ _ _, Below.refl _ _⟩
    clear hodd
    go_enter Try.func12, Try.ntmps12
    go_wp2
    go_ret2
    exact FIN.out
  have b1 : (((s.size : Nat) : Int) % 2 != 0) = false := by simp; omega
  by_cases hbig : 104 < s.size
  · have R := Lib.hid (read_no (s := s) (fun h => by have := read_short h; omega))
    have b2 : decide ((104 : Int) < (s.size : Int)) = true := by simp; omega
    have FIN : Hid (GivesC w (readL s) (readX s) (.returned (.tuple #[.slice none 0 0, .int .i64 6])) w) := by
      rw [R.out.1, R.out.2]
      exact ⟨none, 0, rfl, OwnI.nil_ _ _, Below.refl _ _⟩
    clear hodd hbig
    go_enter Try.func12, Try.ntmps12
    go_wp2
    go_ret2
    exact FIN.out
  have b2 : decide ((104 : Int) < (s.size : Int)) = false := by simp; omega
  have EV : Hid (s.size % 2 = 0) := by show _ = _; omega
  have h104 : s.size ≤ 104 := by omega
  obtain ⟨i0, hi, hz0, hz1, hz2⟩ := info_parts int_info
  have HI := Lib.hid (And.intro hi (And.intro hz0 (And.intro hz1 hz2)))
  clear hi hz0 hz1 hz2 hodd hbig hs
  go_enter Try.func12, Try.ntmps12
  go_wp2
  go_loopw [4, 5, 6, 7] (fun v i _ _ wr => ∃ k m : Nat, i = .int .i64 m ∧ m ≤ s.size ∧ Hid (m = 2 * k) ∧ Hid (goodR s k) ∧ Hid (wr.ownsRow w.heap.size 2 1 v k ((crdK s k).map (Value.int .i64))) ∧ Hid (Below w.heap.size w wr)) (fun _ i _ _ _ => s.size - (intOf i).toNat)
  case atStart => exact ⟨0, 0, rfl, Nat.zero_le _, rfl, fun j hj => absurd hj (by omega), ⟨by simp [crdK], .inl ⟨rfl, rfl⟩⟩, Below.refl _ _⟩
  case round =>
    obtain ⟨k, m, rfl, hm, HM, GK, OW, BL⟩ := hrel
    by_cases hm0 : m < s.size
    · have hlt : m + 1 < s.size := by have := HM.out; have := EV.out; omega
      have j0 : (0 : Int) ≤ (m : Int) := by omega
      have j1 : (m : Int) < (s.size : Int) := by omega
      have j2 : IntKind.i64.wrap ((m : Int) + 1) = (m : Int) + 1 := IntWalk.i64_in _ (by omega)
      have j3 : ((m : Int) + 1).toNat = m + 1 := by omega
      have j4 : (m : Int) + 1 < (s.size : Int) := by omega
      have j5 : (0 : Int) ≤ (m : Int) + 1 := by omega
      obtain ⟨r, hr⟩ : ∃ r, r = rkI s k := ⟨_, rfl⟩
      obtain ⟨u, hu⟩ : ∃ u, u = suI s k := ⟨_, rfl⟩
      obtain ⟨r0, r1⟩ : -1 ≤ r ∧ r < 13 := by rw [hr]; exact rkI_bd s k
      obtain ⟨u0, u1⟩ : -1 ≤ u ∧ u < 4 := by rw [hu]; exact suI_bd s k
      have CR : Hid (∀ (W : World), Calls Try.prog 37 #[.string ⟨#[50, 51, 52, 53, 54, 55, 56, 57, 84, 74, 81, 75, 65]⟩, .int .u8 (((s[m]'hm0).toNat : Nat) : Int)] W fun e w' => e = .returned (.int .i64 r) ∧ W = w') := fun W => by
        rw [hr]; unfold rkI; rw [← HM.out, ← byteAt_eq hm0]; exact indexByte_of rkS _ W
      have CS : Hid (∀ (W : World), Calls Try.prog 37 #[.string ⟨#[99, 100, 104, 115]⟩, .int .u8 (((s[m + 1]'hlt).toNat : Nat) : Int)] W fun e w' => e = .returned (.int .i64 u) ∧ W = w') := fun W => by
        rw [hu]; unfold suI; rw [← HM.out, ← byteAt_eq hlt]; exact indexByte_of suS _ W
      have RU := Lib.hid (And.intro hr hu)
      clear hr hu
      by_cases hg : 0 ≤ r ∧ 0 ≤ u
      · obtain ⟨g0, g1⟩ := hg
        have GN : Hid (goodR s (k + 1)) := goodR_snoc GK.out (by rw [← RU.out.1, ← RU.out.2]; exact ⟨g0, g1⟩)
        have CN : Hid (crdK s (k + 1) = crdK s k ++ [4 * r + u]) := by show _ = _; rw [crdK_succ, ← RU.out.1, ← RU.out.2]
        have EX : Hid (Value.int .i64 (r * 4 + u) = .int .i64 (4 * r + u)) := int_eq (by omega)
        go_wp2_with fail
        refine (CR.out _).mono ?_
        rintro e w1 ⟨rfl, rfl⟩
        go_wp2_with fail
        refine (CS.out _).mono ?_
        rintro e w1 ⟨rfl, rfl⟩
        go_wp2_with (at_builtin; refine wpList_append_lies _ rfl (.tmp 38) (.tmp 43) 22 rfl w.heap.size 2 i0 (.int .i64 0) 1 8 Try.underlying22 HI.out.1 HI.out.2.1 HI.out.2.2.1 HI.out.2.2.2 rfl (by decide) _ k _ rfl (OW.out.alloc _) ⟨wr.heap.size, 0, none⟩ 1 1 [.int .i64 (r * 4 + u)] rfl rfl (World.news_of_block (heap_alloc_new _ _)) (by simp [Value.oneCell']) (by decide) (by simp only [maxLen]; have := HM.out; omega) (by have := HM.out; omega) (by simp; have := BL.out.size; omega) _ rfl ?_; intro q cap w5 hown5 hgrow5 hat5 hlt5; have O5 := Lib.hid hown5; have G5 := Lib.hid hgrow5; clear hown5 hgrow5 hat5 hlt5)
        go_roundw
        case rel => exact ⟨k + 1, m + 2, by go_num, by omega, by have := HM.out; show _ = _; omega, GN.out, by show World.ownsRow _ _ _ _ _ _ _; rw [CN.out, List.map_append, List.map_cons, List.map_nil, ← EX.out]; exact O5.out, ((BL.out.alloc BL.out.size _).grown G5.out (by simp; have := BL.out.size; omega) (fun j e => (OW.out.lt j e).1))⟩
        case measure => simp [intOf]; omega
      · have R := Lib.hid (read_no (goodR_bad (by rw [← HM.out]; exact hlt) (by rw [← RU.out.1, ← RU.out.2]; exact hg)))
        have FIN : Hid (GivesC w (readL s) (readX s) (.returned (.tuple #[.slice none 0 0, .int .i64 6])) wr) := by
          rw [R.out.1, R.out.2]
          exact ⟨none, 0, rfl, OwnI.nil_ _ _, BL.out⟩
        by_cases g0 : r < 0
        · clear hg
          go_wp2_with fail
          refine (CR.out _).mono ?_
          rintro e w1 ⟨rfl, rfl⟩
          go_wp2_with fail
          refine (CS.out _).mono ?_
          rintro e w1 ⟨rfl, rfl⟩
          go_wp2
          go_ret2
          exact FIN.out
        · have g1 : u < 0 := by omega
          have g0' : 0 ≤ r := by omega
          clear hg g0
          go_wp2_with fail
          refine (CR.out _).mono ?_
          rintro e w1 ⟨rfl, rfl⟩
          go_wp2_with fail
          refine (CS.out _).mono ?_
          rintro e w1 ⟨rfl, rfl⟩
          go_wp2
          go_ret2
          exact FIN.out
    · have KS : Hid (k = s.size / 2) := by show _ = _; have := HM.out; omega
      have ks : k ≤ 1048576 := by have := KS.out; omega
      obtain ⟨AF, cF, hv, hT⟩ := ownT_of_owns (xs := crdK s k) (by rw [crdK_length]; exact OW.out)
      rw [crdK_length] at hv
      subst hv
      have OT := Lib.hid hT
      clear hT OW
      obtain ⟨ok, hok⟩ : ∃ ok, ok = areC (crdK s k) := ⟨_, rfl⟩
      have HOK := Lib.hid hok
      clear hok
      go_wp2_with fail
      refine (implAreCards_len' AF cF (crdK s k) k _ (crdK_length s k).symm OT.out.own.row (by rw [crdK_length]; exact ks)).mono ?_
      rintro e w1 ⟨rfl, rfl⟩
      rw [← HOK.out]
      cases ok with
      | true =>
        have R := Lib.hid (read_yes (s := s) ⟨EV.out, by rw [← KS.out]; exact GK.out, by rw [← KS.out]; exact (areC_iff _).1 HOK.out.symm⟩)
        have FIN : Hid (GivesC w (readL s) (readX s) (.returned (.tuple #[.slice AF k cF, .int .i64 0])) wr) := by
          rw [R.out.1, R.out.2, ← KS.out]
          exact ⟨AF, cF, by rw [crdK_length], OT.out.own, BL.out⟩
        go_wp2
        go_ret2
        exact FIN.out
      | false =>
        have R := Lib.hid (read_no (s := s) (fun h => by
          have h3 := (areC_iff _).2 h.2.2
          rw [← KS.out, ← HOK.out] at h3; cases h3))
        have FIN : Hid (GivesC w (readL s) (readX s) (.returned (.tuple #[.slice none 0 0, .int .i64 6])) wr) := by
          rw [R.out.1, R.out.2]
          exact ⟨none, 0, rfl, OwnI.nil_ _ _, BL.out⟩
        go_wp2
        go_ret2
        exact FIN.out
end Go.Proofs.Ytmmpeaedglnjlaa
