/-
  Numbers are read out of texts: the reference's l01Value and l01Signed.
-/
import Derived.Test.YtfccmgnoebdlgaaDoorRatRead1
namespace Go.Proofs.YtfccmgnoebdlgaaDoor
open Go.RowKit

theorem fold_take (l : List UInt8) (k : Nat) (hk : k < l.length) : foldV 0 (l.take (k + 1)) = 10 * foldV 0 (l.take k) + (l[k].toNat - 48) := by
  unfold foldV
  rw [← List.take_append_getElem hk, List.foldl_append]
  rfl
theorem pow_le_9 {k : Nat} (h : k ≤ 9) : 10 ^ k ≤ 1000000000 := by
  have := Nat.pow_le_pow_right (show 0 < 10 by omega) h
  have e : (10 : Nat) ^ 9 = 1000000000 := by decide
  omega
/-- What l01Value returns. -/
def ValR (s : ByteArray) (w : World) (e : Ending) (w' : World) : Prop :=
  ∃ (v : Int) (b : Bool), e = .returned (.tuple #[.int .i64 v, .bool b]) ∧ (0 ≤ v ∧ v ≤ 100000000000) ∧ (b = true → 1 ≤ s.size) ∧ (∀ m : Nat, m < 10000000000 → s = bytesOf (Lib.decDigits m) → v = (m : Int) ∧ b = true) ∧ Below w.heap.size w w'

theorem ValR.no {s : ByteArray} {w w' : World} (hb : Below w.heap.size w w') (h : ∀ m : Nat, m < 10000000000 → s ≠ bytesOf (Lib.decDigits m)) : ValR s w (.returned (.tuple #[.int .i64 0, .bool false])) w' :=
  ⟨0, false, rfl, by omega, by simp, fun m h1 h2 => absurd h2 (h m h1), hb⟩
set_option maxHeartbeats 4000000 in
set_option maxRecDepth 8000 in
theorem l01Value_any (s : ByteArray) (w : World) (hs : s.size ≤ 1048576) :
    Calls Tryd.prog 24 #[.string s] w (ValR s w) := by
  by_cases hsz : 1 ≤ s.size ∧ s.size ≤ 10
  · obtain ⟨z1, z2⟩ := hsz
    have d1 : ¬ ((s.size : Int) < 1) := by omega
    have d2 : ¬ (10 < (s.size : Int)) := by omega
    go_enter Tryd.func24, Tryd.ntmps24
    go_wp2
    go_loop [4, 5] (fun n i => ∃ k m : Nat, k ≤ s.size ∧ i = .int .i64 k ∧ n = .int .i64 m ∧ Hid (m = foldV 0 (s.data.toList.take k)) ∧ Hid (m < 10 ^ k)) (fun _ i => s.size - (intOf i).toNat)
    case atStart => exact ⟨0, 0, Nat.zero_le _, rfl, rfl, rfl, by show 0 < 10 ^ 0; decide⟩
    case round =>
      obtain ⟨k, m, hk, rfl, rfl, HM, HB⟩ := hrel
      by_cases hlt : k < s.size
      · have i0 : (0 : Int) ≤ (k : Int) := by omega
        have i1 : (k : Int) < (s.size : Int) := by omega
        have hlen : k < s.data.toList.length := hlt
        have hget : s.data.toList[k] = s[k]'hlt := by simp; rfl
        obtain ⟨c, hc⟩ : ∃ c, c = (s[k]'hlt).toNat := ⟨_, rfl⟩
        have mb : m < 1000000000 := by have h1 := HB.out; have h2 := pow_le_9 (k := k) (by omega); omega
        have HC : Hid (c = (s.data.toList[k]).toNat) := by show _ = _; rw [hget, hc]
        have c256 : c < 256 := by rw [hc]; exact UInt8.toNat_lt _
        by_cases hd : 48 ≤ c ∧ c ≤ 57
        · obtain ⟨e0, e1⟩ := hd
          have g1 : ¬ (((s[k]'hlt).toNat : Int) < 48) := by rw [← hc]; omega
          have g2 : ¬ ((57 : Int) < ((s[k]'hlt).toNat : Int)) := by rw [← hc]; omega
          have w1 : IntKind.i64.wrap (10 * (m : Int)) = 10 * (m : Int) := IntWalk.i64_in _ (by omega)
          have w2 : IntKind.u8.wrap (((s[k]'hlt).toNat : Int) - 48) = (c : Int) - 48 := by
            rw [← hc]
            have : ∀ q : Fin 10, IntKind.u8.wrap (((q.val + 48 : Nat) : Int) - 48) = ((q.val + 48 : Nat) : Int) - 48 := by decide
            have := this ⟨c - 48, by omega⟩
            rwa [show (c - 48 + 48) = c by omega] at this
          have w3 : IntKind.i64.wrap ((c : Int) - 48) = (c : Int) - 48 := IntWalk.i64_in _ (by omega)
          have w4 : IntKind.i64.wrap (10 * (m : Int) + ((c : Int) - 48)) = ((10 * m + (c - 48) : Nat) : Int) := by rw [IntWalk.i64_in _ (by omega)]; omega
          have NX : Hid (10 * m + (c - 48) = foldV 0 (s.data.toList.take (k + 1))) := by show _ = _; rw [fold_take _ _ hlen, ← HM.out, ← HC.out]
          have NB : Hid (10 * m + (c - 48) < 10 ^ (k + 1)) := by show _ < _; have := HB.out; rw [Nat.pow_succ]; omega
          obtain ⟨m2, hm2⟩ : ∃ m2, m2 = 10 * m + (c - 48) := ⟨_, rfl⟩
          rw [← hm2] at w4 NX NB
          clear hm2 hc hget
          go_wp2
          go_round
          case rel => exact ⟨k + 1, m2, by omega, by go_num, by go_num, NX.out, NB.out⟩
          case measure => simp [intOf]; omega
        · have FIN : Hid (∀ q, ValR s w (.returned (.tuple #[.int .i64 0, .bool false])) (w.drewN q)) := fun q => ValR.no (below_drewN (Below.refl _ _) q) fun m' h1 h2 => by
            have hd' := (dec_dig (m' + 1) m' (by omega)).1
            rw [← bytesOf_list (Lib.decDigits m'), ← h2] at hd'
            have := hd' _ (List.getElem_mem hlen)
            rw [← HC.out] at this
            exact hd this
          have FIN0 : Hid (ValR s w (.returned (.tuple #[.int .i64 0, .bool false])) w) := FIN.out 0
          by_cases hl : c < 48
          · have g1 : ((s[k]'hlt).toNat : Int) < 48 := by rw [← hc]; omega
            clear hc hget hd
            go_wp2
            go_ret2
            exact FIN0.out
          · have g1 : ¬ (((s[k]'hlt).toNat : Int) < 48) := by rw [← hc]; omega
            have g2 : ((57 : Int) < ((s[k]'hlt).toNat : Int)) := by rw [← hc]; omega
            clear hc hget hd
            go_wp2
            go_ret2
            exact FIN0.out
      · have hks : k = s.size := by omega
        have mb : m < 10000000000 := by
          have h1 := HB.out
          have h2 : 10 ^ k ≤ 10 ^ 10 := Nat.pow_le_pow_right (by omega) (by omega)
          have e : (10 : Nat) ^ 10 = 10000000000 := by decide
          omega
        have FM : Hid (m = foldV 0 s.data.toList) := by
          show _ = _
          rw [HM.out, hks]
          congr 1
          exact List.take_of_length_le (Nat.le_refl _)
        go_wp2_with fail
        refine (l01Dec_any (m + 1) m _ (by omega) (by omega)).mono ?_
        rintro e w1 ⟨rfl, hb⟩
        have B1 := Lib.hid hb
        obtain ⟨T, hT⟩ : ∃ T, T = bytesOf (Lib.decDigits m) := ⟨_, rfl⟩
        have TT := Lib.hid hT
        rw [← hT]
        clear hb hT
        have UN : Hid (∀ m' : Nat, s = bytesOf (Lib.decDigits m') → m = m') := fun m' h2 => by
          have hf := (dec_dig (m' + 1) m' (by omega)).2.2
          rw [FM.out, h2, bytesOf_list]; exact hf
        by_cases e : T = s
        · subst e
          have FIN : Hid (ValR T w (.returned (.tuple #[.int .i64 m, .bool true])) w1) := ⟨m, true, rfl, by omega, fun _ => z1, fun m' h1 h2 => ⟨by rw [UN.out m' h2], rfl⟩, B1.out⟩
          go_wp2
          go_ret2
          exact FIN.out
        · have e1 : (T.toList == s.toList) = false := list_ne e
          have FIN : Hid (ValR s w (.returned (.tuple #[.int .i64 m, .bool false])) w1) := ⟨m, false, rfl, by omega, by simp, fun m' h1 h2 => absurd (by rw [TT.out, UN.out m' h2]; exact h2.symm) e, B1.out⟩
          go_wp2
          go_ret2
          exact FIN.out
  · have FIN : Hid (ValR s w (.returned (.tuple #[.int .i64 0, .bool false])) w) := ValR.no (Below.refl _ _) fun m h1 h2 => by
      have e1 := decDigits_len 9 m (by have e : (10 : Nat) ^ (9 + 1) = 10000000000 := by decide
                                       omega)
      have e2 := (dec_dig (m + 1) m (by omega)).2.1
      have e3 : s.size = (Lib.decDigits m).length := by rw [h2, bytesOf_size]
      have e4 := List.length_pos_iff.2 e2
      exact hsz (by omega)
    by_cases h1 : 1 ≤ s.size
    · have d1 : ¬ ((s.size : Int) < 1) := by omega
      have d2 : (10 < (s.size : Int)) := by omega
      clear hsz
      go_enter Tryd.func24, Tryd.ntmps24
      go_wp2
      go_ret2
      exact FIN.out
    · have d1 : ((s.size : Int) < 1) := by omega
      clear hsz
      go_enter Tryd.func24, Tryd.ntmps24
      go_wp2
      go_ret2
      exact FIN.out
end Go.Proofs.YtfccmgnoebdlgaaDoor
