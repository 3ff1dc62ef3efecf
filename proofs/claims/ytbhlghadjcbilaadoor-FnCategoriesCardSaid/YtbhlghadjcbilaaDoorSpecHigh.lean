/-
  The pieces of the value of five cards in the reference.
-/
import Derived.Test.YtbhlghadjcbilaaDoorHigh
import Derived.Test.YtbhlghadjcbilaaDoorRanks
import Derived.Test.YtbhlghadjcbilaaDoorSuits
namespace Go.Proofs.YtbhlghadjcbilaaDoor
open Go.RowKit

theorem digits_any (A : Option Addr) (c : Nat) (ks : List Nat) (w : World) (h : RowI w A (nI ks)) (hl : ks.length ≤ 5) (hk : ∀ d ∈ ks, d < 13) :
    Calls Tryd.prog 25 #[.slice A ks.length c] w fun e w' => e = .returned (.int .i64 (kvN 0 ks : Nat)) ∧ w = w' := by
  obtain ⟨n, hn⟩ : ∃ n, n = ks.length := ⟨_, rfl⟩
  rw [← hn] at hl ⊢
  have HN := Lib.hid hn
  have HR := Lib.hid h
  have HK := Lib.hid hk
  clear hn h hk
  go_enter Tryd.func25, Tryd.ntmps25
  go_wp2
  go_loop [3, 4] (fun v i => ∃ k : Nat, k ≤ n ∧ i = .int .i64 k ∧ v = .int .i64 (kvN 0 (ks.take k) : Nat)) (fun _ i => n - (intOf i).toNat)
  case atStart => exact ⟨0, Nat.zero_le _, rfl, rfl⟩
  case round =>
    obtain ⟨k, hkn, rfl, rfl⟩ := hrel
    by_cases hlt : k < n
    · have hkl : k < ks.length := by rw [← HN.out]; exact hlt
      obtain ⟨b, off, rfl, hb, hcell⟩ := HR.out.at_ (k := k) (by rw [nI_length]; exact hkl)
      rw [nI_getD _ _ hkl] at hcell
      obtain ⟨x, hx⟩ : ∃ x, x = ks.getD k 0 := ⟨_, rfl⟩
      have hx13 : x < 13 := by
        rw [hx, List.getD_eq_getElem?_getD, List.getElem?_eq_getElem hkl]
        exact HK.out _ (List.getElem_mem hkl)
      rw [← hx] at hcell
      obtain ⟨v, hv⟩ : ∃ v, v = kvN 0 (ks.take k) := ⟨_, rfl⟩
      have hv1 : v < 3341637 := by
        rw [hv]
        exact kv_small (fun d hd => HK.out d (List.mem_of_mem_take hd)) (by rw [List.length_take]; omega) (by omega)
      rw [← hv]
      have HX := Lib.hid hx
      have HV := Lib.hid hv
      have HKL := Lib.hid hkl
      clear hx hv hkl hb
      go_wp2
      go_round
      case rel => exact ⟨k + 1, by omega, by go_num, int_eq (by rw [kv_snoc 0 ks k HKL.out, ← HX.out, ← HV.out]; omega)⟩
      case measure => simp [intOf]; omega
    · have hkn' : k = n := by omega
      subst hkn'
      clear hlt
      go_wp2
      go_ret
      exact ⟨ret_int (by rw [HN.out, List.take_length]), rfl⟩

/-- What l04Straight hands back. -/
def stSI (c : Nat → Nat) : Int := match stS c with | some t => (t : Int) | none => -1
theorem beq1 (n : Nat) : ((n : Int) == 1) = (n == 1) := by
  rw [Bool.eq_iff_iff, beq_iff_eq, beq_iff_eq]; omega
theorem stS_find {c : Nat → Nat} {t : Nat} (h4 : 4 ≤ t) (h12 : t ≤ 12) (h : one5 c t = true) (hn : ∀ x, t < x → x ≤ 12 → one5 c x = false) : stS c = some t := by
  unfold stS
  cases e : [12, 11, 10, 9, 8, 7, 6, 5, 4].find? (one5 c)
  · have := List.find?_eq_none.1 e t (by simp only [List.mem_cons, List.not_mem_nil, or_false]; omega)
    rw [h] at this; exact absurd rfl this
  · next u =>
    obtain ⟨h1, h2, h3⟩ := find_top (by decide) e
    have hu : 4 ≤ u ∧ u ≤ 12 := by simp only [List.mem_cons, List.not_mem_nil, or_false] at h1; omega
    have h4' := h3 t (by simp only [List.mem_cons, List.not_mem_nil, or_false]; omega) h
    rcases Nat.lt_or_ge t u with g | g
    · have := hn u g hu.2
      rw [this] at h2; cases h2
    · rw [show u = t by omega]
theorem stS_low {c : Nat → Nat} (hn : ∀ x, 4 ≤ x → x ≤ 12 → one5 c x = false) : stS c = if oneLow c = true then some 3 else none := by
  unfold stS
  cases e : [12, 11, 10, 9, 8, 7, 6, 5, 4].find? (one5 c)
  · rfl
  · next u =>
    obtain ⟨h1, h2⟩ := find_mem e
    have hu : 4 ≤ u ∧ u ≤ 12 := by simp only [List.mem_cons, List.not_mem_nil, or_false] at h1; omega
    have := hn u hu.1 hu.2
    rw [this] at h2; cases h2
/-- The cells of counted ranks. -/
def IsCnt (w : World) (A : Option Addr) (c : Nat → Nat) : Prop := ∃ b off, A = some ⟨b, off, none⟩ ∧ b < w.heap.size ∧ ∀ r, r < 13 → w.cell? ⟨b, off + r, none⟩ = some (.int .i64 (c r : Nat))

set_option maxHeartbeats 2000000 in
theorem l04Straight_any (A : Option Addr) (cp : Nat) (c : Nat → Nat) (w : World) (h : IsCnt w A c) :
    Calls Tryd.prog 31 #[.slice A 13 cp] w fun e w' => e = .returned (.int .i64 (stSI c)) ∧ w = w' := by
  obtain ⟨b, off, rfl, hb, hc⟩ := h
  have HC := Lib.hid hc
  clear hc hb
  go_enter Tryd.func31, Tryd.ntmps31
  go_wp2
  go_loop [3] (fun t => ∃ q : Nat, 3 ≤ q ∧ q ≤ 12 ∧ t = .int .i64 (q : Int) ∧ Hid (∀ x, q < x → x ≤ 12 → one5 c x = false)) (fun t => (intOf t).toNat)
  case atStart => exact ⟨12, by omega, by omega, rfl, fun x h1 h2 => by omega⟩
  case round =>
    obtain ⟨q, h3, h12, rfl, hno⟩ := hrel
    by_cases hq : 4 ≤ q
    · obtain ⟨p, rfl⟩ : ∃ p, q = p + 4 := ⟨q - 4, by omega⟩
      have c4 := HC.out (p + 4) (by omega)
      have c3 := HC.out (p + 3) (by omega)
      have c2 := HC.out (p + 2) (by omega)
      have c1 := HC.out (p + 1) (by omega)
      have c0 := HC.out p (by omega)
      obtain ⟨n4, e4⟩ : ∃ n, n = c (p + 4) := ⟨_, rfl⟩
      obtain ⟨n3, e3⟩ : ∃ n, n = c (p + 3) := ⟨_, rfl⟩
      obtain ⟨n2, e2⟩ : ∃ n, n = c (p + 2) := ⟨_, rfl⟩
      obtain ⟨n1, e1⟩ : ∃ n, n = c (p + 1) := ⟨_, rfl⟩
      obtain ⟨n0, e0⟩ : ∃ n, n = c p := ⟨_, rfl⟩
      rw [← e4] at c4
      rw [← e3] at c3
      rw [← e2] at c2
      rw [← e1] at c1
      rw [← e0] at c0
      have O : Hid (one5 c (p + 4) = (n4 == 1 && n3 == 1 && n2 == 1 && n1 == 1 && n0 == 1)) := by
        show _ = _
        unfold one5
        rw [e4, e3, e2, e1, e0]; rfl
      clear e4 e3 e2 e1 e0
      have YES : Hid ((n4 : Int) = 1 ∧ (n3 : Int) = 1 ∧ (n2 : Int) = 1 ∧ (n1 : Int) = 1 ∧ (n0 : Int) = 1 → stSI c = ((p + 4 : Nat) : Int)) := by
        rintro ⟨a, b, d, f, g⟩
        have : stS c = some (p + 4) := stS_find (by omega) h12 (by
          rw [O.out]; simp; omega) hno.out
        unfold stSI; rw [this]
      have NO : Hid (¬ ((n4 : Int) = 1 ∧ (n3 : Int) = 1 ∧ (n2 : Int) = 1 ∧ (n1 : Int) = 1 ∧ (n0 : Int) = 1) → ∀ x, p + 3 < x → x ≤ 12 → one5 c x = false) := by
        intro hne x g1 g2
        rcases Nat.lt_or_ge (p + 4) x with g | g
        · exact hno.out x g g2
        · rw [show x = p + 4 by omega, O.out]
          cases e : (n4 == 1 && n3 == 1 && n2 == 1 && n1 == 1 && n0 == 1)
          · rfl
          · exfalso; simp at e; omega
      go_wp2
      all_goals first
        | (go_round
           case rel => exact ⟨p + 3, by omega, by omega, int_eq (by omega), NO.out (by first | omega | (simp only [beq_eq_false_iff_ne, ne_eq] at *; omega))⟩
           case measure => simp [intOf] <;> omega)
        | (go_ret
           exact ⟨ret_int (YES.out (by first | omega | (simp only [beq_iff_eq] at *; omega))).symm, rfl⟩)
    · have hq3 : q = 3 := by omega
      subst hq3
      have c0 := HC.out 0 (by omega)
      have c1 := HC.out 1 (by omega)
      have c2 := HC.out 2 (by omega)
      have c3 := HC.out 3 (by omega)
      have c4 := HC.out 12 (by omega)
      obtain ⟨n4, e4⟩ : ∃ n, n = c 12 := ⟨_, rfl⟩
      obtain ⟨n3, e3⟩ : ∃ n, n = c 3 := ⟨_, rfl⟩
      obtain ⟨n2, e2⟩ : ∃ n, n = c 2 := ⟨_, rfl⟩
      obtain ⟨n1, e1⟩ : ∃ n, n = c 1 := ⟨_, rfl⟩
      obtain ⟨n0, e0⟩ : ∃ n, n = c 0 := ⟨_, rfl⟩
      rw [← e4] at c4
      rw [← e3] at c3
      rw [← e2] at c2
      rw [← e1] at c1
      rw [← e0, Nat.add_zero] at c0
      have O : Hid (oneLow c = (n0 == 1 && n1 == 1 && n2 == 1 && n3 == 1 && n4 == 1)) := by
        show _ = _
        unfold oneLow
        rw [e4, e3, e2, e1, e0]
      have LO := Lib.hid (stS_low (c := c) (fun x g1 g2 => hno.out x (by omega) g2))
      have YES : Hid ((n4 : Int) = 1 ∧ (n3 : Int) = 1 ∧ (n2 : Int) = 1 ∧ (n1 : Int) = 1 ∧ (n0 : Int) = 1 → stSI c = 3) := by
        rintro ⟨a, b, d, f, g⟩
        unfold stSI; rw [LO.out, if_pos (by rw [O.out]; simp; omega)]; rfl
      have NO : Hid (¬ ((n4 : Int) = 1 ∧ (n3 : Int) = 1 ∧ (n2 : Int) = 1 ∧ (n1 : Int) = 1 ∧ (n0 : Int) = 1) → stSI c = -1) := by
        intro hne
        unfold stSI; rw [LO.out, if_neg (by rw [O.out]; simp; omega)]
      clear e4 e3 e2 e1 e0
      go_wp2
      all_goals
        go_ret
        first
          | exact ⟨ret_int (YES.out (by first | omega | (simp only [beq_iff_eq] at *; omega))).symm, rfl⟩
          | exact ⟨ret_int (NO.out (by first | omega | (simp only [beq_eq_false_iff_ne, ne_eq] at *; omega))).symm, rfl⟩

/-! ### The kickers -/
theorem cntN_cnt (xs : List Int) (j k : Nat) (hk : k ≤ xs.length) : cntN rkKey xs j k = ((cnt (xs.take k) j : Nat) : Int) := by
  induction k with
  | zero => rfl
  | succ k ih =>
    rw [cntN_succ, ih (by omega), take_snoc (by omega)]
    generalize xs.getD k 0 = x
    unfold cnt
    rw [List.countP_append]
    by_cases e : x / 4 = (j : Int)
    · simp [rkKey, e]
    · simp [rkKey, e]
theorem sutN_sut (xs : List Int) (j k : Nat) (hk : k ≤ xs.length) : cntN suKey xs j k = ((sut (xs.take k) j : Nat) : Int) := by
  induction k with
  | zero => rfl
  | succ k ih =>
    rw [cntN_succ, ih (by omega), take_snoc (by omega)]
    generalize xs.getD k 0 = x
    unfold sut
    rw [List.countP_append]
    by_cases e : x % 4 = (j : Int)
    · simp [suKey, e]
    · simp [suKey, e]
theorem isCnt_of {w : World} {lo : Nat} {A : Option Addr} {cp : Nat} {xs : List Int} (h : OwnI w lo A cp (cntL rkKey 13 xs)) : IsCnt w A (cnt xs) := by
  rcases h.row with h | ⟨b, off, e, hb, hc⟩
  · have := congrArg List.length h; rw [cntL_length] at this; cases this
  · refine ⟨b, off, e, hb, fun r hr => ?_⟩
    rw [hc r (by rw [cntL_length]; exact hr), cntL_getD _ _ _ _ hr, cntN_cnt _ _ _ (Nat.le_refl _), List.take_length]

/-- Of the first m multiplicities, from four down, the ranks. -/
def ordA (c : Nat → Nat) (m : Nat) : List Nat := ([4, 3, 2, 1].take m).flatMap fun n => ranks.flatMap fun r => if c r = n then List.replicate n r else []
def ordB (c : Nat → Nat) (n q : Nat) : List Nat := (ranks.take q).flatMap fun r => if c r = n then List.replicate n r else []
theorem ordA_succ (c : Nat → Nat) (m : Nat) (h : m < 4) : ordA c (m + 1) = ordA c m ++ ordB c (4 - m) 13 := by
  have : [4, 3, 2, 1].take (m + 1) = [4, 3, 2, 1].take m ++ [4 - m] := by
    have all : ∀ m, m < 4 → [4, 3, 2, 1].take (m + 1) = [4, 3, 2, 1].take m ++ [4 - m] := by decide
    exact all m h
  unfold ordA ordB
  rw [this, List.flatMap_append]
  simp [List.flatMap_cons, show ranks.take 13 = ranks from rfl]
theorem ordB_succ (c : Nat → Nat) (n q : Nat) (h : q < 13) : ordB c n (q + 1) = ordB c n q ++ if c (12 - q) = n then List.replicate n (12 - q) else [] := by
  unfold ordB
  rw [ranks_take q h, List.flatMap_append]
  simp [List.flatMap_cons]
theorem rep_snoc (n r : Nat) : List.replicate (n + 1) r = List.replicate n r ++ [r] := List.replicate_succ'
end Go.Proofs.YtbhlghadjcbilaaDoor
