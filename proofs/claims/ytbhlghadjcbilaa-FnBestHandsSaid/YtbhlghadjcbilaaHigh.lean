/-
  The pieces of a value in the program: digits behind a category, the best straight of a set of ranks, the greatest ranks of a set.
-/
import Derived.Test.YtbhlghadjcbilaaAreCards
import Derived.Test.YtbhlghadjcbilaaMathCrd
import Derived.Laws.BitsAllLaws
namespace Go.Proofs.Ytbhlghadjcbilaa
open Go.RowKit

/-- Ranks as numbers. -/
def nI (ks : List Nat) : List Int := ks.map fun k => ((k : Nat) : Int)
theorem nI_length (ks : List Nat) : (nI ks).length = ks.length := by simp [nI]
theorem nI_getD (ks : List Nat) (k : Nat) (h : k < ks.length) : (nI ks).getD k 0 = ((ks.getD k 0 : Nat) : Int) := by
  simp [nI, List.getD_eq_getElem?_getD, h]
theorem kv_bd : ∀ (ds : List Nat), (∀ d ∈ ds, d < 13) → ∀ c, kvN c ds < (c + 1) * 13 ^ ds.length
  | [], _, c => by simp [kvN]
  | d :: ds, h, c => by
    rw [kvN_cons, List.length_cons, Nat.pow_succ, ← Nat.mul_assoc, Nat.mul_right_comm]
    have h1 := kv_bd ds (fun x hx => h x (by simp [hx])) (c * 13 + d)
    have h2 := h d (by simp)
    exact Nat.lt_of_lt_of_le h1 (Nat.mul_le_mul_right _ (by omega))
theorem kv_small {ds : List Nat} {c : Nat} (h : ∀ d ∈ ds, d < 13) (hl : ds.length ≤ 5) (hc : c ≤ 8) : kvN c ds < 3341637 := by
  have h1 := kv_bd ds h c
  have h2 : 13 ^ ds.length ≤ 13 ^ 5 := Nat.pow_le_pow_right (by omega) hl
  have h3 : (c + 1) * 13 ^ ds.length ≤ 9 * 13 ^ 5 := Nat.mul_le_mul (by omega) h2
  omega
theorem kv_snoc (c : Nat) (ds : List Nat) (k : Nat) (h : k < ds.length) : kvN c (ds.take (k + 1)) = kvN c (ds.take k) * 13 + ds.getD k 0 := by
  rw [List.take_succ_eq_append_getElem h, kvN_append]
  simp [kvN, List.getD_eq_getElem?_getD, h]

theorem kicker_any (A : Option Addr) (c : Nat) (ks : List Nat) (cat : Nat) (w : World) (h : RowI w A (nI ks)) (hl : ks.length ≤ 5) (hk : ∀ d ∈ ks, d < 13) (hc : cat ≤ 8) :
    Calls Try.prog 128 #[.int .i64 cat, .slice A ks.length c] w fun e w' => e = .returned (.int .i64 (kvN cat ks : Nat)) ∧ w = w' := by
  obtain ⟨n, hn⟩ : ∃ n, n = ks.length := ⟨_, rfl⟩
  rw [← hn] at hl ⊢
  have HN := Lib.hid hn
  have HR := Lib.hid h
  have HK := Lib.hid hk
  clear hn h hk
  go_enter Try.func128, Try.ntmps128
  go_wp2
  go_loop [0, 6, 9] (fun v _ i => ∃ k : Nat, k ≤ n ∧ i = .int .i64 k ∧ v = .int .i64 (kvN cat (ks.take k) : Nat)) (fun _ _ i => n - (intOf i).toNat)
  case atStart => exact ⟨0, Nat.zero_le _, rfl, rfl⟩
  case round =>
    obtain ⟨k, hkn, rfl, rfl⟩ := hrel
    by_cases hlt : k < n
    · have hkl : k < ks.length := by rw [← HN.out]; exact hlt
      obtain ⟨b, off, rfl, hb, hcell⟩ := HR.out.at_ (k := k) (by rw [nI_length]; exact hkl)
      rw [nI_getD _ _ hkl] at hcell
      obtain ⟨x, hx⟩ : ∃ x, x = ks.getD k 0 := ⟨_, rfl⟩
      have hx13 : x < 13 := by
        rw [hx, List.getD_eq_getElem?_getD, List.getElem?_eq_getElem hkl]
        exact HK.out _ (List.getElem_mem hkl)
      rw [← hx] at hcell
      obtain ⟨v, hv⟩ : ∃ v, v = kvN cat (ks.take k) := ⟨_, rfl⟩
      have hv1 : v < 3341637 := by
        rw [hv]
        exact kv_small (fun d hd => HK.out d (List.mem_of_mem_take hd)) (by rw [List.length_take]; omega) hc
      rw [← hv]
      have HX := Lib.hid hx
      have HV := Lib.hid hv
      have HKL := Lib.hid hkl
      clear hx hv hkl hb
      go_wp2
      go_round
      case rel => exact ⟨k + 1, by omega, by go_num, int_eq (by rw [kv_snoc cat ks k HKL.out, ← HX.out, ← HV.out]; omega)⟩
      case measure => simp [intOf]; omega
    · have hkn' : k = n := by omega
      subst hkn'
      clear hlt
      go_wp2
      go_ret
      exact ⟨ret_int (by rw [HN.out, List.take_length]), rfl⟩
theorem kicker_at (A : Option Addr) (c len : Nat) (ks : List Nat) (cat : Nat) (v : Int) (w : World) (hv : v = (cat : Int)) (hlen : len = ks.length) (h : RowI w A (nI ks)) (hl : ks.length ≤ 5) (hk : ∀ d ∈ ks, d < 13) (hc : cat ≤ 8) :
    Calls Try.prog 128 #[.int .i64 v, .slice A len c] w fun e w' => e = .returned (.int .i64 (kvN cat ks : Nat)) ∧ w = w' := by subst hlen hv; exact kicker_any A c ks cat w h hl hk hc

/-- A new block of numbers, as a list. -/
theorem rowI_new (w : World) (cs : Array Value) (t : TypeId) (ys : List Int) (h : cs = (ys.map (Value.int .i64)).toArray) : RowI (w.alloc (.cells cs t)) (some ⟨w.heap.size, 0, none⟩) ys := by
  subst h
  refine .inr ⟨w.heap.size, 0, rfl, by simp, fun k hk => ?_⟩
  have := (World.rowIs_alloc w (ys.map (Value.int .i64)).toArray t (fun j => .int .i64 (ys.getD j 0)) (fun i hi => by
    have hi' : i < ys.length := by simpa using hi
    simp [List.getD_eq_getElem?_getD, hi'])).cell (i := k) (by simpa using hk)
  rw [Nat.zero_add]
  exact this

/-! ### Straights -/
theorem bit_iff (m r : Nat) : m.testBit r = decide (m / 2 ^ r % 2 = 1) := Nat.testBit_eq_decide_div_mod_eq
theorem mod32 (x : Nat) : x % 32 = 31 ↔ x % 2 = 1 ∧ x / 2 % 2 = 1 ∧ x / 4 % 2 = 1 ∧ x / 8 % 2 = 1 ∧ x / 16 % 2 = 1 := by omega
theorem st_bits (m p : Nat) : stAt (fun r => m.testBit r) (p + 4) = decide (m / 2 ^ p % 32 = 31) := by
  unfold stAt
  have e : ∀ j, m.testBit (p + j) = decide (m / 2 ^ p / 2 ^ j % 2 = 1) := fun j => by
    rw [bit_iff, Nat.pow_add, Nat.div_div_eq_div_mul]
  have e0 := e 0; have e1 := e 1; have e2 := e 2; have e3 := e 3; have e4 := e 4
  simp only [Nat.add_zero, Nat.pow_zero, Nat.div_one, Nat.pow_one, show (2 : Nat) ^ 2 = 4 by decide, show (2 : Nat) ^ 3 = 8 by decide, show (2 : Nat) ^ 4 = 16 by decide] at e0 e1 e2 e3 e4
  simp only [show p + 4 - 1 = p + 3 by omega, show p + 4 - 2 = p + 2 by omega, show p + 4 - 3 = p + 1 by omega, show p + 4 - 4 = p by omega, e0, e1, e2, e3, e4]
  rw [Bool.eq_iff_iff]
  simp only [Bool.and_eq_true, decide_eq_true_eq, mod32]
  constructor
  · rintro ⟨⟨⟨⟨a, b⟩, c⟩, d⟩, f⟩; exact ⟨f, d, c, b, a⟩
  · rintro ⟨f, d, c, b, a⟩; exact ⟨⟨⟨⟨a, b⟩, c⟩, d⟩, f⟩
theorem low_bits (m : Nat) (h : m < 8192) : lowAt (fun r => m.testBit r) = decide (m &&& 4111 = 4111) := by
  have all : ∀ a, a < 128 → ∀ b, b < 64 → lowAt (fun r => (64 * a + b).testBit r) = decide ((64 * a + b) &&& 4111 = 4111) := by decide +kernel
  have := all (m / 64) (by omega) (m % 64) (by omega)
  rw [Nat.div_add_mod] at this
  exact this
theorem u64_m31 (m p : Nat) (h : m < 8192) : bits BinOp.and IntKind.u64 ((m : Int) / 2 ^ p) 31 = ((m / 2 ^ p % 32 : Nat) : Int) := by
  have e : ((m : Int) / 2 ^ p) = ((m / 2 ^ p : Nat) : Int) := by simp
  have h1 : m / 2 ^ p < 18446744073709551616 := Nat.lt_of_le_of_lt (Nat.div_le_self _ _) (by omega)
  rw [e]
  have := u64_and_nat (m / 2 ^ p) 31 h1 (by omega)
  rw [show m / 2 ^ p &&& 31 = m / 2 ^ p % 32 from Nat.and_two_pow_sub_one_eq_mod (m / 2 ^ p) 5] at this
  exact this
theorem u64_low (m : Nat) (h : m < 8192) : bits BinOp.and IntKind.u64 (m : Int) 4111 = ((m &&& 4111 : Nat) : Int) := u64_and_nat m 4111 (by omega) (by omega)

/-- What straightIn hands back. -/
def stI (P : Nat → Bool) (cat : Nat) (low : Bool) : Int := match stO P cat low with | some v => (v : Int) | none => -1
theorem stI_some {P : Nat → Bool} {cat v : Nat} {low : Bool} (h : stO P cat low = some v) : stI P cat low = (v : Int) := by unfold stI; rw [h]
theorem stI_none {P : Nat → Bool} {cat : Nat} {low : Bool} (h : stO P cat low = none) : stI P cat low = -1 := by unfold stI; rw [h]
theorem stTop_of {P : Nat → Bool} {t : Nat} (h4 : 4 ≤ t) (h12 : t ≤ 12) (h : stAt P t = true) (hn : ∀ x, t < x → x ≤ 12 → stAt P x = false) : stTop P = some t := by
  cases e : stTop P
  · have := stTop_none e t h4 h12
    rw [this] at h; cases h
  · next u =>
    obtain ⟨a, b, d, f⟩ := stTop_some e
    have h1 := f t h4 h12 h
    rcases Nat.lt_or_ge t u with g | g
    · have := hn u g b
      rw [this] at d; cases d
    · rw [show u = t by omega]
theorem stTop_no {P : Nat → Bool} (hn : ∀ x, 4 ≤ x → x ≤ 12 → stAt P x = false) : stTop P = none := by
  cases e : stTop P
  · rfl
  · obtain ⟨a, b, d, f⟩ := stTop_some e
    have := hn _ a b
    rw [this] at d; cases d

set_option maxHeartbeats 1000000 in
theorem straight_any (m cat : Nat) (low : Bool) (w : World) (hm : m < 8192) (hc : cat ≤ 8) :
    Calls Try.prog 126 #[.int .u64 m, .int .i64 cat, .bool low] w fun e w' => e = .returned (.int .i64 (stI (fun r => m.testBit r) cat low)) ∧ Below w.heap.size w w' := by
  obtain ⟨P, hP⟩ : ∃ P, P = fun r => m.testBit r := ⟨_, rfl⟩
  have hst : ∀ p, stAt P (p + 4) = decide (m / 2 ^ p % 32 = 31) := fun p => by rw [hP]; exact st_bits m p
  have hlow : lowAt P = decide (m &&& 4111 = 4111) := by rw [hP]; exact low_bits m hm
  rw [← hP]
  have HS := Lib.hid hst
  have HL := Lib.hid hlow
  have HM := Lib.hid hm
  have HC := Lib.hid hc
  clear hst hlow hP hm hc
  obtain ⟨C, hC⟩ : ∃ C : Int, C = (cat : Int) := ⟨_, rfl⟩
  rw [← hC]
  have HC1 := Lib.hid hC
  clear hC
  go_enter Try.func126, Try.ntmps126
  go_wp2
  go_loop [7] (fun t => ∃ q : Nat, 3 ≤ q ∧ q ≤ 12 ∧ t = .int .i64 (q : Int) ∧ Hid (∀ x, q < x → x ≤ 12 → stAt P x = false)) (fun t => (intOf t).toNat)
  case atStart => exact ⟨12, by omega, by omega, rfl, fun x h1 h2 => by omega⟩
  case round =>
    obtain ⟨q, h3, h12, rfl, hno⟩ := hrel
    by_cases hq : 4 ≤ q
    · obtain ⟨p, rfl⟩ : ∃ p, q = p + 4 := ⟨q - 4, by omega⟩
      have e1 : (((p + 4 : Nat)) : Int) - 4 = (p : Int) := by omega
      by_cases hs : m / 2 ^ p % 32 = 31
      · have hd : (bits BinOp.and IntKind.u64 ((m : Int) / 2 ^ p) 31 == 31) = true := by rw [u64_m31 m p HM.out, hs]; rfl
        have R : Hid (stO P cat low = some (kvN cat [p + 4, p + 3, p + 2, p + 1, p])) := by
          show stO P cat low = _
          unfold stO
          rw [stTop_of (t := p + 4) (by omega) h12 (by rw [HS.out]; simpa using hs) hno.out]
          rfl
        clear hs
        go_wp2_with fail
        refine (kicker_at _ _ _ [p + 4, p + 3, p + 2, p + 1, p] cat _ _ HC1.out rfl (rowI_new _ _ _ _ ?_) (by simp) (fun d hd => by simp only [List.mem_cons, List.not_mem_nil, or_false] at hd; omega) HC.out).mono ?_
        · simp [nI]; omega
        rintro e w2 ⟨rfl, rfl⟩
        go_wp2
        go_ret
        exact ⟨ret_int (stI_some R.out).symm, (Below.refl _ _).alloc (Nat.le_refl _) _⟩
      · have hd : (bits BinOp.and IntKind.u64 ((m : Int) / 2 ^ p) 31 == 31) = false := by
          rw [u64_m31 m p HM.out]
          refine beq_eq_false_iff_ne.2 fun e => ?_
          generalize m / 2 ^ p = z at hs e
          omega
        have hs' := Lib.hid hs
        clear hs
        go_wp2
        go_round
        case rel =>
          refine ⟨p + 3, by omega, by omega, int_eq (by omega), fun x h1 h2 => ?_⟩
          rcases Nat.lt_or_ge (p + 4) x with g | g
          · exact hno.out x g h2
          · rw [show x = p + 4 by omega, HS.out]; simpa using hs'.out
        case measure => simp [intOf] <;> omega
    · have hq3 : q = 3 := by omega
      subst hq3
      have hno' : ∀ x, 4 ≤ x → x ≤ 12 → stAt P x = false := fun x h1 h2 => hno.out x (by omega) h2
      have HN := Lib.hid (stTop_no hno')
      clear hno hno'
      cases low
      · have R : Hid (stO P cat false = none) := by show stO P cat false = none; unfold stO; rw [HN.out]; simp
        go_wp2
        go_ret
        exact ⟨ret_int (stI_none R.out).symm, Below.refl _ _⟩
      · by_cases hs : m &&& 4111 = 4111
        · have hd : (bits BinOp.and IntKind.u64 (m : Int) 4111 == 4111) = true := by rw [u64_low m HM.out, hs]; rfl
          have R : Hid (stO P cat true = some (kvN cat [3, 2, 1, 0, 12])) := by show stO P cat true = _; unfold stO; rw [HN.out, HL.out]; simp [hs]
          clear hs
          go_wp2_with fail
          refine (kicker_at _ _ _ [3, 2, 1, 0, 12] cat _ _ HC1.out rfl (rowI_new _ _ _ _ (by simp [nI])) (by simp) (fun d hd => by simp only [List.mem_cons, List.not_mem_nil, or_false] at hd; omega) HC.out).mono ?_
          rintro e w2 ⟨rfl, rfl⟩
          go_wp2
          go_ret
          exact ⟨ret_int (stI_some R.out).symm, (Below.refl _ _).alloc (Nat.le_refl _) _⟩
        · have hd : (bits BinOp.and IntKind.u64 (m : Int) 4111 == 4111) = false := by rw [u64_low m HM.out]; simp; omega
          have R : Hid (stO P cat true = none) := by show stO P cat true = _; unfold stO; rw [HN.out, HL.out]; simp [hs]
          clear hs
          go_wp2
          go_ret
          exact ⟨ret_int (stI_none R.out).symm, Below.refl _ _⟩

/-! ### The greatest ranks -/
theorem ranks_take (q : Nat) (h : q < 13) : ranks.take (q + 1) = ranks.take q ++ [12 - q] := by
  have all : ∀ q, q < 13 → ranks.take (q + 1) = ranks.take q ++ [12 - q] := by decide
  exact all q h
/-- Of the first q ranks, from above, those that a set holds. -/
def Lq (P : Nat → Bool) (q : Nat) : List Nat := (ranks.take q).filter P
theorem Lq_all (P : Nat → Bool) : Lq P 13 = desc P := rfl
theorem Lq_yes {P : Nat → Bool} {q : Nat} (h : q < 13) (hp : P (12 - q) = true) : Lq P (q + 1) = Lq P q ++ [12 - q] := by
  unfold Lq; rw [ranks_take q h, List.filter_append]; simp [hp]
theorem Lq_no {P : Nat → Bool} {q : Nat} (h : q < 13) (hp : P (12 - q) = false) : Lq P (q + 1) = Lq P q := by
  unfold Lq; rw [ranks_take q h, List.filter_append]; simp [hp]
theorem Lq_take (P : Nat → Bool) (q : Nat) : Lq P q = (desc P).take (Lq P q).length := by
  have : desc P = Lq P q ++ (ranks.drop q).filter P := by
    unfold desc Lq
    rw [← List.filter_append, List.take_append_drop]
  rw [this, List.take_left']
  rfl
theorem Lq_lt {P : Nat → Bool} {q d : Nat} (h : d ∈ Lq P q) : d < 13 := mem_ranks.1 (List.mem_of_mem_take (List.mem_filter.1 h).1)

set_option maxHeartbeats 1000000 in
theorem topRanks_any (A : Option Addr) (c : Nat) (ks : List Nat) (m cat : Nat) (w : World) (h : RowI w A (nI ks)) (hl : ks.length ≤ 5) (hk : ∀ d ∈ ks, d < 13) (hc : cat ≤ 8) (hm : m < 8192) (he : 5 ≤ ks.length + (desc fun r => m.testBit r).length) :
    Calls Try.prog 127 #[.int .i64 cat, .int .u64 m, .slice A ks.length c] w fun e w' => e = .returned (.int .i64 (tk cat ks (fun r => m.testBit r) : Nat)) ∧ w = w' := by
  obtain ⟨P, hP⟩ : ∃ P, P = fun r => m.testBit r := ⟨_, rfl⟩
  have hbit : ∀ r, P r = decide (m / 2 ^ r % 2 = 1) := fun r => by rw [hP]; exact bit_iff m r
  rw [← hP] at he ⊢
  obtain ⟨n, hn⟩ : ∃ n, n = ks.length := ⟨_, rfl⟩
  rw [← hn] at he
  have HB := Lib.hid hbit
  have HM := Lib.hid hm
  have HC := Lib.hid hc
  have HK := Lib.hid hk
  have HR := Lib.hid h
  have HE := Lib.hid he
  have HN := Lib.hid hn
  have HLn : Hid (ks.length ≤ 5) := hl
  have hn5 : n ≤ 5 := by omega
  clear hbit hP hm hc hk h he hl
  rw [← hn]
  clear hn
  go_enter Try.func127, Try.ntmps127
  go_wp2_with fail
  refine (kicker_at A c n ks cat _ _ rfl HN.out HR.out HLn.out HK.out HC.out).mono ?_
  rintro e w2 ⟨rfl, rfl⟩
  go_wp2
  go_loop [7, 8, 9] (fun v i r => ∃ q : Nat, q ≤ 13 ∧ r = .int .i64 (12 - (q : Int)) ∧ i = .int .i64 ((n + (Lq P q).length : Nat) : Int) ∧ n + (Lq P q).length ≤ 5 ∧ v = .int .i64 (kvN cat (ks ++ Lq P q) : Nat)) (fun _ _ r => (intOf r + 1).toNat)
  case atStart => exact ⟨0, by omega, rfl, rfl, by simpa [Lq] using hn5, by simp [Lq]⟩
  case round =>
    obtain ⟨q, hq, rfl, rfl, hle, rfl⟩ := hrel
    obtain ⟨L, hL⟩ : ∃ L, L = (Lq P q).length := ⟨_, rfl⟩
    obtain ⟨v, hv⟩ : ∃ v, v = kvN cat (ks ++ Lq P q) := ⟨_, rfl⟩
    have hv1 : v < 3341637 := by
      rw [hv]
      refine kv_small (fun d hd => ?_) (by rw [List.length_append, ← HN.out]; exact hle) HC.out
      rcases List.mem_append.1 hd with e | e
      · exact HK.out d e
      · exact Lq_lt e
    rw [← hL] at hle
    rw [← hL, ← hv]
    have HL := Lib.hid hL
    have HV := Lib.hid hv
    clear hL hv
    by_cases h5 : n + L < 5
    · have hq13 : q < 13 := by
        rcases Nat.lt_or_ge q 13 with g | g
        · exact g
        · have : q = 13 := by omega
          subst this
          have := HL.out
          rw [Lq_all] at this
          have := HE.out
          omega
      obtain ⟨p, hp⟩ : ∃ p : Nat, p + q = 12 := ⟨12 - q, by omega⟩
      have ep : (12 : Int) - (q : Int) = (p : Int) := by omega
      rw [ep]
      have HP := Lib.hid hp
      have hp12 : p ≤ 12 := by omega
      clear ep hp hq
      by_cases hs : m / 2 ^ p % 2 = 1
      · have hd : (bits BinOp.and IntKind.u64 ((m : Int) / 2 ^ p) 1 == 1) = true := by rw [u64_bit m p (by have := HM.out; omega), hs]; rfl
        have Y : Hid (Lq P (q + 1) = Lq P q ++ [p]) := by
          show _ = _
          rw [Lq_yes hq13 (by rw [show 12 - q = p by have := HP.out; omega, HB.out]; simpa using hs), show 12 - q = p by have := HP.out; omega]
        clear hs
        go_wp2
        go_round
        case rel =>
          refine ⟨q + 1, by omega, int_eq (by have := HP.out; omega), int_eq ?_, ?_, int_eq ?_⟩
          · rw [Y.out, List.length_append, ← HL.out]; simp; omega
          · rw [Y.out, List.length_append, ← HL.out]; simp; omega
          · rw [Y.out, ← List.append_assoc, kvN_append cat (ks ++ Lq P q) [p], ← HV.out]; simp [kvN]
        case measure => simp [intOf] <;> omega
      · have hd : (bits BinOp.and IntKind.u64 ((m : Int) / 2 ^ p) 1 == 1) = false := by
          rw [u64_bit m p (by have := HM.out; omega)]
          refine beq_eq_false_iff_ne.2 fun e => ?_
          generalize m / 2 ^ p = z at hs e
          omega
        have Y : Hid (Lq P (q + 1) = Lq P q) := by
          show _ = _
          rw [Lq_no hq13 (by rw [show 12 - q = p by have := HP.out; omega, HB.out]; simpa using hs)]
        clear hs
        go_wp2
        go_round
        case rel =>
          refine ⟨q + 1, by omega, int_eq (by have := HP.out; omega), int_eq ?_, ?_, int_eq ?_⟩
          · rw [Y.out, ← HL.out]
          · rw [Y.out, ← HL.out]; exact hle
          · rw [Y.out, ← HV.out]
        case measure => simp [intOf] <;> omega
    · have h5' : n + L = 5 := by omega
      have R : Hid (v = tk cat ks P) := by
        show v = _
        rw [HV.out]
        unfold tk
        have e1 : 5 - ks.length = (Lq P q).length := by rw [← HN.out, ← HL.out]; omega
        rw [e1, ← Lq_take]
      have h6 := Lib.hid h5'
      have h7 : ((n + L : Nat) : Int) = 5 := by omega
      rw [h7]
      clear h5' h5 h7 hle
      go_wp2
      go_ret
      exact ⟨ret_int (by rw [R.out]), rfl⟩
theorem topRanks_at (A : Option Addr) (c len : Nat) (ks : List Nat) (m cat : Nat) (v u : Int) (w : World) (hv : v = (cat : Int)) (hu : u = (m : Int)) (hlen : len = ks.length) (h : RowI w A (nI ks)) (hl : ks.length ≤ 5) (hk : ∀ d ∈ ks, d < 13) (hc : cat ≤ 8) (hm : m < 8192) (he : 5 ≤ ks.length + (desc fun r => m.testBit r).length) :
    Calls Try.prog 127 #[.int .i64 v, .int .u64 u, .slice A len c] w fun e w' => e = .returned (.int .i64 (tk cat ks (fun r => m.testBit r) : Nat)) ∧ w = w' := by subst hlen hv hu; exact topRanks_any A c ks m cat w h hl hk hc hm he
end Go.Proofs.Ytbhlghadjcbilaa
