/-
  The pieces of a value in the program: digits behind a category, the best straight of a set of ranks, the greatest ranks of a set.
-/
import Derived.Test.YtbhlghadjcbilaaDoorAreCards
import Derived.Test.YtbhlghadjcbilaaDoorMathCrd
import Derived.Laws.BitsAllLaws
namespace Go.Proofs.YtbhlghadjcbilaaDoor
open Go.RowKit

/-- Ranks as numbers. -/
def nI (ks : List Nat) : List Int := ks.map fun k => ((k : Nat) : Int)
theorem nI_length (ks : List Nat) : (nI ks).length = ks.length := by simp [nI]
theorem nI_getD (ks : List Nat) (k : Nat) (h : k < ks.length) : (nI ks).getD k 0 = ((ks.getD k 0 : Nat) : Int) := by
  simp [nI, List.getD_eq_getElem?_getD, h]
theorem kv_bd : ∀ (ds : List Nat), (∀ d ∈ ds, d < 13) → ∀ c, kvN c ds < (c + 1) * 13 ^ ds.length
  | [], _, c => by simp [kvN]
  | d :: ds, h, c => by
    rw [kvN_cons, List.length_cons, Nat.pow_succ, ← Nat.mul_assoc, Nat.mul_right_comm]
    have h1 := kv_bd ds (fun x hx => h x (by simp [hx])) (c * 13 + d)
    have h2 := h d (by simp)
    exact Nat.lt_of_lt_of_le h1 (Nat.mul_le_mul_right _ (by omega))
theorem kv_small {ds : List Nat} {c : Nat} (h : ∀ d ∈ ds, d < 13) (hl : ds.length ≤ 5) (hc : c ≤ 8) : kvN c ds < 3341637 := by
  have h1 := kv_bd ds h c
  have h2 : 13 ^ ds.length ≤ 13 ^ 5 := Nat.pow_le_pow_right (by omega) hl
  have h3 : (c + 1) * 13 ^ ds.length ≤ 9 * 13 ^ 5 := Nat.mul_le_mul (by omega) h2
  omega
theorem kv_snoc (c : Nat) (ds : List Nat) (k : Nat) (h : k < ds.length) : kvN c (ds.take (k + 1)) = kvN c (ds.take k) * 13 + ds.getD k 0 := by
  rw [List.take_succ_eq_append_getElem h, kvN_append]
  simp [kvN, List.getD_eq_getElem?_getD, h]

/-- A new block of numbers, as a list. -/
theorem rowI_new (w : World) (cs : Array Value) (t : TypeId) (ys : List Int) (h : cs = (ys.map (Value.int .i64)).toArray) : RowI (w.alloc (.cells cs t)) (some ⟨w.heap.size, 0, none⟩) ys := by
  subst h
  refine .inr ⟨w.heap.size, 0, rfl, by simp, fun k hk => ?_⟩
  have := (World.rowIs_alloc w (ys.map (Value.int .i64)).toArray t (fun j => .int .i64 (ys.getD j 0)) (fun i hi => by
    have hi' : i < ys.length := by simpa using hi
    simp [List.getD_eq_getElem?_getD, hi'])).cell (i := k) (by simpa using hk)
  rw [Nat.zero_add]
  exact this

/-! ### Straights -/
theorem bit_iff (m r : Nat) : m.testBit r = decide (m / 2 ^ r % 2 = 1) := Nat.testBit_eq_decide_div_mod_eq
theorem mod32 (x : Nat) : x % 32 = 31 ↔ x % 2 = 1 ∧ x / 2 % 2 = 1 ∧ x / 4 % 2 = 1 ∧ x / 8 % 2 = 1 ∧ x / 16 % 2 = 1 := by omega
theorem st_bits (m p : Nat) : stAt (fun r => m.testBit r) (p + 4) = decide (m / 2 ^ p % 32 = 31) := by
  unfold stAt
  have e : ∀ j, m.testBit (p + j) = decide (m / 2 ^ p / 2 ^ j % 2 = 1) := fun j => by
    rw [bit_iff, Nat.pow_add, Nat.div_div_eq_div_mul]
  have e0 := e 0; have e1 := e 1; have e2 := e 2; have e3 := e 3; have e4 := e 4
  simp only [Nat.add_zero, Nat.pow_zero, Nat.div_one, Nat.pow_one, show (2 : Nat) ^ 2 = 4 by decide, show (2 : Nat) ^ 3 = 8 by decide, show (2 : Nat) ^ 4 = 16 by decide] at e0 e1 e2 e3 e4
  simp only [show p + 4 - 1 = p + 3 by omega, show p + 4 - 2 = p + 2 by omega, show p + 4 - 3 = p + 1 by omega, show p + 4 - 4 = p by omega, e0, e1, e2, e3, e4]
  rw [Bool.eq_iff_iff]
  simp only [Bool.and_eq_true, decide_eq_true_eq, mod32]
  constructor
  · rintro ⟨⟨⟨⟨a, b⟩, c⟩, d⟩, f⟩; exact ⟨f, d, c, b, a⟩
  · rintro ⟨f, d, c, b, a⟩; exact ⟨⟨⟨⟨a, b⟩, c⟩, d⟩, f⟩
theorem low_bits (m : Nat) (h : m < 8192) : lowAt (fun r => m.testBit r) = decide (m &&& 4111 = 4111) := by
  have all : ∀ a, a < 128 → ∀ b, b < 64 → lowAt (fun r => (64 * a + b).testBit r) = decide ((64 * a + b) &&& 4111 = 4111) := by decide +kernel
  have := all (m / 64) (by omega) (m % 64) (by omega)
  rw [Nat.div_add_mod] at this
  exact this
theorem u64_m31 (m p : Nat) (h : m < 8192) : bits BinOp.and IntKind.u64 ((m : Int) / 2 ^ p) 31 = ((m / 2 ^ p % 32 : Nat) : Int) := by
  have e : ((m : Int) / 2 ^ p) = ((m / 2 ^ p : Nat) : Int) := by simp
  have h1 : m / 2 ^ p < 18446744073709551616 := Nat.lt_of_le_of_lt (Nat.div_le_self _ _) (by omega)
  rw [e]
  have := u64_and_nat (m / 2 ^ p) 31 h1 (by omega)
  rw [show m / 2 ^ p &&& 31 = m / 2 ^ p % 32 from Nat.and_two_pow_sub_one_eq_mod (m / 2 ^ p) 5] at this
  exact this
theorem u64_low (m : Nat) (h : m < 8192) : bits BinOp.and IntKind.u64 (m : Int) 4111 = ((m &&& 4111 : Nat) : Int) := u64_and_nat m 4111 (by omega) (by omega)

/-- What straightIn hands back. -/
def stI (P : Nat → Bool) (cat : Nat) (low : Bool) : Int := match stO P cat low with | some v => (v : Int) | none => -1
theorem stI_some {P : Nat → Bool} {cat v : Nat} {low : Bool} (h : stO P cat low = some v) : stI P cat low = (v : Int) := by unfold stI; rw [h]
theorem stI_none {P : Nat → Bool} {cat : Nat} {low : Bool} (h : stO P cat low = none) : stI P cat low = -1 := by unfold stI; rw [h]
theorem stTop_of {P : Nat → Bool} {t : Nat} (h4 : 4 ≤ t) (h12 : t ≤ 12) (h : stAt P t = true) (hn : ∀ x, t < x → x ≤ 12 → stAt P x = false) : stTop P = some t := by
  cases e : stTop P
  · have := stTop_none e t h4 h12
    rw [this] at h; cases h
  · next u =>
    obtain ⟨a, b, d, f⟩ := stTop_some e
    have h1 := f t h4 h12 h
    rcases Nat.lt_or_ge t u with g | g
    · have := hn u g b
      rw [this] at d; cases d
    · rw [show u = t by omega]
theorem stTop_no {P : Nat → Bool} (hn : ∀ x, 4 ≤ x → x ≤ 12 → stAt P x = false) : stTop P = none := by
  cases e : stTop P
  · rfl
  · obtain ⟨a, b, d, f⟩ := stTop_some e
    have := hn _ a b
    rw [this] at d; cases d

theorem ranks_take (q : Nat) (h : q < 13) : ranks.take (q + 1) = ranks.take q ++ [12 - q] := by
  have all : ∀ q, q < 13 → ranks.take (q + 1) = ranks.take q ++ [12 - q] := by decide
  exact all q h
/-- Of the first q ranks, from above, those that a set holds. -/
def Lq (P : Nat → Bool) (q : Nat) : List Nat := (ranks.take q).filter P
theorem Lq_all (P : Nat → Bool) : Lq P 13 = desc P := rfl
theorem Lq_yes {P : Nat → Bool} {q : Nat} (h : q < 13) (hp : P (12 - q) = true) : Lq P (q + 1) = Lq P q ++ [12 - q] := by
  unfold Lq; rw [ranks_take q h, List.filter_append]; simp [hp]
theorem Lq_no {P : Nat → Bool} {q : Nat} (h : q < 13) (hp : P (12 - q) = false) : Lq P (q + 1) = Lq P q := by
  unfold Lq; rw [ranks_take q h, List.filter_append]; simp [hp]
theorem Lq_take (P : Nat → Bool) (q : Nat) : Lq P q = (desc P).take (Lq P q).length := by
  have : desc P = Lq P q ++ (ranks.drop q).filter P := by
    unfold desc Lq
    rw [← List.filter_append, List.take_append_drop]
  rw [this, List.take_left']
  rfl
theorem Lq_lt {P : Nat → Bool} {q d : Nat} (h : d ∈ Lq P q) : d < 13 := mem_ranks.1 (List.mem_of_mem_take (List.mem_filter.1 h).1)

end Go.Proofs.YtbhlghadjcbilaaDoor
