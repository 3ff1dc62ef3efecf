/-
  Plain mathematics: the text of a ratio, cut at the slash and read back. No program is in sight.
-/
import Derived.Test.YtfccmgnoebdlgaaDoorMathRat
import Derived.Lib.ItoaMem
import Derived.Lib.ItoaLen
import Derived.Lib.ParseIntBCases
import Derived.Lib.IndexMore
import Derived.Lib.IndexLaws
namespace Go.Proofs.YtfccmgnoebdlgaaDoor
open Go

def ratT (n d : Int) : List UInt8 := if isR n d = true then (if d = 1 then Lib.itoa n else Lib.itoa n ++ 47 :: Lib.itoa d) else []
theorem decDigits_small {u : Nat} (h : u < 10) : Lib.decDigits u = [UInt8.ofNat (48 + u)] := by rw [Lib.decDigits, dif_pos h]
theorem decDigits_big {u : Nat} (h : ¬ u < 10) : Lib.decDigits u = Lib.decDigits (u / 10) ++ [UInt8.ofNat (48 + u % 10)] := by rw [Lib.decDigits, dif_neg h]
theorem decDigits_len : ∀ (k u : Nat), u < 10 ^ (k + 1) → (Lib.decDigits u).length ≤ k + 1
  | 0, u, h => by rw [decDigits_small (by simpa using h)]; simp
  | k + 1, u, h => by
    by_cases h1 : u < 10
    · rw [decDigits_small h1]; simp
    · rw [decDigits_big h1, List.length_append]
      have := decDigits_len k (u / 10) (by rw [Nat.pow_succ] at h; omega)
      simp; omega
/-- What digits spell. -/
def foldV (acc : Nat) (l : List UInt8) : Nat := l.foldl (fun n b => 10 * n + (b.toNat - 48)) acc
def isDig (l : List UInt8) : Prop := ∀ b ∈ l, 48 ≤ b.toNat ∧ b.toNat ≤ 57
theorem digit_nat {q : Nat} (h : q < 10) : (UInt8.ofNat (48 + q)).toNat = 48 + q := by
  have : ∀ q : Fin 10, (UInt8.ofNat (48 + q.val)).toNat = 48 + q.val := by decide
  exact this ⟨q, h⟩
theorem dec_dig (k : Nat) : ∀ u : Nat, u < k → isDig (Lib.decDigits u) ∧ Lib.decDigits u ≠ [] ∧ foldV 0 (Lib.decDigits u) = u := by
  induction k with
  | zero => intro u h; omega
  | succ k ih =>
    intro u h
    by_cases h1 : u < 10
    · rw [decDigits_small h1]
      refine ⟨fun b hb => ?_, by simp, ?_⟩
      · rw [List.mem_singleton.1 hb, digit_nat h1]; omega
      · show 10 * 0 + ((UInt8.ofNat (48 + u)).toNat - 48) = u
        rw [digit_nat h1]; omega
    · obtain ⟨i1, i2, i3⟩ := ih (u / 10) (by omega)
      have hq : u % 10 < 10 := by omega
      rw [decDigits_big h1]
      refine ⟨fun b hb => ?_, by simp, ?_⟩
      · rcases List.mem_append.1 hb with hb | hb
        · exact i1 b hb
        · rw [List.mem_singleton.1 hb, digit_nat hq]; omega
      · unfold foldV at i3 ⊢
        rw [List.foldl_append, i3]
        show 10 * (u / 10) + ((UInt8.ofNat (48 + u % 10)).toNat - 48) = u
        rw [digit_nat hq]; omega
theorem foldV_ge : ∀ (l : List UInt8) (acc : Nat), acc ≤ foldV acc l
  | [], _ => Nat.le_refl _
  | c :: l, acc => by
    have := foldV_ge l (10 * acc + (c.toNat - 48))
    show acc ≤ foldV (10 * acc + (c.toNat - 48)) l
    omega
theorem parse_fold : ∀ (l : List UInt8) (acc : Nat), isDig l → foldV acc l ≤ 1000000000000 → Lib.parseUintM (2 ^ 64 - 1) acc l = .ok (foldV acc l)
  | [], acc, _, _ => rfl
  | c :: l, acc, hd, hl => by
    have hc := hd c (by simp)
    have hg : foldV acc (c :: l) = foldV (10 * acc + (c.toNat - 48)) l := rfl
    have h1 := foldV_ge l (10 * acc + (c.toNat - 48))
    rw [hg] at hl ⊢
    have ih := parse_fold l (10 * acc + (c.toNat - 48)) (fun b hb => hd b (by simp [hb])) hl
    have e : acc * 10 + (c.toNat - 48) = 10 * acc + (c.toNat - 48) := by omega
    unfold Lib.parseUintM
    rw [if_pos hc, if_neg (by omega), if_neg (by rw [e]; have : (2:Nat) ^ 64 - 1 = 18446744073709551615 := by decide
                                                 omega), e]
    exact ih
theorem parse_dec {u : Nat} (h : u ≤ 1000000000000) : Lib.parseUintB 64 (Lib.decDigits u) = .ok u := by
  obtain ⟨h1, h2, h3⟩ := dec_dig (u + 1) u (by omega)
  unfold Lib.parseUintB
  rw [if_neg h2, parse_fold _ 0 h1 (by omega), h3]
theorem parse_itoa {n : Int} (h1 : -1000000000000 ≤ n) (h2 : n ≤ 1000000000000) : Lib.parseIntB 64 (Lib.itoa n) = .ok n := by
  have e63 : (2 : Nat) ^ (64 - 1) = 9223372036854775808 := by decide
  by_cases h0 : n < 0
  · obtain ⟨u, hu⟩ := Int.eq_ofNat_of_zero_le (show 0 ≤ -n by omega)
    obtain rfl : n = -(u : Int) := by omega
    rw [Lib.itoa_neg u (by omega), Lib.parseIntB_minus, parse_dec (by omega)]
    unfold Lib.signedC
    simp only [e63]
    rw [if_neg (by omega)]
  · obtain ⟨u, rfl⟩ := Int.eq_ofNat_of_zero_le (show 0 ≤ n by omega)
    rw [Lib.itoa_nonneg]
    obtain ⟨d1, d2, -⟩ := dec_dig (u + 1) u (by omega)
    obtain ⟨c, r, hcr⟩ := List.exists_cons_of_ne_nil d2
    have hc := d1 c (by rw [hcr]; simp)
    have hp := parse_dec (u := u) (by omega)
    rw [hcr] at hp ⊢
    rw [Lib.parseIntB_plain 64 c r (by omega) (by omega), hp]
    unfold Lib.signlessC
    simp only [e63]
    rw [if_neg (by omega)]
theorem itoa_no47 (n : Int) : ∀ b ∈ Lib.itoa n, b ≠ 47 := by
  have hd : ∀ (u : Nat), ∀ b ∈ Lib.decDigits u, b ≠ 47 := fun u b hb e => by
    have := (dec_dig (u + 1) u (by omega)).1 b hb
    rw [e] at this
    exact absurd this (by decide)
  intro b hb
  by_cases h0 : n < 0
  · obtain ⟨u, hu⟩ := Int.eq_ofNat_of_zero_le (show 0 ≤ -n by omega)
    obtain rfl : n = -(u : Int) := by omega
    rw [Lib.itoa_neg u (by omega)] at hb
    rcases List.mem_cons.1 hb with hb | hb
    · rw [hb]; decide
    · exact hd u b hb
  · obtain ⟨u, rfl⟩ := Int.eq_ofNat_of_zero_le (show 0 ≤ n by omega)
    rw [Lib.itoa_nonneg] at hb
    exact hd u b hb
theorem itoa_ne (n : Int) : Lib.itoa n ≠ [] := by
  by_cases h0 : n < 0
  · obtain ⟨u, hu⟩ := Int.eq_ofNat_of_zero_le (show 0 ≤ -n by omega)
    obtain rfl : n = -(u : Int) := by omega
    rw [Lib.itoa_neg u (by omega)]; simp
  · obtain ⟨u, rfl⟩ := Int.eq_ofNat_of_zero_le (show 0 ≤ n by omega)
    rw [Lib.itoa_nonneg]
    exact (dec_dig (u + 1) u (by omega)).2.1
theorem byte_none : ∀ {l : List UInt8} {c : UInt8}, (∀ b ∈ l, b ≠ c) → Lib.indexByte l c = -1
  | [], _, _ => rfl
  | b :: l, c, h => by
    have hb : ¬ b = c := h b (by simp)
    have ih := byte_none (l := l) (c := c) (fun j hj => h j (by simp [hj]))
    simp [Lib.indexByte, hb, ih]
theorem byte_first : ∀ {a b : List UInt8} {c : UInt8}, (∀ x ∈ a, x ≠ c) → Lib.indexByte (a ++ c :: b) c = (a.length : Int)
  | [], b, c, _ => by simp [Lib.indexByte]
  | x :: a, b, c, h => by
    have hx : ¬ x = c := h x (by simp)
    have ih := byte_first (a := a) (b := b) (c := c) (fun j hj => h j (by simp [hj]))
    have h1 : ¬ ((a.length : Int) = -1) := by omega
    simp [Lib.indexByte, hx, ih, h1]
theorem cut_none {s : List UInt8} (h : ∀ b ∈ s, b ≠ 47) : Lib.cut s [47] = (s, [], false) := by
  unfold Lib.cut
  rw [Lib.index_one, byte_none h, if_neg (by omega)]
theorem cut_some {a b : List UInt8} (h : ∀ x ∈ a, x ≠ 47) : Lib.cut (a ++ 47 :: b) [47] = (a, b, true) := by
  unfold Lib.cut
  rw [Lib.index_one, byte_first h, if_pos (by omega)]
  simp
theorem ratT_one {n : Int} (h : isR n 1 = true) : ratT n 1 = Lib.itoa n := by unfold ratT; rw [if_pos h, if_pos rfl]
theorem ratT_two {n d : Int} (h : isR n d = true) (hd : d ≠ 1) : ratT n d = Lib.itoa n ++ 47 :: Lib.itoa d := by unfold ratT; rw [if_pos h, if_neg hd]
theorem ratT_ne {n d : Int} (h : isR n d = true) : ratT n d ≠ [] := by
  by_cases hd : d = 1
  · subst hd; rw [ratT_one h]; exact itoa_ne n
  · rw [ratT_two h hd]; simp
theorem ratT_cut {n d : Int} (h : isR n d = true) : Lib.cut (ratT n d) [47] = if d = 1 then (Lib.itoa n, [], false) else (Lib.itoa n, Lib.itoa d, true) := by
  by_cases hd : d = 1
  · subst hd; rw [ratT_one h, cut_none (itoa_no47 n)]; rfl
  · rw [ratT_two h hd, cut_some (itoa_no47 n), if_neg hd]
theorem itoa_inj {n m : Int} (h1 : -1000000000000 ≤ n) (h2 : n ≤ 1000000000000) (h3 : -1000000000000 ≤ m) (h4 : m ≤ 1000000000000) (h : Lib.itoa n = Lib.itoa m) : n = m := by
  have e1 := parse_itoa h1 h2
  have e2 := parse_itoa h3 h4
  rw [h, e2] at e1
  injection e1 with e1
  exact e1.symm
theorem ratT_inj {n d m e : Int} (h : isR n d = true) (h' : isR m e = true) (he : ratT n d = ratT m e) : n = m ∧ d = e := by
  obtain ⟨a1, a2, a3, a4, -⟩ := (isR_iff n d).1 h
  obtain ⟨b1, b2, b3, b4, -⟩ := (isR_iff m e).1 h'
  have c1 := ratT_cut h
  have c2 := ratT_cut h'
  rw [he, c2] at c1
  by_cases hd : d = 1 <;> by_cases hq : e = 1
  · rw [if_pos hd, if_pos hq] at c1
    exact ⟨(itoa_inj (by omega) (by omega) (by omega) (by omega) (Prod.mk.inj c1).1).symm, by omega⟩
  · rw [if_pos hd, if_neg hq] at c1
    exact absurd (Prod.mk.inj (Prod.mk.inj c1).2).2 (by decide)
  · rw [if_neg hd, if_pos hq] at c1
    exact absurd (Prod.mk.inj (Prod.mk.inj c1).2).2 (by decide)
  · rw [if_neg hd, if_neg hq] at c1
    exact ⟨(itoa_inj (by omega) (by omega) (by omega) (by omega) (Prod.mk.inj c1).1).symm, (itoa_inj (by omega) (by omega) (by omega) (by omega) (Prod.mk.inj (Prod.mk.inj c1).2).1).symm⟩
/-- What is read out of a text: the valid ratio whose text it is, or none. -/
def Good (s : List UInt8) (n d : Int) (b : Bool) : Prop := (b = true ∧ isR n d = true ∧ ratT n d = s) ∨ (b = false ∧ n = 0 ∧ d = 0 ∧ ¬ ∃ n d, isR n d = true ∧ ratT n d = s)
theorem Good.same {s : List UInt8} {n d m e : Int} {b c : Bool} (h : Good s n d b) (h' : Good s m e c) : n = m ∧ d = e ∧ b = c := by
  rcases h with ⟨h1, h2, h3⟩ | ⟨h1, h2, h3, h4⟩ <;> rcases h' with ⟨g1, g2, g3⟩ | ⟨g1, g2, g3, g4⟩
  · obtain ⟨r1, r2⟩ := ratT_inj h2 g2 (h3.trans g3.symm)
    exact ⟨r1, r2, by rw [h1, g1]⟩
  · exact absurd ⟨n, d, h2, h3⟩ g4
  · exact absurd ⟨m, e, g2, g3⟩ h4
  · exact ⟨by rw [h2, g2], by rw [h3, g3], by rw [h1, g1]⟩
theorem Good.text {n d m e : Int} {b : Bool} (h : isR n d = true) (g : Good (ratT n d) m e b) : b = true ∧ m = n ∧ e = d := by
  rcases g with ⟨g1, g2, g3⟩ | ⟨-, -, -, g4⟩
  · obtain ⟨r1, r2⟩ := ratT_inj g2 h g3
    exact ⟨g1, r1, r2⟩
  · exact absurd ⟨n, d, h, rfl⟩ g4
theorem Good.empty {m e : Int} {b : Bool} (g : Good [] m e b) : b = false ∧ m = 0 ∧ e = 0 := by
  rcases g with ⟨g1, g2, g3⟩ | ⟨g1, g2, g3, -⟩
  · exact absurd g3 (ratT_ne g2)
  · exact ⟨g1, g2, g3⟩
end Go.Proofs.YtfccmgnoebdlgaaDoor
