/-
  Sums and products of ratios undone: plain laws.
-/
import Derived.Test.YtfccmgnoebdlgaaDoorMathRat
namespace Go.Proofs.YtfccmgnoebdlgaaDoor

theorem dvd_cop {a b c : Int} (h : gcdI a b = 1) (hd : a ∣ b * c) : a ∣ c := by
  have hc : Nat.Coprime a.natAbs b.natAbs := by
    unfold gcdI at h
    exact Int.ofNat.inj h
  have := Int.natAbs_dvd_natAbs.2 hd
  rw [Int.natAbs_mul] at this
  exact Int.natAbs_dvd_natAbs.1 (hc.dvd_of_dvd_mul_left this)
theorem gcdI_comm (a b : Int) : gcdI a b = gcdI b a := by unfold gcdI; rw [Nat.gcd_comm]

/-- A fraction in its lowest terms is what is made of any fraction that is equal to it. -/
theorem rd_of {a b N D : Int} (h : isR a b = true) (hD : 1 ≤ D) (he : N * b = a * D) : rd N D = (a, b, 0) := by
  obtain ⟨h1, h2, h3, h4, h5⟩ := (isR_iff a b).1 h
  have g1 := gcdI_pos N D hD
  have eN := quN_mul N D
  have eD := quD_mul N D
  have c := gcd_qu N D hD
  have p := quD_pos N D hD
  have e : quN N D * b = a * quD N D := by
    refine Int.eq_of_mul_eq_mul_right (a := gcdI N D) (by omega) ?_
    calc quN N D * b * gcdI N D = quN N D * gcdI N D * b := by rw [Int.mul_assoc, Int.mul_comm b, ← Int.mul_assoc]
      _ = a * (quD N D * gcdI N D) := by rw [eN, eD, he]
      _ = a * quD N D * gcdI N D := by rw [Int.mul_assoc]
  have d1 : b ∣ quD N D := dvd_cop (by rw [gcdI_comm]; exact h5) (by rw [← e]; exact Int.dvd_mul_left _ _)
  have d2 : quD N D ∣ b := dvd_cop (by rw [gcdI_comm]; exact c) (by rw [e]; exact Int.dvd_mul_left _ _)
  have e2 : quD N D = b := Int.dvd_antisymm (by omega) (by omega) d2 d1
  have e1 : quN N D = a := by
    rw [e2] at e
    exact Int.eq_of_mul_eq_mul_right (by omega) e
  unfold rd rdN rdD rdC
  rw [e1, e2, if_pos h, if_pos h, if_pos h]
theorem rd_ok {N D x y : Int} (h : rd N D = (x, y, 0)) (_hD : 1 ≤ D) : isR x y = true ∧ x * D = N * y := by
  unfold rd rdN rdD rdC at h
  by_cases hr : isR (quN N D) (quD N D) = true
  · rw [if_pos hr, if_pos hr, if_pos hr] at h
    injection h with e1 h
    injection h with e2 _
    rw [← e1, ← e2]
    refine ⟨hr, ?_⟩
    have eN := quN_mul N D
    have eD := quD_mul N D
    calc quN N D * D = quN N D * (quD N D * gcdI N D) := by rw [eD]
      _ = quN N D * gcdI N D * quD N D := by rw [Int.mul_comm (quD N D), Int.mul_assoc]
      _ = N * quD N D := by rw [eN]
  · rw [if_neg hr, if_neg hr, if_neg hr] at h
    injection h with _ h
    injection h with _ h
    cases h
theorem okk_both {a b c d : Int} (h : okk a b c d = true) : isR a b = true ∧ isR c d = true := by
  unfold okk at h
  simpa using h
theorem bad_ne {x y k : Int} (hk : k ≠ 0) : bad k ≠ (x, y, 0) := by
  intro h
  unfold bad at h
  injection h with _ h
  injection h with _ h
  exact hk h
theorem addR_ok {a b c d x y : Int} (h : addR a b c d = (x, y, 0)) : isR a b = true ∧ isR c d = true ∧ isR x y = true ∧ x * (b * d) = (a * d + c * b) * y := by
  unfold addR at h
  by_cases ho : okk a b c d = true
  · rw [if_pos ho] at h
    obtain ⟨h1, h2⟩ := okk_both ho
    obtain ⟨_, _, b1, _⟩ := (isR_iff a b).1 h1
    obtain ⟨_, _, d1, _⟩ := (isR_iff c d).1 h2
    obtain ⟨k1, k2⟩ := rd_ok h (mul_pos' b1 d1)
    exact ⟨h1, h2, k1, k2⟩
  · rw [if_neg ho] at h
    exact absurd h (bad_ne (by omega))
theorem add_back {a b c d x y : Int} (h : addR a b c d = (x, y, 0)) : subR x y c d = (a, b, 0) := by
  obtain ⟨h1, h2, h3, h4⟩ := addR_ok h
  unfold subR
  rw [if_pos (okk_true h3 h2)]
  obtain ⟨_, _, y1, _⟩ := (isR_iff x y).1 h3
  obtain ⟨_, _, d1, _⟩ := (isR_iff c d).1 h2
  refine rd_of h1 (mul_pos' y1 d1) ?_
  have e : x * d * b = a * d * y + c * b * y := by rw [Int.mul_assoc, Int.mul_comm d b, h4, Int.add_mul]
  rw [Int.sub_mul, e, Int.mul_right_comm c y b]
  rw [Int.add_sub_cancel, Int.mul_assoc, Int.mul_comm d y]
theorem add_comm' (a b c d : Int) : addR c d a b = addR a b c d := by
  unfold addR
  have e : okk c d a b = okk a b c d := by unfold okk; rw [Bool.and_comm]
  rw [e, Int.add_comm (c * b), Int.mul_comm d b]
theorem mulR_ok {a b c d x y : Int} (h : mulR a b c d = (x, y, 0)) : isR a b = true ∧ isR c d = true ∧ isR x y = true ∧ x * (b * d) = (a * c) * y := by
  unfold mulR at h
  by_cases ho : okk a b c d = true
  · rw [if_pos ho] at h
    obtain ⟨h1, h2⟩ := okk_both ho
    obtain ⟨_, _, b1, _⟩ := (isR_iff a b).1 h1
    obtain ⟨_, _, d1, _⟩ := (isR_iff c d).1 h2
    obtain ⟨k1, k2⟩ := rd_ok h (mul_pos' b1 d1)
    exact ⟨h1, h2, k1, k2⟩
  · rw [if_neg ho] at h
    exact absurd h (bad_ne (by omega))
theorem mul_back {a b c d x y : Int} (h : mulR a b c d = (x, y, 0)) (hc : c ≠ 0) : divR x y c d = (a, b, 0) := by
  obtain ⟨h1, h2, h3, h4⟩ := mulR_ok h
  unfold divR
  rw [if_pos (okk_true h3 h2), if_neg hc]
  obtain ⟨_, _, y1, _⟩ := (isR_iff x y).1 h3
  have e : x * d * b = a * (y * c) := by rw [Int.mul_assoc, Int.mul_comm d b, h4, Int.mul_assoc, Int.mul_comm c y]
  by_cases hn : c < 0
  · rw [if_pos hn]
    refine rd_of h1 ?_ ?_
    · rw [Int.neg_mul, ← Int.mul_neg]; exact mul_pos' y1 (by omega)
    · rw [Int.neg_mul, Int.neg_mul, Int.neg_mul, Int.mul_neg, e]
  · rw [if_neg hn]
    exact rd_of h1 (mul_pos' y1 (by omega)) e
theorem cmp_swap (x y : Int) : cmpI y x = - cmpI x y := by
  unfold cmpI
  split
  · split <;> (try split) <;> omega
  · split <;> (try split) <;> omega
end Go.Proofs.YtfccmgnoebdlgaaDoor
