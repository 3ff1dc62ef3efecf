/-
  Plain mathematics for the ratios of layer 1: the greatest divisor over the integers, reduction, the operations' values. No program is in sight.
-/
namespace Go.Proofs.YtfccmgnoebdlgaaDoor

/-- The greatest common divisor as an integer. -/
def gcdI (a b : Int) : Int := ((Nat.gcd a.natAbs b.natAbs : Nat) : Int)

theorem gcdI_zero (a : Int) (h : 0 ≤ a) : gcdI a 0 = a := by
  unfold gcdI; simp; omega

theorem gcdI_step (a b : Int) (ha : 0 ≤ a) (hb : 0 ≤ b) : gcdI b (a % b) = gcdI a b := by
  obtain ⟨x, rfl⟩ := Int.eq_ofNat_of_zero_le ha
  obtain ⟨y, rfl⟩ := Int.eq_ofNat_of_zero_le hb
  unfold gcdI
  have h : ((x : Int) % (y : Int)).natAbs = x % y := by
    rw [← Int.natCast_emod]; rfl
  rw [h]
  simp only [Int.natAbs_natCast]
  rw [Nat.gcd_comm y (x % y), ← Nat.gcd_rec, Nat.gcd_comm]

theorem gcdI_nonneg (a b : Int) : 0 ≤ gcdI a b := by unfold gcdI; omega

theorem gcdI_pos (a b : Int) (hb : 1 ≤ b) : 1 ≤ gcdI a b := by
  unfold gcdI
  have : 0 < Nat.gcd a.natAbs b.natAbs := Nat.gcd_pos_of_pos_right _ (by omega)
  omega

theorem gcdI_le (a b : Int) (hb : 1 ≤ b) : gcdI a b ≤ b := by
  unfold gcdI
  have := Nat.gcd_le_right (n := b.natAbs) a.natAbs (by omega)
  omega

theorem gcdI_abs (a b : Int) : gcdI (a.natAbs : Int) b = gcdI a b := by
  unfold gcdI; simp

/-- The absolute value. -/
def absI (n : Int) : Int := (n.natAbs : Int)
theorem absI_nonneg (n : Int) : 0 ≤ absI n := by unfold absI; omega
theorem absI_pos {n : Int} (h : 0 ≤ n) : absI n = n := by unfold absI; omega
theorem absI_neg {n : Int} (h : n < 0) : absI n = -n := by unfold absI; omega
theorem absI_le {n b : Int} (h1 : -b ≤ n) (h2 : n ≤ b) : absI n ≤ b := by unfold absI; omega
theorem gcdI_absI (a b : Int) : gcdI (absI a) b = gcdI a b := gcdI_abs a b

theorem gcdI_dvd_left (a b : Int) : gcdI a b ∣ a := by
  unfold gcdI
  exact Int.ofNat_dvd_left.2 (Nat.gcd_dvd_left _ _)
theorem gcdI_dvd_right (a b : Int) : gcdI a b ∣ b := by
  unfold gcdI
  exact Int.ofNat_dvd_left.2 (Nat.gcd_dvd_right _ _)

/-- Whether a numerator and a denominator are a valid ratio. -/
def isR (n d : Int) : Bool := decide (-1000000000 ≤ n ∧ n ≤ 1000000000 ∧ 1 ≤ d ∧ d ≤ 1000000000 ∧ gcdI n d = 1)

theorem isR_iff (n d : Int) : isR n d = true ↔ (-1000000000 ≤ n ∧ n ≤ 1000000000 ∧ 1 ≤ d ∧ d ≤ 1000000000 ∧ gcdI n d = 1) := by
  unfold isR; simp
theorem isR_mk {n d : Int} (h1 : -1000000000 ≤ n) (h2 : n ≤ 1000000000) (h3 : 1 ≤ d) (h4 : d ≤ 1000000000) (h5 : gcdI n d = 1) : isR n d = true :=
  (isR_iff n d).2 ⟨h1, h2, h3, h4, h5⟩
theorem isR_no {n d : Int} (h : ¬ (-1000000000 ≤ n ∧ n ≤ 1000000000 ∧ 1 ≤ d ∧ d ≤ 1000000000 ∧ gcdI n d = 1)) : isR n d = false := by
  cases hb : isR n d
  · rfl
  · exact absurd ((isR_iff n d).1 hb) h

/-- The quotients by the greatest divisor (Go's division). -/
def quN (n d : Int) : Int := n.tdiv (gcdI n d)
def quD (n d : Int) : Int := d / gcdI n d
/-- What the reduction gives: numerator, denominator, error code. -/
def rdN (n d : Int) : Int := if isR (quN n d) (quD n d) = true then quN n d else 0
def rdD (n d : Int) : Int := if isR (quN n d) (quD n d) = true then quD n d else 0
def rdC (n d : Int) : Int := if isR (quN n d) (quD n d) = true then 0 else 3

theorem quN_mul (n d : Int) : quN n d * gcdI n d = n := by
  unfold quN; exact Int.tdiv_mul_cancel (gcdI_dvd_left n d)
theorem quD_mul (n d : Int) : quD n d * gcdI n d = d := by
  unfold quD; exact Int.ediv_mul_cancel (gcdI_dvd_right n d)

theorem quD_pos (n d : Int) (hd : 1 ≤ d) : 1 ≤ quD n d := by
  have h1 := quD_mul n d
  have h2 := gcdI_pos n d hd
  rcases Int.lt_or_le (quD n d) 1 with h | h
  · have : quD n d * gcdI n d ≤ 0 := Int.mul_nonpos_of_nonpos_of_nonneg (by omega) (by omega)
    omega
  · exact h

theorem natAbs_quN (n d : Int) (hd : 1 ≤ d) : (quN n d).natAbs ≤ n.natAbs := by
  have h1 : (quN n d).natAbs * (gcdI n d).natAbs = n.natAbs := by rw [← Int.natAbs_mul, quN_mul]
  have h2 := gcdI_pos n d hd
  have h3 : 1 ≤ (gcdI n d).natAbs := by omega
  calc (quN n d).natAbs = (quN n d).natAbs * 1 := by omega
    _ ≤ (quN n d).natAbs * (gcdI n d).natAbs := Nat.mul_le_mul_left _ h3
    _ = n.natAbs := h1
theorem quD_le (n d : Int) (hd : 1 ≤ d) : quD n d ≤ d := by
  have h1 := quD_mul n d
  have h2 := gcdI_pos n d hd
  have h3 := quD_pos n d hd
  calc quD n d = quD n d * 1 := by omega
    _ ≤ quD n d * gcdI n d := Int.mul_le_mul_of_nonneg_left h2 (by omega)
    _ = d := h1

/-- Behind the reduction the numbers have no common divisor. -/
theorem gcd_qu (n d : Int) (hd : 1 ≤ d) : gcdI (quN n d) (quD n d) = 1 := by
  have hg := gcdI_pos n d hd
  have e1 : (quN n d).natAbs = n.natAbs / (gcdI n d).natAbs := by
    have h1 : (quN n d).natAbs * (gcdI n d).natAbs = n.natAbs := by rw [← Int.natAbs_mul, quN_mul]
    rw [← h1, Nat.mul_div_cancel _ (by omega)]
  have e2 : (quD n d).natAbs = d.natAbs / (gcdI n d).natAbs := by
    have h1 : (quD n d).natAbs * (gcdI n d).natAbs = d.natAbs := by rw [← Int.natAbs_mul, quD_mul]
    rw [← h1, Nat.mul_div_cancel _ (by omega)]
  have e3 : (gcdI n d).natAbs = Nat.gcd n.natAbs d.natAbs := by unfold gcdI; simp
  have h : Nat.gcd (quN n d).natAbs (quD n d).natAbs = 1 := by
    rw [e1, e2, e3]
    exact Nat.gcd_div_gcd_div_gcd_of_pos_right (by omega)
  unfold gcdI; rw [h]; rfl

theorem mul_bd {x y : Int} (h1 : -1000000000 ≤ x) (h2 : x ≤ 1000000000) (h3 : -1000000000 ≤ y) (h4 : y ≤ 1000000000) : -1000000000000000000 ≤ x * y ∧ x * y ≤ 1000000000000000000 := by
  have hn : (x * y).natAbs ≤ 1000000000 * 1000000000 := by
    rw [Int.natAbs_mul]
    exact Nat.mul_le_mul (by omega) (by omega)
  omega
theorem mul_pos' {x y : Int} (h1 : 1 ≤ x) (h2 : 1 ≤ y) : 1 ≤ x * y := Int.mul_pos (by omega) (by omega)

/-- The three numbers of a reduced ratio, or of an error. -/
def rd (n d : Int) : Int × Int × Int := (rdN n d, rdD n d, rdC n d)
def bad (c : Int) : Int × Int × Int := (0, 0, c)
def okk (a b c d : Int) : Bool := isR a b && isR c d
def addR (a b c d : Int) : Int × Int × Int := if okk a b c d = true then rd (a * d + c * b) (b * d) else bad 1
def subR (a b c d : Int) : Int × Int × Int := if okk a b c d = true then rd (a * d - c * b) (b * d) else bad 1
def mulR (a b c d : Int) : Int × Int × Int := if okk a b c d = true then rd (a * c) (b * d) else bad 1
def divR (a b c d : Int) : Int × Int × Int := if okk a b c d = true then (if c = 0 then bad 5 else if c < 0 then rd (-a * d) (-b * c) else rd (a * d) (b * c)) else bad 1
def cmpI (x y : Int) : Int := if x < y then -1 else if y < x then 1 else 0
def cmpR (a b c d : Int) : Int × Int := if okk a b c d = true then (cmpI (a * d) (c * b), 0) else (0, 1)
def makR (n d : Int) : Int × Int × Int := if -1000000000 ≤ n ∧ n ≤ 1000000000 ∧ 1 ≤ d ∧ d ≤ 1000000000 then rd n d else bad 2
def gcdR (a b : Int) : Int × Int := if 0 ≤ a ∧ a ≤ 1000000000 ∧ 0 ≤ b ∧ b ≤ 1000000000 then (gcdI a b, 0) else (0, 2)

theorem okk_true {a b c d : Int} (h1 : isR a b = true) (h2 : isR c d = true) : okk a b c d = true := by unfold okk; rw [h1, h2]; rfl
theorem okk_left {a b c d : Int} (h1 : isR a b = false) : ¬ okk a b c d = true := by unfold okk; rw [h1]; simp
theorem okk_right {a b c d : Int} (h1 : isR c d = false) : ¬ okk a b c d = true := by unfold okk; rw [h1]; simp
theorem isR_neg (c d : Int) : isR (-c) d = isR c d := by
  have h : gcdI (-c) d = gcdI c d := by unfold gcdI; simp
  rw [Bool.eq_iff_iff, isR_iff, isR_iff, h]
  constructor <;> (rintro ⟨h1, h2, h3⟩; exact ⟨by omega, by omega, h3⟩)
theorem isR_big {c d : Int} (h : 1000000000 < c ∨ c < -1000000000) : isR c d = false := isR_no (by omega)
theorem addR_neg (a b c d : Int) : addR a b (-c) d = subR a b c d := by
  unfold addR subR okk
  rw [isR_neg]
  have : a * d + -c * b = a * d - c * b := by rw [Int.neg_mul]; omega
  rw [this]
end Go.Proofs.YtfccmgnoebdlgaaDoor
