/-
  Plain mathematics: a ratio that was made is the quotient of the two numbers. No program is in sight.
-/
import Derived.Test.YtfccmgnoebdlgaaDoorRatMisc2
namespace Go.Proofs.YtfccmgnoebdlgaaDoor

theorem mul_wrap {a b : Int} (h1 : -1000000002 ≤ a) (h2 : a ≤ 1000000002) (h3 : -1000000002 ≤ b) (h4 : b ≤ 1000000002) : IntKind.i64.wrap (a * b) = a * b := by
  have e : (a * b).natAbs = a.natAbs * b.natAbs := Int.natAbs_mul a b
  have ha : a.natAbs ≤ 1000000002 := by omega
  have hb : b.natAbs ≤ 1000000002 := by omega
  have hm : a.natAbs * b.natAbs ≤ 1000000002 * 1000000002 := Nat.mul_le_mul ha hb
  have hk : (1000000002 : Nat) * 1000000002 = 1000000004000000004 := by decide
  exact IntWalk.i64_in _ (by omega)
theorem mak_law {n d : Int} (h : (makR n d).2.2 = 0) : (makR n d).1 * d = n * (makR n d).2.1 ∧ isR (makR n d).1 (makR n d).2.1 = true := by
  unfold makR at h ⊢
  split
  · rename_i hr
    rw [if_pos hr] at h
    by_cases hi : isR (quN n d) (quD n d) = true
    · have e1 : rdN n d = quN n d := by unfold rdN; rw [if_pos hi]
      have e2 : rdD n d = quD n d := by unfold rdD; rw [if_pos hi]
      show rdN n d * d = n * rdD n d ∧ isR (rdN n d) (rdD n d) = true
      rw [e1, e2]
      refine ⟨?_, hi⟩
      have h1 := quN_mul n d
      have h2 := quD_mul n d
      calc quN n d * d = quN n d * (quD n d * gcdI n d) := by rw [h2]
        _ = (quN n d * gcdI n d) * quD n d := by rw [Int.mul_comm (quD n d), Int.mul_assoc]
        _ = n * quD n d := by rw [h1]
    · have e3 : rdC n d = 3 := by unfold rdC; rw [if_neg hi]
      have h' : rdC n d = 0 := h
      rw [e3] at h'
      exact absurd h' (by decide)
  · rename_i hr
    rw [if_neg hr] at h
    exact absurd h (by decide)
end Go.Proofs.YtfccmgnoebdlgaaDoor
