/-
  AreCards in the reference and in the program: both return areC of the list.
-/
import Derived.Test.YtbhlghadjcbilaaDoorInts
import Derived.Test.YtbhlghadjcbilaaDoorInWalk
import Derived.Test.YtbhlghadjcbilaaDoorMathCards
import Derived.Laws.BitsAllLaws
namespace Go.Proofs.YtbhlghadjcbilaaDoor
open Go.RowKit

theorem bool_info : (Tryd.prog.info? 4).map (fun i => (i.zero, i.size, i.bytes)) = some (some (.bool false), 1, 1) := by kernel_rfl

/-- The bits as the walk writes them. -/
theorem u64_bit (S m : Nat) (hS : S < 4503599627370496) : bits BinOp.and IntKind.u64 ((S : Int) / 2 ^ m) 1 = ((S / 2 ^ m % 2 : Nat) : Int) := by
  have e : ((S : Int) / 2 ^ m) = ((S / 2 ^ m : Nat) : Int) := by simp
  have h1 : S / 2 ^ m < 18446744073709551616 := Nat.lt_of_le_of_lt (Nat.div_le_self _ _) (by omega)
  rw [e]
  have := u64_and_nat (S / 2 ^ m) 1 h1 (by omega)
  rw [nat_mask1] at this
  exact this
theorem u64_set (S m : Nat) (hS : S < 4503599627370496) (hm : m < 52) : bits BinOp.or IntKind.u64 (S : Int) (IntKind.u64.wrap (2 ^ m)) = ((S ||| 2 ^ m : Nat) : Int) := by
  have h2 : 2 ^ m < 4503599627370496 := by
    have : 2 ^ m < 2 ^ 52 := Nat.pow_lt_pow_right (by omega) hm
    simpa using this
  have e : IntKind.u64.wrap (2 ^ m) = ((2 ^ m : Nat) : Int) := by
    have e1 : ((2 : Int) ^ m) = ((2 ^ m : Nat) : Int) := by simp
    rw [e1]
    simp only [IntKind.wrap, IntKind.bits, IntKind.signed]
    generalize 2 ^ m = q at h2
    simp
    omega
  rw [e]
  exact u64_or_nat S (2 ^ m) (by omega) (by omega)

end Go.Proofs.YtbhlghadjcbilaaDoor
