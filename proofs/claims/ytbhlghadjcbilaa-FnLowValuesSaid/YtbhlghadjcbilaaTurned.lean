/-
  A list turned round.
-/
import Derived.Test.YtbhlghadjcbilaaMathPerm
import Derived.Test.YtbhlghadjcbilaaWords
import Derived.Test.YtbhlghadjcbilaaDrawDeal
namespace Go.Proofs.Ytbhlghadjcbilaa
open Go.RowKit

/-- A list turned round: its second part ahead of its first. -/
def Turned (w : World) (ys : List Int) (v : Value) (w' : World) : Prop := ∃ ts A c, v = .slice A ts.length c ∧ RowI w' A ts ∧ ys.Perm ts ∧ Below w.heap.size w w'
theorem turned_of {w w5 : World} {v5 : Value} {ys : List Int} {m n : Nat} (hl : ys.length = n) (hm : m ≤ n) (hb : Below w.heap.size w w5)
    (ho : w5.ownsRow w.heap.size 2 1 v5 (0 + (n - m) + m) ([] ++ (ys.drop m).map (Value.int .i64) ++ (ys.take m).map (Value.int .i64))) : Turned w ys v5 w5 := by
  have e : 0 + (n - m) + m = (ys.drop m ++ ys.take m).length := by simp; omega
  obtain ⟨A, c, hv, hT⟩ := ownI_of_owns (xs := ys.drop m ++ ys.take m) (v := v5) (by rw [← e]; simpa using ho)
  exact ⟨_, A, c, hv, hT.row, turn_perm ys m, hb⟩

end Go.Proofs.Ytbhlghadjcbilaa
