/-
  Plain mathematics: counting cards by a key. No program is in sight.
-/
import Derived.Test.YtmmpeaedglnjlaaMathCards
namespace Go.Proofs.Ytmmpeaedglnjlaa
/-- How many of the first k numbers have the key j. -/
def cntN (key : Int → Int) (xs : List Int) (j : Nat) : Nat → Int
  | 0 => 0
  | k + 1 => cntN key xs j k + (if key (xs.getD k 0) = (j : Int) then 1 else 0)
theorem cntN_succ (key : Int → Int) (xs : List Int) (j k : Nat) : cntN key xs j (k + 1) = cntN key xs j k + (if key (xs.getD k 0) = (j : Int) then 1 else 0) := rfl
theorem cntN_le (key : Int → Int) (xs : List Int) (j k : Nat) : 0 ≤ cntN key xs j k ∧ cntN key xs j k ≤ (k : Int) := by
  induction k with
  | zero => simp [cntN]
  | succ k ih =>
    unfold cntN
    split <;> omega
def cntL (key : Int → Int) (m : Nat) (xs : List Int) : List Int := (List.range m).map fun j => cntN key xs j xs.length
theorem cntL_length (key : Int → Int) (m : Nat) (xs : List Int) : (cntL key m xs).length = m := by simp [cntL]
theorem cntL_getD (key : Int → Int) (m : Nat) (xs : List Int) (j : Nat) (h : j < m) : (cntL key m xs).getD j 0 = cntN key xs j xs.length := by
  simp [cntL, List.getD_eq_getElem?_getD, List.getElem?_range h]
theorem okC_getD {xs : List Int} (h : okC xs) {k : Nat} (hk : k < xs.length) : 0 ≤ xs.getD k 0 ∧ xs.getD k 0 ≤ 51 := by
  rw [List.getD_eq_getElem?_getD, List.getElem?_eq_getElem hk]
  exact h.1 _ (List.getElem_mem hk)
def rkKey (x : Int) : Int := x / 4
def suKey (x : Int) : Int := x % 4
def rkL (xs : List Int) : List Int := if areC xs = true then cntL rkKey 13 xs else []
def suL (xs : List Int) : List Int := if areC xs = true then cntL suKey 4 xs else []
def arC (xs : List Int) : Int := if areC xs = true then 0 else 1
end Go.Proofs.Ytmmpeaedglnjlaa
