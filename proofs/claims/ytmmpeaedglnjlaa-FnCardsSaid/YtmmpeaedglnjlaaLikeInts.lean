/-
  The comparison of lists in the laws.
-/
import Derived.Test.YtmmpeaedglnjlaaDrawFrom
namespace Go.Proofs.Ytmmpeaedglnjlaa
open Go.RowKit

/-- A walk over two lists that compares them. -/
theorem likeInts_any (A B : Option Addr) (c d : Nat) (xs ys : List Int) (w : World) (hA : RowI w A xs) (hB : RowI w B ys) (hl : xs.length ≤ 1048576) :
    Calls Try.prog 26 #[.slice A xs.length c, .slice B ys.length d] w fun e w' => e = .returned (.bool (eqL xs ys)) ∧ ∃ n, w' = w.drewN n := by
  by_cases hne : xs.length = ys.length
  · obtain ⟨n, hn⟩ : ∃ n, n = xs.length := ⟨_, rfl⟩
    rw [← hne, ← hn]
    rw [← hn] at hl
    have HN := Lib.hid hn
    have HE := Lib.hid hne
    have HA := Lib.hid hA
    have HB := Lib.hid hB
    clear hn hne hA hB
    go_enter Try.func26, Try.ntmps26
    go_wp2
    go_loopw [5] (fun i wr => ∃ k : Nat, k ≤ n ∧ i = .int .i64 k ∧ xs.take k = ys.take k ∧ ∃ m, wr = w.drewN m) (fun i _ => n - (intOf i).toNat)
    case atStart => exact ⟨0, Nat.zero_le _, rfl, by simp, 0, rfl⟩
    case round =>
      obtain ⟨k, hk, rfl, ht, m, rfl⟩ := hrel
      have HT := Lib.hid ht
      clear ht
      by_cases hlt : k < n
      · have hkx : k < xs.length := by rw [← HN.out]; exact hlt
        have hky : k < ys.length := by rw [← HE.out, ← HN.out]; exact hlt
        obtain ⟨b, off, rfl, hb, hc⟩ := HA.out.at_ hkx
        obtain ⟨b', off', rfl, hb', hc'⟩ := HB.out.at_ hky
        obtain ⟨x, hx⟩ : ∃ x, x = xs.getD k 0 := ⟨_, rfl⟩
        obtain ⟨y, hy⟩ : ∃ y, y = ys.getD k 0 := ⟨_, rfl⟩
        rw [← hx] at hc
        rw [← hy] at hc'
        have HX := Lib.hid hx
        have HY := Lib.hid hy
        have HKX := Lib.hid hkx
        have HKY := Lib.hid hky
        clear hx hy hb hb' hkx hky
        have i0 : (0 : Int) ≤ (k : Int) := by omega
        have i1 : (k : Int) < (n : Int) := by omega
        by_cases hxy : x = y
        · subst hxy
          go_wp2
          go_quiet (fail)
          go_wp2
          go_roundw
          case rel => exact ⟨k + 1, by omega, by go_num, take_succ_eq HKX.out HKY.out HT.out (HX.out.symm.trans HY.out), _, rfl⟩
          case measure => simp [intOf]; omega
        · have hb1 : (x != y) = true := by simpa using hxy
          have R : Hid (eqL xs ys = false) := eqL_no (fun e => hxy (by rw [HX.out, HY.out, e]))
          clear hxy
          go_wp2
          go_quiet (fail)
          go_wp2
          go_ret
          exact ⟨ret_bool R.out.symm, _, World.drewN_drewN _ _ _⟩
      · have hkn : k = n := by omega
        subst hkn
        clear hlt
        go_wp2
        go_ret
        refine ⟨ret_bool ?_, m, rfl⟩
        have : xs = ys := eq_of_take HE.out (by rw [← HN.out]; exact HT.out)
        rw [this, eqL_self]
  · have R : Hid (eqL xs ys = false) := eqL_no (fun e => hne (by rw [e]))
    have h1 : ((xs.length : Int) != (ys.length : Int)) = true := by simp; omega
    clear hA hB hne
    go_enter Try.func26, Try.ntmps26
    go_wp2
    go_ret
    exact ⟨ret_bool R.out.symm, 0, rfl⟩
theorem likeInts_same (A B : Option Addr) (c d len len' : Nat) (xs ys : List Int) (w : World) (h1 : len = xs.length) (h2 : len' = ys.length) (he : xs = ys) (hA : RowI w A xs) (hB : RowI w B ys) (hl : xs.length ≤ 1048576) :
    Calls Try.prog 26 #[.slice A len c, .slice B len' d] w fun e w' => e = .returned (.bool true) ∧ Below w.heap.size w w' := by
  subst h1 h2 he
  refine (likeInts_any A B c d xs xs w hA hB hl).mono ?_
  rintro e w' ⟨rfl, n, rfl⟩
  exact ⟨by rw [eqL_self], below_drewN (Below.refl _ _) n⟩
end Go.Proofs.Ytmmpeaedglnjlaa
