/-
  impl.choices and impl.chosen.
-/
import Derived.Test.YtgkhhfkijepenaaChoiceSeq
import Derived.Test.YtgkhhfkijepenaaLists
import Derived.Test.YtgkhhfkijepenaaOwnT
namespace Go.Proofs.Ytgkhhfkijepenaa
open Go.RowKit

/-- The elements with some indices. -/
def pickL (xs : List Int) (c : List Nat) : List Int := c.map fun i => xs.getD i 0
theorem pickL_length (xs : List Int) (c : List Nat) : (pickL xs c).length = c.length := by simp [pickL]
theorem pickL_getD {xs : List Int} {c : List Nat} {j : Nat} (h : j < c.length) : (pickL xs c).getD j 0 = xs.getD (c.getD j 0) 0 := by
  simp [pickL, List.getD_eq_getElem?_getD, h]
theorem pickL_comb {xs : List Int} {n k : Nat} (h : xs.length = n) : (idxC n k).map (pickL xs) = comb xs k := by
  subst h
  rw [comb_idx]
  rfl

theorem choices_any (n k : Int) (w : World) : Calls Try.prog 37 #[.int .i64 n, .int .i64 k] w fun e w' =>
    e = .returned (.func (.func 60) #[] #[.pointer (some ⟨w.heap.size + 1, 0, none⟩), .pointer (some ⟨w.heap.size, 0, none⟩)]) ∧ w' = (w.alloc (.cells #[.int .i64 n] 3)).alloc (.cells #[.int .i64 k] 3) := by
  go_enter Try.func37, Try.ntmps37
  go_wp2
  go_ret
  exact ⟨rfl, rfl⟩

set_option maxHeartbeats 1000000 in
theorem chosen_any (A : Option Addr) (c : Nat) (xs : List Int) (len : Nat) (ch : List Nat) (G k : Nat) (w : World) (hlen : len = xs.length) (h : RowI w A xs) (hG : GoodC k (G, ch) w) (hi : ∀ i, i < k → ch.getD i 0 < xs.length) (hk : k ≤ 8) :
    Calls Try.prog 38 #[.slice A len c, .slice (some ⟨G, 0, none⟩) k k] w (GivesT w (pickL xs ch)) := by
  subst hlen
  obtain ⟨hc, hcl⟩ := hG
  have HR := Lib.hid h
  have HC := Lib.hid hc
  have HL := Lib.hid hcl
  have HI := Lib.hid hi
  have GL : G < w.heap.size := World.rowIs.lt hc
  have hmk := run_make_row' (P := Try.prog) 24 2 _ 8 Try.underlying24 int_info rfl .i64 .i64 k (by omega) (by omega)
  obtain ⟨n, hn⟩ : ∃ n, n = xs.length := ⟨_, rfl⟩
  rw [← hn]
  have HN := Lib.hid hn
  clear h hc hcl hi hn
  go_enter Try.func38, Try.ntmps38
  go_wp2
  go_loopw [13] (fun i wr => ∃ q : Nat, q ≤ k ∧ i = .int .i64 q ∧ Hid (wr.rowIs w.heap.size 2 k (fun j => .int .i64 (if j < q then (pickL xs ch).getD j 0 else 0))) ∧ Hid (Below w.heap.size w wr))
    (fun i _ => k - (intOf i).toNat)
  case atStart => exact ⟨0, Nat.zero_le _, rfl, (World.rowIs_made w _ k _).congr (fun i _ => by simp), (Below.refl _ _).alloc (Nat.le_refl _) _⟩
  case round =>
    obtain ⟨q, hq, rfl, RW, BW⟩ := hrel
    clear hmk
    by_cases hlt : q < k
    · obtain ⟨iv, hiv⟩ : ∃ iv, iv = ch.getD q 0 := ⟨_, rfl⟩
      have hin : iv < xs.length := by rw [hiv]; exact HI.out q hlt
      have hin' : iv < n := by rw [HN.out]; exact hin
      have hci : wr.cell? ⟨G, q, none⟩ = some (.int .i64 (iv : Nat)) := (BW.out.cell (p := ⟨G, q, none⟩) GL).trans (HC.out.at_ hlt (by rw [hiv]))
      obtain ⟨b, off, rfl, hb, hcell⟩ := HR.out.at_ (k := iv) hin
      have hcx : wr.cell? ⟨b, off + iv, none⟩ = some (.int .i64 (xs.getD iv 0)) := (BW.out.cell (p := ⟨b, off + iv, none⟩) hb).trans hcell
      obtain ⟨x, hx⟩ : ∃ x, x = xs.getD iv 0 := ⟨_, rfl⟩
      rw [← hx] at hcx
      have hc2 := RW.out.cell (i := q) hlt
      simp only [Nat.lt_irrefl, if_false] at hc2
      have hf2 := RW.out.frozen q
      have PX : Hid (x = (pickL xs ch).getD q 0) := by show _ = _; rw [pickL_getD (by rw [HL.out]; exact hlt), hx, hiv]
      clear hcell hb hx hiv hin
      go_wp2
      go_roundw
      case rel =>
        exact ⟨q + 1, by omega, by go_num, (RW.out.set q _).congr (fun j _ => by
          by_cases e : j = q
          · subst e; simp [PX.out]
          · simp only [e, if_false]
            by_cases e2 : j < q
            · simp [e2, Nat.lt_succ_of_lt e2]
            · have : ¬ j < q + 1 := by omega
              simp [e2, this]), BW.out.setCell (Nat.le_refl _) _⟩
      case measure => simp [intOf]; omega
    · have hqk : q = k := by omega
      have FIN : Hid (GivesT w (pickL xs ch) (.returned (.slice (some ⟨w.heap.size, 0, none⟩) k k)) wr) := by
        have e : (pickL xs ch).length = k := by rw [pickL_length]; exact HL.out
        refine ⟨some ⟨w.heap.size, 0, none⟩, k, by rw [e], .inr ⟨w.heap.size, _, rfl, Nat.le_refl _, RW.out.lt, by rw [e]; exact Nat.le_refl _, by simp only [maxLen]; omega, RW.out, fun j hj => ?_⟩, BW.out⟩
        rw [e] at hj
        simp [hqk, hj]
      clear hlt
      go_wp2
      go_ret
      exact FIN.out
end Go.Proofs.Ytgkhhfkijepenaa
