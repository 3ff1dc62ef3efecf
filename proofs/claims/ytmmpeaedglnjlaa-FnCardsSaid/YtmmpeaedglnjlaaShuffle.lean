/-
  The shuffled deck in the reference and in the program.
-/
import Derived.Test.YtmmpeaedglnjlaaOthers
import Derived.Test.YtmmpeaedglnjlaaMathShuffle
import Derived.BigRegion
namespace Go.Proofs.Ytmmpeaedglnjlaa
open Go.RowKit

theorem okC_nil' : okC [] := okC_nil
theorem shK_own {w wr w1 : World} {g c1 : Nat} {t : TypeId} {f : Nat → Value} {seed : Int} (g1 : w.heap.size ≤ g) (g2 : g < w1.heap.size) (g3 : 52 ≤ c1) (g4 : c1 ≤ maxLen)
    (hr : wr.rowIs g t c1 (fun j => if j < 52 then .int .i64 ((shN seed 51).1 j) else f j)) (hs : wr.heap.size = w1.heap.size) : OwnI wr w.heap.size (some ⟨g, 0, none⟩) c1 (shK seed) :=
  OwnI.of_rowIs g1 (by rw [hs]; exact g2) (by rw [shK_length]; exact g3) g4 hr (fun j hj => by
    rw [shK_length] at hj
    rw [shK_getD _ _ hj, if_pos hj])

theorem shK_ownT {w wr w1 : World} {g c1 : Nat} {f : Nat → Value} {seed : Int} (g1 : w.heap.size ≤ g) (g2 : g < w1.heap.size) (g3 : 52 ≤ c1) (g4 : c1 ≤ maxLen)
    (hr : wr.rowIs g 2 c1 (fun j => if j < 52 then .int .i64 ((shN seed 51).1 j) else f j)) (hs : wr.heap.size = w1.heap.size) : OwnT wr w.heap.size (some ⟨g, 0, none⟩) c1 (shK seed) :=
  .inr ⟨g, _, rfl, g1, by rw [hs]; exact g2, by rw [shK_length]; exact g3, g4, hr, fun j hj => by
    rw [shK_length] at hj
    rw [shK_getD _ _ hj, if_pos hj]⟩

set_option maxHeartbeats 1000000 in
set_option maxRecDepth 8000 in
theorem l03Shuffled_own (seed : Int) (w : World) (h1 : 1 ≤ seed) (h2 : seed ≤ 2147483646) :
    Calls Try.prog 61 #[.int .i64 seed] w (GivesT w (shK seed)) := by
  go_enter Try.func61, Try.ntmps61
  go_wp2_with fail
  refine (l02Others_own none 0 [] _ (RowI.nil _ _) (by simp)).mono ?_
  rintro e w1 ⟨A1, c1, rfl, ho, hb1⟩
  have hlen : (othK [] 52).length = 52 := (oth_nil 52).1
  rcases ho with ⟨_, _, h0⟩ | ⟨g, f, rfl, g1, g2, g3, g4, hr0, hf0⟩
  · rw [h0] at hlen; simp at hlen
  rw [hlen] at g3 hf0 ⊢
  have HB := Lib.hid hb1
  have HR0 := Lib.hid hr0
  have HF0 := Lib.hid hf0
  clear hr0 hf0 hb1 hlen
  go_wp2
  go_loopw [0, 4, 5, 6] (fun s i _ _ wr => ∃ m p : Nat, m + p = 51 ∧ i = .int .i64 p ∧ s = .int .i64 (shN seed m).2 ∧ Hid (wr.rowIs g 2 c1 (fun j => if j < 52 then .int .i64 ((shN seed m).1 j) else f j)) ∧ Hid (Below w.heap.size w wr ∧ wr.heap.size = w1.heap.size))
    (fun _ i _ _ _ => (intOf i).toNat)
  case atStart => exact ⟨0, 51, rfl, rfl, rfl, HR0.out.congr (fun j _ => by
    by_cases hj : j < 52
    · rw [if_pos hj, HF0.out j hj, (oth_nil 52).2 j hj]; rfl
    · rw [if_neg hj]), HB.out, rfl⟩
  case round =>
    obtain ⟨m, p, hmp, rfl, rfl, hr, hB⟩ := hrel
    by_cases hlt : 0 < p
    · have hp : p = 51 - m := by omega
      have hsd := shN_seed seed ⟨by omega, by omega⟩ m
      obtain ⟨s0, hs0⟩ : ∃ s0, s0 = (shN seed m).2 := ⟨_, rfl⟩
      rw [← hs0] at hsd ⊢
      obtain ⟨sa, sb⟩ := hsd
      obtain ⟨s1, hs1⟩ : ∃ s1, s1 = nextI s0 := ⟨_, rfl⟩
      have hn := nextI_pos s0
      rw [← hs1] at hn
      obtain ⟨na, nb⟩ := hn
      have pp : (0 : Int) < (p : Int) + 1 := by omega
      have hmod0 := Int.emod_nonneg s1 (show (p : Int) + 1 ≠ 0 by omega)
      have hmod1 := Int.emod_lt_of_pos s1 pp
      obtain ⟨j, hj⟩ : ∃ j : Nat, s1 % ((p : Int) + 1) = (j : Int) := ⟨(s1 % ((p : Int) + 1)).toNat, by omega⟩
      have hjp : j ≤ p := by omega
      have k1 : IntKind.i64.wrap ((p : Int) + 1) = (p : Int) + 1 := IntWalk.i64_in _ (by omega)
      have k2 : s1.tmod ((p : Int) + 1) = (j : Int) := by rw [Int.tmod_eq_emod_of_nonneg na]; exact hj
      obtain ⟨x, hx⟩ : ∃ x, x = (shN seed m).1 p := ⟨_, rfl⟩
      obtain ⟨y, hy⟩ : ∃ y, y = (shN seed m).1 j := ⟨_, rfl⟩
      have hr' := hr.out
      have hcp := hr'.cell (i := p) (by omega)
      have hcj := hr'.cell (i := j) (by omega)
      simp only [if_pos (show p < 52 by omega), if_pos (show j < 52 by omega)] at hcp hcj
      rw [← hx] at hcp
      rw [← hy] at hcj
      have hfp := hr'.frozen p
      have hfj := hr'.frozen j
      have hp0 : p < c1 := by omega
      have hj0 : j < c1 := by omega
      have HX := Lib.hid hx
      have HY := Lib.hid hy
      have HS0 := Lib.hid hs0
      have HS1 := Lib.hid hs1
      have HJ := Lib.hid hj
      have HP := Lib.hid hp
      have hcp2 : (wr.setCell ⟨g, p, none⟩ (.int .i64 y)).cell? ⟨g, j, none⟩ = some (if j = p then .int .i64 y else .int .i64 y) := by
        have := (hr'.set p (.int .i64 y)).cell (i := j) (by omega)
        rw [this]
        by_cases e : j = p
        · simp only [if_pos e]
        · simp only [if_neg e, if_pos (show j < 52 by omega), ← HY.out]
      rw [ite_self] at hcp2
      have hfj2 := (hr'.set p (.int .i64 y)).frozen j
      clear hx hy hs0 hs1 hj hp hr' hmod0 hmod1
      go_wp2_with (go_at_call 65; refine (l03Next_any _ _ (by omega) (by omega)).mono ?_; rintro e w2 ⟨rfl, rfl⟩; rw [← HS1.out])
      go_roundw
      case rel =>
        refine ⟨m + 1, p - 1, by omega, by go_num, by show _ = Value.int .i64 (nextI _); rw [← HS0.out, ← HS1.out], ((hr.out.set p _).set j _).congr (fun i _ => ?_), ?_⟩
        · show _ = if i < 52 then Value.int .i64 (swapF (shN seed m).1 (51 - m) (nextI (shN seed m).2 % ((51 - m : Nat) + 1 : Int)).toNat i) else f i
          have ej : (nextI (shN seed m).2 % ((51 - m : Nat) + 1 : Int)).toNat = j := by
            rw [← HS0.out, ← HS1.out, ← HP.out, HJ.out]; rfl
          rw [ej, ← HP.out]
          unfold swapF
          by_cases e1 : i = j
          · have : i < 52 := by omega
            simp only [if_pos e1, if_pos this]
            rw [HX.out]
          · by_cases e2 : i = p
            · have : i < 52 := by omega
              simp only [if_neg e1, if_pos e2, if_pos this]
              rw [HY.out]
            · by_cases e3 : i < 52
              · simp only [if_neg e1, if_neg e2, if_pos e3]
              · simp only [if_neg e1, if_neg e2, if_neg e3]
        · exact ⟨((hB.out.1.setCell (p := ⟨g, p, none⟩) g1 (.int .i64 y)).setCell (p := ⟨g, j, none⟩) g1 (.int .i64 x)), by simpa [World.setCell] using hB.out.2⟩
      case measure => simp [intOf]; omega

    · have hp0 : p = 0 := by omega
      subst hp0
      have hm : m = 51 := by omega
      subst hm
      clear hlt hmp
      go_wp2
      go_ret
      exact ⟨some ⟨g, 0, none⟩, c1, by rw [shK_length]; rfl, shK_ownT g1 g2 g3 g4 hr.out hB.out.2, hB.out.1⟩
theorem l03Shuffled_any (seed : Int) (w : World) (h1 : 1 ≤ seed) (h2 : seed ≤ 2147483646) :
    Calls Try.prog 61 #[.int .i64 seed] w (GivesI w (shK seed)) := (l03Shuffled_own seed w h1 h2).mono fun _ _ h => h.gives

end Go.Proofs.Ytmmpeaedglnjlaa
