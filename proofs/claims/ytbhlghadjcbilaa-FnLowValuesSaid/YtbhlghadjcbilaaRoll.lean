/-
  The laws' dice: a number below a bound.
-/
import Derived.Test.YtbhlghadjcbilaaDrawFrom
import Derived.Laws.BitsAllLaws
namespace Go.Proofs.Ytbhlghadjcbilaa
open Go.RowKit

/-- What the dice hold: the code, the place in it, the state. -/
def dceF (A : Option Addr) (n c : Nat) (a s : Int) (j : Nat) : Value := if j = 0 then .slice A n c else if j = 1 then .int .i64 a else .int .u64 s
theorem wrap_u64_bd (x : Int) : 0 ≤ IntKind.u64.wrap x ∧ IntKind.u64.wrap x < 18446744073709551616 := by
  rw [IntKind.wrap_u64]
  omega
def DiceAt (w : World) (g : Nat) (A : Option Addr) (n c : Nat) (s : Int) (bs : Nat → Int) : Prop :=
  w.rowIs g 71 3 (dceF A n c 0 s) ∧ 0 ≤ s ∧ s < 18446744073709551616 ∧ (∀ k, 0 ≤ bs k ∧ bs k ≤ 255) ∧
    (n = 0 ∨ ∃ b off, A = some ⟨b, off, none⟩ ∧ b < g ∧ ∀ k, k < n → w.cell? ⟨b, off + k, none⟩ = some (.int .u8 (bs k)))

set_option maxHeartbeats 1000000 in
set_option maxRecDepth 8000 in
theorem roll_any (A : Option Addr) (n c : Nat) (bs : Nat → Int) (sd : Int) (w : World) (h : RowU w A n bs) (hn : n ≤ 1048576) (s0 : 0 ≤ sd) (s1 : sd ≤ 1000) :
    Calls Try.prog 50 #[.slice A n c, .int .u64 sd] w fun e w' => ∃ g s, e = .returned (.pointer (some ⟨g, 0, none⟩)) ∧ w.heap.size ≤ g ∧ DiceAt w' g A n c s bs ∧ Below w.heap.size w w' := by
  have HR := Lib.hid h
  clear h
  go_enter Try.func50, Try.ntmps50
  go_wp2
  go_loopw [6] (fun i wr => ∃ (k : Nat) (s : Int), k ≤ n ∧ i = .int .i64 k ∧ Hid (0 ≤ s ∧ s < 18446744073709551616) ∧ wr.rowIs w.heap.size 71 3 (dceF A n c 0 s) ∧ Hid (Below w.heap.size w wr))
    (fun i _ => n - (intOf i).toNat)
  case atStart => exact ⟨0, sd * 7919 + n, Nat.zero_le _, rfl, ⟨by omega, by omega⟩, (World.rowIs_alloc w _ _ (dceF A n c 0 (sd * 7919 + n)) (fun i hi => by
    have : i = 0 ∨ i = 1 ∨ i = 2 := by simp at hi; omega
    rcases this with rfl | rfl | rfl <;> rfl)), (Below.refl _ _).alloc (Nat.le_refl _) _⟩
  case round =>
    obtain ⟨k, s, hk, rfl, SB, hr, hB⟩ := hrel
    by_cases hlt : k < n
    · obtain ⟨b, off, rfl, hb, hcell⟩ : ∃ b off, A = some ⟨b, off, none⟩ ∧ b < w.heap.size ∧ ∀ k, k < n → w.cell? ⟨b, off + k, none⟩ = some (.int .u8 (bs k)) := by
        rcases HR.out.2 with h | h
        · omega
        · exact h
      have hcb : wr.cell? ⟨b, off + k, none⟩ = some (.int .u8 (bs k)) := (hB.out.cell (p := ⟨b, off + k, none⟩) hb).trans (hcell k hlt)
      obtain ⟨u, hu⟩ : ∃ u, u = bs k := ⟨_, rfl⟩
      have hub := HR.out.1 k
      rw [← hu] at hcb hub
      obtain ⟨u0, u1⟩ := hub
      have hc2 := hr.cell (i := 2) (by omega)
      simp only [dceF, show ¬ (2 : Nat) = 0 by omega, show ¬ (2 : Nat) = 1 by omega, if_false] at hc2
      have hf2 := hr.frozen 2
      have hne : ¬ b = w.heap.size := by omega
      have k0 : (0 : Int) ≤ (k : Int) := by omega
      have k1 : (k : Int) < (n : Int) := by omega
      have HRW := Lib.hid hr
      clear hr hu hcell hb
      go_wp2
      go_region
      all_goals
        go_wp2
        go_roundw
        case rel =>
          refine ⟨k + 1, IntKind.u64.wrap (IntKind.u64.wrap (IntKind.u64.wrap (s * 1099511628211) + u) + 3), by omega, by go_num, wrap_u64_bd _, ((HRW.out.set 2 _).drew).congr (fun j hj => ?_), (hB.out.setCell (Nat.le_refl _) _).drew⟩
          unfold dceF
          by_cases e0 : j = 0
          · simp [e0]
          · by_cases e1 : j = 1
            · simp [e1]
            · have : j = 2 := by omega
              simp [this]
        case measure => simp [intOf]; omega
    · have FIN : Hid (DiceAt wr w.heap.size A n c s bs) := by
        refine ⟨hr, SB.out.1, SB.out.2, HR.out.1, ?_⟩
        rcases HR.out.2 with h | ⟨b, off, e, hl, hc⟩
        · exact .inl h
        · exact .inr ⟨b, off, e, hl, fun k hk => (hB.out.cell (p := ⟨b, off + k, none⟩) hl).trans (hc k hk)⟩
      clear hr
      go_wp2
      go_ret
      exact ⟨w.heap.size, s, rfl, Nat.le_refl _, FIN.out, hB.out⟩

theorem mask24 (x : Int) (h0 : 0 ≤ x) (h1 : x < 18446744073709551616) : 0 ≤ bits BinOp.and IntKind.u64 (x / 2 ^ 33) 16777215 ∧ bits BinOp.and IntKind.u64 (x / 2 ^ 33) 16777215 ≤ 16777215 := by
  obtain ⟨X, rfl⟩ := Int.eq_ofNat_of_zero_le h0
  have e : ((X : Int) / 2 ^ 33) = ((X / 2 ^ 33 : Nat) : Int) := by simp
  have hl : X / 2 ^ 33 < 18446744073709551616 := Nat.lt_of_le_of_lt (Nat.div_le_self _ _) (by omega)
  rw [e, show (16777215 : Int) = ((16777215 : Nat) : Int) from rfl, u64_and_nat _ _ hl (by decide)]
  have := Nat.and_le_right (n := X / 2 ^ 33) (m := 16777215)
  omega
set_option maxHeartbeats 1000000 in
set_option maxRecDepth 8000 in
theorem below_any (g : Nat) (A : Option Addr) (n c : Nat) (s : Int) (bs : Nat → Int) (m : Int) (w : World) (h : DiceAt w g A n c s bs) (hn : n ≤ 1048576) (m0 : 1 ≤ m) (m1 : m ≤ 1000) :
    Calls Try.prog 51 #[.pointer (some ⟨g, 0, none⟩), .int .i64 m] w fun e w' => ∃ x : Int, e = .returned (.int .i64 x) ∧ 0 ≤ x ∧ x < m ∧ w.grownBy w' (some g) := by
  obtain ⟨h1, s0, s1, h7, h8⟩ := h
  have hc0 := h1.cell (i := 0) (by omega)
  have hc1 := h1.cell (i := 1) (by omega)
  have hc2 := h1.cell (i := 2) (by omega)
  have hf1 := h1.frozen 1
  have hf2 := h1.frozen 2
  simp only [dceF, if_true, Nat.one_ne_zero, if_false, show ¬ (2 : Nat) = 0 by omega, show ¬ (2 : Nat) = 1 by omega] at hc0 hc1 hc2
  have MK := Lib.hid (mask24)
  have H8 := Lib.hid h8
  have H7 := Lib.hid h7
  clear h1 h7 h8 s0 s1
  go_enter Try.func51, Try.ntmps51
  go_wp2
  obtain ⟨X, hX⟩ : ∃ X, X = IntKind.u64.wrap (IntKind.u64.wrap (s * 6364136223846793005) + 1442695040888963407) := ⟨_, rfl⟩
  have XB := wrap_u64_bd (IntKind.u64.wrap (s * 6364136223846793005) + 1442695040888963407)
  rw [← hX] at XB ⊢
  have YB := MK.out X XB.1 XB.2
  simp only [show ((2 : Int) ^ 33) = 8589934592 from rfl] at YB
  obtain ⟨Y, hY⟩ : ∃ Y, Y = bits BinOp.and IntKind.u64 (X / 8589934592) 16777215 := ⟨_, rfl⟩
  rw [← hY] at YB ⊢
  obtain ⟨y0, y1⟩ := YB
  have e64 : wrap64 Y = Y := IntWalk.wrap64_in Y ⟨by omega, by omega⟩
  rw [e64]
  clear hX hY XB e64 MK
  by_cases h0 : 0 < n
  · have d0 : decide ((0 : Int) < (n : Int)) = true := by simp; omega
    obtain ⟨b, off, rfl, hb, hcell⟩ : ∃ b off, A = some ⟨b, off, none⟩ ∧ b < g ∧ ∀ k, k < n → w.cell? ⟨b, off + k, none⟩ = some (.int .u8 (bs k)) := by
      rcases H8.out with h | h
      · omega
      · exact h
    have hcb := hcell 0 h0
    rw [Nat.add_zero] at hcb
    obtain ⟨u, hu⟩ : ∃ u, u = bs 0 := ⟨_, rfl⟩
    have hub := H7.out 0
    rw [← hu] at hcb hub
    obtain ⟨u0, u1⟩ := hub
    have hne : ¬ b = g := by omega
    have hi : (0 : Int) < (n : Int) := by omega
    clear hcell hu hb
    go_quiet (fail)
    go_wp2
    go_quiet (fail)
    go_wp2
    go_ret
    exact ⟨(Y + u) % m, rfl, Int.emod_nonneg _ (by omega), Int.emod_lt_of_pos _ (by omega), (((kept_set g 2 w _).drewN _).trans (kept_set g 1 _ _))⟩
  · have d0 : decide ((0 : Int) < (n : Int)) = false := by simp; omega
    go_quiet (fail)
    go_wp2
    go_ret
    exact ⟨Y % m, rfl, Int.emod_nonneg _ (by omega), Int.emod_lt_of_pos _ (by omega), (kept_set g 2 w _).drewN _⟩
end Go.Proofs.Ytbhlghadjcbilaa
