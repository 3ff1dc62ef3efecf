/-
  The text of a ratio in the reference and in the program.
-/
import Derived.Test.YtfccmgnoebdlgaaDoorRatIs
import Derived.Test.YtfccmgnoebdlgaaDoorLaid
import Derived.Test.YtfccmgnoebdlgaaDoorMathRText
import Derived.Lib.ItoaMem
import Derived.Lib.ItoaLen
import Derived.Deep.RegionLaw
import Derived.Deep.OwnRows
namespace Go.Proofs.YtfccmgnoebdlgaaDoor
open Go.RowKit

def bytesOf (l : List UInt8) : ByteArray := ⟨l.toArray⟩
theorem bytesOf_append (a b : List UInt8) : bytesOf a ++ bytesOf b = bytesOf (a ++ b) := by
  apply ByteArray.ext
  simp [bytesOf]
theorem bytesOf_size (a : List UInt8) : (bytesOf a).size = a.length := by show a.toArray.size = _; simp
theorem digit_byte {q : Nat} (h : q < 10) : IntKind.u8.wrap (48 + (q : Int)) = (((UInt8.ofNat (48 + q)).toNat : Nat) : Int) := by
  have : ∀ q : Fin 10, IntKind.u8.wrap (48 + (q.val : Int)) = (((UInt8.ofNat (48 + q.val)).toNat : Nat) : Int) := by decide
  exact this ⟨q, h⟩
theorem conv_one (w : World) (N c : Nat) (b : UInt8) (h : w.cell? ⟨N, 0, none⟩ = some (.int .u8 ((b.toNat : Nat) : Int))) :
    (convert 28 9 (.slice (some ⟨N, 0, none⟩) 1 c)).run Tryd.prog w = .ok (.string (bytesOf [b])) w := by
  refine run_convert_bytes_back w 28 9 5 ⟨N, 0, none⟩ c [b] Tryd.underlying28 Tryd.underlying5 Tryd.underlying9 (fun j hj => ?_)
  have : j = 0 := by simpa using hj
  subst this
  exact h
theorem new_byte (W : World) (b : UInt8) : (W.alloc (.cells #[.int .u8 ((b.toNat : Nat) : Int)] 5)).cell? ⟨W.heap.size, 0, none⟩ = some (.int .u8 ((b.toNat : Nat) : Int)) := by
  have h := World.rowIs_alloc W #[.int .u8 ((b.toNat : Nat) : Int)] 5 (fun _ => Value.int .u8 ((b.toNat : Nat) : Int)) (fun i hi => by
      have hi' : i < 1 := hi
      have : i = 0 := by omega
      subst this; rfl)
  exact h.cell (i := 0) Nat.one_pos
theorem conv_new (W : World) (b : UInt8) : (convert 28 9 (.slice (some ⟨W.heap.size, 0, none⟩) 1 1)).run Tryd.prog (W.alloc (.cells #[.int .u8 ((b.toNat : Nat) : Int)] 5)) = .ok (.string (bytesOf [b])) (W.alloc (.cells #[.int .u8 ((b.toNat : Nat) : Int)] 5)) :=
  conv_one _ _ _ _ (new_byte W b)

set_option maxHeartbeats 2000000 in
set_option maxRecDepth 8000 in
theorem l01Dec_any (k : Nat) : ∀ (u : Nat) (w : World), u < k → u < 10 ^ 18 →
    Calls Tryd.prog 41 #[.int .i64 (u : Int)] w fun e w' => e = .returned (.string (bytesOf (Lib.decDigits u))) ∧ Below w.heap.size w w' := by
  induction k with
  | zero => intro u w h; omega
  | succ k ih =>
    intro u w hk hu
    by_cases h10 : u < 10
    · have W1 : IntKind.i64.wrap (48 + (u : Int)) = 48 + (u : Int) := IntWalk.i64_in _ (by omega)
      have W2 := digit_byte h10
      obtain ⟨b, hb⟩ : ∃ b, b = UInt8.ofNat (48 + u) := ⟨_, rfl⟩
      rw [← hb] at W2
      have R : Hid (Lib.decDigits u = [b]) := by show _ = _; rw [decDigits_small h10, hb]
      have CV := conv_new w b
      have lt : (u : Int) < 10 := by omega
      clear hb ih hk hu
      go_enter Tryd.func41, Tryd.ntmps41
      go_wp2
      go_ret
      exact ⟨by rw [R.out]; rfl, (Below.refl _ _).alloc (Nat.le_refl _) _⟩
    · have nlt : ¬ (u : Int) < 10 := by omega
      obtain ⟨q, hq⟩ : ∃ q, q = u % 10 := ⟨_, rfl⟩
      have q10 : q < 10 := by omega
      have D1 : (u : Int).tdiv 10 = ((u / 10 : Nat) : Int) := by rw [Int.tdiv_eq_ediv_of_nonneg (by omega)]; omega
      have D2 : IntKind.i64.wrap ((u / 10 : Nat) : Int) = ((u / 10 : Nat) : Int) := IntWalk.i64_in _ (by omega)
      have D3 : (u : Int).tmod 10 = (q : Int) := by rw [Int.tmod_eq_emod_of_nonneg (by omega)]; omega
      have D4 : IntKind.i64.wrap (q : Int) = (q : Int) := IntWalk.i64_in _ (by omega)
      have W1 : IntKind.i64.wrap (48 + (q : Int)) = 48 + (q : Int) := IntWalk.i64_in _ (by omega)
      have W2 := digit_byte q10
      obtain ⟨b, hb⟩ : ∃ b, b = UInt8.ofNat (48 + q) := ⟨_, rfl⟩
      rw [← hb] at W2
      obtain ⟨T, hT⟩ : ∃ T, T = bytesOf (Lib.decDigits (u / 10)) := ⟨_, rfl⟩
      obtain ⟨Y, hY⟩ : ∃ Y, Y = bytesOf [b] := ⟨_, rfl⟩
      have ts : T.size ≤ 100 := by rw [hT, bytesOf_size]; have := decDigits_len 17 (u / 10) (by omega); omega
      have ys : Y.size = 1 := by rw [hY]; rfl
      have Z1 : ¬ (9223372036854775807 < T.size + Y.size) := by omega
      have R : Hid (bytesOf (Lib.decDigits u) = T ++ Y) := by show _ = _; rw [decDigits_big h10, ← hq, hT, hY, bytesOf_append, hb]
      have IH : Hid (∀ W : World, Calls Tryd.prog 41 #[.int .i64 ((u / 10 : Nat) : Int)] W fun e w' => e = .returned (.string T) ∧ Below W.heap.size W w') := fun W => by rw [hT]; exact ih (u / 10) W (by omega) (by omega)
      have CN : Hid (∀ W : World, (convert 28 9 (.slice (some ⟨W.heap.size, 0, none⟩) 1 1)).run Tryd.prog (W.alloc (.cells #[.int .u8 ((b.toNat : Nat) : Int)] 5)) = .ok (.string Y) (W.alloc (.cells #[.int .u8 ((b.toNat : Nat) : Int)] 5))) := fun W => by rw [hY]; exact conv_new W b
      obtain ⟨m, hm⟩ : ∃ m, m = u / 10 := ⟨_, rfl⟩
      rw [← hm] at D1 D2 IH
      have CA : Hid (Calls Tryd.prog 41 #[.int .i64 (m : Int)] w.drew fun e w' => e = .returned (.string T) ∧ Hid (Below w.heap.size w w') ∧ (convert 28 9 (.slice (some ⟨w'.heap.size, 0, none⟩) 1 1)).run Tryd.prog (w'.alloc (.cells #[.int .u8 ((b.toNat : Nat) : Int)] 5)) = .ok (.string Y) (w'.alloc (.cells #[.int .u8 ((b.toNat : Nat) : Int)] 5))) :=
        (IH.out w.drew).mono fun e w' ⟨he, hb⟩ => ⟨he, (below_drewN (Below.refl _ _) 1).trans hb, CN.out w'⟩
      have CB : Hid (Calls Tryd.prog 41 #[.int .i64 (m : Int)] (w.alloc (.cells #[.int .u8 ((b.toNat : Nat) : Int)] 5)).drew fun e w' => e = .returned (.string T) ∧ Hid (Below w.heap.size w w') ∧ (convert 28 9 (.slice (some ⟨w.heap.size, 0, none⟩) 1 1)).run Tryd.prog w' = .ok (.string Y) w') :=
        (IH.out _).mono fun e w' ⟨he, hb⟩ => ⟨he, (below_drewN ((Below.refl _ w).alloc (Nat.le_refl _) _) 1).trans (hb.mono (by simp)), by
          rw [hY]
          exact conv_one _ _ _ _ ((hb.cell (p := ⟨w.heap.size, 0, none⟩) (by simp)).trans (new_byte w b))⟩
      have CD : (convert 28 9 (.slice (some ⟨w.heap.size, 0, none⟩) 1 1)).run Tryd.prog (w.alloc (.cells #[.int .u8 ((b.toNat : Nat) : Int)] 5)).drew = .ok (.string Y) (w.alloc (.cells #[.int .u8 ((b.toNat : Nat) : Int)] 5)).drew := by
        rw [hY]; exact conv_one _ _ _ _ (new_byte w b)
      clear hb hT hY ih hk hu hq h10 hm ts ys
      go_enter Tryd.func41, Tryd.ntmps41
      go_wp2
      go_region_law (first
        | (go_simp; go_at_call 41; refine CA.out.mono ?_; rintro e w3 ⟨rfl, B3, C3⟩)
        | (go_simp; go_at_call 41; refine CB.out.mono ?_; rintro e w3 ⟨rfl, B3, C3⟩))
      all_goals
        go_wp2
        go_ret
        exact ⟨by rw [R.out]; rfl, by first | exact B3.out | exact B3.out.alloc (B3.out.size) _⟩
end Go.Proofs.YtfccmgnoebdlgaaDoor
