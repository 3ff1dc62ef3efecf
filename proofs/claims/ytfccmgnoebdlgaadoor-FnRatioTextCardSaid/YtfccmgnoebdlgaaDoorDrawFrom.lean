/-
  A source out of a code; the bound on codes.
-/
import Derived.Test.YtfccmgnoebdlgaaDoorDraw
import Derived.BigRegion
namespace Go.Proofs.YtfccmgnoebdlgaaDoor
open Go.RowKit

/-- The bytes of a code. -/
def RowU (w : World) (A : Option Addr) (n : Nat) (bs : Nat → Int) : Prop :=
  (∀ k, 0 ≤ bs k ∧ bs k ≤ 255) ∧ (n = 0 ∨ ∃ b off, A = some ⟨b, off, none⟩ ∧ b < w.heap.size ∧ ∀ k, k < n → w.cell? ⟨b, off + k, none⟩ = some (.int .u8 (bs k)))
theorem RowU.below {w w' : World} {A : Option Addr} {n : Nat} {bs : Nat → Int} (h : RowU w A n bs) (hb : Below w.heap.size w w') : RowU w' A n bs := by
  refine ⟨h.1, ?_⟩
  rcases h.2 with h | ⟨b, off, e, hl, hc⟩
  · exact .inl h
  · exact .inr ⟨b, off, e, Nat.lt_of_lt_of_le hl hb.size, fun k hk => (hb.cell (p := ⟨b, off + k, none⟩) hl).trans (hc k hk)⟩
theorem IsRow.rowU {w : World} {a : Option Addr} {len cap : Nat} {zs : List Int} (h : IsRow .u8 w a len cap zs) : ∃ bs, RowU w a len bs := by
  rcases h with ⟨rfl, rfl, rfl, rfl⟩ | ⟨x, rfl, hl, hm, hz, hc, hwf⟩
  · exact ⟨fun _ => 0, fun _ => by simp, .inl rfl⟩
  · refine ⟨fun k => zs.getD k 0, fun k => ?_, ?_⟩
    · rcases Nat.lt_or_ge k zs.length with hk | hk
      · have := hwf (zs.getD k 0) (by rw [List.getD_eq_getElem?_getD, List.getElem?_eq_getElem hk]; exact List.getElem_mem hk)
        simp [Lit.wf, IntKind.min, IntKind.max, IntKind.signed, IntKind.bits] at this
        simpa using this
      · simp [List.getD_eq_getElem?_getD, List.getElem?_eq_none hk]
    · rcases Nat.eq_zero_or_pos len with h0 | h0
      · exact .inl h0
      · obtain ⟨b, off, sp⟩ := x
        have h00 := hc 0 (by omega)
        have hsp : sp = none := by simpa [Addr.add] using World.cell?_spot h00
        subst hsp
        have hb : b < w.heap.size := by
          have := World.block_lt_of_cell? w _ h00
          simpa [Addr.add] using this
        exact .inr ⟨b, off, rfl, hb, fun k hk => by rw [← hc k (by omega), Go.WideShapes.add_plain]⟩

set_option maxRecDepth 8000 in
theorem l01From_any (A : Option Addr) (n c : Nat) (bs : Nat → Int) (w : World) (h : RowU w A n bs) (hn : n ≤ 1048576) :
    Calls Tryd.prog 28 #[.slice A n c] w fun e w' => ∃ g, e = .returned (.pointer (some ⟨g, 0, none⟩)) ∧ w.heap.size ≤ g ∧ Src w' g ∧ Below w.heap.size w w' := by
  have HR := Lib.hid h
  clear h
  go_enter Tryd.func28, Tryd.ntmps28
  go_wp2
  go_loopw [4] (fun i wr => ∃ (k : Nat) (s : Int), k ≤ n ∧ i = .int .i64 k ∧ 0 ≤ s ∧ s < 2147483647 ∧ wr.rowIs w.heap.size 63 3 (srcF A n c 0 s) ∧ Hid (Below w.heap.size w wr))
    (fun i _ => n - (intOf i).toNat)
  case atStart => exact ⟨0, 45007, Nat.zero_le _, rfl, by omega, by omega, (World.rowIs_alloc w #[.slice A n c, .int .i64 0, .int .i64 45007] _ (srcF A n c 0 45007) (fun i hi => by
    have : i = 0 ∨ i = 1 ∨ i = 2 := by simp at hi; omega
    rcases this with rfl | rfl | rfl <;> rfl)), (Below.refl _ _).alloc (Nat.le_refl _) _⟩
  case round =>
    obtain ⟨k, s, hk, rfl, s0, s1, hr, hB⟩ := hrel
    have fin : Hid (Src wr w.heap.size) := by
      refine ⟨A, n, c, 0, s, bs, hr, by omega, by omega, hn, s0, s1, HR.out.1, ?_⟩
      rcases HR.out.2 with h | ⟨b, off, e, hl, hc⟩
      · exact .inl h
      · exact .inr ⟨b, off, e, hl, fun k hk => (hB.out.cell (p := ⟨b, off + k, none⟩) hl).trans (hc k hk)⟩
    by_cases hgo : k < n ∧ k < 64
    · obtain ⟨hlt, h64⟩ := hgo
      obtain ⟨b, off, rfl, hb, hcell⟩ : ∃ b off, A = some ⟨b, off, none⟩ ∧ b < w.heap.size ∧ ∀ k, k < n → w.cell? ⟨b, off + k, none⟩ = some (.int .u8 (bs k)) := by
        rcases HR.out.2 with h | h
        · omega
        · exact h
      have hcb : wr.cell? ⟨b, off + k, none⟩ = some (.int .u8 (bs k)) := (hB.out.cell (p := ⟨b, off + k, none⟩) hb).trans (hcell k hlt)
      obtain ⟨u, hu⟩ : ∃ u, u = bs k := ⟨_, rfl⟩
      have hub := HR.out.1 k
      rw [← hu] at hcb hub
      obtain ⟨u0, u1⟩ := hub
      have hc2 := hr.cell (i := 2) (by omega)
      simp only [srcF, show ¬ (2 : Nat) = 0 by omega, show ¬ (2 : Nat) = 1 by omega, if_false] at hc2
      have hf2 := hr.frozen 2
      have hne : ¬ b = w.heap.size := by omega
      have k0 : (0 : Int) ≤ (k : Int) := by omega
      have k1 : (k : Int) < (n : Int) := by omega
      have e1 : IntKind.i64.wrap (s * 61) = s * 61 := IntWalk.i64_in _ (by omega)
      have e2 : IntKind.i64.wrap (s * 61 + u) = s * 61 + u := IntWalk.i64_in _ (by omega)
      obtain ⟨s2, hs2⟩ : ∃ s2, s2 = (s * 61 + u) % 2147483647 := ⟨_, rfl⟩
      have e3 : (s * 61 + u).tmod 2147483647 = s2 := by rw [Int.tmod_eq_emod_of_nonneg (by omega), hs2]
      have s20 : 0 ≤ s2 := by rw [hs2]; omega
      have s21 : s2 < 2147483647 := by rw [hs2]; omega
      have HRW := Lib.hid hr
      clear hr hu hcell hb hs2 fin
      go_wp2
      go_region
      all_goals
        go_wp2
        go_roundw
        case rel =>
          refine ⟨k + 1, s2, by omega, by go_num, s20, s21, ((HRW.out.set 2 _).drew).congr (fun j hj => ?_), (hB.out.setCell (Nat.le_refl _) _).drew⟩
          unfold srcF
          by_cases e0 : j = 0
          · simp [e0]
          · by_cases e1 : j = 1
            · simp [e1]
            · have : j = 2 := by omega
              simp [this]
        case measure => simp [intOf]; omega
    · have HRW := Lib.hid hr
      clear hr
      by_cases hlt : k < n
      · have h64 : 64 ≤ k := by omega
        go_wp2
        go_ret
        exact ⟨w.heap.size, rfl, Nat.le_refl _, fin.out, hB.out⟩
      · go_wp2
        go_ret
        exact ⟨w.heap.size, rfl, Nat.le_refl _, fin.out, hB.out⟩
theorem big_any (A : Option Addr) (n c : Nat) (w : World) : Calls Tryd.prog 9 #[.slice A n c] w fun e w' => e = .returned (.bool (decide (4096 < n))) ∧ w = w' := by
  by_cases h : 4096 < n
  · have R : Hid (decide (4096 < n) = true) := decide_eq_true h
    go_enter Tryd.func9, Tryd.ntmps9
    go_wp2
    go_ret
    exact ⟨ret_bool (by rw [R.out]; simp; omega), rfl⟩
  · have R : Hid (decide (4096 < n) = false) := decide_eq_false h
    go_enter Tryd.func9, Tryd.ntmps9
    go_wp2
    go_ret
    exact ⟨ret_bool (by rw [R.out]; simp; omega), rfl⟩

end Go.Proofs.YtfccmgnoebdlgaaDoor
