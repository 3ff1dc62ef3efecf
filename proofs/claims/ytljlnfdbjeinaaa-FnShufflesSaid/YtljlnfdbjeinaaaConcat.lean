/-
  slices.Grow at nil, slices.Concat at two lists.
-/
import Derived.Test.YtljlnfdbjeinaaaOwn
import Derived.Lib.AppendZeros
namespace Go.Proofs.Ytljlnfdbjeinaaa
open Go.RowKit

theorem owns_zeros (w : World) (n cap : Nat) (z : Value) (hz : z.cells.size = 1) (h1 : n ≤ cap) (h2 : cap ≤ maxLen) :
    (w.alloc (.cells (Builtin.zeroCells z.cells n ++ Builtin.zeroCells z.cells (cap - n)) 2)).ownsRow w.heap.size 2 1 (.slice (some ⟨w.heap.size, 0, none⟩) 0 cap) 0 [] :=
  World.ownsRow_made w _ cap (Nat.le_refl _) h2 (by simp [size_zeroCells, hz]; omega)

/-- slices.Grow at nil. -/
theorem grow_nil (n : Nat) (w : World) (h0 : 0 < n) (hl : n ≤ 2097152) :
    Calls Try.prog 106 #[.slice none 0 0, .int .i64 n] w fun e w' => ∃ v, e = .returned v ∧ w'.ownsRow w.heap.size 2 1 v 0 [] ∧ Below w.heap.size w w' := by
  obtain ⟨i0, hi, hz0, hz1, hz2⟩ := info_parts int_info
  have R := Lib.hid (Go.Lib.run_append_nil_zeros (P := Try.prog) w 22 3 22 2 i0 (.int .i64 0) .i64 .i64 Try.underlying22 Try.underlying3 hi hz0 n h0 (by omega) (by omega) (by rw [hz2]; omega))
  clear hi hz0 hz1 hz2
  go_enter Try.func106, Try.ntmps106
  go_wp2_with (at_builtin; refine Go.Lib.wpList_append_run _ rfl _ _ _ _ rfl _ _ rfl rfl _ _ R.out ?_)
  go_ret
  exact ⟨_, rfl, owns_zeros w.drew n _ (.int .i64 0) rfl (grownCap_ge _ _ _ _) (grownCap_le_maxLen _ _ _ _ (by simp only [maxLen]; omega)), ((Below.refl _ _).drew).alloc (Nat.le_refl _) _⟩

set_option maxHeartbeats 1000000 in
/-- slices.Concat at two lists. -/
theorem concat_two (G : Nat) (A1 A2 : Option Addr) (c1 c2 : Nat) (xs ys : List Int) (w : World) (h1 : RowI w A1 xs) (h2 : RowI w A2 ys) (hc1 : w.cell? ⟨G, 0, none⟩ = some (.slice A1 xs.length c1)) (hc2 : w.cell? ⟨G, 1, none⟩ = some (.slice A2 ys.length c2)) (hG : G < w.heap.size)
    (h0 : 0 < xs.length + ys.length) (hl1 : xs.length ≤ 1048576) (hl2 : ys.length ≤ 1048576) :
    Calls Try.prog 93 #[.slice (some ⟨G, 0, none⟩) 2 2] w (GivesI w (xs ++ ys)) := by
  obtain ⟨i0, hi, hz0, hz1, hz2⟩ := info_parts int_info
  have HI := Lib.hid (And.intro hi (And.intro hz0 (And.intro hz1 hz2)))
  clear hi hz0 hz1 hz2
  have H1 := Lib.hid h1
  have H2 := Lib.hid h2
  have HGC := Lib.hid (And.intro hc1 hc2)
  obtain ⟨n1, hn1⟩ : ∃ n1, n1 = xs.length := ⟨_, rfl⟩
  obtain ⟨n2, hn2⟩ : ∃ n2, n2 = ys.length := ⟨_, rfl⟩
  rw [← hn1] at hc1 h0 hl1
  rw [← hn2] at hc2 h0 hl2
  have N1 := Lib.hid hn1
  have N2 := Lib.hid hn2
  clear h1 h2 hn1 hn2
  go_enter Try.func93, Try.ntmps93
  go_wp2
  go_loop [3, 5, 11] (fun sz _ i => (i = .int .i64 0 ∧ sz = .int .i64 0) ∨ (i = .int .i64 1 ∧ sz = .int .i64 n1) ∨ (i = .int .i64 2 ∧ sz = .int .i64 (n1 + n2 : Nat)))
    (fun _ _ i => 2 - (intOf i).toNat)
  case atStart => exact .inl ⟨rfl, rfl⟩
  case round =>
    rcases hrel with ⟨rfl, rfl⟩ | ⟨rfl, rfl⟩ | ⟨rfl, rfl⟩
    · go_wp2
      go_round
      case rel => exact .inr (.inl ⟨by go_num, by go_num⟩)
      case measure => simp [intOf]
    · go_wp2
      go_round
      case rel => exact .inr (.inr ⟨by go_num, by go_num⟩)
      case measure => simp [intOf]
    · go_wp2_with fail
      refine (grow_nil (n1 + n2) _ h0 (by omega)).mono ?_
      rintro e w1 ⟨v, rfl, ho, hb⟩
      have O1 := Lib.hid ho
      have B1 := Lib.hid hb
      have b1 : w1.cell? ⟨G, 0, none⟩ = some (.slice A1 n1 c1) := (hb.cell (p := ⟨G, 0, none⟩) hG).trans hc1
      have b2 : w1.cell? ⟨G, 1, none⟩ = some (.slice A2 n2 c2) := (hb.cell (p := ⟨G, 1, none⟩) hG).trans hc2
      have HB12 := Lib.hid (And.intro b1 b2)
      clear ho hb hc1 hc2 b1 b2
      go_wp2
      go_loopw [6, 8, 27] (fun v _ i wr => ∃ zs : List Int, ((i = .int .i64 0 ∧ zs = []) ∨ (i = .int .i64 1 ∧ zs = xs) ∨ (i = .int .i64 2 ∧ zs = xs ++ ys)) ∧ Hid (wr.ownsRow w.heap.size 2 1 v zs.length (zs.map (Value.int .i64))) ∧ Hid (Below w.heap.size w wr))
        (fun _ _ i _ => 2 - (intOf i).toNat)
      case atStart => exact ⟨[], .inl ⟨rfl, rfl⟩, O1.out, B1.out⟩
      case round =>
        obtain ⟨zs, hz, hown, hB⟩ := hrel
        have d1 : wr.cell? ⟨G, 0, none⟩ = some (.slice A1 n1 c1) := (hB.out.cell (p := ⟨G, 0, none⟩) hG).trans (by rw [N1.out]; exact HGC.out.1)
        have d2 : wr.cell? ⟨G, 1, none⟩ = some (.slice A2 n2 c2) := (hB.out.cell (p := ⟨G, 1, none⟩) hG).trans (by rw [N2.out]; exact HGC.out.2)
        rcases hz with ⟨rfl, rfl⟩ | ⟨rfl, rfl⟩ | ⟨rfl, rfl⟩
        · go_wp2_with (at_builtin; refine wpList_append_any _ rfl (.tmp 31) (.tmp 32) 22 rfl w.heap.size 2 i0 (.int .i64 0) 1 8 Try.underlying22 HI.out.1 HI.out.2.1 HI.out.2.2.1 HI.out.2.2.2 rfl (by decide) _ 0 _ rfl hown.out wr.heap.size A1 n1 c1 (xs.map (Value.int .i64)) rfl (by rw [N1.out]; exact (H1.out.below hB.out).reads) (ints_one _) (by simp only [maxLen]; omega) (by omega) hB.out.size ?_; intro v1 w2 hown1 hg1 hat1; have O2 := Lib.hid hown1; have G2 := Lib.hid (hB.out.grown hg1 hB.out.size (fun j e => (hown.out.lt j e).1)); clear hown1 hg1 hat1)
          go_roundw
          case rel => exact ⟨xs, .inr (.inl ⟨by go_num, rfl⟩), by
            show World.ownsRow _ _ _ _ _ _ _
            rw [← N1.out]
            simpa using O2.out, G2⟩
          case measure => simp [intOf]
        · have e1 : zs.length ≤ 1048576 := by rw [← N1.out]; exact hl1
          go_wp2_with (at_builtin; refine wpList_append_any _ rfl (.tmp 31) (.tmp 32) 22 rfl w.heap.size 2 i0 (.int .i64 0) 1 8 Try.underlying22 HI.out.1 HI.out.2.1 HI.out.2.2.1 HI.out.2.2.2 rfl (by decide) _ zs.length _ rfl hown.out wr.heap.size A2 n2 c2 (ys.map (Value.int .i64)) rfl (by rw [N2.out]; exact (H2.out.below hB.out).reads) (ints_one _) (by simp only [maxLen]; omega) (by omega) hB.out.size ?_; intro v1 w2 hown1 hg1 hat1; have O2 := Lib.hid hown1; have G2 := Lib.hid (hB.out.grown hg1 hB.out.size (fun j e => (hown.out.lt j e).1)); clear hown1 hg1 hat1)
          go_roundw
          case rel => exact ⟨zs ++ ys, .inr (.inr ⟨by go_num, rfl⟩), by
            show World.ownsRow _ _ _ _ _ _ _
            rw [List.length_append, List.map_append, ← N2.out]
            exact O2.out, G2⟩
          case measure => simp [intOf]
        · obtain ⟨A', c', hv, ho⟩ := ownI_of_owns hown.out
          have HO := Lib.hid ho
          subst hv
          clear ho
          go_wp2
          go_ret
          exact ⟨A', c', rfl, HO.out, hB.out⟩
end Go.Proofs.Ytljlnfdbjeinaaa
