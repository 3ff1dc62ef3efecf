/-
  Copies of lists: spec.l01Own and slices.Clone.
-/
import Derived.Test.YtmmpeaedglnjlaaInts
import Derived.Test.YtmmpeaedglnjlaaWords
import Derived.Laws.Rows
import Derived.Laws.Tables
namespace Go.Proofs.Ytmmpeaedglnjlaa
open Go.RowKit

theorem RowI.reads {w : World} {A : Option Addr} {xs : List Int} (h : RowI w A xs) : Reads w w.heap.size 1 A xs.length (xs.map (Value.int .i64)) := by
  refine ⟨by simp, fun hn => ?_⟩
  rcases h with h | ⟨b, off, rfl, hb, hc⟩
  · subst h; simp at hn
  · refine ⟨_, rfl, hb, fun j u hu => ?_⟩
    rw [Go.WideShapes.add_plain]
    have hj : j < xs.length := by
      have := (List.getElem?_eq_some_iff.1 hu).1
      simpa using this
    rw [hc j hj]
    simp [hj] at hu
    rw [← hu]
    simp [List.getD_eq_getElem?_getD, hj]
theorem ints_one (xs : List Int) : ∀ u ∈ xs.map (Value.int .i64), u.oneCell' = true := by
  intro u hu
  obtain ⟨n, _, rfl⟩ := List.mem_map.1 hu
  rfl

/-- spec.l01Own: a copy: as the append laws say it. -/
theorem l01Own_owns (A : Option Addr) (c : Nat) (xs : List Int) (w : World) (h : RowI w A xs) (hl : xs.length ≤ 1048576) :
    Calls Try.prog 52 #[.slice A xs.length c] w fun e w' => ∃ v, e = .returned v ∧ w'.ownsRow w.heap.size 2 1 v xs.length (xs.map (Value.int .i64)) ∧ Below w.heap.size w w' := by
  obtain ⟨i0, hi, hz0, hz1, hz2⟩ := info_parts int_info
  have HI := Lib.hid (And.intro hi (And.intro hz0 (And.intro hz1 hz2)))
  have HR := Lib.hid h
  obtain ⟨n, hn⟩ : ∃ n, n = xs.length := ⟨_, rfl⟩
  obtain ⟨cs, hcs⟩ : ∃ cs, cs = xs.map (Value.int .i64) := ⟨_, rfl⟩
  have HN := Lib.hid hn
  have HC := Lib.hid hcs
  rw [← hn] at hl ⊢
  clear hi hz0 hz1 hz2 h hn hcs
  go_enter Try.func52, Try.ntmps52
  go_wp2_with (at_builtin; refine wpList_append_any _ rfl (.tmp 3) (.tmp 4) 22 rfl w.heap.size 2 i0 (.int .i64 0) 1 8 Try.underlying22 HI.out.1 HI.out.2.1 HI.out.2.2.1 HI.out.2.2.2 rfl (by decide) _ 0 [] rfl (World.ownsRow_made w #[] 0 (Nat.le_refl _) (by decide) rfl) w.heap.size A n c cs rfl (by rw [HN.out, HC.out]; exact HR.out.reads.alloc (Nat.le_refl _) _) (by rw [HC.out]; exact ints_one xs) (by simp only [maxLen]; omega) (by omega) (by simp) ?_; intro v1 w1 hown1 hg1 hat1; have O1 := Lib.hid hown1; have G1 := Lib.hid hg1; clear hown1 hg1 hat1)
  go_ret
  exact ⟨v1, rfl, by rw [← HC.out]; simpa using O1.out, ((((Below.refl _ _).alloc (Nat.le_refl _) _)).grown G1.out (by simp) (fun k hk => by cases hk; exact Nat.le_refl _))⟩

/-- spec.l01Own: a copy. -/
theorem l01Own_any (A : Option Addr) (c : Nat) (xs : List Int) (w : World) (h : RowI w A xs) (hl : xs.length ≤ 1048576) :
    Calls Try.prog 52 #[.slice A xs.length c] w (GivesI w xs) := by
  refine (l01Own_owns A c xs w h hl).mono ?_
  rintro e w' ⟨v, rfl, ho, hb⟩
  obtain ⟨A', c', rfl, ho2⟩ := ownI_of_owns ho
  exact ⟨A', c', rfl, ho2, hb⟩

/-- slices.Clone of a list that is not nil. -/
theorem clone_any (a : Addr) (c : Nat) (xs : List Int) (w : World) (h : RowI w (some a) xs) (hl : xs.length ≤ 1048576) :
    Calls Try.prog 50 #[.slice (some a) xs.length c] w (GivesI w xs) := by
  obtain ⟨i0, hi, hz0, hz1, hz2⟩ := info_parts int_info
  have HI := Lib.hid (And.intro hi (And.intro hz0 (And.intro hz1 hz2)))
  have HR := Lib.hid h
  obtain ⟨n, hn⟩ : ∃ n, n = xs.length := ⟨_, rfl⟩
  obtain ⟨cs, hcs⟩ : ∃ cs, cs = xs.map (Value.int .i64) := ⟨_, rfl⟩
  have HN := Lib.hid hn
  have HC := Lib.hid hcs
  rw [← hn] at hl ⊢
  clear hi hz0 hz1 hz2 h hn hcs
  have heq := @Lib.run_eql_slice_nil Try.prog
  go_enter Try.func50, Try.ntmps50
  go_wp2_with (at_builtin; refine wpList_append_any _ rfl (.tmp 5) (.tmp 6) 22 rfl w.heap.size 2 i0 (.int .i64 0) 1 8 Try.underlying22 HI.out.1 HI.out.2.1 HI.out.2.2.1 HI.out.2.2.2 rfl (by decide) _ 0 [] rfl (World.ownsRow_made w #[] 0 (Nat.le_refl _) (by decide) rfl) w.heap.size (some a) n c cs rfl (by rw [HN.out, HC.out]; exact HR.out.reads.alloc (Nat.le_refl _) _) (by rw [HC.out]; exact ints_one xs) (by simp only [maxLen]; omega) (by omega) (by simp) ?_; intro v1 w1 hown1 hg1 hat1; have O1 := Lib.hid hown1; have G1 := Lib.hid hg1; clear hown1 hg1 hat1)
  go_ret
  have e : 0 + n = xs.length := by rw [HN.out]; omega
  obtain ⟨A', c', hv, ho⟩ := ownI_of_owns (xs := xs) (v := v1) (by rw [← e, ← HC.out]; simpa using O1.out)
  subst hv
  exact ⟨A', c', rfl, ho, (((Below.refl _ _).alloc (Nat.le_refl _) _)).grown G1.out (by simp) (fun k hk => by cases hk; exact Nat.le_refl _)⟩

theorem l01Own_len (A : Option Addr) (c : Nat) (xs : List Int) (len : Nat) (w : World) (hlen : len = xs.length) (h : RowI w A xs) (hl : xs.length ≤ 1048576) :
    Calls Try.prog 52 #[.slice A len c] w (GivesI w xs) := by subst hlen; exact l01Own_any A c xs w h hl
theorem clone_len (a : Addr) (c : Nat) (xs : List Int) (len : Nat) (w : World) (hlen : len = xs.length) (h : RowI w (some a) xs) (hl : xs.length ≤ 1048576) :
    Calls Try.prog 50 #[.slice (some a) len c] w (GivesI w xs) := by subst hlen; exact clone_any a c xs w h hl

/-- A cut of a list. -/
theorem RowI.cut {w : World} {A : Option Addr} {xs : List Int} (h : RowI w A xs) {k cap : Nat} (hk : k ≤ xs.length) (hc : xs.length ≤ cap) :
    RowI w (if cap = k then A else A.map (·.add k)) (xs.drop k) := by
  rcases h with h | ⟨b, off, rfl, hb, hcell⟩
  · subst h; exact .inl (by simp)
  · by_cases e : cap = k
    · rw [if_pos e]
      refine .inl ?_
      rw [List.drop_eq_nil_iff]; omega
    · rw [if_neg e]
      refine .inr ⟨b, off + k, by simp [Go.WideShapes.add_plain], hb, fun j hj => ?_⟩
      rw [List.length_drop] at hj
      have := hcell (k + j) (by omega)
      rw [Nat.add_assoc, this]
      simp [List.getD_eq_getElem?_getD, List.getElem?_drop]
theorem OwnI.of_rowIs {w : World} {lo g c : Nat} {t : TypeId} {f : Nat → Value} {ys : List Int} (h1 : lo ≤ g) (h2 : g < w.heap.size) (h3 : ys.length ≤ c) (h4 : c ≤ maxLen) (hr : w.rowIs g t c f) (hf : ∀ j, j < ys.length → f j = .int .i64 (ys.getD j 0)) : OwnI w lo (some ⟨g, 0, none⟩) c ys :=
  .inr ⟨g, f, t, rfl, h1, h2, h3, h4, hr, hf⟩
theorem rowIs_zeros (w : World) (m : Nat) (t : TypeId) (cs : Array Value) (hcs : cs = Array.replicate m (.int .i64 0)) (g : Nat) (hg : w.heap.size = g) : (w.alloc (.cells cs t)).rowIs g t m (fun _ => .int .i64 0) := by
  subst hg hcs
  refine ⟨_, heap_alloc_new _ _, by simp, fun i hi => by simp [hi]⟩
theorem below_setRow {B g : Nat} {a w : World} (h : Below B a w) (hg : B ≤ g) (cs : Array Value) : Below B a (w.setRow g cs) :=
  ⟨h.os, h.tape, h.output, by have := h.size; simp [World.setRow]; exact this, fun k hk => by rw [setRow_other _ _ _ _ (by omega)]; exact h.block k hk⟩
end Go.Proofs.Ytmmpeaedglnjlaa
