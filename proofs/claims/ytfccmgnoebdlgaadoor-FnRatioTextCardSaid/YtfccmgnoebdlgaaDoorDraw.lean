/-
  The source of drawn numbers in the reference: what it holds, and that each number drawn lies in its range.
-/
import Derived.Test.YtfccmgnoebdlgaaDoorInts
import Derived.Test.YtfccmgnoebdlgaaDoorOwn
namespace Go.Proofs.YtfccmgnoebdlgaaDoor
open Go.RowKit

/-- What a source holds: the code, the place in it, the seed. -/
def srcF (A : Option Addr) (n c : Nat) (a s : Int) (j : Nat) : Value := if j = 0 then .slice A n c else if j = 1 then .int .i64 a else .int .i64 s
/-- Block g is a source; the code lies below it. -/
def SrcAt (w : World) (g : Nat) (A : Option Addr) (n c : Nat) (a s : Int) (bs : Nat → Int) : Prop :=
  w.rowIs g 63 3 (srcF A n c a s) ∧ 0 ≤ a ∧ a ≤ (n : Int) ∧ n ≤ 1048576 ∧ 0 ≤ s ∧ s < 2147483647 ∧ (∀ k, 0 ≤ bs k ∧ bs k ≤ 255) ∧
    (n = 0 ∨ ∃ b off, A = some ⟨b, off, none⟩ ∧ b < g ∧ ∀ k, k < n → w.cell? ⟨b, off + k, none⟩ = some (.int .u8 (bs k)))
def Src (w : World) (g : Nat) : Prop := ∃ A n c a s bs, SrcAt w g A n c a s bs
/-- All blocks but g are as they were. -/
def Kept (g : Nat) (w w' : World) : Prop := w.grownBy w' (some g)

theorem Kept.refl (g : Nat) (w : World) : Kept g w w := ⟨rfl, rfl, rfl, Nat.le_refl _, fun _ _ _ => rfl⟩
theorem Kept.trans {g : Nat} {a b c : World} (h : Kept g a b) (k : Kept g b c) : Kept g a c :=
  ⟨k.os.trans h.os, k.tape.trans h.tape, k.output.trans h.output, Nat.le_trans h.size k.size, fun i hi hne => (k.block i (Nat.lt_of_lt_of_le hi h.size) hne).trans (h.block i hi hne)⟩
theorem Kept.of_below {g : Nat} {w w' : World} (h : Below w.heap.size w w') : Kept g w w' := ⟨h.os, h.tape, h.output, h.size, fun i hi _ => h.block i hi⟩
theorem Kept.below {g B : Nat} {w w' : World} (h : Kept g w w') (hB : B ≤ w.heap.size) (hg : B ≤ g) : Below B w w' :=
  ⟨h.os, h.tape, h.output, h.size, fun i hi => h.block i (by omega) (fun e => by simp at e; omega)⟩
theorem Kept.drewN {g : Nat} {w w' : World} (h : Kept g w w') (n : Nat) : Kept g w (w'.drewN n) := ⟨h.os, h.tape, h.output, h.size, h.block⟩
theorem Kept.alloc {g : Nat} {w w' : World} (h : Kept g w w') (o : Obj) : Kept g w (w'.alloc o) := h.trans (Kept.of_below ((Below.refl _ _).alloc (Nat.le_refl _) o))
theorem Kept.setCell {g : Nat} {w w' : World} (h : Kept g w w') {p : Addr} (hp : w.heap.size ≤ p.block) (v : Value) : Kept g w (w'.setCell p v) :=
  ⟨h.os, h.tape, h.output, by simpa [World.setCell] using h.size, fun i hi hne => by rw [Below.heap_setCell _ _ _ _ (by omega)]; exact h.block i hi hne⟩
theorem Kept.grown {g : Nat} {w w' w'' : World} {row : Option Nat} (h : Kept g w w') (hg : w'.grownBy w'' row) (hr : ∀ k, row = some k → w.heap.size ≤ k) : Kept g w w'' :=
  ⟨hg.os.trans h.os, hg.tape.trans h.tape, hg.output.trans h.output, Nat.le_trans h.size hg.size, fun i hi hne => (hg.block i (Nat.lt_of_lt_of_le hi h.size) (fun e => by have := hr i e.symm; omega)).trans (h.block i hi hne)⟩
theorem Kept.cell {g : Nat} {w w' : World} (h : Kept g w w') {p : Addr} (hp : p.block < w.heap.size) (hne : p.block ≠ g) : w'.cell? p = w.cell? p :=
  World.cell?_of_block (w := w) (h.block p.block hp (fun e => hne (by simpa using e)))
theorem OwnI.keptG {w w' : World} {lo g : Nat} {B : Option Addr} {d : Nat} {ys : List Int} (h : OwnI w lo B d ys) (hk : Kept g w w') (hg : g < lo) : OwnI w' lo B d ys := by
  rcases h with h | ⟨q, f, t, e, h1, hl, hc, hm, hr, hf⟩
  · exact .inl h
  · exact .inr ⟨q, f, t, e, h1, Nat.lt_of_lt_of_le hl hk.size, hc, hm, hr.of_block (hk.block q hl (fun e' => by simp at e'; omega)), hf⟩
theorem Src.lt {w : World} {g : Nat} (h : Src w g) : g < w.heap.size := by obtain ⟨A, n, c, a, s, bs, h1, _⟩ := h; exact h1.lt
theorem Src.below {w w' : World} {g B : Nat} (h : Src w g) (hb : Below B w w') (hg : g < B) : Src w' g := by
  obtain ⟨A, n, c, a, s, bs, h1, h2, h3, h4, h5, h6, h7, h8⟩ := h
  refine ⟨A, n, c, a, s, bs, h1.of_block (hb.block g hg), h2, h3, h4, h5, h6, h7, ?_⟩
  rcases h8 with h8 | ⟨b, off, e, hbg, hc⟩
  · exact .inl h8
  · exact .inr ⟨b, off, e, hbg, fun k hk => (hb.cell (p := ⟨b, off + k, none⟩) (show b < B by omega)).trans (hc k hk)⟩
theorem Src.below' {w w' : World} {g : Nat} (h : Src w g) (hb : Below w.heap.size w w') : Src w' g := h.below hb h.lt
theorem Src.drewN {w : World} {g : Nat} (h : Src w g) (n : Nat) : Src (w.drewN n) g := h.below' (below_drewN (Below.refl _ _) n)

/-- A number that was drawn. -/
def Next (g : Nat) (n : Int) (w : World) (e : Ending) (w' : World) : Prop :=
  ∃ x : Int, e = .returned (.int .i64 x) ∧ 0 ≤ x ∧ (x < n ∨ x = 0) ∧ Src w' g ∧ Kept g w w' ∧ w'.heap.size = w.heap.size

theorem mod_pos (x n : Int) (hn : 1 < n) : 0 ≤ x % n ∧ x % n < n := ⟨Int.emod_nonneg _ (by omega), Int.emod_lt_of_pos _ (by omega)⟩

theorem SrcAt.seed {w : World} {g : Nat} {A : Option Addr} {n c : Nat} {a s s' : Int} {bs : Nat → Int} (h : SrcAt w g A n c a s bs) (h0 : 0 ≤ s') (h1 : s' < 2147483647) :
    SrcAt (w.setCell ⟨g, 2, none⟩ (.int .i64 s')) g A n c a s' bs := by
  obtain ⟨r, h2, h3, h4, _, _, h7, h8⟩ := h
  refine ⟨(r.set 2 _).congr (fun j hj => ?_), h2, h3, h4, h0, h1, h7, ?_⟩
  · unfold srcF
    by_cases e0 : j = 0
    · simp [e0]
    · by_cases e1 : j = 1
      · simp [e1]
      · have : j = 2 := by omega
        simp [this]
  · rcases h8 with h8 | ⟨b, off, e, hb, hc⟩
    · exact .inl h8
    · exact .inr ⟨b, off, e, hb, fun k hk => by rw [World.cell?_setCell_other _ _ _ _ (by intro e; have := congrArg Addr.block e; simp at this; omega)]; exact hc k hk⟩
theorem SrcAt.place {w : World} {g : Nat} {A : Option Addr} {n c : Nat} {a a' s : Int} {bs : Nat → Int} (h : SrcAt w g A n c a s bs) (h0 : 0 ≤ a') (h1 : a' ≤ (n : Int)) :
    SrcAt (w.setCell ⟨g, 1, none⟩ (.int .i64 a')) g A n c a' s bs := by
  obtain ⟨r, _, _, h4, h5, h6, h7, h8⟩ := h
  refine ⟨(r.set 1 _).congr (fun j hj => ?_), h0, h1, h4, h5, h6, h7, ?_⟩
  · unfold srcF
    by_cases e0 : j = 0
    · simp [e0]
    · by_cases e1 : j = 1
      · simp [e1]
      · have : j = 2 := by omega
        simp [this]
  · rcases h8 with h8 | ⟨b, off, e, hb, hc⟩
    · exact .inl h8
    · exact .inr ⟨b, off, e, hb, fun k hk => by rw [World.cell?_setCell_other _ _ _ _ (by intro e; have := congrArg Addr.block e; simp at this; omega)]; exact hc k hk⟩
theorem SrcAt.drewN {w : World} {g : Nat} {A : Option Addr} {n c : Nat} {a s : Int} {bs : Nat → Int} (h : SrcAt w g A n c a s bs) (k : Nat) : SrcAt (w.drewN k) g A n c a s bs :=
  ⟨h.1.of_block rfl, h.2⟩
theorem SrcAt.src {w : World} {g : Nat} {A : Option Addr} {n c : Nat} {a s : Int} {bs : Nat → Int} (h : SrcAt w g A n c a s bs) : Src w g := ⟨A, n, c, a, s, bs, h⟩
theorem kept_set (g o : Nat) (w : World) (v : Value) : Kept g w (w.setCell ⟨g, o, none⟩ v) :=
  ⟨rfl, rfl, rfl, by simp [World.setCell], fun i _ hne => by rw [Below.heap_setCell _ _ _ _ (by simpa using hne)]⟩
/-- The end of a draw. -/
theorem next_end {w w' : World} {g : Nat} {n x : Int} {A : Option Addr} {m c : Nat} {a s : Int} {bs : Nat → Int} (hn : 1 < n) (_hx : 0 ≤ x) (h : SrcAt w' g A m c a s bs) (hk : Kept g w w') (hs : w'.heap.size = w.heap.size) :
    Next g n w (.returned (.int .i64 (x % n))) w' :=
  ⟨x % n, rfl, Int.emod_nonneg _ (by omega), .inl (Int.emod_lt_of_pos _ (by omega)), h.src, hk, hs⟩

set_option maxHeartbeats 1000000 in
set_option maxRecDepth 8000 in
theorem l01Next_any (g : Nat) (n : Int) (w : World) (h : Src w g) : Calls Tryd.prog 30 #[.pointer (some ⟨g, 0, none⟩), .int .i64 n] w (Next g n w) := by
  by_cases hn : n ≤ 1
  · have H := Lib.hid h
    clear h
    go_enter Tryd.func30, Tryd.ntmps30
    go_wp2
    go_ret
    exact ⟨0, rfl, by omega, .inr rfl, H.out, Kept.refl _ _, rfl⟩
  · obtain ⟨A, m, c, a, s, bs, h1, h2, h3, h4, h5, h6, h7, h8⟩ := h
    have hc0 := h1.cell (i := 0) (by omega)
    have hc1 := h1.cell (i := 1) (by omega)
    have hc2 := h1.cell (i := 2) (by omega)
    have hf1 := h1.frozen 1
    have hf2 := h1.frozen 2
    simp only [srcF, if_true, Nat.one_ne_zero, if_false, show ¬ (2 : Nat) = 0 by omega, show ¬ (2 : Nat) = 1 by omega] at hc0 hc1 hc2
    have H1 := Lib.hid h1
    have H7 := Lib.hid h7
    have H8 := Lib.hid h8
    have hn' : 1 < n := by omega
    clear h1 h7 h8 hn
    by_cases hat : a < (m : Int)
    · obtain ⟨k, rfl⟩ := Int.eq_ofNat_of_zero_le h2
      have hkm : k < m := by omega
      obtain ⟨b, off, rfl, hbg, hcell⟩ : ∃ b off, A = some ⟨b, off, none⟩ ∧ b < g ∧ ∀ k, k < m → w.cell? ⟨b, off + k, none⟩ = some (.int .u8 (bs k)) := by
        rcases H8.out with h | h
        · omega
        · exact h
      have hcb := hcell k hkm
      obtain ⟨u, hu⟩ : ∃ u, u = bs k := ⟨_, rfl⟩
      have hub := H7.out k
      rw [← hu] at hcb hub
      obtain ⟨u0, u1⟩ := hub
      have hne : ¬ b = g := by omega
      clear hcell hu hkm
      have hat' : decide ((k : Int) < (m : Int)) = true := by simpa using hat
      have H1A : Hid (SrcAt w g (some ⟨b, off, none⟩) m c (k : Int) s bs) := ⟨H1.out, h2, h3, h4, h5, h6, H7.out, H8.out⟩
      have q1 : IntKind.i64.wrap ((k : Int) + 1 - 1) = (k : Int) := by rw [Int.add_sub_cancel]; exact IntWalk.i64_in _ (by omega)
      have hkk : k < m := by omega
      by_cases h256 : n ≤ 256
      · have d256 : decide (n ≤ 256) = true := by simpa using h256
        by_cases hp : ((k : Int) + 1) % 2 = 0
        · have dp : (((k : Int) + 1) % 2 == 0) = true := by simpa using hp
          clear hp
          go_enter Tryd.func30, Tryd.ntmps30
          go_wp2
          go_quiet (fail)
          go_wp2
          go_quiet (fail)
          go_wp2
          go_quiet (fail)
          go_wp2
          go_ret
          exact next_end hn' u0 ((((H1A.out.seed (s' := (s * 48271 + 29) % 2147483647) (by omega) (by omega)).drewN _).place (a' := (k : Int) + 1) (by omega) (by omega)).drewN _) ((((kept_set g 2 w _).drewN _).trans (kept_set g 1 _ _)).drewN _) (by simp [World.setCell])
        · have dp : (((k : Int) + 1) % 2 == 0) = false := by simpa using hp
          clear hp
          go_enter Tryd.func30, Tryd.ntmps30
          go_wp2
          go_quiet (fail)
          go_wp2
          go_quiet (fail)
          go_wp2
          go_ret
          exact next_end hn' (by omega) (((H1A.out.seed (s' := (s * 48271 + 29) % 2147483647) (by omega) (by omega)).drewN _).place (a' := (k : Int) + 1) (by omega) (by omega)) (((kept_set g 2 w _).drewN _).trans (kept_set g 1 _ _)) (by simp [World.setCell])
      · have d256 : decide (n ≤ 256) = false := by simpa using h256
        go_enter Tryd.func30, Tryd.ntmps30
        go_wp2
        go_quiet (fail)
        go_wp2
        go_quiet (fail)
        go_wp2
        go_ret
        exact next_end hn' (by omega) (((H1A.out.seed (s' := (s * 48271 + 29) % 2147483647) (by omega) (by omega)).drewN _).place (a' := (k : Int) + 1) (by omega) (by omega)) (((kept_set g 2 w _).drewN _).trans (kept_set g 1 _ _)) (by simp [World.setCell])
    · have hat' : decide (a < (m : Int)) = false := by simpa using hat
      have H1A : Hid (SrcAt w g A m c a s bs) := ⟨H1.out, h2, h3, h4, h5, h6, H7.out, H8.out⟩
      go_enter Tryd.func30, Tryd.ntmps30
      go_wp2
      go_quiet (fail)
      go_wp2
      go_ret
      exact next_end hn' (by omega) ((H1A.out.seed (s' := (s * 48271 + 29) % 2147483647) (by omega) (by omega)).drewN _) ((kept_set g 2 w _).drewN _) (by simp [World.setCell])
end Go.Proofs.YtfccmgnoebdlgaaDoor
