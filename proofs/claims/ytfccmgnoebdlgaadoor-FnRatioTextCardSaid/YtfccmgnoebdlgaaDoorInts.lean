/-
  Words for slices of integers in memory, and the walks of the laws' own helpers: a copy, a comparison, marks written and read.
-/
import Derived.Test.YtfccmgnoebdlgaaDoorRows
import Derived.Test.YtfccmgnoebdlgaaDoorOpen
import Derived.Deep.OwnRows
import Derived.OpenShut
import Derived.Deep.DeepCutAuto
import Derived.Deep.LoopGhost
namespace Go.Proofs.YtfccmgnoebdlgaaDoor
open Go.RowKit

/-- The slice at A reads as the list xs. -/
def RowI (w : World) (A : Option Addr) (xs : List Int) : Prop :=
  xs = [] ∨ ∃ b off, A = some ⟨b, off, none⟩ ∧ b < w.heap.size ∧ ∀ k, k < xs.length → w.cell? ⟨b, off + k, none⟩ = some (.int .i64 (xs.getD k 0))

/-- The slice at A, of capacity c, is nil and empty, or lies in a block of the call's own (from lo on), reads as xs and can be written. -/
def OwnI (w : World) (lo : Nat) (A : Option Addr) (c : Nat) (xs : List Int) : Prop :=
  (A = none ∧ c = 0 ∧ xs = []) ∨
  ∃ g f t, A = some ⟨g, 0, none⟩ ∧ lo ≤ g ∧ g < w.heap.size ∧ xs.length ≤ c ∧ c ≤ maxLen ∧ w.rowIs g t c f ∧ ∀ k, k < xs.length → f k = .int .i64 (xs.getD k 0)

theorem RowI.nil (w : World) (A : Option Addr) : RowI w A [] := .inl rfl
theorem RowI.at_ {w : World} {A : Option Addr} {xs : List Int} (h : RowI w A xs) {k : Nat} (hk : k < xs.length) :
    ∃ b off, A = some ⟨b, off, none⟩ ∧ b < w.heap.size ∧ w.cell? ⟨b, off + k, none⟩ = some (.int .i64 (xs.getD k 0)) := by
  rcases h with h | ⟨b, off, e, hb, hc⟩
  · subst h; simp at hk
  · exact ⟨b, off, e, hb, hc k hk⟩
theorem RowI.below {w w' : World} {A : Option Addr} {xs : List Int} (h : RowI w A xs) (hb : Below w.heap.size w w') : RowI w' A xs := by
  rcases h with h | ⟨b, off, e, hl, hc⟩
  · exact .inl h
  · exact .inr ⟨b, off, e, Nat.lt_of_lt_of_le hl hb.size, fun k hk => (hb.cell (p := ⟨b, off + k, none⟩) hl).trans (hc k hk)⟩
theorem RowI.drewN {w : World} {A : Option Addr} {xs : List Int} (h : RowI w A xs) (n : Nat) : RowI (w.drewN n) A xs := h.below (below_drewN (Below.refl _ _) n)
theorem OwnI.row {w : World} {lo : Nat} {A : Option Addr} {c : Nat} {xs : List Int} (h : OwnI w lo A c xs) : RowI w A xs := by
  rcases h with ⟨_, _, h⟩ | ⟨g, f, t, e, _, hl, hc, _, hr, hf⟩
  · exact .inl h
  · refine .inr ⟨g, 0, e, hl, fun k hk => ?_⟩
    rw [Nat.zero_add, hr.cell (Nat.lt_of_lt_of_le hk hc), hf k hk]
theorem OwnI.cap {w : World} {lo : Nat} {A : Option Addr} {c : Nat} {xs : List Int} (h : OwnI w lo A c xs) : xs.length ≤ c ∧ c ≤ maxLen := by
  rcases h with ⟨_, h0, h⟩ | ⟨g, f, t, e, _, hl, hc, hm, _⟩
  · subst h; subst h0; simp
  · exact ⟨hc, hm⟩
theorem OwnI.below {w w' : World} {lo : Nat} {A : Option Addr} {c : Nat} {xs : List Int} (h : OwnI w lo A c xs) (hb : Below w.heap.size w w') : OwnI w' lo A c xs := by
  rcases h with h | ⟨g, f, t, e, h1, hl, hc, hm, hr, hf⟩
  · exact .inl h
  · exact .inr ⟨g, f, t, e, h1, Nat.lt_of_lt_of_le hl hb.size, hc, hm, hr.of_block (hb.block g hl), hf⟩
theorem OwnI.mono {w : World} {lo lo' : Nat} {A : Option Addr} {c : Nat} {xs : List Int} (h : OwnI w lo A c xs) (hl : lo' ≤ lo) : OwnI w lo' A c xs := by
  rcases h with h | ⟨g, f, t, e, h1, r⟩
  · exact .inl h
  · exact .inr ⟨g, f, t, e, by omega, r⟩
theorem OwnI.drewN {w : World} {lo : Nat} {A : Option Addr} {c : Nat} {xs : List Int} (h : OwnI w lo A c xs) (n : Nat) : OwnI (w.drewN n) lo A c xs := h.below (below_drewN (Below.refl _ _) n)

/-- What came in reads as a list. -/
theorem IsRow.rowI {w : World} {a : Option Addr} {len cap : Nat} {zs : List Int} (h : IsRow .i64 w a len cap zs) : RowI w a (zs.take len) ∧ (zs.take len).length = len := by
  rcases h with ⟨rfl, rfl, rfl, rfl⟩ | ⟨x, rfl, hl, hm, hz, hc, _⟩
  · exact ⟨.inl (by simp), by simp⟩
  · have hlen : (zs.take len).length = len := by simp; omega
    refine ⟨?_, hlen⟩
    rcases Nat.eq_zero_or_pos len with h0 | h0
    · subst h0; exact .inl (by simp)
    · obtain ⟨b, off, sp⟩ := x
      have h00 := hc 0 (by omega)
      have hsp : sp = none := by simpa [Addr.add] using World.cell?_spot h00
      subst hsp
      have hb : b < w.heap.size := by
        have := World.block_lt_of_cell? w _ h00
        simpa [Addr.add] using this
      refine .inr ⟨b, off, rfl, hb, fun k hk => ?_⟩
      rw [hlen] at hk
      have := hc k (by omega)
      rw [List.getD_eq_getElem?_getD, List.getElem?_take, if_pos hk, ← List.getD_eq_getElem?_getD, ← this]
      rw [Go.WideShapes.add_plain]

/-- A call hands back a list in memory of its own. -/
def GivesI (w : World) (xs : List Int) (e : Ending) (w' : World) : Prop :=
  ∃ A c, e = .returned (.slice A xs.length c) ∧ OwnI w' w.heap.size A c xs ∧ Below w.heap.size w w'

theorem int_info : (Tryd.prog.info? 2).map (fun i => (i.zero, i.size, i.bytes)) = some (some (.int .i64 0), 1, 8) := by kernel_rfl

/-- Whether two lists are the same. -/
def eqL (xs ys : List Int) : Bool := decide (xs = ys)
theorem eqL_self (xs : List Int) : eqL xs xs = true := by simp [eqL]
theorem eqL_no {xs ys : List Int} (h : xs ≠ ys) : eqL xs ys = false := by simp [eqL, h]
theorem take_succ_eq {xs ys : List Int} {k : Nat} (h1 : k < xs.length) (h2 : k < ys.length) (h : xs.take k = ys.take k) (e : xs.getD k 0 = ys.getD k 0) : xs.take (k + 1) = ys.take (k + 1) := by
  rw [List.take_succ_eq_append_getElem h1, List.take_succ_eq_append_getElem h2, h]
  simp [List.getD_eq_getElem?_getD, h1, h2] at e
  rw [e]
theorem eq_of_take {xs ys : List Int} (h : xs.length = ys.length) (e : xs.take xs.length = ys.take xs.length) : xs = ys := by
  rwa [List.take_length, h, List.take_length] at e

/-- 1, 2, .. from k on, as many as xs has. -/
def marks (k : Int) (n : Nat) : List Int := (List.range n).map fun (i : Nat) => k + (i : Int)
theorem marks_length (k : Int) (n : Nat) : (marks k n).length = n := by simp [marks]
theorem marks_getD (k : Int) (n j : Nat) (h : j < n) : (marks k n).getD j 0 = k + (j : Int) := by
  simp [marks, List.getD_eq_getElem?_getD, h]

/-- Only what lay at A may have changed. -/
def OnlyI (w w' : World) (A : Option Addr) : Prop := w.grownBy w' (A.map (·.block)) ∧ w'.heap.size = w.heap.size

def GivesC (w : World) (ys : List Int) (k : Int) (e : Ending) (w' : World) : Prop :=
  ∃ A c, e = .returned (.tuple #[.slice A ys.length c, .int .i64 k]) ∧ OwnI w' w.heap.size A c ys ∧ Below w.heap.size w w'
theorem OwnI.lo_block {w : World} {lo : Nat} {A : Option Addr} {c : Nat} {xs : List Int} (h : OwnI w lo A c xs) : ∀ b, A.map (·.block) = some b → lo ≤ b ∧ b < w.heap.size := by
  intro b hb
  rcases h with ⟨rfl, _, _⟩ | ⟨g, f, t, rfl, h1, h2, _⟩
  · simp at hb
  · simp at hb; subst hb; exact ⟨h1, h2⟩
theorem below_only {s : Nat} {w0 w w' : World} {A : Option Addr} (hB : Below s w0 w) (hs : s ≤ w.heap.size) (ho : OnlyI w w' A) (hlo : ∀ b, A.map (·.block) = some b → s ≤ b) : Below s w0 w' :=
  hB.grown ho.1 hs (fun k e => hlo k e)
theorem OwnI.only {w w' : World} {lo : Nat} {B A : Option Addr} {d : Nat} {ys : List Int} (h : OwnI w lo B d ys) (ho : OnlyI w w' A) (hne : ∀ b, A.map (·.block) = some b → b < lo) : OwnI w' lo B d ys := by
  rcases h with h | ⟨g, f, t, e, h1, hl, hc, hm, hr, hf⟩
  · exact .inl h
  · exact .inr ⟨g, f, t, e, h1, by rw [ho.2]; exact hl, hc, hm, hr.of_block (ho.1.block g hl (fun e' => by have := hne g e'.symm; omega)), hf⟩
theorem OwnI.nil_ (w : World) (lo : Nat) : OwnI w lo none 0 [] := .inl ⟨rfl, rfl, rfl⟩
/-- From the append laws' word to this text's. -/
theorem ownI_of_owns {w : World} {lo : Nat} {v : Value} {xs : List Int} (h : w.ownsRow lo 2 1 v xs.length (xs.map (Value.int .i64))) :
    ∃ A c, v = .slice A xs.length c ∧ OwnI w lo A c xs := by
  rcases h.2 with ⟨rfl, h0⟩ | ⟨g, cap, cur, rfl, hb, hg, hc, hm, hs, ht⟩
  · have : xs = [] := by simpa using h0
    subst this
    exact ⟨none, 0, rfl, .inl ⟨rfl, rfl, rfl⟩⟩
  · have hs' : cur.size = cap := by omega
    refine ⟨some ⟨g, 0, none⟩, cap, rfl, .inr ⟨g, fun i => (cur[i]?).getD undef, _, rfl, hb, (Array.getElem?_eq_some_iff.1 hg).1, hc, hm, ⟨cur, hg, hs', fun i hi => ?_⟩, fun k hk => ?_⟩⟩
    · have : i < cur.size := by omega
      simp [this]
    · have h1 : (cur.toList.take (xs.length * 1))[k]? = (xs.map (Value.int .i64))[k]? := by rw [ht]
      rw [List.getElem?_take, if_pos (by omega)] at h1
      simp [hk] at h1
      simp [h1, List.getD_eq_getElem?_getD, hk]
end Go.Proofs.YtfccmgnoebdlgaaDoor
