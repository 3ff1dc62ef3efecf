/-
  One of some numbers, drawn.
-/
import Derived.Test.YtfccmgnoebdlgaaDoorDrawFrom
namespace Go.Proofs.YtfccmgnoebdlgaaDoor
open Go.RowKit

/-- One of some numbers. -/
theorem l01Pick_any (g : Nat) (A : Option Addr) (c : Nat) (xs : List Int) (len : Nat) (w : World) (hlen : len = xs.length) (h : Src w g) (hr : RowI w A xs) (hne : ∀ b, A.map (·.block) = some b → b ≠ g) (h0 : 0 < xs.length) (hl : xs.length ≤ 1048576) :
    Calls Tryd.prog 46 #[.pointer (some ⟨g, 0, none⟩), .slice A len c] w fun e w' => ∃ x : Int, e = .returned (.int .i64 x) ∧ x ∈ xs ∧ Src w' g ∧ Kept g w w' ∧ w'.heap.size = w.heap.size := by
  obtain ⟨n, hn⟩ : ∃ n, n = xs.length := ⟨_, rfl⟩
  rw [← hn] at hlen h0 hl
  subst hlen
  have HN := Lib.hid hn
  have HS := Lib.hid h
  obtain ⟨b, off, rfl, hb, hcell⟩ : ∃ b off, A = some ⟨b, off, none⟩ ∧ b < w.heap.size ∧ ∀ k, k < xs.length → w.cell? ⟨b, off + k, none⟩ = some (.int .i64 (xs.getD k 0)) := by
    rcases hr with hr | hr
    · rw [hr] at hn; simp at hn; omega
    · exact hr
  have hbg : b ≠ g := hne b rfl
  have HC := Lib.hid (And.intro hb (And.intro hcell hbg))
  clear h hr hn hb hcell hne hbg
  go_enter Tryd.func46, Tryd.ntmps46
  go_wp2_with fail
  refine (l01Next_any g (len : Int) _ HS.out).mono ?_
  rintro e w1 ⟨x, rfl, x0, x1, hs1, hk1, hz1⟩
  obtain ⟨k, rfl⟩ := Int.eq_ofNat_of_zero_le x0
  have hk : k < len := by omega
  have hki : (k : Int) < (len : Int) := by omega
  have hc1 : w1.cell? ⟨b, off + k, none⟩ = some (.int .i64 (xs.getD k 0)) := (hk1.cell (p := ⟨b, off + k, none⟩) HC.out.1 HC.out.2.2).trans (HC.out.2.1 k (by rw [← HN.out]; exact hk))
  obtain ⟨v, hv⟩ : ∃ v, v = xs.getD k 0 := ⟨_, rfl⟩
  rw [← hv] at hc1
  have HV := Lib.hid hv
  have E := Lib.hid (And.intro hs1 (And.intro hk1 hz1))
  have HK := Lib.hid hk
  clear hv hs1 hk1 hz1 x1
  go_wp2
  go_ret
  refine ⟨v, rfl, ?_, E.out⟩
  rw [HV.out, List.getD_eq_getElem?_getD, List.getElem?_eq_getElem (by rw [← HN.out]; exact HK.out)]
  exact List.getElem_mem _

/-- A new block of numbers, as a list that does not lie in the source. -/
theorem rowI_made (w : World) (cs : Array Value) (t : TypeId) (ys : List Int) (h : cs = (ys.map (Value.int .i64)).toArray) : RowI (w.alloc (.cells cs t)) (some ⟨w.heap.size, 0, none⟩) ys := by
  subst h
  refine .inr ⟨w.heap.size, 0, rfl, by simp, fun k hk => ?_⟩
  have := (World.rowIs_alloc w (ys.map (Value.int .i64)).toArray t (fun j => .int .i64 (ys.getD j 0)) (fun i hi => by
    have hi' : i < ys.length := by simpa using hi
    simp [List.getD_eq_getElem?_getD, hi'])).cell (i := k) (by simpa using hk)
  rw [Nat.zero_add]
  exact this
theorem made_ne {w : World} {g : Nat} (h : Src w g) : ∀ b, (some (⟨w.heap.size, 0, none⟩ : Addr)).map (·.block) = some b → b ≠ g := by
  intro b hb
  have := h.lt
  simp at hb; omega

/-- A number that was drawn. -/
def DrawI (g : Nat) (lo hi : Int) (w : World) (e : Ending) (w' : World) : Prop := ∃ x : Int, e = .returned (.int .i64 x) ∧ lo ≤ x ∧ x ≤ hi ∧ Src w' g ∧ Kept g w w'

/-- A number drawn out of a code. -/
def DrawN (lo hi : Int) (w : World) (e : Ending) (w' : World) : Prop := ∃ x : Int, e = .returned (.int .i64 x) ∧ lo ≤ x ∧ x ≤ hi ∧ Below w.heap.size w w'
end Go.Proofs.YtfccmgnoebdlgaaDoor
