/-
  Seeds and cut decks that the reference draws.
-/
import Derived.Test.YtljlnfdbjeinaaaDrawDeck
namespace Go.Proofs.Ytljlnfdbjeinaaa
open Go.RowKit

/-- One of some numbers. -/
theorem l01Pick_any (g : Nat) (A : Option Addr) (c : Nat) (xs : List Int) (len : Nat) (w : World) (hlen : len = xs.length) (h : Src w g) (hr : RowI w A xs) (hne : ∀ b, A.map (·.block) = some b → b ≠ g) (h0 : 0 < xs.length) (hl : xs.length ≤ 1048576) :
    Calls Try.prog 97 #[.pointer (some ⟨g, 0, none⟩), .slice A len c] w fun e w' => ∃ x : Int, e = .returned (.int .i64 x) ∧ x ∈ xs ∧ Src w' g ∧ Kept g w w' ∧ w'.heap.size = w.heap.size := by
  obtain ⟨n, hn⟩ : ∃ n, n = xs.length := ⟨_, rfl⟩
  rw [← hn] at hlen h0 hl
  subst hlen
  have HN := Lib.hid hn
  have HS := Lib.hid h
  obtain ⟨b, off, rfl, hb, hcell⟩ : ∃ b off, A = some ⟨b, off, none⟩ ∧ b < w.heap.size ∧ ∀ k, k < xs.length → w.cell? ⟨b, off + k, none⟩ = some (.int .i64 (xs.getD k 0)) := by
    rcases hr with hr | hr
    · rw [hr] at hn; simp at hn; omega
    · exact hr
  have hbg : b ≠ g := hne b rfl
  have HC := Lib.hid (And.intro hb (And.intro hcell hbg))
  clear h hr hn hb hcell hne hbg
  go_enter Try.func97, Try.ntmps97
  go_wp2_with fail
  refine (l01Next_any g (len : Int) _ HS.out).mono ?_
  rintro e w1 ⟨x, rfl, x0, x1, hs1, hk1, hz1⟩
  obtain ⟨k, rfl⟩ := Int.eq_ofNat_of_zero_le x0
  have hk : k < len := by omega
  have hki : (k : Int) < (len : Int) := by omega
  have hc1 : w1.cell? ⟨b, off + k, none⟩ = some (.int .i64 (xs.getD k 0)) := (hk1.cell (p := ⟨b, off + k, none⟩) HC.out.1 HC.out.2.2).trans (HC.out.2.1 k (by rw [← HN.out]; exact hk))
  obtain ⟨v, hv⟩ : ∃ v, v = xs.getD k 0 := ⟨_, rfl⟩
  rw [← hv] at hc1
  have HV := Lib.hid hv
  have E := Lib.hid (And.intro hs1 (And.intro hk1 hz1))
  have HK := Lib.hid hk
  clear hv hs1 hk1 hz1 x1
  go_wp2
  go_ret
  refine ⟨v, rfl, ?_, E.out⟩
  rw [HV.out, List.getD_eq_getElem?_getD, List.getElem?_eq_getElem (by rw [← HN.out]; exact HK.out)]
  exact List.getElem_mem _

/-- A new block of numbers, as a list that does not lie in the source. -/
theorem rowI_made (w : World) (cs : Array Value) (t : TypeId) (ys : List Int) (h : cs = (ys.map (Value.int .i64)).toArray) : RowI (w.alloc (.cells cs t)) (some ⟨w.heap.size, 0, none⟩) ys := by
  subst h
  refine .inr ⟨w.heap.size, 0, rfl, by simp, fun k hk => ?_⟩
  have := (World.rowIs_alloc w (ys.map (Value.int .i64)).toArray t (fun j => .int .i64 (ys.getD j 0)) (fun i hi => by
    have hi' : i < ys.length := by simpa using hi
    simp [List.getD_eq_getElem?_getD, hi'])).cell (i := k) (by simpa using hk)
  rw [Nat.zero_add]
  exact this
theorem made_ne {w : World} {g : Nat} (h : Src w g) : ∀ b, (some (⟨w.heap.size, 0, none⟩ : Addr)).map (·.block) = some b → b ≠ g := by
  intro b hb
  have := h.lt
  simp at hb; omega

/-- A number that was drawn. -/
def DrawI (g : Nat) (lo hi : Int) (w : World) (e : Ending) (w' : World) : Prop := ∃ x : Int, e = .returned (.int .i64 x) ∧ lo ≤ x ∧ x ≤ hi ∧ Src w' g ∧ Kept g w w'

set_option maxRecDepth 8000 in
theorem l03DrawSeed_any (g : Nat) (w : World) (h : Src w g) : Calls Try.prog 88 #[.pointer (some ⟨g, 0, none⟩)] w (DrawI g (-5) 2147483647 w) := by
  have HS := Lib.hid h
  clear h
  go_enter Try.func88, Try.ntmps88
  go_wp2_with fail
  refine (l01Next_any g 8 _ HS.out).mono ?_
  rintro e w1 ⟨x, rfl, x0, x1, hs1, hk1, hz1⟩
  have S1 := Lib.hid hs1
  have K1 := Lib.hid hk1
  clear hs1 hk1 hz1 x1
  by_cases e0 : x = 0
  · have b0 : (x == 0) = true := by rw [e0]; rfl
    clear e0
    go_wp2_with fail
    refine (l01Pick_any g _ _ [0, 1, 2147483646, 2147483647, -5] _ _ rfl (S1.out.below' ((Below.refl _ _).alloc (Nat.le_refl _) _)) (rowI_made _ _ _ _ rfl) (made_ne S1.out) (by simp) (by simp)).mono ?_
    rintro e w2 ⟨y, rfl, hy, hs2, hk2, hz2⟩
    have hb : -5 ≤ y ∧ y ≤ 2147483647 := by simp only [List.mem_cons, List.not_mem_nil, or_false] at hy; omega
    have S2 := Lib.hid hs2
    have K2 := Lib.hid ((K1.out.alloc _).trans hk2)
    have HB := Lib.hid hb
    clear hs2 hk2 hz2 hb hy
    go_wp2
    go_ret
    exact ⟨y, rfl, HB.out.1, HB.out.2, S2.out, K2.out⟩
  · have b0 : (x == 0) = false := by simpa using e0
    clear e0
    go_wp2_with fail
    refine (l01Next_any g 2147483646 _ S1.out).mono ?_
    rintro e w2 ⟨y, rfl, y0, y1, hs2, hk2, hz2⟩
    have y2 : y < 2147483646 := by omega
    have S2 := Lib.hid hs2
    have K2 := Lib.hid (K1.out.trans hk2)
    clear hs2 hk2 hz2 y1
    go_wp2
    go_ret
    exact ⟨_, rfl, by omega, by omega, S2.out, K2.out⟩
/-- A number drawn out of a code. -/
def DrawN (lo hi : Int) (w : World) (e : Ending) (w' : World) : Prop := ∃ x : Int, e = .returned (.int .i64 x) ∧ lo ≤ x ∧ x ≤ hi ∧ Below w.heap.size w w'
theorem drawShuffled_any (A : Option Addr) (n c : Nat) (bs : Nat → Int) (w : World) (h : RowU w A n bs) (hn : n ≤ 1048576) :
    Calls Try.prog 47 #[.slice A n c] w (DrawN (-5) 2147483647 w) := by
  have HR := Lib.hid h
  clear h
  go_enter Try.func47, Try.ntmps47
  go_wp2_with fail
  refine (l01From_any A n c bs _ HR.out hn).mono ?_
  rintro e w1 ⟨g, rfl, hg, hs, hb⟩
  go_wp2_with fail
  refine (l03DrawSeed_any g _ hs).mono ?_
  rintro e w2 ⟨x, rfl, x0, x1, hs2, hk2⟩
  have R := Lib.hid (And.intro x0 (And.intro x1 (hb.trans (hk2.below hb.size hg))))
  clear x0 x1 hs2 hk2 hb hs hg
  go_wp2
  go_ret
  exact ⟨x, rfl, R.out⟩
theorem drawNext_any (A : Option Addr) (n c : Nat) (bs : Nat → Int) (w : World) (h : RowU w A n bs) (hn : n ≤ 1048576) :
    Calls Try.prog 53 #[.slice A n c] w (DrawN (-5) 2147483647 w) := by
  have HR := Lib.hid h
  clear h
  go_enter Try.func53, Try.ntmps53
  go_wp2_with fail
  refine (l01From_any A n c bs _ HR.out hn).mono ?_
  rintro e w1 ⟨g, rfl, hg, hs, hb⟩
  go_wp2_with fail
  refine (l03DrawSeed_any g _ hs).mono ?_
  rintro e w2 ⟨x, rfl, x0, x1, hs2, hk2⟩
  have R := Lib.hid (And.intro x0 (And.intro x1 (hb.trans (hk2.below hb.size hg))))
  clear x0 x1 hs2 hk2 hb hs hg
  go_wp2
  go_ret
  exact ⟨x, rfl, R.out⟩
/-- A list and a number drawn out of a code. -/
def DrawFN (lo hi : Int) (w : World) (e : Ending) (w' : World) : Prop :=
  ∃ ys A c x, e = .returned (.tuple #[.slice A ys.length c, .int .i64 x]) ∧ lo ≤ x ∧ x ≤ hi ∧ RowI w' A ys ∧ ys.length ≤ 256 ∧ ys.length ≤ c ∧ c ≤ maxLen ∧ Below w.heap.size w w'
theorem RowI.keptG {w w' : World} {g : Nat} {A : Option Addr} {ys : List Int} (h : RowI w A ys) (hk : Kept g w w') (hne : ∀ b, A.map (·.block) = some b → b ≠ g) : RowI w' A ys := by
  rcases h with h | ⟨b, off, rfl, hb, hc⟩
  · exact .inl h
  · exact .inr ⟨b, off, rfl, Nat.lt_of_lt_of_le hb hk.size, fun k hkk => (hk.cell (p := ⟨b, off + k, none⟩) hb (hne b rfl)).trans (hc k hkk)⟩
set_option maxRecDepth 8000 in
theorem drawCut_any (A : Option Addr) (n c : Nat) (bs : Nat → Int) (w : World) (h : RowU w A n bs) (hn : n ≤ 1048576) :
    Calls Try.prog 50 #[.slice A n c] w (DrawFN (-1) 53 w) := by
  have HR := Lib.hid h
  clear h
  go_enter Try.func50, Try.ntmps50
  go_wp2_with fail
  refine (l01From_any A n c bs _ HR.out hn).mono ?_
  rintro e w1 ⟨g, rfl, hg, hs, hb⟩
  have S1 := Lib.hid hs
  have B1 := Lib.hid (And.intro hb hg)
  clear hs hb hg
  go_wp2_with fail
  refine (l03Draw_any g _ S1.out).mono ?_
  rintro e w2 ⟨ys, A2, c2, rfl, h2, h3, h4, h5, h6, h7, h8⟩
  have Y2 := Lib.hid h2
  have NE : Hid (∀ b, A2.map (·.block) = some b → b ≠ g) := fun b hb => by have := h6 b hb; have := S1.out.lt; omega
  have LC := Lib.hid (And.intro h3 (And.intro h4 h5))
  have S2 := Lib.hid h7
  have K2 := Lib.hid h8
  clear h2 h3 h4 h5 h6 h7 h8
  go_wp2_with fail
  refine (l01Next_any g 54 _ S2.out).mono ?_
  rintro e w3 ⟨x, rfl, x0, x1, hs3, hk3, hz3⟩
  have x2 : x < 54 := by omega
  have S3 := Lib.hid hs3
  have K3 := Lib.hid (K2.out.trans hk3)
  have Y3 := Lib.hid (Y2.out.keptG hk3 NE.out)
  clear hs3 hk3 hz3 x1
  go_wp2_with fail
  refine (l01Next_any g 20 _ S3.out).mono ?_
  rintro e w4 ⟨y, rfl, y0, y1, hs4, hk4, hz4⟩
  have y2 : y < 20 := by omega
  have K4 := Lib.hid (K3.out.trans hk4)
  have Y4 := Lib.hid (Y3.out.keptG hk4 NE.out)
  clear hs4 hk4 hz4 y1
  go_wp2
  go_ret2
  exact ⟨ys, A2, c2, _, rfl, by omega, by omega, Y4.out, LC.out.1, LC.out.2.1, LC.out.2.2, B1.out.1.trans (K4.out.below B1.out.1.size B1.out.2)⟩
end Go.Proofs.Ytljlnfdbjeinaaa
