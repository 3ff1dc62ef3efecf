/-
  spec.l04DrawSome: five cards, rarely another list; the same out of a code.
-/
import Derived.Test.YtbhlghadjcbilaaDrawFive
namespace Go.Proofs.Ytbhlghadjcbilaa
open Go.RowKit

theorem ownT_set {w : World} {lo q c : Nat} {ys : List Int} (h : OwnT w lo (some ⟨q, 0, none⟩) c ys) (k : Nat) (x : Int) (hk : k < ys.length) : OwnT (w.setCell ⟨q, k, none⟩ (.int .i64 x)) lo (some ⟨q, 0, none⟩) c (ys.set k x) := by
  rcases h with ⟨h, _⟩ | ⟨g, f, e, h1, h2, h3, h4, hr, hf⟩
  · cases h
  · simp only [Option.some.injEq, Addr.mk.injEq, and_true] at e
    subst e
    refine .inr ⟨q, _, rfl, h1, by simpa [World.setCell] using h2, by simpa using h3, h4, hr.set k _, fun j hj => ?_⟩
    rw [List.length_set] at hj
    by_cases e : j = k
    · subst e; simp [List.getD_eq_getElem?_getD, hj]
    · rw [if_neg e, hf j hj]
      simp [List.getD_eq_getElem?_getD, Ne.symm e]

set_option maxHeartbeats 2000000 in
set_option maxRecDepth 8000 in
theorem l04DrawSome_any (g : Nat) (w : World) (h : Src w g) : Calls Try.prog 98 #[.pointer (some ⟨g, 0, none⟩)] w (DrawL g w) := by
  have HS := Lib.hid h
  have GL : Hid (g < w.heap.size) := h.lt
  obtain ⟨i0, hi, hz0, hz1, hz2⟩ := info_parts int_info
  have HI := Lib.hid (And.intro hi (And.intro hz0 (And.intro hz1 hz2)))
  clear h hi hz0 hz1 hz2
  go_enter Try.func98, Try.ntmps98
  go_wp2_with fail
  refine (l04DrawFive_any g _ HS.out).mono ?_
  rintro e w1 ⟨zs, A1, c1, rfl, hT, hok, hzl, hs1, hk1⟩
  rw [hzl]
  have T1 := Lib.hid hT
  have E1 := Lib.hid (And.intro hok (And.intro hzl (And.intro hs1 hk1)))
  clear hT hok hzl hs1 hk1
  go_wp2_with fail
  refine (l01Next_any g 24 _ E1.out.2.2.1).mono ?_
  rintro e w2 ⟨x, rfl, x0, x1, hs2, hk2, hz2⟩
  have S2 := Lib.hid hs2
  have K2 := Lib.hid (E1.out.2.2.2.trans hk2)
  have T2 := Lib.hid (T1.out.keptG hk2 GL.out)
  have Z2 := Lib.hid hk2.size
  obtain ⟨q, hq⟩ : ∃ q, A1 = some ⟨q, 0, none⟩ := by
    rcases T1.out with ⟨_, _, h⟩ | ⟨q, f, h, _⟩
    · have := E1.out.2.1; rw [h] at this; simp at this
    · exact ⟨q, h⟩
  subst hq
  have c5 : 5 ≤ c1 := by have := T2.out.own.cap.1; rw [E1.out.2.1] at this; exact this
  have QL : Hid (w.heap.size ≤ q) := (T2.out.own.lo_block q rfl).1
  have CM := Lib.hid T2.out.own.cap.2
  clear hs2 hk2 hz2 T1
  by_cases e0 : x = 0
  · subst e0
    have hcut := T2.out.own.row.cut (k := 1) (cap := c1) (by rw [E1.out.2.1]; omega) (by rw [E1.out.2.1]; exact c5)
    rw [if_neg (by omega)] at hcut
    have FIN : Hid (DrawL g w (.returned (.slice (some ⟨q, 1, none⟩) 4 (c1 - 1))) w2) := by
      refine ⟨zs.drop 1, some ⟨q, 1, none⟩, c1 - 1, by rw [List.length_drop, E1.out.2.1], by simpa [Go.WideShapes.add_plain] using hcut, by rw [List.length_drop, E1.out.2.1]; omega, by rw [List.length_drop, E1.out.2.1]; omega, by have := CM.out; omega, fun b hb => ?_, S2.out, K2.out⟩
      simp at hb; subst hb; exact QL.out
    have hne : ¬ c1 = 1 := by omega
    clear hcut
    go_wp2
    go_ret
    exact FIN.out
  · have b0 : (x == 0) = false := by simpa using e0
    by_cases e1 : x = 1
    · subst e1
      clear b0 e0
      go_wp2_with fail
      refine (l02DealP_any g 1 _ _ zs _ _ E1.out.2.1.symm (by omega) S2.out T2.out.own.row (by rw [E1.out.2.1]; omega)).mono ?_
      rintro e w3 ⟨ys, A3, c3, rfl, hO, h52, hdz, ⟨rest, hp, hq⟩, hs3, hk3⟩
      have T3 := Lib.hid (T2.out.keptG hk3 GL.out)
      have OW3 : Hid (w3.ownsRow w.heap.size 2 1 (.slice (some ⟨q, 0, none⟩) 5 c1) 5 (zs.map (Value.int .i64))) := by
        have := T3.out.owns
        rwa [E1.out.2.1] at this
      have RD := Lib.hid hO.own.row.reads
      have K3 := Lib.hid (K2.out.trans hk3)
      have S3 := Lib.hid hs3
      clear hO hp hq hs3 hk3 hdz
      go_wp2_with (at_builtin; refine wpList_append_any _ rfl (.tmp 14) (.tmp 17) 24 rfl w.heap.size 2 i0 (.int .i64 0) 1 8 Try.underlying24 HI.out.1 HI.out.2.1 HI.out.2.2.1 HI.out.2.2.2 rfl (by decide) _ 5 _ rfl OW3.out w3.heap.size A3 ys.length c3 (ys.map (Value.int .i64)) rfl RD.out (ints_one ys) (by simp only [maxLen]; omega) (by omega) K3.out.size ?_; intro v4 w4 hown4 hg4 hat4; have O4 := Lib.hid hown4; have G4 := Lib.hid hg4; clear hown4 hg4 hat4)
      have hrow := ownT_row T3.out 5
      obtain ⟨A4, c4, hv4, hT4⟩ := ownT_of_owns (xs := zs ++ ys) (v := v4) (by rw [List.length_append, E1.out.2.1]; simpa using O4.out)
      subst hv4
      have FIN : Hid (DrawL g w (.returned (.slice A4 (zs ++ ys).length c4)) w4) :=
        DrawL.of_own rfl hT4.own (Nat.le_refl _) (by rw [List.length_append, E1.out.2.1]; omega) (S3.out.below ((Below.refl w.heap.size w3).grown G4.out K3.out.size hrow) GL.out) (K3.out.grown G4.out hrow)
      clear hrow hT4
      go_wp2
      go_ret
      exact FIN.out
    · have b1 : (x == 1) = false := by simpa using e1
      by_cases e2 : x = 2
      · subst e2
        clear b0 e0 b1 e1
        obtain ⟨b', off', he, hb', hcell⟩ := T2.out.own.row.at_ (k := 1) (by rw [E1.out.2.1]; omega)
        simp only [Option.some.injEq, Addr.mk.injEq, and_true] at he
        obtain ⟨rfl, rfl⟩ := he
        obtain ⟨b2, off2, he, _, hcell0⟩ := T2.out.own.row.at_ (k := 0) (by rw [E1.out.2.1]; omega)
        simp only [Option.some.injEq, Addr.mk.injEq, and_true] at he
        obtain ⟨rfl, rfl⟩ := he
        rw [Nat.zero_add] at hcell hcell0
        obtain ⟨u, hu⟩ : ∃ u, u = zs.getD 1 0 := ⟨_, rfl⟩
        obtain ⟨u0, hu0⟩ : ∃ u0, u0 = zs.getD 0 0 := ⟨_, rfl⟩
        rw [← hu] at hcell
        rw [← hu0] at hcell0
        have hf0 : w2.frozen? ⟨q, 0, none⟩ = false := by
          rcases T2.out with ⟨h, _⟩ | ⟨g', f, e, _, _, _, _, hr, _⟩
          · cases h
          · simp only [Option.some.injEq, Addr.mk.injEq, and_true] at e
            subst e
            exact hr.frozen 0
        have FIN : Hid (DrawL g w (.returned (.slice (some ⟨q, 0, none⟩) 5 c1)) (w2.setCell ⟨q, 0, none⟩ (.int .i64 u))) := by
          refine DrawL.of_own (ys := zs.set 0 u) (by rw [List.length_set, E1.out.2.1]) (ownT_set T2.out 0 u (by rw [E1.out.2.1]; omega)).own (Nat.le_refl _) (by rw [List.length_set, E1.out.2.1]; omega) ?_ (K2.out.setCell QL.out _)
          exact S2.out.below ((Below.refl w.heap.size w2).setCell QL.out _) GL.out
        clear hu hu0 hb'
        go_wp2
        go_ret
        exact FIN.out
      · have b2 : (x == 2) = false := by simpa using e2
        have FIN : Hid (DrawL g w (.returned (.slice (some ⟨q, 0, none⟩) 5 c1)) w2) :=
          DrawL.of_own E1.out.2.1.symm T2.out.own (Nat.le_refl _) (by rw [E1.out.2.1]; omega) S2.out K2.out
        clear e0 e1 e2
        go_wp2
        go_ret
        exact FIN.out

/-- A list drawn out of a code. -/
def DrawC (w : World) (e : Ending) (w' : World) : Prop :=
  ∃ ys A c, e = .returned (.slice A ys.length c) ∧ RowI w' A ys ∧ ys.length ≤ 256 ∧ ys.length ≤ c ∧ c ≤ maxLen ∧ Below w.heap.size w w'
theorem DrawL.code {g : Nat} {w w1 w2 : World} {e : Ending} (h : DrawL g w1 e w2) (hb : Below w.heap.size w w1) (hg : w.heap.size ≤ g) : DrawC w e w2 := by
  obtain ⟨ys, A, c, h1, h2, h3, h4, h5, _, _, hk⟩ := h
  exact ⟨ys, A, c, h1, h2, h3, h4, h5, hb.trans (hk.below hb.size hg)⟩
theorem drawHigh_any (A : Option Addr) (n c : Nat) (bs : Nat → Int) (w : World) (h : RowU w A n bs) (hn : n ≤ 1048576) : Calls Try.prog 43 #[.slice A n c] w (DrawC w) := by
  have HR := Lib.hid h
  clear h
  go_enter Try.func43, Try.ntmps43
  go_wp2_with fail
  refine (l01From_any A n c bs _ HR.out hn).mono ?_
  rintro e w1 ⟨g, rfl, hg, hs, hb⟩
  have S1 := Lib.hid hs
  have B1 := Lib.hid (And.intro hb hg)
  clear hs hb hg
  go_wp2_with fail
  refine (l04DrawSome_any g _ S1.out).mono ?_
  rintro e w2 hd
  obtain ⟨ys, A2, c2, rfl, hr⟩ := hd.code B1.out.1 B1.out.2
  have HR2 := Lib.hid hr
  clear hd hr
  go_wp2
  go_ret
  exact ⟨ys, A2, c2, rfl, HR2.out⟩
theorem drawAce_any (A : Option Addr) (n c : Nat) (bs : Nat → Int) (w : World) (h : RowU w A n bs) (hn : n ≤ 1048576) : Calls Try.prog 53 #[.slice A n c] w (DrawC w) := by
  have HR := Lib.hid h
  clear h
  go_enter Try.func53, Try.ntmps53
  go_wp2_with fail
  refine (l01From_any A n c bs _ HR.out hn).mono ?_
  rintro e w1 ⟨g, rfl, hg, hs, hb⟩
  have S1 := Lib.hid hs
  have B1 := Lib.hid (And.intro hb hg)
  clear hs hb hg
  go_wp2_with fail
  refine (l04DrawSome_any g _ S1.out).mono ?_
  rintro e w2 hd
  obtain ⟨ys, A2, c2, rfl, hr⟩ := hd.code B1.out.1 B1.out.2
  have HR2 := Lib.hid hr
  clear hd hr
  go_wp2
  go_ret
  exact ⟨ys, A2, c2, rfl, HR2.out⟩
end Go.Proofs.Ytbhlghadjcbilaa
