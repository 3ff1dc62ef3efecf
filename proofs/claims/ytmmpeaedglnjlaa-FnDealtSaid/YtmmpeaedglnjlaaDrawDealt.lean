/-
  The draws of FnDealt; two lists of lists compared.
-/
import Derived.Test.YtmmpeaedglnjlaaDrawSeed
import Derived.Test.YtmmpeaedglnjlaaDrawList
import Derived.Test.YtmmpeaedglnjlaaLikeInts
import Derived.Test.YtmmpeaedglnjlaaLists
import Derived.Deep.RegionLaw
namespace Go.Proofs.Ytmmpeaedglnjlaa
open Go.RowKit

/-- A list and two numbers drawn out of a code. -/
def DrawFNN (w : World) (e : Ending) (w' : World) : Prop :=
  ∃ ys A c x y, e = .returned (.tuple #[.slice A ys.length c, .int .i64 x, .int .i64 y]) ∧ (0 ≤ x ∧ x ≤ 11) ∧ (-1 ≤ y ∧ y ≤ 53) ∧ RowI w' A ys ∧ ys.length ≤ 256 ∧ ys.length ≤ c ∧ c ≤ maxLen ∧ Below w.heap.size w w'
set_option maxHeartbeats 1000000 in
set_option maxRecDepth 8000 in
theorem drawDeal_any (A : Option Addr) (n c : Nat) (bs : Nat → Int) (w : World) (h : RowU w A n bs) (hn : n ≤ 1048576) :
    Calls Try.prog 16 #[.slice A n c] w (DrawFNN w) := by
  have HR := Lib.hid h
  clear h
  go_enter Try.func16, Try.ntmps16
  go_wp2_with fail
  refine (l01From_any A n c bs _ HR.out hn).mono ?_
  rintro e w1 ⟨g, rfl, hg, hs, hb⟩
  have S1 := Lib.hid hs
  have B1 := Lib.hid (And.intro hb hg)
  clear hs hb hg
  go_wp2_with fail
  refine (l03Draw_any g _ S1.out).mono ?_
  rintro e w2 ⟨ys, A2, c2, rfl, h2, h3, h4, h5, h6, h7, h8⟩
  have Y2 := Lib.hid h2
  have NE : Hid (∀ b, A2.map (·.block) = some b → b ≠ g) := fun b hb => by have := h6 b hb; have := S1.out.lt; omega
  have LC := Lib.hid (And.intro h3 (And.intro h4 h5))
  have S2 := Lib.hid h7
  have K2 := Lib.hid h8
  clear h2 h3 h4 h5 h6 h7 h8
  go_wp2_with fail
  refine (l01Next_any g 12 _ S2.out).mono ?_
  rintro e w3 ⟨x, rfl, x0, x1, hs3, hk3, hz3⟩
  have x2 : x < 12 := by omega
  have S3 := Lib.hid hs3
  have K3 := Lib.hid (K2.out.trans hk3)
  have Y3 := Lib.hid (Y2.out.keptG hk3 NE.out)
  clear hs3 hk3 hz3 x1
  obtain ⟨yl, hyl⟩ : ∃ yl, yl = ys.length := ⟨_, rfl⟩
  rw [← hyl]
  have YL := Lib.hid hyl
  clear hyl
  go_wp2_with fail
  refine (l01Pick_any g _ _ [0, 1, 2, 2, 4, 5, 7, 13, 26, 52, 53, -1] _ _ rfl (S3.out.below' ((Below.refl _ _).alloc (Nat.le_refl _) _)) (rowI_made _ _ _ _ rfl) (made_ne S3.out) (by simp) (by simp)).mono ?_
  rintro e w4 ⟨z, rfl, hz, hs4, hk4, hz4⟩
  have z01 : -1 ≤ z ∧ z ≤ 53 := by simp at hz; omega
  have K4 := Lib.hid ((K3.out.alloc _).trans hk4)
  have Y4 := Lib.hid ((Y3.out.below ((Below.refl _ _).alloc (Nat.le_refl _) _)).keptG hk4 NE.out)
  have FIN : Hid (DrawFNN w (.returned (.tuple #[.slice A2 yl c2, .int .i64 x, .int .i64 z])) w4) :=
    ⟨ys, A2, c2, x, z, by rw [YL.out], ⟨x0, by omega⟩, z01, Y4.out, LC.out.1, LC.out.2.1, LC.out.2.2, B1.out.1.trans (K4.out.below B1.out.1.size B1.out.2)⟩
  clear hz hs4 hk4 hz4 z01 x0 x2
  go_wp2
  go_ret3
  exact FIN.out
set_option maxRecDepth 8000 in
theorem drawPlace_any (A : Option Addr) (n c : Nat) (bs : Nat → Int) (w : World) (h : RowU w A n bs) (hn : n ≤ 1048576) :
    Calls Try.prog 19 #[.slice A n c] w (DrawFN (-1) 52 w) := by
  have HR := Lib.hid h
  clear h
  go_enter Try.func19, Try.ntmps19
  go_wp2_with fail
  refine (l01From_any A n c bs _ HR.out hn).mono ?_
  rintro e w1 ⟨g, rfl, hg, hs, hb⟩
  have S1 := Lib.hid hs
  have B1 := Lib.hid (And.intro hb hg)
  clear hs hb hg
  go_wp2_with fail
  refine (l03Draw_any g _ S1.out).mono ?_
  rintro e w2 ⟨ys, A2, c2, rfl, h2, h3, h4, h5, h6, h7, h8⟩
  have Y2 := Lib.hid h2
  have NE : Hid (∀ b, A2.map (·.block) = some b → b ≠ g) := fun b hb => by have := h6 b hb; have := S1.out.lt; omega
  have LC := Lib.hid (And.intro h3 (And.intro h4 h5))
  have S2 := Lib.hid h7
  have K2 := Lib.hid h8
  clear h2 h3 h4 h5 h6 h7 h8
  obtain ⟨yl, hyl⟩ : ∃ yl, yl = ys.length := ⟨_, rfl⟩
  rw [← hyl]
  have YL := Lib.hid hyl
  clear hyl
  go_wp2_with fail
  refine (l02DrawCard_any g _ S2.out).mono ?_
  rintro e w3 ⟨x, rfl, x0, x1, hs3, hk3⟩
  have K3 := Lib.hid (K2.out.trans hk3)
  have Y3 := Lib.hid (Y2.out.keptG hk3 NE.out)
  have FIN : Hid (DrawFN (-1) 52 w (.returned (.tuple #[.slice A2 yl c2, .int .i64 x])) w3) :=
    ⟨ys, A2, c2, x, by rw [YL.out], x0, x1, Y3.out, LC.out.1, LC.out.2.1, LC.out.2.2, B1.out.1.trans (K3.out.below B1.out.1.size B1.out.2)⟩
  clear hs3 hk3
  go_wp2
  go_ret2
  exact FIN.out
theorem drawRest_any (A : Option Addr) (n c : Nat) (bs : Nat → Int) (w : World) (h : RowU w A n bs) (hn : n ≤ 1048576) :
    Calls Try.prog 22 #[.slice A n c] w (DrawFN (-1) 53 w) := by
  have HR := Lib.hid h
  clear h
  go_enter Try.func22, Try.ntmps22
  go_wp2_with fail
  refine (drawCut_any A n c bs _ HR.out hn).mono ?_
  rintro e w1 ⟨ys, A2, c2, x, rfl, hr⟩
  have HR2 := Lib.hid hr
  obtain ⟨yl, hyl⟩ : ∃ yl, yl = ys.length := ⟨_, rfl⟩
  rw [← hyl]
  have YL := Lib.hid hyl
  clear hyl hr
  go_wp2
  go_ret2
  exact ⟨ys, A2, c2, x, by rw [YL.out]; rfl, HR2.out⟩

set_option maxHeartbeats 1000000 in
/-- Lists of lists that read alike. -/
theorem likeSS_same (A B : Option Addr) (c d n m lo lo' : Nat) (xss : List (List Int)) (w : World) (hn : n = xss.length) (hm : m = xss.length) (hA : ListsO w lo A xss) (hB : ListsO w lo' B xss) (hl : xss.length ≤ 1048576) (hr : ∀ ys ∈ xss, ys.length ≤ 1048576) :
    Calls Try.prog 25 #[.slice A n c, .slice B m d] w fun e w' => e = .returned (.bool true) ∧ ∃ n, w' = w.drewN n := by
  have hm2 : m = n := by omega
  subst hm2
  rw [← hn] at hl
  have HN := Lib.hid hn
  have HA := Lib.hid hA
  have HB := Lib.hid hB
  have HR := Lib.hid hr
  clear hn hm hA hB hr
  go_enter Try.func25, Try.ntmps25
  go_wp2
  go_loopw [5] (fun i wr => ∃ k : Nat, k ≤ m ∧ i = .int .i64 k ∧ ∃ q, wr = w.drewN q) (fun i _ => m - (intOf i).toNat)
  case atStart => exact ⟨0, Nat.zero_le _, rfl, 0, rfl⟩
  case round =>
    obtain ⟨k, hk, rfl, q, rfl⟩ := hrel
    by_cases hlt : k < m
    · have hkx : k < xss.length := by rw [← HN.out]; exact hlt
      obtain ⟨b, off, rfl, hb, P, p, hc, ho⟩ := HA.out.at_ hkx
      obtain ⟨b', off', rfl, hb', S, s, hc', ho'⟩ := HB.out.at_ hkx
      have RX := Lib.hid ho.row
      have RY := Lib.hid ho'.row
      obtain ⟨x, hx⟩ : ∃ x, x = xss.getD k [] := ⟨_, rfl⟩
      have XL : Hid (x.length ≤ 1048576) := HR.out x (by rw [hx, List.getD_eq_getElem?_getD, List.getElem?_eq_getElem hkx]; exact List.getElem_mem hkx)
      rw [← hx] at hc hc' RX RY
      clear hx hb hb' ho ho' hkx
      have i0 : (0 : Int) ≤ (k : Int) := by omega
      have i1 : (k : Int) < (m : Int) := by omega
      go_wp2
      go_region_law (go_simp; go_at_call 26; refine (likeInts_any P S p s x x _ (RX.out.drewN _) (RY.out.drewN _) XL.out).mono ?_; rintro e w3 ⟨rfl, q3, rfl⟩; rw [eqL_self])
      all_goals
        go_wp2
        go_roundw
        case rel => exact ⟨k + 1, by omega, by go_num, _, rfl⟩
        case measure => simp [intOf]; omega
    · have hkn : k = m := by omega
      subst hkn
      clear hlt
      go_wp2
      go_ret
      exact ⟨rfl, q, rfl⟩
end Go.Proofs.Ytmmpeaedglnjlaa
