/-
  The draws of FnCards.
-/
import Derived.Test.YtmmpeaedglnjlaaDamage
import Derived.Test.YtmmpeaedglnjlaaDrawList
import Derived.Test.YtmmpeaedglnjlaaDrawDeal
import Derived.Test.YtmmpeaedglnjlaaTextC
import Derived.Test.YtmmpeaedglnjlaaMathRead
import Derived.Test.YtmmpeaedglnjlaaLike
namespace Go.Proofs.Ytmmpeaedglnjlaa
open Go.RowKit

/-- A text drawn out of a code. -/
def DrawFS (w : World) (e : Ending) (w' : World) : Prop := ∃ s : ByteArray, e = .returned (.string s) ∧ s.size ≤ 1048576 ∧ Below w.heap.size w w'
theorem drawCards_any (A : Option Addr) (n c : Nat) (bs : Nat → Int) (w : World) (h : RowU w A n bs) (hn : n ≤ 1048576) :
    Calls Try.prog 28 #[.slice A n c] w (DrawF w) := by
  have HR := Lib.hid h
  clear h
  go_enter Try.func28, Try.ntmps28
  go_wp2_with fail
  refine (l01From_any A n c bs _ HR.out hn).mono ?_
  rintro e w1 ⟨g, rfl, hg, hs, hb⟩
  go_wp2_with fail
  refine (l02DrawList_any g 9 _ hs (by omega) (by omega)).mono ?_
  rintro e w2 h2
  obtain ⟨ys, A', c', rfl, r⟩ := DrawL.drawF hb hg h2
  have R := Lib.hid r
  clear r h2 hb hs
  go_wp2
  go_ret
  exact ⟨ys, A', c', rfl, R.out⟩
set_option maxHeartbeats 4000000 in
set_option maxRecDepth 8000 in
theorem drawText_any (A : Option Addr) (n c : Nat) (bs : Nat → Int) (w : World) (h : RowU w A n bs) (hn : n ≤ 1048576) :
    Calls Try.prog 29 #[.slice A n c] w (DrawFS w) := by
  have HR := Lib.hid h
  clear h
  go_enter Try.func29, Try.ntmps29
  go_wp2_with fail
  refine (l01From_any A n c bs _ HR.out hn).mono ?_
  rintro e w1 ⟨g, rfl, hg, hs, hb⟩
  have S1 := Lib.hid hs
  have B1 := Lib.hid (And.intro hb hg)
  clear hs hb hg
  go_wp2_with fail
  refine (l01Next_any g 8 _ S1.out).mono ?_
  rintro e w2 ⟨x, rfl, x0, x1, hs, hk, hz⟩
  have x8 : x < 8 := by omega
  have S2 := Lib.hid hs
  have K2 := Lib.hid hk
  clear hs hk hz x1
  go_wp2_with fail
  refine (l02DealP_any g x none 0 [] _ _ rfl (by omega) S2.out (RowI.nil _ _) (by simp)).mono ?_
  rintro e w3 ⟨ys, A', c', rfl, hO, h52, -, ⟨rest, hp, hq⟩, hs, hk⟩
  obtain ⟨m, hm⟩ := Int.eq_ofNat_of_zero_le x0
  have hq2 := hq x0
  have OK := Lib.hid (deal_ok okC_nil hp (n := m) (by rw [← hm]; exact hq2.1) (by rw [← hm]; exact hq2.2) (by simp; omega))
  have YL : Hid (ys.length < 8) := by show _ < _; have := OK.out.2; omega
  obtain ⟨yl, hyl⟩ : ∃ yl, yl = ys.length := ⟨_, rfl⟩
  rw [← hyl]
  have HY := Lib.hid hyl
  have RY := Lib.hid hO.own.row
  have S3 := Lib.hid hs
  have K3 := Lib.hid (K2.out.trans hk)
  clear hO h52 hp hq hq2 hm hs hk hyl x0 x8
  go_wp2_with fail
  refine (l02Text_any A' c' ys yl _ HY.out RY.out (by have := YL.out; rw [HY.out]; omega) (by simpa using OK.out.1)).mono ?_
  rintro e w4 ⟨rfl, hb⟩
  have S4 := Lib.hid (S3.out.below' hb)
  have K4 := Lib.hid (K3.out.trans (Kept.of_below hb))
  obtain ⟨t, ht⟩ : ∃ t : ByteArray, t = ⟨(textK ys yl).toArray⟩ := ⟨_, rfl⟩
  have TS : Hid (t.size ≤ 1000) := by
    show _ ≤ _
    have h1 := textK_length ys yl
    have h2 : t.size = (textK ys yl).length := by rw [ht]; rfl
    have := YL.out
    rw [h2, h1, HY.out]; omega
  rw [← ht]
  clear hb ht
  go_wp2_with fail
  refine (l01Next_any g 4 _ S4.out).mono ?_
  rintro e w5 ⟨z, rfl, z0, z1, hs, hk, hz⟩
  have S5 := Lib.hid hs
  have K5 := Lib.hid (K4.out.trans hk)
  clear hs hk hz z1
  by_cases e0 : z = 0
  · subst e0
    go_wp2_with fail
    refine (l01Damage_any g t _ (S5.out.drewN 0) TS.out).mono ?_
    rintro e w6 ⟨s, rfl, hs1, hs, hk⟩
    have FIN : Hid (DrawFS w (.returned (.string s)) w6) := ⟨s, rfl, by have := TS.out; omega, B1.out.1.trans ((K5.out.trans hk).below B1.out.1.size B1.out.2)⟩
    clear hs1 hs hk
    go_wp2
    go_ret
    exact FIN.out
  · have b0 : (z == 0) = false := by simpa using e0
    by_cases e1 : z = 1
    · subst e1
      have T3 := TS.out
      have d1 : (t.size : Int).tdiv 2 = (t.size : Int) / 2 := Int.tdiv_eq_ediv_of_nonneg (by omega)
      obtain ⟨q, hq⟩ : ∃ q : Nat, (t.size : Int) / 2 * 2 % 4 = (q : Int) := ⟨((t.size : Int) / 2 * 2 % 4).toNat, by omega⟩
      have d2 : ((t.size : Int) / 2 * 2).tmod 4 = (q : Int) := by rw [Int.tmod_eq_emod_of_nonneg (by omega), hq]
      have d3 : IntKind.i64.wrap ((t.size : Int) / 2) = (t.size : Int) / 2 := IntWalk.i64_in _ (by omega)
      have d4 : IntKind.i64.wrap ((t.size : Int) / 2 * 2) = (t.size : Int) / 2 * 2 := IntWalk.i64_in _ (by omega)
      have d5 : IntKind.i64.wrap (q : Int) = (q : Int) := IntWalk.i64_in _ (by omega)
      have d6 : (q : Int) ≤ (t.size : Int) := by omega
      have d7 : ¬ (9223372036854775807 < t.size + (t.extract 0 q).size) := by rw [ByteArray.size_extract]; omega
      have d8 : (0 : Int) ≤ (q : Int) := by omega
      have FIN : Hid ((t ++ t.extract 0 q).size ≤ 1048576) := by show _ ≤ _; rw [ByteArray.size_append, ByteArray.size_extract]; omega
      clear e0 b0 z0 hq
      go_wp2
      go_ret
      exact ⟨_, rfl, FIN.out, B1.out.1.trans (K5.out.below B1.out.1.size B1.out.2)⟩
    · have b1 : (z == 1) = false := by simpa using e1
      have T3 := TS.out
      go_wp2
      go_ret
      exact ⟨t, rfl, by omega, B1.out.1.trans (K5.out.below B1.out.1.size B1.out.2)⟩
end Go.Proofs.Ytmmpeaedglnjlaa
