/-
  The walk of the law FnCategories.
-/
import Derived.Test.YtbhlghadjcbilaaDoorDrawCats
import Derived.Test.YtbhlghadjcbilaaDoorCatWalk
import Derived.Test.YtbhlghadjcbilaaDoorParts
import Derived.Test.YtbhlghadjcbilaaDoorLikeInts
namespace Go.Proofs.YtbhlghadjcbilaaDoor
open Go.RowKit

theorem cell_in {w : World} {a : Addr} {v : Value} (h : w.cell? a = some v) : a.block < w.heap.size := by
  by_cases h' : a.block < w.heap.size
  · exact h'
  · simp [World.cell?, Array.getElem?_eq_none (Nat.le_of_not_lt h')] at h
def Tabs (w : World) : Prop := (∀ i, i < 9 → w.cell? ⟨0, i, none⟩ = some (.int .i64 (sizes.getD i 0))) ∧ ∀ i, i < 9 → w.cell? ⟨1, i, none⟩ = some (.string ⟨(names.getD i []).toArray⟩)
theorem Tabs.below {w w' : World} (h : Tabs w) (hb : Below w.heap.size w w') : Tabs w' :=
  ⟨fun i hi => (hb.cell (p := ⟨_, i, none⟩) (cell_in (h.1 i hi))).trans (h.1 i hi), fun i hi => (hb.cell (p := ⟨_, i, none⟩) (cell_in (h.2 i hi))).trans (h.2 i hi)⟩
def sumZ (k : Nat) : Int := (sizes.take k).foldl (· + ·) 0
theorem sum_step : ∀ k, k < 9 → sumZ (k + 1) = sumZ k + sizes.getD k 0 ∧ 0 ≤ sumZ k ∧ sumZ k ≤ 2598960 ∧ 0 ≤ sizes.getD k 0 ∧ sizes.getD k 0 ≤ 1302540 := by decide
theorem sum_all : sumZ 9 = 2598960 := by decide
theorem name_ne : ∀ k, k < 9 → names.getD k [] ≠ [] := by decide
theorem name_some : ∀ k, k < 9 → (ByteArray.mk (names.getD k []).toArray).toList.isEmpty = false := by decide +kernel
theorem parts_sum {v : Int} (h : 0 ≤ v ∧ v ≤ 3341636) : ∃ p a b c d e : Int, ptK v = p ∧ ptL v = [a, b, c, d, e] ∧ 371293 * p + 28561 * a + 2197 * b + 169 * c + 13 * d + e = v ∧ (0 ≤ p ∧ p ≤ 8) ∧ (0 ≤ a ∧ a ≤ 12) ∧ (0 ≤ b ∧ b ≤ 12) ∧ (0 ≤ c ∧ c ≤ 12) ∧ (0 ≤ d ∧ d ≤ 12) ∧ (0 ≤ e ∧ e ≤ 12) := by
  refine ⟨_, _, _, _, _, _, by unfold ptK; rw [if_pos h], by unfold ptL digs; rw [if_pos h], ?_, ?_⟩
  · simp only [vq]; omega
  · simp only [vq]; omega

set_option maxHeartbeats 8000000 in
set_option maxRecDepth 100000 in
theorem FnCategories_core (A : Option Addr) (n c : Nat) (bs : Nat → Int) (w : World) (h : RowU w A n bs) (ht : Tabs w) :
    Calls Tryd.prog 3 #[.slice A n c] w fun e w' => e = .returned (.bool true) ∧ Below w.heap.size w w' := by
  have HR := Lib.hid h
  have T0 := Lib.hid ht
  clear h ht
  by_cases hn : 4096 < n
  · have D : Hid (decide (4096 < n) = true) := decide_eq_true hn
    go_enter Tryd.func3, Tryd.ntmps3
    go_wp2_with fail
    refine (big_any A n c _).mono ?_
    rintro e w1 ⟨rfl, rfl⟩
    rw [D.out]
    go_wp2
    go_ret
    exact ⟨rfl, Below.refl _ _⟩
  have D : Hid (decide (4096 < n) = false) := decide_eq_false hn
  have hn2 : n ≤ 1048576 := by omega
  clear hn
  go_enter Tryd.func3, Tryd.ntmps3
  go_wp2_with fail
  refine (big_any A n c _).mono ?_
  rintro e w1 ⟨rfl, rfl⟩
  rw [D.out]
  go_wp2_with fail
  refine (drawCatSize_any A n c bs _ HR.out hn2).mono ?_
  rintro e w2 ⟨⟨x, rfl⟩, hb⟩
  have T2 := Lib.hid (T0.out.below hb)
  have B2 := Lib.hid hb
  clear hb D
  go_wp2_with fail
  refine (implSize_any x _ T2.out.1).mono ?_
  rintro e w3 ⟨rfl, rfl⟩
  go_wp2_with fail
  refine (specSize_any x _).mono ?_
  rintro e w4 ⟨rfl, hb⟩
  have T4 := Lib.hid (T2.out.below hb)
  have B4 := Lib.hid (B2.out.trans (hb.mono B2.out.size))
  clear hb T2 B2
  go_wp2_with fail
  refine (drawParts_any A n c bs _ (HR.out.below B4.out) hn2).mono ?_
  rintro e w5 ⟨⟨v, rfl⟩, hb⟩
  have T5 := Lib.hid (T4.out.below hb)
  have B5 := Lib.hid (B4.out.trans (hb.mono B4.out.size))
  clear hb T4 B4
  go_wp2_with fail
  refine (implParts_any v _).mono ?_
  rintro e w6 ⟨A6, c6, rfl, ho, hb⟩
  have T6 := Lib.hid (T5.out.below hb)
  have B6 := Lib.hid (B5.out.trans (hb.mono B5.out.size))
  have Q6 := Lib.hid ho.row
  clear ho hb T5 B5
  go_wp2_with fail
  refine (specParts_any v _).mono ?_
  rintro e w7 ⟨A7, c7, rfl, ho, hb⟩
  have T7 := Lib.hid (T6.out.below hb)
  have B7 := Lib.hid (B6.out.trans (hb.mono B6.out.size))
  have Q7 := Lib.hid (Q6.out.below hb)
  have P7 := Lib.hid ho.row
  clear ho hb T6 B6 Q6
  go_wp2_with fail
  refine (drawCatName_any A n c bs _ (HR.out.below B7.out) hn2).mono ?_
  rintro e w8 ⟨⟨k, rfl⟩, hb⟩
  have T8 := Lib.hid (T7.out.below hb)
  have B8 := Lib.hid (B7.out.trans (hb.mono B7.out.size))
  have Q8 := Lib.hid (Q7.out.below hb)
  have P8 := Lib.hid (P7.out.below hb)
  clear hb T7 B7 Q7 P7
  obtain ⟨Z, hZ⟩ : ∃ Z, Z = szV x := ⟨_, rfl⟩
  obtain ⟨E, hE⟩ : ∃ E, E = szC x := ⟨_, rfl⟩
  obtain ⟨K, hK⟩ : ∃ K, K = ptK v := ⟨_, rfl⟩
  obtain ⟨C, hC⟩ : ∃ C, C = ptC v := ⟨_, rfl⟩
  obtain ⟨L, hL⟩ : ∃ L, L = ptL v := ⟨_, rfl⟩
  obtain ⟨ln, hln⟩ : ∃ ln, ln = L.length := ⟨_, rfl⟩
  rw [← hL] at Q8 P8
  rw [← hZ, ← hE, ← hK, ← hC, ← hL, ← hln]
  have NM := Lib.hid (And.intro hK (And.intro hC (And.intro hL hln)))
  have LL : Hid (L.length ≤ 1048576) := by
    show _ ≤ _
    rw [hL]; unfold ptL; split <;> simp [digs]
  clear hZ hE hK hC hL hln
  go_wp2_with fail
  refine (likeInts_same A6 A7 c6 c7 _ _ L L _ NM.out.2.2.2 NM.out.2.2.2 rfl Q8.out P8.out LL.out).mono ?_
  rintro e w9 ⟨rfl, hb⟩
  have T9 := Lib.hid (T8.out.below hb)
  have B9 := Lib.hid (B8.out.trans (hb.mono B8.out.size))
  have P9 := Lib.hid (P8.out.below hb)
  clear hb T8 B8 P8 Q8
  go_wp2_with fail
  refine (implName_any k _ T9.out.2).mono ?_
  rintro e w10 ⟨rfl, rfl⟩
  go_wp2_with fail
  refine (specName_any k _).mono ?_
  rintro e w11 ⟨rfl, hb⟩
  have T11 := Lib.hid (T9.out.below hb)
  have B11 := Lib.hid (B9.out.trans (hb.mono B9.out.size))
  have P11 := Lib.hid (P9.out.below hb)
  clear hb T9 B9 P9
  obtain ⟨S, hS⟩ : ∃ S, S = naV k := ⟨_, rfl⟩
  rw [← hS]
  clear hS
  go_wp2
  go_loopw [16, 17, 18, 19] (fun t i _ _ wr => ∃ j : Nat, j ≤ 9 ∧ i = .int .i64 j ∧ t = .int .i64 (sumZ j) ∧ wr = w11) (fun _ i _ _ _ => 9 - (intOf i).toNat)
  case atStart => exact ⟨0, Nat.zero_le _, rfl, rfl, rfl⟩
  case round =>
    obtain ⟨j, hj, rfl, rfl, rfl⟩ := hrel
    by_cases hlt : j < 9
    · obtain ⟨hs, t0, t1, z0, z1⟩ := sum_step j hlt
      obtain ⟨u, hu⟩ : ∃ u, u = sumZ j := ⟨_, rfl⟩
      obtain ⟨z, hz⟩ : ∃ z, z = sizes.getD j 0 := ⟨_, rfl⟩
      rw [← hu, ← hz] at hs
      rw [← hu] at t0 t1 ⊢
      rw [← hz] at z0 z1
      have HS := Lib.hid hs
      have SV : Hid (szV (j : Int) = z ∧ szC (j : Int) = 0) := by
        have := sz_yes (n := (j : Int)) ⟨by omega, by omega⟩
        show _ ∧ _
        rw [hz]; simpa using this
      clear hs hu hz
      have SL : Hid ((naV (j : Int)).toList.isEmpty = false) := by
        show _ = _
        rw [na_yes (n := (j : Int)) ⟨by omega, by omega⟩]
        simpa using name_some j hlt
      have i1 : (j : Int) < 9 := by omega
      go_wp2_with fail
      refine (implSize_any (j : Int) _ T11.out.1).mono ?_
      rintro e w12 ⟨rfl, rfl⟩
      rw [SV.out.1, SV.out.2]
      go_wp2_with fail
      refine (implName_any (j : Int) _ T11.out.2).mono ?_
      rintro e w13 ⟨rfl, rfl⟩
      obtain ⟨s, hs⟩ : ∃ s, s = naV (j : Int) := ⟨_, rfl⟩
      rw [← hs]
      have sl : s.toList.isEmpty = false := by rw [hs]; exact SL.out
      clear hs
      go_wp2
      go_roundw
      case rel => exact ⟨j + 1, by omega, by go_num, by rw [HS.out], trivial⟩
      case measure => simp [intOf]; omega
    · have hj9 : j = 9 := by omega
      subst hj9
      rw [sum_all]
      clear hlt
      by_cases hv : 0 ≤ v ∧ v ≤ 3341636
      · obtain ⟨p, a, b, c', d, e', h1, h2, h3, ⟨p0, p1⟩, ⟨a0, a1⟩, ⟨b0, b1⟩, ⟨q0, q1⟩, ⟨d0, d1⟩, ⟨e0, e1⟩⟩ := parts_sum hv
        have C0 : C = 0 := by rw [NM.out.2.1]; unfold ptC; rw [if_pos hv]
        subst C0
        have KP : K = p := by rw [NM.out.1, h1]
        subst KP
        have LE : L = [a, b, c', d, e'] := by rw [NM.out.2.2.1, h2]
        subst LE
        have ln5 : ln = 5 := by rw [NM.out.2.2.2]; rfl
        subst ln5
        obtain ⟨bk, off, rfl, _, f0⟩ := P11.out.at_ (k := 0) (by simp)
        obtain ⟨_, _, he, _, f1⟩ := P11.out.at_ (k := 1) (by simp)
        simp only [Option.some.injEq, Addr.mk.injEq, and_true] at he
        obtain ⟨rfl, rfl⟩ := he
        obtain ⟨_, _, he, _, f2⟩ := P11.out.at_ (k := 2) (by simp)
        simp only [Option.some.injEq, Addr.mk.injEq, and_true] at he
        obtain ⟨rfl, rfl⟩ := he
        obtain ⟨_, _, he, _, f3⟩ := P11.out.at_ (k := 3) (by simp)
        simp only [Option.some.injEq, Addr.mk.injEq, and_true] at he
        obtain ⟨rfl, rfl⟩ := he
        obtain ⟨_, _, he, _, f4⟩ := P11.out.at_ (k := 4) (by simp)
        simp only [Option.some.injEq, Addr.mk.injEq, and_true] at he
        obtain ⟨rfl, rfl⟩ := he
        simp at f0 f1 f2 f3 f4
        have H3 := Lib.hid h3
        clear h1 h2 hv
        go_wp2
        go_quiet (fail)
        go_wp2
        go_ret
        exact ⟨by simp, below_drewN B11.out _⟩
      · have C2 : C = 2 := by rw [NM.out.2.1]; unfold ptC; rw [if_neg hv]
        subst C2
        clear hv
        go_wp2
        go_quiet (fail)
        go_wp2
        go_ret
        exact ⟨by simp, below_drewN B11.out _⟩

theorem FnCategories_walk (a : Option Addr) (len cap : Nat) (zs : List Int) {w : World} (h : IsRow .u8 w a len cap zs) (ht : Tabs w) :
    Calls Tryd.prog 3 #[.slice a len cap] w fun e w' => e = .returned (.bool true) ∧ Below w.heap.size w w' := by
  obtain ⟨bs, hr⟩ := h.rowU
  exact FnCategories_core a len cap bs w hr ht
end Go.Proofs.YtbhlghadjcbilaaDoor
