/-
  The walk of the law FnSums.
-/
import Derived.Test.YtghgllpgiohlhaaDrawRatios
import Derived.Test.YtghgllpgiohlhaaRatDiv
namespace Go.Proofs.Ytghgllpgiohlhaa
open Go.RowKit

set_option maxHeartbeats 4000000 in
set_option maxRecDepth 100000 in
theorem FnSums_core (A : Option Addr) (n c : Nat) (bs : Nat → Int) (w : World) (h : RowU w A n bs) :
    Calls Try.prog 3 #[.slice A n c] w fun e w' => e = .returned (.bool true) ∧ Below w.heap.size w w' := by
  have HR := Lib.hid h
  clear h
  by_cases hn : 4096 < n
  · have D : Hid (decide (4096 < n) = true) := decide_eq_true hn
    go_enter Try.func3, Try.ntmps3
    go_wp2_with fail
    refine (big_any A n c _).mono ?_
    rintro e w1 ⟨rfl, rfl⟩
    rw [D.out]
    go_wp2
    go_ret
    exact ⟨rfl, Below.refl _ _⟩
  have D : Hid (decide (4096 < n) = false) := decide_eq_false hn
  have hn2 : n ≤ 1048576 := by omega
  go_enter Try.func3, Try.ntmps3
  go_wp2_with fail
  refine (big_any A n c _).mono ?_
  rintro e w1 ⟨rfl, rfl⟩
  rw [D.out]
  go_wp2_with fail
  refine (drawAddRatios_any A n c bs _ HR.out hn2).mono ?_
  rintro e w2 ⟨a1, b1, a2, b2, rfl, _, _, _, _, h0, h1, _, _, hb⟩
  have B2 := Lib.hid hb
  have HA := Lib.hid (And.intro h0 h1)
  clear hb h0 h1
  obtain ⟨x, y, k, hm⟩ : ∃ x y k, addR a1 b1 a2 b2 = (x, y, k) := ⟨_, _, _, rfl⟩
  have HM := Lib.hid hm
  clear hm
  go_wp2_with fail
  refine (implAddRatios_any a1 b1 a2 b2 _).mono ?_
  rintro e w3 ⟨rfl, hb⟩
  rw [HM.out]
  simp only [ratV]
  have T3a := Lib.hid (((Two.alloc w2 _ a1 b1).below ((Below.refl _ _).alloc (Nat.le_refl _) _)).below hb)
  have T3b := Lib.hid ((Two.alloc (w2.alloc _) _ a2 b2).below hb)
  have B3 := Lib.hid (((B2.out.alloc B2.out.size _).alloc (by simp; have := B2.out.size; omega) _).trans (hb.mono (by simp; have := B2.out.size; omega)))
  clear hb
  obtain ⟨za, ca0, ca1, fa0, fa1⟩ := T3a.out
  have T3b' : Hid (Two w3 (w2.heap.size + 1) a2 b2) := Lib.hid (by simpa using T3b.out)
  obtain ⟨zb, cb0, cb1, fb0, fb1⟩ := T3b'.out
  go_wp2_with fail
  refine (specAddRatios_any a1 b1 a2 b2 _).mono ?_
  rintro e w4 ⟨rfl, hb⟩
  rw [HM.out]
  simp only [ratV]
  have T4a := Lib.hid ((T3a.out.below ((Below.refl _ _).alloc (Nat.le_refl _) _)).below hb)
  have T4b := Lib.hid ((T3b'.out.below ((Below.refl _ _).alloc (Nat.le_refl _) _)).below hb)
  have T4r := Lib.hid ((Two.alloc w3 _ x y).below hb)
  have B4 := Lib.hid ((B3.out.alloc B3.out.size _).trans (hb.mono (by simp; have := B3.out.size; omega)))
  clear hb za zb ca0 ca1 cb0 cb1 fa0 fa1 fb0 fb1 T3a T3b T3b'
  go_wp2_with fail
  refine (drawSubtractRatios_any A n c bs _ (HR.out.below (B4.out.alloc B4.out.size _)) hn2).mono ?_
  rintro e w5 ⟨c1, d1, c2, d2, rfl, _, _, _, _, h0, h1, _, _, hb⟩
  have T5a := Lib.hid ((T4a.out.below ((Below.refl _ _).alloc (Nat.le_refl _) _)).below hb)
  have T5b := Lib.hid ((T4b.out.below ((Below.refl _ _).alloc (Nat.le_refl _) _)).below hb)
  have T5r := Lib.hid ((T4r.out.below ((Below.refl _ _).alloc (Nat.le_refl _) _)).below hb)
  have T5s := Lib.hid ((Two.alloc w4 _ x y).below hb)
  have B5 := Lib.hid ((B4.out.alloc B4.out.size _).trans (hb.mono (by simp; have := B4.out.size; omega)))
  have HC := Lib.hid (And.intro h0 h1)
  clear hb T4a T4b T4r h0 h1
  obtain ⟨x', y', k', hm⟩ : ∃ x y k, subR c1 d1 c2 d2 = (x, y, k) := ⟨_, _, _, rfl⟩
  have HS := Lib.hid hm
  clear hm
  go_wp2_with fail
  refine (implSubtractRatios_any c1 d1 c2 d2 _).mono ?_
  rintro e w6 ⟨rfl, hb⟩
  rw [HS.out]
  simp only [ratV]
  have hal : Hid (Below w5.heap.size w5 ((w5.alloc (.cells #[.int .i64 c1, .int .i64 d1] 25)).alloc (.cells #[.int .i64 c2, .int .i64 d2] 25))) := ((Below.refl _ _).alloc (Nat.le_refl _) _).alloc (by simp) _
  have T6a := Lib.hid ((T5a.out.below hal.out).below hb)
  have T6b := Lib.hid ((T5b.out.below hal.out).below hb)
  have T6r := Lib.hid ((T5r.out.below hal.out).below hb)
  have T6s := Lib.hid ((T5s.out.below hal.out).below hb)
  have T6c := Lib.hid (((Two.alloc w5 _ c1 d1).below ((Below.refl _ _).alloc (Nat.le_refl _) _)).below hb)
  have T6d0 := Lib.hid ((Two.alloc (w5.alloc _) _ c2 d2).below hb)
  have T6d : Hid (Two w6 (w5.heap.size + 1) c2 d2) := Lib.hid (by simpa using T6d0.out)
  have B6 := Lib.hid (((B5.out.alloc B5.out.size _).alloc (by simp; have := B5.out.size; omega) _).trans (hb.mono (by simp; have := B5.out.size; omega)))
  clear hb T5a T5b T5r T5s T6d0 hal
  obtain ⟨za, ca0, ca1, fa0, fa1⟩ := T6c.out
  obtain ⟨zb, cb0, cb1, fb0, fb1⟩ := T6d.out
  go_wp2_with fail
  refine (specSubtractRatios_any c1 d1 c2 d2 _ (by have := HC.out; omega) (by have := HC.out; omega)).mono ?_
  rintro e w7 ⟨rfl, hb⟩
  rw [HS.out]
  simp only [ratV]
  have T7a := Lib.hid ((T6a.out.below ((Below.refl _ _).alloc (Nat.le_refl _) _)).below hb)
  have T7b := Lib.hid ((T6b.out.below ((Below.refl _ _).alloc (Nat.le_refl _) _)).below hb)
  have T7r := Lib.hid ((T6r.out.below ((Below.refl _ _).alloc (Nat.le_refl _) _)).below hb)
  have T7s := Lib.hid ((T6s.out.below ((Below.refl _ _).alloc (Nat.le_refl _) _)).below hb)
  have T7c := Lib.hid ((T6c.out.below ((Below.refl _ _).alloc (Nat.le_refl _) _)).below hb)
  have T7d := Lib.hid ((T6d.out.below ((Below.refl _ _).alloc (Nat.le_refl _) _)).below hb)
  have T7y := Lib.hid ((Two.alloc w6 _ x' y').below hb)
  have B7 := Lib.hid ((B6.out.alloc B6.out.size _).trans (hb.mono (by simp; have := B6.out.size; omega)))
  clear hb za zb ca0 ca1 cb0 cb1 fa0 fa1 fb0 fb1 T6a T6b T6r T6s T6c T6d
  go_wp2_with fail
  obtain ⟨W, hW⟩ : ∃ W, W = w7.alloc (.cells #[.int .i64 x', .int .i64 y'] 25) := ⟨_, rfl⟩
  rw [← hW]
  have T8a : Hid (Two W w2.heap.size a1 b1) := by rw [hW]; exact T7a.out.below ((Below.refl _ _).alloc (Nat.le_refl _) _)
  have T8b : Hid (Two W (w2.heap.size + 1) a2 b2) := by rw [hW]; exact T7b.out.below ((Below.refl _ _).alloc (Nat.le_refl _) _)
  have T8r : Hid (Two W w3.heap.size x y) := by rw [hW]; exact T7r.out.below ((Below.refl _ _).alloc (Nat.le_refl _) _)
  have T8s : Hid (Two W w4.heap.size x y) := by rw [hW]; exact T7s.out.below ((Below.refl _ _).alloc (Nat.le_refl _) _)
  have T8y : Hid (Two W w6.heap.size x' y') := by rw [hW]; exact T7y.out.below ((Below.refl _ _).alloc (Nat.le_refl _) _)
  have T8z : Hid (Two W w7.heap.size x' y') := by rw [hW]; exact Two.alloc w7 _ x' y'
  have B8 : Hid (Below w.heap.size w W) := by rw [hW]; exact B7.out.alloc B7.out.size _
  clear hW T7a T7b T7r T7s T7c T7d T7y B7 B6 B5 B4 B3 B2
  obtain ⟨za, ac0, ac1, _, _⟩ := T8a.out
  obtain ⟨zr, rc0, rc1, _, _⟩ := T8r.out
  obtain ⟨zs, sc0, sc1, _, _⟩ := T8s.out
  obtain ⟨zy, yc0, yc1, _, _⟩ := T8y.out
  obtain ⟨zz, zc0, zc1, _, _⟩ := T8z.out
  have mk : ∀ w', Held W w' → Held W w' ∧ w'.cell? ⟨w2.heap.size, 0, none⟩ = some (.int .i64 a1) ∧ w'.cell? ⟨w2.heap.size, 1, none⟩ = some (.int .i64 b1) ∧ w'.cell? ⟨w3.heap.size, 0, none⟩ = some (.int .i64 x) ∧ w'.cell? ⟨w3.heap.size, 1, none⟩ = some (.int .i64 y) ∧ w'.cell? ⟨w4.heap.size, 0, none⟩ = some (.int .i64 x) ∧ w'.cell? ⟨w4.heap.size, 1, none⟩ = some (.int .i64 y) ∧ w'.cell? ⟨w6.heap.size, 0, none⟩ = some (.int .i64 x') ∧ w'.cell? ⟨w6.heap.size, 1, none⟩ = some (.int .i64 y') ∧ w'.cell? ⟨w7.heap.size, 0, none⟩ = some (.int .i64 x') ∧ w'.cell? ⟨w7.heap.size, 1, none⟩ = some (.int .i64 y') :=
    fun w' h => ⟨h, h.cell za ac0, h.cell za ac1, h.cell zr rc0, h.cell zr rc1, h.cell zs sc0, h.cell zs sc1, h.cell zy yc0, h.cell zy yc1, h.cell zz zc0, h.cell zz zc1⟩
  have MK := Lib.hid mk
  clear mk
  go_region_held3 (fun w' => Held W w' ∧ w'.cell? ⟨w2.heap.size, 0, none⟩ = some (.int .i64 a1) ∧ w'.cell? ⟨w2.heap.size, 1, none⟩ = some (.int .i64 b1) ∧ w'.cell? ⟨w3.heap.size, 0, none⟩ = some (.int .i64 x) ∧ w'.cell? ⟨w3.heap.size, 1, none⟩ = some (.int .i64 y) ∧ w'.cell? ⟨w4.heap.size, 0, none⟩ = some (.int .i64 x) ∧ w'.cell? ⟨w4.heap.size, 1, none⟩ = some (.int .i64 y) ∧ w'.cell? ⟨w6.heap.size, 0, none⟩ = some (.int .i64 x') ∧ w'.cell? ⟨w6.heap.size, 1, none⟩ = some (.int .i64 y') ∧ w'.cell? ⟨w7.heap.size, 0, none⟩ = some (.int .i64 x') ∧ w'.cell? ⟨w7.heap.size, 1, none⟩ = some (.int .i64 y'))
    (first | exact MK.out _ (held0 _) | exact MK.out _ (heldC (by assumption) (by assumption)))
    (first
      | (go_at_call 12; refine (implIsRatio_any a1 b1 _).mono ?_; rintro e w' ⟨rfl, hb⟩)
      | (go_at_call 13; refine (specIsRatio_any a1 b1 _).mono ?_; rintro e w' ⟨rfl, hb⟩))
  rename_i hI
  have H9 : Hid (Below W.heap.size W w') := hI.1
  have T9a := Lib.hid (T8a.out.below H9.out)
  have T9b := Lib.hid (T8b.out.below H9.out)
  have T9r := Lib.hid (T8r.out.below H9.out)
  have B9 := Lib.hid (B8.out.trans (H9.out.mono B8.out.size))
  clear hI H9 MK hb T8a T8b T8r T8s T8y T8z B8
  by_cases k0 : k = 0
  · have bk : (k != 0) = false := by rw [k0]; rfl
    have HM0 : Hid (addR a1 b1 a2 b2 = (x, y, 0)) := Lib.hid (by rw [HM.out, k0])
    clear k0
    obtain ⟨za, aa0, aa1, af0, af1⟩ := T9a.out
    obtain ⟨zb, bb0, bb1, bf0, bf1⟩ := T9b.out
    obtain ⟨zr, rr0, rr1, rf0, rf1⟩ := T9r.out
    go_wp2_with fail
    refine (implSubtractRatios_any x y a2 b2 _).mono ?_
    rintro e w10 ⟨rfl, hb⟩
    rw [add_back HM0.out]
    simp only [ratV]
    have T10a := Lib.hid (T9a.out.below hb)
    have T10b := Lib.hid (T9b.out.below hb)
    have T10r := Lib.hid (T9r.out.below hb)
    have B10 := Lib.hid (B9.out.trans (hb.mono B9.out.size))
    clear hb T9a T9b T9r B9 za aa0 aa1 af0 af1 zb bb0 bb1 bf0 bf1 zr rr0 rr1 rf0 rf1
    obtain ⟨za, aa0, aa1, af0, af1⟩ := T10a.out
    obtain ⟨zb, bb0, bb1, bf0, bf1⟩ := T10b.out
    go_wp2_with fail
    refine (implAddRatios_any a2 b2 a1 b1 _).mono ?_
    rintro e w11 ⟨rfl, hb⟩
    rw [add_comm' a1 b1 a2 b2, HM0.out]
    simp only [ratV]
    have T11a := Lib.hid ((T10a.out.below ((Below.refl _ _).alloc (Nat.le_refl _) _)).below hb)
    have T11r := Lib.hid ((T10r.out.below ((Below.refl _ _).alloc (Nat.le_refl _) _)).below hb)
    have T11k := Lib.hid ((Two.alloc w10 _ a1 b1).below hb)
    have B11 := Lib.hid ((B10.out.alloc B10.out.size _).trans (hb.mono (by simp; have := B10.out.size; omega)))
    clear hb T10a T10b T10r B10 za aa0 aa1 af0 af1 zb bb0 bb1 bf0 bf1
    obtain ⟨za, aa0, aa1, af0, af1⟩ := T11a.out
    obtain ⟨zr, rr0, rr1, rf0, rf1⟩ := T11r.out
    obtain ⟨zk, kk0, kk1, kf0, kf1⟩ := T11k.out
    go_wp2
    go_ret
    exact ⟨rfl, B11.out.alloc B11.out.size _⟩
  · have bk : (k != 0) = true := by simpa using k0
    clear k0
    go_wp2
    go_ret
    exact ⟨rfl, B9.out⟩

theorem FnSums_walk (a : Option Addr) (len cap : Nat) (zs : List Int) {w : World} (h : IsRow .u8 w a len cap zs) :
    Calls Try.prog 3 #[.slice a len cap] w fun e w' => e = .returned (.bool true) ∧ Below w.heap.size w w' := by
  obtain ⟨bs, hr⟩ := h.rowU
  exact FnSums_core a len cap bs w hr
end Go.Proofs.Ytghgllpgiohlhaa
