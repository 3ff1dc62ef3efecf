/-
  The draws of FnRatioText.
-/
import Derived.Test.YtfccmgnoebdlgaaDoorRatDraw
import Derived.Test.YtfccmgnoebdlgaaDoorDamage
import Derived.Test.YtfccmgnoebdlgaaDoorRatText3
namespace Go.Proofs.YtfccmgnoebdlgaaDoor
open Go.RowKit

theorem ratT_len (n d : Int) : (bytesOf (ratT n d)).size ≤ 50 := by
  rw [bytesOf_size]
  cases hr : isR n d
  · unfold ratT; rw [hr]; simp
  · obtain ⟨b1, b2, b3, b4, -⟩ := (isR_iff n d).1 hr
    have h1 := Lib.itoa_length_le n (by omega) (by omega)
    have h2 := Lib.itoa_length_le d (by omega) (by omega)
    by_cases hd : d = 1
    · subst hd; rw [ratT_one hr]; omega
    · rw [ratT_two hr hd, List.length_append, List.length_cons]; omega
def DrawRT (w : World) (e : Ending) (w' : World) : Prop := ∃ p q : Int, e = .returned (.agg #[.int .i64 p, .int .i64 q]) ∧ Below w.heap.size w w'
def DrawTS (w : World) (e : Ending) (w' : World) : Prop := ∃ s : ByteArray, e = .returned (.string s) ∧ s.size ≤ 1048576 ∧ Below w.heap.size w w'
def DrawII (w : World) (e : Ending) (w' : World) : Prop := ∃ p q : Int, e = .returned (.tuple #[.int .i64 p, .int .i64 q]) ∧ (-1000000002 ≤ p ∧ p ≤ 1000000002) ∧ (-1000000002 ≤ q ∧ q ≤ 1000000002) ∧ Below w.heap.size w w'

set_option maxHeartbeats 1000000 in
set_option maxRecDepth 8000 in
theorem drawRT_any (A : Option Addr) (n c : Nat) (bs : Nat → Int) (w : World) (h : RowU w A n bs) (hn : n ≤ 1048576) :
    Calls Tryd.prog 10 #[.slice A n c] w (DrawRT w) := by
  have HR := Lib.hid h
  clear h
  go_enter Tryd.func10, Tryd.ntmps10
  go_wp2_with fail
  refine (l01From_any A n c bs _ ?_ hn).mono ?_
  · exact HR.out.below ((Below.refl _ _).alloc (Nat.le_refl _) _)
  rintro e w1 ⟨g, rfl, hg, hs, hb⟩
  have z0 : w.heap.size < g := by simp at hg; omega
  have X1 := Lib.hid ((Two.alloc w _ 0 0).below hb)
  have B1 := Lib.hid (((Below.refl w.heap.size w).alloc (Nat.le_refl _) _).trans (hb.mono (by simp)))
  have S1 := Lib.hid hs
  clear hg hs hb
  go_wp2_with fail
  refine (l01DrawRatio_any g _ S1.out).mono ?_
  rintro e w2 ⟨a, b, rfl, a0, a1, b0, b1, hs2, hk2⟩
  obtain ⟨_, c0, c1, f0, f1⟩ := X1.out.kept hk2 (by omega)
  have B2 := Lib.hid (B1.out.trans (hk2.below B1.out.size (by omega)))
  clear hs2 hk2 X1 S1 B1
  go_wp2
  exact bodyPost_ret (v := .agg #[.int .i64 a, .int .i64 b]) (by simp [results, Tryd.results10, go_sem, c0, c1]) rfl ⟨a, b, rfl, (B2.out.setCell (by simp) _).setCell (by simp) _⟩

set_option maxHeartbeats 1000000 in
set_option maxRecDepth 8000 in
theorem drawRR_any (A : Option Addr) (n c : Nat) (bs : Nat → Int) (w : World) (h : RowU w A n bs) (hn : n ≤ 1048576) :
    Calls Tryd.prog 12 #[.slice A n c] w (DrawTS w) := by
  have HR := Lib.hid h
  clear h
  go_enter Tryd.func12, Tryd.ntmps12
  go_wp2_with fail
  refine (l01From_any A n c bs _ HR.out hn).mono ?_
  rintro e w1 ⟨g, rfl, hg, hs, hb⟩
  have B1 := Lib.hid (And.intro hb hg)
  have S1 := Lib.hid hs
  clear hg hs hb
  go_wp2_with fail
  refine (l01DrawRatio_any g _ S1.out).mono ?_
  rintro e w2 ⟨a, b, rfl, a0, a1, b0, b1, hs2, hk2⟩
  have S2 := Lib.hid hs2
  have K2 := Lib.hid hk2
  clear hs2 hk2 a0 a1 b0 b1
  go_wp2_with fail
  refine (specRatioText_any a b _).mono ?_
  rintro e w3 ⟨rfl, hb⟩
  have S3 := Lib.hid (S2.out.below' hb)
  have K3 := Lib.hid (K2.out.trans (Kept.of_below hb))
  obtain ⟨T, hT⟩ : ∃ T, T = bytesOf (ratT a b) := ⟨_, rfl⟩
  have TS : Hid (T.size ≤ 50) := by show _ ≤ _; rw [hT]; exact ratT_len a b
  rw [← hT]
  clear hb hT
  go_wp2_with fail
  refine (l01Next_any g 3 _ S3.out).mono ?_
  rintro e w4 ⟨z, rfl, z0, z1, hs, hk, hz⟩
  have S4 := Lib.hid hs
  have K4 := Lib.hid (K3.out.trans hk)
  clear hs hk hz z1
  by_cases e0 : z = 0
  · subst e0
    have TL : Hid (T.size ≤ 1000) := by have := TS.out; show _ ≤ _; omega
    go_wp2_with fail
    refine (l01Damage_any g T _ S4.out TL.out).mono ?_
    rintro e w5 ⟨s, rfl, hs1, hs, hk⟩
    have FIN : Hid (DrawTS w (.returned (.string s)) w5) := ⟨s, rfl, by have := TS.out; omega, B1.out.1.trans ((K4.out.trans hk).below B1.out.1.size B1.out.2)⟩
    clear hs1 hs hk
    go_wp2
    go_ret
    exact FIN.out
  · have b0 : (z == 0) = false := by simpa using e0
    have FIN : Hid (DrawTS w (.returned (.string T)) w4) := ⟨T, rfl, by have := TS.out; omega, B1.out.1.trans (K4.out.below B1.out.1.size B1.out.2)⟩
    go_wp2
    go_ret
    exact FIN.out

set_option maxHeartbeats 1000000 in
set_option maxRecDepth 8000 in
theorem drawMR_any (A : Option Addr) (n c : Nat) (bs : Nat → Int) (w : World) (h : RowU w A n bs) (hn : n ≤ 1048576) :
    Calls Tryd.prog 13 #[.slice A n c] w (DrawII w) := by
  have HR := Lib.hid h
  clear h
  go_enter Tryd.func13, Tryd.ntmps13
  go_wp2_with fail
  refine (l01From_any A n c bs _ HR.out hn).mono ?_
  rintro e w1 ⟨g, rfl, hg, hs, hb⟩
  have B1 := Lib.hid (And.intro hb hg)
  have S1 := Lib.hid hs
  clear hg hs hb
  go_wp2_with fail
  refine (l01DrawPart_any g _ S1.out).mono ?_
  rintro e w2 ⟨a, rfl, a0, a1, hs2, hk2⟩
  have S2 := Lib.hid hs2
  have K2 := Lib.hid hk2
  have WN : IntKind.i64.wrap (-a) = -a := IntWalk.i64_in _ (by omega)
  have AB := Lib.hid (And.intro a0 a1)
  clear hs2 hk2 a0 a1
  go_wp2_with fail
  refine (l01Next_any g 3 _ S2.out).mono ?_
  rintro e w3 ⟨z, rfl, z0, z1, hs, hk, hz⟩
  have S3 := Lib.hid hs
  have K3 := Lib.hid (K2.out.trans hk)
  clear hs hk hz z1
  by_cases e0 : z = 0
  · subst e0
    go_wp2_with fail
    refine (l01DrawPart_any g _ S3.out).mono ?_
    rintro e w4 ⟨b, rfl, b0, b1, hs2, hk2⟩
    have FIN : Hid (DrawII w (.returned (.tuple #[.int .i64 (-a), .int .i64 b])) w4) := ⟨-a, b, rfl, by have := AB.out; omega, by omega, B1.out.1.trans ((K3.out.trans hk2).below B1.out.1.size B1.out.2)⟩
    clear hs2 hk2 b0 b1
    go_wp2
    go_ret2
    exact FIN.out
  · have e1 : (z == 0) = false := by simpa using e0
    go_wp2_with fail
    refine (l01DrawPart_any g _ S3.out).mono ?_
    rintro e w4 ⟨b, rfl, b0, b1, hs2, hk2⟩
    have FIN : Hid (DrawII w (.returned (.tuple #[.int .i64 a, .int .i64 b])) w4) := ⟨a, b, rfl, by have := AB.out; omega, by omega, B1.out.1.trans ((K3.out.trans hk2).below B1.out.1.size B1.out.2)⟩
    clear hs2 hk2 b0 b1
    go_wp2
    go_ret2
    exact FIN.out

set_option maxHeartbeats 1000000 in
set_option maxRecDepth 8000 in
theorem drawGD_any (A : Option Addr) (n c : Nat) (bs : Nat → Int) (w : World) (h : RowU w A n bs) (hn : n ≤ 1048576) :
    Calls Tryd.prog 16 #[.slice A n c] w (DrawII w) := by
  have HR := Lib.hid h
  clear h
  go_enter Tryd.func16, Tryd.ntmps16
  go_wp2_with fail
  refine (l01From_any A n c bs _ HR.out hn).mono ?_
  rintro e w1 ⟨g, rfl, hg, hs, hb⟩
  have B1 := Lib.hid (And.intro hb hg)
  have S1 := Lib.hid hs
  clear hg hs hb
  go_wp2_with fail
  refine (l01DrawPart_any g _ S1.out).mono ?_
  rintro e w2 ⟨a, rfl, a0, a1, hs2, hk2⟩
  have S2 := Lib.hid hs2
  have K2 := Lib.hid hk2
  clear hs2 hk2
  go_wp2_with fail
  refine (l01Next_any g 30 _ S2.out).mono ?_
  rintro e w3 ⟨z, rfl, z0, z1, hs, hk, hz⟩
  have S3 := Lib.hid hs
  have K3 := Lib.hid (K2.out.trans hk)
  have D1 : z.tdiv 29 = z / 29 := Int.tdiv_eq_ediv_of_nonneg z0
  have D2 : IntKind.i64.wrap (z / 29) = z / 29 := IntWalk.i64_in _ (by omega)
  have D3 : IntKind.i64.wrap (a - z / 29) = a - z / 29 := IntWalk.i64_in _ (by omega)
  have AB : Hid (-1000000002 ≤ a - z / 29 ∧ a - z / 29 ≤ 1000000002) := by show _ ∧ _; omega
  clear hs hk hz z1 z0 a0 a1
  go_wp2_with fail
  refine (l01DrawPart_any g _ S3.out).mono ?_
  rintro e w4 ⟨b, rfl, b0, b1, hs2, hk2⟩
  have FIN : Hid (DrawII w (.returned (.tuple #[.int .i64 (a - z / 29), .int .i64 b])) w4) := ⟨a - z / 29, b, rfl, AB.out, by omega, B1.out.1.trans ((K3.out.trans hk2).below B1.out.1.size B1.out.2)⟩
  clear hs2 hk2 b0 b1
  go_wp2
  go_ret2
  exact FIN.out
end Go.Proofs.YtfccmgnoebdlgaaDoor
