/-
  The walk of the law FnBestLows.
-/
import Derived.Test.YtbhlghadjcbilaaBestLow
import Derived.Test.YtbhlghadjcbilaaDrawMore
import Derived.Test.YtbhlghadjcbilaaDrawFrom
namespace Go.Proofs.Ytbhlghadjcbilaa
open Go.RowKit

theorem take_five {xs : List Int} (h : szP xs 5 8) : (xs.take 5).length = 5 ∧ okC (xs.take 5) ∧ xs.take 5 ∈ comb xs 5 ∧ fiveP (xs.take 5) := by
  have e : (xs.take 5).length = 5 := by rw [List.length_take]; have := h.1; omega
  have o : okC (xs.take 5) := okC_sub (List.take_sublist 5 xs) h.2.2
  exact ⟨e, o, comb_mem.2 ⟨List.take_sublist 5 xs, e⟩, by omega, by omega, o⟩
theorem ace_five {xs : List Int} (h : szP xs 5 8) : baV xs ≤ acV (xs.take 5) ∧ hvC (xs.take 5) = 0 := by
  obtain ⟨e, o, m, f⟩ := take_five h
  refine ⟨?_, (acV_yes f).2⟩
  rw [(ba_yes h).1, (acV_yes f).1]
  exact (leastF_le _ (comb xs 5) rfl (fun S hS => (fA_bd (comb_mem.1 hS).2 (comb_ok h.2.2 hS)).1)).2 _ m
theorem deuce_five {xs : List Int} (h : szP xs 5 8) : bdV xs ≤ deV (xs.take 5) ∧ hvC (xs.take 5) = 0 := by
  obtain ⟨e, o, m, f⟩ := take_five h
  refine ⟨?_, (deV_yes f).2⟩
  rw [(bd_yes h).1, (deV_yes f).1, ← fD_eq e o]
  exact (leastF_le _ (comb xs 5) rfl (fun S hS => (fD_bd (comb_mem.1 hS).2 (comb_ok h.2.2 hS)).1)).2 _ m
theorem implAce5 (A : Option Addr) (c : Nat) (xs : List Int) (w : World) (h : RowI w A xs) (h5 : szP xs 5 8) :
    Calls Try.prog 54 #[.slice A 5 c] w fun e w' => (∃ x : Int, e = .returned (.tuple #[.int .i64 x, .int .i64 0]) ∧ baV xs ≤ x) ∧ Below w.heap.size w w' := by
  have e := (take_five h5).1
  have k := implAce_any A c (xs.take 5) w (h.first 5) (by omega)
  rw [e] at k
  refine k.mono ?_
  rintro e w' ⟨rfl, hb⟩
  exact ⟨⟨_, by rw [(ace_five h5).2], (ace_five h5).1⟩, hb⟩
theorem implDeuce5 (A : Option Addr) (c : Nat) (xs : List Int) (w : World) (h : RowI w A xs) (h5 : szP xs 5 8) :
    Calls Try.prog 56 #[.slice A 5 c] w fun e w' => (∃ x : Int, e = .returned (.tuple #[.int .i64 x, .int .i64 0]) ∧ bdV xs ≤ x) ∧ Below w.heap.size w w' := by
  have e := (take_five h5).1
  have k := implDeuce_any A c (xs.take 5) w (h.first 5) (by omega)
  rw [e] at k
  refine k.mono ?_
  rintro e w' ⟨rfl, hb⟩
  exact ⟨⟨_, by rw [(deuce_five h5).2], (deuce_five h5).1⟩, hb⟩

set_option maxHeartbeats 2000000 in
set_option maxRecDepth 8000 in
theorem FnBestLows_core (A : Option Addr) (n c : Nat) (bs : Nat → Int) (w : World) (h : RowU w A n bs) :
    Calls Try.prog 13 #[.slice A n c] w fun e w' => e = .returned (.bool true) ∧ Below w.heap.size w w' := by
  have HR := Lib.hid h
  clear h
  by_cases hn : 4096 < n
  · have D : Hid (decide (4096 < n) = true) := decide_eq_true hn
    go_enter Try.func13, Try.ntmps13
    go_wp2_with fail
    refine (big_any A n c _).mono ?_
    rintro e w1 ⟨rfl, rfl⟩
    rw [D.out]
    go_wp2
    go_ret
    exact ⟨rfl, Below.refl _ _⟩
  have D : Hid (decide (4096 < n) = false) := decide_eq_false hn
  have hn2 : n ≤ 1048576 := by omega
  clear hn
  go_enter Try.func13, Try.ntmps13
  go_wp2_with fail
  refine (big_any A n c _).mono ?_
  rintro e w1 ⟨rfl, rfl⟩
  rw [D.out]
  go_wp2_with fail
  refine (drawBestAce_any A n c bs _ HR.out hn2).mono ?_
  rintro e w2 ⟨ys, A2, c2, rfl, hr, hl, hc, hm, hb⟩
  have Y2 := Lib.hid hr
  have B2 := Lib.hid hb
  have LC := Lib.hid (And.intro hc hm)
  have hl2 : ys.length ≤ 1048576 := by omega
  clear hr hb hc hm hl
  go_wp2_with fail
  refine (implBestAce_any A2 c2 ys _ Y2.out hl2).mono ?_
  rintro e w3 ⟨rfl, hb⟩
  have C3 := Lib.hid hb
  clear hb
  go_wp2_with fail
  refine (specBestAce_any A2 c2 ys _ (Y2.out.below C3.out) LC.out.1 LC.out.2 hl2).mono ?_
  rintro e w4 ⟨rfl, hb⟩
  have C4 := Lib.hid (C3.out.trans (hb.mono C3.out.size))
  have Y4 := Lib.hid (Y2.out.below C4.out)
  have B4 := Lib.hid (B2.out.trans (C4.out.mono B2.out.size))
  clear hb
  go_wp2_with fail
  refine (drawBestDeuce_any A n c bs _ (HR.out.below B4.out) hn2).mono ?_
  rintro e w5 ⟨zs, A5, c5, rfl, hr, hl, hc, hm, hb⟩
  have Z5 := Lib.hid hr
  have B5 := Lib.hid (B4.out.trans (hb.mono B4.out.size))
  have Y5 := Lib.hid (Y4.out.below hb)
  have LD := Lib.hid (And.intro hc hm)
  have hl5 : zs.length ≤ 1048576 := by omega
  clear hr hb hc hm hl
  go_wp2_with fail
  refine (implBestDeuce_any A5 c5 zs _ Z5.out hl5).mono ?_
  rintro e w6 ⟨rfl, hb⟩
  have C6 := Lib.hid hb
  clear hb
  go_wp2_with fail
  refine (specBestDeuce_any A5 c5 zs _ (Z5.out.below C6.out) LD.out.1 LD.out.2 hl5).mono ?_
  rintro e w7 ⟨rfl, hb⟩
  have C7 := Lib.hid (C6.out.trans (hb.mono C6.out.size))
  have Z7 := Lib.hid (Z5.out.below C7.out)
  have Y7 := Lib.hid (Y5.out.below C7.out)
  have B7 := Lib.hid (B5.out.trans (C7.out.mono B5.out.size))
  clear hb
  obtain ⟨V, hV⟩ : ∃ V, V = baV ys := ⟨_, rfl⟩
  obtain ⟨C, hC⟩ : ∃ C, C = bhC ys := ⟨_, rfl⟩
  obtain ⟨K, hK⟩ : ∃ K, K = bdV zs := ⟨_, rfl⟩
  obtain ⟨E, hE⟩ : ∃ E, E = bhC zs := ⟨_, rfl⟩
  have NM := Lib.hid (And.intro hV (And.intro hC (And.intro hK hE)))
  rw [← hV, ← hC, ← hK, ← hE]
  clear hV hC hK hE Y2 B2 C3 C4 Y4 B4 Z5 Y5 B5 C6 C7
  obtain ⟨lz, hlz⟩ : ∃ lz, lz = zs.length := ⟨_, rfl⟩
  obtain ⟨ly, hly⟩ : ∃ ly, ly = ys.length := ⟨_, rfl⟩
  rw [← hlz, ← hly]
  rw [← hlz] at hl5
  rw [← hly] at hl2
  have LN := Lib.hid (And.intro hlz hly)
  clear hlz hly
  by_cases hz : szP zs 5 8
  · have E0 : E = 0 := by rw [NM.out.2.2.2]; exact (bd_yes hz).2
    subst E0
    have z5 : 5 ≤ lz := by rw [LN.out.1]; exact hz.1
    have cd : 5 ≤ c5 := by have := LD.out.1; rw [← LN.out.1] at this; omega
    obtain ⟨b5, off5, rfl, _, _⟩ := Z7.out.at_ (k := 0) (by rw [← LN.out.1]; omega)
    have HZ := Lib.hid hz
    clear hz
    go_wp2_with fail
    refine (implDeuce5 _ c5 zs _ Z7.out HZ.out).mono ?_
    rintro e w8 ⟨⟨x, rfl, hx⟩, hb⟩
    rw [← NM.out.2.2.1] at hx
    have B8 := Lib.hid (B7.out.trans (hb.mono B7.out.size))
    have Y8 := Lib.hid (Y7.out.below hb)
    have bd : decide (x < K) = false := decide_eq_false (by omega)
    clear hb
    by_cases hy : szP ys 5 8
    · have C0 : C = 0 := by rw [NM.out.2.1]; exact (ba_yes hy).2
      subst C0
      have y5 : 5 ≤ ly := by rw [LN.out.2]; exact hy.1
      have cc : 5 ≤ c2 := by have := LC.out.1; rw [← LN.out.2] at this; omega
      obtain ⟨b, off, rfl, _, _⟩ := Y8.out.at_ (k := 0) (by rw [← LN.out.2]; omega)
      have HY := Lib.hid hy
      clear hy
      go_wp2_with fail
      refine (implAce5 _ c2 ys _ Y8.out HY.out).mono ?_
      rintro e w9 ⟨⟨x, rfl, hx⟩, hb⟩
      rw [← NM.out.1] at hx
      have B9 := Lib.hid (B8.out.trans (hb.mono B8.out.size))
      have bx : decide (V ≤ x) = true := decide_eq_true hx
      clear hb
      go_wp2
      go_ret
      exact ⟨rfl, B9.out⟩
    · have C1 : C = 1 := by rw [NM.out.2.1]; exact (ba_no hy).2
      subst C1
      clear hy
      go_wp2
      go_ret
      exact ⟨rfl, B8.out⟩
  · have E1 : E = 1 := by rw [NM.out.2.2.2]; exact (bd_no hz).2
    subst E1
    clear hz
    by_cases hy : szP ys 5 8
    · have C0 : C = 0 := by rw [NM.out.2.1]; exact (ba_yes hy).2
      subst C0
      have y5 : 5 ≤ ly := by rw [LN.out.2]; exact hy.1
      have cc : 5 ≤ c2 := by have := LC.out.1; rw [← LN.out.2] at this; omega
      obtain ⟨b, off, rfl, _, _⟩ := Y7.out.at_ (k := 0) (by rw [← LN.out.2]; omega)
      have HY := Lib.hid hy
      clear hy
      go_wp2_with fail
      refine (implAce5 _ c2 ys _ Y7.out HY.out).mono ?_
      rintro e w9 ⟨⟨x, rfl, hx⟩, hb⟩
      rw [← NM.out.1] at hx
      have B9 := Lib.hid (B7.out.trans (hb.mono B7.out.size))
      have bx : decide (V ≤ x) = true := decide_eq_true hx
      clear hb
      go_wp2
      go_ret
      exact ⟨rfl, B9.out⟩
    · have C1 : C = 1 := by rw [NM.out.2.1]; exact (ba_no hy).2
      subst C1
      clear hy
      go_wp2
      go_ret
      exact ⟨rfl, B7.out⟩

theorem FnBestLows_walk (a : Option Addr) (len cap : Nat) (zs : List Int) {w : World} (h : IsRow .u8 w a len cap zs) :
    Calls Try.prog 13 #[.slice a len cap] w fun e w' => e = .returned (.bool true) ∧ Below w.heap.size w w' := by
  obtain ⟨bs, hr⟩ := h.rowU
  exact FnBestLows_core a len cap bs w hr
end Go.Proofs.Ytbhlghadjcbilaa
