/-
  The walk of the law FnBestHands.
-/
import Derived.Test.YtbhlghadjcbilaaBestFive
import Derived.Test.YtbhlghadjcbilaaHands
import Derived.Test.YtbhlghadjcbilaaLikeInts
namespace Go.Proofs.Ytbhlghadjcbilaa
open Go.RowKit

theorem take_some {xs : List Int} (h : szP xs 5 8) : (xs.take 5).length = 5 ∧ szP (xs.take 5) 5 8 ∧ bhV (xs.take 5) ≤ bhV xs := by
  have e : (xs.take 5).length = 5 := by rw [List.length_take]; have := h.1; omega
  have o : okC (xs.take 5) := okC_sub (List.take_sublist 5 xs) h.2.2
  have f : szP (xs.take 5) 5 8 := ⟨by omega, by omega, o⟩
  refine ⟨e, f, ?_⟩
  rw [(bh_yes h).1, (bh_yes f).1]
  exact Int.ofNat_le.2 (Vx_sub h.2.2 (List.take_sublist 5 xs) (by omega) h.2.1)
theorem best_of {xs : List Int} (h : szP xs 5 8) : (bf5 xs).length = 5 ∧ (∀ x ∈ bf5 xs, x ∈ xs) ∧ hvV (bf5 xs) = bhV xs ∧ hvC (bf5 xs) = 0 := by
  obtain ⟨_, hv, hs, h5⟩ := bf5_some h.2.2 h.1 h.2.1
  have o : okC (bf5 xs) := okC_sub hs h.2.2
  have f : fiveP (bf5 xs) := ⟨by omega, by omega, o⟩
  refine ⟨h5, fun x hx => hs.mem hx, ?_, (five_yes f).2.1⟩
  rw [(five_yes f).1, (bh_yes h).1, (vS_val o h5).1, hv]
theorem implHigh5 (A : Option Addr) (c : Nat) (xs : List Int) (w : World) (h : RowI w A (bf5 xs)) (h5 : szP xs 5 8) :
    Calls Try.prog 44 #[.slice A 5 c] w fun e w' => e = .returned (.tuple #[.int .i64 (bhV xs), .int .i64 0]) ∧ Below w.heap.size w w' := by
  obtain ⟨e, _, hv, hc⟩ := best_of h5
  have k := implHigh_any A c (bf5 xs) w h (by omega)
  rwa [e, hv, hc] at k
theorem implBest5 (A : Option Addr) (c : Nat) (xs : List Int) (w : World) (h : RowI w A xs) (h5 : szP xs 5 8) :
    Calls Try.prog 31 #[.slice A 5 c] w fun e w' => (∃ x : Int, e = .returned (.tuple #[.int .i64 x, .int .i64 0]) ∧ x ≤ bhV xs) ∧ Below w.heap.size w w' := by
  obtain ⟨e, f, hv⟩ := take_some h5
  have k := implBestHigh_any A c (xs.take 5) w (h.first 5) (by omega)
  rw [e, (bh_yes f).2.1] at k
  refine k.mono ?_
  rintro e w' ⟨rfl, hb⟩
  exact ⟨⟨_, rfl, hv⟩, hb⟩

set_option maxHeartbeats 4000000 in
set_option maxRecDepth 8000 in
theorem FnBestHands_core (A : Option Addr) (n c : Nat) (bs : Nat → Int) (w : World) (h : RowU w A n bs) :
    Calls Try.prog 12 #[.slice A n c] w fun e w' => e = .returned (.bool true) ∧ Below w.heap.size w w' := by
  have HR := Lib.hid h
  clear h
  by_cases hn : 4096 < n
  · have D : Hid (decide (4096 < n) = true) := decide_eq_true hn
    go_enter Try.func12, Try.ntmps12
    go_wp2_with fail
    refine (big_any A n c _).mono ?_
    rintro e w1 ⟨rfl, rfl⟩
    rw [D.out]
    go_wp2
    go_ret
    exact ⟨rfl, Below.refl _ _⟩
  have D : Hid (decide (4096 < n) = false) := decide_eq_false hn
  have hn2 : n ≤ 1048576 := by omega
  clear hn
  go_enter Try.func12, Try.ntmps12
  go_wp2_with fail
  refine (big_any A n c _).mono ?_
  rintro e w1 ⟨rfl, rfl⟩
  rw [D.out]
  go_wp2_with fail
  refine (drawBestFive_any A n c bs _ HR.out hn2).mono ?_
  rintro e w2 ⟨ys, A2, c2, rfl, hr, hl, hc, hm, hb⟩
  have Y2 := Lib.hid hr
  have B2 := Lib.hid hb
  have LC := Lib.hid (And.intro hc hm)
  have hl2 : ys.length ≤ 1048576 := by omega
  clear hr hb hc hm hl D
  go_wp2_with fail
  refine (implBestFive_any A2 c2 ys _ Y2.out hl2).mono ?_
  rintro e w3 ⟨A3, c3, rfl, ho, hb⟩
  have F3 := Lib.hid ho.row
  have Y3 := Lib.hid (Y2.out.below hb)
  have B3 := Lib.hid (B2.out.trans (hb.mono B2.out.size))
  clear ho hb Y2 B2
  go_wp2_with fail
  refine (specBestFive_any A2 c2 ys _ Y3.out LC.out.1 LC.out.2 hl2).mono ?_
  rintro e w4 ⟨A4, c4, rfl, ho, hb⟩
  have G4 := Lib.hid ho.row
  have F4 := Lib.hid (F3.out.below hb)
  have Y4 := Lib.hid (Y3.out.below hb)
  have B4 := Lib.hid (B3.out.trans (hb.mono B3.out.size))
  clear ho hb F3 Y3 B3
  go_wp2_with fail
  refine (implBestHigh_any A2 c2 ys _ Y4.out hl2).mono ?_
  rintro e w5 ⟨rfl, hb⟩
  have C5 := Lib.hid hb
  clear hb
  go_wp2_with fail
  refine (specBestHigh_any A2 c2 ys _ (Y4.out.below C5.out) LC.out.1 LC.out.2 hl2).mono ?_
  rintro e w6 ⟨rfl, hb⟩
  have C6 := Lib.hid (C5.out.trans (hb.mono C5.out.size))
  have B6 := Lib.hid (B4.out.trans (C6.out.mono B4.out.size))
  clear hb C5
  go_wp2_with fail
  refine (drawCompare_any A n c bs _ (HR.out.below B6.out) hn2).mono ?_
  rintro e w7 ⟨ps, A7, c7, qs, A8, c8, rfl, ⟨hp, pl, pc, pm⟩, ⟨hq, ql, qc, qm⟩, hb⟩
  have P7 := Lib.hid hp
  have Q7 := Lib.hid hq
  have PC := Lib.hid (And.intro pc pm)
  have QC := Lib.hid (And.intro qc qm)
  have hpl : ps.length ≤ 1048576 := by omega
  have hql : qs.length ≤ 1048576 := by omega
  have C7 := Lib.hid (C6.out.trans (hb.mono C6.out.size))
  have B7 := Lib.hid (B6.out.trans (hb.mono B6.out.size))
  clear hp hq pl pc pm ql qc qm hb C6 B6 HR
  go_wp2_with fail
  refine (implCompare_any A7 A8 c7 c8 ps qs _ P7.out Q7.out hpl hql).mono ?_
  rintro e w8 ⟨rfl, hb⟩
  have P8 := Lib.hid (P7.out.below hb)
  have Q8 := Lib.hid (Q7.out.below hb)
  have C8 := Lib.hid (C7.out.trans (hb.mono C7.out.size))
  have B8 := Lib.hid (B7.out.trans (hb.mono B7.out.size))
  clear hb P7 Q7 C7 B7
  go_wp2_with fail
  refine (specCompare_any A7 A8 c7 c8 ps qs _ P8.out Q8.out PC.out QC.out hpl hql).mono ?_
  rintro e w9 ⟨rfl, hb⟩
  have C9 := Lib.hid (C8.out.trans (hb.mono C8.out.size))
  have B9 := Lib.hid (B8.out.trans (hb.mono B8.out.size))
  have F9 := Lib.hid (F4.out.below C9.out)
  have G9 := Lib.hid (G4.out.below C9.out)
  have Y9 := Lib.hid (Y4.out.below C9.out)
  clear hb P8 Q8 PC QC C8 B8 F4 G4 Y4
  obtain ⟨V, hV⟩ : ∃ V, V = bhV ys := ⟨_, rfl⟩
  obtain ⟨C, hC⟩ : ∃ C, C = bhC ys := ⟨_, rfl⟩
  obtain ⟨K, hK⟩ : ∃ K, K = cpV ps qs := ⟨_, rfl⟩
  obtain ⟨E, hE⟩ : ∃ E, E = cpC ps qs := ⟨_, rfl⟩
  obtain ⟨L, hL⟩ : ∃ L, L = bfL ys := ⟨_, rfl⟩
  obtain ⟨ly, hly⟩ : ∃ ly, ly = ys.length := ⟨_, rfl⟩
  obtain ⟨lf, hlf⟩ : ∃ lf, lf = (bfL ys).length := ⟨_, rfl⟩
  rw [← hV, ← hC, ← hK, ← hE, ← hly, ← hlf]
  rw [← hL] at F9 G9
  have NM := Lib.hid (And.intro hV (And.intro hC (And.intro hL (And.intro hly hlf))))
  rw [← hly] at hl2
  have FL : Hid (lf = L.length ∧ lf ≤ 5) := by
    refine ⟨by rw [hlf, hL], ?_⟩
    rw [hlf]
    by_cases hy : szP ys 5 8
    · rw [(bh_yes hy).2.2, (best_of hy).1]; omega
    · rw [(bh_no hy).2.2]; simp
  clear hV hC hK hE hL hly hlf hpl hql
  go_wp2_with fail
  refine (likeInts_same A3 A4 c3 c4 _ _ L L _ FL.out.1 FL.out.1 rfl F9.out G9.out (by have := FL.out; omega)).mono ?_
  rintro e w10 ⟨rfl, hb⟩
  have F10 := Lib.hid (F9.out.below hb)
  have Y10 := Lib.hid (Y9.out.below hb)
  have B10 := Lib.hid (B9.out.trans (hb.mono B9.out.size))
  clear hb F9 G9 Y9 B9 C9
  by_cases hy : szP ys 5 8
  · have C0 : C = 0 := by rw [NM.out.2.1]; exact (bh_yes hy).2.1
    subst C0
    have LB : L = bf5 ys := by rw [NM.out.2.2.1]; exact (bh_yes hy).2.2
    subst LB
    have h5 : lf = 5 := by rw [FL.out.1]; exact (best_of hy).1
    rw [h5]
    clear h5
    have y5 : 5 ≤ ly := by rw [NM.out.2.2.2.1]; exact hy.1
    have cc : 5 ≤ c2 := by have := LC.out.1; rw [← NM.out.2.2.2.1] at this; omega
    obtain ⟨b, off, rfl, _, _⟩ := Y10.out.at_ (k := 0) (by rw [← NM.out.2.2.2.1]; omega)
    have HY := Lib.hid hy
    clear hy
    go_wp2_with fail
    refine (implHigh5 A3 c3 ys _ F10.out HY.out).mono ?_
    rintro e w11 ⟨rfl, hb⟩
    rw [← NM.out.1]
    have F11 := Lib.hid (F10.out.below hb)
    have Y11 := Lib.hid (Y10.out.below hb)
    have B11 := Lib.hid (B10.out.trans (hb.mono B10.out.size))
    clear hb F10 Y10 B10
    go_wp2_with fail
    refine (implBest5 _ c2 ys _ Y11.out HY.out).mono ?_
    rintro e w12 ⟨⟨x, rfl, hx⟩, hb⟩
    rw [← NM.out.1] at hx
    have F12 := Lib.hid (F11.out.below hb)
    have Y12 := Lib.hid (Y11.out.below hb)
    have B12 := Lib.hid (B11.out.trans (hb.mono B11.out.size))
    have XV := Lib.hid hx
    have BF := Lib.hid (best_of HY.out)
    clear hb F11 Y11 B11 hx
    go_wp2
    go_loopw [22] (fun i wr => ∃ k : Nat, k ≤ 5 ∧ i = .int .i64 k ∧ ∃ m, wr = w12.drewN m) (fun i _ => 5 - (intOf i).toNat)
    case atStart => exact ⟨0, Nat.zero_le _, rfl, 0, rfl⟩
    case round =>
      obtain ⟨k, hk, rfl, m, rfl⟩ := hrel
      by_cases hlt : k < 5
      · have hkx : k < (bf5 ys).length := by rw [BF.out.1]; exact hlt
        obtain ⟨b', off', rfl, hb', hc'⟩ := F12.out.at_ hkx
        obtain ⟨x, hx⟩ : ∃ x, x = (bf5 ys).getD k 0 := ⟨_, rfl⟩
        have XM : Hid (x ∈ ys) := by
          show x ∈ ys
          rw [hx, List.getD_eq_getElem?_getD, List.getElem?_eq_getElem hkx]
          exact BF.out.2.1 _ (List.getElem_mem hkx)
        rw [← hx] at hc'
        clear hx hb' hkx
        have i0 : (0 : Int) ≤ (k : Int) := by omega
        have i1 : (k : Int) < (5 : Int) := by omega
        go_wp2_with fail
        refine (hasInt_any _ c2 ys _ x _ NM.out.2.2.2.1 (Y12.out.drewN _) XM.out (by rw [← NM.out.2.2.2.1]; exact hl2)).mono ?_
        rintro e w13 ⟨rfl, m', rfl⟩
        go_wp2
        go_roundw
        case rel => exact ⟨k + 1, by omega, by go_num, _, rfl⟩
        case measure => simp [intOf]; omega
      · have hkn : k = 5 := by omega
        subst hkn
        clear hlt
        have bx : decide (x ≤ V) = true := decide_eq_true XV.out
        go_wp2
        go_ret
        exact ⟨rfl, below_drewN B12.out _⟩
  · have C1 : C = 1 := by rw [NM.out.2.1]; exact (bh_no hy).2.1
    subst C1
    clear hy
    go_wp2
    go_ret
    exact ⟨rfl, B10.out⟩

theorem FnBestHands_walk (a : Option Addr) (len cap : Nat) (zs : List Int) {w : World} (h : IsRow .u8 w a len cap zs) :
    Calls Try.prog 12 #[.slice a len cap] w fun e w' => e = .returned (.bool true) ∧ Below w.heap.size w w' := by
  obtain ⟨bs, hr⟩ := h.rowU
  exact FnBestHands_core a len cap bs w hr
end Go.Proofs.Ytbhlghadjcbilaa
