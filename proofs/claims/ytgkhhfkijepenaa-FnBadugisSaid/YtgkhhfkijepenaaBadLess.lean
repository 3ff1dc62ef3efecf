/-
  Comparing lists of cards: spec.l05Less, spec.l01Same, slices.Compare, impl.compareBadugi.
-/
import Derived.Test.YtgkhhfkijepenaaCmp
import Derived.Test.YtgkhhfkijepenaaLowSpec
import Derived.Test.YtgkhhfkijepenaaMathBadugi
namespace Go.Proofs.Ytgkhhfkijepenaa
open Go.RowKit

/-! Plain laws on the first k places. -/
theorem lex_first : ∀ {xs ys : List Int} {k : Nat}, k < xs.length → k < ys.length → xs.take k = ys.take k → xs.getD k 0 ≠ ys.getD k 0 → lexI xs ys = decide (xs.getD k 0 < ys.getD k 0)
  | [], _, k, h, _, _, _ => by simp at h
  | _ :: _, [], k, _, h, _, _ => by simp at h
  | x :: a, y :: b, 0, _, _, _, hne => by
    have : ¬ x = y := by simpa using hne
    simp [lexI, this]
  | x :: a, y :: b, k + 1, h1, h2, ht, hne => by
    have e : x = y ∧ a.take k = b.take k := by simpa using ht
    obtain ⟨rfl, ht'⟩ := e
    have := lex_first (xs := a) (ys := b) (k := k) (by simpa using h1) (by simpa using h2) ht' (by simpa using hne)
    simpa [lexI] using this
theorem lex_all {xs ys : List Int} (h : xs = ys) : lexI xs ys = false := by rw [h]; exact lexI_self ys
/-- The sign of an order. -/
def sgB (a b : Bool) : Int := if a then -1 else if b then 1 else 0
theorem sg_lt {a b : Bool} : decide (sgB a b < 0) = a := by cases a <;> cases b <;> rfl
theorem sg_first {xs ys : List Int} {k : Nat} (h1 : k < xs.length) (h2 : k < ys.length) (ht : xs.take k = ys.take k) (hne : xs.getD k 0 ≠ ys.getD k 0) : sgB (lexI xs ys) (lexI ys xs) = cmI (xs.getD k 0) (ys.getD k 0) := by
  rw [lex_first h1 h2 ht hne, lex_first h2 h1 ht.symm (fun e => hne e.symm)]
  unfold sgB cmI
  simp only [decide_eq_true_eq]
theorem sg_same {xs ys : List Int} (h : xs = ys) : sgB (lexI xs ys) (lexI ys xs) = 0 := by rw [h, lexI_self]; rfl
theorem cm_ne {x y : Int} (h : x ≠ y) : cmI x y ≠ 0 := by unfold cmI; (repeat' split) <;> omega
theorem cm_eq {x y : Int} (h : x = y) : cmI x y = 0 := by unfold cmI; rw [if_neg (by omega), if_neg (by omega)]
theorem map_low_take {xs ys : List Int} {k : Nat} (h1 : k < xs.length) (h2 : k < ys.length) (h : (xs.map lowI).take k = (ys.map lowI).take k) (e : lowI (xs.getD k 0) = lowI (ys.getD k 0)) : (xs.map lowI).take (k + 1) = (ys.map lowI).take (k + 1) :=
  take_succ_eq (by simpa using h1) (by simpa using h2) h (by
    simp only [List.getD_eq_getElem?_getD, List.getElem?_map, List.getElem?_eq_getElem h1, List.getElem?_eq_getElem h2, Option.map_some, Option.getD_some] at e ⊢
    exact e)
theorem less_same {xs ys : List Int} (h : xs.map lowI = ys.map lowI) : sgB (lessB xs ys) (lessB ys xs) = sgB (lexI xs ys) (lexI ys xs) := by unfold lessB; rw [if_pos h, if_pos h.symm]
theorem less_first {xs ys : List Int} {k : Nat} (h1 : k < xs.length) (h2 : k < ys.length) (ht : (xs.map lowI).take k = (ys.map lowI).take k) (hne : lowI (xs.getD k 0) ≠ lowI (ys.getD k 0)) : sgB (lessB xs ys) (lessB ys xs) = cmI (lowI (xs.getD k 0)) (lowI (ys.getD k 0)) := by
  have e1 : (xs.map lowI).getD k 0 = lowI (xs.getD k 0) := by simp [List.getD_eq_getElem?_getD, h1]
  have e2 : (ys.map lowI).getD k 0 = lowI (ys.getD k 0) := by simp [List.getD_eq_getElem?_getD, h2]
  have hm : xs.map lowI ≠ ys.map lowI := fun e => hne (by rw [← e1, ← e2, e])
  unfold lessB
  rw [if_neg hm, if_neg (fun e => hm e.symm), ← e1, ← e2]
  exact sg_first (by simpa using h1) (by simpa using h2) ht (by rw [e1, e2]; exact hne)

set_option maxHeartbeats 1000000 in
theorem l05Less_any (A B : Option Addr) (c d : Nat) (xs ys : List Int) (n : Nat) (w : World) (hx : n = xs.length) (hy : n = ys.length) (hA : RowI w A xs) (hB : RowI w B ys) (hl : n ≤ 1048576) :
    Calls Try.prog 53 #[.slice A n c, .slice B n d] w fun e w' => e = .returned (.bool (lexI xs ys)) ∧ ∃ q, w' = w.drewN q := by
  have HX := Lib.hid hx
  have HY := Lib.hid hy
  have HA := Lib.hid hA
  have HB := Lib.hid hB
  clear hx hy hA hB
  go_enter Try.func53, Try.ntmps53
  go_wp2
  go_loopw [5] (fun i wr => ∃ k : Nat, k ≤ n ∧ i = .int .i64 k ∧ Hid (xs.take k = ys.take k) ∧ ∃ m, wr = w.drewN m) (fun i _ => n - (intOf i).toNat)
  case atStart => exact ⟨0, Nat.zero_le _, rfl, by show _ = _; simp, 0, rfl⟩
  case round =>
    obtain ⟨k, hk, rfl, HT, m, rfl⟩ := hrel
    by_cases hlt : k < n
    · have hkx : k < xs.length := by rw [← HX.out]; exact hlt
      have hky : k < ys.length := by rw [← HY.out]; exact hlt
      obtain ⟨b, off, rfl, hb, hc⟩ := HA.out.at_ hkx
      obtain ⟨b', off', rfl, hb', hc'⟩ := HB.out.at_ hky
      obtain ⟨x, hx⟩ : ∃ x, x = xs.getD k 0 := ⟨_, rfl⟩
      obtain ⟨y, hy⟩ : ∃ y, y = ys.getD k 0 := ⟨_, rfl⟩
      rw [← hx] at hc
      rw [← hy] at hc'
      have XX := Lib.hid hx
      have YY := Lib.hid hy
      have HKX := Lib.hid hkx
      have HKY := Lib.hid hky
      clear hx hy hb hb' hkx hky
      have i0 : (0 : Int) ≤ (k : Int) := by omega
      have i1 : (k : Int) < (n : Int) := by omega
      by_cases hxy : x = y
      · subst hxy
        go_wp2
        go_quiet (fail)
        go_wp2
        go_roundw
        case rel => exact ⟨k + 1, by omega, by go_num, take_succ_eq HKX.out HKY.out HT.out (XX.out.symm.trans YY.out), _, rfl⟩
        case measure => simp [intOf]; omega
      · have hb1 : (x != y) = true := by simpa using hxy
        have R : Hid (lexI xs ys = decide (x < y)) := by show _ = _; rw [lex_first HKX.out HKY.out HT.out (by rw [← XX.out, ← YY.out]; exact hxy), XX.out, YY.out]
        clear hxy
        go_wp2
        go_quiet (fail)
        go_wp2
        go_quiet (fail)
        go_wp2
        go_ret
        exact ⟨ret_bool R.out.symm, _, by rw [World.drewN_drewN, World.drewN_drewN]⟩
    · have hkn : k = n := by omega
      subst hkn
      have R : Hid (lexI xs ys = false) := lex_all (eq_of_take (by rw [← HX.out, ← HY.out]) (by rw [← HX.out]; exact HT.out))
      clear hlt
      go_wp2
      go_ret
      exact ⟨ret_bool R.out.symm, m, rfl⟩

set_option maxHeartbeats 1000000 in
theorem l01Same_any (A B : Option Addr) (c d : Nat) (xs ys : List Int) (n : Nat) (w : World) (hx : n = xs.length) (hy : n = ys.length) (hA : RowI w A xs) (hB : RowI w B ys) (hl : n ≤ 1048576) :
    Calls Try.prog 54 #[.slice A n c, .slice B n d] w fun e w' => e = .returned (.bool (eqL xs ys)) ∧ ∃ q, w' = w.drewN q := by
  have HX := Lib.hid hx
  have HY := Lib.hid hy
  have HA := Lib.hid hA
  have HB := Lib.hid hB
  clear hx hy hA hB
  go_enter Try.func54, Try.ntmps54
  go_wp2
  go_loopw [5] (fun i wr => ∃ k : Nat, k ≤ n ∧ i = .int .i64 k ∧ Hid (xs.take k = ys.take k) ∧ ∃ m, wr = w.drewN m) (fun i _ => n - (intOf i).toNat)
  case atStart => exact ⟨0, Nat.zero_le _, rfl, by show _ = _; simp, 0, rfl⟩
  case round =>
    obtain ⟨k, hk, rfl, HT, m, rfl⟩ := hrel
    by_cases hlt : k < n
    · have hkx : k < xs.length := by rw [← HX.out]; exact hlt
      have hky : k < ys.length := by rw [← HY.out]; exact hlt
      obtain ⟨b, off, rfl, hb, hc⟩ := HA.out.at_ hkx
      obtain ⟨b', off', rfl, hb', hc'⟩ := HB.out.at_ hky
      obtain ⟨x, hx⟩ : ∃ x, x = xs.getD k 0 := ⟨_, rfl⟩
      obtain ⟨y, hy⟩ : ∃ y, y = ys.getD k 0 := ⟨_, rfl⟩
      rw [← hx] at hc
      rw [← hy] at hc'
      have XX := Lib.hid hx
      have YY := Lib.hid hy
      have HKX := Lib.hid hkx
      have HKY := Lib.hid hky
      clear hx hy hb hb' hkx hky
      have i0 : (0 : Int) ≤ (k : Int) := by omega
      have i1 : (k : Int) < (n : Int) := by omega
      by_cases hxy : x = y
      · subst hxy
        go_wp2
        go_quiet (fail)
        go_wp2
        go_roundw
        case rel => exact ⟨k + 1, by omega, by go_num, take_succ_eq HKX.out HKY.out HT.out (XX.out.symm.trans YY.out), _, rfl⟩
        case measure => simp [intOf]; omega
      · have hb1 : (x != y) = true := by simpa using hxy
        have R : Hid (eqL xs ys = false) := eqL_no (fun e => hxy (by rw [XX.out, YY.out, e]))
        clear hxy
        go_wp2
        go_quiet (fail)
        go_wp2
        go_ret
        exact ⟨ret_bool R.out.symm, _, World.drewN_drewN _ _ _⟩
    · have hkn : k = n := by omega
      subst hkn
      have R : Hid (eqL xs ys = true) := by
        show _ = _
        rw [eq_of_take (xs := xs) (ys := ys) (by rw [← HX.out, ← HY.out]) (by rw [← HX.out]; exact HT.out), eqL_self]
      clear hlt
      go_wp2
      go_ret
      exact ⟨ret_bool R.out.symm, m, rfl⟩

set_option maxHeartbeats 1000000 in
theorem sliceCompare_any (A B : Option Addr) (c d : Nat) (xs ys : List Int) (n : Nat) (w : World) (hx : n = xs.length) (hy : n = ys.length) (hA : RowI w A xs) (hB : RowI w B ys) (hl : n ≤ 1048576) :
    Calls Try.prog 61 #[.slice A n c, .slice B n d] w fun e w' => e = .returned (.int .i64 (sgB (lexI xs ys) (lexI ys xs))) ∧ w = w' := by
  have HX := Lib.hid hx
  have HY := Lib.hid hy
  have HA := Lib.hid hA
  have HB := Lib.hid hB
  clear hx hy hA hB
  go_enter Try.func61, Try.ntmps61
  go_wp2
  go_loop [11] (fun i => ∃ k : Nat, k ≤ n ∧ i = .int .i64 k ∧ Hid (xs.take k = ys.take k)) (fun i => n - (intOf i).toNat)
  case atStart => exact ⟨0, Nat.zero_le _, rfl, by show _ = _; simp⟩
  case round =>
    obtain ⟨k, hk, rfl, HT⟩ := hrel
    by_cases hlt : k < n
    · have hkx : k < xs.length := by rw [← HX.out]; exact hlt
      have hky : k < ys.length := by rw [← HY.out]; exact hlt
      obtain ⟨b, off, rfl, hb, hc⟩ := HA.out.at_ hkx
      obtain ⟨b', off', rfl, hb', hc'⟩ := HB.out.at_ hky
      obtain ⟨x, hx⟩ : ∃ x, x = xs.getD k 0 := ⟨_, rfl⟩
      obtain ⟨y, hy⟩ : ∃ y, y = ys.getD k 0 := ⟨_, rfl⟩
      rw [← hx] at hc
      rw [← hy] at hc'
      have XX := Lib.hid hx
      have YY := Lib.hid hy
      have HKX := Lib.hid hkx
      have HKY := Lib.hid hky
      clear hx hy hb hb' hkx hky
      have i0 : (0 : Int) ≤ (k : Int) := by omega
      have i1 : (k : Int) < (n : Int) := by omega
      have i2 : decide ((n : Int) ≤ (k : Int)) = false := by simpa using i1
      obtain ⟨r, hr⟩ : ∃ r, r = cmI x y := ⟨_, rfl⟩
      have RR := Lib.hid hr
      by_cases hxy : x = y
      · have r0 : r = 0 := by rw [hr, cm_eq hxy]
        have XY := Lib.hid hxy
        clear hr hxy
        go_wp2_with fail
        refine (cmpc_any x y _).mono ?_
        rintro e w' ⟨rfl, rfl⟩
        rw [← RR.out, r0]
        clear r0
        go_wp2
        go_round
        case rel => exact ⟨k + 1, by omega, by go_num, take_succ_eq HKX.out HKY.out HT.out (by rw [← XX.out, ← YY.out]; exact XY.out)⟩
        case measure => simp [intOf]; omega
      · have r0 : r ≠ 0 := by rw [hr]; exact cm_ne hxy
        have r1 : (r != 0) = true := by simpa using r0
        have R : Hid (sgB (lexI xs ys) (lexI ys xs) = r) := by show _ = _; rw [sg_first HKX.out HKY.out HT.out (by rw [← XX.out, ← YY.out]; exact hxy), ← XX.out, ← YY.out, hr]
        clear hr hxy r0
        go_wp2_with fail
        refine (cmpc_any x y _).mono ?_
        rintro e w' ⟨rfl, rfl⟩
        rw [← RR.out]
        go_wp2
        go_ret
        exact ⟨ret_int R.out.symm, rfl⟩
    · have hkn : k = n := by omega
      subst hkn
      have R : Hid (sgB (lexI xs ys) (lexI ys xs) = 0) := sg_same (eq_of_take (by rw [← HX.out, ← HY.out]) (by rw [← HX.out]; exact HT.out))
      clear hlt
      go_wp2
      go_ret
      exact ⟨ret_int R.out.symm, rfl⟩

set_option maxHeartbeats 1000000 in
theorem compareBadugi_any (A B : Option Addr) (c d : Nat) (xs ys : List Int) (n : Nat) (w : World) (hx : n = xs.length) (hy : n = ys.length) (hA : RowI w A xs) (hB : RowI w B ys) (hl : n ≤ 1048576) (hox : ∀ x ∈ xs, 0 ≤ x ∧ x ≤ 51) (hoy : ∀ x ∈ ys, 0 ≤ x ∧ x ≤ 51) :
    Calls Try.prog 40 #[.slice A n c, .slice B n d] w fun e w' => e = .returned (.int .i64 (sgB (lessB xs ys) (lessB ys xs))) ∧ ∃ q, w' = w.drewN q := by
  have HX := Lib.hid hx
  have HY := Lib.hid hy
  have HA := Lib.hid hA
  have HB := Lib.hid hB
  have OX := Lib.hid hox
  have OY := Lib.hid hoy
  clear hx hy hA hB hox hoy
  go_enter Try.func40, Try.ntmps40
  go_wp2
  go_loopw [9] (fun i wr => ∃ k : Nat, k ≤ n ∧ i = .int .i64 k ∧ Hid ((xs.map lowI).take k = (ys.map lowI).take k) ∧ ∃ m, wr = w.drewN m) (fun i _ => n - (intOf i).toNat)
  case atStart => exact ⟨0, Nat.zero_le _, rfl, by show _ = _; simp, 0, rfl⟩
  case round =>
    obtain ⟨k, hk, rfl, HT, m, hm⟩ := hrel
    have HM := Lib.hid hm
    have HAr : Hid (RowI wr A xs) := by show RowI _ _ _; rw [hm]; exact HA.out.drewN m
    have HBr : Hid (RowI wr B ys) := by show RowI _ _ _; rw [hm]; exact HB.out.drewN m
    clear hm
    by_cases hlt : k < n
    · have hkx : k < xs.length := by rw [← HX.out]; exact hlt
      have hky : k < ys.length := by rw [← HY.out]; exact hlt
      obtain ⟨b, off, rfl, hb, hc⟩ := HAr.out.at_ hkx
      obtain ⟨b', off', rfl, hb', hc'⟩ := HBr.out.at_ hky
      obtain ⟨x, hx⟩ : ∃ x, x = xs.getD k 0 := ⟨_, rfl⟩
      obtain ⟨y, hy⟩ : ∃ y, y = ys.getD k 0 := ⟨_, rfl⟩
      have x01 : 0 ≤ x ∧ x ≤ 51 := OX.out x (by rw [hx, List.getD_eq_getElem?_getD, List.getElem?_eq_getElem hkx]; exact List.getElem_mem hkx)
      have y01 : 0 ≤ y ∧ y ≤ 51 := OY.out y (by rw [hy, List.getD_eq_getElem?_getD, List.getElem?_eq_getElem hky]; exact List.getElem_mem hky)
      rw [← hx] at hc
      rw [← hy] at hc'
      have XX := Lib.hid hx
      have YY := Lib.hid hy
      have HKX := Lib.hid hkx
      have HKY := Lib.hid hky
      have X01 := Lib.hid x01
      have Y01 := Lib.hid y01
      clear hx hy hb hb' hkx hky x01 y01
      have i0 : (0 : Int) ≤ (k : Int) := by omega
      have i1 : (k : Int) < (n : Int) := by omega
      obtain ⟨u, hu⟩ : ∃ u, u = lowI x := ⟨_, rfl⟩
      obtain ⟨v, hv⟩ : ∃ v, v = lowI y := ⟨_, rfl⟩
      obtain ⟨r, hr⟩ : ∃ r, r = cmI u v := ⟨_, rfl⟩
      have UU := Lib.hid hu
      have VV := Lib.hid hv
      have RR := Lib.hid hr
      have cx : ∀ q, Calls Try.prog 26 #[.int .i64 x] (wr.drewN q) fun e w' => e = .returned (.int .i64 u) ∧ wr.drewN q = w' := fun q => by rw [UU.out]; exact implRank_any2 x _ X01.out.1 X01.out.2
      have cy : ∀ q, Calls Try.prog 26 #[.int .i64 y] (wr.drewN q) fun e w' => e = .returned (.int .i64 v) ∧ wr.drewN q = w' := fun q => by rw [VV.out]; exact implRank_any2 y _ Y01.out.1 Y01.out.2
      have cc : ∀ q, Calls Try.prog 36 #[.int .i64 u, .int .i64 v] (wr.drewN q) fun e w' => e = .returned (.int .i64 r) ∧ wr.drewN q = w' := fun q => by rw [RR.out]; exact cmpc_any u v _
      have CX := Lib.hid cx
      have CY := Lib.hid cy
      have CC := Lib.hid cc
      clear cx cy cc
      by_cases huv : u = v
      · have r0 : r = 0 := by rw [hr, cm_eq huv]
        have E := Lib.hid huv
        clear hu hv hr huv
        go_wp2
        go_quiet (first
          | (go_at_call_of 26 x; exact quiet_left (CX.out _))
          | (go_at_call_of 26 y; exact quiet_left (CY.out _))
          | (go_at_call 36; exact quiet_left (CC.out _)))
        rw [r0]
        go_wp2
        go_roundw
        case rel => exact ⟨k + 1, by omega, by go_num, map_low_take HKX.out HKY.out HT.out (by rw [← XX.out, ← YY.out, ← UU.out, ← VV.out]; exact E.out), _, by rw [HM.out, World.drewN_drewN]⟩
        case measure => simp [intOf]; omega
      · have r0 : r ≠ 0 := by rw [hr]; exact cm_ne huv
        have r1 : (r != 0) = true := by simpa using r0
        have R : Hid (sgB (lessB xs ys) (lessB ys xs) = r) := by show _ = _; rw [less_first HKX.out HKY.out HT.out (by rw [← XX.out, ← YY.out, ← hu, ← hv]; exact huv), ← XX.out, ← YY.out, ← hu, ← hv, hr]
        clear hu hv hr huv r0
        go_wp2
        go_quiet (first
          | (go_at_call_of 26 x; exact quiet_left (CX.out _))
          | (go_at_call_of 26 y; exact quiet_left (CY.out _))
          | (go_at_call 36; exact quiet_left (CC.out _)))
        go_wp2
        go_ret
        exact ⟨ret_int R.out.symm, _, by rw [HM.out, World.drewN_drewN]⟩
    · have hkn : k = n := by omega
      subst hkn
      have R : Hid (sgB (lessB xs ys) (lessB ys xs) = sgB (lexI xs ys) (lexI ys xs)) := less_same (eq_of_take (by rw [List.length_map, List.length_map, ← HX.out, ← HY.out]) (by rw [List.length_map, ← HX.out]; exact HT.out))
      clear hlt
      go_wp2_with fail
      refine (sliceCompare_any A B c d xs ys k _ HX.out HY.out HAr.out HBr.out hl).mono ?_
      rintro e w' ⟨rfl, rfl⟩
      rw [← R.out]
      go_wp2
      go_ret
      exact ⟨rfl, m, HM.out⟩
end Go.Proofs.Ytgkhhfkijepenaa
