/-
  Whether no two cards have the same rank or the same suit: impl.isBadugi, spec.l05Apart.
-/
import Derived.Test.YtgkhhfkijepenaaInts
import Derived.Test.YtgkhhfkijepenaaMathBadugi
namespace Go.Proofs.Ytgkhhfkijepenaa
open Go.RowKit

theorem pair_snoc {xs : List Int} {k : Nat} (hk : k < xs.length) (h : (xs.take k).Pairwise apartR) (hr : ∀ i, i < k → apartR (xs.getD i 0) (xs.getD k 0)) : (xs.take (k + 1)).Pairwise apartR := by
  rw [take_snoc hk, List.pairwise_append]
  refine ⟨h, by simp, fun a ha b hb => ?_⟩
  have : b = xs.getD k 0 := by simpa using hb
  subst this
  obtain ⟨i, hi, e⟩ := List.getElem_of_mem ha
  rw [List.length_take] at hi
  have := hr i (by omega)
  rw [List.getElem_take] at e
  rw [List.getD_eq_getElem?_getD, List.getElem?_eq_getElem (by omega)] at this
  simp only [Option.getD_some] at this
  rwa [e] at this
theorem pair_bad {xs : List Int} {i k : Nat} (hi : i < k) (hk : k < xs.length) (h : ¬ apartR (xs.getD i 0) (xs.getD k 0)) : apB xs = false := by
  rw [Bool.eq_false_iff]
  intro ha
  have := List.pairwise_iff_getElem.1 (apB_iff.1 ha) i k (by omega) hk hi
  rw [List.getD_eq_getElem?_getD, List.getElem?_eq_getElem (by omega), List.getD_eq_getElem?_getD, List.getElem?_eq_getElem hk] at h
  exact h this

set_option maxHeartbeats 1000000 in
theorem isBadugi_any (A : Option Addr) (c : Nat) (xs : List Int) (n : Nat) (w : World) (hn : n = xs.length) (h : RowI w A xs) (hl : n ≤ 1048576) (hc : n ≤ c) (hcm : c ≤ maxLen) (ho : ∀ x ∈ xs, 0 ≤ x ∧ x ≤ 51) :
    Calls Try.prog 39 #[.slice A n c] w fun e w' => e = .returned (.bool (apB xs)) ∧ w = w' := by
  have HN := Lib.hid hn
  have HR := Lib.hid h
  have HO := Lib.hid ho
  have HCM := Lib.hid hcm
  clear hn h ho hcm
  go_enter Try.func39, Try.ntmps39
  go_wp2
  go_loop [9] (fun i => ∃ k : Nat, k ≤ n ∧ i = .int .i64 k ∧ Hid ((xs.take k).Pairwise apartR)) (fun i => n - (intOf i).toNat)
  case atStart => exact ⟨0, Nat.zero_le _, rfl, by show List.Pairwise _ _; simp⟩
  case round =>
    obtain ⟨k, hk, rfl, HT⟩ := hrel
    by_cases hlt : k < n
    · have hkx : k < xs.length := by rw [← HN.out]; exact hlt
      obtain ⟨b, off, rfl, hb, hcell⟩ := HR.out.at_ hkx
      obtain ⟨x, hx⟩ : ∃ x, x = xs.getD k 0 := ⟨_, rfl⟩
      have x01 : 0 ≤ x ∧ x ≤ 51 := HO.out x (by rw [hx, List.getD_eq_getElem?_getD, List.getElem?_eq_getElem hkx]; exact List.getElem_mem hkx)
      obtain ⟨xr, hxr⟩ : ∃ xr, xr = x / 4 := ⟨_, rfl⟩
      obtain ⟨xm, hxm⟩ : ∃ xm, xm = x % 4 := ⟨_, rfl⟩
      have xt : x.tdiv 4 = xr := by rw [hxr]; exact Int.tdiv_eq_ediv_of_nonneg x01.1
      have xu : x.tmod 4 = xm := by rw [hxm]; exact Int.tmod_eq_emod_of_nonneg x01.1
      have xrb : 0 ≤ xr ∧ xr ≤ 12 := by omega
      have xmb : 0 ≤ xm ∧ xm ≤ 3 := by omega
      rw [← hx] at hcell
      have XX := Lib.hid hx
      have XR := Lib.hid (And.intro hxr hxm)
      have KX := Lib.hid hkx
      clear hx hb hxr hxm hkx x01
      have i0 : (0 : Int) ≤ (k : Int) := by omega
      have i1 : (k : Int) < (n : Int) := by omega
      have i2 : (k : Int) ≤ (c : Int) := by omega
      go_wp2
      go_loop [18] (fun j => ∃ q : Nat, q ≤ k ∧ j = .int .i64 q ∧ Hid (∀ i, i < q → apartR (xs.getD i 0) x)) (fun j => k - (intOf j).toNat)
      case atStart => exact ⟨0, Nat.zero_le _, rfl, fun i hi => absurd hi (by omega)⟩
      case round =>
        obtain ⟨q, hq, rfl, HQ⟩ := hrel
        by_cases hqk : q < k
        · obtain ⟨b', off', he, hb', hcell'⟩ := HR.out.at_ (k := q) (by rw [← HN.out]; omega)
          simp only [Option.some.injEq, Addr.mk.injEq, and_true] at he
          obtain ⟨rfl, rfl⟩ := he
          obtain ⟨y, hy⟩ : ∃ y, y = xs.getD q 0 := ⟨_, rfl⟩
          have y01 : 0 ≤ y ∧ y ≤ 51 := HO.out y (by rw [hy, List.getD_eq_getElem?_getD, List.getElem?_eq_getElem (by rw [← HN.out]; omega)]; exact List.getElem_mem _)
          obtain ⟨yr, hyr⟩ : ∃ yr, yr = y / 4 := ⟨_, rfl⟩
          obtain ⟨ym, hym⟩ : ∃ ym, ym = y % 4 := ⟨_, rfl⟩
          have yt : y.tdiv 4 = yr := by rw [hyr]; exact Int.tdiv_eq_ediv_of_nonneg y01.1
          have yu : y.tmod 4 = ym := by rw [hym]; exact Int.tmod_eq_emod_of_nonneg y01.1
          have yrb : 0 ≤ yr ∧ yr ≤ 12 := by omega
          have ymb : 0 ≤ ym ∧ ym ≤ 3 := by omega
          rw [← hy] at hcell'
          have YY := Lib.hid hy
          have YR := Lib.hid (And.intro hyr hym)
          clear hy hb' hyr hym y01
          have j0 : (0 : Int) ≤ (q : Int) := by omega
          have j1 : (q : Int) < (k : Int) := by omega
          by_cases e1 : xr = yr
          · have R : Hid (apB xs = false) := pair_bad hqk KX.out (by rw [← YY.out, ← XX.out]; exact fun h => h.1 (by rw [← YR.out.1, ← XR.out.1, e1]))
            have t1 : (xr == yr) = true := by simpa using e1
            clear e1
            go_wp2
            go_ret
            exact ⟨ret_bool R.out.symm, rfl⟩
          · have t1 : (xr == yr) = false := by simpa using e1
            by_cases e2 : xm = ym
            · have R : Hid (apB xs = false) := pair_bad hqk KX.out (by rw [← YY.out, ← XX.out]; exact fun h => h.2 (by rw [← YR.out.2, ← XR.out.2, e2]))
              have t2 : (xm == ym) = true := by simpa using e2
              clear e1 e2
              go_wp2
              go_ret
              exact ⟨ret_bool R.out.symm, rfl⟩
            · have t2 : (xm == ym) = false := by simpa using e2
              have NX : Hid (∀ i, i < q + 1 → apartR (xs.getD i 0) x) := fun i hi => by
                rcases Nat.lt_or_ge i q with h | h
                · exact HQ.out i h
                · have : i = q := by omega
                  subst this
                  rw [← YY.out]
                  exact ⟨fun e => e1 (by rw [XR.out.1, YR.out.1, e]), fun e => e2 (by rw [XR.out.2, YR.out.2, e])⟩
              clear e1 e2
              go_wp2
              go_round
              case rel => exact ⟨q + 1, by omega, by go_num, NX.out⟩
              case measure => simp [intOf]; omega
        · have hqk' : q = k := by omega
          have NX : Hid ((xs.take (k + 1)).Pairwise apartR) := pair_snoc KX.out HT.out (fun i hi => by rw [← XX.out]; exact HQ.out i (by omega))
          clear hqk
          go_wp2
          go_round
          case rel => exact ⟨k + 1, by omega, by go_num, NX.out⟩
          case measure => simp [intOf]; omega
    · have hkn : k = n := by omega
      have R : Hid (apB xs = true) := apB_iff.2 (by
        have := HT.out
        rwa [List.take_of_length_le (by rw [← HN.out]; omega)] at this)
      clear hlt
      go_wp2
      go_ret
      exact ⟨ret_bool R.out.symm, rfl⟩

set_option maxHeartbeats 1000000 in
theorem l05Apart_any (A : Option Addr) (c : Nat) (xs : List Int) (n : Nat) (w : World) (hn : n = xs.length) (h : RowI w A xs) (hl : n ≤ 1048576) (ho : ∀ x ∈ xs, 0 ≤ x ∧ x ≤ 51) :
    Calls Try.prog 52 #[.slice A n c] w fun e w' => e = .returned (.bool (apB xs)) ∧ ∃ q, w' = w.drewN q := by
  have HN := Lib.hid hn
  have HR := Lib.hid h
  have HO := Lib.hid ho
  clear hn h ho
  go_enter Try.func52, Try.ntmps52
  go_wp2
  go_loopw [3, 4] (fun i _ wr => ∃ k : Nat, k ≤ n ∧ i = .int .i64 k ∧ Hid ((xs.take k).Pairwise apartR) ∧ ∃ m, wr = w.drewN m) (fun i _ _ => n - (intOf i).toNat)
  case atStart => exact ⟨0, Nat.zero_le _, rfl, by show List.Pairwise _ _; simp, 0, rfl⟩
  case round =>
    obtain ⟨k, hk, rfl, HT, m, rfl⟩ := hrel
    by_cases hlt : k < n
    · have hkx : k < xs.length := by rw [← HN.out]; exact hlt
      obtain ⟨b, off, rfl, hb, hcell⟩ := HR.out.at_ hkx
      obtain ⟨x, hx⟩ : ∃ x, x = xs.getD k 0 := ⟨_, rfl⟩
      have x01 : 0 ≤ x ∧ x ≤ 51 := HO.out x (by rw [hx, List.getD_eq_getElem?_getD, List.getElem?_eq_getElem hkx]; exact List.getElem_mem hkx)
      obtain ⟨xr, hxr⟩ : ∃ xr, xr = x / 4 := ⟨_, rfl⟩
      obtain ⟨xm, hxm⟩ : ∃ xm, xm = x % 4 := ⟨_, rfl⟩
      have xt : x.tdiv 4 = xr := by rw [hxr]; exact Int.tdiv_eq_ediv_of_nonneg x01.1
      have xu : x.tmod 4 = xm := by rw [hxm]; exact Int.tmod_eq_emod_of_nonneg x01.1
      have xrb : 0 ≤ xr ∧ xr ≤ 12 := by omega
      have xmb : 0 ≤ xm ∧ xm ≤ 3 := by omega
      rw [← hx] at hcell
      have XX := Lib.hid hx
      have XR := Lib.hid (And.intro hxr hxm)
      have KX := Lib.hid hkx
      clear hx hb hxr hxm hkx x01
      have i0 : (0 : Int) ≤ (k : Int) := by omega
      have i1 : (k : Int) < (n : Int) := by omega
      go_wp2
      go_loopw [4] (fun j wr => ∃ q : Nat, q ≤ k ∧ j = .int .i64 q ∧ Hid (∀ i, i < q → apartR (xs.getD i 0) x) ∧ ∃ m, wr = w.drewN m) (fun j _ => k - (intOf j).toNat)
      case atStart => exact ⟨0, Nat.zero_le _, rfl, fun i hi => absurd hi (by omega), m, rfl⟩
      case round =>
        obtain ⟨q, hq, rfl, HQ, p, rfl⟩ := hrel
        by_cases hqk : q < k
        · obtain ⟨b', off', he, hb', hcell'⟩ := HR.out.at_ (k := q) (by rw [← HN.out]; omega)
          simp only [Option.some.injEq, Addr.mk.injEq, and_true] at he
          obtain ⟨rfl, rfl⟩ := he
          obtain ⟨y, hy⟩ : ∃ y, y = xs.getD q 0 := ⟨_, rfl⟩
          have y01 : 0 ≤ y ∧ y ≤ 51 := HO.out y (by rw [hy, List.getD_eq_getElem?_getD, List.getElem?_eq_getElem (by rw [← HN.out]; omega)]; exact List.getElem_mem _)
          obtain ⟨yr, hyr⟩ : ∃ yr, yr = y / 4 := ⟨_, rfl⟩
          obtain ⟨ym, hym⟩ : ∃ ym, ym = y % 4 := ⟨_, rfl⟩
          have yt : y.tdiv 4 = yr := by rw [hyr]; exact Int.tdiv_eq_ediv_of_nonneg y01.1
          have yu : y.tmod 4 = ym := by rw [hym]; exact Int.tmod_eq_emod_of_nonneg y01.1
          have yrb : 0 ≤ yr ∧ yr ≤ 12 := by omega
          have ymb : 0 ≤ ym ∧ ym ≤ 3 := by omega
          rw [← hy] at hcell'
          have YY := Lib.hid hy
          have YR := Lib.hid (And.intro hyr hym)
          clear hy hb' hyr hym y01
          have j0 : (0 : Int) ≤ (q : Int) := by omega
          have j1 : (q : Int) < (k : Int) := by omega
          have j2 : (q : Int) < (n : Int) := by omega
          by_cases e1 : xr = yr
          · have R : Hid (apB xs = false) := pair_bad hqk KX.out (by rw [← YY.out, ← XX.out]; exact fun h => h.1 (by rw [← YR.out.1, ← XR.out.1, e1]))
            have t1 : (xr == yr) = true := by simpa using e1
            clear e1
            go_wp2
            go_quiet (fail)
            go_wp2
            go_ret
            exact ⟨ret_bool R.out.symm, _, World.drewN_drewN _ _ _⟩
          · have t1 : (xr == yr) = false := by simpa using e1
            by_cases e2 : xm = ym
            · have R : Hid (apB xs = false) := pair_bad hqk KX.out (by rw [← YY.out, ← XX.out]; exact fun h => h.2 (by rw [← YR.out.2, ← XR.out.2, e2]))
              have t2 : (xm == ym) = true := by simpa using e2
              clear e1 e2
              go_wp2
              go_quiet (fail)
              go_wp2
              go_ret
              exact ⟨ret_bool R.out.symm, _, World.drewN_drewN _ _ _⟩
            · have t2 : (xm == ym) = false := by simpa using e2
              have NX : Hid (∀ i, i < q + 1 → apartR (xs.getD i 0) x) := fun i hi => by
                rcases Nat.lt_or_ge i q with h | h
                · exact HQ.out i h
                · have : i = q := by omega
                  subst this
                  rw [← YY.out]
                  exact ⟨fun e => e1 (by rw [XR.out.1, YR.out.1, e]), fun e => e2 (by rw [XR.out.2, YR.out.2, e])⟩
              clear e1 e2
              go_wp2
              go_quiet (fail)
              go_wp2
              go_roundw
              case rel => exact ⟨q + 1, by omega, by go_num, NX.out, _, rfl⟩
              case measure => simp [intOf]; omega
        · have hqk' : q = k := by omega
          have NX : Hid ((xs.take (k + 1)).Pairwise apartR) := pair_snoc KX.out HT.out (fun i hi => by rw [← XX.out]; exact HQ.out i (by omega))
          clear hqk
          go_wp2
          go_roundw
          case rel => exact ⟨k + 1, by omega, by go_num, NX.out, p, rfl⟩
          case measure => simp [intOf]; omega
    · have hkn : k = n := by omega
      have R : Hid (apB xs = true) := apB_iff.2 (by
        have := HT.out
        rwa [List.take_of_length_le (by rw [← HN.out]; omega)] at this)
      clear hlt
      go_wp2
      go_ret
      exact ⟨ret_bool R.out.symm, m, rfl⟩
end Go.Proofs.Ytgkhhfkijepenaa
