/-
  Lists of lists whose rows lie apart, in the laws: compared, marked, read again.
-/
import Derived.Test.YtbgfngagihcjfaaLists
import Derived.Deep.RegionLaw
namespace Go.Proofs.Ytbgfngagihcjfaa
open Go.RowKit

/-- Where the rows of a list of lists lie, each in a block of its own. -/
def Apart (w : World) (lo b off : Nat) (R : Nat → Option Addr × Nat) (yss : List (List Int)) : Prop :=
  (∀ j, j < yss.length → w.cell? ⟨b, off + j, none⟩ = some (.slice (R j).1 (yss.getD j []).length (R j).2) ∧ OwnI w lo (R j).1 (R j).2 (yss.getD j []) ∧ (R j).1.map (·.block) ≠ some b) ∧
  ∀ i j, i < yss.length → j < yss.length → i ≠ j → ∀ q, (R i).1.map (·.block) = some q → (R j).1.map (·.block) ≠ some q
/-- A list of lists of the call's own whose rows lie apart. -/
def OwnSS (w : World) (lo : Nat) (A : Option Addr) (yss : List (List Int)) : Prop :=
  yss = [] ∨ ∃ b off R, A = some ⟨b, off, none⟩ ∧ b < w.heap.size ∧ Apart w lo b off R yss
theorem Apart.below {w w' : World} {lo b off : Nat} {R : Nat → Option Addr × Nat} {yss : List (List Int)} (h : Apart w lo b off R yss) (hl : b < w.heap.size) (hb : Below w.heap.size w w') : Apart w' lo b off R yss :=
  ⟨fun j hj => ⟨(hb.cell (p := ⟨b, off + j, none⟩) hl).trans (h.1 j hj).1, (h.1 j hj).2.1.below hb, (h.1 j hj).2.2⟩, h.2⟩
theorem OwnSS.below {w w' : World} {lo : Nat} {A : Option Addr} {yss : List (List Int)} (h : OwnSS w lo A yss) (hb : Below w.heap.size w w') : OwnSS w' lo A yss := by
  rcases h with h | ⟨b, off, R, e, hl, hA⟩
  · exact .inl h
  · exact .inr ⟨b, off, R, e, Nat.lt_of_lt_of_le hl hb.size, hA.below hl hb⟩
theorem OwnSS.lists {w : World} {lo : Nat} {A : Option Addr} {yss : List (List Int)} (h : OwnSS w lo A yss) : ListsO w lo A yss := by
  rcases h with h | ⟨b, off, R, e, hl, hA⟩
  · exact .inl h
  · exact .inr ⟨b, off, e, hl, fun j hj => ⟨_, _, (hA.1 j hj).1, (hA.1 j hj).2.1⟩⟩
/-- One row is written anew. -/
theorem Apart.set {w w' : World} {lo b off k : Nat} {R : Nat → Option Addr × Nat} {yss : List (List Int)} {zs : List Int} (h : Apart w lo b off R yss) (hk : k < yss.length) (hb : b < w.heap.size) (hz : zs.length = (yss.getD k []).length)
    (ho : OwnI w' lo (R k).1 (R k).2 zs) (hw : OnlyI w w' (R k).1) : Apart w' lo b off R (yss.set k zs) := by
  refine ⟨fun j hj => ?_, fun i j hi hj => h.2 i j (by simpa using hi) (by simpa using hj)⟩
  rw [List.length_set] at hj
  obtain ⟨h1, h2, h3⟩ := h.1 j hj
  have hc : w'.cell? ⟨b, off + j, none⟩ = w.cell? ⟨b, off + j, none⟩ := World.cell?_of_block (hw.1.block b hb (fun e => (h.1 k hk).2.2 e.symm))
  rw [hc]
  by_cases e : j = k
  · subst e
    have e2 : (yss.set j zs).getD j [] = zs := by simp [List.getD_eq_getElem?_getD, hj]
    rw [e2, hz]
    exact ⟨h1, ho, h3⟩
  · have e2 : (yss.set k zs).getD j [] = yss.getD j [] := by simp [List.getD_eq_getElem?_getD, Ne.symm e]
    rw [e2]
    exact ⟨h1, h2.grown hw.1 (fun q hq e3 => h.2 j k hj hk e q hq e3), h3⟩

set_option maxHeartbeats 1000000 in
/-- Lists of lists that read alike. -/
theorem eqSS_same (A B : Option Addr) (c d n m lo lo' : Nat) (xss : List (List Int)) (w : World) (hn : n = xss.length) (hm : m = xss.length) (hA : ListsO w lo A xss) (hB : ListsO w lo' B xss) (hl : xss.length ≤ 1048576) (hr : ∀ ys ∈ xss, ys.length ≤ 1048576) :
    Calls Try.prog 18 #[.slice A n c, .slice B m d] w fun e w' => e = .returned (.bool true) ∧ ∃ n, w' = w.drewN n := by
  have hm2 : m = n := by omega
  subst hm2
  rw [← hn] at hl
  have HN := Lib.hid hn
  have HA := Lib.hid hA
  have HB := Lib.hid hB
  have HR := Lib.hid hr
  clear hn hm hA hB hr
  go_enter Try.func18, Try.ntmps18
  go_wp2
  go_loopw [5] (fun i wr => ∃ k : Nat, k ≤ m ∧ i = .int .i64 k ∧ ∃ q, wr = w.drewN q) (fun i _ => m - (intOf i).toNat)
  case atStart => exact ⟨0, Nat.zero_le _, rfl, 0, rfl⟩
  case round =>
    obtain ⟨k, hk, rfl, q, rfl⟩ := hrel
    by_cases hlt : k < m
    · have hkx : k < xss.length := by rw [← HN.out]; exact hlt
      obtain ⟨b, off, rfl, hb, P, p, hc, ho⟩ := HA.out.at_ hkx
      obtain ⟨b', off', rfl, hb', S, s, hc', ho'⟩ := HB.out.at_ hkx
      have RX := Lib.hid ho.row
      have RY := Lib.hid ho'.row
      obtain ⟨x, hx⟩ : ∃ x, x = xss.getD k [] := ⟨_, rfl⟩
      have XL : Hid (x.length ≤ 1048576) := HR.out x (by rw [hx, List.getD_eq_getElem?_getD, List.getElem?_eq_getElem hkx]; exact List.getElem_mem hkx)
      rw [← hx] at hc hc' RX RY
      clear hx hb hb' ho ho' hkx
      have i0 : (0 : Int) ≤ (k : Int) := by omega
      have i1 : (k : Int) < (m : Int) := by omega
      go_wp2
      go_region_law (go_simp; go_at_call 11; refine (eqInt64S_any P S p s x x _ (RX.out.drewN _) (RY.out.drewN _) XL.out).mono ?_; rintro e w3 ⟨rfl, q3, rfl⟩; rw [eqL_self])
      all_goals
        go_wp2
        go_roundw
        case rel => exact ⟨k + 1, by omega, by go_num, _, rfl⟩
        case measure => simp [intOf]; omega
    · have hkn : k = m := by omega
      subst hkn
      clear hlt
      go_wp2
      go_ret
      exact ⟨rfl, q, rfl⟩
/-- So many numbers in the first rows. -/
def tot (yss : List (List Int)) (j : Nat) : Nat := ((yss.take j).map List.length).sum
theorem tot_succ {yss : List (List Int)} {j : Nat} (h : j < yss.length) : tot yss (j + 1) = tot yss j + (yss.getD j []).length := by
  unfold tot
  rw [List.take_succ_eq_append_getElem h, List.map_append, List.sum_append]
  simp [List.getD_eq_getElem?_getD, h]
theorem tot_le {yss : List (List Int)} : ∀ d j, j + d ≤ yss.length → tot yss j ≤ tot yss (j + d)
  | 0, _, _ => Nat.le_refl _
  | d + 1, j, h => by
    have := tot_le (yss := yss) d j (by omega)
    have e := tot_succ (yss := yss) (j := j + d) (by omega)
    rw [← Nat.add_assoc, e]; omega
/-- The first rows marked. -/
def mkU (k0 : Int) (yss : List (List Int)) (k : Nat) : List (List Int) := (List.range yss.length).map fun j => if j < k then marks (k0 + (tot yss j : Nat)) (yss.getD j []).length else yss.getD j []
theorem mkU_length (k0 : Int) (yss : List (List Int)) (k : Nat) : (mkU k0 yss k).length = yss.length := by simp [mkU]
theorem mkU_getD (k0 : Int) (yss : List (List Int)) (k j : Nat) (h : j < yss.length) : (mkU k0 yss k).getD j [] = if j < k then marks (k0 + (tot yss j : Nat)) (yss.getD j []).length else yss.getD j [] := by
  simp [mkU, List.getD_eq_getElem?_getD, h]
theorem mkU_zero (k0 : Int) (yss : List (List Int)) : mkU k0 yss 0 = yss := by
  apply List.ext_getElem (by simp [mkU])
  intro i h1 h2
  simp [mkU, List.getD_eq_getElem?_getD, h2]
theorem mkU_step (k0 : Int) (yss : List (List Int)) (k : Nat) : (mkU k0 yss k).set k (marks (k0 + (tot yss k : Nat)) (yss.getD k []).length) = mkU k0 yss (k + 1) := by
  apply List.ext_getElem (by simp [mkU])
  intro i h1 h2
  rw [List.getElem_set]
  by_cases e : k = i
  · subst e; simp [mkU]
  · rw [if_neg e]
    have e2 : (i < k) = (i < k + 1) := by simp; omega
    simp only [mkU, List.getElem_map, List.getElem_range, e2]

set_option maxHeartbeats 1000000 in
/-- Marks are written into the rows. -/
theorem markSS_any (lo : Nat) (A : Option Addr) (c n : Nat) (yss : List (List Int)) (k0 : Int) (w : World) (hn : n = yss.length) (h : OwnSS w lo A yss) (hlo : lo ≤ w.heap.size) (hl : tot yss yss.length ≤ 1048576) (hl2 : yss.length ≤ 1048576) (hk0 : 0 ≤ k0) (hk1 : k0 ≤ 1000) :
    Calls Try.prog 19 #[.slice A n c, .int .i64 k0] w fun e w' => e = .returned (.int .i64 (k0 + (tot yss yss.length : Nat))) ∧ OwnSS w' lo A (mkU k0 yss yss.length) ∧ Below lo w w' := by
  rw [← hn] at hl2
  have HN := Lib.hid hn
  have HL := Lib.hid hl
  have LO := Lib.hid hlo
  rcases h with h | ⟨b, off, R, rfl, hb, hA⟩
  · subst h
    have hn0 : n = 0 := hn
    subst hn0
    clear hn hl hlo
    go_enter Try.func19, Try.ntmps19
    go_wp2
    go_loop [1, 5] (fun m i => m = .int .i64 k0 ∧ i = .int .i64 0) (fun _ _ => 0)
    case atStart => exact ⟨rfl, rfl⟩
    case round =>
      obtain ⟨rfl, rfl⟩ := hrel
      go_wp2
      go_ret
      exact ⟨ret_int (by simp [tot]), .inl (by simp [mkU]), Below.refl _ _⟩
  · have HA := Lib.hid (And.intro hb hA)
    clear hn hl hlo hb hA
    go_enter Try.func19, Try.ntmps19
    go_wp2
    go_loopw [1, 5] (fun m i wr => ∃ k : Nat, k ≤ n ∧ i = .int .i64 k ∧ m = .int .i64 (k0 + (tot yss k : Nat)) ∧ Hid (b < wr.heap.size ∧ Apart wr lo b off R (mkU k0 yss k) ∧ Below lo w wr)) (fun _ i _ => n - (intOf i).toNat)
    case atStart => exact ⟨0, Nat.zero_le _, rfl, by simp [tot], HA.out.1, by rw [mkU_zero]; exact HA.out.2, Below.refl _ _⟩
    case round =>
      obtain ⟨k, hk, rfl, rfl, hG⟩ := hrel
      by_cases hlt : k < n
      · have hkx : k < yss.length := by rw [← HN.out]; exact hlt
        obtain ⟨hc, ho, hne⟩ := hG.out.2.1.1 k (by rw [mkU_length]; exact hkx)
        rw [mkU_getD _ _ _ _ hkx, if_neg (Nat.lt_irrefl k)] at hc ho
        obtain ⟨P, hP⟩ : ∃ P, P = (R k).1 := ⟨_, rfl⟩
        obtain ⟨p, hp⟩ : ∃ p, p = (R k).2 := ⟨_, rfl⟩
        obtain ⟨x, hx⟩ : ∃ x, x = yss.getD k [] := ⟨_, rfl⟩
        obtain ⟨u, hu⟩ : ∃ u, u = tot yss k := ⟨_, rfl⟩
        have TS := tot_succ hkx
        have TL := tot_le (yss := yss) (yss.length - k) k (by omega)
        have TM := tot_le (yss := yss) (yss.length - (k + 1)) (k + 1) (by omega)
        rw [show k + (yss.length - k) = yss.length by omega, ← hu] at TL
        rw [show k + 1 + (yss.length - (k + 1)) = yss.length by omega, TS, ← hu, ← hx] at TM
        rw [← hu, ← hx] at TS
        have hu1 : u ≤ 1048576 := Nat.le_trans TL HL.out
        have hx1 : Hid (x.length ≤ 1048576) := by have := HL.out; show _ ≤ _; omega
        have xu : u + x.length ≤ 1048576 := Nat.le_trans TM HL.out
        rw [← hP, ← hp, ← hx] at hc ho
        rw [← hP] at hne
        rw [← hu]
        have NM := Lib.hid (And.intro hP (And.intro hp (And.intro hx (And.intro hu TS))))
        have HO := Lib.hid ho
        have HK := Lib.hid hkx
        obtain ⟨lx, hlx⟩ : ∃ lx, lx = x.length := ⟨_, rfl⟩
        have LX := Lib.hid hlx
        rw [← hlx] at hc xu
        clear ho hne hP hp hx hu TS TL TM hkx hlx
        go_wp2_with fail
        have MK := markInt64S_any lo P p x (k0 + (u : Int)) _ HO.out hx1.out (by omega) (by omega)
        rw [← LX.out] at MK
        refine MK.mono ?_
        rintro e w3 ⟨rfl, hx3, ho3⟩
        have NXT : Hid (b < w3.heap.size ∧ Apart w3 lo b off R (mkU k0 yss (k + 1)) ∧ Below lo w w3) := by
          refine ⟨by rw [ho3.2]; exact hG.out.1, ?_, below_only hG.out.2.2 (Nat.le_trans LO.out hG.out.2.2.size) ho3 (fun q hq => (HO.out.lo_block q hq).1)⟩
          rw [← mkU_step]
          obtain ⟨e1, e2, e3, e4, e5⟩ := NM.out
          refine hG.out.2.1.set (by rw [mkU_length]; exact HK.out) hG.out.1 ?_ ?_ (by rw [← e1]; exact ho3)
          · rw [marks_length, mkU_getD _ _ _ _ HK.out, if_neg (Nat.lt_irrefl k)]
          · rw [← e1, ← e2, ← e3, ← e4, ← LX.out]; exact hx3
        have TS2 : Hid (tot yss (k + 1) = u + lx) := by show _ = _; rw [NM.out.2.2.2.2, LX.out]
        clear hx3 ho3 MK hc
        go_wp2
        go_roundw
        case rel => exact ⟨k + 1, by omega, by go_num, by rw [TS2.out]; go_num, NXT.out⟩
        case measure => simp [intOf]; omega
      · have hkn : k = n := by omega
        subst hkn
        clear hlt
        go_wp2
        go_ret
        obtain ⟨g1, g2, g3⟩ := hG.out
        rw [HN.out] at g2 ⊢
        exact ⟨rfl, .inr ⟨b, off, R, rfl, g1, g2⟩, g3⟩

set_option maxHeartbeats 1000000 in
/-- Marks are read in the rows. -/
theorem heldSS_any (lo : Nat) (A : Option Addr) (c n : Nat) (yss : List (List Int)) (k0 : Int) (w : World) (hn : n = yss.length) (h : ListsO w lo A (mkU k0 yss yss.length)) (hl : tot yss yss.length ≤ 1048576) (hl2 : yss.length ≤ 1048576) (hk0 : 0 ≤ k0) (hk1 : k0 ≤ 1000) :
    Calls Try.prog 20 #[.slice A n c, .int .i64 k0] w fun e w' => e = .returned (.int .i64 (k0 + (tot yss yss.length : Nat))) ∧ w = w' := by
  rw [← hn] at hl2
  have HN := Lib.hid hn
  have HL := Lib.hid hl
  have HA := Lib.hid h
  clear hn hl h
  go_enter Try.func20, Try.ntmps20
  go_wp2
  go_loop [1, 5] (fun m i => ∃ k : Nat, k ≤ n ∧ i = .int .i64 k ∧ m = .int .i64 (k0 + (tot yss k : Nat))) (fun _ i => n - (intOf i).toNat)
  case atStart => exact ⟨0, Nat.zero_le _, rfl, by simp [tot]⟩
  case round =>
    obtain ⟨k, hk, rfl, rfl⟩ := hrel
    by_cases hlt : k < n
    · have hkx : k < yss.length := by rw [← HN.out]; exact hlt
      obtain ⟨b, off, rfl, hb, P, p, hc, ho⟩ := HA.out.at_ (j := k) (by rw [mkU_length]; exact hkx)
      rw [mkU_getD _ _ _ _ hkx, if_pos hkx] at hc ho
      rw [marks_length] at hc
      obtain ⟨x, hx⟩ : ∃ x, x = (yss.getD k []).length := ⟨_, rfl⟩
      obtain ⟨u, hu⟩ : ∃ u, u = tot yss k := ⟨_, rfl⟩
      have TS := tot_succ hkx
      have TM := tot_le (yss := yss) (yss.length - (k + 1)) (k + 1) (by omega)
      rw [show k + 1 + (yss.length - (k + 1)) = yss.length by omega, TS, ← hu, ← hx] at TM
      rw [← hu, ← hx] at TS
      rw [← hx] at hc
      rw [← hx, ← hu] at ho
      rw [← hu]
      have xu : u + x ≤ 1048576 := Nat.le_trans TM HL.out
      have HO := Lib.hid ho.row
      have TS2 := Lib.hid TS
      clear hx hu TS TM hb ho hkx
      go_wp2_with fail
      refine (heldInt64S_any P p x (k0 + (u : Int)) _ HO.out (by omega) (by omega) (by omega)).mono ?_
      rintro e w3 ⟨rfl, rfl⟩
      have g0 : ¬ (k0 + (u : Int) + (x : Int) < 0) := by omega
      go_wp2
      go_round
      case rel => exact ⟨k + 1, by omega, by go_num, by rw [TS2.out]; go_num⟩
      case measure => simp [intOf]; omega
    · have hkn : k = n := by omega
      subst hkn
      clear hlt
      go_wp2
      go_ret
      exact ⟨by rw [HN.out]; rfl, rfl⟩
end Go.Proofs.Ytbgfngagihcjfaa
