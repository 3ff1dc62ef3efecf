/-
  slices.SortFunc at four cards, with the comparison of impl.BadugiCards.
-/
import Derived.Test.YtgkhhfkijepenaaSortW
import Derived.Test.YtgkhhfkijepenaaCmp
import Derived.Test.YtgkhhfkijepenaaLowSpec
import Derived.Test.YtgkhhfkijepenaaMathBadugi
namespace Go.Proofs.Ytgkhhfkijepenaa
open Go.RowKit Go.Sort

theorem cmpOr_any (b : Nat) (x y r : Int) (w : World) (hr : r = if x ≠ 0 then x else y) (hx : w.cell? ⟨b, 0, none⟩ = some (.int .i64 x)) (hy : w.cell? ⟨b, 1, none⟩ = some (.int .i64 y)) :
    Calls Try.prog 35 #[.slice (some ⟨b, 0, none⟩) 2 2] w fun e w' => e = .returned (.int .i64 r) ∧ w = w' := by
  have HR := Lib.hid hr
  clear hr
  by_cases h : x = 0
  · have R : Hid (r = y) := by show _ = _; rw [HR.out, if_neg (by simpa using h)]
    have x1 : (x != 0) = false := by simpa using h
    by_cases h2 : y = 0
    · have y1 : (y != 0) = false := by simpa using h2
      have R2 : Hid (y = 0) := h2
      clear h h2
      go_enter Try.func35, Try.ntmps35
      go_wp2
      go_loop [8] (fun i => i = .int .i64 0 ∨ i = .int .i64 1 ∨ i = .int .i64 2) (fun i => (2 - intOf i).toNat)
      case atStart => exact .inl rfl
      case round =>
        rcases hrel with rfl | rfl | rfl
        · go_wp2
          go_round
          case rel => exact .inr (.inl rfl)
          case measure => simp [intOf]
        · go_wp2
          go_round
          case rel => exact .inr (.inr rfl)
          case measure => simp [intOf]
        · go_wp2
          go_ret
          exact ⟨ret_int (by rw [R.out, R2.out]), rfl⟩
    · have y1 : (y != 0) = true := by simpa using h2
      clear h h2
      go_enter Try.func35, Try.ntmps35
      go_wp2
      go_loop [8] (fun i => i = .int .i64 0 ∨ i = .int .i64 1) (fun i => (2 - intOf i).toNat)
      case atStart => exact .inl rfl
      case round =>
        rcases hrel with rfl | rfl
        · go_wp2
          go_round
          case rel => exact .inr rfl
          case measure => simp [intOf]
        · go_wp2
          go_ret
          exact ⟨ret_int R.out.symm, rfl⟩
  · have R : Hid (r = x) := by show _ = _; rw [HR.out, if_pos (by simpa using h)]
    have x1 : (x != 0) = true := by simpa using h
    clear h
    go_enter Try.func35, Try.ntmps35
    go_wp2
    go_loop [8] (fun i => i = .int .i64 0) (fun i => (2 - intOf i).toNat)
    case atStart => exact rfl
    case round =>
      subst hrel
      go_wp2
      go_ret
      exact ⟨ret_int R.out.symm, rfl⟩

/-- The comparison. -/
def cfI (x y : Int) : Int := if cmI (lowI y) (lowI x) ≠ 0 then cmI (lowI y) (lowI x) else cmI x y
theorem cf_lt (x y : Int) : decide (cfI x y < 0) = ltD x y := by
  unfold cfI ltD cmI
  rw [Bool.eq_iff_iff, decide_eq_true_eq, decide_eq_true_eq]
  (repeat' split) <;> omega

theorem new_at {w : World} {x y : Int} (i : Nat) (v : Value) (h : #[Value.int .i64 x, .int .i64 y][i]? = some v) (T : TypeId) : (w.alloc (.cells #[.int .i64 x, .int .i64 y] T)).cell? ⟨w.heap.size, i, none⟩ = some v := by
  have hi : i < (#[Value.int .i64 x, .int .i64 y] : Array Value).size := (Array.getElem?_eq_some_iff.1 h).1
  have := (World.rowIs_alloc w #[Value.int .i64 x, .int .i64 y] T (fun i => (#[Value.int .i64 x, .int .i64 y][i]?).getD undef) (fun j hj => by rw [Array.getElem?_eq_getElem hj]; rfl)).cell hi
  rw [this]
  simp only [h, Option.getD_some]
set_option maxHeartbeats 1000000 in
theorem closure_any (x y : Int) (hx : 0 ≤ x ∧ x ≤ 51) (hy : 0 ≤ y ∧ y ≤ 51) (W : World) :
    Calls Try.prog 34 #[.int .i64 x, .int .i64 y] W fun e w' => e = .returned (.int .i64 (cfI x y)) ∧ ∃ q os', w' = grow (W.drewN q) os' := by
  obtain ⟨u, hu⟩ : ∃ u, u = lowI x := ⟨_, rfl⟩
  obtain ⟨v, hv⟩ : ∃ v, v = lowI y := ⟨_, rfl⟩
  obtain ⟨a, ha⟩ : ∃ a, a = cmI v u := ⟨_, rfl⟩
  obtain ⟨b, hb⟩ : ∃ b, b = cmI x y := ⟨_, rfl⟩
  obtain ⟨r, hr⟩ : ∃ r, r = cfI x y := ⟨_, rfl⟩
  have R : r = if a ≠ 0 then a else b := by rw [hr]; unfold cfI; rw [ha, hb, hu, hv]
  rw [← hr]
  have CX : Hid (∀ W : World, Calls Try.prog 26 #[.int .i64 x] W fun e w' => e = .returned (.int .i64 u) ∧ W = w') := fun W => by rw [hu]; exact implRank_any2 x W hx.1 hx.2
  have CY : Hid (∀ W : World, Calls Try.prog 26 #[.int .i64 y] W fun e w' => e = .returned (.int .i64 v) ∧ W = w') := fun W => by rw [hv]; exact implRank_any2 y W hy.1 hy.2
  have CA : Hid (∀ W : World, Calls Try.prog 36 #[.int .i64 v, .int .i64 u] W fun e w' => e = .returned (.int .i64 a) ∧ W = w') := fun W => by rw [ha]; exact cmpc_any v u W
  have CB : Hid (∀ W : World, Calls Try.prog 36 #[.int .i64 x, .int .i64 y] W fun e w' => e = .returned (.int .i64 b) ∧ W = w') := fun W => by rw [hb]; exact cmpc_any x y W
  have CO : Hid (Calls Try.prog 35 #[.slice (some ⟨W.heap.size, 0, none⟩) 2 2] (W.alloc (.cells #[.int .i64 a, .int .i64 b] 3)) fun e w' => e = .returned (.int .i64 r) ∧ (W.alloc (.cells #[.int .i64 a, .int .i64 b] 3)) = w') :=
    cmpOr_any W.heap.size a b r _ R (new_at 0 _ rfl _) (new_at 1 _ rfl _)
  have G : Hid (W.alloc (.cells #[.int .i64 a, .int .i64 b] 3) = grow (W.drewN 0) #[.cells #[.int .i64 a, .int .i64 b] 3]) := alloc_eq_grow _ _
  clear hu hv ha hb hx hy R hr
  go_enter Try.func34, Try.ntmps34
  go_wp2_with fail
  refine (CY.out _).mono ?_
  rintro e w' ⟨rfl, rfl⟩
  go_wp2_with fail
  refine (CX.out _).mono ?_
  rintro e w' ⟨rfl, rfl⟩
  go_wp2_with fail
  refine (CA.out _).mono ?_
  rintro e w' ⟨rfl, rfl⟩
  go_wp2_with fail
  refine (CB.out _).mono ?_
  rintro e w' ⟨rfl, rfl⟩
  go_wp2_with fail
  refine CO.out.mono ?_
  rintro e w' ⟨rfl, rfl⟩
  go_wp2
  go_ret
  exact ⟨rfl, 0, _, G.out⟩

/-! ### At cards -/
abbrev C52 := Fin 52
def valC (i : C52) : Int := ((i.val : Nat) : Int)
def encC52 (i : C52) : Value := .int .i64 (valC i)
theorem valC_range (i : C52) : 0 ≤ valC i ∧ valC i ≤ 51 := by unfold valC; have := i.isLt; omega
theorem valC_inj {i j : C52} (h : valC i = valC j) : i = j := Fin.ext (by unfold valC at h; omega)
def cfC (i j : C52) : Int := cfI (valC i) (valC j)
theorem lt_cfC (i j : C52) : ltOf cfC i j = ltD (valC i) (valC j) := cf_lt _ _
theorem swoC : SWO (ltOf cfC) where
  irrefl x := by rw [lt_cfC]; unfold ltD; simp
  trans x y z h1 h2 := by rw [lt_cfC] at *; unfold ltD at *; simp at *; omega
  ntrans x y z h1 h2 := by rw [lt_cfC] at *; unfold ltD at *; simp at *; omega
theorem totC (x y : C52) (h1 : ltOf cfC x y = false) (h2 : ltOf cfC y x = false) : x = y := by
  rw [lt_cfC] at *
  unfold ltD at *
  apply valC_inj
  simp at *; omega
theorem cards_fin {xs : List Int} (h : ∀ x ∈ xs, 0 ≤ x ∧ x ≤ 51) : ∃ ds : List C52, ds.map valC = xs := by
  refine ⟨xs.map fun x => Fin.ofNat 52 x.toNat, ?_⟩
  rw [List.map_map]
  refine (List.map_congr_left (g := id) fun x hx => ?_).trans (List.map_id _)
  have := h x hx
  show ((x.toNat % 52 : Nat) : Int) = x
  omega
theorem putCells_C (ds : Array C52) (cur : Array Value) : putCells encC52 0 ds cur = putCells (Value.int .i64) 0 (ds.map valC) cur := by
  unfold putCells
  congr 1
  funext k x
  by_cases h : 0 ≤ k ∧ k < 0 + ds.size
  · rw [if_pos h, if_pos (by simpa using h)]
    have h1 : k - 0 < ds.size := by omega
    have h2 : k - 0 < (ds.map valC).size := by simpa using h1
    rw [getElem!_pos ds _ h1, getElem!_pos (ds.map valC) _ h2, Array.getElem_map]
    rfl
  · rw [if_neg h, if_neg (by simpa using h)]
theorem putRow_C (w : World) (blk : Nat) (ds : Array C52) : putRow encC52 w blk 0 ds = putRow (Value.int .i64) w blk 0 (ds.map valC) := by
  unfold putRow
  congr 1
  funext c
  exact putCells_C ds c
theorem sort_C (ds : List C52) : (ds.mergeSort fun x y => !(ltOf cfC) y x).map valC = srtL (ds.map valC) := by
  unfold srtL
  exact List.map_mergeSort (fun a _ b _ => by rw [lt_cfC])

theorem sortF_any (lo : Nat) (g c : Nat) (xs : List Int) (len : Nat) (w : World) (hlen : len = xs.length) (h : OwnI w lo (some ⟨g, 0, none⟩) c xs) (hl : xs.length ≤ 1048576) (ho : ∀ x ∈ xs, 0 ≤ x ∧ x ≤ 51) :
    Calls Try.prog 33 #[.slice (some ⟨g, 0, none⟩) len c, .func (.func 34) #[] #[]] w fun e w' => e = .returned (.tuple #[]) ∧ OwnI w' lo (some ⟨g, 0, none⟩) c (srtL xs) ∧ w.grownBy w' (some g) := by
  subst hlen
  obtain ⟨ds, hds⟩ := cards_fin ho
  obtain ⟨cs, t, hg, hs, ht, h1, h2, h3, h4⟩ := own_form h
  have hH := holds_of_blockI hg ht
  have hsz : ds.length = xs.length := by rw [← hds, List.length_map]
  have hH' : Holds encC52 w g 0 ds.toArray := by
    intro j hj
    have hj' : j < ds.length := by simpa using hj
    have := hH j (by simpa [← hsz] using hj')
    rw [getElem!_pos xs.toArray j (by simpa [← hsz] using hj')] at this
    rw [getElem!_pos ds.toArray j hj]
    refine ⟨this.1.trans ?_, this.2⟩
    congr 1
    show Value.int .i64 _ = Value.int .i64 _
    congr 1
    simp only [List.getElem_toArray]
    have e : xs[j]'(by omega) = (ds.map valC)[j]'(by rw [List.length_map]; exact hj') := by simp only [hds]
    rw [e, List.getElem_map]
  have eg : ∀ args w, (callFunc 34 args).run Try.prog w = .ok (.enter 34 args) w := enters_of Try.func34 (by kernel_rfl) rfl
  have hc := Any.slices_SortFunc_total Try.sortF encC52 (fun _ => rfl) cfC swoC 34 #[] g 0 c ds.toArray w eg
    (fun m os dk _ x y => closure_any (valC x) (valC y) (valC_range x) (valC_range y) _) hH' h2 (by simp; omega) totC
  rw [show ds.toArray.size = xs.length by simp [hsz]] at hc
  change Calls Try.prog 33 _ _ _ at hc
  refine hc.mono ?_
  rintro e w' ⟨rfl, n, os, rfl⟩
  have hr : (((ds.toArray.toList.mergeSort fun x y => !(ltOf cfC) y x).toArray).map valC) = (srtL xs).toArray := by
    rw [List.map_toArray, List.toList_toArray, sort_C, hds]
  unfold sortWorld
  rw [putRow_C, hr]
  exact ⟨rfl, own_put h (srtL_length xs), grownBy_sortedI _⟩
end Go.Proofs.Ytgkhhfkijepenaa
