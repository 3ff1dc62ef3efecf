/-
  Words for slices of integers in memory, and the walks of the laws' own helpers: a copy, a comparison, marks written and read.
-/
import Derived.Test.YtmmpeaedglnjlaaRows
import Derived.Test.YtmmpeaedglnjlaaOpen
import Derived.Deep.OwnRows
import Derived.OpenShut
import Derived.Deep.DeepCutAuto
import Derived.Deep.LoopGhost
namespace Go.Proofs.Ytmmpeaedglnjlaa
open Go.RowKit

/-- The slice at A reads as the list xs. -/
def RowI (w : World) (A : Option Addr) (xs : List Int) : Prop :=
  xs = [] ∨ ∃ b off, A = some ⟨b, off, none⟩ ∧ b < w.heap.size ∧ ∀ k, k < xs.length → w.cell? ⟨b, off + k, none⟩ = some (.int .i64 (xs.getD k 0))

/-- The slice at A, of capacity c, is nil and empty, or lies in a block of the call's own (from lo on), reads as xs and can be written. -/
def OwnI (w : World) (lo : Nat) (A : Option Addr) (c : Nat) (xs : List Int) : Prop :=
  (A = none ∧ c = 0 ∧ xs = []) ∨
  ∃ g f t, A = some ⟨g, 0, none⟩ ∧ lo ≤ g ∧ g < w.heap.size ∧ xs.length ≤ c ∧ c ≤ maxLen ∧ w.rowIs g t c f ∧ ∀ k, k < xs.length → f k = .int .i64 (xs.getD k 0)

theorem RowI.nil (w : World) (A : Option Addr) : RowI w A [] := .inl rfl
theorem RowI.at_ {w : World} {A : Option Addr} {xs : List Int} (h : RowI w A xs) {k : Nat} (hk : k < xs.length) :
    ∃ b off, A = some ⟨b, off, none⟩ ∧ b < w.heap.size ∧ w.cell? ⟨b, off + k, none⟩ = some (.int .i64 (xs.getD k 0)) := by
  rcases h with h | ⟨b, off, e, hb, hc⟩
  · subst h; simp at hk
  · exact ⟨b, off, e, hb, hc k hk⟩
theorem RowI.below {w w' : World} {A : Option Addr} {xs : List Int} (h : RowI w A xs) (hb : Below w.heap.size w w') : RowI w' A xs := by
  rcases h with h | ⟨b, off, e, hl, hc⟩
  · exact .inl h
  · exact .inr ⟨b, off, e, Nat.lt_of_lt_of_le hl hb.size, fun k hk => (hb.cell (p := ⟨b, off + k, none⟩) hl).trans (hc k hk)⟩
theorem RowI.drewN {w : World} {A : Option Addr} {xs : List Int} (h : RowI w A xs) (n : Nat) : RowI (w.drewN n) A xs := h.below (below_drewN (Below.refl _ _) n)
theorem OwnI.row {w : World} {lo : Nat} {A : Option Addr} {c : Nat} {xs : List Int} (h : OwnI w lo A c xs) : RowI w A xs := by
  rcases h with ⟨_, _, h⟩ | ⟨g, f, t, e, _, hl, hc, _, hr, hf⟩
  · exact .inl h
  · refine .inr ⟨g, 0, e, hl, fun k hk => ?_⟩
    rw [Nat.zero_add, hr.cell (Nat.lt_of_lt_of_le hk hc), hf k hk]
theorem OwnI.cap {w : World} {lo : Nat} {A : Option Addr} {c : Nat} {xs : List Int} (h : OwnI w lo A c xs) : xs.length ≤ c ∧ c ≤ maxLen := by
  rcases h with ⟨_, h0, h⟩ | ⟨g, f, t, e, _, hl, hc, hm, _⟩
  · subst h; subst h0; simp
  · exact ⟨hc, hm⟩
theorem OwnI.below {w w' : World} {lo : Nat} {A : Option Addr} {c : Nat} {xs : List Int} (h : OwnI w lo A c xs) (hb : Below w.heap.size w w') : OwnI w' lo A c xs := by
  rcases h with h | ⟨g, f, t, e, h1, hl, hc, hm, hr, hf⟩
  · exact .inl h
  · exact .inr ⟨g, f, t, e, h1, Nat.lt_of_lt_of_le hl hb.size, hc, hm, hr.of_block (hb.block g hl), hf⟩
theorem OwnI.mono {w : World} {lo lo' : Nat} {A : Option Addr} {c : Nat} {xs : List Int} (h : OwnI w lo A c xs) (hl : lo' ≤ lo) : OwnI w lo' A c xs := by
  rcases h with h | ⟨g, f, t, e, h1, r⟩
  · exact .inl h
  · exact .inr ⟨g, f, t, e, by omega, r⟩
theorem OwnI.drewN {w : World} {lo : Nat} {A : Option Addr} {c : Nat} {xs : List Int} (h : OwnI w lo A c xs) (n : Nat) : OwnI (w.drewN n) lo A c xs := h.below (below_drewN (Below.refl _ _) n)

/-- What came in reads as a list. -/
theorem IsRow.rowI {w : World} {a : Option Addr} {len cap : Nat} {zs : List Int} (h : IsRow .i64 w a len cap zs) : RowI w a (zs.take len) ∧ (zs.take len).length = len := by
  rcases h with ⟨rfl, rfl, rfl, rfl⟩ | ⟨x, rfl, hl, hm, hz, hc, _⟩
  · exact ⟨.inl (by simp), by simp⟩
  · have hlen : (zs.take len).length = len := by simp; omega
    refine ⟨?_, hlen⟩
    rcases Nat.eq_zero_or_pos len with h0 | h0
    · subst h0; exact .inl (by simp)
    · obtain ⟨b, off, sp⟩ := x
      have h00 := hc 0 (by omega)
      have hsp : sp = none := by simpa [Addr.add] using World.cell?_spot h00
      subst hsp
      have hb : b < w.heap.size := by
        have := World.block_lt_of_cell? w _ h00
        simpa [Addr.add] using this
      refine .inr ⟨b, off, rfl, hb, fun k hk => ?_⟩
      rw [hlen] at hk
      have := hc k (by omega)
      rw [List.getD_eq_getElem?_getD, List.getElem?_take, if_pos hk, ← List.getD_eq_getElem?_getD, ← this]
      rw [Go.WideShapes.add_plain]

/-- A call hands back a list in memory of its own. -/
def GivesI (w : World) (xs : List Int) (e : Ending) (w' : World) : Prop :=
  ∃ A c, e = .returned (.slice A xs.length c) ∧ OwnI w' w.heap.size A c xs ∧ Below w.heap.size w w'

theorem int_info : (Try.prog.info? 2).map (fun i => (i.zero, i.size, i.bytes)) = some (some (.int .i64 0), 1, 8) := by kernel_rfl

/-- laws.toInt64S: a copy. -/
theorem toInt64S_any (A : Option Addr) (c : Nat) (xs : List Int) (w : World) (h : RowI w A xs) (hl : xs.length ≤ 1048576) :
    Calls Try.prog 8 #[.slice A xs.length c] w (GivesI w xs) := by
  obtain ⟨n, hn⟩ : ∃ n, n = xs.length := ⟨_, rfl⟩
  rw [← hn] at hl ⊢
  have HN := Lib.hid hn
  have HR := Lib.hid h
  clear hn h
  have hmk := run_make_row' (P := Try.prog) 22 2 _ 8 Try.underlying22 int_info rfl .i64 .i64 n (by omega) (by omega)
  go_enter Try.func8, Try.ntmps8
  go_wp2
  go_loopw [4] (fun i wr => ∃ k : Nat, k ≤ n ∧ i = .int .i64 k ∧ wr.rowIs w.heap.size 2 n (fun j => .int .i64 (if j < k then xs.getD j 0 else 0)) ∧ Below w.heap.size w wr)
    (fun i _ => n - (intOf i).toNat)
  case atStart => exact ⟨0, Nat.zero_le _, rfl, (World.rowIs_made w _ n _).congr (fun i _ => by simp), (Below.refl _ _).alloc (Nat.le_refl _) _⟩
  case round =>
    obtain ⟨k, hk, rfl, hr, hB⟩ := hrel
    clear hmk
    by_cases hlt : k < n
    · obtain ⟨b, off, rfl, hb, hc⟩ := HR.out.at_ (k := k) (by rw [← HN.out]; exact hlt)
      obtain ⟨x, hx⟩ : ∃ x, x = xs.getD k 0 := ⟨_, rfl⟩
      have hc1 : wr.cell? ⟨b, off + k, none⟩ = some (.int .i64 x) := by rw [hx]; exact (hB.cell (p := ⟨b, off + k, none⟩) hb).trans hc
      have hc2 := hr.cell hlt
      simp only [Nat.lt_irrefl, if_false] at hc2
      have hf2 := hr.frozen k
      have HB := Lib.hid hB
      have HRW := Lib.hid hr
      have HX := Lib.hid hx
      clear hB hr hx hc
      go_wp2
      go_roundw
      case rel =>
        exact ⟨k + 1, by omega, by go_num, (HRW.out.set k _).congr (fun j _ => by
          by_cases e : j = k
          · subst e; simp [HX.out]
          · simp only [e, if_false]
            by_cases e2 : j < k
            · simp [e2, Nat.lt_succ_of_lt e2]
            · have : ¬ j < k + 1 := by omega
              simp [e2, this]), HB.out.setCell (Nat.le_refl _) _⟩
      case measure => simp [intOf]; omega
    · have hkn : k = n := by omega
      have HB := Lib.hid hB
      have HRW := Lib.hid hr
      subst hkn
      clear hB hr hlt
      go_wp2
      go_ret
      refine ⟨some ⟨w.heap.size, 0, none⟩, xs.length, by rw [← HN.out]; rfl, .inr ⟨w.heap.size, _, _, rfl, Nat.le_refl _, HRW.out.lt, Nat.le_refl _, by rw [← HN.out]; simp only [maxLen]; omega, by rw [← HN.out]; exact HRW.out, fun j hj => ?_⟩, HB.out⟩
      rw [← HN.out] at hj
      simp [hj]

/-- Whether two lists are the same. -/
def eqL (xs ys : List Int) : Bool := decide (xs = ys)
theorem eqL_self (xs : List Int) : eqL xs xs = true := by simp [eqL]
theorem eqL_no {xs ys : List Int} (h : xs ≠ ys) : eqL xs ys = false := by simp [eqL, h]
theorem take_succ_eq {xs ys : List Int} {k : Nat} (h1 : k < xs.length) (h2 : k < ys.length) (h : xs.take k = ys.take k) (e : xs.getD k 0 = ys.getD k 0) : xs.take (k + 1) = ys.take (k + 1) := by
  rw [List.take_succ_eq_append_getElem h1, List.take_succ_eq_append_getElem h2, h]
  simp [List.getD_eq_getElem?_getD, h1, h2] at e
  rw [e]
theorem eq_of_take {xs ys : List Int} (h : xs.length = ys.length) (e : xs.take xs.length = ys.take xs.length) : xs = ys := by
  rwa [List.take_length, h, List.take_length] at e

/-- A walk over two lists that compares them. -/
theorem eqInt64S_any (A B : Option Addr) (c d : Nat) (xs ys : List Int) (w : World) (hA : RowI w A xs) (hB : RowI w B ys) (hl : xs.length ≤ 1048576) :
    Calls Try.prog 10 #[.slice A xs.length c, .slice B ys.length d] w fun e w' => e = .returned (.bool (eqL xs ys)) ∧ ∃ n, w' = w.drewN n := by
  by_cases hne : xs.length = ys.length
  · obtain ⟨n, hn⟩ : ∃ n, n = xs.length := ⟨_, rfl⟩
    rw [← hne, ← hn]
    rw [← hn] at hl
    have HN := Lib.hid hn
    have HE := Lib.hid hne
    have HA := Lib.hid hA
    have HB := Lib.hid hB
    clear hn hne hA hB
    go_enter Try.func10, Try.ntmps10
    go_wp2
    go_loopw [5] (fun i wr => ∃ k : Nat, k ≤ n ∧ i = .int .i64 k ∧ xs.take k = ys.take k ∧ ∃ m, wr = w.drewN m) (fun i _ => n - (intOf i).toNat)
    case atStart => exact ⟨0, Nat.zero_le _, rfl, by simp, 0, rfl⟩
    case round =>
      obtain ⟨k, hk, rfl, ht, m, rfl⟩ := hrel
      have HT := Lib.hid ht
      clear ht
      by_cases hlt : k < n
      · have hkx : k < xs.length := by rw [← HN.out]; exact hlt
        have hky : k < ys.length := by rw [← HE.out, ← HN.out]; exact hlt
        obtain ⟨b, off, rfl, hb, hc⟩ := HA.out.at_ hkx
        obtain ⟨b', off', rfl, hb', hc'⟩ := HB.out.at_ hky
        obtain ⟨x, hx⟩ : ∃ x, x = xs.getD k 0 := ⟨_, rfl⟩
        obtain ⟨y, hy⟩ : ∃ y, y = ys.getD k 0 := ⟨_, rfl⟩
        rw [← hx] at hc
        rw [← hy] at hc'
        have HX := Lib.hid hx
        have HY := Lib.hid hy
        have HKX := Lib.hid hkx
        have HKY := Lib.hid hky
        clear hx hy hb hb' hkx hky
        have i0 : (0 : Int) ≤ (k : Int) := by omega
        have i1 : (k : Int) < (n : Int) := by omega
        by_cases hxy : x = y
        · subst hxy
          go_wp2
          go_quiet (fail)
          go_wp2
          go_roundw
          case rel => exact ⟨k + 1, by omega, by go_num, take_succ_eq HKX.out HKY.out HT.out (HX.out.symm.trans HY.out), _, rfl⟩
          case measure => simp [intOf]; omega
        · have hb1 : (x != y) = true := by simpa using hxy
          have R : Hid (eqL xs ys = false) := eqL_no (fun e => hxy (by rw [HX.out, HY.out, e]))
          clear hxy
          go_wp2
          go_quiet (fail)
          go_wp2
          go_ret
          exact ⟨ret_bool R.out.symm, _, World.drewN_drewN _ _ _⟩
      · have hkn : k = n := by omega
        subst hkn
        clear hlt
        go_wp2
        go_ret
        refine ⟨ret_bool ?_, m, rfl⟩
        have : xs = ys := eq_of_take HE.out (by rw [← HN.out]; exact HT.out)
        rw [this, eqL_self]
  · have R : Hid (eqL xs ys = false) := eqL_no (fun e => hne (by rw [e]))
    have h1 : ((xs.length : Int) != (ys.length : Int)) = true := by simp; omega
    clear hA hB hne
    go_enter Try.func10, Try.ntmps10
    go_wp2
    go_ret
    exact ⟨ret_bool R.out.symm, 0, rfl⟩

/-- 1, 2, .. from k on, as many as xs has. -/
def marks (k : Int) (n : Nat) : List Int := (List.range n).map fun (i : Nat) => k + (i : Int)
theorem marks_length (k : Int) (n : Nat) : (marks k n).length = n := by simp [marks]
theorem marks_getD (k : Int) (n j : Nat) (h : j < n) : (marks k n).getD j 0 = k + (j : Int) := by
  simp [marks, List.getD_eq_getElem?_getD, h]

/-- Only what lay at A may have changed. -/
def OnlyI (w w' : World) (A : Option Addr) : Prop := w.grownBy w' (A.map (·.block)) ∧ w'.heap.size = w.heap.size

/-- Marks are written into a list of the call's own. -/
theorem markInt64S_any (lo : Nat) (A : Option Addr) (c : Nat) (xs : List Int) (k0 : Int) (w : World) (h : OwnI w lo A c xs) (hl : xs.length ≤ 1048576) (hk0 : 0 ≤ k0) (hk1 : k0 ≤ 1000000000) :
    Calls Try.prog 13 #[.slice A xs.length c, .int .i64 k0] w fun e w' => e = .returned (.int .i64 (k0 + (xs.length : Int))) ∧ OwnI w' lo A c (marks k0 xs.length) ∧ OnlyI w w' A := by
  obtain ⟨n, hn⟩ : ∃ n, n = xs.length := ⟨_, rfl⟩
  rw [← hn] at hl ⊢
  rcases h with ⟨rfl, rfl, rfl⟩ | ⟨g, f, t, rfl, h1, h2, h3, h4, hr, _⟩
  · simp at hn
    subst hn
    go_enter Try.func13, Try.ntmps13
    go_wp2
    go_loop [1, 5] (fun m i => m = .int .i64 k0 ∧ i = .int .i64 0) (fun _ _ => 0)
    case atStart => exact ⟨rfl, rfl⟩
    case round =>
      obtain ⟨rfl, rfl⟩ := hrel
      go_wp2
      go_ret
      exact ⟨ret_int (by simp), .inl ⟨rfl, rfl, by simp [marks]⟩, ⟨rfl, rfl, rfl, Nat.le_refl _, fun _ _ _ => rfl⟩, rfl⟩
  · have H3 : n ≤ c := by omega
    have HN := Lib.hid hn
    have H4 := Lib.hid h4
    have HR := Lib.hid hr
    clear hn h3 h4 hr
    go_enter Try.func13, Try.ntmps13
    go_wp2
    go_loopw [1, 5] (fun m i wr => ∃ k : Nat, k ≤ n ∧ i = .int .i64 k ∧ m = .int .i64 (k0 + (k : Int)) ∧ wr.rowIs g t c (fun j => if j < k then .int .i64 (k0 + (j : Int)) else f j) ∧ Hid (w.grownBy wr (some g) ∧ wr.heap.size = w.heap.size))
      (fun _ i _ => n - (intOf i).toNat)
    case atStart => exact ⟨0, Nat.zero_le _, rfl, by simp, HR.out.congr (fun i _ => by simp), ⟨rfl, rfl, rfl, Nat.le_refl _, fun _ _ _ => rfl⟩, rfl⟩
    case round =>
      obtain ⟨k, hk, rfl, rfl, hr, hG⟩ := hrel
      by_cases hlt : k < n
      · have hc2 := hr.cell (i := k) (by omega)
        simp only [Nat.lt_irrefl, if_false] at hc2
        obtain ⟨v, hv⟩ : ∃ v, v = f k := ⟨_, rfl⟩
        rw [← hv] at hc2
        have hf2 := hr.frozen k
        have HRW := Lib.hid hr
        clear hr hv
        go_wp2
        go_roundw
        case rel =>
          refine ⟨k + 1, by omega, by go_num, by go_num, (HRW.out.set k _).congr (fun j _ => ?_), ⟨hG.out.1.os, hG.out.1.tape, hG.out.1.output, by simpa [World.setCell] using hG.out.1.size, fun q hq hne => ?_⟩, by simpa [World.setCell] using hG.out.2⟩
          · by_cases e : j = k
            · subst e; simp
            · simp only [e, if_false]
              by_cases e2 : j < k
              · simp [e2, Nat.lt_succ_of_lt e2]
              · have : ¬ j < k + 1 := by omega
                simp [e2, this]
          · rw [Below.heap_setCell _ _ _ _ (by intro e; exact hne (by rw [e]))]
            exact hG.out.1.block q hq hne
        case measure => simp [intOf]; omega
      · have hkn : k = n := by omega
        subst hkn
        have HRW := Lib.hid hr
        clear hr hlt
        go_wp2
        go_ret
        refine ⟨rfl, .inr ⟨g, _, _, rfl, h1, by rw [hG.out.2]; exact h2, by rw [marks_length]; exact H3, H4.out, HRW.out, fun j hj => ?_⟩, hG.out⟩
        rw [marks_length] at hj
        rw [marks_getD _ _ _ hj]
        simp [hj]

/-- Marks are read. -/
theorem heldInt64S_any (A : Option Addr) (c n : Nat) (k0 : Int) (w : World) (h : RowI w A (marks k0 n)) (hl : n ≤ 1048576) (hk0 : 0 ≤ k0) (hk1 : k0 ≤ 1000000000) :
    Calls Try.prog 14 #[.slice A n c, .int .i64 k0] w fun e w' => e = .returned (.int .i64 (k0 + (n : Int))) ∧ w = w' := by
  have HR := Lib.hid h
  clear h
  go_enter Try.func14, Try.ntmps14
  go_wp2
  go_loop [1, 5] (fun m i => ∃ k : Nat, k ≤ n ∧ i = .int .i64 k ∧ m = .int .i64 (k0 + (k : Int))) (fun _ i => n - (intOf i).toNat)
  case atStart => exact ⟨0, Nat.zero_le _, rfl, by simp⟩
  case round =>
    obtain ⟨k, hk, rfl, rfl⟩ := hrel
    by_cases hlt : k < n
    · obtain ⟨b, off, rfl, hb, hc⟩ := HR.out.at_ (k := k) (by rw [marks_length]; exact hlt)
      rw [marks_getD _ _ _ hlt] at hc
      clear hb
      go_wp2
      go_round
      case rel => exact ⟨k + 1, by omega, by go_num, by go_num⟩
      case measure => simp [intOf]; omega
    · have hkn : k = n := by omega
      subst hkn
      clear hlt
      go_wp2
      go_ret
      exact ⟨rfl, rfl⟩

/-! ### A call that hands back a list of its own and a code; what marks do to other lists -/
def GivesC (w : World) (ys : List Int) (k : Int) (e : Ending) (w' : World) : Prop :=
  ∃ A c, e = .returned (.tuple #[.slice A ys.length c, .int .i64 k]) ∧ OwnI w' w.heap.size A c ys ∧ Below w.heap.size w w'
theorem OwnI.lo_block {w : World} {lo : Nat} {A : Option Addr} {c : Nat} {xs : List Int} (h : OwnI w lo A c xs) : ∀ b, A.map (·.block) = some b → lo ≤ b ∧ b < w.heap.size := by
  intro b hb
  rcases h with ⟨rfl, _, _⟩ | ⟨g, f, t, rfl, h1, h2, _⟩
  · simp at hb
  · simp at hb; subst hb; exact ⟨h1, h2⟩
theorem below_only {s : Nat} {w0 w w' : World} {A : Option Addr} (hB : Below s w0 w) (hs : s ≤ w.heap.size) (ho : OnlyI w w' A) (hlo : ∀ b, A.map (·.block) = some b → s ≤ b) : Below s w0 w' :=
  hB.grown ho.1 hs (fun k e => hlo k e)
theorem OwnI.only {w w' : World} {lo : Nat} {B A : Option Addr} {d : Nat} {ys : List Int} (h : OwnI w lo B d ys) (ho : OnlyI w w' A) (hne : ∀ b, A.map (·.block) = some b → b < lo) : OwnI w' lo B d ys := by
  rcases h with h | ⟨g, f, t, e, h1, hl, hc, hm, hr, hf⟩
  · exact .inl h
  · exact .inr ⟨g, f, t, e, h1, by rw [ho.2]; exact hl, hc, hm, hr.of_block (ho.1.block g hl (fun e' => by have := hne g e'.symm; omega)), hf⟩
theorem OwnI.nil_ (w : World) (lo : Nat) : OwnI w lo none 0 [] := .inl ⟨rfl, rfl, rfl⟩
/-- From the append laws' word to this text's. -/
theorem ownI_of_owns {w : World} {lo : Nat} {v : Value} {xs : List Int} (h : w.ownsRow lo 2 1 v xs.length (xs.map (Value.int .i64))) :
    ∃ A c, v = .slice A xs.length c ∧ OwnI w lo A c xs := by
  rcases h.2 with ⟨rfl, h0⟩ | ⟨g, cap, cur, rfl, hb, hg, hc, hm, hs, ht⟩
  · have : xs = [] := by simpa using h0
    subst this
    exact ⟨none, 0, rfl, .inl ⟨rfl, rfl, rfl⟩⟩
  · have hs' : cur.size = cap := by omega
    refine ⟨some ⟨g, 0, none⟩, cap, rfl, .inr ⟨g, fun i => (cur[i]?).getD undef, _, rfl, hb, (Array.getElem?_eq_some_iff.1 hg).1, hc, hm, ⟨cur, hg, hs', fun i hi => ?_⟩, fun k hk => ?_⟩⟩
    · have : i < cur.size := by omega
      simp [this]
    · have h1 : (cur.toList.take (xs.length * 1))[k]? = (xs.map (Value.int .i64))[k]? := by rw [ht]
      rw [List.getElem?_take, if_pos (by omega)] at h1
      simp [hk] at h1
      simp [h1, List.getD_eq_getElem?_getD, hk]
end Go.Proofs.Ytmmpeaedglnjlaa
