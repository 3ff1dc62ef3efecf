/-
  CategoryName and CategorySize: the tables that the program's variables hold, and both functions in the reference and in the program.
-/
import Derived.Test.YtbhlghadjcbilaaDoorRows
import Derived.Test.YtbhlghadjcbilaaDoorBase
import Derived.Lib.LaidTab
import Derived.Stop.LaidErr
import Derived.LaidHandle
import Derived.Lay
import Derived.OpenShut
namespace Go.Proofs.YtbhlghadjcbilaaDoor
open Go.RowKit

def sizes : List Int := [1302540, 1098240, 123552, 54912, 10200, 5108, 3744, 624, 40]
def names : List (List UInt8) := [[104, 105, 103, 104, 32, 99, 97, 114, 100], [112, 97, 105, 114], [116, 119, 111, 32, 112, 97, 105, 114, 115], [116, 104, 114, 101, 101, 32, 111, 102, 32, 97, 32, 107, 105, 110, 100], [115, 116, 114, 97, 105, 103, 104, 116], [102, 108, 117, 115, 104], [102, 117, 108, 108, 32, 104, 111, 117, 115, 101], [102, 111, 117, 114, 32, 111, 102, 32, 97, 32, 107, 105, 110, 100], [115, 116, 114, 97, 105, 103, 104, 116, 32, 102, 108, 117, 115, 104]]

/-- A table of strings as a row lists it. -/
def strData {H : Type} (ss : List (List UInt8)) : DataW H := .agg (ss.map fun s => .lit (.string s))
theorem cells_of_strs {H : Type} {enc : TypeId × Value → H} {P : Program} {w : World} {base : Nat} {sp : Nat → Bool} {held : Bool} {fuel : Nat} {t e : TypeId} {n : Nat} {cs : List Value} {ss : List (List UInt8)} {p : List MemPlace}
    (ht : P.underlying t = some (.array n e)) (he : P.underlying e = some .string) (hce : P.cellsOf e = 1) (hct : P.cellsOf t = n)
    (h : DataW.trod enc P w base sp held fuel t cs = some (strData ss, p)) : ∀ i, i < n → cs[i]? = some (.string ⟨(ss.getD i []).toArray⟩) := by
  intro i hi
  obtain ⟨xs, m, _, ex, hlen, hl, hel⟩ := DataW.trod_array ht h
  have e1 : ss.map (fun s => (DataW.lit (.string s) : DataW H)) = xs.map (·.1) := DataW.agg.inj (Prod.mk.inj ex).1
  have k := hel i hi
  obtain ⟨x, hx⟩ : ∃ x, xs[i]? = some x := ⟨_, List.getElem?_eq_getElem (by omega)⟩
  rw [hx, hce, Nat.mul_one] at k
  obtain ⟨s, a, b, _⟩ := DataW.trod_string he k
  have h1 : cs[i]? = some (.string s) := by
    have := congrArg (·[0]?) a
    simpa [List.getElem?_take, List.getElem?_drop] using this
  have h2 : (xs.map (·.1))[i]? = some (DataW.lit (.string s.data.toList) : DataW H) := by
    rw [List.getElem?_map, hx, b]; rfl
  rw [← e1, List.getElem?_map] at h2
  obtain ⟨z, hz, ez⟩ := Option.map_eq_some_iff.1 h2
  have e3 : z = s.data.toList := by injection ez with e; injection e
  rw [h1, List.getD_eq_getElem?_getD, hz, e3]
  rfl

theorem sizes_of {W : World} {rest : List (String × DataW Unit)} (h : laidMet Tryd.prog (("loop.example/g00910/impl.categorySizes", Rows.laid_loop_example_g00910_impl_categorySizes) :: rest) W) (i : Nat) (hi : i < 9) :
    W.cell? ⟨0, i, none⟩ = some (.int .i64 (sizes.getD i 0)) :=
  have g : Tryd.prog.globalNamed "loop.example/g00910/impl.categorySizes" = some 0 := by kernel_rfl
  (Lib.tabIs_of_head (k := .i64) (zs := sizes) g (t := 33) (by kernel_rfl) Tryd.underlying33 Tryd.underlying2 (by kernel_rfl) (by kernel_rfl) (show laidMet Tryd.prog (("loop.example/g00910/impl.categorySizes", Lib.tabData .i64 sizes) :: rest) W from h)).cell g i hi

theorem names_of {W : World} {rest : List (String × DataW Unit)} (h : laidMet Tryd.prog (("loop.example/g00910/impl.categoryNames", Rows.laid_loop_example_g00910_impl_categoryNames) :: rest) W) (i : Nat) (hi : i < 9) :
    W.cell? ⟨1, i, none⟩ = some (.string ⟨(names.getD i []).toArray⟩) := by
  have g : Tryd.prog.globalNamed "loop.example/g00910/impl.categoryNames" = some 1 := by kernel_rfl
  obtain ⟨ps, ⟨g', t', cs, fuel, p, q, hg', ht', hvar, hd, _, _⟩, _⟩ := h
  obtain rfl := Option.some.inj (g.symm.trans hg')
  obtain rfl := Option.some.inj ((show (Tryd.prog.globals[1]?).map (·.type) = some 42 by kernel_rfl).symm.trans ht')
  have := cells_of_strs (ss := names) Tryd.underlying42 Tryd.underlying9 (by kernel_rfl) (by kernel_rfl) hd i hi
  have k := World.var?_cell g hvar i
  rw [k]
  simpa using this

theorem l04Is_yes (n : Int) (w : World) (h1 : 0 ≤ n) (h2 : n ≤ 8) :
    Calls Tryd.prog 16 #[.int .i64 n] w fun e w' => e = .returned (.bool true) ∧ w = w' := by
  go_enter Tryd.func16, Tryd.ntmps16
  go_wp2
  go_ret
  exact ⟨rfl, rfl⟩
theorem nine {n : Int} (h1 : 0 ≤ n) (h2 : n ≤ 8) : n = 0 ∨ n = 1 ∨ n = 2 ∨ n = 3 ∨ n = 4 ∨ n = 5 ∨ n = 6 ∨ n = 7 ∨ n = 8 := by omega

def szV (n : Int) : Int := if 0 ≤ n ∧ n ≤ 8 then sizes.getD n.toNat 0 else 0
def szC (n : Int) : Int := if 0 ≤ n ∧ n ≤ 8 then 0 else 2
def naV (n : Int) : ByteArray := if 0 ≤ n ∧ n ≤ 8 then ⟨(names.getD n.toNat []).toArray⟩ else ⟨#[]⟩
theorem sz_yes {n : Int} (h : 0 ≤ n ∧ n ≤ 8) : szV n = sizes.getD n.toNat 0 ∧ szC n = 0 := by unfold szV szC; rw [if_pos h, if_pos h]; exact ⟨rfl, rfl⟩
theorem sz_no {n : Int} (h : ¬ (0 ≤ n ∧ n ≤ 8)) : szV n = 0 ∧ szC n = 2 := by unfold szV szC; rw [if_neg h, if_neg h]; exact ⟨rfl, rfl⟩
theorem na_yes {n : Int} (h : 0 ≤ n ∧ n ≤ 8) : naV n = ⟨(names.getD n.toNat []).toArray⟩ := by unfold naV; rw [if_pos h]
theorem na_no {n : Int} (h : ¬ (0 ≤ n ∧ n ≤ 8)) : naV n = ⟨#[]⟩ := by unfold naV; rw [if_neg h]

theorem implSize_any (n : Int) (w : World) (hc : ∀ i, i < 9 → w.cell? ⟨0, i, none⟩ = some (.int .i64 (sizes.getD i 0))) :
    Calls Tryd.prog 6 #[.int .i64 n] w fun e w' => e = .returned (.tuple #[.int .i64 (szV n), .int .i64 (szC n)]) ∧ w = w' := by
  by_cases h : 0 ≤ n ∧ n ≤ 8
  · have R := Lib.hid (sz_yes h)
    obtain ⟨h0, h1⟩ := h
    obtain ⟨k, rfl⟩ : ∃ k : Nat, n = (k : Int) := ⟨n.toNat, by omega⟩
    have hk : k < 9 := by omega
    have hki : (k : Int) < 9 := by omega
    have c := hc k hk
    clear hc
    go_enter Tryd.func6, Tryd.ntmps6
    go_wp2
    go_ret2
    exact ⟨by rw [R.out.1, R.out.2]; rfl, rfl⟩
  · have R := Lib.hid (sz_no h)
    clear hc
    by_cases h0 : 0 ≤ n
    · have h1 : ¬ n ≤ 8 := fun e => h ⟨h0, e⟩
      have h8 : 8 < n := by omega
      have hd : decide (n ≤ 8) = false := by simp; omega
      clear h h1
      go_enter Tryd.func6, Tryd.ntmps6
      go_wp2
      go_ret2
      exact ⟨by rw [R.out.1, R.out.2]; rfl, rfl⟩
    · have h8 : n < 0 := by omega
      clear h h0
      go_enter Tryd.func6, Tryd.ntmps6
      go_wp2
      go_ret2
      exact ⟨by rw [R.out.1, R.out.2]; rfl, rfl⟩
set_option maxHeartbeats 4000000 in
set_option maxRecDepth 100000 in
theorem specSize_any (n : Int) (w : World) :
    Calls Tryd.prog 7 #[.int .i64 n] w fun e w' => e = .returned (.tuple #[.int .i64 (szV n), .int .i64 (szC n)]) ∧ Below w.heap.size w w' := by
  by_cases h : 0 ≤ n ∧ n ≤ 8
  · have R := Lib.hid (sz_yes h)
    obtain ⟨h0, h1⟩ := h
    rcases nine h0 h1 with rfl | rfl | rfl | rfl | rfl | rfl | rfl | rfl | rfl
    all_goals
      clear h0 h1
      go_enter Tryd.func7, Tryd.ntmps7
      go_wp2
      go_ret2
      exact ⟨by rw [R.out.1, R.out.2]; rfl, (Below.refl _ _).alloc (Nat.le_refl _) _⟩
  · have R := Lib.hid (sz_no h)
    by_cases h0 : 0 ≤ n
    · have h1 : ¬ n ≤ 8 := fun e => h ⟨h0, e⟩
      have h8 : 8 < n := by omega
      have hd : decide (n ≤ 8) = false := by simp; omega
      clear h h1
      go_enter Tryd.func7, Tryd.ntmps7
      go_wp2
      go_ret2
      exact ⟨by rw [R.out.1, R.out.2]; rfl, Below.refl _ _⟩
    · have h8 : n < 0 := by omega
      clear h h0
      go_enter Tryd.func7, Tryd.ntmps7
      go_wp2
      go_ret2
      exact ⟨by rw [R.out.1, R.out.2]; rfl, Below.refl _ _⟩

theorem implName_any (n : Int) (w : World) (hc : ∀ i, i < 9 → w.cell? ⟨1, i, none⟩ = some (.string ⟨(names.getD i []).toArray⟩)) :
    Calls Tryd.prog 13 #[.int .i64 n] w fun e w' => e = .returned (.string (naV n)) ∧ w = w' := by
  by_cases h : 0 ≤ n ∧ n ≤ 8
  · have R := Lib.hid (na_yes h)
    obtain ⟨h0, h1⟩ := h
    obtain ⟨k, rfl⟩ : ∃ k : Nat, n = (k : Int) := ⟨n.toNat, by omega⟩
    have hk : k < 9 := by omega
    have hki : (k : Int) < 9 := by omega
    have c := hc k hk
    clear hc
    go_enter Tryd.func13, Tryd.ntmps13
    go_wp2
    go_ret
    exact ⟨by rw [R.out]; rfl, rfl⟩
  · have R := Lib.hid (na_no h)
    clear hc
    by_cases h0 : 0 ≤ n
    · have h1 : ¬ n ≤ 8 := fun e => h ⟨h0, e⟩
      have h8 : 8 < n := by omega
      have hd : decide (n ≤ 8) = false := by simp; omega
      clear h h1
      go_enter Tryd.func13, Tryd.ntmps13
      go_wp2
      go_ret
      exact ⟨by rw [R.out]; rfl, rfl⟩
    · have h8 : n < 0 := by omega
      clear h h0
      go_enter Tryd.func13, Tryd.ntmps13
      go_wp2
      go_ret
      exact ⟨by rw [R.out]; rfl, rfl⟩

set_option maxHeartbeats 4000000 in
set_option maxRecDepth 100000 in
theorem specName_any (n : Int) (w : World) :
    Calls Tryd.prog 14 #[.int .i64 n] w fun e w' => e = .returned (.string (naV n)) ∧ Below w.heap.size w w' := by
  by_cases h : 0 ≤ n ∧ n ≤ 8
  · have R := Lib.hid (na_yes h)
    obtain ⟨h0, h1⟩ := h
    rcases nine h0 h1 with rfl | rfl | rfl | rfl | rfl | rfl | rfl | rfl | rfl
    all_goals
      clear h0 h1
      go_enter Tryd.func14, Tryd.ntmps14
      go_wp2
      go_ret
      exact ⟨by rw [R.out]; rfl, (Below.refl _ _).alloc (Nat.le_refl _) _⟩
  · have R := Lib.hid (na_no h)
    by_cases h0 : 0 ≤ n
    · have h1 : ¬ n ≤ 8 := fun e => h ⟨h0, e⟩
      have h8 : 8 < n := by omega
      have hd : decide (n ≤ 8) = false := by simp; omega
      clear h h1
      go_enter Tryd.func14, Tryd.ntmps14
      go_wp2
      go_ret
      exact ⟨by rw [R.out]; rfl, Below.refl _ _⟩
    · have h8 : n < 0 := by omega
      clear h h0
      go_enter Tryd.func14, Tryd.ntmps14
      go_wp2
      go_ret
      exact ⟨by rw [R.out]; rfl, Below.refl _ _⟩

end Go.Proofs.YtbhlghadjcbilaaDoor
