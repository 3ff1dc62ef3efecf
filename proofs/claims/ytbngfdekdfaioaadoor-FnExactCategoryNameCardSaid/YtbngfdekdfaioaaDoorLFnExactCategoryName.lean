/-
  The law FnExactCategoryName: the row and the tied card.
-/
import Derived.Test.YtbngfdekdfaioaaDoorCatWalk
import Derived.Test.YtbngfdekdfaioaaDoorCards
import Derived.Test.YtbngfdekdfaioaaDoorTie
import Derived.ProofKit
import Derived.Handy
import Derived.Lay
import Derived.SevenTiedAt
import Derived.OpenVars
import Derived.OpenShut
import Derived.ChangeVars
namespace Go.Proofs.YtbngfdekdfaioaaDoor.fnExactCategoryName
open Go.ChangeShapes Go.WideShapes Go.ChangeAt Go.RowKit
set_option linter.unusedVariables false

theorem cell_in {w : World} {a : Addr} {v : Value} (h : w.cell? a = some v) : a.block < w.heap.size := by
  by_cases h' : a.block < w.heap.size
  · exact h'
  · simp [World.cell?, Array.getElem?_eq_none (Nat.le_of_not_lt h')] at h

set_option maxHeartbeats 1000000 in
theorem walk (n : Int) (w : World) (hc : ∀ i, i < 9 → w.cell? ⟨0, i, none⟩ = some (.string ⟨(names.getD i []).toArray⟩)) :
    Calls Tryd.prog 3 #[.int .i64 n] w fun e w' => e = .returned (.bool true) ∧ Below w.heap.size w w' := by
  have HC := Lib.hid hc
  have lt : 0 < w.heap.size := cell_in (hc 0 (by omega))
  clear hc
  go_enter Tryd.func3, Tryd.ntmps3
  go_wp2_with fail
  refine (specName_any n _).mono ?_
  rintro e w1 ⟨rfl, hb⟩
  have C1 : Hid (∀ i, i < 9 → w1.cell? ⟨0, i, none⟩ = some (.string ⟨(names.getD i []).toArray⟩)) := fun i hi => (hb.cell (p := ⟨0, i, none⟩) lt).trans (HC.out i hi)
  have B := Lib.hid hb
  clear hb
  go_wp2_with fail
  refine (implName_any n _ C1.out).mono ?_
  rintro e w2 ⟨rfl, rfl⟩
  go_wp2
  go_ret
  exact ⟨rfl, B.out⟩

theorem own : ownKnob Tryd.prog.godebug = none := by kernel_rfl
theorem laidOut : laidOutB Tryd.prog = true := by kernel_rfl
def LD : List (String × DataW Unit) := [("loop.example/g00910/impl.categoryNames", Rows.laid_loop_example_g00910_impl_categoryNames)]

set_option maxRecDepth 100000 in
theorem lifted (os : Os) (started : os.Started) (H : Type) (enc : TypeId × Value → H) :
    ReturnsInHanded {} Tryd.checked os 3 .any (fun w args => (Rows.fnExactCategoryNameSpec.pre enc Tryd.prog Tryd.f3 [] false w args ∧ laidMetH Tryd.prog LD w) ∧ sizedMet enc Tryd.prog Tryd.f3 (OpenSpec.ofChange Rows.fnExactCategoryNameSpec) false w args)
      (Rows.fnExactCategoryNameSpec.post enc Tryd.prog Tryd.f3 false true false false) := by
  refine returnsInHanded_of_change_and (C := Tryd.checked) (X := fun w _ => laidMetH Tryd.prog LD w) (fun _ _ _ hh h => h.of_heap hh) own started (by kernel_rfl) Tryd.func3
    (ChangeSpec.witness_shaped (enc := enc) (C := Tryd.checked) (os := os) (X := fun w _ => laidMetH Tryd.prog LD w) false (World.laidAll Tryd.prog os LD) #[.int .i64 0] 8 (World.laidAll_os _ _ _)
      (World.shaped_of_ZipB (by kernel_rfl) (by kernel_rfl)) (by kernel_rfl) (by kernel_rfl) (by kernel_rfl)
      (by rw [MakeChecks.laidMetH_plain _ _ _ (by kernel_rfl)]; exact laidMet_laidAll _ (by kernel_rfl) (by kernel_rfl))) ?_
  intro W base args ds gs before hval0 hW _ _ hL _
  have hval : ∀ (j : Nat) t v, Tryd.f3.params[j]? = some t → args[j]? = some v → Value.okWide Tryd.prog W .any base t v := hval0
  have hW' := hW
  obtain ⟨p, q, hA0, hV, rfl, _, _⟩ := hW
  have hA : DataW.TrodAll enc Tryd.prog W 0 (fun _ => true) true Tryd.f3.params.toList args.toList ds p := hA0
  rw [Tryd.params3] at hA hval
  obtain ⟨v0, d0, rfl, rfl, h0⟩ := trodAll_one hA
  obtain ⟨x, rfl, rfl, rfl, wx⟩ := open_int Tryd.underlying2 (hval 0 2 v0 rfl rfl) h0
  have hV1 : DataW.TrodVars enc Tryd.prog W (fun _ => true) ["loop.example/g00910/impl.categoryNames"] gs q := hV
  obtain ⟨_, _, _, _, g1, _, rfl, _⟩ := trodVars_one hV1
  have hL1 : laidMet Tryd.prog LD W := by
    have h := hL
    rw [MakeChecks.laidMetH_plain _ _ _ (by kernel_rfl)] at h
    exact h
  refine (walk x W (fun i hi => names_of hL1 i hi)).mono fun e W' ⟨he, hb⟩ => ?_
  subst he
  exact ⟨_, rfl, _, _, _, [], [], q, hW', trodAll_mk1 (shut_bool Tryd.underlying4 _), trodAll_mk1 (shut_int Tryd.underlying2 wx), hb.trodVars laidOut (by kernel_rfl) hV, hb.frame _, fun h => by cases h⟩

theorem holds : Rows.FnExactCategoryNameSaid :=
  OpenClaim.holds_of_wide 3 Tryd.f3 rfl rfl rfl rfl rfl rfl rfl ⟨rfl, rfl, rfl, rfl, rfl⟩ rfl rfl rfl rfl rfl (by kernel_rfl) Tryd.func3 (by kernel_rfl)
    (of_decide_eq_true (by kernel_rfl)) (by unfold Func.isWrapper; first | (rw [if_pos (by decide +kernel)]; kernel_rfl) | (rw [if_neg (by decide +kernel)]; exact ⟨rfl, rfl⟩))
    (fun os started H enc _ => lifted os started H enc)

/-- The statement. -/
theorem card : Rows.FnExactCategoryNameCardSaid :=
  Claim7.holds_tied_plain_at .later [] [.data] true (Rows.fnExactCategoryNameCard.stood.harness) false holds (fun _ h => by cases h) (by kernel_rfl) (fun _ h => by cases h) fnExactCategoryName_row_tie rfl ⟨rfl, rfl⟩ (by kernel_rfl) rfl
    (fun f fn hf hfn => by
      obtain rfl : f = 3 := Option.some.inj ((show Tryd.prog.funcNamed "loop.example/g00910/laws.FnExactCategoryName" = some 3 by kernel_rfl).symm.trans hf) |>.symm
      obtain rfl : fn = Tryd.f3 := (Option.some.inj (Tryd.func3.symm.trans hfn)).symm
      exact ⟨by kernel_rfl, fun j t ht => by
        rw [Tryd.params3] at ht
        have hm : t ∈ [2] := by simpa using Array.mem_of_getElem? ht
        have hall : ([2].all fun u => !Tryd.prog.wantsStandIn u) = true := by kernel_rfl
        exact (show Tryd.prog.wantsStandIn t = false by simpa using List.all_eq_true.1 hall t hm)⟩)
    (by kernel_rfl)
#print axioms card
end Go.Proofs.YtbngfdekdfaioaaDoor.fnExactCategoryName
