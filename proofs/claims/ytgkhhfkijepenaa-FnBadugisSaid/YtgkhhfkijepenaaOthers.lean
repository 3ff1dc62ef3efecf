/-
  OtherCards in the reference and in the program.
-/
import Derived.Test.YtgkhhfkijepenaaOwnT
import Derived.Test.YtgkhhfkijepenaaDeck
import Derived.Test.YtgkhhfkijepenaaOwn
import Derived.Test.YtgkhhfkijepenaaMathOthers
import Derived.Deep.AppendLies
namespace Go.Proofs.Ytgkhhfkijepenaa
open Go.RowKit

/-- spec.l01Has. -/
theorem l01Has_any (A : Option Addr) (c : Nat) (xs : List Int) (x : Int) (w : World) (h : RowI w A xs) (hl : xs.length ≤ 1048576) :
    Calls Try.prog 77 #[.slice A xs.length c, .int .i64 x] w fun e w' => e = .returned (.bool (decide (x ∈ xs))) ∧ w = w' := by
  obtain ⟨n, hn⟩ : ∃ n, n = xs.length := ⟨_, rfl⟩
  rw [← hn] at hl ⊢
  have HN := Lib.hid hn
  have HR := Lib.hid h
  clear hn h
  go_enter Try.func77, Try.ntmps77
  go_wp2
  go_loop [5] (fun i => ∃ k : Nat, k ≤ n ∧ i = .int .i64 k ∧ Hid (∀ j, j < k → xs.getD j 0 ≠ x)) (fun i => n - (intOf i).toNat)
  case atStart => exact ⟨0, Nat.zero_le _, rfl, fun j hj => absurd hj (by omega)⟩
  case round =>
    obtain ⟨k, hk, rfl, hne⟩ := hrel
    by_cases hlt : k < n
    · have hkx : k < xs.length := by rw [← HN.out]; exact hlt
      obtain ⟨b, off, rfl, hb, hc⟩ := HR.out.at_ hkx
      obtain ⟨y, hy⟩ : ∃ y, y = xs.getD k 0 := ⟨_, rfl⟩
      rw [← hy] at hc
      have HY := Lib.hid hy
      have HK := Lib.hid hkx
      clear hy hb hkx
      by_cases hxy : y = x
      · subst hxy
        go_wp2
        go_ret
        exact ⟨ret_bool (decide_eq_true (has_yes HK.out HY.out)).symm, rfl⟩
      · have g : (y == x) = false := by simpa using hxy
        have HX := Lib.hid hxy
        clear hxy
        go_wp2
        go_round
        case rel => exact ⟨k + 1, by omega, by go_num, fun j hj => by
          rcases Nat.lt_or_ge j k with h1 | h1
          · exact hne.out j h1
          · have : j = k := by omega
            rw [this, ← HY.out]; exact HX.out⟩
        case measure => simp [intOf]; omega
    · have hkn : k = n := by omega
      subst hkn
      clear hlt
      go_wp2
      go_ret
      exact ⟨ret_bool (decide_eq_false (has_no (by rw [← HN.out]; exact hne.out))).symm, rfl⟩
theorem l01Has_yes {A : Option Addr} {c : Nat} {xs : List Int} {x : Int} {w : World} (h : RowI w A xs) (hl : xs.length ≤ 1048576) (hx : x ∈ xs) :
    Calls Try.prog 77 #[.slice A xs.length c, .int .i64 x] w fun e w' => e = .returned (.bool true) ∧ w = w' := by
  refine (l01Has_any A c xs x w h hl).mono ?_
  rintro e w' ⟨he, hw⟩
  exact ⟨by rw [he, decide_eq_true hx], hw⟩
theorem l01Has_not {A : Option Addr} {c : Nat} {xs : List Int} {x : Int} {w : World} (h : RowI w A xs) (hl : xs.length ≤ 1048576) (hx : x ∉ xs) :
    Calls Try.prog 77 #[.slice A xs.length c, .int .i64 x] w fun e w' => e = .returned (.bool false) ∧ w = w' := by
  refine (l01Has_any A c xs x w h hl).mono ?_
  rintro e w' ⟨he, hw⟩
  exact ⟨by rw [he, decide_eq_false hx], hw⟩

set_option maxHeartbeats 1000000 in
theorem l02Others_own (A : Option Addr) (c : Nat) (xs : List Int) (w : World) (h : RowI w A xs) (hl : xs.length ≤ 1048576) :
    Calls Try.prog 62 #[.slice A xs.length c] w (GivesT w (othK xs 52)) := by
  have HR := Lib.hid h
  clear h
  obtain ⟨i0, hi, hz0, hz1, hz2⟩ := info_parts int_info
  have HI := Lib.hid (And.intro hi (And.intro hz0 (And.intro hz1 hz2)))
  clear hi hz0 hz1 hz2
  go_enter Try.func62, Try.ntmps62
  go_wp2
  go_loopw [3, 4] (fun v i wr => ∃ k : Nat, k ≤ 52 ∧ i = .int .i64 k ∧ Hid (wr.ownsRow w.heap.size 2 1 v (othK xs k).length ((othK xs k).map (Value.int .i64))) ∧ Hid (Below w.heap.size w wr))
    (fun _ i _ => 52 - (intOf i).toNat)
  case atStart => exact ⟨0, Nat.zero_le _, rfl, World.ownsRow_made w #[] 0 (Nat.le_refl _) (by decide) rfl, (Below.refl _ _).alloc (Nat.le_refl _) _⟩
  case round =>
    obtain ⟨k, hk, rfl, hown, hB⟩ := hrel
    by_cases hlt : k < 52
    · by_cases hin : (k : Int) ∈ xs
      · have HM := Lib.hid hin
        clear hin
        go_wp2_with (go_at_call 77; refine (l01Has_yes (HR.out.below hB.out) hl HM.out).mono ?_; rintro e w2 ⟨rfl, rfl⟩)
        go_roundw
        case rel => exact ⟨k + 1, by omega, by go_num, by rw [othK_in HM.out]; exact hown, hB⟩
        case measure => simp [intOf]; omega
      · have HM := Lib.hid hin
        have hle := othK_le xs k
        obtain ⟨m, hm⟩ : ∃ m, m = (othK xs k).length := ⟨_, rfl⟩
        have HMM := Lib.hid hm
        rw [← hm] at hle hown
        clear hin hm
        go_wp2_with (first
          | (go_at_call 77; refine (l01Has_not (HR.out.below hB.out) hl HM.out).mono ?_; rintro e w2 ⟨rfl, rfl⟩)
          | (at_builtin; refine wpList_append_lies _ rfl (.tmp 14) (.tmp 16) 24 rfl w.heap.size 2 i0 (.int .i64 0) 1 8 Try.underlying24 HI.out.1 HI.out.2.1 HI.out.2.2.1 HI.out.2.2.2 rfl (by decide) _ m _ rfl (hown.out.alloc _) ⟨wr.heap.size, 0, none⟩ 1 1 [.int .i64 (k : Int)] rfl rfl (World.news_of_block (heap_alloc_new _ _)) (by simp [Value.oneCell']) (by decide) (by simp only [maxLen]; omega) (by omega) (by simp; have := hB.out.size; omega) _ rfl ?_
             intro g cap w2 hown2 hgrow2 hat hlt2
             have R1 := Lib.hid hown2
             have G1 := Lib.hid (hB.out.trans ((((Below.refl _ _).alloc hB.out.size _)).grown hgrow2 (by simp; have := hB.out.size; omega) (fun j e => (hown.out.lt j e).1)))
             clear hown2 hgrow2 hat hlt2))
        go_roundw
        case rel =>
          refine ⟨k + 1, by omega, by go_num, ?_, G1⟩
          show World.ownsRow _ _ _ _ _ _ _
          rw [othK_out HM.out, List.map_append, List.map_cons, List.map_nil, List.length_append, ← HMM.out]
          exact R1.out
        case measure => simp [intOf]; omega
    · have hkn : k = 52 := by omega
      subst hkn
      obtain ⟨A', c', hv, ho⟩ := ownT_of_owns hown.out
      have HO := Lib.hid ho
      subst hv
      clear ho hlt
      go_wp2
      go_ret
      exact ⟨A', c', rfl, HO.out, hB.out⟩
theorem l02Others_any (A : Option Addr) (c : Nat) (xs : List Int) (w : World) (h : RowI w A xs) (hl : xs.length ≤ 1048576) :
    Calls Try.prog 62 #[.slice A xs.length c] w (GivesI w (othK xs 52)) := (l02Others_own A c xs w h hl).mono fun _ _ h => h.gives

end Go.Proofs.Ytgkhhfkijepenaa
