/-
  OtherCards in the reference and in the program.
-/
import Derived.Test.YtmmpeaedglnjlaaOwnT
import Derived.Test.YtmmpeaedglnjlaaDeck
import Derived.Test.YtmmpeaedglnjlaaOwn
import Derived.Test.YtmmpeaedglnjlaaMathOthers
import Derived.Deep.AppendLies
namespace Go.Proofs.Ytmmpeaedglnjlaa
open Go.RowKit

/-- spec.l01Has. -/
theorem l01Has_any (A : Option Addr) (c : Nat) (xs : List Int) (x : Int) (w : World) (h : RowI w A xs) (hl : xs.length ≤ 1048576) :
    Calls Try.prog 62 #[.slice A xs.length c, .int .i64 x] w fun e w' => e = .returned (.bool (decide (x ∈ xs))) ∧ w = w' := by
  obtain ⟨n, hn⟩ : ∃ n, n = xs.length := ⟨_, rfl⟩
  rw [← hn] at hl ⊢
  have HN := Lib.hid hn
  have HR := Lib.hid h
  clear hn h
  go_enter Try.func62, Try.ntmps62
  go_wp2
  go_loop [5] (fun i => ∃ k : Nat, k ≤ n ∧ i = .int .i64 k ∧ Hid (∀ j, j < k → xs.getD j 0 ≠ x)) (fun i => n - (intOf i).toNat)
  case atStart => exact ⟨0, Nat.zero_le _, rfl, fun j hj => absurd hj (by omega)⟩
  case round =>
    obtain ⟨k, hk, rfl, hne⟩ := hrel
    by_cases hlt : k < n
    · have hkx : k < xs.length := by rw [← HN.out]; exact hlt
      obtain ⟨b, off, rfl, hb, hc⟩ := HR.out.at_ hkx
      obtain ⟨y, hy⟩ : ∃ y, y = xs.getD k 0 := ⟨_, rfl⟩
      rw [← hy] at hc
      have HY := Lib.hid hy
      have HK := Lib.hid hkx
      clear hy hb hkx
      by_cases hxy : y = x
      · subst hxy
        go_wp2
        go_ret
        exact ⟨ret_bool (decide_eq_true (has_yes HK.out HY.out)).symm, rfl⟩
      · have g : (y == x) = false := by simpa using hxy
        have HX := Lib.hid hxy
        clear hxy
        go_wp2
        go_round
        case rel => exact ⟨k + 1, by omega, by go_num, fun j hj => by
          rcases Nat.lt_or_ge j k with h1 | h1
          · exact hne.out j h1
          · have : j = k := by omega
            rw [this, ← HY.out]; exact HX.out⟩
        case measure => simp [intOf]; omega
    · have hkn : k = n := by omega
      subst hkn
      clear hlt
      go_wp2
      go_ret
      exact ⟨ret_bool (decide_eq_false (has_no (by rw [← HN.out]; exact hne.out))).symm, rfl⟩
theorem l01Has_yes {A : Option Addr} {c : Nat} {xs : List Int} {x : Int} {w : World} (h : RowI w A xs) (hl : xs.length ≤ 1048576) (hx : x ∈ xs) :
    Calls Try.prog 62 #[.slice A xs.length c, .int .i64 x] w fun e w' => e = .returned (.bool true) ∧ w = w' := by
  refine (l01Has_any A c xs x w h hl).mono ?_
  rintro e w' ⟨he, hw⟩
  exact ⟨by rw [he, decide_eq_true hx], hw⟩
theorem l01Has_not {A : Option Addr} {c : Nat} {xs : List Int} {x : Int} {w : World} (h : RowI w A xs) (hl : xs.length ≤ 1048576) (hx : x ∉ xs) :
    Calls Try.prog 62 #[.slice A xs.length c, .int .i64 x] w fun e w' => e = .returned (.bool false) ∧ w = w' := by
  refine (l01Has_any A c xs x w h hl).mono ?_
  rintro e w' ⟨he, hw⟩
  exact ⟨by rw [he, decide_eq_false hx], hw⟩

set_option maxHeartbeats 1000000 in
theorem l02Others_own (A : Option Addr) (c : Nat) (xs : List Int) (w : World) (h : RowI w A xs) (hl : xs.length ≤ 1048576) :
    Calls Try.prog 57 #[.slice A xs.length c] w (GivesT w (othK xs 52)) := by
  have HR := Lib.hid h
  clear h
  obtain ⟨i0, hi, hz0, hz1, hz2⟩ := info_parts int_info
  have HI := Lib.hid (And.intro hi (And.intro hz0 (And.intro hz1 hz2)))
  clear hi hz0 hz1 hz2
  go_enter Try.func57, Try.ntmps57
  go_wp2
  go_loopw [3, 4] (fun v i wr => ∃ k : Nat, k ≤ 52 ∧ i = .int .i64 k ∧ Hid (wr.ownsRow w.heap.size 2 1 v (othK xs k).length ((othK xs k).map (Value.int .i64))) ∧ Hid (Below w.heap.size w wr))
    (fun _ i _ => 52 - (intOf i).toNat)
  case atStart => exact ⟨0, Nat.zero_le _, rfl, World.ownsRow_made w #[] 0 (Nat.le_refl _) (by decide) rfl, (Below.refl _ _).alloc (Nat.le_refl _) _⟩
  case round =>
    obtain ⟨k, hk, rfl, hown, hB⟩ := hrel
    by_cases hlt : k < 52
    · by_cases hin : (k : Int) ∈ xs
      · have HM := Lib.hid hin
        clear hin
        go_wp2_with (go_at_call 62; refine (l01Has_yes (HR.out.below hB.out) hl HM.out).mono ?_; rintro e w2 ⟨rfl, rfl⟩)
        go_roundw
        case rel => exact ⟨k + 1, by omega, by go_num, by rw [othK_in HM.out]; exact hown, hB⟩
        case measure => simp [intOf]; omega
      · have HM := Lib.hid hin
        have hle := othK_le xs k
        obtain ⟨m, hm⟩ : ∃ m, m = (othK xs k).length := ⟨_, rfl⟩
        have HMM := Lib.hid hm
        rw [← hm] at hle hown
        clear hin hm
        go_wp2_with (first
          | (go_at_call 62; refine (l01Has_not (HR.out.below hB.out) hl HM.out).mono ?_; rintro e w2 ⟨rfl, rfl⟩)
          | (at_builtin; refine wpList_append_lies _ rfl (.tmp 14) (.tmp 16) 22 rfl w.heap.size 2 i0 (.int .i64 0) 1 8 Try.underlying22 HI.out.1 HI.out.2.1 HI.out.2.2.1 HI.out.2.2.2 rfl (by decide) _ m _ rfl (hown.out.alloc _) ⟨wr.heap.size, 0, none⟩ 1 1 [.int .i64 (k : Int)] rfl rfl (World.news_of_block (heap_alloc_new _ _)) (by simp [Value.oneCell']) (by decide) (by simp only [maxLen]; omega) (by omega) (by simp; have := hB.out.size; omega) _ rfl ?_
             intro g cap w2 hown2 hgrow2 hat hlt2
             have R1 := Lib.hid hown2
             have G1 := Lib.hid (hB.out.trans ((((Below.refl _ _).alloc hB.out.size _)).grown hgrow2 (by simp; have := hB.out.size; omega) (fun j e => (hown.out.lt j e).1)))
             clear hown2 hgrow2 hat hlt2))
        go_roundw
        case rel =>
          refine ⟨k + 1, by omega, by go_num, ?_, G1⟩
          show World.ownsRow _ _ _ _ _ _ _
          rw [othK_out HM.out, List.map_append, List.map_cons, List.map_nil, List.length_append, ← HMM.out]
          exact R1.out
        case measure => simp [intOf]; omega
    · have hkn : k = 52 := by omega
      subst hkn
      obtain ⟨A', c', hv, ho⟩ := ownT_of_owns hown.out
      have HO := Lib.hid ho
      subst hv
      clear ho hlt
      go_wp2
      go_ret
      exact ⟨A', c', rfl, HO.out, hB.out⟩
theorem l02Others_any (A : Option Addr) (c : Nat) (xs : List Int) (w : World) (h : RowI w A xs) (hl : xs.length ≤ 1048576) :
    Calls Try.prog 57 #[.slice A xs.length c] w (GivesI w (othK xs 52)) := (l02Others_own A c xs w h hl).mono fun _ _ h => h.gives

set_option maxHeartbeats 1000000 in
theorem otherCards_any (A : Option Addr) (c : Nat) (xs : List Int) (w : World) (h : RowI w A xs) (hl : xs.length ≤ 1048576) (hok : okC xs) :
    Calls Try.prog 56 #[.slice A xs.length c] w (GivesI w (othK xs 52)) := by
  obtain ⟨n, hn⟩ : ∃ n, n = xs.length := ⟨_, rfl⟩
  rw [← hn] at hl ⊢
  have HN := Lib.hid hn
  have HR := Lib.hid h
  have HO := Lib.hid hok
  clear hn h hok
  obtain ⟨i0, hi, hz0, hz1, hz2⟩ := info_parts int_info
  have HI := Lib.hid (And.intro hi (And.intro hz0 (And.intro hz1 hz2)))
  clear hi hz0 hz1 hz2
  go_enter Try.func56, Try.ntmps56
  go_wp2
  go_loop [3, 5, 10] (fun s _ i => ∃ k : Nat, k ≤ n ∧ i = .int .i64 k ∧ s = .int .u64 (seenB (xs.take k) : Nat))
    (fun _ _ i => n - (intOf i).toNat)
  case atStart => exact ⟨0, Nat.zero_le _, rfl, by simp [seenB]⟩
  case round =>
    obtain ⟨k, hk, rfl, rfl⟩ := hrel
    by_cases hlt : k < n
    · have hkx : k < xs.length := by rw [← HN.out]; exact hlt
      obtain ⟨b, off, rfl, hb, hc⟩ := HR.out.at_ hkx
      have hx2 : 0 ≤ xs.getD k 0 ∧ xs.getD k 0 ≤ 51 := HO.out.1 _ (has_yes hkx rfl)
      obtain ⟨x, hx⟩ : ∃ x, x = xs.getD k 0 := ⟨_, rfl⟩
      rw [← hx] at hc hx2
      have HX := Lib.hid hx
      have HK := Lib.hid hkx
      clear hx hb hkx
      obtain ⟨S, hS⟩ : ∃ S, S = seenB (xs.take k) := ⟨_, rfl⟩
      rw [← hS]
      have hS1 : S < 4503599627370496 := by rw [hS]; exact seenB_lt _ (fun d hd => HO.out.1 d (List.mem_of_mem_take hd))
      have HS := Lib.hid hS
      clear hS
      obtain ⟨h0, h51⟩ := hx2
      obtain ⟨m, rfl⟩ := Int.eq_ofNat_of_zero_le h0
      have hm : m < 52 := by omega
      go_wp2
      go_round
      case rel =>
        have e : xs.take (k + 1) = xs.take k ++ [(m : Int)] := by rw [take_snoc HK.out, ← HX.out]
        refine ⟨k + 1, by omega, by go_num, ?_⟩
        rw [e, seenB_snoc, ← HS.out, u64_set S m hS1 hm]
        rfl
      case measure => simp [intOf]; omega
    · have hkn : k = n := by omega
      subst hkn
      have hT : xs.take k = xs := by rw [HN.out, List.take_length]
      rw [hT]
      obtain ⟨S, hS⟩ : ∃ S, S = seenB xs := ⟨_, rfl⟩
      rw [← hS]
      have hS1 : S < 4503599627370496 := by rw [hS]; exact seenB_lt _ HO.out.1
      have HS := Lib.hid hS
      clear hlt hT hS
      go_wp2
      go_loopw [6, 7, 19] (fun v _ i wr => ∃ k : Nat, k ≤ 52 ∧ i = .int .i64 k ∧ Hid (wr.ownsRow w.heap.size 2 1 v (othK xs k).length ((othK xs k).map (Value.int .i64))) ∧ Hid (Below w.heap.size w wr))
        (fun _ _ i _ => 52 - (intOf i).toNat)
      case atStart => exact ⟨0, Nat.zero_le _, rfl, World.ownsRow_nil _ _ _ _, Below.refl _ _⟩
      case round =>
        obtain ⟨k, hk, rfl, hown, hB⟩ := hrel
        by_cases hlt : k < 52
        · have hat := seenB_at xs (k : Int) (fun d hd => (HO.out.1 d hd).1) (by omega)
          rw [← HS.out, Int.toNat_natCast] at hat
          by_cases hin : (k : Int) ∈ xs
          · have hd : (bits BinOp.and IntKind.u64 ((S : Int) / 2 ^ k) 1 == 0) = false := by
              rw [u64_bit S k hS1, hat, if_pos hin]; rfl
            have HM := Lib.hid hin
            clear hin hat
            go_wp2
            go_roundw
            case rel => exact ⟨k + 1, by omega, by go_num, by rw [othK_in HM.out]; exact hown, hB⟩
            case measure => simp [intOf]; omega
          · have hd : (bits BinOp.and IntKind.u64 ((S : Int) / 2 ^ k) 1 == 0) = true := by
              rw [u64_bit S k hS1, hat, if_neg hin]; rfl
            have HM := Lib.hid hin
            have hle := othK_le xs k
            obtain ⟨m, hm⟩ : ∃ m, m = (othK xs k).length := ⟨_, rfl⟩
            have HMM := Lib.hid hm
            rw [← hm] at hle hown
            clear hin hm hat
            go_wp2_with (at_builtin; refine wpList_append_lies _ rfl (.tmp 27) (.tmp 29) 22 rfl w.heap.size 2 i0 (.int .i64 0) 1 8 Try.underlying22 HI.out.1 HI.out.2.1 HI.out.2.2.1 HI.out.2.2.2 rfl (by decide) _ m _ rfl (hown.out.alloc _) ⟨wr.heap.size, 0, none⟩ 1 1 [.int .i64 (k : Int)] rfl rfl (World.news_of_block (heap_alloc_new _ _)) (by simp [Value.oneCell']) (by decide) (by simp only [maxLen]; omega) (by omega) (by simp; have := hB.out.size; omega) _ rfl ?_
                         intro g cap w2 hown2 hgrow2 hat hlt2
                         have R1 := Lib.hid hown2
                         have G1 := Lib.hid (hB.out.trans ((((Below.refl _ _).alloc hB.out.size _)).grown hgrow2 (by simp; have := hB.out.size; omega) (fun j e => (hown.out.lt j e).1)))
                         clear hown2 hgrow2 hat hlt2)
            go_roundw
            case rel =>
              refine ⟨k + 1, by omega, by go_num, ?_, G1⟩
              show World.ownsRow _ _ _ _ _ _ _
              rw [othK_out HM.out, List.map_append, List.map_cons, List.map_nil, List.length_append, ← HMM.out]
              exact R1.out
            case measure => simp [intOf]; omega
        · have hkn : k = 52 := by omega
          subst hkn
          obtain ⟨A', c', hv, ho⟩ := ownI_of_owns hown.out
          have HO := Lib.hid ho
          subst hv
          clear ho hlt
          go_wp2
          go_ret
          exact ⟨A', c', rfl, HO.out, hB.out⟩

theorem specOthers_any (A : Option Addr) (c : Nat) (xs : List Int) (w : World) (h : RowI w A xs) (hl : xs.length ≤ 1048576) :
    Calls Try.prog 32 #[.slice A xs.length c] w (GivesC w (othL xs) (othC xs)) := by
  have HR := Lib.hid h
  clear h
  cases hd : areC xs
  · have H := Lib.hid hd
    have R : Hid (othL xs = [] ∧ othC xs = 1) := by show _ ∧ _; unfold othL othC; rw [hd]; exact ⟨rfl, rfl⟩
    clear hd
    go_enter Try.func32, Try.ntmps32
    go_wp2_with fail
    refine (specAreCards_any A c xs _ HR.out hl).mono ?_
    rintro e w1 ⟨rfl, hb⟩
    rw [H.out]
    go_wp2
    go_ret2
    exact ⟨none, 0, by rw [R.out.1, R.out.2]; rfl, by rw [R.out.1]; exact OwnI.nil_ _ _, hb⟩
  · have H := Lib.hid hd
    have R : Hid (othL xs = othK xs 52 ∧ othC xs = 0) := by show _ ∧ _; unfold othL othC; rw [if_pos hd, if_pos hd]; exact ⟨rfl, rfl⟩
    clear hd
    go_enter Try.func32, Try.ntmps32
    go_wp2_with fail
    refine (specAreCards_any A c xs _ HR.out hl).mono ?_
    rintro e w1 ⟨rfl, hb⟩
    rw [H.out]
    go_wp2_with fail
    refine (l02Others_any A c xs _ (HR.out.below hb) hl).mono ?_
    rintro e w2 ⟨A', c', rfl, ho, hb2⟩
    have O2 := Lib.hid ho
    clear ho
    go_wp2
    go_ret2
    exact ⟨A', c', by rw [R.out.1, R.out.2]; rfl, by rw [R.out.1]; exact O2.out.mono hb.size, hb.trans (hb2.mono hb.size)⟩

theorem implOthers_any (A : Option Addr) (c : Nat) (xs : List Int) (w : World) (h : RowI w A xs) (hl : xs.length ≤ 1048576) :
    Calls Try.prog 31 #[.slice A xs.length c] w (GivesC w (othL xs) (othC xs)) := by
  have HR := Lib.hid h
  clear h
  cases hd : areC xs
  · have H := Lib.hid hd
    have R : Hid (othL xs = [] ∧ othC xs = 1) := by show _ ∧ _; unfold othL othC; rw [hd]; exact ⟨rfl, rfl⟩
    clear hd
    go_enter Try.func31, Try.ntmps31
    go_wp2_with fail
    refine (implAreCards_below A c xs _ HR.out hl).mono ?_
    rintro e w1 ⟨rfl, hb⟩
    rw [H.out]
    go_wp2
    go_ret2
    exact ⟨none, 0, by rw [R.out.1, R.out.2]; rfl, by rw [R.out.1]; exact OwnI.nil_ _ _, hb⟩
  · have H := Lib.hid hd
    have HK := Lib.hid ((areC_iff xs).1 hd)
    have R : Hid (othL xs = othK xs 52 ∧ othC xs = 0) := by show _ ∧ _; unfold othL othC; rw [if_pos hd, if_pos hd]; exact ⟨rfl, rfl⟩
    clear hd
    go_enter Try.func31, Try.ntmps31
    go_wp2_with fail
    refine (implAreCards_below A c xs _ HR.out hl).mono ?_
    rintro e w1 ⟨rfl, hb⟩
    rw [H.out]
    go_wp2_with fail
    refine (otherCards_any A c xs _ (HR.out.below hb) hl HK.out).mono ?_
    rintro e w2 ⟨A', c', rfl, ho, hb2⟩
    have O2 := Lib.hid ho
    clear ho
    go_wp2
    go_ret2
    exact ⟨A', c', by rw [R.out.1, R.out.2]; rfl, by rw [R.out.1]; exact O2.out.mono hb.size, hb.trans (hb2.mono hb.size)⟩
end Go.Proofs.Ytmmpeaedglnjlaa
