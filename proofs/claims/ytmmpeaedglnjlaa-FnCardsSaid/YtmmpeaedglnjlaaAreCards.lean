/-
  AreCards in the reference and in the program: both return areC of the list.
-/
import Derived.Test.YtmmpeaedglnjlaaInts
import Derived.Test.YtmmpeaedglnjlaaInWalk
import Derived.Test.YtmmpeaedglnjlaaMathCards
import Derived.Laws.BitsAllLaws
namespace Go.Proofs.Ytmmpeaedglnjlaa
open Go.RowKit

theorem bool_info : (Try.prog.info? 4).map (fun i => (i.zero, i.size, i.bytes)) = some (some (.bool false), 1, 1) := by kernel_rfl

/-- The bits as the walk writes them. -/
theorem u64_bit (S m : Nat) (hS : S < 4503599627370496) : bits BinOp.and IntKind.u64 ((S : Int) / 2 ^ m) 1 = ((S / 2 ^ m % 2 : Nat) : Int) := by
  have e : ((S : Int) / 2 ^ m) = ((S / 2 ^ m : Nat) : Int) := by simp
  have h1 : S / 2 ^ m < 18446744073709551616 := Nat.lt_of_le_of_lt (Nat.div_le_self _ _) (by omega)
  rw [e]
  have := u64_and_nat (S / 2 ^ m) 1 h1 (by omega)
  rw [nat_mask1] at this
  exact this
theorem u64_set (S m : Nat) (hS : S < 4503599627370496) (hm : m < 52) : bits BinOp.or IntKind.u64 (S : Int) (IntKind.u64.wrap (2 ^ m)) = ((S ||| 2 ^ m : Nat) : Int) := by
  have h2 : 2 ^ m < 4503599627370496 := by
    have : 2 ^ m < 2 ^ 52 := Nat.pow_lt_pow_right (by omega) hm
    simpa using this
  have e : IntKind.u64.wrap (2 ^ m) = ((2 ^ m : Nat) : Int) := by
    have e1 : ((2 : Int) ^ m) = ((2 ^ m : Nat) : Int) := by simp
    rw [e1]
    simp only [IntKind.wrap, IntKind.bits, IntKind.signed]
    generalize 2 ^ m = q at h2
    simp
    omega
  rw [e]
  exact u64_or_nat S (2 ^ m) (by omega) (by omega)

/-- spec.AreCards. -/
theorem specAreCards_any (A : Option Addr) (c : Nat) (xs : List Int) (w : World) (h : RowI w A xs) (hl : xs.length ≤ 1048576) :
    Calls Try.prog 33 #[.slice A xs.length c] w fun e w' => e = .returned (.bool (areC xs)) ∧ Below w.heap.size w w' := by
  obtain ⟨n, hn⟩ : ∃ n, n = xs.length := ⟨_, rfl⟩
  rw [← hn] at hl ⊢
  have HN := Lib.hid hn
  have HR := Lib.hid h
  clear hn h
  have hmk : ∀ w : World, (Instr.makeSlice 64 (.int .i64 52) (.int .i64 52)).run Try.prog w = .ok (.slice (some ⟨w.heap.size, 0, none⟩) 52 52) (w.alloc (.cells (madeCells #[.bool false] 52) 4)) :=
    run_make_row' (P := Try.prog) 64 4 _ 1 Try.underlying64 bool_info rfl .i64 .i64 52 (by omega) (by omega)
  go_enter Try.func33, Try.ntmps33
  go_wp2
  go_loopw [4] (fun i wr => ∃ k : Nat, k ≤ n ∧ i = .int .i64 k ∧ Hid (okC (xs.take k)) ∧ wr.rowIs w.heap.size 4 52 (fun j => .bool (decide ((j : Int) ∈ xs.take k))) ∧ Below w.heap.size w wr)
    (fun i _ => n - (intOf i).toNat)
  case atStart => exact ⟨0, Nat.zero_le _, rfl, okC_nil, (World.rowIs_made w _ 52 _).congr (fun i _ => by simp), (Below.refl _ _).alloc (Nat.le_refl _) _⟩
  case round =>
    obtain ⟨k, hk, rfl, hok, hr, hB⟩ := hrel
    clear hmk
    have HB := Lib.hid hB
    have HRW := Lib.hid hr
    by_cases hlt : k < n
    · have hkx : k < xs.length := by rw [← HN.out]; exact hlt
      obtain ⟨b, off, rfl, hb, hc⟩ := HR.out.at_ hkx
      obtain ⟨x, hx⟩ : ∃ x, x = xs.getD k 0 := ⟨_, rfl⟩
      have hc1 : wr.cell? ⟨b, off + k, none⟩ = some (.int .i64 x) := by rw [hx]; exact (hB.cell (p := ⟨b, off + k, none⟩) hb).trans hc
      have HX := Lib.hid hx
      have HK := Lib.hid hkx
      clear hx hc hb hkx
      by_cases hin : 0 ≤ x ∧ x ≤ 51
      · obtain ⟨h0, h51⟩ := hin
        obtain ⟨m, rfl⟩ := Int.eq_ofNat_of_zero_le h0
        have hm : m < 52 := by omega
        have hc2 := hr.cell hm
        have hf2 := hr.frozen m
        by_cases hmem : (m : Int) ∈ xs.take k
        · have R : Hid (areC xs = false) := areC_no (okC_bad HK.out (.inr (by rw [← HX.out]; exact hmem)))
          have hd : decide ((m : Int) ∈ xs.take k) = true := by simpa using hmem
          rw [hd] at hc2
          clear hr hB hmem hd
          go_wp2_with (go_at_call 48; refine (l02Card_yes _ _ (by omega) (by omega)).mono ?_; rintro e w' ⟨rfl, rfl⟩)
          go_ret
          exact ⟨ret_bool R.out.symm, HB.out⟩
        · have hd : decide ((m : Int) ∈ xs.take k) = false := by simpa using hmem
          rw [hd] at hc2
          have HM := Lib.hid hmem
          clear hr hB hmem hd
          go_wp2_with (go_at_call 48; refine (l02Card_yes _ _ (by omega) (by omega)).mono ?_; rintro e w' ⟨rfl, rfl⟩)
          go_roundw
          case rel =>
            have e : xs.take (k + 1) = xs.take k ++ [(m : Int)] := by rw [take_snoc HK.out, ← HX.out]
            refine ⟨k + 1, by omega, by go_num, by rw [e]; exact okC_snoc hok.out h0 h51 HM.out, (HRW.out.set m _).congr (fun j _ => ?_), HB.out.setCell (Nat.le_refl _) _⟩
            rw [e]
            by_cases e2 : j = m
            · subst e2; simp
            · have : ¬ ((j : Int) = (m : Int)) := by omega
              simp [e2, this]
          case measure => simp [intOf]; omega
      · have R : Hid (areC xs = false) := areC_no (okC_bad HK.out (.inl (by rw [← HX.out]; exact hin)))
        have H : Hid (x < 0 ∨ 51 < x) := by show x < 0 ∨ 51 < x; omega
        clear hr hB hin
        go_wp2_with (go_at_call 48; refine (l02Card_no _ _ H.out).mono ?_; rintro e w' ⟨rfl, rfl⟩)
        go_ret
        exact ⟨ret_bool R.out.symm, HB.out⟩
    · have hkn : k = n := by omega
      subst hkn
      have R : Hid (areC xs = true) := by
        show areC xs = true
        rw [areC_iff]
        have := hok.out
        rwa [HN.out, List.take_length] at this
      clear hr hB hlt
      go_wp2
      go_ret
      exact ⟨ret_bool R.out.symm, HB.out⟩

/-- impl.AreCards. -/
theorem implAreCards_any (A : Option Addr) (c : Nat) (xs : List Int) (w : World) (h : RowI w A xs) (hl : xs.length ≤ 1048576) :
    Calls Try.prog 30 #[.slice A xs.length c] w fun e w' => e = .returned (.bool (areC xs)) ∧ w = w' := by
  obtain ⟨n, hn⟩ : ∃ n, n = xs.length := ⟨_, rfl⟩
  rw [← hn] at hl ⊢
  have HN := Lib.hid hn
  have HR := Lib.hid h
  clear hn h
  go_enter Try.func30, Try.ntmps30
  go_wp2
  go_loop [3, 5, 8] (fun s _ i => ∃ k : Nat, k ≤ n ∧ i = .int .i64 k ∧ Hid (okC (xs.take k)) ∧ s = .int .u64 (seenB (xs.take k) : Nat))
    (fun _ _ i => n - (intOf i).toNat)
  case atStart => exact ⟨0, Nat.zero_le _, rfl, okC_nil, by simp [seenB]⟩
  case round =>
    obtain ⟨k, hk, rfl, hok, rfl⟩ := hrel
    by_cases hlt : k < n
    · have hkx : k < xs.length := by rw [← HN.out]; exact hlt
      obtain ⟨b, off, rfl, hb, hc⟩ := HR.out.at_ hkx
      obtain ⟨x, hx⟩ : ∃ x, x = xs.getD k 0 := ⟨_, rfl⟩
      rw [← hx] at hc
      have HX := Lib.hid hx
      have HK := Lib.hid hkx
      clear hx hb hkx
      obtain ⟨S, hS⟩ : ∃ S, S = seenB (xs.take k) := ⟨_, rfl⟩
      rw [← hS]
      have hS1 : S < 4503599627370496 := by rw [hS]; exact seenB_lt _ hok.out.1
      have HS := Lib.hid hS
      clear hS
      by_cases hin : 0 ≤ x ∧ x ≤ 51
      · obtain ⟨h0, h51⟩ := hin
        obtain ⟨m, rfl⟩ := Int.eq_ofNat_of_zero_le h0
        have hm : m < 52 := by omega
        have hat := seenB_at (xs.take k) (m : Int) (fun d hd => (hok.out.1 d hd).1) h0
        rw [← HS.out, Int.toNat_natCast] at hat
        by_cases hmem : (m : Int) ∈ xs.take k
        · have R : Hid (areC xs = false) := areC_no (okC_bad HK.out (.inr (by rw [← HX.out]; exact hmem)))
          have hd : (bits BinOp.and IntKind.u64 ((S : Int) / 2 ^ m) 1 == 1) = true := by
            rw [u64_bit S m hS1, hat, if_pos hmem]; rfl
          clear hat hmem
          go_wp2_with (go_at_call 46; refine (isCard_yes _ _ (by omega) (by omega)).mono ?_; rintro e w' ⟨rfl, rfl⟩)
          go_ret
          exact ⟨ret_bool R.out.symm, rfl⟩
        · have hd : (bits BinOp.and IntKind.u64 ((S : Int) / 2 ^ m) 1 == 1) = false := by
            rw [u64_bit S m hS1, hat, if_neg hmem]; rfl
          have HM := Lib.hid hmem
          clear hat hmem
          go_wp2_with (go_at_call 46; refine (isCard_yes _ _ (by omega) (by omega)).mono ?_; rintro e w' ⟨rfl, rfl⟩)
          go_round
          case rel =>
            have e : xs.take (k + 1) = xs.take k ++ [(m : Int)] := by rw [take_snoc HK.out, ← HX.out]
            refine ⟨k + 1, by omega, by go_num, by rw [e]; exact okC_snoc hok.out h0 h51 HM.out, ?_⟩
            rw [e, seenB_snoc, ← HS.out, u64_set S m hS1 hm]
            rfl
          case measure => simp [intOf]; omega
      · have R : Hid (areC xs = false) := areC_no (okC_bad HK.out (.inl (by rw [← HX.out]; exact hin)))
        have H : Hid (x < 0 ∨ 51 < x) := by show x < 0 ∨ 51 < x; omega
        clear hin
        go_wp2_with (go_at_call 46; refine (isCard_no _ _ H.out).mono ?_; rintro e w' ⟨rfl, rfl⟩)
        go_ret
        exact ⟨ret_bool R.out.symm, rfl⟩
    · have hkn : k = n := by omega
      subst hkn
      have R : Hid (areC xs = true) := by
        show areC xs = true
        rw [areC_iff]
        have := hok.out
        rwa [HN.out, List.take_length] at this
      clear hlt
      go_wp2
      go_ret
      exact ⟨ret_bool R.out.symm, rfl⟩
theorem implAreCards_below (A : Option Addr) (c : Nat) (xs : List Int) (w : World) (h : RowI w A xs) (hl : xs.length ≤ 1048576) :
    Calls Try.prog 30 #[.slice A xs.length c] w fun e w' => e = .returned (.bool (areC xs)) ∧ Below w.heap.size w w' :=
  (implAreCards_any A c xs w h hl).mono fun _ _ ⟨he, hw⟩ => ⟨he, hw ▸ Below.refl _ _⟩
end Go.Proofs.Ytmmpeaedglnjlaa
