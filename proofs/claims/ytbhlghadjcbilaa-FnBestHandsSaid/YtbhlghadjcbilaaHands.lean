/-
  Two lists drawn out of a code; a number among others, in the laws.
-/
import Derived.Test.YtbhlghadjcbilaaDrawMore
import Derived.Test.YtbhlghadjcbilaaDrawFrom
namespace Go.Proofs.Ytbhlghadjcbilaa
open Go.RowKit

/-- Two lists drawn out of a code. -/
def DrawP (w : World) (e : Ending) (w' : World) : Prop :=
  ∃ ys A c zs B d, e = .returned (.tuple #[.slice A ys.length c, .slice B zs.length d]) ∧ (RowI w' A ys ∧ ys.length ≤ 256 ∧ ys.length ≤ c ∧ c ≤ maxLen) ∧ (RowI w' B zs ∧ zs.length ≤ 256 ∧ zs.length ≤ d ∧ d ≤ maxLen) ∧ Below w.heap.size w w'

set_option maxHeartbeats 1000000 in
theorem drawCompare_any (A : Option Addr) (n c : Nat) (bs : Nat → Int) (w : World) (h : RowU w A n bs) (hn : n ≤ 1048576) : Calls Try.prog 62 #[.slice A n c] w (DrawP w) := by
  have HR := Lib.hid h
  clear h
  go_enter Try.func62, Try.ntmps62
  go_wp2_with fail
  refine (l01From_any A n c bs _ HR.out hn).mono ?_
  rintro e w1 ⟨g, rfl, hg, hs, hb⟩
  have S1 := Lib.hid hs
  have GL : Hid (g < w1.heap.size) := hs.lt
  have B1 := Lib.hid (And.intro hb hg)
  clear hs hb hg HR
  go_wp2_with fail
  refine (l04DrawMore_any g _ S1.out).mono ?_
  rintro e w2 ⟨ys, A2, c2, rfl, hr, hl, hc, hm, hne, hs2, hk2⟩
  have NE : Hid (∀ b, A2.map (·.block) = some b → b ≠ g) := fun b hb e => by have := hne b hb; have := GL.out; omega
  have R2 := Lib.hid hr
  have S2 := Lib.hid hs2
  have K2 := Lib.hid hk2
  have LC := Lib.hid (And.intro hl (And.intro hc hm))
  clear hr hs2 hk2 hl hc hm hne
  go_wp2_with fail
  refine (l01Next_any g 3 _ S2.out).mono ?_
  rintro e w3 ⟨x, rfl, x0, x1, hs3, hk3, hz3⟩
  have R3 := Lib.hid (R2.out.keptG hk3 NE.out)
  have S3 := Lib.hid hs3
  have K3 := Lib.hid (K2.out.trans hk3)
  have G3 : Hid (g < w3.heap.size) := hs3.lt
  clear hs3 hk3 hz3 x0 x1
  obtain ⟨ln, hln⟩ : ∃ ln, ln = ys.length := ⟨_, rfl⟩
  have LN := Lib.hid hln
  rw [← hln]
  clear hln
  have SND : Hid (∀ e w4, DrawL g w3 e w4 → ∃ (zs : List Int) (B : Option Addr) (d : Nat), e = .returned (.slice B zs.length d) ∧ DrawP w (.returned (.tuple #[.slice A2 ln c2, .slice B zs.length d])) w4) := by
    rintro e w4 ⟨zs, B, d, rfl, hr4, hl4, hc4, hm4, _, _, hk4⟩
    refine ⟨zs, B, d, rfl, ys, A2, c2, zs, B, d, by rw [LN.out], ⟨R3.out.keptG hk4 NE.out, LC.out⟩, ⟨hr4, hl4, hc4, hm4⟩, ?_⟩
    exact B1.out.1.trans ((K3.out.trans hk4).below B1.out.1.size B1.out.2)
  by_cases e0 : x = 0
  · subst e0
    by_cases h4 : 4 < ln
    · have d4 : decide ((4 : Int) < (ln : Int)) = true := decide_eq_true (by omega)
      have cc : 5 ≤ c2 := by have := LC.out.2.1; rw [← LN.out] at this; omega
      obtain ⟨b, off, rfl, _, _⟩ := R3.out.at_ (k := 0) (by rw [← LN.out]; omega)
      have T5 : Hid ((ys.take 5).length = 5) := by show _ = _; rw [List.length_take, ← LN.out]; omega
      go_wp2_with fail
      refine (l02Pick_any g (some ⟨b, off, none⟩) c2 (ys.take 5) _ _ T5.out.symm S3.out (R3.out.first 5) NE.out (by rw [T5.out]; omega)).mono ?_
      rintro e w4 ⟨ps, A4, c4, rfl, hT, hp, hs4, hk4⟩
      have FIN : Hid (DrawP w (.returned (.tuple #[.slice (some ⟨b, off, none⟩) ln c2, .slice A4 ps.length c4])) w4) := by
        refine ⟨ys, _, c2, ps, A4, c4, by rw [LN.out], ⟨R3.out.keptG hk4 NE.out, LC.out⟩, ⟨hT.own.row, by rw [hp.length_eq, T5.out]; omega, hT.own.cap.1, hT.own.cap.2⟩, ?_⟩
        exact B1.out.1.trans ((K3.out.trans hk4).below B1.out.1.size B1.out.2)
      clear hT hp hs4 hk4
      go_wp2
      go_ret2
      exact FIN.out
    · have d4 : decide ((4 : Int) < (ln : Int)) = false := decide_eq_false (by omega)
      go_wp2_with fail
      refine (l04DrawMore_any g _ S3.out).mono ?_
      intro e w4 hd
      obtain ⟨zs, B, d, rfl, hf⟩ := SND.out e w4 hd
      have FIN := Lib.hid hf
      clear hd hf
      go_wp2
      go_ret2
      exact FIN.out
  · have b0 : (x == 0) = false := by simpa using e0
    go_wp2_with fail
    refine (l04DrawMore_any g _ S3.out).mono ?_
    intro e w4 hd
    obtain ⟨zs, B, d, rfl, hf⟩ := SND.out e w4 hd
    have FIN := Lib.hid hf
    clear hd hf
    go_wp2
    go_ret2
    exact FIN.out

theorem hasInt_any (A : Option Addr) (c : Nat) (xs : List Int) (n : Nat) (x : Int) (w : World) (hn : n = xs.length) (hA : RowI w A xs) (hx : x ∈ xs) (hl : xs.length ≤ 1048576) :
    Calls Try.prog 63 #[.slice A n c, .int .i64 x] w fun e w' => e = .returned (.bool true) ∧ ∃ m, w' = w.drewN m := by
  rw [← hn] at hl
  have HN := Lib.hid hn
  have HA := Lib.hid hA
  have HX := Lib.hid hx
  clear hn hA hx
  go_enter Try.func63, Try.ntmps63
  go_wp2
  go_loopw [5] (fun i wr => ∃ k : Nat, k ≤ n ∧ i = .int .i64 k ∧ x ∉ xs.take k ∧ ∃ m, wr = w.drewN m) (fun i _ => n - (intOf i).toNat)
  case atStart => exact ⟨0, Nat.zero_le _, rfl, by simp, 0, rfl⟩
  case round =>
    obtain ⟨k, hk, rfl, ht, m, rfl⟩ := hrel
    have HT := Lib.hid ht
    clear ht
    by_cases hlt : k < n
    · have hkx : k < xs.length := by rw [← HN.out]; exact hlt
      obtain ⟨b, off, rfl, hb, hc⟩ := HA.out.at_ hkx
      obtain ⟨y, hy⟩ : ∃ y, y = xs.getD k 0 := ⟨_, rfl⟩
      rw [← hy] at hc
      have HY := Lib.hid hy
      have HKX := Lib.hid hkx
      clear hy hb hkx
      have i0 : (0 : Int) ≤ (k : Int) := by omega
      have i1 : (k : Int) < (n : Int) := by omega
      by_cases hxy : y = x
      · subst hxy
        go_wp2
        go_ret
        exact ⟨rfl, _, rfl⟩
      · have hb1 : (y == x) = false := by simpa using hxy
        have R : Hid (x ∉ xs.take (k + 1)) := by
          show ¬ _
          rw [List.take_succ_eq_append_getElem HKX.out]
          simp only [List.mem_append, List.mem_singleton, not_or]
          refine ⟨HT.out, fun e => hxy ?_⟩
          rw [e, HY.out, List.getD_eq_getElem?_getD, List.getElem?_eq_getElem HKX.out]; rfl
        clear hxy
        go_wp2
        go_roundw
        case rel => exact ⟨k + 1, by omega, by go_num, R.out, _, rfl⟩
        case measure => simp [intOf]; omega
    · have hkn : k = n := by omega
      subst hkn
      exact absurd HX.out (by have := HT.out; rwa [HN.out, List.take_length] at this)
end Go.Proofs.Ytbhlghadjcbilaa
