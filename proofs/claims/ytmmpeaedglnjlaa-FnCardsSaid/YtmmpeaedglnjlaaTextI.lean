/-
  The text of cards in the program and in the reference.
-/
import Derived.Test.YtmmpeaedglnjlaaTextW
namespace Go.Proofs.Ytmmpeaedglnjlaa
open Go.RowKit

theorem rk_byte : ∀ q : Fin 13, ((⟨#[50, 51, 52, 53, 54, 55, 56, 57, 84, 74, 81, 75, 65]⟩ : ByteArray)[q.val]'q.isLt).toNat = (([50, 51, 52, 53, 54, 55, 56, 57, 84, 74, 81, 75, 65] : List UInt8).getD q.val 0).toNat := by decide
theorem su_byte : ∀ q : Fin 4, ((⟨#[99, 100, 104, 115]⟩ : ByteArray)[q.val]'q.isLt).toNat = (([99, 100, 104, 115] : List UInt8).getD q.val 0).toNat := by decide
theorem rk_of {x : Int} {q : Nat} (h : x / 4 = (q : Int)) (hq : q < 13) (hi : q < (⟨#[50, 51, 52, 53, 54, 55, 56, 57, 84, 74, 81, 75, 65]⟩ : ByteArray).size) : Value.int .u8 (((⟨#[50, 51, 52, 53, 54, 55, 56, 57, 84, 74, 81, 75, 65]⟩ : ByteArray)[q]'hi).toNat : Nat) = Value.int .u8 ((rkB x).toNat : Nat) := by
  have := rk_byte ⟨q, hq⟩
  have e : (x / 4).toNat = q := by omega
  unfold rkB
  rw [e, ← this]
theorem su_of {x : Int} {r : Nat} (h : x % 4 = (r : Int)) (hr : r < 4) (hi : r < (⟨#[99, 100, 104, 115]⟩ : ByteArray).size) : Value.int .u8 (((⟨#[99, 100, 104, 115]⟩ : ByteArray)[r]'hi).toNat : Nat) = Value.int .u8 ((suB x).toNat : Nat) := by
  have := su_byte ⟨r, hr⟩
  have e : (x % 4).toNat = r := by omega
  unfold suB
  rw [e, ← this]
theorem text_cells (xs : List Int) (k : Nat) : Lib.byteCells (textK xs (k + 1)) = Lib.byteCells (textK xs k) ++ [.int .u8 ((rkB (xs.getD k 0)).toNat : Nat)] ++ [.int .u8 ((suB (xs.getD k 0)).toNat : Nat)] := by
  simp [textK, Lib.byteCells]

theorem conv_text {w : World} {lo n g cap : Nat} {l : List UInt8} (h : w.ownsRow lo 5 1 (.slice (some ⟨g, 0, none⟩) n cap) n (Lib.byteCells l)) (hn : n = l.length) :
    (convert 32 9 (.slice (some ⟨g, 0, none⟩) n cap)).run Try.prog w = .ok (.string ⟨l.toArray⟩) w := by
  subst hn
  refine run_convert_bytes_back w 32 9 5 ⟨g, 0, none⟩ cap l Try.underlying32 Try.underlying5 Try.underlying9 (fun j hj => ?_)
  have := h.cells (g := g) rfl j (.int .u8 (l[j].toNat : Int)) (by simp [Lib.byteCells, hj])
  exact this

set_option maxHeartbeats 1000000 in
set_option maxRecDepth 8000 in
theorem cardsText_any (A : Option Addr) (c : Nat) (xs : List Int) (n : Nat) (w : World) (hn : n = xs.length) (h : RowI w A xs) (hl : n ≤ 1048576) (ho : okC xs) :
    Calls Try.prog 35 #[.slice A n c] w fun e w' => e = .returned (.string ⟨(textK xs n).toArray⟩) ∧ Below w.heap.size w w' := by
  have HN := Lib.hid hn
  have HR := Lib.hid h
  have HO := Lib.hid ho
  clear hn h ho
  go_enter Try.func35, Try.ntmps35
  go_wp2
  go_loopw [8] (fun i wr => ∃ k : Nat, k ≤ n ∧ i = .int .i64 k ∧ Hid (Lib.IsBuilderF 67 5 w.heap.size w.heap.size (Lib.byteCells (textK xs k)) wr) ∧ Hid (Below w.heap.size w wr)) (fun i _ => n - (intOf i).toNat)
  case atStart => exact ⟨0, Nat.zero_le _, rfl, Lib.IsBuilderF.of (Lib.fresh_isBuilder 67 5 w), (Below.refl _ _).alloc (Nat.le_refl _) _⟩
  case round =>
    obtain ⟨k, hk, rfl, IB, BL⟩ := hrel
    by_cases hlt : k < n
    · have hkx : k < xs.length := by rw [← HN.out]; exact hlt
      obtain ⟨b, off, rfl, hb, hcell⟩ := HR.out.at_ hkx
      obtain ⟨x, hx⟩ : ∃ x, x = xs.getD k 0 := ⟨_, rfl⟩
      have x01 : 0 ≤ x ∧ x ≤ 51 := HO.out.1 x (by rw [hx, List.getD_eq_getElem?_getD, List.getElem?_eq_getElem hkx]; exact List.getElem_mem hkx)
      have hcw : wr.cell? ⟨b, off + k, none⟩ = some (.int .i64 x) := by rw [hx]; exact (BL.out.cell (p := ⟨b, off + k, none⟩) hb).trans hcell
      obtain ⟨q, hq⟩ : ∃ q : Nat, x / 4 = (q : Int) := ⟨(x / 4).toNat, by omega⟩
      obtain ⟨r, hr⟩ : ∃ r : Nat, x % 4 = (r : Int) := ⟨(x % 4).toNat, by omega⟩
      have q13 : q < 13 := by omega
      have r4 : r < 4 := by omega
      have q13' : (q : Int) < 13 := by omega
      have r4' : (r : Int) < 4 := by omega
      have xt : x.tdiv 4 = (q : Int) := by rw [Int.tdiv_eq_ediv_of_nonneg x01.1, hq]
      have xu : x.tmod 4 = (r : Int) := by rw [Int.tmod_eq_emod_of_nonneg x01.1, hr]
      have XX := Lib.hid (And.intro hx (And.intro hq hr))
      have TL : Hid ((Lib.byteCells (textK xs k)).length + 2 ≤ 140737488355328) := by show _ ≤ _; rw [Lib.byteCells_length, textK_length]; omega
      clear hx hb hcell hq hr hkx x01
      go_wp2_with fail
      refine (writeByte_any w.heap.size w.heap.size _ _ _ IB.out (by have := TL.out; omega) BL.out.size).mono ?_
      rintro e w1 ⟨rfl, h1, hb1⟩
      rw [rk_of XX.out.2.1 q13] at h1
      have IB1 := Lib.hid h1
      have BL1 := Lib.hid (BL.out.trans hb1)
      clear h1 hb1
      go_wp2_with fail
      refine (writeByte_any w.heap.size w.heap.size _ _ _ IB1.out (by have := TL.out; rw [List.length_append]; simp only [List.length_singleton]; omega) BL1.out.size).mono ?_
      rintro e w2 ⟨rfl, h2, hb2⟩
      rw [su_of XX.out.2.2 r4, XX.out.1, ← text_cells] at h2
      have IB2 := Lib.hid h2
      have BL2 := Lib.hid (BL1.out.trans hb2)
      clear h2 hb2
      go_wp2
      go_roundw
      case rel => exact ⟨k + 1, by omega, by go_num, IB2.out, BL2.out⟩
      case measure => simp [intOf]; omega
    · have hkn : k = n := by omega
      subst hkn
      have CALL := Lib.hid (Try.Builder_String_any_k w.heap.size w.heap.size (textK xs k) wr IB.out BL.out.size)
      clear hlt
      go_wp2_with fail
      refine CALL.out.mono ?_
      rintro e w1 ⟨rfl, _, hb1, _⟩
      have FIN := Lib.hid (BL.out.trans hb1)
      clear hb1
      go_wp2
      go_ret
      exact ⟨rfl, FIN.out⟩

set_option maxHeartbeats 1000000 in
set_option maxRecDepth 8000 in
theorem l02Text_any (A : Option Addr) (c : Nat) (xs : List Int) (n : Nat) (w : World) (hn : n = xs.length) (h : RowI w A xs) (hl : n ≤ 1048576) (ho : okC xs) :
    Calls Try.prog 34 #[.slice A n c] w fun e w' => e = .returned (.string ⟨(textK xs n).toArray⟩) ∧ Below w.heap.size w w' := by
  have HN := Lib.hid hn
  have HR := Lib.hid h
  have HO := Lib.hid ho
  clear hn h ho
  obtain ⟨i0, hi, hz0, hz1, hz2⟩ := info_parts byte_info
  have HI := Lib.hid (And.intro hi (And.intro hz0 (And.intro hz1 hz2)))
  clear hi hz0 hz1 hz2
  go_enter Try.func34, Try.ntmps34
  go_wp2
  go_loopw [3, 4] (fun v i wr => ∃ k g cap : Nat, k ≤ n ∧ i = .int .i64 k ∧ v = .slice (some ⟨g, 0, none⟩) (2 * k) cap ∧ Hid (wr.ownsRow w.heap.size 5 1 (.slice (some ⟨g, 0, none⟩) (2 * k) cap) (2 * k) (Lib.byteCells (textK xs k))) ∧ Hid (Below w.heap.size w wr))
    (fun _ i _ => n - (intOf i).toNat)
  case atStart => exact ⟨0, _, _, Nat.zero_le _, rfl, rfl, World.ownsRow_made w #[] 0 (Nat.le_refl _) (by decide) rfl, (Below.refl _ _).alloc (Nat.le_refl _) _⟩
  case round =>
    obtain ⟨k, g0, cap0, hk, rfl, rfl, hown, hB⟩ := hrel
    by_cases hlt : k < n
    · have hkx : k < xs.length := by rw [← HN.out]; exact hlt
      obtain ⟨b, off, rfl, hb, hcell⟩ := HR.out.at_ hkx
      obtain ⟨x, hx⟩ : ∃ x, x = xs.getD k 0 := ⟨_, rfl⟩
      have x01 : 0 ≤ x ∧ x ≤ 51 := HO.out.1 x (by rw [hx, List.getD_eq_getElem?_getD, List.getElem?_eq_getElem hkx]; exact List.getElem_mem hkx)
      have hcw : wr.cell? ⟨b, off + k, none⟩ = some (.int .i64 x) := by rw [hx]; exact (hB.out.cell (p := ⟨b, off + k, none⟩) hb).trans hcell
      obtain ⟨q, hq⟩ : ∃ q : Nat, x / 4 = (q : Int) := ⟨(x / 4).toNat, by omega⟩
      obtain ⟨r, hr⟩ : ∃ r : Nat, x % 4 = (r : Int) := ⟨(x % 4).toNat, by omega⟩
      have q13 : q < 13 := by omega
      have r4 : r < 4 := by omega
      have q13' : (q : Int) < 13 := by omega
      have r4' : (r : Int) < 4 := by omega
      have i0' : (0 : Int) ≤ (k : Int) := by omega
      have i1' : (k : Int) < (n : Int) := by omega
      have xt : IntKind.i64.wrap (x.tdiv 4) = (q : Int) := by rw [Int.tdiv_eq_ediv_of_nonneg x01.1, hq]; exact IntWalk.i64_in _ (by omega)
      have xu : x.tmod 4 = (r : Int) := by rw [Int.tmod_eq_emod_of_nonneg x01.1, hr]
      have XX := Lib.hid (And.intro hx (And.intro hq hr))
      have hq1 : q < (⟨#[50, 51, 52, 53, 54, 55, 56, 57, 84, 74, 81, 75, 65]⟩ : ByteArray).size := q13
      have hr1 : r < (⟨#[99, 100, 104, 115]⟩ : ByteArray).size := r4
      clear hx hb hcell hq hr hkx x01
      go_wp2
      go_region_law (refine step_append_lies _ rfl (.tmp 12) (.tmp 25) 32 rfl w.heap.size 5 i0 (.int .u8 0) 1 1 Try.underlying32 HI.out.1 HI.out.2.1 HI.out.2.2.1 HI.out.2.2.2 rfl (by decide) _ (2 * k) _ rfl ((hown.out.alloc _).drew) ⟨wr.heap.size, 0, none⟩ 2 2 [.int .u8 (((⟨#[50, 51, 52, 53, 54, 55, 56, 57, 84, 74, 81, 75, 65]⟩ : ByteArray)[q]'hq1).toNat : Nat), .int .u8 (((⟨#[99, 100, 104, 115]⟩ : ByteArray)[r]'hr1).toNat : Nat)] rfl rfl (World.news_of_block (heap_alloc_new _ _)) (by simp [Value.oneCell']) (by decide) (by simp only [maxLen]; omega) (by omega) (by simp; have := hB.out.size; omega) _ rfl ?_; intro g cap w2 hown2 hgrow2 hat hlt2)
      all_goals
        rw [rk_of XX.out.2.1 q13, su_of XX.out.2.2 r4] at hown2
        have R1 := Lib.hid hown2
        have G1 := Lib.hid (hB.out.trans ((((Below.refl _ _).alloc hB.out.size _).drew).grown hgrow2 (by simp; have := hB.out.size; omega) (fun j e => (hown.out.lt j e).1)))
        clear hown2 hgrow2 hat hlt2
        go_wp2
        go_roundw
        case rel =>
          refine ⟨k + 1, g, cap, by omega, by go_num, by rw [show 2 * (k + 1) = 2 * k + 2 by omega], ?_, G1⟩
          show World.ownsRow _ _ _ _ _ _ _
          have e : 2 * (k + 1) = 2 * k + 2 := by omega
          rw [e, text_cells, ← XX.out.1, List.append_assoc]
          exact R1.out
        case measure => simp [intOf]; omega
    · have hkn : k = n := by omega
      subst hkn
      have hcv := conv_text (w := wr) (l := textK xs k) (n := 2 * k) hown.out (by rw [textK_length])
      clear hlt
      go_wp2
      go_ret
      exact ⟨rfl, hB.out⟩
end Go.Proofs.Ytmmpeaedglnjlaa
