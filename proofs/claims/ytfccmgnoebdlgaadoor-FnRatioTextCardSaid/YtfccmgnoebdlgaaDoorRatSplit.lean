/-
  The words between slashes, in the reference.
-/
import Derived.Test.YtfccmgnoebdlgaaDoorRatRead3
namespace Go.Proofs.YtfccmgnoebdlgaaDoor
open Go.RowKit

def bytK (s : ByteArray) (i : Nat) : UInt8 := s.data.toList.getD i 0
theorem bytK_eq {s : ByteArray} {m : Nat} (h : m < s.size) : s[m]'h = bytK s m := by
  have hd : s.data.toList[m]? = some (s[m]'h) := by
    rw [Array.getElem?_toList, Array.getElem?_eq_getElem (show m < s.data.size from h)]; rfl
  unfold bytK
  rw [List.getD_eq_getElem?_getD, hd]
  rfl
/-- The words so far, and where the next one begins. -/
def spS (s : ByteArray) : Nat → List ByteArray × Nat
  | 0 => ([], 0)
  | i + 1 => if i = s.size ∨ bytK s i = 47 then ((spS s i).1 ++ [s.extract (spS s i).2 i], i + 1) else spS s i
theorem spS_hit {s : ByteArray} {i : Nat} (h : i = s.size ∨ bytK s i = 47) : spS s (i + 1) = ((spS s i).1 ++ [s.extract (spS s i).2 i], i + 1) := by rw [spS, if_pos h]
theorem spS_miss {s : ByteArray} {i : Nat} (h : ¬ (i = s.size ∨ bytK s i = 47)) : spS s (i + 1) = spS s i := by rw [spS, if_neg h]
theorem spS_from (s : ByteArray) (i : Nat) : (spS s i).2 ≤ i ∧ (spS s i).1.length ≤ i := by
  induction i with
  | zero => exact ⟨Nat.le_refl _, Nat.le_refl _⟩
  | succ i ih =>
    by_cases h : i = s.size ∨ bytK s i = 47
    · rw [spS_hit h]; exact ⟨Nat.le_refl _, by simp; exact ih.2⟩
    · rw [spS_miss h]; omega
theorem spS_short (s : ByteArray) (i : Nat) : ∀ x ∈ (spS s i).1, x.size ≤ s.size := by
  induction i with
  | zero => intro x hx; cases hx
  | succ i ih =>
    by_cases h : i = s.size ∨ bytK s i = 47
    · rw [spS_hit h]
      intro x hx
      rcases List.mem_append.1 hx with hx | hx
      · exact ih x hx
      · rw [List.mem_singleton.1 hx, ByteArray.size_extract]; omega
    · rw [spS_miss h]; exact ih
theorem spS_same {s : ByteArray} {i : Nat} (k : Nat) (h : ∀ j, i ≤ j → j < i + k → ¬ (j = s.size ∨ bytK s j = 47)) : spS s (i + k) = spS s i := by
  induction k with
  | zero => rfl
  | succ k ih =>
    show spS s (i + k + 1) = _
    rw [spS_miss (h (i + k) (by omega) (by omega)), ih (fun j h1 h2 => h j h1 (by omega))]
def wordsB (s : ByteArray) : List ByteArray := (spS s (s.size + 1)).1
theorem wordsB_eq (s : ByteArray) : wordsB s = (spS s s.size).1 ++ [s.extract (spS s s.size).2 s.size] := by
  unfold wordsB; rw [spS_hit (.inl rfl)]
theorem words_one {l : List UInt8} (h : ∀ b ∈ l, b ≠ 47) : wordsB (bytesOf l) = [bytesOf l] := by
  have e := spS_same (s := bytesOf l) (i := 0) (bytesOf l).size (fun j _ h2 => by
    rintro (h3 | h3)
    · omega
    · unfold bytK at h3
      rw [bytesOf_list] at h3
      have hl : j < l.length := by rw [bytesOf_size] at h2; omega
      rw [List.getD_eq_getElem?_getD, List.getElem?_eq_getElem hl] at h3
      exact h _ (List.getElem_mem hl) h3)
  rw [Nat.zero_add] at e
  rw [wordsB_eq, e]
  show [] ++ [(bytesOf l).extract 0 (bytesOf l).size] = _
  rw [ByteArray.extract_zero_size, List.nil_append]
theorem words_two {a b : List UInt8} (ha : ∀ x ∈ a, x ≠ 47) (hb : ∀ x ∈ b, x ≠ 47) : wordsB (bytesOf (a ++ 47 :: b)) = [bytesOf a, bytesOf b] := by
  obtain ⟨s, hs⟩ : ∃ s, s = bytesOf (a ++ 47 :: b) := ⟨_, rfl⟩
  have hsz : s.size = a.length + 1 + b.length := by rw [hs, bytesOf_size]; simp; omega
  have hl : s.data.toList = a ++ 47 :: b := by rw [hs, bytesOf_list]
  rw [← hs]
  have e1 := spS_same (s := s) (i := 0) a.length (fun j _ h2 => by
    rintro (h3 | h3)
    · omega
    · unfold bytK at h3
      rw [hl, List.getD_eq_getElem?_getD, List.getElem?_append_left (by omega), List.getElem?_eq_getElem (show j < a.length by omega)] at h3
      exact ha _ (List.getElem_mem (by omega)) h3)
  rw [Nat.zero_add] at e1
  have e2 : bytK s a.length = 47 := by
    unfold bytK
    rw [hl, List.getD_eq_getElem?_getD, List.getElem?_append_right (Nat.le_refl _), Nat.sub_self]
    rfl
  have e3 := spS_hit (s := s) (i := a.length) (.inr e2)
  have e4 := spS_same (s := s) (i := a.length + 1) b.length (fun j h1 h2 => by
    rintro (h3 | h3)
    · omega
    · unfold bytK at h3
      rw [hl, List.getD_eq_getElem?_getD, List.getElem?_append_right (by omega), show j - a.length = (j - a.length - 1) + 1 by omega, List.getElem?_cons_succ, List.getElem?_eq_getElem (show j - a.length - 1 < b.length by omega)] at h3
      exact hb _ (List.getElem_mem (by omega)) h3)
  rw [← hsz] at e4
  rw [wordsB_eq, e4, e3, e1]
  have x1 : s.extract 0 a.length = bytesOf a := by
    rw [← bytesOf_data (s.extract 0 a.length)]
    congr 1
    rw [ByteArray.data_extract, Array.toList_extract, hl]
    simp
  have x2 : s.extract (a.length + 1) s.size = bytesOf b := by
    rw [← bytesOf_data (s.extract (a.length + 1) s.size), Lib.extract_to_end, hl]
    congr 1
    simp
  show ([] ++ [s.extract 0 a.length]) ++ [s.extract (a.length + 1) s.size] = _
  rw [x1, x2]; rfl

theorem string_info : (Tryd.prog.info? 9).map (fun i => (i.zero, i.size, i.bytes)) = some (some (.string ⟨#[]⟩), 1, 16) := by kernel_rfl
/-- What l01Split returns. -/
def SplR (s : ByteArray) (w : World) (e : Ending) (w' : World) : Prop :=
  ∃ g c, e = .returned (.slice (some ⟨g, 0, none⟩) (wordsB s).length c) ∧ w'.ownsRow w.heap.size 9 1 (.slice (some ⟨g, 0, none⟩) (wordsB s).length c) (wordsB s).length ((wordsB s).map Value.string) ∧ Below w.heap.size w w'

set_option maxHeartbeats 4000000 in
set_option maxRecDepth 8000 in
theorem l01Split_any (s : ByteArray) (w : World) (hs : s.size ≤ 1048576) :
    Calls Tryd.prog 22 #[.string s, .int .u8 47] w (SplR s w) := by
  obtain ⟨i0, hi, hz0, hz1, hz2⟩ := info_parts string_info
  have HI := Lib.hid (And.intro hi (And.intro hz0 (And.intro hz1 hz2)))
  clear hi hz0 hz1 hz2
  go_enter Tryd.func22, Tryd.ntmps22
  go_wp2
  go_loopw [5, 6, 7] (fun v f i wr => ∃ k fr n : Nat, k ≤ s.size + 1 ∧ fr ≤ k ∧ n ≤ k ∧ i = .int .i64 k ∧ f = .int .i64 fr ∧ Hid (fr = (spS s k).2 ∧ n = (spS s k).1.length) ∧ Hid (wr.ownsRow w.heap.size 9 1 v n ((spS s k).1.map Value.string)) ∧ Hid (Below w.heap.size w wr)) (fun _ _ i _ => s.size + 1 - (intOf i).toNat)
  case atStart => exact ⟨0, 0, 0, Nat.zero_le _, Nat.le_refl _, Nat.le_refl _, rfl, rfl, ⟨rfl, rfl⟩, World.ownsRow_made w #[] 0 (Nat.le_refl _) (by decide) rfl, (Below.refl _ _).alloc (Nat.le_refl _) _⟩
  case round =>
    obtain ⟨k, fr, n, hk, hfr, hn, rfl, rfl, FN, OW, BL⟩ := hrel
    by_cases hle : k ≤ s.size
    · have i1 : (k : Int) ≤ (s.size : Int) := by omega
      have i2 : (0 : Int) ≤ (k : Int) := by omega
      have i3 : (0 : Int) ≤ (fr : Int) := by omega
      have i4 : (fr : Int) ≤ (k : Int) := by omega
      have i5 : IntKind.i64.wrap ((k : Int) + 1) = ((k + 1 : Nat) : Int) := by rw [IntWalk.i64_in _ (by omega)]; omega
      by_cases hit : k = s.size ∨ bytK s k = 47
      · have NX : Hid (k + 1 = (spS s (k + 1)).2 ∧ n + 1 = (spS s (k + 1)).1.length ∧ (spS s (k + 1)).1.map Value.string = (spS s k).1.map Value.string ++ [Value.string (s.extract fr k)]) := by
          show _ ∧ _ ∧ _
          rw [spS_hit hit, ← FN.out.1]
          exact ⟨rfl, by simp [FN.out.2], by simp⟩
        by_cases hks : k = s.size
        · have b1 : ((k : Int) == (s.size : Int)) = true := by rw [beq_iff_eq]; omega
          clear hit hks
          go_wp2_with (at_builtin; refine wpList_append_lies _ rfl (.tmp 26) (.tmp 31) 42 rfl w.heap.size 9 i0 (.string ⟨#[]⟩) 1 16 Tryd.underlying42 HI.out.1 HI.out.2.1 HI.out.2.2.1 HI.out.2.2.2 rfl (by decide) _ n _ rfl (OW.out.alloc _) ⟨wr.heap.size, 0, none⟩ 1 1 [.string (s.extract fr k)] rfl rfl (World.news_of_block (heap_alloc_new _ _)) (by simp [Value.oneCell']) (by decide) (by simp only [maxLen]; omega) (by omega) (by simp; have := BL.out.size; omega) _ rfl ?_; intro q cap w5 hown5 hgrow5 hat5 hlt5; have O5 := Lib.hid hown5; have G5 := Lib.hid hgrow5; clear hown5 hgrow5 hat5 hlt5)
          go_roundw
          case rel => exact ⟨k + 1, k + 1, n + 1, by omega, by omega, by omega, by go_num, by go_num, ⟨NX.out.1, NX.out.2.1⟩, by show World.ownsRow _ _ _ _ _ _ _; rw [NX.out.2.2]; exact O5.out, ((BL.out.alloc BL.out.size _).grown G5.out (by simp; have := BL.out.size; omega) (fun j e => (OW.out.lt j e).1))⟩
          case measure => simp [intOf]; omega
        · have hlt : k < s.size := by omega
          have b1 : ((k : Int) == (s.size : Int)) = false := by rw [beq_eq_false_iff_ne]; omega
          have i6 : (k : Int) < (s.size : Int) := by omega
          have b2 : ((((s[k]'hlt).toNat : Nat) : Int) == 47) = true := by
            rw [bytK_eq hlt]
            rcases hit with h | h
            · exact absurd h hks
            · rw [h]; rfl
          clear hit hks
          go_wp2_with (at_builtin; refine wpList_append_lies _ rfl (.tmp 26) (.tmp 31) 42 rfl w.heap.size 9 i0 (.string ⟨#[]⟩) 1 16 Tryd.underlying42 HI.out.1 HI.out.2.1 HI.out.2.2.1 HI.out.2.2.2 rfl (by decide) _ n _ rfl (OW.out.alloc _) ⟨wr.heap.size, 0, none⟩ 1 1 [.string (s.extract fr k)] rfl rfl (World.news_of_block (heap_alloc_new _ _)) (by simp [Value.oneCell']) (by decide) (by simp only [maxLen]; omega) (by omega) (by simp; have := BL.out.size; omega) _ rfl ?_; intro q cap w5 hown5 hgrow5 hat5 hlt5; have O5 := Lib.hid hown5; have G5 := Lib.hid hgrow5; clear hown5 hgrow5 hat5 hlt5)
          go_roundw
          case rel => exact ⟨k + 1, k + 1, n + 1, by omega, by omega, by omega, by go_num, by go_num, ⟨NX.out.1, NX.out.2.1⟩, by show World.ownsRow _ _ _ _ _ _ _; rw [NX.out.2.2]; exact O5.out, ((BL.out.alloc BL.out.size _).grown G5.out (by simp; have := BL.out.size; omega) (fun j e => (OW.out.lt j e).1))⟩
          case measure => simp [intOf]; omega
      · have hlt : k < s.size := by
          have : k ≠ s.size := fun h => hit (.inl h)
          omega
        have b1 : ((k : Int) == (s.size : Int)) = false := by rw [beq_eq_false_iff_ne]; omega
        have i6 : (k : Int) < (s.size : Int) := by omega
        have b2 : ((((s[k]'hlt).toNat : Nat) : Int) == 47) = false := by
          rw [beq_eq_false_iff_ne, bytK_eq hlt]
          intro h
          exact hit (.inr (UInt8.toNat_inj.1 (by have e47 : (47 : UInt8).toNat = 47 := rfl
                                                 omega)))
        have NX : Hid (spS s (k + 1) = spS s k) := spS_miss hit
        clear hit
        go_wp2
        go_roundw
        case rel => exact ⟨k + 1, fr, n, by omega, by omega, by omega, by go_num, rfl, by show _ ∧ _; rw [NX.out]; exact FN.out, by show World.ownsRow _ _ _ _ _ _ _; rw [NX.out]; exact OW.out, BL.out⟩
        case measure => simp [intOf]; omega
    · have hk2 : k = s.size + 1 := by omega
      have i1 : ¬ ((k : Int) ≤ (s.size : Int)) := by omega
      have WB : Hid ((spS s k).1 = wordsB s) := by show _ = _; rw [hk2]; rfl
      have NB : Hid (n = (wordsB s).length) := by show _ = _; rw [FN.out.2, WB.out]
      have N1 : Hid (1 ≤ n) := by show 1 ≤ n; rw [NB.out, wordsB_eq]; simp
      have OW2 := OW.out
      rw [WB.out] at OW2
      obtain ⟨g, c, rfl⟩ : ∃ g c, u5 = Value.slice (some ⟨g, 0, none⟩) n c := by
        rcases OW2.2 with ⟨-, h0⟩ | ⟨g, cap, cur, h, -⟩
        · have h1 := N1.out
          have h2 := NB.out
          have h3 : wordsB s = [] := by first | exact List.map_eq_nil_iff.1 h0 | (have := h0.1; omega) | omega
          rw [h3] at h2
          simp at h2; omega
        · exact ⟨g, cap, h⟩
      have FIN : Hid (SplR s w (.returned (.slice (some ⟨g, 0, none⟩) n c)) wr) := ⟨g, c, by rw [NB.out], by rw [← NB.out]; exact OW2, BL.out⟩
      clear OW2 OW hk2 hle FN
      go_wp2
      go_ret
      exact FIN.out
end Go.Proofs.YtfccmgnoebdlgaaDoor
