/-
  strings.Cut at a slash.
-/
import Derived.Test.YtfccmgnoebdlgaaDoorRatSplit
namespace Go.Proofs.YtfccmgnoebdlgaaDoor
open Go.RowKit

def CutOf (s X Y : ByteArray) (f : Bool) : Prop := X = bytesOf (Lib.cut s.data.toList [47]).1 ∧ Y = bytesOf (Lib.cut s.data.toList [47]).2.1 ∧ f = (Lib.cut s.data.toList [47]).2.2
def CutR (s : ByteArray) (w : World) (e : Ending) (w' : World) : Prop :=
  ∃ X Y f, e = .returned (.tuple #[.string X, .string Y, .bool f]) ∧ CutOf s X Y f ∧ X.size ≤ s.size ∧ Y.size ≤ s.size ∧ Below w.heap.size w w'
theorem cut_hit {s : ByteArray} {k : Nat} (h : Lib.indexByte s.data.toList 47 = (k : Int)) : CutOf s (s.extract 0 k) (s.extract (k + 1) s.size) true ∧ k < s.size := by
  have h1 := (Lib.indexByte_some h).1
  have hk := (List.getElem?_eq_some_iff.1 h1).1
  have e : Lib.cut s.data.toList [47] = (s.data.toList.take k, s.data.toList.drop (k + 1), true) := by
    unfold Lib.cut
    rw [Lib.index_one, h, if_pos (by omega)]
    simp
  have hk2 : k < s.size := hk
  refine ⟨?_, hk2⟩
  unfold CutOf
  rw [e]
  refine ⟨?_, ?_, rfl⟩
  · rw [← bytesOf_data (s.extract 0 k)]
    congr 1
    rw [ByteArray.data_extract, Array.toList_extract]
    simp
  · rw [← bytesOf_data (s.extract (k + 1) s.size), Lib.extract_to_end]
theorem cut_miss {s : ByteArray} (h : Lib.indexByte s.data.toList 47 = -1) : CutOf s s ⟨#[]⟩ false := by
  have e : Lib.cut s.data.toList [47] = (s.data.toList, [], false) := by
    unfold Lib.cut
    rw [Lib.index_one, h, if_neg (by omega)]
  unfold CutOf
  rw [e]
  exact ⟨(bytesOf_data s).symm, rfl, rfl⟩
set_option maxHeartbeats 1000000 in
theorem cutLite_any (s : ByteArray) (w : World) (hs : s.size ≤ 1048576) : Calls Tryd.prog 43 #[.string s, .string ⟨#[47]⟩] w (CutR s w) := by
  by_cases h : Lib.indexByte s.data.toList 47 = -1
  · have C := Lib.hid (cut_miss h)
    have IX := Lib.hid h
    clear h
    go_enter Tryd.func43, Tryd.ntmps43
    go_wp2_with fail
    refine (Tryd.stringslite_Index_one s 47 _).mono ?_
    rintro e w1 ⟨rfl, rfl⟩
    rw [IX.out]
    have FIN : Hid (CutR s w1 (.returned (.tuple #[.string s, .string ⟨#[]⟩, .bool false])) w1) := ⟨s, ⟨#[]⟩, false, rfl, C.out, Nat.le_refl _, Nat.zero_le _, Below.refl _ _⟩
    go_wp2
    go_ret3
    exact FIN.out
  · have h0 := Lib.indexByte_ge s.data.toList 47
    obtain ⟨k, hk⟩ := Int.eq_ofNat_of_zero_le (show 0 ≤ Lib.indexByte s.data.toList 47 by omega)
    obtain ⟨hc, hlt⟩ := cut_hit hk
    have C := Lib.hid hc
    have IX := Lib.hid hk
    have i1 : (k : Int) ≤ (s.size : Int) := by omega
    have i2 : (0 : Int) ≤ (k : Int) := by omega
    have i3 : IntKind.i64.wrap ((k : Int) + 1) = (k : Int) + 1 := IntWalk.i64_in _ (by omega)
    have i4 : (k : Int) + 1 ≤ (s.size : Int) := by omega
    have i5 : (0 : Int) ≤ (k : Int) + 1 := by omega
    have i6 : ((k : Int) + 1).toNat = k + 1 := by omega
    have s1 : (s.extract 0 k).size ≤ s.size := by rw [ByteArray.size_extract]; omega
    have s2 : (s.extract (k + 1) s.size).size ≤ s.size := by rw [ByteArray.size_extract]; omega
    have S12 := Lib.hid (And.intro s1 s2)
    clear h h0 hk hc s1 s2
    go_enter Tryd.func43, Tryd.ntmps43
    go_wp2_with fail
    refine (Tryd.stringslite_Index_one s 47 _).mono ?_
    rintro e w1 ⟨rfl, rfl⟩
    rw [IX.out]
    have FIN : Hid (∀ q, CutR s w1 (.returned (.tuple #[.string (s.extract 0 k), .string (s.extract (k + 1) s.size), .bool true])) (w1.drewN q)) := fun q => ⟨_, _, true, rfl, C.out, S12.out.1, S12.out.2, below_drewN (Below.refl _ _) q⟩
    go_wp2
    go_quiet (fail)
    go_wp2
    go_ret3
    exact FIN.out _
theorem cut_any (s : ByteArray) (w : World) (hs : s.size ≤ 1048576) : Calls Tryd.prog 25 #[.string s, .string ⟨#[47]⟩] w (CutR s w) := by
  go_enter Tryd.func25, Tryd.ntmps25
  go_wp2_with fail
  refine (cutLite_any s _ hs).mono ?_
  rintro e w1 ⟨X, Y, f, rfl, h⟩
  have FIN : Hid (CutR s w (.returned (.tuple #[.string X, .string Y, .bool f])) w1) := ⟨X, Y, f, rfl, h⟩
  clear h
  go_wp2
  go_ret3
  exact FIN.out
end Go.Proofs.YtfccmgnoebdlgaaDoor
