/-
  Numbers are read out of texts: the program's readNumber.
-/
import Derived.Test.YtfccmgnoebdlgaaDoorRatText2
import Derived.Test.YtfccmgnoebdlgaaDoorLaidP
namespace Go.Proofs.YtfccmgnoebdlgaaDoor
open Go.RowKit

/-- The two errors hold values; the bound of the search for bytes holds a number. -/
def Errs (w : World) : Prop := (∃ tp p, w.var? Tryd.prog "strconv.ErrSyntax" = some #[.iface tp p]) ∧ (∃ tp p, w.var? Tryd.prog "strconv.ErrRange" = some #[.iface tp p])
theorem var_below {w w' : World} {nm : String} {g : Nat} {tp : TypeId} {p : Value} (hg : Tryd.prog.globalNamed nm = some g) (h : w.var? Tryd.prog nm = some #[.iface tp p]) (hb : Below w.heap.size w w') : w'.var? Tryd.prog nm = some #[.iface tp p] := by
  have hc := World.var?_cell hg h 0
  have hlt : g < w.heap.size := by
    by_cases h' : g < w.heap.size
    · exact h'
    · simp [World.cell?, Array.getElem?_eq_none (Nat.le_of_not_lt h')] at hc
  unfold World.var? at h ⊢
  rw [hg] at h ⊢
  simp only [Option.bind_some] at h ⊢
  rw [hb.block _ hlt]
  exact h
theorem Errs.below {w w' : World} (h : Errs w) (hb : Below w.heap.size w w') : Errs w' := by
  obtain ⟨⟨a, b, h1⟩, ⟨c, d, h2⟩⟩ := h
  exact ⟨⟨a, b, var_below (g := 1) (by kernel_rfl) h1 hb⟩, ⟨c, d, var_below (g := 2) (by kernel_rfl) h2 hb⟩⟩
def Rd (w : World) : Prop := Tab w ∧ Errs w
theorem Rd.below {w w' : World} (h : Rd w) (hb : Below w.heap.size w w') : Rd w' := ⟨h.1.below hb, h.2.below hb⟩
theorem bytesOf_data (s : ByteArray) : bytesOf s.data.toList = s := by
  apply ByteArray.ext
  simp [bytesOf]
theorem bytesOf_list (l : List UInt8) : (bytesOf l).data.toList = l := by simp [bytesOf]
theorem bytesOf_inj {a b : List UInt8} (h : bytesOf a = bytesOf b) : a = b := by rw [← bytesOf_list a, h, bytesOf_list]
theorem intSat_bd (l : List UInt8) : -9223372036854775808 ≤ Lib.intSat 64 l ∧ Lib.intSat 64 l ≤ 9223372036854775807 := by
  unfold Lib.intSat
  split <;> decide

theorem parse_bounds {l : List UInt8} {v : Int} (h : Lib.parseIntB 64 l = .ok v) : -9223372036854775808 ≤ v ∧ v ≤ 9223372036854775807 := by
  have e63 : (2 : Nat) ^ (64 - 1) = 9223372036854775808 := by decide
  cases l with
  | nil => cases h
  | cons c r =>
    simp only [Lib.parseIntB, e63] at h
    split at h
    · cases h
    · cases h
    · rename_i u _
      split at h
      · cases h
      · rename_i h1
        split at h
        · cases h
        · rename_i h2
          injection h with h
          by_cases hn : c.toNat = 45
          · rw [if_pos hn] at h
            have : ¬ 9223372036854775808 < u := fun hu => h2 ⟨hn, hu⟩
            omega
          · rw [if_neg hn] at h
            have : ¬ 9223372036854775808 ≤ u := fun hu => h1 ⟨hn, hu⟩
            omega
theorem list_ne {a b : ByteArray} (h : a ≠ b) : (a.toList == b.toList) = false := by
  rw [beq_eq_false_iff_ne]
  intro e
  exact h (by apply ByteArray.ext; have := congrArg List.toArray e; simpa [ByteArray.toList_eq] using this)

theorem num_ends (e : Lib.NumEnd Int) : (∃ v, e = Lib.NumEnd.ok v) ∨ e = Lib.NumEnd.syntax ∨ e = Lib.NumEnd.range := by cases e <;> simp

/-- What readNumber returns. -/
def NumR (s : ByteArray) (w : World) (e : Ending) (w' : World) : Prop :=
  ∃ (v : Int) (b : Bool), e = .returned (.tuple #[.int .i64 v, .bool b]) ∧ (-9223372036854775808 ≤ v ∧ v ≤ 9223372036854775807) ∧ (∀ m : Int, -1000000000000 ≤ m → m ≤ 1000000000000 → s = bytesOf (Lib.itoa m) → v = m ∧ b = true) ∧ Below w.heap.size w w'

set_option maxHeartbeats 2000000 in
set_option maxRecDepth 8000 in
theorem readNumber_any (s : ByteArray) (w : World) (hs : s.size ≤ 1048576) (hr : Rd w) :
    Calls Tryd.prog 26 #[.string s] w (NumR s w) := by
  have HR := Lib.hid hr
  have PI : Hid (∀ m : Int, -1000000000000 ≤ m → m ≤ 1000000000000 → s = bytesOf (Lib.itoa m) → Lib.parseIntB 64 s.data.toList = .ok m) := fun m h1 h2 h3 => by rw [h3, bytesOf_list]; exact parse_itoa h1 h2
  clear hr
  rcases num_ends (Lib.parseIntB 64 s.data.toList) with ⟨v, hp⟩ | hp | hp
  · have HB : Hid (-9223372036854775808 ≤ v ∧ v ≤ 9223372036854775807) := parse_bounds hp
    have HP := Lib.hid hp
    clear hp
    go_enter Tryd.func26, Tryd.ntmps26
    go_wp2_with fail
    refine (Tryd.strconv_ParseInt_10_at64_ok s (by omega) v HP.out _).mono ?_
    rintro e w1 ⟨rfl, hw⟩
    have B1 : Hid (Below w.heap.size w w1) := by
      show Below _ _ _
      rcases hw with rfl | ⟨t, rfl⟩
      · exact Below.refl _ _
      · exact Lib.bytesWorld_below _ _ _
    clear hw
    go_wp2_with fail
    refine (decimal_any v _ HB.out.1 HB.out.2 (HR.out.1.below B1.out)).mono ?_
    rintro e w2 ⟨rfl, hb⟩
    have B2 := Lib.hid (B1.out.trans (hb.mono B1.out.size))
    obtain ⟨T, hT⟩ : ∃ T, T = bytesOf (Lib.itoa v) := ⟨_, rfl⟩
    have TT := Lib.hid hT
    rw [← hT]
    clear hb hT B1
    by_cases e : T = s
    · subst e
      have FIN : Hid (NumR T w (.returned (.tuple #[.int .i64 v, .bool true])) w2) := ⟨v, true, rfl, HB.out, fun m h1 h2 h3 => ⟨by have := PI.out m h1 h2 h3; rw [HP.out] at this; injection this, rfl⟩, B2.out⟩
      go_wp2
      go_ret2
      exact FIN.out
    · have e1 : (T.toList == s.toList) = false := list_ne e
      have FIN : Hid (NumR s w (.returned (.tuple #[.int .i64 0, .bool false])) w2) := ⟨0, false, rfl, by omega, fun m h1 h2 h3 => by
        have := PI.out m h1 h2 h3
        rw [HP.out] at this
        injection this with this
        exact absurd (by rw [TT.out, this, h3]) e, B2.out⟩
      go_wp2
      go_ret2
      exact FIN.out
  · have HP := Lib.hid hp
    obtain ⟨⟨tp, p, hv⟩, -⟩ := HR.out.2
    have HV := Lib.hid hv
    clear hp hv
    go_enter Tryd.func26, Tryd.ntmps26
    go_wp2_with fail
    refine (Tryd.strconv_ParseInt_10_at64_syntax_var s (by omega) HP.out tp p _ HV.out).mono ?_
    rintro e w1 ⟨N, rfl, -, -, hb⟩
    have FIN : Hid (NumR s w (.returned (.tuple #[.int .i64 0, .bool false])) w1) := ⟨0, false, rfl, by omega, fun m h1 h2 h3 => by
        have := PI.out m h1 h2 h3
        rw [HP.out] at this
        exact absurd this (by simp), hb⟩
    clear hb
    go_wp2
    go_ret2
    exact FIN.out
  · have HP := Lib.hid hp
    obtain ⟨-, ⟨tp, p, hv⟩⟩ := HR.out.2
    have HV := Lib.hid hv
    clear hp hv
    go_enter Tryd.func26, Tryd.ntmps26
    go_wp2_with fail
    refine (Tryd.strconv_ParseInt_10_at64_range_var s (by omega) HP.out tp p _ HV.out).mono ?_
    rintro e w1 ⟨N, rfl, -, -, hb⟩
    obtain ⟨q, hq⟩ : ∃ q, q = Lib.intSat 64 s.data.toList := ⟨_, rfl⟩
    rw [← hq]
    have FIN : Hid (NumR s w (.returned (.tuple #[.int .i64 0, .bool false])) w1) := ⟨0, false, rfl, by omega, fun m h1 h2 h3 => by
        have := PI.out m h1 h2 h3
        rw [HP.out] at this
        exact absurd this (by simp), hb⟩
    clear hb hq
    go_wp2
    go_ret2
    exact FIN.out
end Go.Proofs.YtfccmgnoebdlgaaDoor
