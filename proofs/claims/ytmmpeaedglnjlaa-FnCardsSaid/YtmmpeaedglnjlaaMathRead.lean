/-
  Cards are read back from their text.
-/
import Derived.Test.YtmmpeaedglnjlaaTextC
import Derived.Test.YtmmpeaedglnjlaaReadC
import Derived.Test.YtmmpeaedglnjlaaMathOthers
import Derived.Test.YtmmpeaedglnjlaaMathDraw
namespace Go.Proofs.Ytmmpeaedglnjlaa
open Go.RowKit

theorem textK_at (xs : List Int) : ∀ (n k : Nat), k < n → (textK xs n)[2 * k]? = some (rkB (xs.getD k 0)) ∧ (textK xs n)[2 * k + 1]? = some (suB (xs.getD k 0))
  | 0, _, h => absurd h (by omega)
  | n + 1, k, h => by
    have hl := textK_length xs n
    rcases Nat.lt_or_ge k n with h1 | h1
    · have ih := textK_at xs n k h1
      show (textK xs n ++ _)[2 * k]? = _ ∧ (textK xs n ++ _)[2 * k + 1]? = _
      rw [List.getElem?_append_left (by omega), List.getElem?_append_left (by omega)]
      exact ih
    · have : k = n := by omega
      subst this
      show (textK xs k ++ _)[2 * k]? = _ ∧ (textK xs k ++ _)[2 * k + 1]? = _
      rw [List.getElem?_append_right (by omega), List.getElem?_append_right (by omega), hl]
      simp
theorem rk_idx : ∀ q : Fin 13, Lib.indexByte rkS.data.toList (([50, 51, 52, 53, 54, 55, 56, 57, 84, 74, 81, 75, 65] : List UInt8).getD q.val 0) = (q.val : Int) := by decide
theorem su_idx : ∀ q : Fin 4, Lib.indexByte suS.data.toList (([99, 100, 104, 115] : List UInt8).getD q.val 0) = (q.val : Int) := by decide
theorem rkB_idx {x : Int} (h0 : 0 ≤ x) (h1 : x ≤ 51) : Lib.indexByte rkS.data.toList (rkB x) = x / 4 := by
  have := rk_idx ⟨(x / 4).toNat, by have := h1; omega⟩
  unfold rkB
  rw [this]
  show (((x / 4).toNat : Nat) : Int) = x / 4
  have := h0
  omega
theorem suB_idx {x : Int} (h0 : 0 ≤ x) : Lib.indexByte suS.data.toList (suB x) = x % 4 := by
  have := su_idx ⟨(x % 4).toNat, by omega⟩
  unfold suB
  rw [this]
  show (((x % 4).toNat : Nat) : Int) = x % 4
  have := h0
  omega
theorem txtB_size {xs : List Int} (h : okC xs) : (txtB xs).size = 2 * xs.length := by
  rw [(txt_yes ((areC_iff xs).2 h)).1]
  show (textK xs xs.length).toArray.size = _
  simp [textK_length]
theorem read_card {xs : List Int} (h : okC xs) {k : Nat} (hk : k < xs.length) : rkI (txtB xs) k = xs.getD k 0 / 4 ∧ suI (txtB xs) k = xs.getD k 0 % 4 := by
  have hb := okC_getD h hk
  have ht := textK_at xs xs.length k hk
  rw [(txt_yes ((areC_iff xs).2 h)).1]
  unfold rkI suI byteAt
  constructor
  · rw [List.getD_eq_getElem?_getD]
    show Lib.indexByte _ ((textK xs xs.length)[2 * k]?.getD 0) = _
    rw [ht.1]
    exact rkB_idx hb.1 hb.2
  · rw [List.getD_eq_getElem?_getD]
    show Lib.indexByte _ ((textK xs xs.length)[2 * k + 1]?.getD 0) = _
    rw [ht.2]
    exact suB_idx hb.1
theorem crdK_back {xs : List Int} (h : okC xs) : crdK (txtB xs) xs.length = xs := by
  apply List.ext_getElem
  · rw [crdK_length]
  · intro k h1 h2
    have hc := read_card h h2
    simp only [crdK, List.getElem_map, List.getElem_range]
    rw [hc.1, hc.2, List.getD_eq_getElem?_getD, List.getElem?_eq_getElem h2]
    show 4 * (xs[k] / 4) + xs[k] % 4 = xs[k]
    omega
theorem read_back {xs : List Int} (h : okC xs) : readL (txtB xs) = xs ∧ readX (txtB xs) = 0 := by
  have hs := txtB_size h
  have h2 : (txtB xs).size / 2 = xs.length := by omega
  have hp : readP (txtB xs) := by
    refine ⟨by omega, ?_, ?_⟩
    · rw [h2]
      intro j hj
      have hb := okC_getD h hj
      rw [(read_card h hj).1, (read_card h hj).2]
      omega
    · rw [h2, crdK_back h]; exact h
  have := read_yes hp
  rw [this.1, h2, crdK_back h]
  exact ⟨rfl, this.2⟩
/-- Cards and the other cards are all cards. -/
theorem all_cards {xs : List Int} (h : okC xs) : othL xs = othK xs 52 ∧ othC xs = 0 ∧ okC (xs ++ othK xs 52) ∧ xs.length + (othK xs 52).length = 52 := by
  have ha := (areC_iff xs).2 h
  have hm : ∀ x ∈ othK xs 52, 0 ≤ x ∧ x ≤ 51 ∧ x ∉ xs := fun x hx => by
    have := othK_mem.1 hx
    exact ⟨this.1, by have := this.2.1; omega, this.2.2⟩
  have ho : okC (xs ++ othK xs 52) := by
    refine ⟨fun c hc => ?_, ?_⟩
    · rcases List.mem_append.1 hc with hc | hc
      · exact h.1 c hc
      · have := hm c hc; omega
    · exact List.nodup_append.2 ⟨h.2, othK_nodup xs 52, fun a ha b hb e => (hm b hb).2.2 (e ▸ ha)⟩
  refine ⟨by unfold othL; rw [if_pos ha], by unfold othC; rw [if_pos ha], ho, ?_⟩
  have h1 := othK_ge xs 52
  have h2 := nodup_len 52 _ ho.2 (fun c hc => by have := ho.1 c hc; omega)
  rw [List.length_append] at h2
  omega
end Go.Proofs.Ytmmpeaedglnjlaa
