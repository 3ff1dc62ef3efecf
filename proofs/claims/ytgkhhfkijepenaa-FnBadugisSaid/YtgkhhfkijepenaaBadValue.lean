/-
  BadugiCards in the reference; BadugiValue in the reference and in the program.
-/
import Derived.Test.YtgkhhfkijepenaaBadCards
import Derived.Test.YtgkhhfkijepenaaBadSpec
namespace Go.Proofs.Ytgkhhfkijepenaa
open Go.RowKit

set_option maxHeartbeats 1000000 in
theorem specBad_any (A : Option Addr) (c : Nat) (xs : List Int) (w : World) (h : RowI w A xs) (hc : xs.length ≤ c) (hcm : c ≤ maxLen) (hl : xs.length ≤ 1048576) :
    Calls Try.prog 12 #[.slice A xs.length c] w (GivesC w (bcL xs) (bcC xs)) := by
  have HR := Lib.hid h
  have HC := Lib.hid (And.intro hc hcm)
  clear h hc hcm
  by_cases hf : szP xs 4 4
  · have D : Hid (decide (szP xs 4 4) = true) := decide_eq_true hf
    have R := Lib.hid (bc_yes hf)
    have HF := Lib.hid hf
    have X4 : Hid (xs.length = 4) := by show _ = _; have := hf.1; have := hf.2.1; omega
    clear hf
    go_enter Try.func12, Try.ntmps12
    go_wp2_with fail
    refine (l04Sized_any A c xs 4 4 _ _ _ rfl rfl HR.out hl).mono ?_
    rintro e w1 ⟨rfl, hb⟩
    rw [D.out, X4.out]
    have B1 := Lib.hid hb
    clear hb
    go_wp2_with fail
    refine (l05Badugi_any A c xs _ (HR.out.below B1.out) X4.out HF.out.2.2 (by rw [← X4.out]; exact HC.out.1) HC.out.2).mono ?_
    rintro e w2 ⟨A2, c2, rfl, ho, hb⟩
    have FIN : Hid (GivesC w (bcL xs) (bcC xs) (.returned (.tuple #[.slice A2 (bgL xs).length c2, .int .i64 0])) w2) := by
      rw [R.out.1, R.out.2]
      exact ⟨A2, c2, rfl, ho.own.mono B1.out.size, B1.out.trans (hb.mono B1.out.size)⟩
    obtain ⟨n, hn⟩ : ∃ n, n = (bgL xs).length := ⟨_, rfl⟩
    rw [← hn] at FIN ⊢
    clear ho hb hn
    go_wp2
    go_ret2
    exact FIN.out
  · have D : Hid (decide (szP xs 4 4) = false) := decide_eq_false hf
    have R := Lib.hid (bc_no hf)
    clear hf
    go_enter Try.func12, Try.ntmps12
    go_wp2_with fail
    refine (l04Sized_any A c xs 4 4 _ _ _ rfl rfl HR.out hl).mono ?_
    rintro e w1 ⟨rfl, hb⟩
    rw [D.out]
    go_wp2
    go_ret2
    exact ⟨none, 0, by rw [R.out.1, R.out.2]; rfl, by rw [R.out.1]; exact OwnI.nil_ _ _, hb⟩

/-! ### Values -/
/-- Digits to the base 13. -/
def digI (ds : List Int) : Int := ds.foldl (fun v d => 13 * v + d) 0
theorem digI_snoc (ds : List Int) (d : Int) : digI (ds ++ [d]) = 13 * digI ds + d := by unfold digI; rw [List.foldl_append]; rfl
theorem digI_bound (ds : List Int) : (∀ d ∈ ds, 0 ≤ d ∧ d ≤ 12) → 0 ≤ digI ds ∧ digI ds < 13 ^ ds.length := by
  refine snoc_ind (p := fun ds => (∀ d ∈ ds, 0 ≤ d ∧ d ≤ 12) → 0 ≤ digI ds ∧ digI ds < 13 ^ ds.length) ?_ ?_ ds
  · intro _; exact ⟨by simp [digI], by simp [digI]⟩
  · intro ds d ih h
    obtain ⟨h1, h2⟩ := ih (fun x hx => h x (by simp [hx]))
    obtain ⟨h3, h4⟩ := h d (by simp)
    rw [digI_snoc, List.length_append, List.length_singleton, Int.pow_succ]
    omega
theorem digI_small {ds : List Int} (h : ∀ d ∈ ds, 0 ≤ d ∧ d ≤ 12) (hl : ds.length ≤ 4) : 0 ≤ digI ds ∧ digI ds < 28561 := by
  obtain ⟨h1, h2⟩ := digI_bound ds h
  refine ⟨h1, Int.lt_of_lt_of_le h2 ?_⟩
  have : (13 : Nat) ^ ds.length ≤ 13 ^ 4 := Nat.pow_le_pow_right (by omega) hl
  have e : ((13 : Int) ^ ds.length) = ((13 ^ ds.length : Nat) : Int) := by simp
  rw [e]; omega
theorem low_dig (x : Int) : 0 ≤ lowI x ∧ lowI x ≤ 12 := by unfold lowI; omega
theorem low_digs (xs : List Int) : ∀ d ∈ xs.map lowI, 0 ≤ d ∧ d ≤ 12 := by
  intro d hd
  obtain ⟨x, _, rfl⟩ := List.mem_map.1 hd
  exact low_dig x

set_option maxHeartbeats 1000000 in
theorem digitsI_any (A : Option Addr) (c : Nat) (ds : List Int) (n : Nat) (w : World) (hn : n = ds.length) (h : RowI w A ds) (hl : n ≤ 4) (hd : ∀ d ∈ ds, 0 ≤ d ∧ d ≤ 12) :
    Calls Try.prog 29 #[.slice A n c] w fun e w' => e = .returned (.int .i64 (digI ds)) ∧ w = w' := by
  have HN := Lib.hid hn
  have HR := Lib.hid h
  have HD := Lib.hid hd
  clear hn h hd
  go_enter Try.func29, Try.ntmps29
  go_wp2
  go_loop [3, 4] (fun v i => ∃ (k : Nat) (y : Int), k ≤ n ∧ i = .int .i64 k ∧ v = .int .i64 y ∧ Hid (y = digI (ds.take k))) (fun _ i => n - (intOf i).toNat)
  case atStart => exact ⟨0, 0, Nat.zero_le _, rfl, rfl, rfl⟩
  case round =>
    obtain ⟨k, y, hk, rfl, rfl, HY⟩ := hrel
    by_cases hlt : k < n
    · have hkx : k < ds.length := by rw [← HN.out]; exact hlt
      obtain ⟨b, off, rfl, hb, hcell⟩ := HR.out.at_ hkx
      obtain ⟨d, hd⟩ : ∃ d, d = ds.getD k 0 := ⟨_, rfl⟩
      have d01 : 0 ≤ d ∧ d ≤ 12 := HD.out d (by rw [hd, List.getD_eq_getElem?_getD, List.getElem?_eq_getElem hkx]; exact List.getElem_mem hkx)
      have yb : 0 ≤ y ∧ y < 28561 := by rw [HY.out]; exact digI_small (fun d hd => HD.out d (List.mem_of_mem_take hd)) (by rw [List.length_take]; omega)
      have NX : Hid (13 * y + d = digI (ds.take (k + 1))) := by show _ = _; rw [take_snoc hkx, digI_snoc, ← HY.out, hd]
      rw [← hd] at hcell
      obtain ⟨y0, y1⟩ := yb
      obtain ⟨d0, d1⟩ := d01
      clear hd hb hkx
      go_wp2
      go_round
      case rel => exact ⟨k + 1, 13 * y + d, by omega, by go_num, by go_num, NX.out⟩
      case measure => simp [intOf]; omega
    · have hkn : k = n := by omega
      have R : Hid (digI ds = y) := by show _ = _; rw [HY.out, List.take_of_length_le (by rw [← HN.out]; omega)]
      clear hkn
      go_wp2
      go_ret
      exact ⟨ret_int R.out.symm, rfl⟩

def bvV (xs : List Int) : Int := if szP xs 4 4 then digI ((bgL xs).map lowI) + 28561 * (4 - ((bgL xs).length : Int)) else 0
theorem bv_yes {xs : List Int} (h : szP xs 4 4) : bvV xs = digI ((bgL xs).map lowI) + 28561 * (4 - ((bgL xs).length : Int)) := by unfold bvV; rw [if_pos h]
theorem bv_no {xs : List Int} (h : ¬ szP xs 4 4) : bvV xs = 0 := by unfold bvV; rw [if_neg h]

set_option maxHeartbeats 1000000 in
theorem specBadV_any (A : Option Addr) (c : Nat) (xs : List Int) (w : World) (h : RowI w A xs) (hc : xs.length ≤ c) (hcm : c ≤ maxLen) (hl : xs.length ≤ 1048576) :
    Calls Try.prog 10 #[.slice A xs.length c] w fun e w' => e = .returned (.tuple #[.int .i64 (bvV xs), .int .i64 (bcC xs)]) ∧ Below w.heap.size w w' := by
  have HR := Lib.hid h
  have HC := Lib.hid (And.intro hc hcm)
  clear h hc hcm
  by_cases hf : szP xs 4 4
  · have D : Hid (decide (szP xs 4 4) = true) := decide_eq_true hf
    have R := Lib.hid (bc_yes hf)
    have RV := bv_yes hf
    have HF := Lib.hid hf
    have h4 : xs.length = 4 := by have := hf.1; have := hf.2.1; omega
    have X4 : Hid (xs.length = 4) := h4
    obtain ⟨_, _, n1, n4⟩ := bgL_facts hf.2.2 h4
    have BOK : Hid (okC (bgL xs)) := bgL_ok hf.2.2 h4
    obtain ⟨n, hn⟩ : ∃ n, n = (bgL xs).length := ⟨_, rfl⟩
    obtain ⟨L, hL⟩ : ∃ L, L = bgL xs := ⟨_, rfl⟩
    obtain ⟨v, hv⟩ : ∃ v, v = digI (L.map lowI) := ⟨_, rfl⟩
    have vb : 0 ≤ v ∧ v < 28561 := by rw [hv]; exact digI_small (low_digs L) (by rw [List.length_map, hL]; exact n4)
    rw [← hL, ← hv, hL, ← hn] at RV
    rw [← hn] at n1 n4
    have NL : Hid (n = L.length) := by show _ = _; rw [hL]; exact hn
    have HL := Lib.hid hL
    have HV := Lib.hid hv
    have HRV := Lib.hid RV
    have HN := Lib.hid hn
    obtain ⟨v0, v1⟩ := vb
    clear hf h4 hn hL hv RV
    go_enter Try.func10, Try.ntmps10
    go_wp2_with fail
    refine (l04Sized_any A c xs 4 4 _ _ _ rfl rfl HR.out hl).mono ?_
    rintro e w1 ⟨rfl, hb⟩
    rw [D.out, X4.out]
    have B1 := Lib.hid hb
    clear hb
    go_wp2_with fail
    refine (l05Badugi_any A c xs _ (HR.out.below B1.out) X4.out HF.out.2.2 (by rw [← X4.out]; exact HC.out.1) HC.out.2).mono ?_
    rintro e w2 ⟨A2, c2, rfl, ho, hb⟩
    rw [← HL.out] at ho
    rw [← HN.out]
    have O2 := Lib.hid ho.own.row
    have B2 := Lib.hid (B1.out.trans (hb.mono B1.out.size))
    clear ho hb
    go_wp2_with fail
    refine (l05Ranks_n A2 c2 L n _ NL.out O2.out (by omega) (by rw [HL.out]; exact BOK.out)).mono ?_
    rintro e w3 ⟨A3, c3, rfl, ho, hb⟩
    have O3 := Lib.hid ho.own.row
    have B3 := Lib.hid (B2.out.trans (hb.mono B2.out.size))
    clear ho hb
    go_wp2_with fail
    refine (digitsI_any A3 c3 (L.map lowI) n _ (by rw [List.length_map]; exact NL.out) O3.out n4 (low_digs L)).mono ?_
    rintro e w4 ⟨rfl, rfl⟩
    rw [← HV.out]
    go_wp2
    go_ret2
    exact ⟨by rw [HRV.out, R.out.2]; go_num, B3.out⟩
  · have D : Hid (decide (szP xs 4 4) = false) := decide_eq_false hf
    have R := Lib.hid (bc_no hf)
    have RV := Lib.hid (bv_no hf)
    clear hf
    go_enter Try.func10, Try.ntmps10
    go_wp2_with fail
    refine (l04Sized_any A c xs 4 4 _ _ _ rfl rfl HR.out hl).mono ?_
    rintro e w1 ⟨rfl, hb⟩
    rw [D.out]
    go_wp2
    go_ret2
    exact ⟨by rw [R.out.2, RV.out]; rfl, hb⟩

set_option maxHeartbeats 1000000 in
theorem implBadV_any (A : Option Addr) (c : Nat) (xs : List Int) (w : World) (h : RowI w A xs) (hl : xs.length ≤ 1048576) :
    Calls Try.prog 9 #[.slice A xs.length c] w fun e w' => e = .returned (.tuple #[.int .i64 (bvV xs), .int .i64 (bcC xs)]) ∧ Below w.heap.size w w' := by
  have CALL := Lib.hid (implBad_any A c xs w h hl)
  clear h
  by_cases hf : szP xs 4 4
  · have R := Lib.hid (bc_yes hf)
    have RV := bv_yes hf
    have h4 : xs.length = 4 := by have := hf.1; have := hf.2.1; omega
    obtain ⟨_, _, n1, n4⟩ := bgL_facts hf.2.2 h4
    have BOK : Hid (okC (bgL xs)) := bgL_ok hf.2.2 h4
    obtain ⟨n, hn⟩ : ∃ n, n = (bgL xs).length := ⟨_, rfl⟩
    obtain ⟨L, hL⟩ : ∃ L, L = bgL xs := ⟨_, rfl⟩
    obtain ⟨v, hv⟩ : ∃ v, v = digI (L.map lowI) := ⟨_, rfl⟩
    rw [← hL, ← hv, hL, ← hn] at RV
    rw [← hn] at n1 n4
    have NL : Hid (n = L.length) := by show _ = _; rw [hL]; exact hn
    have HV := Lib.hid hv
    have HRV := Lib.hid RV
    have LOK : Hid (okC L) := by show okC _; rw [hL]; exact BOK.out
    have CALL2 : Hid (Calls Try.prog 11 #[.slice A xs.length c] w (GivesC w L 0)) := by
      have := CALL.out
      rw [R.out.1, R.out.2, ← hL] at this
      exact this
    obtain ⟨xl, hxl⟩ : ∃ xl, xl = xs.length := ⟨_, rfl⟩
    rw [← hxl] at CALL2 ⊢
    clear hf h4 hn hL hv RV CALL BOK hl hxl
    go_enter Try.func9, Try.ntmps9
    go_wp2_with fail
    refine CALL2.out.mono ?_
    rintro e w1 ⟨A1, c1, rfl, ho, hb⟩
    rw [← NL.out]
    have O1 := Lib.hid ho.row
    have B1 := Lib.hid hb
    clear ho hb CALL2
    go_wp2
    go_loop [6, 19] (fun v i => ∃ (k : Nat) (y : Int), k ≤ n ∧ i = .int .i64 k ∧ v = .int .i64 y ∧ Hid (y = digI ((L.map lowI).take k))) (fun _ i => n - (intOf i).toNat)
    case atStart => exact ⟨0, 0, Nat.zero_le _, rfl, rfl, rfl⟩
    case round =>
      obtain ⟨k, y, hk, rfl, rfl, HY⟩ := hrel
      have yb : 0 ≤ y ∧ y < 28561 := by rw [HY.out]; exact digI_small (fun d hd => low_digs L d (List.mem_of_mem_take hd)) (by rw [List.length_take, List.length_map, ← NL.out]; omega)
      obtain ⟨y0, y1⟩ := yb
      by_cases hlt : k < n
      · have hkx : k < L.length := by rw [← NL.out]; exact hlt
        obtain ⟨b, off, rfl, hb, hcell⟩ := O1.out.at_ hkx
        obtain ⟨x, hx⟩ : ∃ x, x = L.getD k 0 := ⟨_, rfl⟩
        have x01 : 0 ≤ x ∧ x ≤ 51 := LOK.out.1 x (by rw [hx, List.getD_eq_getElem?_getD, List.getElem?_eq_getElem hkx]; exact List.getElem_mem hkx)
        obtain ⟨d, hd⟩ : ∃ d, d = lowI x := ⟨_, rfl⟩
        have d01 : 0 ≤ d ∧ d ≤ 12 := by rw [hd]; exact low_dig x
        have NX : Hid (13 * y + d = digI ((L.map lowI).take (k + 1))) := by
          show _ = _
          rw [take_snoc (by rw [List.length_map]; exact hkx), digI_snoc, ← HY.out, hd, hx]
          simp [List.getD_eq_getElem?_getD, hkx]
        rw [← hx] at hcell
        have CX : Hid (∀ W : World, Calls Try.prog 26 #[.int .i64 x] W fun e w' => e = .returned (.int .i64 d) ∧ W = w') := fun W => by rw [hd]; exact implRank_any2 x W x01.1 x01.2
        obtain ⟨d0, d1⟩ := d01
        clear hd hb hkx hx x01
        go_wp2_with (go_at_call 26; refine (CX.out _).mono ?_; rintro e w' ⟨rfl, rfl⟩)
        go_round
        case rel => exact ⟨k + 1, 13 * y + d, by omega, by go_num, by go_num, NX.out⟩
        case measure => simp [intOf]; omega
      · have hkn : k = n := by omega
        have VY : Hid (v = y) := by show _ = _; rw [HV.out, HY.out, List.take_of_length_le (by rw [List.length_map, ← NL.out]; omega)]
        have FIN : Hid ((bvV xs = y + 28561 * (4 - (n : Int))) ∧ bcC xs = 0) := ⟨by rw [HRV.out, VY.out], R.out.2⟩
        clear hkn
        go_wp2
        go_ret2
        exact ⟨by rw [FIN.out.1, FIN.out.2]; go_num, B1.out⟩
  · have R := Lib.hid (bc_no hf)
    have RV := Lib.hid (bv_no hf)
    have CALL2 : Hid (Calls Try.prog 11 #[.slice A xs.length c] w (GivesC w [] 1)) := by
      have := CALL.out
      rw [R.out.1, R.out.2] at this
      exact this
    obtain ⟨xl, hxl⟩ : ∃ xl, xl = xs.length := ⟨_, rfl⟩
    rw [← hxl] at CALL2 ⊢
    clear hf CALL hl hxl
    go_enter Try.func9, Try.ntmps9
    go_wp2_with fail
    refine CALL2.out.mono ?_
    rintro e w1 ⟨A1, c1, rfl, ho, hb⟩
    have B1 := Lib.hid hb
    clear ho hb
    go_wp2
    go_ret2
    exact ⟨by rw [R.out.2, RV.out]; rfl, B1.out⟩
end Go.Proofs.Ytgkhhfkijepenaa
