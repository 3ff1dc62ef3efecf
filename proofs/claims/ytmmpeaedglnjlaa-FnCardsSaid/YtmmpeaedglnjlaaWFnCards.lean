/-
  The walk of the law FnCards.
-/
import Derived.Test.YtmmpeaedglnjlaaDrawText
import Derived.Test.YtmmpeaedglnjlaaOthers
import Derived.Test.YtmmpeaedglnjlaaLikeInts
import Derived.Test.YtmmpeaedglnjlaaOwnT
namespace Go.Proofs.Ytmmpeaedglnjlaa
open Go.RowKit

section
variable {P : Program} {w : World}
/-- An append that stands under a guard. -/
theorem wpList_append_gd {ops : Array Oper} {rest : List Oper} {o : Oper} {a : Act} {Q : Exit → Act → World → Prop} (hgd : Region.wanted o (yielded ops a.tmps) = true) (s x : Operand) (t : TypeId)
    (ho : o.op = .call { callee := .builtin .append, args := #[s, x], argTypes := #[t, t] })
    (base : Nat) (e : TypeId) (i : TypeInfo) (z : Value) (size bytes : Nat) (ht : P.underlying t = some (.slice e)) (hi : P.info? e = some i) (hz : i.zero = some z)
    (hsize : i.size = size) (hby : i.bytes = bytes) (hzs : z.cells.size = size) (hsz : 0 < size)
    (v : Value) (n : Nat) (xs : List Value) (hs : a.eval s = v) (hown : w.ownsRow base e size v n xs)
    (B : Nat) (A : Option Addr) (m c : Nat) (news : List Value) (hx : a.eval x = .slice A m c) (hr : Reads w B size A m news) (h1 : ∀ u ∈ news, u.oneCell' = true)
    (h63 : n + m ≤ maxLen) (hbytes : (n + m) * bytes ≤ 140737488355328) (hbase : base ≤ w.heap.size)
    (h : ∀ v' w', w'.ownsRow base e size v' (n + m) (xs ++ news) → w.grownBy w' v.ownBlock → (v'.ownBlock = v.ownBlock ∨ v'.ownBlock = some w.heap.size) → wpList P ops Q rest (a.put o.dst v') w') : wpList P ops Q (o :: rest) a w := by
  unfold wpList
  rw [if_pos hgd]
  exact .inl (wp_append_any w s x t ho base e i z size bytes ht hi hz hsize hby hzs hsz v n xs hs hown B A m c news hx hr h1 h63 hbytes hbase h)
end

theorem app_one {w14 w15 : World} {v15 : Value} {ys O : List Int} {yl on : Nat} {A11 : Option Addr} (ho : on = O.length) (hO : RowI w14 A11 O)
    (hown : w15.ownsRow w14.heap.size 2 1 v15 (0 + yl) ([] ++ ys.map (Value.int .i64))) (hg : (w14.alloc (.cells #[] 2)).grownBy w15 (some w14.heap.size)) :
    Below w14.heap.size w14 w15 ∧ w15.ownsRow w14.heap.size 2 1 v15 yl (ys.map (Value.int .i64)) ∧ Reads w15 w15.heap.size 1 A11 on (O.map (Value.int .i64)) := by
  have hb : Below w14.heap.size w14 w15 := ((Below.refl w14.heap.size w14).alloc (Nat.le_refl _) (.cells #[] 2)).grown hg (by simp) (fun j e => by cases e; exact Nat.le_refl _)
  refine ⟨hb, ?_, ?_⟩
  · rw [Nat.zero_add, List.nil_append] at hown
    exact hown
  · have := (hO.below hb).reads
    rwa [← ho] at this

theorem implAreCards_len (A : Option Addr) (c : Nat) (xs : List Int) (len : Nat) (w : World) (hlen : len = xs.length) (h : RowI w A xs) (hl : xs.length ≤ 1048576) :
    Calls Try.prog 30 #[.slice A len c] w fun e w' => e = .returned (.bool (areC xs)) ∧ w = w' := by subst hlen; exact implAreCards_any A c xs w h hl
theorem implReadC_len (s : ByteArray) (xs : List Int) (w : World) (hs : s.size ≤ 1048576) (h1 : readL s = xs) (h2 : readX s = 0) :
    Calls Try.prog 12 #[.string s] w (GivesC w xs 0) := by subst h1; have := implRead_any s w hs; rwa [h2] at this
theorem implOthers_yes (A : Option Addr) (c : Nat) (xs os : List Int) (len : Nat) (w : World) (hlen : len = xs.length) (h : RowI w A xs) (hl : xs.length ≤ 1048576) (h1 : othL xs = os) (h2 : othC xs = 0) :
    Calls Try.prog 31 #[.slice A len c] w (GivesC w os 0) := by subst hlen h1; have := implOthers_any A c xs w h hl; rwa [h2] at this
theorem specOthers_yes (A : Option Addr) (c : Nat) (xs os : List Int) (len : Nat) (w : World) (hlen : len = xs.length) (h : RowI w A xs) (hl : xs.length ≤ 1048576) (h1 : othL xs = os) (h2 : othC xs = 0) :
    Calls Try.prog 32 #[.slice A len c] w (GivesC w os 0) := by subst hlen h1; have := specOthers_any A c xs w h hl; rwa [h2] at this
theorem readL_short (s : ByteArray) : (readL s).length ≤ 1048576 := by
  unfold readL
  split
  · rename_i h
    rw [crdK_length]
    have := read_short h
    omega
  · simp

set_option maxHeartbeats 8000000 in
set_option maxRecDepth 8000 in
theorem FnCards_core (A : Option Addr) (n c : Nat) (bs : Nat → Int) (w : World) (h : RowU w A n bs) :
    Calls Try.prog 6 #[.slice A n c] w fun e w' => e = .returned (.bool true) ∧ Below w.heap.size w w' := by
  have HR := Lib.hid h
  clear h
  by_cases hn : 4096 < n
  · have D : Hid (decide (4096 < n) = true) := decide_eq_true hn
    go_enter Try.func6, Try.ntmps6
    go_wp2_with fail
    refine (big_any A n c _).mono ?_
    rintro e w1 ⟨rfl, rfl⟩
    rw [D.out]
    go_wp2
    go_ret
    exact ⟨rfl, Below.refl _ _⟩
  have D : Hid (decide (4096 < n) = false) := decide_eq_false hn
  have hn2 : n ≤ 1048576 := by omega
  obtain ⟨i0, hi, hz0, hz1, hz2⟩ := info_parts int_info
  have HI := Lib.hid (And.intro hi (And.intro hz0 (And.intro hz1 hz2)))
  clear hn hi hz0 hz1 hz2
  go_enter Try.func6, Try.ntmps6
  go_wp2_with fail
  refine (big_any A n c _).mono ?_
  rintro e w1 ⟨rfl, rfl⟩
  rw [D.out]
  go_wp2_with fail
  refine (drawCards_any A n c bs _ HR.out hn2).mono ?_
  rintro e w2 ⟨ys, A2, c2, rfl, hr, hl, hc, hm, hb⟩
  have Y2 := Lib.hid hr
  have B2 := Lib.hid hb
  have hl2 : ys.length ≤ 1048576 := by omega
  have HL := Lib.hid hl
  clear hr hb hc hm hl
  go_wp2_with fail
  refine (implText_any A2 c2 ys _ Y2.out hl2).mono ?_
  rintro e w3 ⟨rfl, hb⟩
  have C3 := Lib.hid hb
  clear hb
  go_wp2_with fail
  refine (specText_any A2 c2 ys _ (Y2.out.below C3.out) hl2).mono ?_
  rintro e w4 ⟨rfl, hb⟩
  have C4 := Lib.hid (C3.out.trans (hb.mono C3.out.size))
  have Y4 := Lib.hid (Y2.out.below C4.out)
  have B4 := Lib.hid (B2.out.trans (C4.out.mono B2.out.size))
  obtain ⟨t, ht⟩ : ∃ t, t = txtB ys := ⟨_, rfl⟩
  obtain ⟨a, ha⟩ : ∃ a, a = arC ys := ⟨_, rfl⟩
  rw [← ht, ← ha]
  have TA := Lib.hid (And.intro ht ha)
  obtain ⟨yl, hyl⟩ : ∃ yl, yl = ys.length := ⟨_, rfl⟩
  rw [← hyl]
  have YL := Lib.hid hyl
  have hyl2 : yl ≤ 256 := by rw [hyl]; exact HL.out
  clear hb ht ha hyl hl2 Y2 B2 C3 C4
  go_wp2_with fail
  refine (drawText_any A n c bs _ (HR.out.below B4.out) hn2).mono ?_
  rintro e w5 ⟨s, rfl, hs, hb⟩
  have B5 := Lib.hid (B4.out.trans (hb.mono B4.out.size))
  have Y5 := Lib.hid (Y4.out.below hb)
  clear hb B4 Y4
  go_wp2_with fail
  refine (implRead_any s _ hs).mono ?_
  rintro e w6 ⟨A6, c6, rfl, ho, hb⟩
  have X6 := Lib.hid ho.row
  have D6 := Lib.hid hb
  clear ho hb
  go_wp2_with fail
  refine (specRead_any s _ hs).mono ?_
  rintro e w7 ⟨A7, c7, rfl, ho, hb⟩
  have Z7 := Lib.hid ho.row
  have X7 := Lib.hid (X6.out.below hb)
  have D7 := Lib.hid (D6.out.trans (hb.mono D6.out.size))
  have B7 := Lib.hid (B5.out.trans (D7.out.mono B5.out.size))
  have Y7 := Lib.hid (Y5.out.below D7.out)
  clear ho hb D6 D7 B5 Y5 X6
  have RB := Lib.hid (readL_short s)
  obtain ⟨R, hR⟩ : ∃ R, R = readL s := ⟨_, rfl⟩
  obtain ⟨rx, hrx⟩ : ∃ rx, rx = readX s := ⟨_, rfl⟩
  rw [← hR] at Z7 X7 RB
  rw [← hR, ← hrx]
  obtain ⟨rn, hrn⟩ : ∃ rn, rn = R.length := ⟨_, rfl⟩
  have RN := Lib.hid hrn
  rw [← hrn]
  clear hR hrx hrn
  go_wp2_with fail
  refine (likeInts_same A6 A7 c6 c7 rn rn R R _ RN.out RN.out rfl X7.out Z7.out RB.out).mono ?_
  rintro e w8 ⟨rfl, hb⟩
  have B8 := Lib.hid (B7.out.trans (hb.mono B7.out.size))
  have Y8 := Lib.hid (Y7.out.below hb)
  clear hb B7 Y7 X7 Z7
  go_wp2_with fail
  refine (implAreCards_len A2 c2 ys yl _ YL.out Y8.out (by rw [← YL.out]; omega)).mono ?_
  rintro e w9 ⟨rfl, rfl⟩
  by_cases hk : okC ys
  · have OK := Lib.hid hk
    have AC := all_cards hk
    have RBK := Lib.hid (read_back hk)
    have T1 : Hid (t.size ≤ 1048576) := by show _ ≤ _; rw [TA.out.1, txtB_size hk, ← YL.out]; omega
    have RD := Lib.hid (show readL t = ys ∧ readX t = 0 by rw [TA.out.1]; exact read_back hk)
    have a0 : a = 0 := by rw [TA.out.2]; exact (txt_yes ((areC_iff ys).2 hk)).2
    subst a0
    rw [(areC_iff ys).2 hk]
    obtain ⟨O, hO⟩ : ∃ O, O = othK ys 52 := ⟨_, rfl⟩
    rw [← hO] at AC
    have OT := Lib.hid AC
    obtain ⟨on, hon⟩ : ∃ on, on = O.length := ⟨_, rfl⟩
    have ON := Lib.hid hon
    have on52 : yl + on = 52 := by rw [YL.out, hon]; exact AC.2.2.2
    have S52 : IntKind.i64.wrap ((yl : Int) + (on : Int)) = 52 := by rw [show (yl : Int) + (on : Int) = 52 by omega]; rfl
    clear hk AC hO hon TA
    go_wp2_with fail
    refine (implReadC_len t ys _ T1.out RD.out.1 RD.out.2).mono ?_
    rintro e w10 ⟨A10, c10, rfl, ho, hb⟩
    rw [← YL.out]
    have V10 := Lib.hid ho.row
    have D10 := Lib.hid hb
    clear ho hb
    go_wp2_with fail
    refine (implOthers_yes A2 c2 ys O yl _ YL.out (Y8.out.below D10.out) (by rw [← YL.out]; omega) OT.out.1 OT.out.2.1).mono ?_
    rintro e w11 ⟨A11, c11, rfl, ho, hb⟩
    rw [← ON.out]
    have O11 := Lib.hid ho.row
    have V11 := Lib.hid (V10.out.below hb)
    have D11 := Lib.hid (D10.out.trans (hb.mono D10.out.size))
    clear ho hb D10 V10
    go_wp2_with fail
    refine (specOthers_yes A2 c2 ys O yl _ YL.out (Y8.out.below D11.out) (by rw [← YL.out]; omega) OT.out.1 OT.out.2.1).mono ?_
    rintro e w12 ⟨A12, c12, rfl, ho, hb⟩
    rw [← ON.out]
    have P12 := Lib.hid ho.row
    have O12 := Lib.hid (O11.out.below hb)
    have V12 := Lib.hid (V11.out.below hb)
    have D12 := Lib.hid (D11.out.trans (hb.mono D11.out.size))
    have Y12 := Lib.hid (Y8.out.below D12.out)
    have B12 := Lib.hid (B8.out.trans (D12.out.mono B8.out.size))
    clear ho hb D11 V11 O11 D12 Y8 B8
    go_wp2_with fail
    refine (likeInts_same A10 A2 c10 c2 yl yl ys ys _ YL.out YL.out rfl V12.out Y12.out (by rw [← YL.out]; omega)).mono ?_
    rintro e w13 ⟨rfl, hb⟩
    have B13 := Lib.hid (B12.out.trans (hb.mono B12.out.size))
    have Y13 := Lib.hid (Y12.out.below hb)
    have O13 := Lib.hid (O12.out.below hb)
    have P13 := Lib.hid (P12.out.below hb)
    clear hb B12 Y12 O12 P12 V12
    go_wp2_with fail
    refine (likeInts_same A11 A12 c11 c12 on on O O _ ON.out ON.out rfl O13.out P13.out (by rw [← ON.out]; omega)).mono ?_
    rintro e w14 ⟨rfl, hb⟩
    have B14 := Lib.hid (B13.out.trans (hb.mono B13.out.size))
    have Y14 := Lib.hid (Y13.out.below hb)
    have O14 := Lib.hid (O13.out.below hb)
    clear hb B13 Y13 O13 P13
    have RD2 : Hid (Reads (w14.alloc (.cells #[] 2)) w14.heap.size 1 A2 yl (ys.map (Value.int .i64))) := by
      have := Y14.out.reads
      rw [← YL.out] at this
      exact this.alloc (Nat.le_refl _) _
    go_wp2_with (first
      | (at_builtin; refine wpList_append_gd (by first | rfl | simp [Region.wanted, yielded]) (.tmp 105) (.tmp 106) 22 rfl w14.heap.size 2 i0 (.int .i64 0) 1 8 Try.underlying22 HI.out.1 HI.out.2.1 HI.out.2.2.1 HI.out.2.2.2 rfl (by decide) _ 0 [] rfl (World.ownsRow_made w14 #[] 0 (Nat.le_refl _) (by decide) rfl) w14.heap.size A2 yl c2 (ys.map (Value.int .i64)) rfl RD2.out (ints_one _) (by simp only [maxLen]; omega) (by omega) (by simp) ?_; intro v15 w15 hown hg hat; have F15 := Lib.hid (app_one ON.out O14.out hown hg); clear hown hg hat)
      | (at_builtin; refine wpList_append_gd (by first | rfl | simp [Region.wanted, yielded]) (.tmp 107) (.tmp 108) 22 rfl w14.heap.size 2 i0 (.int .i64 0) 1 8 Try.underlying22 HI.out.1 HI.out.2.1 HI.out.2.2.1 HI.out.2.2.2 rfl (by decide) _ yl _ rfl F15.out.2.1 w15.heap.size A11 on c11 (O.map (Value.int .i64)) rfl F15.out.2.2 (ints_one _) (by simp only [maxLen]; omega) (by omega) F15.out.1.size ?_; intro v16 w16 hown hg hat; have OW16 := Lib.hid hown; have G16 := Lib.hid hg; clear hown hg hat))
    have BB16 := Lib.hid (F15.out.1.grown G16.out F15.out.1.size (fun j e => (F15.out.2.1.lt j e).1))
    have B16 := Lib.hid (B14.out.trans (BB16.out.mono B14.out.size))
    have LN : Hid ((ys ++ O).length = 52) := by show _ = _; rw [List.length_append, ← YL.out, ← ON.out]; exact on52
    have OW17 : w16.ownsRow w14.heap.size 2 1 v16 (ys ++ O).length ((ys ++ O).map (Value.int .i64)) := by
      rw [LN.out, ← on52, List.map_append]
      exact OW16.out
    obtain ⟨AF, cF, hv, hT⟩ := ownT_of_owns OW17
    rw [LN.out] at hv
    subst hv
    have RF := Lib.hid hT.own.row
    clear OW17 OW16 G16 hT F15 BB16 B14 Y14 O14 RD2
    go_wp2_with fail
    refine (implAreCards_len AF cF (ys ++ O) 52 _ LN.out.symm RF.out (by rw [LN.out]; omega)).mono ?_
    rintro e w17 ⟨rfl, rfl⟩
    rw [(areC_iff _).2 OT.out.2.2.1]
    go_wp2
    go_ret
    exact ⟨rfl, B16.out⟩
  · have a1 : a = 1 := by rw [TA.out.2]; exact (txt_no (by simpa [areC] using hk)).2
    subst a1
    rw [show areC ys = false by simpa [areC] using hk]
    clear hk TA
    go_wp2
    go_ret
    exact ⟨rfl, B8.out⟩
theorem FnCards_walk (a : Option Addr) (len cap : Nat) (zs : List Int) {w : World} (h : IsRow .u8 w a len cap zs) :
    Calls Try.prog 6 #[.slice a len cap] w fun e w' => e = .returned (.bool true) ∧ Below w.heap.size w w' := by
  obtain ⟨bs, hr⟩ := h.rowU
  exact FnCards_core a len cap bs w hr
end Go.Proofs.Ytmmpeaedglnjlaa
