/-
  impl.BestFive: the best five of some cards.
-/
import Derived.Test.YtbhlghadjcbilaaLeastOf
import Derived.Test.YtbhlghadjcbilaaBestHigh
namespace Go.Proofs.Ytbhlghadjcbilaa
open Go.RowKit Go.Shelf

attribute [local go_sem] Oper.semAt_some

/-- What the loop knows: the boxes of the list, of the results and of the best value lie below B; none of the choices so far has it. -/
def BfI (w : World) (B b4 : Nat) (lv : Value) (V : Int) (xs : List Int) (pre : List (Nat × List Nat)) (W : World) : Prop :=
  Below w.heap.size w W ∧ B ≤ W.heap.size ∧ Boxed W w.heap.size 24 lv ∧ Boxed W (w.heap.size + 1) 24 (.slice none 0 0) ∧ Boxed W (w.heap.size + 1 + 1) 2 (.int .i64 0) ∧ Boxed W b4 2 (.int .i64 V) ∧
    ∀ x ∈ pre, ((vS (pickL xs x.2) : Nat) : Int) ≠ V
/-- The last choice had it: the results are laid. -/
def BfX (w : World) (B : Nat) (V : Int) (xs : List Int) (c : Code) (pre : List (Nat × List Nat)) (W : World) : Prop :=
  c = .ret ∧ Below w.heap.size w W ∧ B ≤ W.heap.size ∧ ∃ (G : Nat) (ch : List Nat) (pre' : List (Nat × List Nat)) (A' : Option Addr) (c' : Nat), pre = pre' ++ [(G, ch)] ∧ (∀ x ∈ pre', ((vS (pickL xs x.2) : Nat) : Int) ≠ V) ∧ ((vS (pickL xs ch) : Nat) : Int) = V ∧
    Boxed W (w.heap.size + 1) 24 (.slice A' (pickL xs ch).length c') ∧ Boxed W (w.heap.size + 1 + 1) 2 (.int .i64 0) ∧ OwnT W w.heap.size A' c' (pickL xs ch)
theorem bfI_own {w : World} {B b4 : Nat} {lv : Value} {V : Int} {xs : List Int} (hw : w.heap.size + 3 ≤ B) (h5 : b4 < B) : OwnT' 3 B (BfI w B b4 lv V xs) := by
  rintro pre W W' row ⟨k1, k2, k3, k4, k5, k6, k7⟩ hg hr
  exact ⟨below_own k1 hg hr (by omega) k2, Nat.le_trans k2 hg.size, bx_own k3 hg hr (by omega) k2, bx_own k4 hg hr (by omega) k2, bx_own k5 hg hr (by omega) k2, bx_own k6 hg hr h5 k2, k7⟩
theorem bfX_own {w : World} {B : Nat} {V : Int} {xs : List Int} (hw : w.heap.size + 3 ≤ B) (c : Code) : OwnT' 3 B (BfX w B V xs c) := by
  rintro pre W W' row ⟨e, k1, k2, G, ch, pre', A', c', h1, h2, h3, h4, h5, h6⟩ hg hr
  refine ⟨e, below_own k1 hg hr (by omega) k2, Nat.le_trans k2 hg.size, G, ch, pre', A', c', h1, h2, h3, bx_own h4 hg hr (by omega) k2, bx_own h5 hg hr (by omega) k2, ?_⟩
  rcases h6 with h | ⟨g, f, e1, e2, e3, e4, e5, e6, e7⟩
  · exact .inl h
  · refine .inr ⟨g, f, e1, e2, Nat.lt_of_lt_of_le e3 hg.size, e4, e5, e6.of_block ?_, e7⟩
    refine hg.block g e3 (fun e => ?_)
    obtain ⟨_, o, ho, hq⟩ := hr g e.symm
    obtain ⟨cs, hcs, _⟩ := e6
    rw [hcs] at ho
    cases ho
    rcases hq with hq | ⟨cs', m', hq⟩
    · simp [Obj.isCells] at hq
    · cases hq
theorem bf_find {xs : List Int} {n G : Nat} {ch : List Nat} {pre' : List (Nat × List Nat)} {G' V : Nat} (hn : xs.length = n) (hp : pre' ++ [(G, ch)] <+: chL n 5 G') (h1 : ∀ x ∈ pre', ((vS (pickL xs x.2) : Nat) : Int) ≠ (V : Int)) (h2 : ((vS (pickL xs ch) : Nat) : Int) = (V : Int)) :
    (comb xs 5).find? (fun S => vS S == V) = some (pickL xs ch) := by
  obtain ⟨t, ht⟩ := hp
  have e : comb xs 5 = (chL n 5 G').map fun x => pickL xs x.2 := by
    rw [← pickL_comb hn]
    unfold chL
    rw [List.map_map]
    rfl
  rw [e, ← ht, List.map_append, List.map_append, List.append_assoc, List.find?_append]
  rw [List.find?_eq_none.2 (fun S hS => ?_)]
  · simp only [Option.none_or, List.map_cons, List.map_nil, List.cons_append, List.nil_append]
    rw [List.find?_cons_of_pos]
    simp; omega
  · obtain ⟨x, hx, rfl⟩ := List.mem_map.1 hS
    have := h1 x hx
    simp; omega

theorem areSome_len (A : Option Addr) (c : Nat) (xs : List Int) (len : Nat) (w : World) (hlen : len = xs.length) (h : RowI w A xs) (hl : xs.length ≤ 1048576) :
    Calls Try.prog 91 #[.slice A len c] w fun e w' => e = .returned (.bool (decide (szP xs 5 8))) ∧ w = w' := by subst hlen; exact areSome_any A c xs w h hl
theorem valueOf_len (A : Option Addr) (c : Nat) (xs : List Int) (len : Nat) (low : Bool) (w : World) (hlen : len = xs.length) (h : RowI w A xs) (h5 : 5 ≤ xs.length) (h8 : xs.length ≤ 8) (ho : okC xs) :
    Calls Try.prog 92 #[.slice A len c, .bool low] w fun e w' => e = .returned (.int .i64 (Vx xs low : Nat)) ∧ Below w.heap.size w w' := by subst hlen; exact valueOf_any A c xs low w h h5 h8 ho
set_option maxHeartbeats 1000000 in
set_option maxRecDepth 100000 in
theorem implBestFive_any (A : Option Addr) (c : Nat) (xs : List Int) (w : World) (h : RowI w A xs) (hl : xs.length ≤ 1048576) :
    Calls Try.prog 38 #[.slice A xs.length c] w (GivesC w (bfL xs) (bhC xs)) := by
  have HR := Lib.hid h
  obtain ⟨n, hn⟩ : ∃ n, n = xs.length := ⟨_, rfl⟩
  have HN := Lib.hid hn
  have HLL : Hid (xs.length ≤ 1048576) := hl
  rw [← hn] at hl ⊢
  clear h hn
  refine (callsIn_wide (n := 3)).1 ?_
  refine callsIn_of_wp_marks Try.func38 rfl trivial ?_ rfl
  simp only [Try.ntmps38, List.size_toArray, List.length_cons, List.length_nil, Nat.reduceAdd, Nat.reduceSub, Array.replicate_succ, Array.replicate_zero, List.push_toArray, List.append_toArray, List.nil_append, List.cons_append]
  gi_wp2
  refine ⟨trivial, ?_⟩
  obtain ⟨W1, hW1⟩ : ∃ W1, W1 = ((w.alloc (.cells #[.slice A n c] 24)).alloc (.cells #[.slice none 0 0] 24)).alloc (.cells #[.int .i64 0] 2) := ⟨_, rfl⟩
  rw [← hW1]
  have hz : W1.heap.size = w.heap.size + 3 := by rw [hW1]; simp
  have X1 : Boxed W1 w.heap.size 24 (.slice A n c) := by rw [hW1]; exact ((Boxed.new w _ _).alloc _).alloc _
  have X2 : Boxed W1 (w.heap.size + 1) 24 (.slice none 0 0) := by
    rw [hW1]
    have := (Boxed.new (w.alloc (.cells #[.slice A n c] 24)) 24 (.slice none 0 0)).alloc (.cells #[.int .i64 0] 2)
    rwa [World.size_alloc] at this
  have X3 : Boxed W1 (w.heap.size + 1 + 1) 2 (.int .i64 0) := by
    rw [hW1]
    have := Boxed.new ((w.alloc (.cells #[.slice A n c] 24)).alloc (.cells #[.slice none 0 0] 24)) 2 (.int .i64 0)
    rwa [World.size_alloc, World.size_alloc] at this
  have B1 : Below w.heap.size w W1 := by
    rw [hW1]
    exact (((Below.refl _ _).alloc (Nat.le_refl _) _).alloc (by simp) _).alloc (by simp; omega) _
  have hz1 : W1.heap.size ≤ w.heap.size + 3 := by omega
  have hz2 : w.heap.size + 3 ≤ W1.heap.size := by omega
  have R1 := Lib.hid (HR.out.below B1)
  have Y1 := Lib.hid X1
  have Y2 := Lib.hid X2
  have Y3 := Lib.hid X3
  have BB1 := Lib.hid B1
  clear hW1 hz X1 X2 X3 B1
  by_cases hf : szP xs 5 8
  · have D : Hid (decide (szP xs 5 8) = true) := decide_eq_true hf
    have R := Lib.hid (bh_yes hf)
    have HF := Lib.hid hf
    have h5 : 5 ≤ n := by rw [HN.out]; exact hf.1
    have h8 : n ≤ 8 := by rw [HN.out]; exact hf.2.1
    have SZ : Hid ((n, 5) ∈ sizesC) := by
      show (n, 5) ∈ sizesC
      have : n = 5 ∨ n = 6 ∨ n = 7 ∨ n = 8 := by omega
      rcases this with rfl | rfl | rfl | rfl <;> decide
    clear hf
    refine (callsIn_wide.2 (areSome_len A c xs n W1 HN.out R1.out HLL.out)).mono ?_
    rintro e w1 ⟨rfl, rfl⟩
    rw [D.out]
    have hc1 := Y1.out.cell
    gi_wp2
    refine ⟨trivial, (callsIn_wide.2 (valueOf_len A c xs n true W1 HN.out R1.out HF.out.1 HF.out.2.1 HF.out.2.2)).mono ?_⟩
    rintro e w2 ⟨rfl, hb2⟩
    obtain ⟨V, hV⟩ : ∃ V : Int, V = ((Vx xs true : Nat) : Int) := ⟨_, rfl⟩
    rw [← hV]
    have HV := Lib.hid hV
    have Z1 := Lib.hid (bx_under Y1.out hb2)
    have Z2 := Lib.hid (bx_under Y2.out hb2)
    have Z3 := Lib.hid (bx_under Y3.out hb2)
    have BB2 := Lib.hid (BB1.out.trans (hb2.mono BB1.out.size))
    have hs2 := hb2.size
    clear hc1 hb2 hV
    have hc1 := Z1.out.cell
    have hl1 := Z1.out.lt
    gi_wp2
    refine ⟨trivial, (callsIn_wide.2 (choices_any _ _ _)).mono ?_⟩
    rintro e w3 ⟨rfl, rfl⟩
    gi_wp2
    obtain ⟨W0, hW0⟩ : ∃ W0, W0 = ((w2.alloc (.cells #[.int .i64 V] 2)).alloc (.cells #[.int .i64 n] 3)).alloc (.cells #[.int .i64 5] 3) := ⟨_, rfl⟩
    rw [← hW0]
    have hz0 : W0.heap.size = w2.heap.size + 3 := by rw [hW0]; simp
    have U1 : Boxed W0 w.heap.size 24 (.slice A n c) := by rw [hW0]; exact ((Z1.out.alloc _).alloc _).alloc _
    have U2 : Boxed W0 (w.heap.size + 1) 24 (.slice none 0 0) := by rw [hW0]; exact ((Z2.out.alloc _).alloc _).alloc _
    have U3 : Boxed W0 (w.heap.size + 1 + 1) 2 (.int .i64 0) := by rw [hW0]; exact ((Z3.out.alloc _).alloc _).alloc _
    have U4 : Boxed W0 w2.heap.size 2 (.int .i64 V) := by rw [hW0]; exact ((Boxed.new w2 _ _).alloc _).alloc _
    have U5 : Boxed W0 (w2.heap.size + 1) 3 (.int .i64 n) := by
      rw [hW0]
      have := (Boxed.new (w2.alloc (.cells #[.int .i64 V] 2)) 3 (.int .i64 n)).alloc (.cells #[.int .i64 5] 3)
      rwa [World.size_alloc] at this
    have U6 : Boxed W0 (w2.heap.size + 1 + 1) 3 (.int .i64 5) := by
      rw [hW0]
      have := Boxed.new ((w2.alloc (.cells #[.int .i64 V] 2)).alloc (.cells #[.int .i64 n] 3)) 3 (.int .i64 5)
      rwa [World.size_alloc, World.size_alloc] at this
    have BW : Below w.heap.size w W0 := by
      rw [hW0]
      exact ((BB2.out.alloc BB2.out.size _).alloc (by have := BB2.out.size; simp; omega) _).alloc (by have := BB2.out.size; simp; omega) _
    have hw2 : w.heap.size + 3 ≤ w2.heap.size := by omega
    have hz1' : W0.heap.size ≤ w2.heap.size + 3 := by omega
    have hz2' : w2.heap.size + 3 ≤ W0.heap.size := by omega
    have I0 : BfI w W0.heap.size w2.heap.size (.slice A n c) V xs [] W0 := ⟨BW, Nat.le_refl _, U1, U2, U3, U4, fun x hx => by cases hx⟩
    clear hW0 hz0 hc1
    refine wpIn_rangeC rfl (by omega) (gf := 122) (lb := #[.pointer (some ⟨w2.heap.size + 1 + 1, 0, none⟩), .pointer (some ⟨w2.heap.size + 1, 0, none⟩)]) rfl trivial (enters_of Try.func122 (by kernel_rfl) rfl)
      (choices_seq (3 - 1) n 5 (w2.heap.size + 1) (w2.heap.size + 1 + 1) SZ.out W0 (bx_isC U5) (bx_isC U6)) (goodC_put 5) (Below.refl _ _) (fun _ => rfl)
      (BfI w W0.heap.size w2.heap.size (.slice A n c) V xs) (BfX w W0.heap.size V xs)
      (bfI_own (by omega) (by omega)) (bfX_own (by omega)) I0
      (fun x => { tmps := #[.slice A n c, .pointer (some ⟨w.heap.size, 0, none⟩), .pointer (some ⟨w.heap.size + 1, 0, none⟩), .pointer (some ⟨w.heap.size + 1 + 1, 0, none⟩), .pointer (some ⟨w2.heap.size, 0, none⟩), .slice (some ⟨x.1, 0, none⟩) 5 5, undef, .slice A n c, .bool true, .bool false, .slice A n c, .int .i64 V, .slice A n c, .int .i64 n, .func (.func 122) #[] #[.pointer (some ⟨w2.heap.size + 1 + 1, 0, none⟩), .pointer (some ⟨w2.heap.size + 1, 0, none⟩)], .slice (some ⟨x.1, 0, none⟩) 5 5, undef, undef, undef, undef, undef, undef, undef, undef], defers := [] }) ?assign ?body ?done ?stop
    case assign =>
      intro l x W K hK
      simp only [encC]
      gi_wp2
      exact hK
    case body =>
      rintro l pre ⟨G, ch⟩ W ⟨k1, k2, k3, k4, k5, k6, k7⟩ hG hSp hsz
      have hcm := idx_mem (chosen_in hSp)
      have PK : Hid (pickL xs ch ∈ comb xs 5) := by
        rw [← pickL_comb HN.out.symm]
        exact List.mem_map.2 ⟨ch, chosen_in hSp, rfl⟩
      have S5 : Hid ((pickL xs ch).length = 5) := comb_len PK.out
      have SO : Hid (okC (pickL xs ch)) := comb_ok HF.out.2.2 PK.out
      obtain ⟨v, hvS⟩ : ∃ v : Int, v = ((vS (pickL xs ch) : Nat) : Int) := ⟨_, rfl⟩
      have HVS := Lib.hid hvS
      have GD := Lib.hid hG
      have IXB : Hid (∀ i, i < 5 → ch.getD i 0 < xs.length) := by show ∀ i, _; rw [← HN.out]; exact hcm.2
      have K1 := Lib.hid (And.intro k1 k2)
      have K3 := Lib.hid k3
      have K4 := Lib.hid k4
      have K5 := Lib.hid k5
      have K6 := Lib.hid k6
      have K7 := Lib.hid k7
      have RX := Lib.hid (HR.out.below k1)
      have hc3 := k3.cell
      have hb6 := k6.lt
      have fw1 : Fence.wide.fn 80 := trivial
      have fw2 : Fence.wide.fn 92 := trivial
      have h1d : 1 ≤ 1 := Nat.le_refl _
      have mixed : Try.prog.follows .mixedOrders = true := by kernel_rfl
      clear hG hcm hSp k1 k2 k3 k4 k5 k6 k7 I0 U1 U2 U3 U4 U5 U6 BW hvS
      gi_wp2_with (gi_at_call 80; refine (CallsIn.inRound l (callsIn_wide.2 (chosen_any A c xs n ch G 5 _ HN.out RX.out GD.out IXB.out (by omega)))).mono ?_; rintro e w3 ⟨C1, d1, rfl, ho3, hb3⟩; have O3 := Lib.hid ho3; have BB3 := Lib.hid hb3; have M6 := Lib.hid (bx_under K6.out hb3); have hc6 := M6.out.cell; have hl6 := M6.out.lt; clear ho3 hb3)
      have RD3 : Hid (RowI w3.drew C1 (pickL xs ch)) := O3.out.own.row.below (below_drewN (Below.refl _ _) 1)
      obtain ⟨sl, hsl⟩ : ∃ sl, sl = (pickL xs ch).length := ⟨_, rfl⟩
      rw [← hsl]
      have SL := Lib.hid hsl
      clear hsl hc3
      gi_region_with_o (first
        | (gi_at_call 92; refine (CallsIn.inRound l (callsIn_wide.2 (valueOf_len C1 d1 (pickL xs ch) sl true _ SL.out RD3.out (by rw [S5.out]; omega) (by rw [S5.out]; omega) SO.out))).mono ?_; rintro e w4 ⟨rfl, hb4⟩; have BB4 := Lib.hid hb4; have hc64 := (hb4.cell (p := ⟨w2.heap.size, 0, none⟩) hl6).trans hc6; clear hb4))
      all_goals
        have ev : ((Vx (pickL xs ch) true : Nat) : Int) = v := HVS.out.symm
        rw [ev]
        have BB : Hid (Below W.heap.size W w4) := (BB3.out.drew).trans (BB4.out.mono BB3.out.size)
        have N4 := Lib.hid (bx_under K4.out BB.out)
        have N5 := Lib.hid (bx_under K5.out BB.out)
        have KT := Lib.hid (kt_below (T := 3) (B := W0.heap.size) BB.out)
        have BW4 := Lib.hid (And.intro (K1.out.1.trans (BB.out.mono K1.out.1.size)) (Nat.le_trans K1.out.2 BB.out.size))
        have O4 : Hid (OwnT w4 W.heap.size C1 d1 (pickL xs ch)) := (O3.out.below ((Below.refl w3.heap.size w3).drew.trans BB4.out))
        clear ev hc6 hc64
        by_cases hv : v = V
        · have b1 : (v == V) = true := by simpa using hv
          have VE : Hid (((vS (pickL xs ch) : Nat) : Int) = V) := by rw [← HVS.out]; exact hv
          have hc4 := N4.out.cell
          have hf4 := N4.out.frozen
          have hc5 := N5.out.cell
          have hf5 := N5.out.frozen
          have FIN : Hid (KeepsFrom W0.heap.size W ((w4.setCell ⟨w.heap.size + 1, 0, none⟩ (.slice C1 sl d1)).setCell ⟨w.heap.size + 1 + 1, 0, none⟩ (.int .i64 0)) ∧ BfX w W0.heap.size V xs .ret (pre ++ [(G, ch)]) ((w4.setCell ⟨w.heap.size + 1, 0, none⟩ (.slice C1 sl d1)).setCell ⟨w.heap.size + 1 + 1, 0, none⟩ (.int .i64 0))) := by
            have P1 : Boxed (w4.setCell ⟨w.heap.size + 1, 0, none⟩ (.slice C1 sl d1)) (w.heap.size + 1) 24 (.slice C1 sl d1) := N4.out.set _
            have P2 : Boxed (w4.setCell ⟨w.heap.size + 1, 0, none⟩ (.slice C1 sl d1)) (w.heap.size + 1 + 1) 2 (.int .i64 0) := N5.out.kept (grown_set _ _ 0 _) (by simp)
            refine ⟨((KT.out.1.trans ((KeepsOthers.setCell _ _ _).from _)).trans ((KeepsOthers.setCell _ _ _).from _)), rfl, (BW4.out.1.setCell (by simp) _).setCell (by simp; omega) _, by simpa [World.setCell] using BW4.out.2, G, ch, pre, C1, d1, rfl, K7.out, VE.out, ?_, P2.set _, ?_⟩
            · rw [← SL.out]; exact P1.kept (grown_set _ _ 0 _) (by simp)
            · have hlo : w.heap.size + 3 ≤ W.heap.size := by omega
              rcases O4.out with h | ⟨g, f, e1, e2, e3, e4, e5, e6, e7⟩
              · exact .inl h
              · refine .inr ⟨g, f, e1, by omega, by simpa [World.setCell] using e3, e4, e5, (e6.of_block ?_), e7⟩
                rw [Below.heap_setCell _ _ _ _ (by simp; omega), Below.heap_setCell _ _ _ _ (by simp; omega)]
          clear hv
          gi_wp2
          exact FIN.out
        · have b1 : (v == V) = false := by simpa using hv
          have FIN : Hid (BfI w W0.heap.size w2.heap.size (.slice A n c) V xs (pre ++ [(G, ch)]) w4) := by
            refine ⟨BW4.out.1, BW4.out.2, bx_under K3.out BB.out, N4.out, N5.out, bx_under K6.out BB.out, fun x hx => ?_⟩
            rcases List.mem_append.1 hx with hx | hx
            · exact K7.out x hx
            · simp only [List.mem_singleton] at hx
              subst hx
              rw [← HVS.out]; exact hv
          clear hv
          gi_wp2
          exact ⟨KT.out.1, KT.out.2, FIN.out⟩
    case done =>
      rintro D ys W hD ⟨G, rfl⟩ ⟨k1, k2, k3, k4, k5, k6, k7⟩ hK
      exfalso
      obtain ⟨h1, h2, _⟩ := bf5_some HF.out.2.2 HF.out.1 HF.out.2.1
      have hm := List.mem_of_find?_eq_some h1
      rw [← pickL_comb HN.out.symm] at hm
      obtain ⟨ch, hch, e⟩ := List.mem_map.1 hm
      exact k7 (G, ch) (List.mem_map.2 ⟨ch, hch, rfl⟩) (by show ((vS (pickL xs ch) : Nat) : Int) = V; rw [e, h2, HV.out])
    case stop =>
      rintro D cc pre W hD ⟨G', hp⟩ hX hK
      have hX2 := (bfX_own (by omega) cc).putObj (.deferred none) hX hD hK rfl
      obtain ⟨rfl, x1, x2, G, ch, pre', A', c', rfl, h1, h2, h3, h4, h5⟩ := hX2
      have EF := bf_find (V := Vx xs true) HN.out.symm hp (by rw [← HV.out]; exact h1) (by rw [← HV.out]; exact h2)
      have E5 : bf5 xs = pickL xs ch := by unfold bf5; rw [EF]; rfl
      have hx3 := h3.cell
      have hx4 := h4.cell
      have FIN : Hid (GivesC w (bfL xs) (bhC xs) (.returned (.tuple #[.slice A' (pickL xs ch).length c', .int .i64 0])) (W.putObj D (.deferred none))) := by
        rw [R.out.2.1, R.out.2.2, E5]
        exact ⟨A', c', rfl, h5.own, x1⟩
      gi_wp2
      refine ⟨by simp, .inl ⟨_, _, rfl, run_takeDeferred hK, ?_⟩⟩
      exact ⟨.tuple #[.slice A' (pickL xs ch).length c', .int .i64 0], by simp [results, Try.results38, go_sem, hx3, hx4], FIN.out⟩
  · have D : Hid (decide (szP xs 5 8) = false) := decide_eq_false hf
    have R := Lib.hid (bh_no hf)
    clear hf
    refine (callsIn_wide.2 (areSome_len A c xs n W1 HN.out R1.out HLL.out)).mono ?_
    rintro e w1 ⟨rfl, rfl⟩
    rw [D.out]
    have hc2 := Y2.out.cell
    have hc3 := Y3.out.cell
    have hf2 := Y2.out.frozen
    have hf3 := Y3.out.frozen
    have E1 : Boxed ((W1.setCell ⟨w.heap.size + 1, 0, none⟩ (.slice none 0 0)).setCell ⟨w.heap.size + 1 + 1, 0, none⟩ (.int .i64 1)) (w.heap.size + 1) 24 (.slice none 0 0) := (Y2.out.set _).kept (grown_set _ _ 0 _) (by simp)
    have E2 : Boxed ((W1.setCell ⟨w.heap.size + 1, 0, none⟩ (.slice none 0 0)).setCell ⟨w.heap.size + 1 + 1, 0, none⟩ (.int .i64 1)) (w.heap.size + 1 + 1) 2 (.int .i64 1) := (Y3.out.kept (grown_set _ _ 0 _) (by simp)).set _
    have E3 := (Y2.out.set (.slice none 0 0)).cell
    have E4 := E2.cell
    have FIN : Hid (GivesC w (bfL xs) (bhC xs) (.returned (.tuple #[.slice none 0 0, .int .i64 1])) ((W1.setCell ⟨w.heap.size + 1, 0, none⟩ (.slice none 0 0)).setCell ⟨w.heap.size + 1 + 1, 0, none⟩ (.int .i64 1))) := by
      rw [R.out.2.1, R.out.2.2]
      exact ⟨none, 0, rfl, OwnI.nil_ _ _, (BB1.out.setCell (by simp) _).setCell (by simp; omega) _⟩
    clear E1 E2
    gi_wp2
    exact ⟨.tuple #[.slice none 0 0, .int .i64 1], by simp [results, Try.results38, go_sem, E3, E4], FIN.out⟩
end Go.Proofs.Ytbhlghadjcbilaa
