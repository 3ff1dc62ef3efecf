/-
  impl.leastOfFives: the least value of five of some cards.
-/
import Derived.Test.YtbhlghadjcbilaaChosen
import Derived.Test.YtbhlghadjcbilaaMathBest
import Derived.Shelf.RegionOpen
import Derived.RangeFuncBox
namespace Go.Proofs.Ytbhlghadjcbilaa
open Go.RowKit Go.Shelf

attribute [local go_sem] Oper.semAt_some

theorem keep_lt {T : TypeId} {B : Nat} {W W' : World} {row : Option Nat} (hg : W.grownBy W' row) (hr : Free T B W row) {k : Nat} (hk : k < B) (hB : B ≤ W.heap.size) : W'.heap[k]? = W.heap[k]? :=
  hg.block k (by omega) (fun e => by have := (hr k e.symm).1; omega)
/-- What a body of a round has kept. -/
theorem kt_below {T : TypeId} {B : Nat} {W W' : World} (h : Below W.heap.size W W') : KeepsFrom B W W' ∧ KeepsT T W W' :=
  ⟨⟨h.size, fun k _ _ hk _ => (h.block k (Array.getElem?_eq_some_iff.1 hk).1).trans hk⟩, KeepsT.of_below h⟩
theorem kt_set {B : Nat} {W : World} {b : Nat} {t : TypeId} {u v : Value} (h : Boxed W b t u) (ht : t ≠ 3) : KeepsFrom B W (W.setCell ⟨b, 0, none⟩ v) ∧ KeepsT 3 W (W.setCell ⟨b, 0, none⟩ v) := by
  refine ⟨(KeepsOthers.setCell W _ v).from B, KeepsT.of_grownBy (grown_set W b 0 v) (fun r cs m' e => ?_)⟩
  cases e
  have h1 : W.heap[b]? = some (.cells #[u] t (0, 0)) := h
  rw [h1]
  intro e
  cases e
  exact ht rfl
theorem kt_trans {T : TypeId} {B : Nat} {A C D : World} (h : KeepsFrom B A C ∧ KeepsT T A C) (k : KeepsFrom B C D ∧ KeepsT T C D) : KeepsFrom B A D ∧ KeepsT T A D := ⟨h.1.trans k.1, h.2.trans k.2⟩
theorem goodC_put (k : Nat) : ∀ x (W : World) (l : Nat) (o o' : Obj), GoodC k x W → W.heap[l]? = some o → o.isCells = false → GoodC k x (W.putObj l o') := by
  rintro ⟨G, c⟩ W l o o' ⟨h1, h2⟩ hl ho
  exact ⟨h1.keep (KeepsT.putObj o' hl ho), h2⟩
theorem bx_isC {W : World} {B : Nat} {n : Int} (h : Boxed W B 3 (.int .i64 n)) : IsC W B 1 (fun _ => n) :=
  ⟨_, h, rfl, fun i hi => by
    have : i = 0 := by omega
    subst this; rfl⟩
theorem bx_under {W W' : World} {B : Nat} {t : TypeId} {v : Value} (h : Boxed W B t v) (hb : Below W.heap.size W W') : Boxed W' B t v := (hb.block B h.lt).trans h
theorem bx_own {W W' : World} {B b : Nat} {t T : TypeId} {v : Value} {row : Option Nat} (h : Boxed W b t v) (hg : W.grownBy W' row) (hr : Free T B W row) (hb : b < B) (hB : B ≤ W.heap.size) : Boxed W' b t v := (keep_lt hg hr hb hB).trans h
theorem bx_drew {W : World} {B : Nat} {t : TypeId} {v : Value} (h : Boxed W B t v) : Boxed W.drew B t v := h
theorem chosen_in {n k G : Nat} {c : List Nat} {pre : List (Nat × List Nat)} (h : ∃ G', pre ++ [(G, c)] <+: chL n k G') : c ∈ idxC n k := by
  obtain ⟨G', h⟩ := h
  have : (G, c) ∈ chL n k G' := h.subset (by simp)
  obtain ⟨c', hc', e⟩ := List.mem_map.1 this
  cases e
  exact hc'
theorem below_own {w W W' : World} {B : Nat} {T : TypeId} {row : Option Nat} (h : Below w.heap.size w W) (hg : W.grownBy W' row) (hr : Free T B W row) (hw : w.heap.size ≤ B) (hB : B ≤ W.heap.size) : Below w.heap.size w W' :=
  ⟨hg.os.trans h.os, hg.tape.trans h.tape, hg.output.trans h.output, Nat.le_trans h.size hg.size, fun k hk => (keep_lt hg hr (by omega) hB).trans (h.block k hk)⟩

/-- What the loop knows: the boxes lie below B; what lay ahead of the call is as it was. -/
def LoI (w : World) (B bl bf bm : Nat) (lv fv : Value) (f : List Int → Int) (xs : List Int) (pre : List (Nat × List Nat)) (W : World) : Prop :=
  Below w.heap.size w W ∧ B ≤ W.heap.size ∧ Boxed W bl 24 lv ∧ Boxed W bf 51 fv ∧ Boxed W bm 2 (.int .i64 (leastF f (pre.map fun x => pickL xs x.2)))
theorem loI_own {w : World} {B bl bf bm : Nat} {lv fv : Value} {f : List Int → Int} {xs : List Int} (hw : w.heap.size ≤ B) (h1 : bl < B) (h2 : bf < B) (h3 : bm < B) : OwnT' 3 B (LoI w B bl bf bm lv fv f xs) := by
  rintro pre W W' row ⟨k1, k2, k3, k4, k5⟩ hg hr
  exact ⟨below_own k1 hg hr hw k2, Nat.le_trans k2 hg.size, bx_own k3 hg hr h1 k2, bx_own k4 hg hr h2 k2, bx_own k5 hg hr h3 k2⟩
/-- A function value that gives five cards a value. -/
def Values5 (vf : FuncId) (f : List Int → Int) : Prop :=
  ∀ (B : Option Addr) (d : Nat) (S : List Int) (len : Nat) (W : World), len = S.length → RowI W B S → S.length = 5 → okC S →
    Calls Try.prog vf #[.slice B len d] W fun e W' => e = .returned (.int .i64 (f S)) ∧ Below W.heap.size W W'

set_option maxHeartbeats 4000000 in
set_option maxRecDepth 100000 in
theorem leastOf_ace (A : Option Addr) (c : Nat) (xs : List Int) (len : Nat) (w : World) (f : List Int → Int) (hv : Values5 96 f) (hf : ∀ S, S.length = 5 → okC S → 0 ≤ f S ∧ f S ≤ 100000000) (hlen : len = xs.length) (h : RowI w A xs) (h5 : 5 ≤ xs.length) (h8 : xs.length ≤ 8) (ho : okC xs) :
    Calls Try.prog 95 #[.slice A len c, .func (.func 96) #[] #[]] w fun e w' => e = .returned (.int .i64 (leastF f (comb xs 5))) ∧ Below w.heap.size w w' := by
  subst hlen
  have HR := Lib.hid h
  have HO := Lib.hid ho
  have HV := Lib.hid hv
  have HF := Lib.hid hf
  obtain ⟨n, hn⟩ : ∃ n, n = xs.length := ⟨_, rfl⟩
  rw [← hn] at h5 h8 ⊢
  have HN := Lib.hid hn
  have SZ : Hid ((n, 5) ∈ sizesC) := by
    show (n, 5) ∈ sizesC
    have : n = 5 ∨ n = 6 ∨ n = 7 ∨ n = 8 := by omega
    rcases this with rfl | rfl | rfl | rfl <;> decide
  clear h ho hv hf hn
  refine (callsIn_wide (n := 3)).1 ?_
  refine callsIn_of_wp_marks Try.func95 rfl trivial ?_ rfl
  simp only [Try.ntmps95, List.size_toArray, List.length_cons, List.length_nil, Nat.reduceAdd, Nat.reduceSub, Array.replicate_succ, Array.replicate_zero, List.push_toArray, List.append_toArray, List.nil_append, List.cons_append]
  gi_wp2
  refine ⟨trivial, (callsIn_wide.2 (choices_any _ _ _)).mono ?_⟩
  rintro e w1 ⟨rfl, rfl⟩
  gi_wp2
  obtain ⟨W0, hW0⟩ : ∃ W0, W0 = (((((w.alloc (.cells #[.slice A n c] 24)).alloc (.cells #[.func (.func 96) #[] #[]] 51)).alloc (.cells #[.int .i64 (-1)] 2)).alloc (.cells #[.int .i64 n] 3)).alloc (.cells #[.int .i64 5] 3)) := ⟨_, rfl⟩
  rw [← hW0]
  have hz : W0.heap.size = w.heap.size + 5 := by rw [hW0]; simp
  have X1 : Boxed W0 w.heap.size 24 (.slice A n c) := by rw [hW0]; exact ((((Boxed.new w _ _).alloc _).alloc _).alloc _).alloc _
  have X2 : Boxed W0 (w.heap.size + 1) 51 (.func (.func 96) #[] #[]) := by
    rw [hW0]
    have := (((Boxed.new (w.alloc (.cells #[.slice A n c] 24)) 51 (.func (.func 96) #[] #[])).alloc (.cells #[.int .i64 (-1)] 2)).alloc (.cells #[.int .i64 n] 3)).alloc (.cells #[.int .i64 5] 3)
    rwa [World.size_alloc] at this
  have X3 : Boxed W0 (w.heap.size + 1 + 1) 2 (.int .i64 (-1)) := by
    rw [hW0]
    have := ((Boxed.new ((w.alloc (.cells #[.slice A n c] 24)).alloc (.cells #[.func (.func 96) #[] #[]] 51)) 2 (.int .i64 (-1))).alloc (.cells #[.int .i64 n] 3)).alloc (.cells #[.int .i64 5] 3)
    rwa [World.size_alloc, World.size_alloc] at this
  have X4 : Boxed W0 (w.heap.size + 1 + 1 + 1) 3 (.int .i64 n) := by
    rw [hW0]
    have := (Boxed.new (((w.alloc (.cells #[.slice A n c] 24)).alloc (.cells #[.func (.func 96) #[] #[]] 51)).alloc (.cells #[.int .i64 (-1)] 2)) 3 (.int .i64 n)).alloc (.cells #[.int .i64 5] 3)
    rwa [World.size_alloc, World.size_alloc, World.size_alloc] at this
  have X5 : Boxed W0 (w.heap.size + 1 + 1 + 1 + 1) 3 (.int .i64 5) := by
    rw [hW0]
    have := Boxed.new ((((w.alloc (.cells #[.slice A n c] 24)).alloc (.cells #[.func (.func 96) #[] #[]] 51)).alloc (.cells #[.int .i64 (-1)] 2)).alloc (.cells #[.int .i64 n] 3)) 3 (.int .i64 5)
    rwa [World.size_alloc, World.size_alloc, World.size_alloc, World.size_alloc] at this
  have BW : Below w.heap.size w W0 := by
    rw [hW0]
    exact (((((Below.refl _ _).alloc (Nat.le_refl _) _).alloc (by simp) _).alloc (by simp; omega) _).alloc (by simp; omega) _).alloc (by simp; omega) _
  have I0 : LoI w W0.heap.size w.heap.size (w.heap.size + 1) (w.heap.size + 1 + 1) (.slice A n c) (.func (.func 96) #[] #[]) f xs [] W0 := ⟨BW, Nat.le_refl _, X1, X2, X3⟩
  have hz1 : W0.heap.size ≤ w.heap.size + 5 := by omega
  have hz2 : w.heap.size + 5 ≤ W0.heap.size := by omega
  clear hW0 hz
  refine wpIn_rangeC rfl (by omega) (gf := 122) (lb := #[.pointer (some ⟨w.heap.size + 1 + 1 + 1 + 1, 0, none⟩), .pointer (some ⟨w.heap.size + 1 + 1 + 1, 0, none⟩)]) rfl trivial (enters_of Try.func122 (by kernel_rfl) rfl)
    (choices_seq (3 - 1) n 5 (w.heap.size + 1 + 1 + 1) (w.heap.size + 1 + 1 + 1 + 1) SZ.out W0 (bx_isC X4) (bx_isC X5)) (goodC_put 5) (Below.refl _ _) (fun _ => rfl)
    (LoI w W0.heap.size w.heap.size (w.heap.size + 1) (w.heap.size + 1 + 1) (.slice A n c) (.func (.func 96) #[] #[]) f xs) (fun _ _ _ => False)
    (loI_own (by omega) (by omega) (by omega) (by omega)) (fun _ _ _ _ _ hs _ _ => hs) I0
    (fun x => { tmps := #[.slice A n c, .func (.func 96) #[] #[], .pointer (some ⟨w.heap.size, 0, none⟩), .pointer (some ⟨w.heap.size + 1, 0, none⟩), .int .i64 0, .pointer (some ⟨w.heap.size + 1 + 1, 0, none⟩), .slice (some ⟨x.1, 0, none⟩) 5 5, undef, .slice A n c, .int .i64 n, .func (.func 122) #[] #[.pointer (some ⟨w.heap.size + 1 + 1 + 1 + 1, 0, none⟩), .pointer (some ⟨w.heap.size + 1 + 1 + 1, 0, none⟩)], .slice (some ⟨x.1, 0, none⟩) 5 5, undef, undef, undef, undef, undef, undef, undef, undef, undef, undef, undef, undef, undef, undef], defers := [] }) ?assign ?body ?done ?stop
  case assign =>
    intro l x W K hK
    simp only [encC]
    gi_wp2
    exact hK
  case body =>
    rintro l pre ⟨G, ch⟩ W ⟨k1, k2, k3, k4, k5⟩ hG hSp hsz
    have hcm := idx_mem (chosen_in hSp)
    have PK : Hid (pickL xs ch ∈ comb xs 5) := by
      rw [← pickL_comb HN.out.symm]
      exact List.mem_map.2 ⟨ch, chosen_in hSp, rfl⟩
    obtain ⟨S, hS⟩ : ∃ S, S = pickL xs ch := ⟨_, rfl⟩
    rw [← hS] at PK
    have S5 : Hid (S.length = 5) := comb_len PK.out
    have SO : Hid (okC S) := comb_ok HO.out PK.out
    obtain ⟨v, hvS⟩ : ∃ v, v = f S := ⟨_, rfl⟩
    have vb : 0 ≤ v ∧ v ≤ 100000000 := by rw [hvS]; exact HF.out S S5.out SO.out
    obtain ⟨v0, v1⟩ := vb
    obtain ⟨m, hm⟩ : ∃ m, m = leastF f (pre.map fun x => pickL xs x.2) := ⟨_, rfl⟩
    have hSpre : ∀ S ∈ pre.map (fun x => pickL xs x.2), 0 ≤ f S ∧ f S ≤ 100000000 := by
      intro T hT
      obtain ⟨⟨G', c'⟩, hc', rfl⟩ := List.mem_map.1 hT
      obtain ⟨G2, hp2⟩ := hSp
      have h1 : (G', c') ∈ chL n 5 G2 := hp2.subset (List.mem_append_left _ hc')
      obtain ⟨c2, hc2, e2⟩ := List.mem_map.1 h1
      cases e2
      have h3 : pickL xs c' ∈ comb xs 5 := by rw [← pickL_comb HN.out.symm]; exact List.mem_map.2 ⟨c', hc2, rfl⟩
      exact HF.out _ (comb_len h3) (comb_ok HO.out h3)
    have mb := leastF_bounds (f := f) (M := 100000000) (by omega) _ _ rfl hSpre
    rw [← hm] at mb k5
    obtain ⟨m0, m1⟩ := mb
    have NX : Hid (leastF f ((pre ++ [(G, ch)]).map fun x => pickL xs x.2) = if m < 0 ∨ v < m then v else m) := by
      show _ = _
      rw [List.map_append, List.map_cons, List.map_nil, leastF_snoc, ← hm, ← hS, ← hvS]
    have GD := Lib.hid hG
    have HCM := Lib.hid hcm
    have K1 := Lib.hid (And.intro k1 k2)
    have K3 := Lib.hid k3
    have K4 := Lib.hid k4
    have K5 := Lib.hid k5
    have RX := Lib.hid (HR.out.below k1)
    have hb3 := k3.lt
    have hb4 := k4.lt
    have hc3 := k3.cell
    have hc4 := k4.cell
    have HS := Lib.hid hS
    have HVS := Lib.hid hvS
    clear hG hcm hSp k1 k2 k3 k4 k5 hS hvS hm hSpre I0 X1 X2 X3 X4 X5 BW
    have h1d : 1 ≤ 1 := Nat.le_refl _
    have fw1 : Fence.wide.fn 80 := trivial
    have fw2 : Fence.wide.fn 96 := trivial
    have mixed : Try.prog.follows .mixedOrders = true := by kernel_rfl
    have RD := Lib.hid (RX.out.below (below_drewN (Below.refl _ _) 1))
    have GDD : Hid (GoodC 5 (G, ch) W.drew) := ⟨GD.out.1.of_block rfl, GD.out.2⟩
    have RDD : Hid (RowI W.drew A xs) := RD.out
    have LX : Hid (n = xs.length) := HN.out
    have IXB : Hid (∀ i, i < 5 → ch.getD i 0 < xs.length) := by show ∀ i, _; rw [← LX.out]; exact HCM.out.2
    gi_wp2
    gi_region_with_o (first
      | (gi_at_call 80; refine (CallsIn.inRound l (callsIn_wide.2 (chosen_any A c xs n ch G 5 _ LX.out RDD.out GDD.out IXB.out (by omega)))).mono ?_; rintro e w1 ⟨B1, d1, rfl, ho1, hb1⟩; have O1 := Lib.hid ho1.own.row; have BB1 := Lib.hid hb1; have hc41 := (hb1.cell (p := ⟨w.heap.size + 1, 0, none⟩) hb4).trans hc4; clear ho1 hb1)
      | (gi_at_call 96; refine (CallsIn.inRound l (callsIn_wide.2 (HV.out B1 d1 S _ _ (by rw [HS.out]) (by rw [HS.out]; exact O1.out) S5.out SO.out))).mono ?_; rintro e w2 ⟨rfl, hb2⟩; have BB2 := Lib.hid hb2; clear hb2))
    all_goals
      rw [← HVS.out]
      have BB : Hid (Below W.heap.size W w2) := ((Below.refl W.heap.size W).drew.trans BB1.out).trans (BB2.out.mono BB1.out.size)
      have Y3 := Lib.hid (bx_under K3.out BB.out)
      have Y4 := Lib.hid (bx_under K4.out BB.out)
      have Y5 := Lib.hid (bx_under K5.out BB.out)
      have KT := Lib.hid (kt_below (T := 3) (B := W0.heap.size) BB.out)
      have BW2 := Lib.hid (And.intro (K1.out.1.trans (BB.out.mono K1.out.1.size)) (Nat.le_trans K1.out.2 BB.out.size))
      have hc5 := Y5.out.cell
      have hf5 := Y5.out.frozen
      have ST : Hid ((KeepsFrom W0.heap.size W (w2.setCell ⟨w.heap.size + 1 + 1, 0, none⟩ (.int .i64 v)) ∧ KeepsT 3 W (w2.setCell ⟨w.heap.size + 1 + 1, 0, none⟩ (.int .i64 v))) ∧
          ((m < 0 ∨ v < m) → LoI w W0.heap.size w.heap.size (w.heap.size + 1) (w.heap.size + 1 + 1) (.slice A n c) (.func (.func 96) #[] #[]) f xs (pre ++ [(G, ch)]) (w2.setCell ⟨w.heap.size + 1 + 1, 0, none⟩ (.int .i64 v)))) := by
        refine ⟨kt_trans KT.out (kt_set Y5.out (by decide)), fun hmv => ⟨BW2.out.1.setCell (by simp; omega) _, by simpa [World.setCell] using BW2.out.2, ?_, ?_, ?_⟩⟩
        · exact Y3.out.kept (grown_set w2 _ 0 _) (by simp; omega)
        · exact Y4.out.kept (grown_set w2 _ 0 _) (by simp)
        · rw [NX.out, if_pos hmv]; exact Y5.out.set _
      have SM : Hid (¬ (m < 0 ∨ v < m) → LoI w W0.heap.size w.heap.size (w.heap.size + 1) (w.heap.size + 1 + 1) (.slice A n c) (.func (.func 96) #[] #[]) f xs (pre ++ [(G, ch)]) w2) := by
        intro hmv
        refine ⟨BW2.out.1, BW2.out.2, Y3.out, Y4.out, ?_⟩
        rw [NX.out, if_neg hmv]; exact Y5.out
      clear hc3 hc4 hc41
      by_cases hm0 : m < 0
      · have dm : decide (m < 0) = true := by simpa using hm0
        have FIN := Lib.hid (ST.out.2 (.inl hm0))
        gi_wp2
        exact ⟨ST.out.1.1, ST.out.1.2, FIN.out⟩
      · have dm : decide (m < 0) = false := by simpa using hm0
        by_cases hvm : v < m
        · have dv : decide (v < m) = true := by simpa using hvm
          have FIN := Lib.hid (ST.out.2 (.inr hvm))
          gi_wp2
          exact ⟨ST.out.1.1, ST.out.1.2, FIN.out⟩
        · have dv : decide (v < m) = false := by simpa using hvm
          have FIN := Lib.hid (SM.out (by omega))
          gi_wp2
          exact ⟨KT.out.1, KT.out.2, FIN.out⟩
  case done =>
    rintro D ys W hD ⟨G, rfl⟩ ⟨k1, k2, k3, k4, k5⟩ hK
    have E : leastF f ((chL n 5 G).map fun x => pickL xs x.2) = leastF f (comb xs 5) := by
      rw [← pickL_comb HN.out.symm]
      unfold chL
      rw [List.map_map]
      rfl
    rw [E] at k5
    have hc5 := k5.cell
    gi_wp2
    refine ⟨by simp, .inl ⟨_, _, rfl, run_takeDeferred hK, ?_⟩⟩
    exact ⟨_, results_tmp rfl _ _ _, rfl, k1.trans (belowK_b (w := w) (Nat.le_refl _) W D _ _ (by omega) hK rfl rfl)⟩
  case stop =>
    rintro D c pre W _ _ h _
    exact h.elim

set_option maxHeartbeats 4000000 in
set_option maxRecDepth 100000 in
theorem leastOf_deuce (A : Option Addr) (c : Nat) (xs : List Int) (len : Nat) (w : World) (f : List Int → Int) (hv : Values5 97 f) (hf : ∀ S, S.length = 5 → okC S → 0 ≤ f S ∧ f S ≤ 100000000) (hlen : len = xs.length) (h : RowI w A xs) (h5 : 5 ≤ xs.length) (h8 : xs.length ≤ 8) (ho : okC xs) :
    Calls Try.prog 95 #[.slice A len c, .func (.func 97) #[] #[]] w fun e w' => e = .returned (.int .i64 (leastF f (comb xs 5))) ∧ Below w.heap.size w w' := by
  subst hlen
  have HR := Lib.hid h
  have HO := Lib.hid ho
  have HV := Lib.hid hv
  have HF := Lib.hid hf
  obtain ⟨n, hn⟩ : ∃ n, n = xs.length := ⟨_, rfl⟩
  rw [← hn] at h5 h8 ⊢
  have HN := Lib.hid hn
  have SZ : Hid ((n, 5) ∈ sizesC) := by
    show (n, 5) ∈ sizesC
    have : n = 5 ∨ n = 6 ∨ n = 7 ∨ n = 8 := by omega
    rcases this with rfl | rfl | rfl | rfl <;> decide
  clear h ho hv hf hn
  refine (callsIn_wide (n := 3)).1 ?_
  refine callsIn_of_wp_marks Try.func95 rfl trivial ?_ rfl
  simp only [Try.ntmps95, List.size_toArray, List.length_cons, List.length_nil, Nat.reduceAdd, Nat.reduceSub, Array.replicate_succ, Array.replicate_zero, List.push_toArray, List.append_toArray, List.nil_append, List.cons_append]
  gi_wp2
  refine ⟨trivial, (callsIn_wide.2 (choices_any _ _ _)).mono ?_⟩
  rintro e w1 ⟨rfl, rfl⟩
  gi_wp2
  obtain ⟨W0, hW0⟩ : ∃ W0, W0 = (((((w.alloc (.cells #[.slice A n c] 24)).alloc (.cells #[.func (.func 97) #[] #[]] 51)).alloc (.cells #[.int .i64 (-1)] 2)).alloc (.cells #[.int .i64 n] 3)).alloc (.cells #[.int .i64 5] 3)) := ⟨_, rfl⟩
  rw [← hW0]
  have hz : W0.heap.size = w.heap.size + 5 := by rw [hW0]; simp
  have X1 : Boxed W0 w.heap.size 24 (.slice A n c) := by rw [hW0]; exact ((((Boxed.new w _ _).alloc _).alloc _).alloc _).alloc _
  have X2 : Boxed W0 (w.heap.size + 1) 51 (.func (.func 97) #[] #[]) := by
    rw [hW0]
    have := (((Boxed.new (w.alloc (.cells #[.slice A n c] 24)) 51 (.func (.func 97) #[] #[])).alloc (.cells #[.int .i64 (-1)] 2)).alloc (.cells #[.int .i64 n] 3)).alloc (.cells #[.int .i64 5] 3)
    rwa [World.size_alloc] at this
  have X3 : Boxed W0 (w.heap.size + 1 + 1) 2 (.int .i64 (-1)) := by
    rw [hW0]
    have := ((Boxed.new ((w.alloc (.cells #[.slice A n c] 24)).alloc (.cells #[.func (.func 97) #[] #[]] 51)) 2 (.int .i64 (-1))).alloc (.cells #[.int .i64 n] 3)).alloc (.cells #[.int .i64 5] 3)
    rwa [World.size_alloc, World.size_alloc] at this
  have X4 : Boxed W0 (w.heap.size + 1 + 1 + 1) 3 (.int .i64 n) := by
    rw [hW0]
    have := (Boxed.new (((w.alloc (.cells #[.slice A n c] 24)).alloc (.cells #[.func (.func 97) #[] #[]] 51)).alloc (.cells #[.int .i64 (-1)] 2)) 3 (.int .i64 n)).alloc (.cells #[.int .i64 5] 3)
    rwa [World.size_alloc, World.size_alloc, World.size_alloc] at this
  have X5 : Boxed W0 (w.heap.size + 1 + 1 + 1 + 1) 3 (.int .i64 5) := by
    rw [hW0]
    have := Boxed.new ((((w.alloc (.cells #[.slice A n c] 24)).alloc (.cells #[.func (.func 97) #[] #[]] 51)).alloc (.cells #[.int .i64 (-1)] 2)).alloc (.cells #[.int .i64 n] 3)) 3 (.int .i64 5)
    rwa [World.size_alloc, World.size_alloc, World.size_alloc, World.size_alloc] at this
  have BW : Below w.heap.size w W0 := by
    rw [hW0]
    exact (((((Below.refl _ _).alloc (Nat.le_refl _) _).alloc (by simp) _).alloc (by simp; omega) _).alloc (by simp; omega) _).alloc (by simp; omega) _
  have I0 : LoI w W0.heap.size w.heap.size (w.heap.size + 1) (w.heap.size + 1 + 1) (.slice A n c) (.func (.func 97) #[] #[]) f xs [] W0 := ⟨BW, Nat.le_refl _, X1, X2, X3⟩
  have hz1 : W0.heap.size ≤ w.heap.size + 5 := by omega
  have hz2 : w.heap.size + 5 ≤ W0.heap.size := by omega
  clear hW0 hz
  refine wpIn_rangeC rfl (by omega) (gf := 122) (lb := #[.pointer (some ⟨w.heap.size + 1 + 1 + 1 + 1, 0, none⟩), .pointer (some ⟨w.heap.size + 1 + 1 + 1, 0, none⟩)]) rfl trivial (enters_of Try.func122 (by kernel_rfl) rfl)
    (choices_seq (3 - 1) n 5 (w.heap.size + 1 + 1 + 1) (w.heap.size + 1 + 1 + 1 + 1) SZ.out W0 (bx_isC X4) (bx_isC X5)) (goodC_put 5) (Below.refl _ _) (fun _ => rfl)
    (LoI w W0.heap.size w.heap.size (w.heap.size + 1) (w.heap.size + 1 + 1) (.slice A n c) (.func (.func 97) #[] #[]) f xs) (fun _ _ _ => False)
    (loI_own (by omega) (by omega) (by omega) (by omega)) (fun _ _ _ _ _ hs _ _ => hs) I0
    (fun x => { tmps := #[.slice A n c, .func (.func 97) #[] #[], .pointer (some ⟨w.heap.size, 0, none⟩), .pointer (some ⟨w.heap.size + 1, 0, none⟩), .int .i64 0, .pointer (some ⟨w.heap.size + 1 + 1, 0, none⟩), .slice (some ⟨x.1, 0, none⟩) 5 5, undef, .slice A n c, .int .i64 n, .func (.func 122) #[] #[.pointer (some ⟨w.heap.size + 1 + 1 + 1 + 1, 0, none⟩), .pointer (some ⟨w.heap.size + 1 + 1 + 1, 0, none⟩)], .slice (some ⟨x.1, 0, none⟩) 5 5, undef, undef, undef, undef, undef, undef, undef, undef, undef, undef, undef, undef, undef, undef], defers := [] }) ?assign ?body ?done ?stop
  case assign =>
    intro l x W K hK
    simp only [encC]
    gi_wp2
    exact hK
  case body =>
    rintro l pre ⟨G, ch⟩ W ⟨k1, k2, k3, k4, k5⟩ hG hSp hsz
    have hcm := idx_mem (chosen_in hSp)
    have PK : Hid (pickL xs ch ∈ comb xs 5) := by
      rw [← pickL_comb HN.out.symm]
      exact List.mem_map.2 ⟨ch, chosen_in hSp, rfl⟩
    obtain ⟨S, hS⟩ : ∃ S, S = pickL xs ch := ⟨_, rfl⟩
    rw [← hS] at PK
    have S5 : Hid (S.length = 5) := comb_len PK.out
    have SO : Hid (okC S) := comb_ok HO.out PK.out
    obtain ⟨v, hvS⟩ : ∃ v, v = f S := ⟨_, rfl⟩
    have vb : 0 ≤ v ∧ v ≤ 100000000 := by rw [hvS]; exact HF.out S S5.out SO.out
    obtain ⟨v0, v1⟩ := vb
    obtain ⟨m, hm⟩ : ∃ m, m = leastF f (pre.map fun x => pickL xs x.2) := ⟨_, rfl⟩
    have hSpre : ∀ S ∈ pre.map (fun x => pickL xs x.2), 0 ≤ f S ∧ f S ≤ 100000000 := by
      intro T hT
      obtain ⟨⟨G', c'⟩, hc', rfl⟩ := List.mem_map.1 hT
      obtain ⟨G2, hp2⟩ := hSp
      have h1 : (G', c') ∈ chL n 5 G2 := hp2.subset (List.mem_append_left _ hc')
      obtain ⟨c2, hc2, e2⟩ := List.mem_map.1 h1
      cases e2
      have h3 : pickL xs c' ∈ comb xs 5 := by rw [← pickL_comb HN.out.symm]; exact List.mem_map.2 ⟨c', hc2, rfl⟩
      exact HF.out _ (comb_len h3) (comb_ok HO.out h3)
    have mb := leastF_bounds (f := f) (M := 100000000) (by omega) _ _ rfl hSpre
    rw [← hm] at mb k5
    obtain ⟨m0, m1⟩ := mb
    have NX : Hid (leastF f ((pre ++ [(G, ch)]).map fun x => pickL xs x.2) = if m < 0 ∨ v < m then v else m) := by
      show _ = _
      rw [List.map_append, List.map_cons, List.map_nil, leastF_snoc, ← hm, ← hS, ← hvS]
    have GD := Lib.hid hG
    have HCM := Lib.hid hcm
    have K1 := Lib.hid (And.intro k1 k2)
    have K3 := Lib.hid k3
    have K4 := Lib.hid k4
    have K5 := Lib.hid k5
    have RX := Lib.hid (HR.out.below k1)
    have hb3 := k3.lt
    have hb4 := k4.lt
    have hc3 := k3.cell
    have hc4 := k4.cell
    have HS := Lib.hid hS
    have HVS := Lib.hid hvS
    clear hG hcm hSp k1 k2 k3 k4 k5 hS hvS hm hSpre I0 X1 X2 X3 X4 X5 BW
    have h1d : 1 ≤ 1 := Nat.le_refl _
    have fw1 : Fence.wide.fn 80 := trivial
    have fw2 : Fence.wide.fn 97 := trivial
    have mixed : Try.prog.follows .mixedOrders = true := by kernel_rfl
    have RD := Lib.hid (RX.out.below (below_drewN (Below.refl _ _) 1))
    have GDD : Hid (GoodC 5 (G, ch) W.drew) := ⟨GD.out.1.of_block rfl, GD.out.2⟩
    have RDD : Hid (RowI W.drew A xs) := RD.out
    have LX : Hid (n = xs.length) := HN.out
    have IXB : Hid (∀ i, i < 5 → ch.getD i 0 < xs.length) := by show ∀ i, _; rw [← LX.out]; exact HCM.out.2
    gi_wp2
    gi_region_with_o (first
      | (gi_at_call 80; refine (CallsIn.inRound l (callsIn_wide.2 (chosen_any A c xs n ch G 5 _ LX.out RDD.out GDD.out IXB.out (by omega)))).mono ?_; rintro e w1 ⟨B1, d1, rfl, ho1, hb1⟩; have O1 := Lib.hid ho1.own.row; have BB1 := Lib.hid hb1; have hc41 := (hb1.cell (p := ⟨w.heap.size + 1, 0, none⟩) hb4).trans hc4; clear ho1 hb1)
      | (gi_at_call 97; refine (CallsIn.inRound l (callsIn_wide.2 (HV.out B1 d1 S _ _ (by rw [HS.out]) (by rw [HS.out]; exact O1.out) S5.out SO.out))).mono ?_; rintro e w2 ⟨rfl, hb2⟩; have BB2 := Lib.hid hb2; clear hb2))
    all_goals
      rw [← HVS.out]
      have BB : Hid (Below W.heap.size W w2) := ((Below.refl W.heap.size W).drew.trans BB1.out).trans (BB2.out.mono BB1.out.size)
      have Y3 := Lib.hid (bx_under K3.out BB.out)
      have Y4 := Lib.hid (bx_under K4.out BB.out)
      have Y5 := Lib.hid (bx_under K5.out BB.out)
      have KT := Lib.hid (kt_below (T := 3) (B := W0.heap.size) BB.out)
      have BW2 := Lib.hid (And.intro (K1.out.1.trans (BB.out.mono K1.out.1.size)) (Nat.le_trans K1.out.2 BB.out.size))
      have hc5 := Y5.out.cell
      have hf5 := Y5.out.frozen
      have ST : Hid ((KeepsFrom W0.heap.size W (w2.setCell ⟨w.heap.size + 1 + 1, 0, none⟩ (.int .i64 v)) ∧ KeepsT 3 W (w2.setCell ⟨w.heap.size + 1 + 1, 0, none⟩ (.int .i64 v))) ∧
          ((m < 0 ∨ v < m) → LoI w W0.heap.size w.heap.size (w.heap.size + 1) (w.heap.size + 1 + 1) (.slice A n c) (.func (.func 97) #[] #[]) f xs (pre ++ [(G, ch)]) (w2.setCell ⟨w.heap.size + 1 + 1, 0, none⟩ (.int .i64 v)))) := by
        refine ⟨kt_trans KT.out (kt_set Y5.out (by decide)), fun hmv => ⟨BW2.out.1.setCell (by simp; omega) _, by simpa [World.setCell] using BW2.out.2, ?_, ?_, ?_⟩⟩
        · exact Y3.out.kept (grown_set w2 _ 0 _) (by simp; omega)
        · exact Y4.out.kept (grown_set w2 _ 0 _) (by simp)
        · rw [NX.out, if_pos hmv]; exact Y5.out.set _
      have SM : Hid (¬ (m < 0 ∨ v < m) → LoI w W0.heap.size w.heap.size (w.heap.size + 1) (w.heap.size + 1 + 1) (.slice A n c) (.func (.func 97) #[] #[]) f xs (pre ++ [(G, ch)]) w2) := by
        intro hmv
        refine ⟨BW2.out.1, BW2.out.2, Y3.out, Y4.out, ?_⟩
        rw [NX.out, if_neg hmv]; exact Y5.out
      clear hc3 hc4 hc41
      by_cases hm0 : m < 0
      · have dm : decide (m < 0) = true := by simpa using hm0
        have FIN := Lib.hid (ST.out.2 (.inl hm0))
        gi_wp2
        exact ⟨ST.out.1.1, ST.out.1.2, FIN.out⟩
      · have dm : decide (m < 0) = false := by simpa using hm0
        by_cases hvm : v < m
        · have dv : decide (v < m) = true := by simpa using hvm
          have FIN := Lib.hid (ST.out.2 (.inr hvm))
          gi_wp2
          exact ⟨ST.out.1.1, ST.out.1.2, FIN.out⟩
        · have dv : decide (v < m) = false := by simpa using hvm
          have FIN := Lib.hid (SM.out (by omega))
          gi_wp2
          exact ⟨KT.out.1, KT.out.2, FIN.out⟩
  case done =>
    rintro D ys W hD ⟨G, rfl⟩ ⟨k1, k2, k3, k4, k5⟩ hK
    have E : leastF f ((chL n 5 G).map fun x => pickL xs x.2) = leastF f (comb xs 5) := by
      rw [← pickL_comb HN.out.symm]
      unfold chL
      rw [List.map_map]
      rfl
    rw [E] at k5
    have hc5 := k5.cell
    gi_wp2
    refine ⟨by simp, .inl ⟨_, _, rfl, run_takeDeferred hK, ?_⟩⟩
    exact ⟨_, results_tmp rfl _ _ _, rfl, k1.trans (belowK_b (w := w) (Nat.le_refl _) W D _ _ (by omega) hK rfl rfl)⟩
  case stop =>
    rintro D c pre W _ _ h _
    exact h.elim
end Go.Proofs.Ytbhlghadjcbilaa
