/-
  impl.BadugiCards: the cards that the badugi value of four cards takes.
-/
import Derived.Test.YtgkhhfkijepenaaBadSort
import Derived.Test.YtgkhhfkijepenaaBadApart
import Derived.Test.YtgkhhfkijepenaaBadLess
import Derived.Test.YtgkhhfkijepenaaRangeBox
import Derived.Test.YtgkhhfkijepenaaSized
namespace Go.Proofs.Ytgkhhfkijepenaa
open Go.RowKit Go.Shelf

attribute [local go_sem] Oper.semAt_some

/-- The best so far, as the box of 'best' bears it. -/
def BestV (lo : Nat) (W : World) (v : Value) (L : List Int) : Prop :=
  (L = [] ∧ v = .slice none 0 0) ∨ ∃ g c, L ≠ [] ∧ v = .slice (some ⟨g, 0, none⟩) L.length c ∧ OwnT W lo (some ⟨g, 0, none⟩) c L
theorem ownT_below {w w' : World} {lo : Nat} {A : Option Addr} {c : Nat} {xs : List Int} (h : OwnT w lo A c xs) (hb : Below w.heap.size w w') : OwnT w' lo A c xs := h.below hb
theorem BestV.below {lo : Nat} {W W' : World} {v : Value} {L : List Int} (h : BestV lo W v L) (hb : Below W.heap.size W W') : BestV lo W' v L := by
  rcases h with h | ⟨g, c, h1, h2, h3⟩
  · exact .inl h
  · exact .inr ⟨g, c, h1, h2, h3.below hb⟩
/-- A block that is no cells of int64 is turned. -/
theorem OwnT.turn {W W' : World} {lo : Nat} {A : Option Addr} {c : Nat} {xs : List Int} {row : Option Nat} (h : OwnT W lo A c xs) (hg : W.grownBy W' row) (hr : ∀ r, row = some r → ∀ cs m, W.heap[r]? ≠ some (.cells cs 2 m)) : OwnT W' lo A c xs := by
  rcases h with h | ⟨g, f, e1, e2, e3, e4, e5, e6, e7⟩
  · exact .inl h
  · refine .inr ⟨g, f, e1, e2, Nat.lt_of_lt_of_le e3 hg.size, e4, e5, e6.of_block ?_, e7⟩
    refine hg.block g e3 (fun e => ?_)
    obtain ⟨cs, hcs, _⟩ := e6
    exact hr g e.symm _ _ hcs
theorem BestV.turn {lo : Nat} {W W' : World} {v : Value} {L : List Int} {row : Option Nat} (h : BestV lo W v L) (hg : W.grownBy W' row) (hr : ∀ r, row = some r → ∀ cs m, W.heap[r]? ≠ some (.cells cs 2 m)) : BestV lo W' v L := by
  rcases h with h | ⟨g, c, h1, h2, h3⟩
  · exact .inl h
  · exact .inr ⟨g, c, h1, h2, h3.turn hg hr⟩
theorem free_no {B : Nat} {W : World} {row : Option Nat} (hr : Free 3 B W row) : ∀ r, row = some r → ∀ cs m, W.heap[r]? ≠ some (.cells cs 2 m) := by
  intro r e cs m h
  obtain ⟨_, o, ho, hq⟩ := hr r e
  rw [h] at ho
  cases ho
  rcases hq with hq | ⟨cs', m', hq⟩
  · simp [Obj.isCells] at hq
  · cases hq
theorem put_no {W : World} {D : Nat} {o : Obj} (h : W.heap[D]? = some o) (ho : o.isCells = false) : ∀ r, (some D : Option Nat) = some r → ∀ cs m, W.heap[r]? ≠ some (.cells cs 2 m) := by
  intro r e cs m h'
  cases e
  rw [h] at h'
  cases h'
  simp [Obj.isCells] at ho
theorem box_no {W : World} {b : Nat} {v : Value} (h : Boxed W b 24 v) : ∀ r, (some b : Option Nat) = some r → ∀ cs m, W.heap[r]? ≠ some (.cells cs 2 m) := by
  intro r e cs m h'
  cases e
  rw [show W.heap[b]? = _ from h] at h'
  cases h'
/-- What the loop over the choices knows. -/
def LoB (lo bb : Nat) (W0 : World) (S : List Int) (pre : List (Nat × List Nat)) (W : World) : Prop :=
  W0.grownBy W (some bb) ∧ ∃ v, Boxed W bb 24 v ∧ BestV lo W v (minB (pre.map fun x => pickL S x.2))
theorem loB_own {lo bb : Nat} {W0 : World} {S : List Int} (hb : bb < W0.heap.size) : OwnT' 3 W0.heap.size (LoB lo bb W0 S) := by
  rintro pre W W' row ⟨k1, v, k2, k3⟩ hg hr
  refine ⟨⟨hg.os.trans k1.os, hg.tape.trans k1.tape, hg.output.trans k1.output, Nat.le_trans k1.size hg.size, fun k hk hne => (keep_lt hg hr hk k1.size).trans (k1.block k hk hne)⟩, v, bx_own k2 hg hr hb k1.size, k3.turn hg (free_no hr)⟩

theorem LoB.keep {lo bb : Nat} {W0 W W1 : World} {S : List Int} {pre : List (Nat × List Nat)} {x : Nat × List Nat} {v : Value} {L : List Int} (k1 : W0.grownBy W (some bb)) (k2 : Boxed W bb 24 v) (k3 : BestV lo W v L) (hb : Below W.heap.size W W1) (hx : minB ((pre ++ [x]).map fun x => pickL S x.2) = L) :
    KeepsFrom W0.heap.size W W1 ∧ KeepsT 3 W W1 ∧ LoB lo bb W0 S (pre ++ [x]) W1 :=
  ⟨(kt_below (T := 3) hb).1, (kt_below (B := W0.heap.size) hb).2,
    ⟨hb.os.trans k1.os, hb.tape.trans k1.tape, hb.output.trans k1.output, Nat.le_trans k1.size hb.size, fun k hk hne => (hb.block k (Nat.lt_of_lt_of_le hk k1.size)).trans (k1.block k hk hne)⟩, v, bx_under k2 hb, by rw [hx]; exact k3.below hb⟩
theorem LoB.take {lo bb g' c' : Nat} {W0 W W1 : World} {S : List Int} {pre : List (Nat × List Nat)} {x : Nat × List Nat} {v : Value} {T : List Int} (k1 : W0.grownBy W (some bb)) (k2 : Boxed W bb 24 v) (hb : Below W.heap.size W W1) (ho : OwnT W1 lo (some ⟨g', 0, none⟩) c' T) (hne : T ≠ []) (hx : minB ((pre ++ [x]).map fun x => pickL S x.2) = T) :
    KeepsFrom W0.heap.size W (W1.setCell ⟨bb, 0, none⟩ (.slice (some ⟨g', 0, none⟩) T.length c')) ∧ KeepsT 3 W (W1.setCell ⟨bb, 0, none⟩ (.slice (some ⟨g', 0, none⟩) T.length c')) ∧ LoB lo bb W0 S (pre ++ [x]) (W1.setCell ⟨bb, 0, none⟩ (.slice (some ⟨g', 0, none⟩) T.length c')) := by
  have b1 := bx_under k2 hb
  have hs := grown_set W1 bb 0 (.slice (some ⟨g', 0, none⟩) T.length c')
  have kk := kt_trans (kt_below (T := 3) (B := W0.heap.size) hb) (kt_set (v := .slice (some ⟨g', 0, none⟩) T.length c') b1 (by decide))
  refine ⟨kk.1, kk.2, ⟨hs.os.trans (hb.os.trans k1.os), hs.tape.trans (hb.tape.trans k1.tape), hs.output.trans (hb.output.trans k1.output), Nat.le_trans k1.size (Nat.le_trans hb.size hs.size), fun k hk hne => ?_⟩, _, b1.set _, .inr ⟨g', c', by rw [hx]; exact hne, by rw [hx], by rw [hx]; exact ho.turn hs (box_no b1)⟩⟩
  have h1 := Nat.lt_of_lt_of_le hk k1.size
  exact (hs.block k (Nat.lt_of_lt_of_le h1 hb.size) hne).trans ((hb.block k h1).trans (k1.block k hk hne))

theorem bad_dr {W v1 v3 : World} {q : Nat} (h : Below W.heap.size W v1) (e : v3 = v1.drewN q) : Below W.heap.size W v3 := by rw [e]; exact below_drewN h q
theorem bad_do {v1 v3 : World} {lo c q : Nat} {A : Option Addr} {xs : List Int} (h : OwnT v1 lo A c xs) (e : v3 = v1.drewN q) : OwnT v3 lo A c xs := by rw [e]; exact h.below (below_drewN (Below.refl _ _) q)
/-- Between the rounds: the box of the sorted cards, their row, the lists of deferred calls that are left. -/
structure StB (w : World) (bs g c1 : Nat) (S : List Int) (Ds : List Nat) (W : World) : Prop where
  below : Below w.heap.size w W
  box : Boxed W bs 24 (.slice (some ⟨g, 0, none⟩) 4 c1)
  row : RowI W (some ⟨g, 0, none⟩) S
  hbs : w.heap.size ≤ bs ∧ bs < W.heap.size
  hg : w.heap.size ≤ g ∧ g < W.heap.size
  hD : ∀ D ∈ Ds, w.heap.size ≤ D ∧ W.heap[D]? = some (.deferred (some []))
theorem StB.under {w : World} {bs g c1 : Nat} {S : List Int} {Ds : List Nat} {W W' : World} (h : StB w bs g c1 S Ds W) (hb : Below W.heap.size W W') : StB w bs g c1 S Ds W' :=
  ⟨h.below.trans (hb.mono h.below.size), bx_under h.box hb, h.row.below hb, ⟨h.hbs.1, Nat.lt_of_lt_of_le h.hbs.2 hb.size⟩, ⟨h.hg.1, Nat.lt_of_lt_of_le h.hg.2 hb.size⟩,
    fun D hD => ⟨(h.hD D hD).1, (hb.block D (Array.getElem?_eq_some_iff.1 (h.hD D hD).2).1).trans (h.hD D hD).2⟩⟩
/-- Three boxes are laid. -/
theorem below_three (W : World) (o1 o2 o3 : Obj) : Below W.heap.size W (((W.alloc o1).alloc o2).alloc o3) :=
  (((Below.refl _ _).alloc (Nat.le_refl _) _).alloc (by simp) _).alloc (by simp; omega) _
/-- Behind a round that has turned the box of 'best' alone. -/
theorem StB.loop {w : World} {bs g c1 bb : Nat} {S : List Int} {Ds : List Nat} {W W' : World} (h : StB w bs g c1 S Ds W) (hg : W.grownBy W' (some bb)) (h1 : bb ≠ bs) (h2 : bb ≠ g) (h3 : bb ∉ Ds) (h4 : w.heap.size ≤ bb) : StB w bs g c1 S Ds W' := by
  refine ⟨h.below.grown hg h.below.size (fun k e => by cases e; exact h4), (hg.block bs h.hbs.2 (fun e => h1 (by cases e; rfl))).trans h.box, ?_, ⟨h.hbs.1, Nat.lt_of_lt_of_le h.hbs.2 hg.size⟩, ⟨h.hg.1, Nat.lt_of_lt_of_le h.hg.2 hg.size⟩, fun D hD => ⟨(h.hD D hD).1, (hg.block D (Array.getElem?_eq_some_iff.1 (h.hD D hD).2).1 (fun e => h3 (by cases e; exact hD))).trans (h.hD D hD).2⟩⟩
  rcases h.row with hr | ⟨b, off, e, hb, hc⟩
  · exact .inl hr
  · cases e
    exact .inr ⟨g, 0, rfl, Nat.lt_of_lt_of_le hb hg.size, fun k hk => (World.cell?_of_block (a := ⟨g, 0 + k, none⟩) (hg.block g hb (fun e => h2 (by cases e; rfl)))).trans (hc k hk)⟩
theorem StB.more {w : World} {bs g c1 D : Nat} {S : List Int} {Ds : List Nat} {W : World} (h : StB w bs g c1 S Ds W) (h1 : w.heap.size ≤ D) (h2 : W.heap[D]? = some (.deferred (some []))) : StB w bs g c1 S (D :: Ds) W :=
  ⟨h.below, h.box, h.row, h.hbs, h.hg, fun E hE => by
    rcases List.mem_cons.1 hE with rfl | hE
    · exact ⟨h1, h2⟩
    · exact h.hD E hE⟩
theorem chL_min {S : List Int} {n G : Nat} (h : S.length = 4) : minB ((chL 4 n G).map fun x => pickL S x.2) = minB (comb S n) := by
  rw [← pickL_comb h]
  unfold chL
  rw [List.map_map]
  rfl

/-- The end: the best cards are handed back; the lists of deferred calls are taken. -/
def EndB (w W : World) (L : List Int) (c' ln : Nat) (g' : Nat) : Prop := Below w.heap.size w W ∧ OwnT W w.heap.size (some ⟨g', 0, none⟩) c' L ∧ ln = L.length
theorem EndB.put {w W : World} {L : List Int} {c' ln g' D : Nat} (h : EndB w W L c' ln g') (hD : w.heap.size ≤ D) (hK : W.heap[D]? = some (.deferred (some []))) (o' : Obj) : EndB w (W.putObj D o') L c' ln g' :=
  ⟨h.1.trans (belowK_b (w := w) (Nat.le_refl _) W D _ _ hD hK rfl rfl), h.2.1.turn (grownBy_putObj' W D o') (put_no hK rfl), h.2.2⟩

def endW (W : World) (Ds : List Nat) : World := Ds.foldl (fun W D => W.putObj D (.deferred none)) W
theorem leaves_list {F : Fence} {n : Nat} {P : Program} {fn : Func} {tmps : Array Value} {R : Ending → World → Prop} {u : FrameMode} : ∀ (Ds : List Nat) (W : World), Ds.Pairwise (· ≠ ·) → (∀ D ∈ Ds, W.heap[D]? = some (.deferred (some []))) → u ≠ .run →
    LeavesIn F n P fn tmps R [] u (endW W Ds) → LeavesInM F n P fn tmps R (Ds.map fun D => { target := .collected D, args := #[] }) u W
  | [], _, _, _, _, h => h
  | D :: Ds, W, hp, hD, hu, h => by
    obtain ⟨h1, h2⟩ := List.pairwise_cons.1 hp
    exact ⟨hu, .inl ⟨D, _, rfl, run_takeDeferred (hD D (by simp)), leaves_list Ds _ h2 (fun E hE => (World.putObj_heap_other (fun e => h1 E hE e.symm)).trans (hD E (by simp [hE]))) hu h⟩⟩
theorem endB_list {w : World} {L : List Int} {c' ln g' : Nat} : ∀ (Ds : List Nat) (W : World), EndB w W L c' ln g' → Ds.Pairwise (· ≠ ·) → (∀ D ∈ Ds, w.heap.size ≤ D ∧ W.heap[D]? = some (.deferred (some []))) → EndB w (endW W Ds) L c' ln g'
  | [], _, h, _, _ => h
  | D :: Ds, W, h, hp, hD => by
    obtain ⟨h1, h2⟩ := List.pairwise_cons.1 hp
    exact endB_list Ds _ (h.put (hD D (by simp)).1 (hD D (by simp)).2 _) h2 (fun E hE => ⟨(hD E (by simp [hE])).1, (World.putObj_heap_other (fun e => h1 E hE e.symm)).trans (hD E (by simp [hE])).2⟩)
def bcL (xs : List Int) : List Int := if szP xs 4 4 then bgL xs else []
def bcC (xs : List Int) : Int := if szP xs 4 4 then 0 else 1
theorem bc_yes {xs : List Int} (h : szP xs 4 4) : bcL xs = bgL xs ∧ bcC xs = 0 := by unfold bcL bcC; rw [if_pos h, if_pos h]; exact ⟨rfl, rfl⟩
theorem bc_no {xs : List Int} (h : ¬ szP xs 4 4) : bcL xs = [] ∧ bcC xs = 1 := by unfold bcL bcC; rw [if_neg h, if_neg h]; exact ⟨rfl, rfl⟩
theorem comb_okB {xs S : List Int} {k : Nat} (ho : okC xs) (h : S ∈ comb xs k) : okC S :=
  ⟨fun c hc => ho.1 c ((comb_mem.1 h).1.mem hc), ho.2.sublist (comb_mem.1 h).1⟩
theorem stepB_no' {L D : List Int} (h : apB D = false) : stepB L D = L := by unfold stepB; rw [h]; simp
theorem stepB_first' {D : List Int} (h : apB D = true) : stepB [] D = D := by unfold stepB; rw [if_pos ⟨h, .inl rfl⟩]
theorem stepB_yes' {L D : List Int} (h : apB D = true) (hl : lessB D L = true) : stepB L D = D := by unfold stepB; rw [if_pos ⟨h, .inr hl⟩]
theorem stepB_keep' {L D : List Int} (hne : L ≠ []) (hl : lessB D L = false) : stepB L D = L := by
  unfold stepB
  rw [if_neg (fun h => by rcases h.2 with h | h; exact hne h; rw [hl] at h; cases h)]
theorem minB_pre {S : List Int} {n : Nat} {pre : List (Nat × List Nat)} (hn : 0 < n) (h : ∀ x ∈ pre, (pickL S x.2).length = n ∧ pickL S x.2 ∈ comb S n) : minB (pre.map fun x => pickL S x.2) = [] ∨ ((minB (pre.map fun x => pickL S x.2)).length = n ∧ minB (pre.map fun x => pickL S x.2) ∈ comb S n) := by
  rcases minB_facts hn (pre.map fun x => pickL S x.2) (fun T hT => by
    obtain ⟨x, hx, rfl⟩ := List.mem_map.1 hT
    exact (h x hx).1) with ⟨h1, _⟩ | ⟨h1, _⟩
  · exact .inl h1
  · obtain ⟨x, hx, e⟩ := List.mem_map.1 h1
    rw [← e]; exact .inr (h x hx)

theorem implAreCards_len (A : Option Addr) (c : Nat) (xs : List Int) (len : Nat) (w : World) (hlen : len = xs.length) (h : RowI w A xs) (hl : xs.length ≤ 1048576) :
    Calls Try.prog 31 #[.slice A len c] w fun e w' => e = .returned (.bool (areC xs)) ∧ w = w' := by subst hlen; exact implAreCards_any A c xs w h hl

set_option maxHeartbeats 16000000 in
set_option maxRecDepth 100000 in
theorem implBad_yes (A : Option Addr) (c : Nat) (xs : List Int) (w : World) (h : RowI w A xs) (h4 : xs.length = 4) (ho : okC xs) :
    Calls Try.prog 11 #[.slice A 4 c] w (GivesC w (bgL xs) 0) := by
  obtain ⟨b0, off0, rfl, hb0, _⟩ := h.at_ (k := 0) (by omega)
  have HR := Lib.hid h
  have H4 := Lib.hid h4
  have HO := Lib.hid ho
  obtain ⟨S, hS⟩ : ∃ S, S = srtL xs := ⟨_, rfl⟩
  have S4 : Hid (S.length = 4) := by show _ = _; rw [hS, srtL_length, h4]
  have SO : Hid (okC S) := by show okC _; rw [hS]; exact okC_perm (srtL_perm xs).symm ho
  have HS := Lib.hid hS
  clear h h4 ho hb0 hS
  refine (callsIn_wide (n := 3)).1 ?_
  refine callsIn_of_wp_marks Try.func11 rfl trivial ?_ rfl
  simp only [Try.ntmps11, List.size_toArray, List.length_cons, List.length_nil, Nat.reduceAdd, Nat.reduceSub, Array.replicate_succ, Array.replicate_zero, List.push_toArray, List.append_toArray, List.nil_append, List.cons_append]
  gi_wp2
  refine ⟨trivial, (callsIn_wide.2 (implAreCards_len _ c xs 4 w H4.out.symm HR.out (by rw [H4.out]; omega))).mono ?_⟩
  rintro e w0 ⟨rfl, rfl⟩
  rw [(areC_iff xs).2 HO.out]
  gi_wp2
  refine ⟨trivial, (callsIn_wide.2 (clone_len _ c xs 4 w H4.out.symm HR.out (by rw [H4.out]; omega))).mono ?_⟩
  rintro e w1 ⟨A1, c1, rfl, ho1, hb1⟩
  obtain ⟨g, rfl⟩ : ∃ g, A1 = some ⟨g, 0, none⟩ := by
    rcases own_some ho1 with ⟨_, _, e⟩ | h
    · have := H4.out; rw [e] at this; simp at this
    · exact h
  have G1 : Hid (w.heap.size ≤ g ∧ g < w1.heap.size) := ho1.lo_block g rfl
  have O1 := Lib.hid ho1
  have B1 := Lib.hid hb1
  have L4 := H4.out
  rw [L4]
  clear ho1 hb1 L4
  gi_wp2
  obtain ⟨w2, hw2⟩ : ∃ w2, w2 = w1.alloc (.cells #[.slice (some ⟨g, 0, none⟩) 4 c1] 24) := ⟨_, rfl⟩
  rw [← hw2]
  have D2 : Below w1.heap.size w1 w2 := by rw [hw2]; exact (Below.refl _ _).alloc (Nat.le_refl _) _
  have X2 : Boxed w2 w1.heap.size 24 (.slice (some ⟨g, 0, none⟩) 4 c1) := by rw [hw2]; exact Boxed.new w1 _ _
  have B2 := Lib.hid (B1.out.trans (D2.mono B1.out.size))
  have O2 := Lib.hid (O1.out.below D2)
  have Z2 : w2.heap.size = w1.heap.size + 1 := by rw [hw2]; simp
  have Y2 := Lib.hid X2
  clear hw2 D2 O1 X2
  refine ⟨trivial, (callsIn_wide.2 (sortF_any w.heap.size g c1 xs 4 w2 H4.out.symm O2.out (by rw [H4.out]; omega) HO.out.1)).mono ?_⟩
  rintro e w3 ⟨rfl, ho3, hg3⟩
  rw [← HS.out] at ho3
  have ST3 : Hid (StB w w1.heap.size g c1 S [] w3) := by
    refine ⟨B2.out.grown hg3 B2.out.size (fun k e => by cases e; exact G1.out.1), Y2.out.kept hg3 (fun e => by cases e; have := G1.out.2; omega), ho3.row, ⟨B1.out.size, Nat.lt_of_lt_of_le Y2.out.lt hg3.size⟩, ⟨G1.out.1, (ho3.lo_block g rfl).2⟩, fun D hD => by cases hD⟩
  obtain ⟨bs, hbs⟩ : ∃ bs, bs = w1.heap.size := ⟨_, rfl⟩
  rw [← hbs] at ST3 ⊢
  have C3 := Lib.hid ho3.cap
  clear ho3 hg3 Z2 Y2 O2 B2 hbs G1 B1
  have heq := @Lib.run_eql_slice_nil Try.prog
  gi_wp2
  refine wpIn_loop_rounds 4 ?_
  rw [roundsIn_succ]
  have hb4 := ST3.out.box.cell
  gi_wp2
  refine ⟨trivial, (callsIn_wide.2 (choices_any _ _ _)).mono ?_⟩
  rintro e u4 ⟨rfl, rfl⟩
  gi_wp2
  obtain ⟨W4, hW4⟩ : ∃ W4, W4 = (((w3.alloc (.cells #[.slice none 0 0] 24)).alloc (.cells #[.int .i64 4] 3)).alloc (.cells #[.int .i64 4] 3)) := ⟨_, rfl⟩
  rw [← hW4]
  have D4 : Below w3.heap.size w3 W4 := by rw [hW4]; exact below_three _ _ _ _
  have Z4 : W4.heap.size = w3.heap.size + 3 := by rw [hW4]; simp
  have XB4 : Boxed W4 w3.heap.size 24 (.slice none 0 0) := by rw [hW4]; exact ((Boxed.new w3 _ _).alloc _).alloc _
  have XN4 : Boxed W4 (w3.heap.size + 1) 3 (.int .i64 4) := by
    rw [hW4]
    have := (Boxed.new (w3.alloc (.cells #[.slice none 0 0] 24)) 3 (.int .i64 4)).alloc (.cells #[.int .i64 4] 3)
    rwa [World.size_alloc] at this
  have XK4 : Boxed W4 (w3.heap.size + 1 + 1) 3 (.int .i64 4) := by
    rw [hW4]
    have := Boxed.new ((w3.alloc (.cells #[.slice none 0 0] 24)).alloc (.cells #[.int .i64 4] 3)) 3 (.int .i64 4)
    rwa [World.size_alloc, World.size_alloc] at this
  have SU4 := Lib.hid (ST3.out.under D4)
  have I4 : LoB w.heap.size w3.heap.size W4 S [] W4 := ⟨World.grownBy.refl _ _, _, XB4, .inl ⟨rfl, rfl⟩⟩
  have ZB4 := Lib.hid Z4
  have bl4 : w3.heap.size < W4.heap.size := by omega
  clear hW4 D4 XB4 hb4
  refine wpIn_rangeC rfl (by omega) (gf := 60) (lb := #[.pointer (some ⟨w3.heap.size + 1 + 1, 0, none⟩), .pointer (some ⟨w3.heap.size + 1, 0, none⟩)]) rfl trivial (enters_of Try.func60 (by kernel_rfl) rfl)
    (choices_seq (3 - 1) 4 4 (w3.heap.size + 1) (w3.heap.size + 1 + 1) (by decide) W4 (bx_isC XN4) (bx_isC XK4)) (goodC_put 4) (Below.refl _ _) (fun _ => rfl)
    (LoB w.heap.size w3.heap.size W4 S) (fun _ _ _ => False)
    (loB_own bl4) (fun _ _ _ _ _ hs _ _ => hs) I4 ?fr4 ?assign4 ?body4 ?done4 ?stop4
  case assign4 =>
    intro l x W K hK
    simp only [encC]
    gi_wp2
    exact hK
  case stop4 =>
    rintro D cc pre W _ _ h _
    exact h.elim
  case body4 =>
    rintro l pre ⟨G, ch⟩ W ⟨k1, v, k2, k3⟩ hG hSp hsz
    have hcm := idx_mem (chosen_in hSp)
    have PK : Hid (pickL S ch ∈ comb S 4) := by
      rw [← pickL_comb S4.out]
      exact List.mem_map.2 ⟨ch, chosen_in hSp, rfl⟩
    have PRE : Hid (∀ x ∈ pre, (pickL S x.2).length = 4 ∧ pickL S x.2 ∈ comb S 4) := by
      rintro ⟨G', c'⟩ hc'
      obtain ⟨G2, hp2⟩ := hSp
      have h1 : (G', c') ∈ chL 4 4 G2 := hp2.subset (List.mem_append_left _ hc')
      obtain ⟨c2, hc2, e2⟩ := List.mem_map.1 h1
      cases e2
      have h3 : pickL S c' ∈ comb S 4 := by rw [← pickL_comb S4.out]; exact List.mem_map.2 ⟨c', hc2, rfl⟩
      exact ⟨comb_len h3, h3⟩
    obtain ⟨L, hL⟩ : ∃ L, L = minB (pre.map fun x => pickL S x.2) := ⟨_, rfl⟩
    rw [← hL] at k3
    have LL : Hid (L = [] ∨ (L.length = 4 ∧ L ∈ comb S 4)) := by show _ ∨ _; rw [hL]; exact minB_pre (by omega) PRE.out
    obtain ⟨T, hT⟩ : ∃ T, T = pickL S ch := ⟨_, rfl⟩
    rw [← hT] at PK
    have TN : Hid (T.length = 4) := comb_len PK.out
    have TO : Hid (okC T) := comb_okB SO.out PK.out
    have NX : Hid (minB ((pre ++ [(G, ch)]).map fun x => pickL S x.2) = stepB L T) := by
      show _ = _
      rw [List.map_append, List.map_cons, List.map_nil, minB_snoc, ← hL, ← hT]
    have HT := Lib.hid hT
    have SW := Lib.hid (SU4.out.loop k1 (by have := SU4.out.hbs; have := ST3.out.hbs; omega) (by have := ST3.out.hg; omega) (fun hD => by have := (Array.getElem?_eq_some_iff.1 (ST3.out.hD _ hD).2).1; omega) ST3.out.below.size)
    have GD := Lib.hid hG
    have IXB : Hid (∀ i, i < 4 → ch.getD i 0 < S.length) := by show ∀ i, _; rw [S4.out]; exact hcm.2
    have K1 := Lib.hid k1
    have K2 := Lib.hid k2
    have K3 := Lib.hid k3
    have hcb := SW.out.box.cell
    clear hG hcm hSp k1 k2 k3 hL hT I4 XN4 XK4
    have fw1 : Fence.wide.fn 38 := trivial
    have fw2 : Fence.wide.fn 39 := trivial
    have fw3 : Fence.wide.fn 40 := trivial
    have h1d : 1 ≤ 1 := Nat.le_refl _
    gi_wp2_with (gi_at_call 38; refine (CallsIn.inRound l (callsIn_wide.2 (chosen_any _ c1 S 4 ch G 4 _ S4.out.symm SW.out.row GD.out IXB.out (by omega)))).mono ?_; rintro e v1 ⟨C1, d1, rfl, ho1, hb1⟩; have O1 := Lib.hid ho1; have BB1 := Lib.hid hb1; clear ho1 hb1)
    rw [← HT.out] at O1 ⊢
    rw [TN.out]
    clear hcb
    obtain ⟨g1, rfl⟩ : ∃ g1, C1 = some ⟨g1, 0, none⟩ := by
      rcases own_some O1.out.own with ⟨_, _, e⟩ | h
      · have := TN.out; rw [e] at this; simp at this
      · exact h
    have TNE : Hid (T ≠ []) := by intro e; have := TN.out; rw [e] at this; simp at this
    have CP := Lib.hid O1.out.own.cap
    obtain ⟨ap, hap⟩ : ∃ ap, ap = apB T := ⟨_, rfl⟩
    have HAP := Lib.hid hap
    have OW1 := Lib.hid (O1.out.mono (Nat.le_trans SU4.out.below.size K1.out.size))
    clear hap
    refine (CallsIn.inRound l (callsIn_wide.2 (isBadugi_any _ d1 T 4 _ TN.out.symm O1.out.own.row (by omega) (by have := CP.out.1; have := TN.out; omega) CP.out.2 TO.out.1))).mono ?_
    rintro e v2 ⟨rfl, rfl⟩
    rw [← HAP.out]
    by_cases hap : ap = true
    · subst hap
      rcases K3.out with ⟨hL, rfl⟩ | ⟨g2, c2, hL, rfl, ho2⟩
      · have hc6 := (bx_under K2.out BB1.out).cell
        have hf6 := (bx_under K2.out BB1.out).frozen
        have FIN := Lib.hid (LoB.take (S := S) (pre := pre) (x := (G, ch)) K1.out K2.out BB1.out OW1.out TNE.out (by rw [NX.out, hL]; exact stepB_first' HAP.out.symm))
        rw [TN.out] at FIN
        clear hL
        gi_wp2
        exact FIN.out
      · have LN : Hid (L.length = 4) := by
          rcases LL.out with e | e
          · exact absurd e hL
          · exact e.1
        have LO : Hid (okC L) := by
          rcases LL.out with e | e
          · exact absurd e hL
          · exact comb_okB SO.out e.2
        have HL := Lib.hid hL
        have HO2 := Lib.hid (ho2.below BB1.out)
        rw [LN.out] at K2
        have hc6 := (bx_under K2.out BB1.out).cell
        obtain ⟨r, hr⟩ : ∃ r, r = sgB (lessB T L) (lessB L T) := ⟨_, rfl⟩
        obtain ⟨lb, hlb⟩ : ∃ lb, lb = lessB T L := ⟨_, rfl⟩
        have rl : decide (r < 0) = lb := by rw [hr, hlb]; exact sg_lt
        have RR := Lib.hid hr
        have LB := Lib.hid hlb
        clear hL ho2 hr hlb
        cases lb with
        | true =>
          gi_wp2_with (gi_at_call 40; refine (CallsIn.inRound l (callsIn_wide.2 (compareBadugi_any _ _ d1 c2 T L 4 _ TN.out.symm LN.out.symm O1.out.own.row HO2.out.own.row (by omega) TO.out.1 LO.out.1))).mono ?_; rintro e v3 ⟨rfl, n3, hv3⟩; rw [← RR.out]; have BB3 := Lib.hid (bad_dr BB1.out hv3); have OW3 := Lib.hid (bad_do OW1.out hv3); have hf6 := (bx_under K2.out BB3.out).frozen; have hc63 := (bx_under K2.out BB3.out).cell; clear hv3)
          have FIN := Lib.hid (LoB.take (S := S) (pre := pre) (x := (G, ch)) K1.out K2.out BB3.out OW3.out TNE.out (by rw [NX.out]; exact stepB_yes' HAP.out.symm LB.out.symm))
          rw [TN.out] at FIN
          exact FIN.out
        | false =>
          gi_wp2_with (gi_at_call 40; refine (CallsIn.inRound l (callsIn_wide.2 (compareBadugi_any _ _ d1 c2 T L 4 _ TN.out.symm LN.out.symm O1.out.own.row HO2.out.own.row (by omega) TO.out.1 LO.out.1))).mono ?_; rintro e v3 ⟨rfl, n3, hv3⟩; rw [← RR.out]; have BB3 := Lib.hid (bad_dr BB1.out hv3); have OW3 := Lib.hid (bad_do OW1.out hv3); have hf6 := (bx_under K2.out BB3.out).frozen; have hc63 := (bx_under K2.out BB3.out).cell; clear hv3)
          have KEP : BestV w.heap.size W (.slice (some ⟨g2, 0, none⟩) L.length c2) L := by
            rcases K3.out with ⟨h, _⟩ | h
            · exact absurd h HL.out
            · obtain ⟨g', c', h1, h2, h3⟩ := h
              exact .inr ⟨g', c', h1, h2, h3⟩
          rw [← LN.out] at K2
          exact LoB.keep (S := S) (pre := pre) (x := (G, ch)) K1.out K2.out KEP BB3.out (by rw [NX.out]; exact stepB_keep' HL.out LB.out.symm)
    · have hap' : ap = false := by simpa using hap
      subst hap'
      have FIN := Lib.hid (LoB.keep (S := S) (pre := pre) (x := (G, ch)) K1.out K2.out K3.out BB1.out (by rw [NX.out]; exact stepB_no' HAP.out.symm))
      clear hap
      gi_wp2
      all_goals
        first
        | exact FIN.out
        | (rename_i h1 h2; cases h1)
  case done4 =>
    rintro q4 ys V4 hD ⟨G, rfl⟩ ⟨k1, v, k2, k3⟩ hK
    rw [chL_min S4.out] at k3
    have SV4 := Lib.hid (SU4.out.loop k1 (by have := ST3.out.hbs; omega) (by have := ST3.out.hg; omega) (fun hD => by have := (Array.getElem?_eq_some_iff.1 (ST3.out.hD _ hD).2).1; omega) ST3.out.below.size)
    have LT4 : Hid (∀ E ∈ [], E < q4) := fun E hE => by have := (Array.getElem?_eq_some_iff.1 (ST3.out.hD E hE).2).1; omega
    have hc6 := k2.cell
    rcases k3 with ⟨hL, rfl⟩ | ⟨g2, c2, hL, rfl, ho2⟩
    · have E4 := Lib.hid hL
      clear hL k2 k1 I4 XN4 XK4
      have ST4 := Lib.hid (SV4.out.more (by have := ST3.out.below.size; omega) hK)
      gi_wp2
      rw [roundsIn_succ]
      have hb3 := ST4.out.box.cell
      gi_wp2
      refine ⟨trivial, (callsIn_wide.2 (choices_any _ _ _)).mono ?_⟩
      rintro e u3 ⟨rfl, rfl⟩
      gi_wp2
      obtain ⟨W3, hW3⟩ : ∃ W3, W3 = (((V4.alloc (.cells #[.slice none 0 0] 24)).alloc (.cells #[.int .i64 4] 3)).alloc (.cells #[.int .i64 3] 3)) := ⟨_, rfl⟩
      rw [← hW3]
      have D3 : Below V4.heap.size V4 W3 := by rw [hW3]; exact below_three _ _ _ _
      have Z3 : W3.heap.size = V4.heap.size + 3 := by rw [hW3]; simp
      have XB3 : Boxed W3 V4.heap.size 24 (.slice none 0 0) := by rw [hW3]; exact ((Boxed.new V4 _ _).alloc _).alloc _
      have XN3 : Boxed W3 (V4.heap.size + 1) 3 (.int .i64 4) := by
        rw [hW3]
        have := (Boxed.new (V4.alloc (.cells #[.slice none 0 0] 24)) 3 (.int .i64 4)).alloc (.cells #[.int .i64 3] 3)
        rwa [World.size_alloc] at this
      have XK3 : Boxed W3 (V4.heap.size + 1 + 1) 3 (.int .i64 3) := by
        rw [hW3]
        have := Boxed.new ((V4.alloc (.cells #[.slice none 0 0] 24)).alloc (.cells #[.int .i64 4] 3)) 3 (.int .i64 3)
        rwa [World.size_alloc, World.size_alloc] at this
      have SU3 := Lib.hid (ST4.out.under D3)
      have I3 : LoB w.heap.size V4.heap.size W3 S [] W3 := ⟨World.grownBy.refl _ _, _, XB3, .inl ⟨rfl, rfl⟩⟩
      have ZB3 := Lib.hid Z3
      have bl3 : V4.heap.size < W3.heap.size := by omega
      clear hW3 D3 XB3 hb3
      refine wpIn_rangeC rfl (by omega) (gf := 60) (lb := #[.pointer (some ⟨V4.heap.size + 1 + 1, 0, none⟩), .pointer (some ⟨V4.heap.size + 1, 0, none⟩)]) rfl trivial (enters_of Try.func60 (by kernel_rfl) rfl)
        (choices_seq (3 - 1) 4 3 (V4.heap.size + 1) (V4.heap.size + 1 + 1) (by decide) W3 (bx_isC XN3) (bx_isC XK3)) (goodC_put 3) (Below.refl _ _) (fun _ => rfl)
        (LoB w.heap.size V4.heap.size W3 S) (fun _ _ _ => False)
        (loB_own bl3) (fun _ _ _ _ _ hs _ _ => hs) I3 ?fr3 ?assign3 ?body3 ?done3 ?stop3
      case assign3 =>
        intro l x W K hK
        simp only [encC]
        gi_wp2
        exact hK
      case stop3 =>
        rintro D cc pre W _ _ h _
        exact h.elim
      case body3 =>
        rintro l pre ⟨G, ch⟩ W ⟨k1, v, k2, k3⟩ hG hSp hsz
        have hcm := idx_mem (chosen_in hSp)
        have PK : Hid (pickL S ch ∈ comb S 3) := by
          rw [← pickL_comb S4.out]
          exact List.mem_map.2 ⟨ch, chosen_in hSp, rfl⟩
        have PRE : Hid (∀ x ∈ pre, (pickL S x.2).length = 3 ∧ pickL S x.2 ∈ comb S 3) := by
          rintro ⟨G', c'⟩ hc'
          obtain ⟨G2, hp2⟩ := hSp
          have h1 : (G', c') ∈ chL 4 3 G2 := hp2.subset (List.mem_append_left _ hc')
          obtain ⟨c2, hc2, e2⟩ := List.mem_map.1 h1
          cases e2
          have h3 : pickL S c' ∈ comb S 3 := by rw [← pickL_comb S4.out]; exact List.mem_map.2 ⟨c', hc2, rfl⟩
          exact ⟨comb_len h3, h3⟩
        obtain ⟨L, hL⟩ : ∃ L, L = minB (pre.map fun x => pickL S x.2) := ⟨_, rfl⟩
        rw [← hL] at k3
        have LL : Hid (L = [] ∨ (L.length = 3 ∧ L ∈ comb S 3)) := by show _ ∨ _; rw [hL]; exact minB_pre (by omega) PRE.out
        obtain ⟨T, hT⟩ : ∃ T, T = pickL S ch := ⟨_, rfl⟩
        rw [← hT] at PK
        have TN : Hid (T.length = 3) := comb_len PK.out
        have TO : Hid (okC T) := comb_okB SO.out PK.out
        have NX : Hid (minB ((pre ++ [(G, ch)]).map fun x => pickL S x.2) = stepB L T) := by
          show _ = _
          rw [List.map_append, List.map_cons, List.map_nil, minB_snoc, ← hL, ← hT]
        have HT := Lib.hid hT
        have SW := Lib.hid (SU3.out.loop k1 (by have := SU3.out.hbs; have := ST4.out.hbs; omega) (by have := ST4.out.hg; omega) (fun hD => by have := (Array.getElem?_eq_some_iff.1 (ST4.out.hD _ hD).2).1; omega) ST4.out.below.size)
        have GD := Lib.hid hG
        have IXB : Hid (∀ i, i < 3 → ch.getD i 0 < S.length) := by show ∀ i, _; rw [S4.out]; exact hcm.2
        have K1 := Lib.hid k1
        have K2 := Lib.hid k2
        have K3 := Lib.hid k3
        have hcb := SW.out.box.cell
        clear hG hcm hSp k1 k2 k3 hL hT I3 XN3 XK3
        have fw1 : Fence.wide.fn 38 := trivial
        have fw2 : Fence.wide.fn 39 := trivial
        have fw3 : Fence.wide.fn 40 := trivial
        have h1d : 1 ≤ 1 := Nat.le_refl _
        gi_wp2_with (gi_at_call 38; refine (CallsIn.inRound l (callsIn_wide.2 (chosen_any _ c1 S 4 ch G 3 _ S4.out.symm SW.out.row GD.out IXB.out (by omega)))).mono ?_; rintro e v1 ⟨C1, d1, rfl, ho1, hb1⟩; have O1 := Lib.hid ho1; have BB1 := Lib.hid hb1; clear ho1 hb1)
        rw [← HT.out] at O1 ⊢
        rw [TN.out]
        clear hcb
        obtain ⟨g1, rfl⟩ : ∃ g1, C1 = some ⟨g1, 0, none⟩ := by
          rcases own_some O1.out.own with ⟨_, _, e⟩ | h
          · have := TN.out; rw [e] at this; simp at this
          · exact h
        have TNE : Hid (T ≠ []) := by intro e; have := TN.out; rw [e] at this; simp at this
        have CP := Lib.hid O1.out.own.cap
        obtain ⟨ap, hap⟩ : ∃ ap, ap = apB T := ⟨_, rfl⟩
        have HAP := Lib.hid hap
        have OW1 := Lib.hid (O1.out.mono (Nat.le_trans SU3.out.below.size K1.out.size))
        clear hap
        refine (CallsIn.inRound l (callsIn_wide.2 (isBadugi_any _ d1 T 3 _ TN.out.symm O1.out.own.row (by omega) (by have := CP.out.1; have := TN.out; omega) CP.out.2 TO.out.1))).mono ?_
        rintro e v2 ⟨rfl, rfl⟩
        rw [← HAP.out]
        by_cases hap : ap = true
        · subst hap
          rcases K3.out with ⟨hL, rfl⟩ | ⟨g2, c2, hL, rfl, ho2⟩
          · have hc6 := (bx_under K2.out BB1.out).cell
            have hf6 := (bx_under K2.out BB1.out).frozen
            have FIN := Lib.hid (LoB.take (S := S) (pre := pre) (x := (G, ch)) K1.out K2.out BB1.out OW1.out TNE.out (by rw [NX.out, hL]; exact stepB_first' HAP.out.symm))
            rw [TN.out] at FIN
            clear hL
            gi_wp2
            exact FIN.out
          · have LN : Hid (L.length = 3) := by
              rcases LL.out with e | e
              · exact absurd e hL
              · exact e.1
            have LO : Hid (okC L) := by
              rcases LL.out with e | e
              · exact absurd e hL
              · exact comb_okB SO.out e.2
            have HL := Lib.hid hL
            have HO2 := Lib.hid (ho2.below BB1.out)
            rw [LN.out] at K2
            have hc6 := (bx_under K2.out BB1.out).cell
            obtain ⟨r, hr⟩ : ∃ r, r = sgB (lessB T L) (lessB L T) := ⟨_, rfl⟩
            obtain ⟨lb, hlb⟩ : ∃ lb, lb = lessB T L := ⟨_, rfl⟩
            have rl : decide (r < 0) = lb := by rw [hr, hlb]; exact sg_lt
            have RR := Lib.hid hr
            have LB := Lib.hid hlb
            clear hL ho2 hr hlb
            cases lb with
            | true =>
              gi_wp2_with (gi_at_call 40; refine (CallsIn.inRound l (callsIn_wide.2 (compareBadugi_any _ _ d1 c2 T L 3 _ TN.out.symm LN.out.symm O1.out.own.row HO2.out.own.row (by omega) TO.out.1 LO.out.1))).mono ?_; rintro e v3 ⟨rfl, n3, hv3⟩; rw [← RR.out]; have BB3 := Lib.hid (bad_dr BB1.out hv3); have OW3 := Lib.hid (bad_do OW1.out hv3); have hf6 := (bx_under K2.out BB3.out).frozen; have hc63 := (bx_under K2.out BB3.out).cell; clear hv3)
              have FIN := Lib.hid (LoB.take (S := S) (pre := pre) (x := (G, ch)) K1.out K2.out BB3.out OW3.out TNE.out (by rw [NX.out]; exact stepB_yes' HAP.out.symm LB.out.symm))
              rw [TN.out] at FIN
              exact FIN.out
            | false =>
              gi_wp2_with (gi_at_call 40; refine (CallsIn.inRound l (callsIn_wide.2 (compareBadugi_any _ _ d1 c2 T L 3 _ TN.out.symm LN.out.symm O1.out.own.row HO2.out.own.row (by omega) TO.out.1 LO.out.1))).mono ?_; rintro e v3 ⟨rfl, n3, hv3⟩; rw [← RR.out]; have BB3 := Lib.hid (bad_dr BB1.out hv3); have OW3 := Lib.hid (bad_do OW1.out hv3); have hf6 := (bx_under K2.out BB3.out).frozen; have hc63 := (bx_under K2.out BB3.out).cell; clear hv3)
              have KEP : BestV w.heap.size W (.slice (some ⟨g2, 0, none⟩) L.length c2) L := by
                rcases K3.out with ⟨h, _⟩ | h
                · exact absurd h HL.out
                · obtain ⟨g', c', h1, h2, h3⟩ := h
                  exact .inr ⟨g', c', h1, h2, h3⟩
              rw [← LN.out] at K2
              exact LoB.keep (S := S) (pre := pre) (x := (G, ch)) K1.out K2.out KEP BB3.out (by rw [NX.out]; exact stepB_keep' HL.out LB.out.symm)
        · have hap' : ap = false := by simpa using hap
          subst hap'
          have FIN := Lib.hid (LoB.keep (S := S) (pre := pre) (x := (G, ch)) K1.out K2.out K3.out BB1.out (by rw [NX.out]; exact stepB_no' HAP.out.symm))
          clear hap
          gi_wp2
          all_goals
            first
            | exact FIN.out
            | (rename_i h1 h2; cases h1)
      case done3 =>
        rintro q3 ys V3 hD ⟨G, rfl⟩ ⟨k1, v, k2, k3⟩ hK
        rw [chL_min S4.out] at k3
        have SV3 := Lib.hid (SU3.out.loop k1 (by have := ST4.out.hbs; omega) (by have := ST4.out.hg; omega) (fun hD => by have := (Array.getElem?_eq_some_iff.1 (ST4.out.hD _ hD).2).1; omega) ST4.out.below.size)
        have LT3 : Hid (∀ E ∈ [q4], E < q3) := fun E hE => by have := (Array.getElem?_eq_some_iff.1 (ST4.out.hD E hE).2).1; omega
        have hc6 := k2.cell
        rcases k3 with ⟨hL, rfl⟩ | ⟨g2, c2, hL, rfl, ho2⟩
        · have E3 := Lib.hid hL
          clear hL k2 k1 I3 XN3 XK3
          have ST3 := Lib.hid (SV3.out.more (by have := ST4.out.below.size; omega) hK)
          gi_wp2
          rw [roundsIn_succ]
          have hb2 := ST3.out.box.cell
          gi_wp2
          refine ⟨trivial, (callsIn_wide.2 (choices_any _ _ _)).mono ?_⟩
          rintro e u2 ⟨rfl, rfl⟩
          gi_wp2
          obtain ⟨W2, hW2⟩ : ∃ W2, W2 = (((V3.alloc (.cells #[.slice none 0 0] 24)).alloc (.cells #[.int .i64 4] 3)).alloc (.cells #[.int .i64 2] 3)) := ⟨_, rfl⟩
          rw [← hW2]
          have D2 : Below V3.heap.size V3 W2 := by rw [hW2]; exact below_three _ _ _ _
          have Z2 : W2.heap.size = V3.heap.size + 3 := by rw [hW2]; simp
          have XB2 : Boxed W2 V3.heap.size 24 (.slice none 0 0) := by rw [hW2]; exact ((Boxed.new V3 _ _).alloc _).alloc _
          have XN2 : Boxed W2 (V3.heap.size + 1) 3 (.int .i64 4) := by
            rw [hW2]
            have := (Boxed.new (V3.alloc (.cells #[.slice none 0 0] 24)) 3 (.int .i64 4)).alloc (.cells #[.int .i64 2] 3)
            rwa [World.size_alloc] at this
          have XK2 : Boxed W2 (V3.heap.size + 1 + 1) 3 (.int .i64 2) := by
            rw [hW2]
            have := Boxed.new ((V3.alloc (.cells #[.slice none 0 0] 24)).alloc (.cells #[.int .i64 4] 3)) 3 (.int .i64 2)
            rwa [World.size_alloc, World.size_alloc] at this
          have SU2 := Lib.hid (ST3.out.under D2)
          have I2 : LoB w.heap.size V3.heap.size W2 S [] W2 := ⟨World.grownBy.refl _ _, _, XB2, .inl ⟨rfl, rfl⟩⟩
          have ZB2 := Lib.hid Z2
          have bl2 : V3.heap.size < W2.heap.size := by omega
          clear hW2 D2 XB2 hb2
          refine wpIn_rangeC rfl (by omega) (gf := 60) (lb := #[.pointer (some ⟨V3.heap.size + 1 + 1, 0, none⟩), .pointer (some ⟨V3.heap.size + 1, 0, none⟩)]) rfl trivial (enters_of Try.func60 (by kernel_rfl) rfl)
            (choices_seq (3 - 1) 4 2 (V3.heap.size + 1) (V3.heap.size + 1 + 1) (by decide) W2 (bx_isC XN2) (bx_isC XK2)) (goodC_put 2) (Below.refl _ _) (fun _ => rfl)
            (LoB w.heap.size V3.heap.size W2 S) (fun _ _ _ => False)
            (loB_own bl2) (fun _ _ _ _ _ hs _ _ => hs) I2 ?fr2 ?assign2 ?body2 ?done2 ?stop2
          case assign2 =>
            intro l x W K hK
            simp only [encC]
            gi_wp2
            exact hK
          case stop2 =>
            rintro D cc pre W _ _ h _
            exact h.elim
          case body2 =>
            rintro l pre ⟨G, ch⟩ W ⟨k1, v, k2, k3⟩ hG hSp hsz
            have hcm := idx_mem (chosen_in hSp)
            have PK : Hid (pickL S ch ∈ comb S 2) := by
              rw [← pickL_comb S4.out]
              exact List.mem_map.2 ⟨ch, chosen_in hSp, rfl⟩
            have PRE : Hid (∀ x ∈ pre, (pickL S x.2).length = 2 ∧ pickL S x.2 ∈ comb S 2) := by
              rintro ⟨G', c'⟩ hc'
              obtain ⟨G2, hp2⟩ := hSp
              have h1 : (G', c') ∈ chL 4 2 G2 := hp2.subset (List.mem_append_left _ hc')
              obtain ⟨c2, hc2, e2⟩ := List.mem_map.1 h1
              cases e2
              have h3 : pickL S c' ∈ comb S 2 := by rw [← pickL_comb S4.out]; exact List.mem_map.2 ⟨c', hc2, rfl⟩
              exact ⟨comb_len h3, h3⟩
            obtain ⟨L, hL⟩ : ∃ L, L = minB (pre.map fun x => pickL S x.2) := ⟨_, rfl⟩
            rw [← hL] at k3
            have LL : Hid (L = [] ∨ (L.length = 2 ∧ L ∈ comb S 2)) := by show _ ∨ _; rw [hL]; exact minB_pre (by omega) PRE.out
            obtain ⟨T, hT⟩ : ∃ T, T = pickL S ch := ⟨_, rfl⟩
            rw [← hT] at PK
            have TN : Hid (T.length = 2) := comb_len PK.out
            have TO : Hid (okC T) := comb_okB SO.out PK.out
            have NX : Hid (minB ((pre ++ [(G, ch)]).map fun x => pickL S x.2) = stepB L T) := by
              show _ = _
              rw [List.map_append, List.map_cons, List.map_nil, minB_snoc, ← hL, ← hT]
            have HT := Lib.hid hT
            have SW := Lib.hid (SU2.out.loop k1 (by have := SU2.out.hbs; have := ST3.out.hbs; omega) (by have := ST3.out.hg; omega) (fun hD => by have := (Array.getElem?_eq_some_iff.1 (ST3.out.hD _ hD).2).1; omega) ST3.out.below.size)
            have GD := Lib.hid hG
            have IXB : Hid (∀ i, i < 2 → ch.getD i 0 < S.length) := by show ∀ i, _; rw [S4.out]; exact hcm.2
            have K1 := Lib.hid k1
            have K2 := Lib.hid k2
            have K3 := Lib.hid k3
            have hcb := SW.out.box.cell
            clear hG hcm hSp k1 k2 k3 hL hT I2 XN2 XK2
            have fw1 : Fence.wide.fn 38 := trivial
            have fw2 : Fence.wide.fn 39 := trivial
            have fw3 : Fence.wide.fn 40 := trivial
            have h1d : 1 ≤ 1 := Nat.le_refl _
            gi_wp2_with (gi_at_call 38; refine (CallsIn.inRound l (callsIn_wide.2 (chosen_any _ c1 S 4 ch G 2 _ S4.out.symm SW.out.row GD.out IXB.out (by omega)))).mono ?_; rintro e v1 ⟨C1, d1, rfl, ho1, hb1⟩; have O1 := Lib.hid ho1; have BB1 := Lib.hid hb1; clear ho1 hb1)
            rw [← HT.out] at O1 ⊢
            rw [TN.out]
            clear hcb
            obtain ⟨g1, rfl⟩ : ∃ g1, C1 = some ⟨g1, 0, none⟩ := by
              rcases own_some O1.out.own with ⟨_, _, e⟩ | h
              · have := TN.out; rw [e] at this; simp at this
              · exact h
            have TNE : Hid (T ≠ []) := by intro e; have := TN.out; rw [e] at this; simp at this
            have CP := Lib.hid O1.out.own.cap
            obtain ⟨ap, hap⟩ : ∃ ap, ap = apB T := ⟨_, rfl⟩
            have HAP := Lib.hid hap
            have OW1 := Lib.hid (O1.out.mono (Nat.le_trans SU2.out.below.size K1.out.size))
            clear hap
            refine (CallsIn.inRound l (callsIn_wide.2 (isBadugi_any _ d1 T 2 _ TN.out.symm O1.out.own.row (by omega) (by have := CP.out.1; have := TN.out; omega) CP.out.2 TO.out.1))).mono ?_
            rintro e v2 ⟨rfl, rfl⟩
            rw [← HAP.out]
            by_cases hap : ap = true
            · subst hap
              rcases K3.out with ⟨hL, rfl⟩ | ⟨g2, c2, hL, rfl, ho2⟩
              · have hc6 := (bx_under K2.out BB1.out).cell
                have hf6 := (bx_under K2.out BB1.out).frozen
                have FIN := Lib.hid (LoB.take (S := S) (pre := pre) (x := (G, ch)) K1.out K2.out BB1.out OW1.out TNE.out (by rw [NX.out, hL]; exact stepB_first' HAP.out.symm))
                rw [TN.out] at FIN
                clear hL
                gi_wp2
                exact FIN.out
              · have LN : Hid (L.length = 2) := by
                  rcases LL.out with e | e
                  · exact absurd e hL
                  · exact e.1
                have LO : Hid (okC L) := by
                  rcases LL.out with e | e
                  · exact absurd e hL
                  · exact comb_okB SO.out e.2
                have HL := Lib.hid hL
                have HO2 := Lib.hid (ho2.below BB1.out)
                rw [LN.out] at K2
                have hc6 := (bx_under K2.out BB1.out).cell
                obtain ⟨r, hr⟩ : ∃ r, r = sgB (lessB T L) (lessB L T) := ⟨_, rfl⟩
                obtain ⟨lb, hlb⟩ : ∃ lb, lb = lessB T L := ⟨_, rfl⟩
                have rl : decide (r < 0) = lb := by rw [hr, hlb]; exact sg_lt
                have RR := Lib.hid hr
                have LB := Lib.hid hlb
                clear hL ho2 hr hlb
                cases lb with
                | true =>
                  gi_wp2_with (gi_at_call 40; refine (CallsIn.inRound l (callsIn_wide.2 (compareBadugi_any _ _ d1 c2 T L 2 _ TN.out.symm LN.out.symm O1.out.own.row HO2.out.own.row (by omega) TO.out.1 LO.out.1))).mono ?_; rintro e v3 ⟨rfl, n3, hv3⟩; rw [← RR.out]; have BB3 := Lib.hid (bad_dr BB1.out hv3); have OW3 := Lib.hid (bad_do OW1.out hv3); have hf6 := (bx_under K2.out BB3.out).frozen; have hc63 := (bx_under K2.out BB3.out).cell; clear hv3)
                  have FIN := Lib.hid (LoB.take (S := S) (pre := pre) (x := (G, ch)) K1.out K2.out BB3.out OW3.out TNE.out (by rw [NX.out]; exact stepB_yes' HAP.out.symm LB.out.symm))
                  rw [TN.out] at FIN
                  exact FIN.out
                | false =>
                  gi_wp2_with (gi_at_call 40; refine (CallsIn.inRound l (callsIn_wide.2 (compareBadugi_any _ _ d1 c2 T L 2 _ TN.out.symm LN.out.symm O1.out.own.row HO2.out.own.row (by omega) TO.out.1 LO.out.1))).mono ?_; rintro e v3 ⟨rfl, n3, hv3⟩; rw [← RR.out]; have BB3 := Lib.hid (bad_dr BB1.out hv3); have OW3 := Lib.hid (bad_do OW1.out hv3); have hf6 := (bx_under K2.out BB3.out).frozen; have hc63 := (bx_under K2.out BB3.out).cell; clear hv3)
                  have KEP : BestV w.heap.size W (.slice (some ⟨g2, 0, none⟩) L.length c2) L := by
                    rcases K3.out with ⟨h, _⟩ | h
                    · exact absurd h HL.out
                    · obtain ⟨g', c', h1, h2, h3⟩ := h
                      exact .inr ⟨g', c', h1, h2, h3⟩
                  rw [← LN.out] at K2
                  exact LoB.keep (S := S) (pre := pre) (x := (G, ch)) K1.out K2.out KEP BB3.out (by rw [NX.out]; exact stepB_keep' HL.out LB.out.symm)
            · have hap' : ap = false := by simpa using hap
              subst hap'
              have FIN := Lib.hid (LoB.keep (S := S) (pre := pre) (x := (G, ch)) K1.out K2.out K3.out BB1.out (by rw [NX.out]; exact stepB_no' HAP.out.symm))
              clear hap
              gi_wp2
              all_goals
                first
                | exact FIN.out
                | (rename_i h1 h2; cases h1)
          case done2 =>
            rintro q2 ys V2 hD ⟨G, rfl⟩ ⟨k1, v, k2, k3⟩ hK
            rw [chL_min S4.out] at k3
            have SV2 := Lib.hid (SU2.out.loop k1 (by have := ST3.out.hbs; omega) (by have := ST3.out.hg; omega) (fun hD => by have := (Array.getElem?_eq_some_iff.1 (ST3.out.hD _ hD).2).1; omega) ST3.out.below.size)
            have LT2 : Hid (∀ E ∈ [q3, q4], E < q2) := fun E hE => by have := (Array.getElem?_eq_some_iff.1 (ST3.out.hD E hE).2).1; omega
            have hc6 := k2.cell
            rcases k3 with ⟨hL, rfl⟩ | ⟨g2, c2, hL, rfl, ho2⟩
            · have E2 := Lib.hid hL
              clear hL k2 k1 I2 XN2 XK2
              have ST2 := Lib.hid (SV2.out.more (by have := ST3.out.below.size; omega) hK)
              gi_wp2
              rw [roundsIn_succ]
              have hb1 := ST2.out.box.cell
              gi_wp2
              refine ⟨trivial, (callsIn_wide.2 (choices_any _ _ _)).mono ?_⟩
              rintro e u1 ⟨rfl, rfl⟩
              gi_wp2
              obtain ⟨W1, hW1⟩ : ∃ W1, W1 = (((V2.alloc (.cells #[.slice none 0 0] 24)).alloc (.cells #[.int .i64 4] 3)).alloc (.cells #[.int .i64 1] 3)) := ⟨_, rfl⟩
              rw [← hW1]
              have D1 : Below V2.heap.size V2 W1 := by rw [hW1]; exact below_three _ _ _ _
              have Z1 : W1.heap.size = V2.heap.size + 3 := by rw [hW1]; simp
              have XB1 : Boxed W1 V2.heap.size 24 (.slice none 0 0) := by rw [hW1]; exact ((Boxed.new V2 _ _).alloc _).alloc _
              have XN1 : Boxed W1 (V2.heap.size + 1) 3 (.int .i64 4) := by
                rw [hW1]
                have := (Boxed.new (V2.alloc (.cells #[.slice none 0 0] 24)) 3 (.int .i64 4)).alloc (.cells #[.int .i64 1] 3)
                rwa [World.size_alloc] at this
              have XK1 : Boxed W1 (V2.heap.size + 1 + 1) 3 (.int .i64 1) := by
                rw [hW1]
                have := Boxed.new ((V2.alloc (.cells #[.slice none 0 0] 24)).alloc (.cells #[.int .i64 4] 3)) 3 (.int .i64 1)
                rwa [World.size_alloc, World.size_alloc] at this
              have SU1 := Lib.hid (ST2.out.under D1)
              have I1 : LoB w.heap.size V2.heap.size W1 S [] W1 := ⟨World.grownBy.refl _ _, _, XB1, .inl ⟨rfl, rfl⟩⟩
              have ZB1 := Lib.hid Z1
              have bl1 : V2.heap.size < W1.heap.size := by omega
              clear hW1 D1 XB1 hb1
              refine wpIn_rangeC rfl (by omega) (gf := 60) (lb := #[.pointer (some ⟨V2.heap.size + 1 + 1, 0, none⟩), .pointer (some ⟨V2.heap.size + 1, 0, none⟩)]) rfl trivial (enters_of Try.func60 (by kernel_rfl) rfl)
                (choices_seq (3 - 1) 4 1 (V2.heap.size + 1) (V2.heap.size + 1 + 1) (by decide) W1 (bx_isC XN1) (bx_isC XK1)) (goodC_put 1) (Below.refl _ _) (fun _ => rfl)
                (LoB w.heap.size V2.heap.size W1 S) (fun _ _ _ => False)
                (loB_own bl1) (fun _ _ _ _ _ hs _ _ => hs) I1 ?fr1 ?assign1 ?body1 ?done1 ?stop1
              case assign1 =>
                intro l x W K hK
                simp only [encC]
                gi_wp2
                exact hK
              case stop1 =>
                rintro D cc pre W _ _ h _
                exact h.elim
              case body1 =>
                rintro l pre ⟨G, ch⟩ W ⟨k1, v, k2, k3⟩ hG hSp hsz
                have hcm := idx_mem (chosen_in hSp)
                have PK : Hid (pickL S ch ∈ comb S 1) := by
                  rw [← pickL_comb S4.out]
                  exact List.mem_map.2 ⟨ch, chosen_in hSp, rfl⟩
                have PRE : Hid (∀ x ∈ pre, (pickL S x.2).length = 1 ∧ pickL S x.2 ∈ comb S 1) := by
                  rintro ⟨G', c'⟩ hc'
                  obtain ⟨G2, hp2⟩ := hSp
                  have h1 : (G', c') ∈ chL 4 1 G2 := hp2.subset (List.mem_append_left _ hc')
                  obtain ⟨c2, hc2, e2⟩ := List.mem_map.1 h1
                  cases e2
                  have h3 : pickL S c' ∈ comb S 1 := by rw [← pickL_comb S4.out]; exact List.mem_map.2 ⟨c', hc2, rfl⟩
                  exact ⟨comb_len h3, h3⟩
                obtain ⟨L, hL⟩ : ∃ L, L = minB (pre.map fun x => pickL S x.2) := ⟨_, rfl⟩
                rw [← hL] at k3
                have LL : Hid (L = [] ∨ (L.length = 1 ∧ L ∈ comb S 1)) := by show _ ∨ _; rw [hL]; exact minB_pre (by omega) PRE.out
                obtain ⟨T, hT⟩ : ∃ T, T = pickL S ch := ⟨_, rfl⟩
                rw [← hT] at PK
                have TN : Hid (T.length = 1) := comb_len PK.out
                have TO : Hid (okC T) := comb_okB SO.out PK.out
                have NX : Hid (minB ((pre ++ [(G, ch)]).map fun x => pickL S x.2) = stepB L T) := by
                  show _ = _
                  rw [List.map_append, List.map_cons, List.map_nil, minB_snoc, ← hL, ← hT]
                have HT := Lib.hid hT
                have SW := Lib.hid (SU1.out.loop k1 (by have := SU1.out.hbs; have := ST2.out.hbs; omega) (by have := ST2.out.hg; omega) (fun hD => by have := (Array.getElem?_eq_some_iff.1 (ST2.out.hD _ hD).2).1; omega) ST2.out.below.size)
                have GD := Lib.hid hG
                have IXB : Hid (∀ i, i < 1 → ch.getD i 0 < S.length) := by show ∀ i, _; rw [S4.out]; exact hcm.2
                have K1 := Lib.hid k1
                have K2 := Lib.hid k2
                have K3 := Lib.hid k3
                have hcb := SW.out.box.cell
                clear hG hcm hSp k1 k2 k3 hL hT I1 XN1 XK1
                have fw1 : Fence.wide.fn 38 := trivial
                have fw2 : Fence.wide.fn 39 := trivial
                have fw3 : Fence.wide.fn 40 := trivial
                have h1d : 1 ≤ 1 := Nat.le_refl _
                gi_wp2_with (gi_at_call 38; refine (CallsIn.inRound l (callsIn_wide.2 (chosen_any _ c1 S 4 ch G 1 _ S4.out.symm SW.out.row GD.out IXB.out (by omega)))).mono ?_; rintro e v1 ⟨C1, d1, rfl, ho1, hb1⟩; have O1 := Lib.hid ho1; have BB1 := Lib.hid hb1; clear ho1 hb1)
                rw [← HT.out] at O1 ⊢
                rw [TN.out]
                clear hcb
                obtain ⟨g1, rfl⟩ : ∃ g1, C1 = some ⟨g1, 0, none⟩ := by
                  rcases own_some O1.out.own with ⟨_, _, e⟩ | h
                  · have := TN.out; rw [e] at this; simp at this
                  · exact h
                have TNE : Hid (T ≠ []) := by intro e; have := TN.out; rw [e] at this; simp at this
                have CP := Lib.hid O1.out.own.cap
                obtain ⟨ap, hap⟩ : ∃ ap, ap = apB T := ⟨_, rfl⟩
                have HAP := Lib.hid hap
                have OW1 := Lib.hid (O1.out.mono (Nat.le_trans SU1.out.below.size K1.out.size))
                clear hap
                refine (CallsIn.inRound l (callsIn_wide.2 (isBadugi_any _ d1 T 1 _ TN.out.symm O1.out.own.row (by omega) (by have := CP.out.1; have := TN.out; omega) CP.out.2 TO.out.1))).mono ?_
                rintro e v2 ⟨rfl, rfl⟩
                rw [← HAP.out]
                by_cases hap : ap = true
                · subst hap
                  rcases K3.out with ⟨hL, rfl⟩ | ⟨g2, c2, hL, rfl, ho2⟩
                  · have hc6 := (bx_under K2.out BB1.out).cell
                    have hf6 := (bx_under K2.out BB1.out).frozen
                    have FIN := Lib.hid (LoB.take (S := S) (pre := pre) (x := (G, ch)) K1.out K2.out BB1.out OW1.out TNE.out (by rw [NX.out, hL]; exact stepB_first' HAP.out.symm))
                    rw [TN.out] at FIN
                    clear hL
                    gi_wp2
                    exact FIN.out
                  · have LN : Hid (L.length = 1) := by
                      rcases LL.out with e | e
                      · exact absurd e hL
                      · exact e.1
                    have LO : Hid (okC L) := by
                      rcases LL.out with e | e
                      · exact absurd e hL
                      · exact comb_okB SO.out e.2
                    have HL := Lib.hid hL
                    have HO2 := Lib.hid (ho2.below BB1.out)
                    rw [LN.out] at K2
                    have hc6 := (bx_under K2.out BB1.out).cell
                    obtain ⟨r, hr⟩ : ∃ r, r = sgB (lessB T L) (lessB L T) := ⟨_, rfl⟩
                    obtain ⟨lb, hlb⟩ : ∃ lb, lb = lessB T L := ⟨_, rfl⟩
                    have rl : decide (r < 0) = lb := by rw [hr, hlb]; exact sg_lt
                    have RR := Lib.hid hr
                    have LB := Lib.hid hlb
                    clear hL ho2 hr hlb
                    cases lb with
                    | true =>
                      gi_wp2_with (gi_at_call 40; refine (CallsIn.inRound l (callsIn_wide.2 (compareBadugi_any _ _ d1 c2 T L 1 _ TN.out.symm LN.out.symm O1.out.own.row HO2.out.own.row (by omega) TO.out.1 LO.out.1))).mono ?_; rintro e v3 ⟨rfl, n3, hv3⟩; rw [← RR.out]; have BB3 := Lib.hid (bad_dr BB1.out hv3); have OW3 := Lib.hid (bad_do OW1.out hv3); have hf6 := (bx_under K2.out BB3.out).frozen; have hc63 := (bx_under K2.out BB3.out).cell; clear hv3)
                      have FIN := Lib.hid (LoB.take (S := S) (pre := pre) (x := (G, ch)) K1.out K2.out BB3.out OW3.out TNE.out (by rw [NX.out]; exact stepB_yes' HAP.out.symm LB.out.symm))
                      rw [TN.out] at FIN
                      exact FIN.out
                    | false =>
                      gi_wp2_with (gi_at_call 40; refine (CallsIn.inRound l (callsIn_wide.2 (compareBadugi_any _ _ d1 c2 T L 1 _ TN.out.symm LN.out.symm O1.out.own.row HO2.out.own.row (by omega) TO.out.1 LO.out.1))).mono ?_; rintro e v3 ⟨rfl, n3, hv3⟩; rw [← RR.out]; have BB3 := Lib.hid (bad_dr BB1.out hv3); have OW3 := Lib.hid (bad_do OW1.out hv3); have hf6 := (bx_under K2.out BB3.out).frozen; have hc63 := (bx_under K2.out BB3.out).cell; clear hv3)
                      have KEP : BestV w.heap.size W (.slice (some ⟨g2, 0, none⟩) L.length c2) L := by
                        rcases K3.out with ⟨h, _⟩ | h
                        · exact absurd h HL.out
                        · obtain ⟨g', c', h1, h2, h3⟩ := h
                          exact .inr ⟨g', c', h1, h2, h3⟩
                      rw [← LN.out] at K2
                      exact LoB.keep (S := S) (pre := pre) (x := (G, ch)) K1.out K2.out KEP BB3.out (by rw [NX.out]; exact stepB_keep' HL.out LB.out.symm)
                · have hap' : ap = false := by simpa using hap
                  subst hap'
                  have FIN := Lib.hid (LoB.keep (S := S) (pre := pre) (x := (G, ch)) K1.out K2.out K3.out BB1.out (by rw [NX.out]; exact stepB_no' HAP.out.symm))
                  clear hap
                  gi_wp2
                  all_goals
                    first
                    | exact FIN.out
                    | (rename_i h1 h2; cases h1)
              case done1 =>
                rintro q1 ys V1 hD ⟨G, rfl⟩ ⟨k1, v, k2, k3⟩ hK
                rw [chL_min S4.out] at k3
                have SV1 := Lib.hid (SU1.out.loop k1 (by have := ST2.out.hbs; omega) (by have := ST2.out.hg; omega) (fun hD => by have := (Array.getElem?_eq_some_iff.1 (ST2.out.hD _ hD).2).1; omega) ST2.out.below.size)
                have LT1 : Hid (∀ E ∈ [q2, q3, q4], E < q1) := fun E hE => by have := (Array.getElem?_eq_some_iff.1 (ST2.out.hD E hE).2).1; omega
                have hc6 := k2.cell
                rcases k3 with ⟨hL, rfl⟩ | ⟨g2, c2, hL, rfl, ho2⟩
                · have E1 := Lib.hid hL
                  have NE : xs ≠ [] := by intro e; have := H4.out; rw [e] at this; simp at this
                  exact absurd E1.out (by rw [HS.out, min_one NE]; simp)
                · have LN : Hid ((minB (comb S 1)).length = 1) := by
                    rcases minB_facts (k := 1) (by omega) (comb S 1) (fun T hT => comb_len hT) with ⟨e, _⟩ | ⟨e, _⟩
                    · exact absurd e hL
                    · exact comb_len e
                  have E4h : minB (comb S 4) = [] := E4.out
                  have E3h : minB (comb S 3) = [] := E3.out
                  have E2h : minB (comb S 2) = [] := E2.out
                  have EQ : Hid (bgL xs = minB (comb S 1)) := by
                    show bgL xs = _
                    rw [HS.out] at hL E4h E3h E2h ⊢
                    unfold bgL
                    rw [if_neg (by rw [E4h]; simp)]
                    rw [if_neg (by rw [E3h]; simp)]
                    rw [if_neg (by rw [E2h]; simp)]
                  have EN : Hid (EndB w V1 (bgL xs) c2 1 g2) := by
                    show EndB _ _ _ _ _ _
                    rw [EQ.out]
                    exact ⟨SV1.out.below, ho2, LN.out.symm⟩
                  clear E4h
                  clear E3h
                  clear E2h
                  rw [LN.out] at hc6
                  have KD := Lib.hid (SV1.out.more (by have := ST2.out.below.size; omega) hK)
                  clear hL k2 k1 I1 XN1 XK1 ho2
                  gi_wp2
                  refine leaves_list [q1, q2, q3, q4] V1 (by simp; have h4 := LT3.out q4 (by simp); have h3 := LT2.out q3 (by simp); have h2 := LT1.out q2 (by simp); omega) (fun E hE => (KD.out.hD E hE).2) (by simp) ?_
                  have FB : EndB w (endW V1 [q1, q2, q3, q4]) (bgL xs) c2 1 g2 := endB_list [q1, q2, q3, q4] V1 EN.out (by simp; have h4 := LT3.out q4 (by simp); have h3 := LT2.out q3 (by simp); have h2 := LT1.out q2 (by simp); omega) (fun E hE => KD.out.hD E hE)
                  exact ⟨_, results_tmp2 rfl _ _ _, ⟨_, c2, by rw [← FB.2.2]; rfl, FB.2.1.own, FB.1⟩⟩
            · have LN : Hid ((minB (comb S 2)).length = 2) := by
                rcases minB_facts (k := 2) (by omega) (comb S 2) (fun T hT => comb_len hT) with ⟨e, _⟩ | ⟨e, _⟩
                · exact absurd e hL
                · exact comb_len e
              have E4h : minB (comb S 4) = [] := E4.out
              have E3h : minB (comb S 3) = [] := E3.out
              have EQ : Hid (bgL xs = minB (comb S 2)) := by
                show bgL xs = _
                rw [HS.out] at hL E4h E3h ⊢
                unfold bgL
                rw [if_neg (by rw [E4h]; simp)]
                rw [if_neg (by rw [E3h]; simp)]
                rw [if_pos hL]
              have EN : Hid (EndB w V2 (bgL xs) c2 2 g2) := by
                show EndB _ _ _ _ _ _
                rw [EQ.out]
                exact ⟨SV2.out.below, ho2, LN.out.symm⟩
              clear E4h
              clear E3h
              rw [LN.out] at hc6
              have KD := Lib.hid (SV2.out.more (by have := ST3.out.below.size; omega) hK)
              clear hL k2 k1 I2 XN2 XK2 ho2
              gi_wp2
              refine leaves_list [q2, q3, q4] V2 (by simp; have h4 := LT3.out q4 (by simp); have h3 := LT2.out q3 (by simp); omega) (fun E hE => (KD.out.hD E hE).2) (by simp) ?_
              have FB : EndB w (endW V2 [q2, q3, q4]) (bgL xs) c2 2 g2 := endB_list [q2, q3, q4] V2 EN.out (by simp; have h4 := LT3.out q4 (by simp); have h3 := LT2.out q3 (by simp); omega) (fun E hE => KD.out.hD E hE)
              exact ⟨_, results_tmp2 rfl _ _ _, ⟨_, c2, by rw [← FB.2.2]; rfl, FB.2.1.own, FB.1⟩⟩
        · have LN : Hid ((minB (comb S 3)).length = 3) := by
            rcases minB_facts (k := 3) (by omega) (comb S 3) (fun T hT => comb_len hT) with ⟨e, _⟩ | ⟨e, _⟩
            · exact absurd e hL
            · exact comb_len e
          have E4h : minB (comb S 4) = [] := E4.out
          have EQ : Hid (bgL xs = minB (comb S 3)) := by
            show bgL xs = _
            rw [HS.out] at hL E4h ⊢
            unfold bgL
            rw [if_neg (by rw [E4h]; simp)]
            rw [if_pos hL]
          have EN : Hid (EndB w V3 (bgL xs) c2 3 g2) := by
            show EndB _ _ _ _ _ _
            rw [EQ.out]
            exact ⟨SV3.out.below, ho2, LN.out.symm⟩
          clear E4h
          rw [LN.out] at hc6
          have KD := Lib.hid (SV3.out.more (by have := ST4.out.below.size; omega) hK)
          clear hL k2 k1 I3 XN3 XK3 ho2
          gi_wp2
          refine leaves_list [q3, q4] V3 (by simp; have h4 := LT3.out q4 (by simp); omega) (fun E hE => (KD.out.hD E hE).2) (by simp) ?_
          have FB : EndB w (endW V3 [q3, q4]) (bgL xs) c2 3 g2 := endB_list [q3, q4] V3 EN.out (by simp; have h4 := LT3.out q4 (by simp); omega) (fun E hE => KD.out.hD E hE)
          exact ⟨_, results_tmp2 rfl _ _ _, ⟨_, c2, by rw [← FB.2.2]; rfl, FB.2.1.own, FB.1⟩⟩
    · have LN : Hid ((minB (comb S 4)).length = 4) := by
        rcases minB_facts (k := 4) (by omega) (comb S 4) (fun T hT => comb_len hT) with ⟨e, _⟩ | ⟨e, _⟩
        · exact absurd e hL
        · exact comb_len e
      have EQ : Hid (bgL xs = minB (comb S 4)) := by
        show bgL xs = _
        rw [HS.out] at hL ⊢
        unfold bgL
        rw [if_pos hL]
      have EN : Hid (EndB w V4 (bgL xs) c2 4 g2) := by
        show EndB _ _ _ _ _ _
        rw [EQ.out]
        exact ⟨SV4.out.below, ho2, LN.out.symm⟩
      rw [LN.out] at hc6
      have KD := Lib.hid (SV4.out.more (by have := ST3.out.below.size; omega) hK)
      clear hL k2 k1 I4 XN4 XK4 ho2
      gi_wp2
      refine leaves_list [q4] V4 (by simp) (fun E hE => (KD.out.hD E hE).2) (by simp) ?_
      have FB : EndB w (endW V4 [q4]) (bgL xs) c2 4 g2 := endB_list [q4] V4 EN.out (by simp) (fun E hE => KD.out.hD E hE)
      exact ⟨_, results_tmp2 rfl _ _ _, ⟨_, c2, by rw [← FB.2.2]; rfl, FB.2.1.own, FB.1⟩⟩

theorem implBad_any (A : Option Addr) (c : Nat) (xs : List Int) (w : World) (h : RowI w A xs) (hl : xs.length ≤ 1048576) :
    Calls Try.prog 11 #[.slice A xs.length c] w (GivesC w (bcL xs) (bcC xs)) := by
  by_cases h4 : xs.length = 4
  · by_cases ho : okC xs
    · have hs : szP xs 4 4 := ⟨by omega, by omega, ho⟩
      rw [(bc_yes hs).1, (bc_yes hs).2, h4]
      exact implBad_yes A c xs w h h4 ho
    · have R := Lib.hid (bc_no (xs := xs) (fun h => ho h.2.2))
      have AC : Hid (areC xs = false) := areC_no ho
      have CALL := Lib.hid (implAreCards_any A c xs w h hl)
      rw [h4] at CALL ⊢
      clear ho h hl h4
      go_enter Try.func11, Try.ntmps11
      go_wp2_with (go_at_call 31; refine CALL.out.mono ?_; rintro e w1 ⟨rfl, rfl⟩; rw [AC.out])
      go_ret2
      exact ⟨none, 0, by rw [R.out.1, R.out.2]; rfl, by rw [R.out.1]; exact OwnI.nil_ _ _, Below.refl _ _⟩
  · have R := Lib.hid (bc_no (xs := xs) (fun h => h4 (by have := h.1; have := h.2.1; omega)))
    have d1 : (((xs.length : Nat) : Int) != 4) = true := by simp; omega
    clear h4 hl h
    go_enter Try.func11, Try.ntmps11
    go_wp2
    go_ret2
    exact ⟨none, 0, by rw [R.out.1, R.out.2]; rfl, by rw [R.out.1]; exact OwnI.nil_ _ _, Below.refl _ _⟩
end Go.Proofs.Ytgkhhfkijepenaa
