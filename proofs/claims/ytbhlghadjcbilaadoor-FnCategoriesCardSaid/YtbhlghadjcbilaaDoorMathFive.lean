/-
  Plain mathematics: the value of five cards as the reference reckons it, and that it is the value of the general rule. No program is in sight.
-/
import Derived.Test.YtbhlghadjcbilaaDoorMathHigh
namespace Go.Proofs.YtbhlghadjcbilaaDoor

/-! ### The reference's rule for five cards -/
def one5 (c : Nat → Nat) (t : Nat) : Bool := c t == 1 && c (t - 1) == 1 && c (t - 2) == 1 && c (t - 3) == 1 && c (t - 4) == 1
def oneLow (c : Nat → Nat) : Bool := c 0 == 1 && c 1 == 1 && c 2 == 1 && c 3 == 1 && c 12 == 1
/-- The highest rank of a straight; 3 with an ace below the two. -/
def stS (c : Nat → Nat) : Option Nat :=
  match [12, 11, 10, 9, 8, 7, 6, 5, 4].find? (one5 c) with
  | some t => some t
  | none => if oneLow c = true then some 3 else none
/-- The ranks, those that occur more often first, then the greater ones. -/
def ordS (c : Nat → Nat) : List Nat := [4, 3, 2, 1].flatMap fun n => ranks.flatMap fun r => if c r = n then List.replicate n r else []
def kickS (c : Nat → Nat) : List Nat := if stS c = some 3 then [3, 2, 1, 0, 12] else ordS c
def manyS (c : Nat → Nat) (n : Nat) : Nat := (ranks.filter fun r => c r == n).length
def catS (c : Nat → Nat) (flush : Bool) : Nat :=
  if (stS c).isSome = true ∧ flush = true then 8 else if manyS c 4 = 1 then 7 else if manyS c 3 = 1 ∧ manyS c 2 = 1 then 6 else if flush = true then 5
  else if (stS c).isSome = true then 4 else if manyS c 3 = 1 then 3 else if manyS c 2 = 2 then 2 else if manyS c 2 = 1 then 1 else 0
def valS (c : Nat → Nat) (flush : Bool) : Nat := 371293 * catS c flush + kvN 0 (kickS c)
def deuS (c : Nat → Nat) (flush : Bool) : Nat := if stS c = some 3 then 371293 * (if flush = true then 5 else 0) + kvN 0 [12, 3, 2, 1, 0] else valS c flush

/-! ### The two rules agree at five cards -/
def Fl (c : Nat → Nat) (n : Nat) : List Nat := ranks.filter fun r => c r == n
theorem mem_Fl {c : Nat → Nat} {n r : Nat} : r ∈ Fl c n ↔ r < 13 ∧ c r = n := by simp [Fl, mem_ranks]
theorem Fl_desc (c : Nat → Nat) (n : Nat) : (Fl c n).Pairwise (· > ·) := ranks_desc.sublist List.filter_sublist
theorem total_Fl (c : Nat → Nat) (hc : ∀ r, c r ≤ 4) : total c = 4 * (Fl c 4).length + 3 * (Fl c 3).length + 2 * (Fl c 2).length + (Fl c 1).length := by
  have H : ∀ l : List Nat, (l.map c).sum = 4 * (l.filter fun r => c r == 4).length + 3 * (l.filter fun r => c r == 3).length + 2 * (l.filter fun r => c r == 2).length + (l.filter fun r => c r == 1).length := by
    intro l
    induction l with
    | nil => rfl
    | cons r l ih =>
      have h := hc r
      have : c r = 0 ∨ c r = 1 ∨ c r = 2 ∨ c r = 3 ∨ c r = 4 := by omega
      rw [List.map_cons, List.sum_cons, ih]
      rcases this with e | e | e | e | e <;> simp [e] <;> omega
  exact H ranks
theorem flat_filter (c : Nat → Nat) (n : Nat) : ∀ l : List Nat, (l.flatMap fun r => if c r = n then List.replicate n r else []) = (l.filter fun r => c r == n).flatMap (List.replicate n)
  | [] => rfl
  | r :: l => by
    have ih := flat_filter c n l
    by_cases e : c r = n
    · simp [List.flatMap_cons, e, ih]
    · simp [List.flatMap_cons, e, ih]
theorem ordS_eq (c : Nat → Nat) : ordS c = (Fl c 4).flatMap (List.replicate 4) ++ ((Fl c 3).flatMap (List.replicate 3) ++ ((Fl c 2).flatMap (List.replicate 2) ++ (Fl c 1))) := by
  have e1 : (Fl c 1).flatMap (List.replicate 1) = Fl c 1 := by
    have : ∀ l : List Nat, l.flatMap (List.replicate 1) = l := fun l => by
      induction l with
      | nil => rfl
      | cons x l ih => rw [List.flatMap_cons, ih]; rfl
    exact this _
  unfold ordS
  simp only [List.flatMap_cons, List.flatMap_nil, List.append_nil, flat_filter]
  show (Fl c 4).flatMap (List.replicate 4) ++ ((Fl c 3).flatMap (List.replicate 3) ++ ((Fl c 2).flatMap (List.replicate 2) ++ (Fl c 1).flatMap (List.replicate 1))) = _
  rw [e1]
theorem eq_of_sub : ∀ {ks D : List Nat}, ks.Pairwise (· > ·) → D.Pairwise (· > ·) → (∀ k ∈ ks, k ∈ D) → D.length ≤ ks.length → D = ks
  | [], D, _, _, _, h => List.eq_nil_of_length_eq_zero (by simpa using h)
  | k :: ks, [], _, _, h, _ => absurd (h k (by simp)) (by simp)
  | k :: ks, d :: D, hk, hD, h, hl => by
    have hk0 := hk
    rw [List.pairwise_cons] at hk hD
    have hkd : k = d := by
      rcases List.mem_cons.1 (h k (by simp)) with e | e
      · exact e
      · exfalso
        have hlt := hD.1 k e
        have hsub : ∀ x ∈ k :: ks, x ∈ D := fun x hx => by
          rcases List.mem_cons.1 (h x hx) with e' | e'
          · rcases List.mem_cons.1 hx with e2 | e2
            · omega
            · have := hk.1 x e2; omega
          · exact e'
        have := (top_of hk0 hD.2 hsub).2
        simp at this hl
        omega
    subst hkd
    have : D = ks := eq_of_sub hk.2 hD.2 (fun x hx => by
      rcases List.mem_cons.1 (h x (by simp [hx])) with e | e
      · have := hk.1 x hx; omega
      · exact e) (by simpa using hl)
    rw [this]
theorem kv_cat {ds : List Nat} (hl : ds.length = 5) (c : Nat) : kvN c ds = 371293 * c + kvN 0 ds := by
  match ds, hl with
  | [a, b, d, e, f], _ => simp only [kvN, List.foldl]; omega
theorem one5_len {c : Nat → Nat} {t : Nat} (h4 : 4 ≤ t) (h12 : t ≤ 12) (h : one5 c t = true) : ∀ k ∈ [t, t - 1, t - 2, t - 3, t - 4], k ∈ Fl c 1 := by
  have : c t = 1 ∧ c (t - 1) = 1 ∧ c (t - 2) = 1 ∧ c (t - 3) = 1 ∧ c (t - 4) = 1 := by simpa [one5, and_assoc] using h
  obtain ⟨a, b, d, e, f⟩ := this
  intro k hk
  simp only [List.mem_cons, List.not_mem_nil, or_false] at hk
  rw [mem_Fl]
  refine ⟨by omega, ?_⟩
  rcases hk with rfl | rfl | rfl | rfl | rfl <;> assumption
theorem oneLow_len {c : Nat → Nat} (h : oneLow c = true) : ∀ k ∈ [12, 3, 2, 1, 0], k ∈ Fl c 1 := by
  have : c 0 = 1 ∧ c 1 = 1 ∧ c 2 = 1 ∧ c 3 = 1 ∧ c 12 = 1 := by simpa [oneLow, and_assoc] using h
  obtain ⟨a, b, d, e, f⟩ := this
  intro k hk
  simp only [List.mem_cons, List.not_mem_nil, or_false] at hk
  rw [mem_Fl]
  refine ⟨by omega, ?_⟩
  rcases hk with rfl | rfl | rfl | rfl | rfl <;> assumption
theorem st_desc {t : Nat} (h : 4 ≤ t) : [t, t - 1, t - 2, t - 3, t - 4].Pairwise (· > ·) := by
  simp only [List.pairwise_cons, List.mem_cons, List.not_mem_nil, or_false]
  exact ⟨fun a h => by omega, fun a h => by omega, fun a h => by omega, fun a h => by omega, fun a h => h.elim, List.Pairwise.nil⟩
theorem find_mem {Q : Nat → Bool} {l : List Nat} {t : Nat} (h : l.find? Q = some t) : t ∈ l ∧ Q t = true := ⟨List.mem_of_find?_eq_some h, List.find?_some h⟩
/-- Fewer than five ranks that occur once: no straight. -/
theorem stS_none {c : Nat → Nat} (h : (Fl c 1).length < 5) : stS c = none := by
  unfold stS
  cases hf : [12, 11, 10, 9, 8, 7, 6, 5, 4].find? (one5 c)
  · simp only
    cases hl : oneLow c
    · rfl
    · have := (top_of (by decide) (Fl_desc c 1) (oneLow_len hl)).2
      simp at this; omega
  · next t =>
    obtain ⟨h1, h2⟩ := find_mem hf
    have : 4 ≤ t ∧ t ≤ 12 := by simp only [List.mem_cons, List.not_mem_nil, or_false] at h1; omega
    have := (top_of (st_desc this.1) (Fl_desc c 1) (one5_len this.1 this.2 h2)).2
    simp at this; omega

theorem stO_few {c : Nat → Nat} (hc : ∀ r, c r ≤ 4) (h : (Fl c 1).length + (Fl c 2).length + (Fl c 3).length + (Fl c 4).length < 5) (k : Nat) (low : Bool) : stO (hasR c) k low = none := by
  have hd : (desc (hasR c)).length = (Fl c 1).length + (Fl c 2).length + (Fl c 3).length + (Fl c 4).length := by
    have H : ∀ l : List Nat, (l.filter (hasR c)).length = (l.filter fun r => c r == 1).length + (l.filter fun r => c r == 2).length + (l.filter fun r => c r == 3).length + (l.filter fun r => c r == 4).length := by
      intro l
      induction l with
      | nil => rfl
      | cons r l ih =>
        have h := hc r
        have : c r = 0 ∨ c r = 1 ∨ c r = 2 ∨ c r = 3 ∨ c r = 4 := by omega
        have hh : hasR c r = decide (1 ≤ c r) := rfl
        rcases this with e | e | e | e | e <;> rw [e] at hh <;> simp [hh, e] <;> omega
    exact H ranks
  unfold stO
  cases hs : stTop (hasR c)
  · simp only
    cases hl : lowAt (hasR c)
    · simp
    · have : hasR c 12 = true ∧ hasR c 3 = true ∧ hasR c 2 = true ∧ hasR c 1 = true ∧ hasR c 0 = true := by simpa [lowAt, and_assoc] using hl
      obtain ⟨a, b, d, f, g⟩ := this
      have := (desc_top (P := hasR c) (ks := [12, 3, 2, 1, 0]) (by decide) (fun k hk => by
        simp only [List.mem_cons, List.not_mem_nil, or_false] at hk
        refine ⟨by omega, ?_⟩
        rcases hk with rfl | rfl | rfl | rfl | rfl <;> assumption)).2
      simp at this; omega
  · next t =>
    obtain ⟨h1, h2, h3, _⟩ := stTop_some hs
    obtain ⟨a, b, d, f, g⟩ := stAt_has h3
    have := (desc_top (P := hasR c) (ks := [t, t - 1, t - 2, t - 3, t - 4]) (st_desc h1) (fun k hk => by
      simp only [List.mem_cons, List.not_mem_nil, or_false] at hk
      refine ⟨by omega, ?_⟩
      rcases hk with rfl | rfl | rfl | rfl | rfl <;> assumption)).2
    simp at this; omega

/-- What five cards are. -/
theorem five_shape {c : Nat → Nat} (hc : ∀ r, c r ≤ 4) (h5 : total c = 5) : ((Fl c 4).length = 1 ∧ (Fl c 3).length = 0 ∧ (Fl c 2).length = 0 ∧ (Fl c 1).length = 1) ∨ ((Fl c 4).length = 0 ∧ (Fl c 3).length = 1 ∧ (Fl c 2).length = 1 ∧ (Fl c 1).length = 0) ∨
    ((Fl c 4).length = 0 ∧ (Fl c 3).length = 1 ∧ (Fl c 2).length = 0 ∧ (Fl c 1).length = 2) ∨ ((Fl c 4).length = 0 ∧ (Fl c 3).length = 0 ∧ (Fl c 2).length = 2 ∧ (Fl c 1).length = 1) ∨
    ((Fl c 4).length = 0 ∧ (Fl c 3).length = 0 ∧ (Fl c 2).length = 1 ∧ (Fl c 1).length = 3) ∨ ((Fl c 4).length = 0 ∧ (Fl c 3).length = 0 ∧ (Fl c 2).length = 0 ∧ (Fl c 1).length = 5) := by
  have h := total_Fl c hc
  rw [h5] at h
  obtain ⟨a, ha⟩ : ∃ a, a = (Fl c 4).length := ⟨_, rfl⟩
  obtain ⟨b, hb⟩ : ∃ b, b = (Fl c 3).length := ⟨_, rfl⟩
  obtain ⟨d, hd⟩ : ∃ d, d = (Fl c 2).length := ⟨_, rfl⟩
  obtain ⟨e, he⟩ : ∃ e, e = (Fl c 1).length := ⟨_, rfl⟩
  rw [← ha, ← hb, ← hd, ← he] at h ⊢
  have h1 : a = 0 ∨ a = 1 := by omega
  have h2 : b = 0 ∨ b = 1 := by omega
  have h3 : d = 0 ∨ d = 1 ∨ d = 2 := by omega
  rcases h1 with rfl | rfl <;> rcases h2 with rfl | rfl <;> rcases h3 with rfl | rfl | rfl <;> omega
theorem one_of {l : List Nat} (h : l.length = 1) : ∃ a, l = [a] := by match l, h with | [a], _ => exact ⟨a, rfl⟩
theorem nil_of {c : Nat → Nat} {n : Nat} (h : (Fl c n).length = 0) : ∀ r, r < 13 → c r ≠ n := fun r hr e => by
  have : r ∈ Fl c n := mem_Fl.2 ⟨hr, e⟩
  rw [List.eq_nil_of_length_eq_zero h] at this
  cases this
theorem only_of {c : Nat → Nat} {n a : Nat} (h : Fl c n = [a]) : a < 13 ∧ c a = n ∧ ∀ r, r < 13 → c r = n → r = a := by
  have h1 : a ∈ Fl c n := by rw [h]; simp
  exact ⟨(mem_Fl.1 h1).1, (mem_Fl.1 h1).2, fun r hr e => by
    have : r ∈ Fl c n := mem_Fl.2 ⟨hr, e⟩
    rw [h] at this; simpa using this⟩
theorem desc_is {P : Nat → Bool} {c : Nat → Nat} {n : Nat} (h : ∀ r, r < 13 → P r = (c r == n)) : desc P = Fl c n := List.filter_congr fun r hr => h r (mem_ranks.1 hr)
theorem V_plain {c : Nat → Nat} {low : Bool} (hst : stO (hasR c) 4 low = none) : V c none low =
    (if 0 ≤ (scan c 13).1 then tk 7 [(scan c 13).1.toNat, (scan c 13).1.toNat, (scan c 13).1.toNat, (scan c 13).1.toNat] (but1 (hasR c) (scan c 13).1.toNat)
    else if 0 ≤ (scan c 13).2.1 ∧ 0 ≤ (scan c 13).2.2.1 then kvN 6 [(scan c 13).2.1.toNat, (scan c 13).2.1.toNat, (scan c 13).2.1.toNat, (scan c 13).2.2.1.toNat, (scan c 13).2.2.1.toNat]
    else if 0 ≤ (scan c 13).2.1 then tk 3 [(scan c 13).2.1.toNat, (scan c 13).2.1.toNat, (scan c 13).2.1.toNat] (but1 (hasR c) (scan c 13).2.1.toNat)
    else if 0 ≤ (scan c 13).2.2.2 then tk 2 [(scan c 13).2.2.1.toNat, (scan c 13).2.2.1.toNat, (scan c 13).2.2.2.toNat, (scan c 13).2.2.2.toNat] (but2 (hasR c) (scan c 13).2.2.1.toNat (scan c 13).2.2.2.toNat)
    else if 0 ≤ (scan c 13).2.2.1 then tk 1 [(scan c 13).2.2.1.toNat, (scan c 13).2.2.1.toNat] (but1 (hasR c) (scan c 13).2.2.1.toNat)
    else tk 0 [] (hasR c)) := by
  unfold V Vd
  simp only [Option.bind_none, hst]
/-- Five cards of no straight and no flush. -/
theorem five_pairs {c : Nat → Nat} (hc : ∀ r, c r ≤ 4) (h5 : total c = 5) (h1 : (Fl c 1).length < 5) (low : Bool) :
    V c none low = valS c false ∧ stS c = none ∧ (kickS c).length = 5 ∧ ∀ d ∈ kickS c, d < 13 := by
  have hs := stS_none h1
  have I := scan_inv c hc 13 (Nat.le_refl _)
  have shape := five_shape hc h5
  have hst := stO_few hc (by omega) 4 low
  rw [V_plain hst]
  have hk : kickS c = ordS c := by unfold kickS; rw [hs]; simp
  obtain ⟨q, hq⟩ : ∃ q, q = scan c 13 := ⟨_, rfl⟩
  rw [← hq] at I ⊢
  obtain ⟨f, t, w, s⟩ := q
  obtain ⟨f1, f2, t1, t2, w1, w2, s1, s2⟩ := I
  simp only at f1 f2 t1 t2 w1 w2 s1 s2 ⊢
  clear hq
  have hcat : ∀ k : Nat, catS c false = k → (ordS c).length = 5 → kvN k (ordS c) = valS c false := fun k hk' hl => by
    unfold valS; rw [hk, hk', kv_cat hl]
  have hlt : ∀ d ∈ ordS c, d < 13 := fun d hd => by
    unfold ordS at hd
    simp only [List.mem_flatMap] at hd
    obtain ⟨n, _, r, hr, hd⟩ := hd
    split at hd
    · have := List.eq_of_mem_replicate hd
      have := mem_ranks.1 hr
      omega
    · cases hd
  rw [hk]
  have hv : ∀ r, c r = 0 ∨ c r = 1 ∨ c r = 2 ∨ c r = 3 ∨ c r = 4 := fun r => by have := hc r; omega
  have four : ∀ k : Nat, catS c false = k → (ordS c).length = 5 → ∀ u : Nat, u = kvN k (ordS c) → u = valS c false ∧ stS c = none ∧ (ordS c).length = 5 ∧ ∀ d ∈ ordS c, d < 13 :=
    fun k a b u hu => ⟨hu.trans (hcat k a b), hs, b, hlt⟩
  rcases shape with ⟨l4, l3, l2, l1⟩ | ⟨l4, l3, l2, l1⟩ | ⟨l4, l3, l2, l1⟩ | ⟨l4, l3, l2, l1⟩ | ⟨l4, l3, l2, l1⟩ | ⟨l4, l3, l2, l1⟩
  · obtain ⟨a, ha⟩ := one_of l4
    obtain ⟨k, hk1⟩ := one_of l1
    obtain ⟨a1, a2, a3⟩ := only_of ha
    have n3 := nil_of l3; have n2 := nil_of l2
    have ho : ordS c = [a, a, a, a, k] := by rw [ordS_eq, ha, hk1, List.eq_nil_of_length_eq_zero l3, List.eq_nil_of_length_eq_zero l2]; rfl
    have hf : f = (a : Int) := by
      have e1 := f2 a (by omega) (by omega) a2
      have e2 := a3 f.toNat (by omega) (by omega)
      omega
    have hd : desc (but1 (hasR c) a) = Fl c 1 := desc_is fun r hr => by
      have := hv r; have := n3 r hr; have := n2 r hr; have := a3 r hr
      by_cases e : r = a
      · subst e; simp [but1, a2]
      · have : c r = 0 ∨ c r = 1 := by omega
        rcases this with h | h <;> simp [but1, hasR, e, h]
    refine four 7 (by unfold catS; simp [hs, manyS, ← Fl.eq_1, l4]) (by rw [ho]; rfl) _ ?_
    subst hf
    rw [if_pos (by omega)]
    simp only [Int.toNat_natCast]
    unfold tk
    rw [hd, hk1, ho]; rfl
  · obtain ⟨a, ha⟩ := one_of l3
    obtain ⟨b, hb⟩ := one_of l2
    obtain ⟨a1, a2, a3⟩ := only_of ha
    obtain ⟨b1, b2, b3⟩ := only_of hb
    have n4 := nil_of l4; have n1 := nil_of l1
    have ho : ordS c = [a, a, a, b, b] := by rw [ordS_eq, ha, hb, List.eq_nil_of_length_eq_zero l4, List.eq_nil_of_length_eq_zero l1]; rfl
    have hf : f = -1 := by have := n4 f.toNat; omega
    have ht : t = (a : Int) := by
      have e1 := t2 a (by omega) (by omega) (by omega)
      have e2 := a3 t.toNat (by omega)
      have e3 := hc t.toNat
      have e4 := n4 t.toNat
      omega
    have hw : w = (b : Int) := by
      have e1 := w2 b (by omega) (by omega) (by omega)
      have hne : b ≠ a := fun e => by subst e; omega
      have e2 := b3 w.toNat (by omega)
      have e3 := hc w.toNat
      have e4 := n4 w.toNat
      have e5 := a3 w.toNat
      omega
    refine four 6 (by unfold catS; simp [hs, manyS, ← Fl.eq_1, l4, l3, l2]) (by rw [ho]; rfl) _ ?_
    subst hf ht hw
    rw [if_neg (by omega), if_pos (by omega)]
    simp only [Int.toNat_natCast]
    rw [ho]
  · obtain ⟨a, ha⟩ := one_of l3
    obtain ⟨a1, a2, a3⟩ := only_of ha
    have n4 := nil_of l4; have n2 := nil_of l2
    have ho : ordS c = [a, a, a] ++ Fl c 1 := by rw [ordS_eq, ha, List.eq_nil_of_length_eq_zero l4, List.eq_nil_of_length_eq_zero l2]; rfl
    have hf : f = -1 := by have := n4 f.toNat; omega
    have ht : t = (a : Int) := by
      have e1 := t2 a (by omega) (by omega) (by omega)
      have e2 := a3 t.toNat (by omega)
      have e3 := hc t.toNat
      have e4 := n4 t.toNat
      omega
    have hw : w = -1 := by
      have e2 := n2 w.toNat
      have e3 := hc w.toNat
      have e4 := n4 w.toNat
      have e5 := a3 w.toNat
      omega
    have hd : desc (but1 (hasR c) a) = Fl c 1 := desc_is fun r hr => by
      have := hv r; have := n4 r hr; have := n2 r hr; have := a3 r hr
      by_cases e : r = a
      · subst e; simp [but1, a2]
      · have : c r = 0 ∨ c r = 1 := by omega
        rcases this with h | h <;> simp [but1, hasR, e, h]
    refine four 3 (by unfold catS; simp [hs, manyS, ← Fl.eq_1, l4, l3, l2]) (by rw [ho]; simp [l1]) _ ?_
    subst hf ht hw
    rw [if_neg (by omega), if_neg (by omega), if_pos (by omega)]
    simp only [Int.toNat_natCast]
    unfold tk
    rw [hd, ho, List.take_of_length_le (by simp [l1])]
  · obtain ⟨a, b, hab⟩ : ∃ a b, Fl c 2 = [a, b] := by
      match h : Fl c 2, l2 with
      | [a, b], _ => exact ⟨a, b, rfl⟩
    have hp := Fl_desc c 2
    rw [hab] at hp
    have hlt2 : b < a := by simpa using hp
    have ma : a < 13 ∧ c a = 2 := mem_Fl.1 (by rw [hab]; simp)
    have mb : b < 13 ∧ c b = 2 := mem_Fl.1 (by rw [hab]; simp)
    have m2 : ∀ r, r < 13 → c r = 2 → r = a ∨ r = b := fun r hr e => by
      have : r ∈ Fl c 2 := mem_Fl.2 ⟨hr, e⟩
      rw [hab] at this; simpa using this
    have n4 := nil_of l4; have n3 := nil_of l3
    have ho : ordS c = [a, a, b, b] ++ Fl c 1 := by rw [ordS_eq, hab, List.eq_nil_of_length_eq_zero l4, List.eq_nil_of_length_eq_zero l3]; rfl
    have hf : f = -1 := by have := n4 f.toNat; omega
    have ht : t = -1 := by have := n3 t.toNat; have := n4 t.toNat; have := hc t.toNat; omega
    have hw : w = (a : Int) := by
      have e1 := w2 a (by omega) (by omega) (by omega)
      have e2 := m2 w.toNat (by omega)
      have e3 := hc w.toNat
      have e4 := n4 w.toNat
      have e5 := n3 w.toNat
      omega
    have hs' : s = (b : Int) := by
      have e1 := s2 b (by omega) (by omega) (by omega)
      have e2 := m2 s.toNat (by omega)
      have e3 := hc s.toNat
      have e4 := n4 s.toNat
      have e5 := n3 s.toNat
      omega
    have hd : desc (but2 (hasR c) a b) = Fl c 1 := desc_is fun r hr => by
      have := hv r; have := n4 r hr; have := n3 r hr; have := m2 r hr
      by_cases e : r = a
      · subst e; simp [but2, ma.2]
      · by_cases e' : r = b
        · subst e'; simp [but2, mb.2]
        · have : c r = 0 ∨ c r = 1 := by omega
          rcases this with h | h <;> simp [but2, hasR, e, e', h]
    refine four 2 (by unfold catS; simp [hs, manyS, ← Fl.eq_1, l4, l3, l2]) (by rw [ho]; simp [l1]) _ ?_
    subst hf ht hw hs'
    rw [if_neg (by omega), if_neg (by omega), if_neg (by omega), if_pos (by omega)]
    simp only [Int.toNat_natCast]
    unfold tk
    rw [hd, ho, List.take_of_length_le (by simp [l1])]
  · obtain ⟨a, ha⟩ := one_of l2
    obtain ⟨a1, a2, a3⟩ := only_of ha
    have n4 := nil_of l4; have n3 := nil_of l3
    have ho : ordS c = [a, a] ++ Fl c 1 := by rw [ordS_eq, ha, List.eq_nil_of_length_eq_zero l4, List.eq_nil_of_length_eq_zero l3]; rfl
    have hf : f = -1 := by have := n4 f.toNat; omega
    have ht : t = -1 := by have := n3 t.toNat; have := n4 t.toNat; have := hc t.toNat; omega
    have hw : w = (a : Int) := by
      have e1 := w2 a (by omega) (by omega) (by omega)
      have e2 := a3 w.toNat (by omega)
      have e3 := hc w.toNat
      have e4 := n4 w.toNat
      have e5 := n3 w.toNat
      omega
    have hs' : s = -1 := by
      have e2 := a3 s.toNat
      have e3 := hc s.toNat
      have e4 := n4 s.toNat
      have e5 := n3 s.toNat
      omega
    have hd : desc (but1 (hasR c) a) = Fl c 1 := desc_is fun r hr => by
      have := hv r; have := n4 r hr; have := n3 r hr; have := a3 r hr
      by_cases e : r = a
      · subst e; simp [but1, a2]
      · have : c r = 0 ∨ c r = 1 := by omega
        rcases this with h | h <;> simp [but1, hasR, e, h]
    refine four 1 (by unfold catS; simp [hs, manyS, ← Fl.eq_1, l4, l3, l2]) (by rw [ho]; simp [l1]) _ ?_
    subst hf ht hw hs'
    rw [if_neg (by omega), if_neg (by omega), if_neg (by omega), if_neg (by omega), if_pos (by omega)]
    simp only [Int.toNat_natCast]
    unfold tk
    rw [hd, ho, List.take_of_length_le (by simp [l1])]
  · omega

/-- Five cards of different ranks. -/
theorem five_ones {c : Nat → Nat} (hc : ∀ r, c r ≤ 4) (h13 : ∀ r, 13 ≤ r → c r = 0) (h5 : total c = 5) (h1 : (Fl c 1).length = 5) :
    (V c none true = valS c false ∧ V c none false = deuS c false) ∧ (V c (some (hasR c)) true = valS c true ∧ V c (some (hasR c)) false = deuS c true) ∧ (kickS c).length = 5 ∧ ∀ d ∈ kickS c, d < 13 := by
  have ht := total_Fl c hc
  have l4 : (Fl c 4).length = 0 := by omega
  have l3 : (Fl c 3).length = 0 := by omega
  have l2 : (Fl c 2).length = 0 := by omega
  have n4 := nil_of l4; have n3 := nil_of l3; have n2 := nil_of l2
  have hv : ∀ r, c r = 0 ∨ c r = 1 := fun r => by
    have := hc r
    rcases Nat.lt_or_ge r 13 with h | h
    · have := n4 r h; have := n3 r h; have := n2 r h; omega
    · exact .inl (h13 r h)
  have hP : hasR c = fun r => c r == 1 := by
    funext r
    rcases hv r with h | h <;> simp [hasR, h]
  have I := scan_inv c hc 13 (Nat.le_refl _)
  have hq : scan c 13 = (-1, -1, -1, -1) := by
    obtain ⟨q, hq⟩ : ∃ q, q = scan c 13 := ⟨_, rfl⟩
    rw [← hq] at I ⊢
    obtain ⟨f, t, w, s⟩ := q
    obtain ⟨f1, f2, t1, t2, w1, w2, s1, s2⟩ := I
    simp only at f1 f2 t1 t2 w1 w2 s1 s2
    have a1 := hv f.toNat; have a2 := hv t.toNat; have a3 := hv w.toNat; have a4 := hv s.toNat
    have e1 : f = -1 := by omega
    have e2 : t = -1 := by omega
    have e3 : w = -1 := by omega
    have e4 : s = -1 := by omega
    rw [e1, e2, e3, e4]
  have hd : desc (hasR c) = Fl c 1 := by rw [hP]; rfl
  have ho : ordS c = Fl c 1 := by rw [ordS_eq, List.eq_nil_of_length_eq_zero l4, List.eq_nil_of_length_eq_zero l3, List.eq_nil_of_length_eq_zero l2]; rfl
  have hst : ∀ t, stAt (hasR c) t = one5 c t := fun t => by rw [hP]; rfl
  have hlo : lowAt (hasR c) = oneLow c := by
    rw [hP]; unfold lowAt oneLow
    show (c 12 == 1 && c 3 == 1 && c 2 == 1 && c 1 == 1 && c 0 == 1) = _
    cases c 0 == 1 <;> cases c 1 == 1 <;> cases c 2 == 1 <;> cases c 3 == 1 <;> cases c 12 == 1 <;> rfl
  have htop : stTop (hasR c) = [12, 11, 10, 9, 8, 7, 6, 5, 4].find? (one5 c) := by unfold stTop; rw [show stAt (hasR c) = one5 c from funext hst]
  have hlt : ∀ d ∈ Fl c 1, d < 13 := fun d hd => (mem_Fl.1 hd).1
  have tk0 : ∀ k, tk k [] (hasR c) = kvN k (Fl c 1) := fun k => by
    unfold tk; rw [hd, List.take_of_length_le (by simp [h1])]; rfl
  have m4 : manyS c 4 = 0 := l4
  have m3 : manyS c 3 = 0 := l3
  have m2 : manyS c 2 = 0 := l2
  have V0 : ∀ low, V c none low = (stO (hasR c) 4 low).getD (kvN 0 (Fl c 1)) := fun low => by
    unfold V Vd
    rw [hq, tk0]
    cases hh : stO (hasR c) 4 low <;> simp
  have V1 : ∀ low, V c (some (hasR c)) low = (stO (hasR c) 8 low).getD (kvN 5 (Fl c 1)) := fun low => by
    unfold V Vd
    rw [hq]
    cases hh : stO (hasR c) 8 low <;> simp [hh, tk0]
  cases hf : [12, 11, 10, 9, 8, 7, 6, 5, 4].find? (one5 c)
  case some t =>
    obtain ⟨a1, a2⟩ := find_mem hf
    have a3 : 4 ≤ t ∧ t ≤ 12 := by simp only [List.mem_cons, List.not_mem_nil, or_false] at a1; omega
    have hS : stS c = some t := by unfold stS; rw [hf]
    have hne : ¬ stS c = some 3 := by rw [hS]; intro e; have := Option.some.inj e; omega
    have hF : Fl c 1 = [t, t - 1, t - 2, t - 3, t - 4] := eq_of_sub (st_desc a3.1) (Fl_desc c 1) (one5_len a3.1 a3.2 a2) (by rw [h1]; simp)
    have hk : kickS c = Fl c 1 := by unfold kickS; rw [if_neg hne, ho]
    have hO : ∀ k low, stO (hasR c) k low = some (kvN k (Fl c 1)) := fun k low => by unfold stO; rw [htop, hf, hF]
    have c0 : catS c false = 4 := by unfold catS; simp [hS, m4, m3]
    have c1 : catS c true = 8 := by unfold catS; simp [hS]
    refine ⟨⟨?_, ?_⟩, ⟨?_, ?_⟩, by rw [hk]; exact h1, by rw [hk]; exact hlt⟩
    · rw [V0, hO]; unfold valS; rw [c0, hk]; exact kv_cat h1 4
    · rw [V0, hO]; unfold deuS valS; rw [if_neg hne, c0, hk]; exact kv_cat h1 4
    · rw [V1, hO]; unfold valS; rw [c1, hk]; exact kv_cat h1 8
    · rw [V1, hO]; unfold deuS valS; rw [if_neg hne, c1, hk]; exact kv_cat h1 8
  case none =>
    cases hl : oneLow c
    · have hS : stS c = none := by unfold stS; rw [hf]; simp [hl]
      have hne : ¬ stS c = some 3 := by rw [hS]; simp
      have hk : kickS c = Fl c 1 := by unfold kickS; rw [if_neg hne, ho]
      have hO : ∀ k low, stO (hasR c) k low = none := fun k low => by unfold stO; rw [htop, hf, hlo, hl]; simp
      have c0 : catS c false = 0 := by unfold catS; simp [hS, m4, m3, m2]
      have c1 : catS c true = 5 := by unfold catS; simp [hS, m4, m3]
      refine ⟨⟨?_, ?_⟩, ⟨?_, ?_⟩, by rw [hk]; exact h1, by rw [hk]; exact hlt⟩
      · rw [V0, hO]; unfold valS; rw [c0, hk]; exact kv_cat h1 0
      · rw [V0, hO]; unfold deuS valS; rw [if_neg hne, c0, hk]; exact kv_cat h1 0
      · rw [V1, hO]; unfold valS; rw [c1, hk]; exact kv_cat h1 5
      · rw [V1, hO]; unfold deuS valS; rw [if_neg hne, c1, hk]; exact kv_cat h1 5
    · have hS : stS c = some 3 := by unfold stS; rw [hf]; simp [hl]
      have hk : kickS c = [3, 2, 1, 0, 12] := by unfold kickS; rw [if_pos hS]
      have hF : Fl c 1 = [12, 3, 2, 1, 0] := eq_of_sub (by decide) (Fl_desc c 1) (oneLow_len hl) (by rw [h1]; simp)
      have hO1 : ∀ k, stO (hasR c) k true = some (kvN k [3, 2, 1, 0, 12]) := fun k => by unfold stO; rw [htop, hf, hlo, hl]; simp
      have hO0 : ∀ k, stO (hasR c) k false = none := fun k => by unfold stO; rw [htop, hf, hlo, hl]; simp
      have c0 : catS c false = 4 := by unfold catS; simp [hS, m4, m3]
      have c1 : catS c true = 8 := by unfold catS; simp [hS]
      refine ⟨⟨?_, ?_⟩, ⟨?_, ?_⟩, by rw [hk]; rfl, by rw [hk]; decide⟩
      · rw [V0, hO1]; unfold valS; rw [c0, hk]; exact kv_cat rfl 4
      · rw [V0, hO0]; unfold deuS; rw [if_pos hS, hF]; exact kv_cat rfl 0
      · rw [V1, hO1]; unfold valS; rw [c1, hk]; exact kv_cat rfl 8
      · rw [V1, hO0]; unfold deuS; rw [if_pos hS, hF]; exact kv_cat rfl 5
end Go.Proofs.YtbhlghadjcbilaaDoor
