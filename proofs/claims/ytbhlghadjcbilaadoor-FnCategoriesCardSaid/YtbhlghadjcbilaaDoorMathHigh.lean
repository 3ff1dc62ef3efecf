/-
  Plain mathematics: the value of cards out of how often each rank occurs; the greatest value that five of them can have. No program is in sight.
-/
namespace Go.Proofs.YtbhlghadjcbilaaDoor

/-! ### Digits -/
def kvN (c : Nat) (ks : List Nat) : Nat := ks.foldl (fun a k => a * 13 + k) c
theorem kvN_nil (c : Nat) : kvN c [] = c := rfl
theorem kvN_cons (c k : Nat) (ks : List Nat) : kvN c (k :: ks) = kvN (c * 13 + k) ks := rfl
theorem kvN_append (c : Nat) (as bs : List Nat) : kvN c (as ++ bs) = kvN (kvN c as) bs := List.foldl_append
/-- The first list is at most the second one, element by element. -/
def leL : List Nat → List Nat → Prop
  | [], _ => True
  | _ :: _, [] => False
  | a :: as, b :: bs => a < b ∨ (a = b ∧ leL as bs)
theorem leL_refl : ∀ l : List Nat, leL l l
  | [] => trivial
  | _ :: l => .inr ⟨rfl, leL_refl l⟩
theorem leL_pre (p : List Nat) {as bs : List Nat} (h : leL as bs) : leL (p ++ as) (p ++ bs) := by
  induction p with
  | nil => exact h
  | cons a p ih => exact .inr ⟨rfl, ih⟩
theorem kv_lt {ds es : List Nat} (hl : ds.length = es.length) (hd : ∀ d ∈ ds, d < 13) : ∀ {c c' : Nat}, c < c' → kvN c ds < kvN c' es := by
  induction ds generalizing es with
  | nil =>
    intro c c' h
    have : es = [] := List.eq_nil_of_length_eq_zero hl.symm
    subst this; exact h
  | cons d ds ih =>
    intro c c' h
    cases es with
    | nil => simp at hl
    | cons e es =>
      rw [kvN_cons, kvN_cons]
      have := hd d (by simp)
      exact ih (by simpa using hl) (fun x hx => hd x (by simp [hx])) (by omega)
theorem kv_le {ds es : List Nat} (hl : ds.length = es.length) (hd : ∀ d ∈ ds, d < 13) (h : leL ds es) : ∀ c : Nat, kvN c ds ≤ kvN c es := by
  induction ds generalizing es with
  | nil =>
    intro c
    have : es = [] := List.eq_nil_of_length_eq_zero hl.symm
    subst this; exact Nat.le_refl _
  | cons d ds ih =>
    intro c
    cases es with
    | nil => simp at hl
    | cons e es =>
      rw [kvN_cons, kvN_cons]
      have hl' : ds.length = es.length := by simpa using hl
      have hd' : ∀ x ∈ ds, x < 13 := fun x hx => hd x (by simp [hx])
      rcases h with h | ⟨h, h'⟩
      · exact Nat.le_of_lt (kv_lt hl' hd' (by omega))
      · subst h; exact ih hl' hd' h' _
theorem kv_range {ds : List Nat} (hl : ds.length = 5) (hd : ∀ d ∈ ds, d < 13) (c : Nat) : 371293 * c ≤ kvN c ds ∧ kvN c ds < 371293 * (c + 1) := by
  match ds, hl with
  | [a, b, d, e, f], _ =>
    have h1 := hd a (by simp); have h2 := hd b (by simp); have h3 := hd d (by simp); have h4 := hd e (by simp); have h5 := hd f (by simp)
    simp only [kvN, List.foldl]
    omega

/-! ### The ranks that a set holds, from above -/
def ranks : List Nat := [12, 11, 10, 9, 8, 7, 6, 5, 4, 3, 2, 1, 0]
theorem mem_ranks {r : Nat} : r ∈ ranks ↔ r < 13 := by simp only [ranks, List.mem_cons, List.not_mem_nil, or_false]; omega
theorem ranks_desc : ranks.Pairwise (· > ·) := by decide
def desc (P : Nat → Bool) : List Nat := ranks.filter P
theorem mem_desc {P : Nat → Bool} {r : Nat} : r ∈ desc P ↔ r < 13 ∧ P r = true := by simp [desc, mem_ranks]
theorem desc_desc (P : Nat → Bool) : (desc P).Pairwise (· > ·) := ranks_desc.sublist List.filter_sublist
theorem top_of : ∀ {ks D : List Nat}, ks.Pairwise (· > ·) → D.Pairwise (· > ·) → (∀ k ∈ ks, k ∈ D) → leL ks (D.take ks.length) ∧ ks.length ≤ D.length
  | [], _, _, _, _ => ⟨trivial, Nat.zero_le _⟩
  | k :: ks, [], _, _, h => absurd (h k (by simp)) (by simp)
  | k :: ks, d :: D, hk, hD, h => by
    rw [List.pairwise_cons] at hk hD
    have hkd : k ≤ d := by
      rcases List.mem_cons.1 (h k (by simp)) with e | e
      · omega
      · have := hD.1 k e; omega
    have hsub : ∀ x ∈ ks, x ∈ D := fun x hx => by
      have h1 := hk.1 x hx
      rcases List.mem_cons.1 (h x (by simp [hx])) with e | e
      · omega
      · exact e
    have ih := top_of hk.2 hD.2 hsub
    refine ⟨?_, by simpa using ih.2⟩
    show k < d ∨ (k = d ∧ leL ks (D.take ks.length))
    rcases Nat.lt_or_ge k d with e | e
    · exact .inl e
    · exact .inr ⟨by omega, ih.1⟩
theorem desc_top {P : Nat → Bool} {ks : List Nat} (hk : ks.Pairwise (· > ·)) (hP : ∀ k ∈ ks, k < 13 ∧ P k = true) : leL ks ((desc P).take ks.length) ∧ ks.length ≤ (desc P).length :=
  top_of hk (desc_desc P) fun k h => mem_desc.2 (hP k h)

/-! ### The value -/
/-- A category, some kickers and the greatest ranks of a set behind them. -/
def tk (cat : Nat) (pre : List Nat) (P : Nat → Bool) : Nat := kvN cat (pre ++ (desc P).take (5 - pre.length))
def stAt (P : Nat → Bool) (t : Nat) : Bool := P t && P (t - 1) && P (t - 2) && P (t - 3) && P (t - 4)
def stTop (P : Nat → Bool) : Option Nat := [12, 11, 10, 9, 8, 7, 6, 5, 4].find? (stAt P)
def lowAt (P : Nat → Bool) : Bool := P 12 && P 3 && P 2 && P 1 && P 0
/-- The value of the best straight of a set. -/
def stO (P : Nat → Bool) (cat : Nat) (low : Bool) : Option Nat :=
  match stTop P with
  | some t => some (kvN cat [t, t - 1, t - 2, t - 3, t - 4])
  | none => if (low && lowAt P) = true then some (kvN cat [3, 2, 1, 0, 12]) else none
/-- Ranks that occur often, from above: four times, three times, twice, twice again; -1 if there is none. -/
def scan (c : Nat → Nat) : Nat → Int × Int × Int × Int
  | 0 => (-1, -1, -1, -1)
  | m + 1 =>
    let q := scan c m
    let r := 12 - m
    if c r = 4 ∧ q.1 < 0 then ((r : Int), q.2.1, q.2.2.1, q.2.2.2)
    else if 3 ≤ c r ∧ q.2.1 < 0 then (q.1, (r : Int), q.2.2.1, q.2.2.2)
    else if 2 ≤ c r ∧ q.2.2.1 < 0 then (q.1, q.2.1, (r : Int), q.2.2.2)
    else if 2 ≤ c r ∧ q.2.2.2 < 0 then (q.1, q.2.1, q.2.2.1, (r : Int))
    else q
def hasR (c : Nat → Nat) (r : Nat) : Bool := decide (1 ≤ c r)
def but1 (P : Nat → Bool) (a : Nat) (r : Nat) : Bool := P r && r != a
def but2 (P : Nat → Bool) (a b : Nat) (r : Nat) : Bool := P r && r != a && r != b
def Vd (c : Nat → Nat) (fl : Option (Nat → Bool)) (low : Bool) (q : Int × Int × Int × Int) : Nat :=
  match fl.bind (fun p => stO p 8 low) with
  | some v => v
  | none =>
    if 0 ≤ q.1 then tk 7 [q.1.toNat, q.1.toNat, q.1.toNat, q.1.toNat] (but1 (hasR c) q.1.toNat)
    else if 0 ≤ q.2.1 ∧ 0 ≤ q.2.2.1 then kvN 6 [q.2.1.toNat, q.2.1.toNat, q.2.1.toNat, q.2.2.1.toNat, q.2.2.1.toNat]
    else match fl with
    | some p => tk 5 [] p
    | none =>
      match stO (hasR c) 4 low with
      | some v => v
      | none =>
        if 0 ≤ q.2.1 then tk 3 [q.2.1.toNat, q.2.1.toNat, q.2.1.toNat] (but1 (hasR c) q.2.1.toNat)
        else if 0 ≤ q.2.2.2 then tk 2 [q.2.2.1.toNat, q.2.2.1.toNat, q.2.2.2.toNat, q.2.2.2.toNat] (but2 (hasR c) q.2.2.1.toNat q.2.2.2.toNat)
        else if 0 ≤ q.2.2.1 then tk 1 [q.2.2.1.toNat, q.2.2.1.toNat] (but1 (hasR c) q.2.2.1.toNat)
        else tk 0 [] (hasR c)
/-- The value of cards: c tells how often each rank occurs, fl the ranks of a suit with at least five cards, low whether an ace can be below a two. -/
def V (c : Nat → Nat) (fl : Option (Nat → Bool)) (low : Bool) : Nat := Vd c fl low (scan c 13)

/-- What a scan of the ranks from 12 down to 13 - m has found. -/
structure Scan (c : Nat → Nat) (m : Nat) (f t w s : Int) : Prop where
  f1 : f = -1 ∨ (13 ≤ f + m ∧ f ≤ 12 ∧ c f.toNat = 4)
  f2 : ∀ r : Nat, 13 ≤ r + m → r ≤ 12 → c r = 4 → (r : Int) ≤ f
  t1 : t = -1 ∨ (13 ≤ t + m ∧ t ≤ 12 ∧ 3 ≤ c t.toNat ∧ t ≠ f)
  t2 : ∀ r : Nat, 13 ≤ r + m → r ≤ 12 → 3 ≤ c r → (r : Int) = f ∨ (r : Int) ≤ t
  w1 : w = -1 ∨ (13 ≤ w + m ∧ w ≤ 12 ∧ 2 ≤ c w.toNat ∧ w ≠ f ∧ w ≠ t)
  w2 : ∀ r : Nat, 13 ≤ r + m → r ≤ 12 → 2 ≤ c r → (r : Int) = f ∨ (r : Int) = t ∨ (r : Int) ≤ w
  s1 : s = -1 ∨ (13 ≤ s + m ∧ s ≤ 12 ∧ 2 ≤ c s.toNat ∧ s ≠ f ∧ s ≠ t ∧ s ≠ w ∧ 0 ≤ w ∧ s < w)
  s2 : ∀ r : Nat, 13 ≤ r + m → r ≤ 12 → 2 ≤ c r → (r : Int) = f ∨ (r : Int) = t ∨ (r : Int) = w ∨ (r : Int) ≤ s

set_option maxHeartbeats 1000000 in
theorem scan_inv (c : Nat → Nat) (hc : ∀ r, c r ≤ 4) (m : Nat) (hm : m ≤ 13) : Scan c m (scan c m).1 (scan c m).2.1 (scan c m).2.2.1 (scan c m).2.2.2 := by
  induction m with
  | zero => exact ⟨.inl rfl, fun r _ _ => by omega, .inl rfl, fun r _ _ => by omega, .inl rfl, fun r _ _ => by omega, .inl rfl, fun r _ _ => by omega⟩
  | succ m ih =>
    have I := ih (by omega)
    obtain ⟨q, hq⟩ : ∃ q, q = scan c m := ⟨_, rfl⟩
    rw [← hq] at I
    obtain ⟨f, t, w, s⟩ := q
    obtain ⟨f1, f2, t1, t2, w1, w2, s1, s2⟩ := I
    simp only at f1 f2 t1 t2 w1 w2 s1 s2
    obtain ⟨r, hr⟩ : ∃ r : Nat, r = 12 - m := ⟨_, rfl⟩
    have hr12 : r + m = 12 := by omega
    have hcr := hc r
    have key : ∀ x : Nat, 13 ≤ x + (m + 1) → x ≤ 12 → x = r ∨ 13 ≤ x + m := fun x _ _ => by omega
    have e : scan c (m + 1) = if c r = 4 ∧ f < 0 then ((r : Int), t, w, s) else if 3 ≤ c r ∧ t < 0 then (f, (r : Int), w, s) else if 2 ≤ c r ∧ w < 0 then (f, t, (r : Int), s) else if 2 ≤ c r ∧ s < 0 then (f, t, w, (r : Int)) else (f, t, w, s) := by
      rw [scan, ← hq, hr]
    rw [e]
    have nr : ((r : Int)).toNat = r := by omega
    by_cases c1 : c r = 4 ∧ f < 0
    · rw [if_pos c1]
      have h := c1
      show Scan c (m + 1) (r : Int) t w s
      refine ⟨.inr ⟨by omega, by omega, by rw [nr]; exact h.1⟩, fun x h1 h2 h3 => ?_, ?_, fun x h1 h2 h3 => ?_, ?_, fun x h1 h2 h3 => ?_, ?_, fun x h1 h2 h3 => ?_⟩ <;> (try (have k := key x h1 h2)) <;> (try (have := f2 x; have := t2 x; have := w2 x; have := s2 x)) <;> (try (rcases k with rfl | k)) <;> omega
    rw [if_neg c1]
    by_cases c2 : 3 ≤ c r ∧ t < 0
    · rw [if_pos c2]
      have h := c2
      show Scan c (m + 1) f (r : Int) w s
      refine ⟨?_, fun x h1 h2 h3 => ?_, .inr ⟨by omega, by omega, by rw [nr]; exact h.1, by omega⟩, fun x h1 h2 h3 => ?_, ?_, fun x h1 h2 h3 => ?_, ?_, fun x h1 h2 h3 => ?_⟩ <;> (try (have k := key x h1 h2)) <;> (try (have := f2 x; have := t2 x; have := w2 x; have := s2 x)) <;> (try (rcases k with rfl | k)) <;> omega
    rw [if_neg c2]
    by_cases c3 : 2 ≤ c r ∧ w < 0
    · rw [if_pos c3]
      have h := c3
      show Scan c (m + 1) f t (r : Int) s
      refine ⟨?_, fun x h1 h2 h3 => ?_, ?_, fun x h1 h2 h3 => ?_, .inr ⟨by omega, by omega, by rw [nr]; exact h.1, by omega, by omega⟩, fun x h1 h2 h3 => ?_, ?_, fun x h1 h2 h3 => ?_⟩ <;> (try (have k := key x h1 h2)) <;> (try (have := f2 x; have := t2 x; have := w2 x; have := s2 x)) <;> (try (rcases k with rfl | k)) <;> omega
    rw [if_neg c3]
    by_cases c4 : 2 ≤ c r ∧ s < 0
    · rw [if_pos c4]
      have h := c4
      show Scan c (m + 1) f t w (r : Int)
      refine ⟨?_, fun x h1 h2 h3 => ?_, ?_, fun x h1 h2 h3 => ?_, ?_, fun x h1 h2 h3 => ?_, .inr ⟨by omega, by omega, by rw [nr]; exact h.1, by omega, by omega, by omega, by omega, by omega⟩, fun x h1 h2 h3 => ?_⟩ <;> (try (have k := key x h1 h2)) <;> (try (have := f2 x; have := t2 x; have := w2 x; have := s2 x)) <;> (try (rcases k with rfl | k)) <;> omega
    rw [if_neg c4]
    show Scan c (m + 1) f t w s
    refine ⟨?_, fun x h1 h2 h3 => ?_, ?_, fun x h1 h2 h3 => ?_, ?_, fun x h1 h2 h3 => ?_, ?_, fun x h1 h2 h3 => ?_⟩ <;> (try (have k := key x h1 h2)) <;> (try (have := f2 x; have := t2 x; have := w2 x; have := s2 x)) <;> (try (rcases k with rfl | k)) <;> omega

/-! ### Enough ranks -/
def total (c : Nat → Nat) : Nat := (ranks.map c).sum
theorem sum_ex1 (c : Nat → Nat) (a : Nat) : ∀ l : List Nat, l.Pairwise (· > ·) → (l.map fun r => if r = a then c r else 0).sum ≤ c a
  | [], _ => Nat.zero_le _
  | r :: l, h => by
    rw [List.pairwise_cons] at h
    have ih := sum_ex1 c a l h.2
    by_cases e : r = a
    · subst e
      have z : (l.map fun x => if x = r then c x else 0).sum = 0 := by
        have : ∀ l' : List Nat, (∀ x ∈ l', r > x) → (l'.map fun x => if x = r then c x else 0).sum = 0 := by
          intro l'
          induction l' with
          | nil => intro _; rfl
          | cons y l' ih' =>
            intro hy
            have h1 := hy y (by simp)
            rw [List.map_cons, List.sum_cons, ih' (fun x hx => hy x (by simp [hx])), if_neg (by omega)]
        exact this l h.1
      simp only [List.map_cons, List.sum_cons, z]
      simp
    · simp only [List.map_cons, List.sum_cons, if_neg e]
      omega
theorem enough (c : Nat → Nat) (ex : Nat → Nat) (P : Nat → Bool) (M : Nat) : ∀ l : List Nat, (∀ r ∈ l, c r ≤ ex r + if P r = true then M else 0) → (l.map c).sum ≤ (l.map ex).sum + M * (l.filter P).length
  | [], _ => Nat.zero_le _
  | r :: l, h => by
    have ih := enough c ex P M l (fun x hx => h x (by simp [hx]))
    have h1 := h r (by simp)
    by_cases e : P r = true
    · rw [if_pos e] at h1
      simp only [List.map_cons, List.sum_cons, List.filter_cons, if_pos e, List.length_cons, Nat.mul_add, Nat.mul_one]
      omega
    · rw [if_neg e] at h1
      simp only [List.map_cons, List.sum_cons, List.filter_cons, if_neg e]
      omega
theorem sum_add (f g : Nat → Nat) : ∀ l : List Nat, (l.map fun r => f r + g r).sum = (l.map f).sum + (l.map g).sum
  | [] => rfl
  | r :: l => by simp only [List.map_cons, List.sum_cons, sum_add f g l]; omega
theorem enough0 {c : Nat → Nat} {M : Nat} (hM : ∀ r, r < 13 → c r ≤ M) : total c ≤ M * (desc (hasR c)).length := by
  have h := enough c (fun _ => 0) (hasR c) M ranks (fun r hr => by
    have := hM r (mem_ranks.1 hr)
    unfold hasR
    by_cases e : 1 ≤ c r
    · simp [e]; exact this
    · simp [e]; omega)
  have z : (ranks.map fun _ => 0).sum = 0 := by decide
  rw [z] at h
  simpa [total, desc] using h
theorem enough1 {c : Nat → Nat} {M a : Nat} (hM : ∀ r, r < 13 → r ≠ a → c r ≤ M) : total c ≤ c a + M * (desc (but1 (hasR c) a)).length := by
  have h := enough c (fun r => if r = a then c r else 0) (but1 (hasR c) a) M ranks (fun r hr => by
    unfold but1 hasR
    by_cases e : r = a
    · simp [e]
    · have := hM r (mem_ranks.1 hr) e
      by_cases e' : 1 ≤ c r
      · simp [e, e']; exact this
      · simp [e, e']; omega)
  have := sum_ex1 c a ranks ranks_desc
  unfold total desc
  omega
theorem enough2 {c : Nat → Nat} {M a b : Nat} (hM : ∀ r, r < 13 → r ≠ a → r ≠ b → c r ≤ M) : total c ≤ c a + c b + M * (desc (but2 (hasR c) a b)).length := by
  have h := enough c (fun r => (if r = a then c r else 0) + if r = b then c r else 0) (but2 (hasR c) a b) M ranks (fun r hr => by
    unfold but2 hasR
    by_cases e : r = a
    · simp [e]
    · by_cases e2 : r = b
      · simp [e2]
      · have := hM r (mem_ranks.1 hr) e e2
        by_cases e' : 1 ≤ c r
        · simp [e, e2, e']; exact this
        · simp [e, e2, e']; omega)
  rw [sum_add] at h
  have h1 := sum_ex1 c a ranks ranks_desc
  have h2 := sum_ex1 c b ranks ranks_desc
  unfold total desc
  omega

/-! ### What five cards can be -/
def noSF (fl : Option (Nat → Bool)) : Prop := ∀ p, fl = some p → (∀ t, 4 ≤ t → t ≤ 12 → stAt p t = false) ∧ lowAt p = false
def no4 (c : Nat → Nat) : Prop := ∀ r, r < 13 → c r < 4
def noFH (c : Nat → Nat) : Prop := ∀ a b, a < 13 → b < 13 → a ≠ b → 3 ≤ c a → c b < 2
def noSt (c : Nat → Nat) : Prop := (∀ t, 4 ≤ t → t ≤ 12 → stAt (hasR c) t = false) ∧ lowAt (hasR c) = false
def no3 (c : Nat → Nat) : Prop := ∀ r, r < 13 → c r < 3
def no22 (c : Nat → Nat) : Prop := ∀ a b, a < 13 → b < 13 → a ≠ b → 2 ≤ c a → c b < 2
def no2 (c : Nat → Nat) : Prop := ∀ r, r < 13 → c r < 2
structure Neg (c : Nat → Nat) (fl : Option (Nat → Bool)) (j : Nat) : Prop where
  n8 : j < 8 → noSF fl
  n7 : j < 7 → no4 c
  n6 : j < 6 → noFH c
  n5 : j < 5 → fl = none
  n4 : j < 4 → noSt c
  n3 : j < 3 → no3 c
  n2 : j < 2 → no22 c
  n1 : j < 1 → no2 c

/-- Five cards of category k and value v can be taken. -/
inductive Feas (c : Nat → Nat) (fl : Option (Nat → Bool)) : Nat → Nat → Prop
  | sf (p : Nat → Bool) (t : Nat) : fl = some p → 4 ≤ t → t ≤ 12 → stAt p t = true → Feas c fl 8 (kvN 8 [t, t - 1, t - 2, t - 3, t - 4])
  | sfl (p : Nat → Bool) : fl = some p → lowAt p = true → Feas c fl 8 (kvN 8 [3, 2, 1, 0, 12])
  | quad (a : Nat) (ks : List Nat) : a < 13 → 4 ≤ c a → ks.length = 1 → ks.Pairwise (· > ·) → (∀ k ∈ ks, k < 13 ∧ but1 (hasR c) a k = true) → Feas c fl 7 (kvN 7 ([a, a, a, a] ++ ks))
  | fh (a b : Nat) : a < 13 → b < 13 → a ≠ b → 3 ≤ c a → 2 ≤ c b → Feas c fl 6 (kvN 6 [a, a, a, b, b])
  | fls (p : Nat → Bool) (ks : List Nat) : fl = some p → ks.length = 5 → ks.Pairwise (· > ·) → (∀ k ∈ ks, k < 13 ∧ p k = true) → Feas c fl 5 (kvN 5 ks)
  | st (t : Nat) : 4 ≤ t → t ≤ 12 → stAt (hasR c) t = true → Feas c fl 4 (kvN 4 [t, t - 1, t - 2, t - 3, t - 4])
  | stl : lowAt (hasR c) = true → Feas c fl 4 (kvN 4 [3, 2, 1, 0, 12])
  | tr (a : Nat) (ks : List Nat) : a < 13 → 3 ≤ c a → ks.length = 2 → ks.Pairwise (· > ·) → (∀ k ∈ ks, k < 13 ∧ but1 (hasR c) a k = true) → Feas c fl 3 (kvN 3 ([a, a, a] ++ ks))
  | tp (a b : Nat) (ks : List Nat) : a < 13 → b < a → 2 ≤ c a → 2 ≤ c b → ks.length = 1 → ks.Pairwise (· > ·) → (∀ k ∈ ks, k < 13 ∧ but2 (hasR c) a b k = true) → Feas c fl 2 (kvN 2 ([a, a, b, b] ++ ks))
  | op (a : Nat) (ks : List Nat) : a < 13 → 2 ≤ c a → ks.length = 3 → ks.Pairwise (· > ·) → (∀ k ∈ ks, k < 13 ∧ but1 (hasR c) a k = true) → Feas c fl 1 (kvN 1 ([a, a] ++ ks))
  | hc (ks : List Nat) : ks.length = 5 → ks.Pairwise (· > ·) → (∀ k ∈ ks, k < 13 ∧ hasR c k = true) → Feas c fl 0 (kvN 0 ks)

/-- The best choice, in its own words. -/
inductive VB (c : Nat → Nat) (fl : Option (Nat → Bool)) : Nat → Nat → Prop
  | sf (p : Nat → Bool) (t : Nat) : fl = some p → 4 ≤ t → t ≤ 12 → stAt p t = true → (∀ x, 4 ≤ x → x ≤ 12 → stAt p x = true → x ≤ t) → VB c fl 8 (kvN 8 [t, t - 1, t - 2, t - 3, t - 4])
  | sfl (p : Nat → Bool) : fl = some p → lowAt p = true → (∀ x, 4 ≤ x → x ≤ 12 → stAt p x = false) → VB c fl 8 (kvN 8 [3, 2, 1, 0, 12])
  | quad (a : Nat) : Neg c fl 7 → a < 13 → c a = 4 → (∀ r, r < 13 → c r = 4 → r ≤ a) → 1 ≤ (desc (but1 (hasR c) a)).length → VB c fl 7 (kvN 7 ([a, a, a, a] ++ (desc (but1 (hasR c) a)).take 1))
  | fh (a b : Nat) : Neg c fl 6 → a < 13 → b < 13 → a ≠ b → 3 ≤ c a → 2 ≤ c b → (∀ r, r < 13 → 3 ≤ c r → r ≤ a) → (∀ r, r < 13 → r ≠ a → 2 ≤ c r → r ≤ b) → VB c fl 6 (kvN 6 [a, a, a, b, b])
  | fls (p : Nat → Bool) : Neg c fl 5 → fl = some p → 5 ≤ (desc p).length → VB c fl 5 (kvN 5 ((desc p).take 5))
  | st (t : Nat) : Neg c fl 4 → 4 ≤ t → t ≤ 12 → stAt (hasR c) t = true → (∀ x, 4 ≤ x → x ≤ 12 → stAt (hasR c) x = true → x ≤ t) → VB c fl 4 (kvN 4 [t, t - 1, t - 2, t - 3, t - 4])
  | stl : Neg c fl 4 → lowAt (hasR c) = true → (∀ x, 4 ≤ x → x ≤ 12 → stAt (hasR c) x = false) → VB c fl 4 (kvN 4 [3, 2, 1, 0, 12])
  | tr (a : Nat) : Neg c fl 3 → a < 13 → 3 ≤ c a → (∀ r, r < 13 → 3 ≤ c r → r ≤ a) → 2 ≤ (desc (but1 (hasR c) a)).length → VB c fl 3 (kvN 3 ([a, a, a] ++ (desc (but1 (hasR c) a)).take 2))
  | tp (a b : Nat) : Neg c fl 2 → a < 13 → b < a → 2 ≤ c a → 2 ≤ c b → (∀ r, r < 13 → 2 ≤ c r → r ≤ a) → (∀ r, r < 13 → r ≠ a → 2 ≤ c r → r ≤ b) → 1 ≤ (desc (but2 (hasR c) a b)).length → VB c fl 2 (kvN 2 ([a, a, b, b] ++ (desc (but2 (hasR c) a b)).take 1))
  | op (a : Nat) : Neg c fl 1 → a < 13 → 2 ≤ c a → (∀ r, r < 13 → 2 ≤ c r → r ≤ a) → 3 ≤ (desc (but1 (hasR c) a)).length → VB c fl 1 (kvN 1 ([a, a] ++ (desc (but1 (hasR c) a)).take 3))
  | hc : Neg c fl 0 → 5 ≤ (desc (hasR c)).length → VB c fl 0 (kvN 0 ((desc (hasR c)).take 5))

theorem desc_lt {P : Nat → Bool} {n r : Nat} (h : r ∈ (desc P).take n) : r < 13 ∧ P r = true := mem_desc.1 (List.mem_of_mem_take h)
theorem desc_take_desc (P : Nat → Bool) (n : Nat) : ((desc P).take n).Pairwise (· > ·) := (desc_desc P).sublist (List.take_sublist _ _)

section
variable {c : Nat → Nat} {fl : Option (Nat → Bool)} {k j v u : Nat}
theorem Feas.range (h : Feas c fl k v) : 371293 * k ≤ v ∧ v < 371293 * (k + 1) := by
  cases h
  case sf p t h1 h2 h3 h4 => exact kv_range rfl (fun d hd => by simp only [List.mem_cons, List.not_mem_nil, or_false] at hd; omega) _
  case sfl p h1 h2 => exact kv_range rfl (fun d hd => by simp only [List.mem_cons, List.not_mem_nil, or_false] at hd; omega) _
  case quad a ks h1 h2 h3 h4 h5 => exact kv_range (by simp [h3]) (fun d hd => (List.mem_append.1 hd).elim (fun e => by simp only [List.mem_cons, List.not_mem_nil, or_false] at e; omega) (fun e => (h5 d e).1)) _
  case fh a b h1 h2 h3 h4 h5 => exact kv_range rfl (fun d hd => by simp only [List.mem_cons, List.not_mem_nil, or_false] at hd; omega) _
  case fls p ks h1 h2 h3 h4 => exact kv_range h2 (fun d hd => (h4 d hd).1) _
  case st t h1 h2 h3 => exact kv_range rfl (fun d hd => by simp only [List.mem_cons, List.not_mem_nil, or_false] at hd; omega) _
  case stl h1 => exact kv_range rfl (fun d hd => by simp only [List.mem_cons, List.not_mem_nil, or_false] at hd; omega) _
  case tr a ks h1 h2 h3 h4 h5 => exact kv_range (by simp [h3]) (fun d hd => (List.mem_append.1 hd).elim (fun e => by simp only [List.mem_cons, List.not_mem_nil, or_false] at e; omega) (fun e => (h5 d e).1)) _
  case tp a b ks h1 h2 h3 h4 h5 h6 h7 => exact kv_range (by simp [h5]) (fun d hd => (List.mem_append.1 hd).elim (fun e => by simp only [List.mem_cons, List.not_mem_nil, or_false] at e; omega) (fun e => (h7 d e).1)) _
  case op a ks h1 h2 h3 h4 h5 => exact kv_range (by simp [h3]) (fun d hd => (List.mem_append.1 hd).elim (fun e => by simp only [List.mem_cons, List.not_mem_nil, or_false] at e; omega) (fun e => (h5 d e).1)) _
  case hc ks h1 h2 h3 => exact kv_range h1 (fun d hd => (h3 d hd).1) _
theorem VB.feas (h : VB c fl k v) : Feas c fl k v := by
  cases h
  case sf p t h1 h2 h3 h4 h5 => exact .sf p t h1 h2 h3 h4
  case sfl p h1 h2 h3 => exact .sfl p h1 h2
  case quad a hn h1 h2 h3 h4 => exact .quad a _ h1 (by omega) (by simp; omega) (desc_take_desc _ _) (fun r hr => desc_lt hr)
  case fh a b hn h1 h2 h3 h4 h5 h6 h7 => exact .fh a b h1 h2 h3 h4 h5
  case fls p hn h1 h2 => exact .fls p _ h1 (by simp; omega) (desc_take_desc _ _) (fun r hr => desc_lt hr)
  case st t hn h1 h2 h3 h4 => exact .st t h1 h2 h3
  case stl hn h1 h2 => exact .stl h1
  case tr a hn h1 h2 h3 h4 => exact .tr a _ h1 h2 (by simp; omega) (desc_take_desc _ _) (fun r hr => desc_lt hr)
  case tp a b hn h1 h2 h3 h4 h5 h6 h7 => exact .tp a b _ h1 h2 h3 h4 (by simp; omega) (desc_take_desc _ _) (fun r hr => desc_lt hr)
  case op a hn h1 h2 h3 h4 => exact .op a _ h1 h2 (by simp; omega) (desc_take_desc _ _) (fun r hr => desc_lt hr)
  case hc hn h1 => exact .hc _ (by simp; omega) (desc_take_desc _ _) (fun r hr => desc_lt hr)
theorem VB.neg (h : VB c fl k v) : Neg c fl k := by
  cases h
  case sf | sfl => exact ⟨by omega, by omega, by omega, by omega, by omega, by omega, by omega, by omega⟩
  all_goals assumption
theorem stAt_has {P : Nat → Bool} {t : Nat} (h : stAt P t = true) : P t = true ∧ P (t - 1) = true ∧ P (t - 2) = true ∧ P (t - 3) = true ∧ P (t - 4) = true := by
  simpa [stAt, and_assoc] using h

/-- No choice is better than the best one. -/
theorem Feas.le (hc : ∀ r, c r ≤ 4) (h : Feas c fl k v) (h' : VB c fl j u) : v ≤ u := by
  have hr := h.range
  have hr' := h'.feas.range
  have hn := h'.neg
  rcases Nat.lt_trichotomy k j with e | e | e
  · have : 371293 * (k + 1) ≤ 371293 * j := Nat.mul_le_mul_left _ e
    omega
  · subst e
    clear hr hr' hn
    cases h
    case sf p t h1 h2 h3 h4 =>
      cases h'
      case sf p' t' g1 g2 g3 g4 g5 =>
        rw [h1] at g1; cases g1
        have := g5 t h2 h3 h4
        simp only [kvN, List.foldl]; omega
      case sfl p' g1 g2 g3 =>
        rw [h1] at g1; cases g1
        rw [g3 t h2 h3] at h4; cases h4
    case sfl p h1 h2 =>
      cases h'
      case sf p' t' g1 g2 g3 g4 g5 => simp only [kvN, List.foldl]; omega
      case sfl p' g1 g2 g3 => exact Nat.le_refl _
    case quad a ks h1 h2 h3 h4 h5 =>
      cases h'
      case quad a' gn g1 g2 g3 g4 =>
        have ha : c a = 4 := by have := hc a; omega
        have := g3 a h1 ha
        refine kv_le (by simp [h3]; omega) ?_ ?_ _
        · intro d hd; simp only [List.mem_append, List.mem_cons, List.not_mem_nil, or_false] at hd
          rcases hd with hd | hd
          · omega
          · exact (h5 d hd).1
        · rcases Nat.lt_or_ge a a' with e | e
          · exact .inl e
          · have : a = a' := by omega
            subst this
            have := (desc_top h4 h5).1
            rw [h3] at this
            exact leL_pre [a, a, a, a] this
    case fh a b h1 h2 h3 h4 h5 =>
      cases h'
      case fh a' b' gn g1 g2 g3 g4 g5 g6 g7 =>
        have e1 := g6 a h1 h4
        have e2 : a = a' → b ≤ b' := fun e => g7 b h2 (by omega) h5
        simp only [kvN, List.foldl]; omega
    case fls p ks h1 h2 h3 h4 =>
      cases h'
      case fls p' gn g1 g2 =>
        rw [h1] at g1; cases g1
        have := (desc_top h3 h4).1
        rw [h2] at this
        exact kv_le (by simp [h2]; omega) (fun d hd => (h4 d hd).1) this _
    case st t h1 h2 h3 =>
      cases h'
      case st t' gn g1 g2 g3 g4 =>
        have := g4 t h1 h2 h3
        simp only [kvN, List.foldl]; omega
      case stl gn g1 g2 => rw [g2 t h1 h2] at h3; cases h3
    case stl h1 =>
      cases h'
      case st t' gn g1 g2 g3 g4 => simp only [kvN, List.foldl]; omega
      case stl gn g1 g2 => exact Nat.le_refl _
    case tr a ks h1 h2 h3 h4 h5 =>
      cases h'
      case tr a' gn g1 g2 g3 g4 =>
        have := g3 a h1 h2
        refine kv_le (by simp [h3]; omega) ?_ ?_ _
        · intro d hd; simp only [List.mem_append, List.mem_cons, List.not_mem_nil, or_false] at hd
          rcases hd with hd | hd
          · omega
          · exact (h5 d hd).1
        · rcases Nat.lt_or_ge a a' with e | e
          · exact .inl e
          · have : a = a' := by omega
            subst this
            have := (desc_top h4 h5).1
            rw [h3] at this
            exact leL_pre [a, a, a] this
    case tp a b ks h1 h2 h3 h4 h5 h6 h7 =>
      cases h'
      case tp a' b' gn g1 g2 g3 g4 g5 g6 g7 =>
        have e1 := g5 a h1 h3
        have e2 : a = a' → b ≤ b' := fun e => g6 b (by omega) (by omega) h4
        refine kv_le (by simp [h5]; omega) ?_ ?_ _
        · intro d hd; simp only [List.mem_append, List.mem_cons, List.not_mem_nil, or_false] at hd
          rcases hd with hd | hd
          · omega
          · exact (h7 d hd).1
        · rcases Nat.lt_or_ge a a' with e | e
          · exact .inl e
          · have : a = a' := by omega
            subst this
            refine .inr ⟨rfl, .inr ⟨rfl, ?_⟩⟩
            rcases Nat.lt_or_ge b b' with e' | e'
            · exact .inl e'
            · have : b = b' := by have := e2 rfl; omega
              subst this
              have := (desc_top h6 h7).1
              rw [h5] at this
              exact leL_pre [b, b] this
    case op a ks h1 h2 h3 h4 h5 =>
      cases h'
      case op a' gn g1 g2 g3 g4 =>
        have := g3 a h1 h2
        refine kv_le (by simp [h3]; omega) ?_ ?_ _
        · intro d hd; simp only [List.mem_append, List.mem_cons, List.not_mem_nil, or_false] at hd
          rcases hd with hd | hd
          · omega
          · exact (h5 d hd).1
        · rcases Nat.lt_or_ge a a' with e | e
          · exact .inl e
          · have : a = a' := by omega
            subst this
            have := (desc_top h4 h5).1
            rw [h3] at this
            exact leL_pre [a, a] this
    case hc ks h1 h2 h3 =>
      cases h'
      case hc gn g1 =>
        have := (desc_top h2 h3).1
        rw [h1] at this
        exact kv_le (by simp [h1]; omega) (fun d hd => (h3 d hd).1) this _
  · exfalso
    cases h
    case sf p t h1 h2 h3 h4 => have := ((hn.n8 e) p h1).1 t h2 h3; rw [this] at h4; cases h4
    case sfl p h1 h2 => have := ((hn.n8 e) p h1).2; rw [this] at h2; cases h2
    case quad a ks h1 h2 h3 h4 h5 => have := hn.n7 e a h1; omega
    case fh a b h1 h2 h3 h4 h5 => have := hn.n6 e a b h1 h2 h3 h4; omega
    case fls p ks h1 h2 h3 h4 => have := hn.n5 e; rw [this] at h1; cases h1
    case st t h1 h2 h3 => have := (hn.n4 e).1 t h1 h2; rw [this] at h3; cases h3
    case stl h1 => have := (hn.n4 e).2; rw [this] at h1; cases h1
    case tr a ks h1 h2 h3 h4 h5 => have := hn.n3 e a h1; omega
    case tp a b ks h1 h2 h3 h4 h5 h6 h7 => have := hn.n2 e a b h1 (by omega) (by omega) h3; omega
    case op a ks h1 h2 h3 h4 h5 => have := hn.n1 e a h1; omega
    case hc => omega
end

/-! ### The value is the best choice -/
theorem find_top {Q : Nat → Bool} {t : Nat} : ∀ {l : List Nat}, l.Pairwise (· > ·) → l.find? Q = some t → t ∈ l ∧ Q t = true ∧ ∀ x ∈ l, Q x = true → x ≤ t
  | [], _, h => by simp at h
  | y :: l, hl, h => by
    rw [List.pairwise_cons] at hl
    rw [List.find?_cons] at h
    cases hy : Q y
    · rw [hy] at h
      obtain ⟨h1, h2, h3⟩ := find_top hl.2 h
      refine ⟨by simp [h1], h2, fun x hx hq => ?_⟩
      rcases List.mem_cons.1 hx with e | e
      · subst e; rw [hy] at hq; cases hq
      · exact h3 x e hq
    · rw [hy] at h
      simp at h
      subst h
      refine ⟨by simp, hy, fun x hx hq => ?_⟩
      rcases List.mem_cons.1 hx with e | e
      · omega
      · have := hl.1 x e; omega
theorem stTop_some {P : Nat → Bool} {t : Nat} (h : stTop P = some t) : 4 ≤ t ∧ t ≤ 12 ∧ stAt P t = true ∧ ∀ x, 4 ≤ x → x ≤ 12 → stAt P x = true → x ≤ t := by
  obtain ⟨h1, h2, h3⟩ := find_top (by decide) h
  have : 4 ≤ t ∧ t ≤ 12 := by simp only [List.mem_cons, List.not_mem_nil, or_false] at h1; omega
  exact ⟨this.1, this.2, h2, fun x g1 g2 g3 => h3 x (by simp only [List.mem_cons, List.not_mem_nil, or_false]; omega) g3⟩
theorem stTop_none {P : Nat → Bool} (h : stTop P = none) : ∀ x, 4 ≤ x → x ≤ 12 → stAt P x = false := by
  intro x g1 g2
  have := List.find?_eq_none.1 h x (by simp only [List.mem_cons, List.not_mem_nil, or_false]; omega)
  simpa using this
theorem stO_none {P : Nat → Bool} {k : Nat} (h : stO P k true = none) : (∀ x, 4 ≤ x → x ≤ 12 → stAt P x = false) ∧ lowAt P = false := by
  unfold stO at h
  cases hs : stTop P
  · rw [hs] at h
    refine ⟨stTop_none hs, ?_⟩
    cases hl : lowAt P
    · rfl
    · simp [hl] at h
  · rw [hs] at h; simp at h
/-- The categories in falling order. -/
theorem V_vb (c : Nat → Nat) (fl : Option (Nat → Bool)) (hc : ∀ r, c r ≤ 4) (hn : 5 ≤ total c) (hf : ∀ p, fl = some p → 5 ≤ (desc p).length) : ∃ k, VB c fl k (V c fl true) := by
  have I := scan_inv c hc 13 (Nat.le_refl _)
  unfold V Vd
  obtain ⟨q, hq⟩ : ∃ q, q = scan c 13 := ⟨_, rfl⟩
  rw [← hq] at I ⊢
  obtain ⟨f, t, w, s⟩ := q
  obtain ⟨f1, f2, t1, t2, w1, w2, s1, s2⟩ := I
  simp only at f1 f2 t1 t2 w1 w2 s1 s2 ⊢
  clear hq
  cases hsf : fl.bind (fun p => stO p 8 true)
  case some v =>
    obtain ⟨p, hp, hv⟩ := Option.bind_eq_some_iff.1 hsf
    refine ⟨8, ?_⟩
    simp only
    unfold stO at hv
    cases hs : stTop p
    · rw [hs] at hv
      simp only [Bool.true_and] at hv
      split at hv
      · next hl =>
        cases hv
        exact .sfl p hp hl (stTop_none hs)
      · cases hv
    · rw [hs] at hv
      simp only at hv
      cases hv
      obtain ⟨a1, a2, a3, a4⟩ := stTop_some hs
      exact .sf p _ hp a1 a2 a3 a4
  case none =>
  have n8 : noSF fl := fun p hp => stO_none (by have := hsf; rw [hp] at this; exact this)
  simp only
  by_cases h7 : 0 ≤ f
  · rw [if_pos h7]
    obtain ⟨a, rfl⟩ := Int.eq_ofNat_of_zero_le h7
    simp only [Int.toNat_natCast] at f1 ⊢
    have ha : c a = 4 := by rcases f1 with h | h; omega; exact h.2.2
    have ha13 : a < 13 := by rcases f1 with h | h <;> omega
    have := enough1 (c := c) (M := 4) (a := a) (fun r _ _ => hc r)
    exact ⟨7, .quad a ⟨fun _ => n8, by omega, by omega, by omega, by omega, by omega, by omega, by omega⟩ ha13 ha (fun r h1 h2 => by have := f2 r (by omega) (by omega) h2; omega) (by omega)⟩
  rw [if_neg h7]
  have ef : f = -1 := by omega
  have n7 : no4 c := fun r hr => by have := hc r; have := f2 r (by omega) (by omega); omega
  by_cases h6 : 0 ≤ t ∧ 0 ≤ w
  · rw [if_pos h6]
    obtain ⟨a, ha⟩ := Int.eq_ofNat_of_zero_le h6.1
    obtain ⟨b, hb⟩ := Int.eq_ofNat_of_zero_le h6.2
    subst ha hb
    simp only [Int.toNat_natCast] at t1 w1 ⊢
    refine ⟨6, .fh a b ⟨fun _ => n8, fun _ => n7, by omega, by omega, by omega, by omega, by omega, by omega⟩ (by omega) (by omega) (by omega) (by omega) (by omega) (fun r h1 h2 => ?_) (fun r h1 h2 h3 => ?_)⟩
    · have := t2 r (by omega) (by omega) h2; omega
    · have := w2 r (by omega) (by omega) h3; omega
  rw [if_neg h6]
  have n6 : noFH c := fun a b h1 h2 h3 h4 => by
    have e1 := t2 a (by omega) (by omega) h4
    have e2 := w2 b (by omega) (by omega)
    have e3 := w2 a (by omega) (by omega) (by omega)
    omega
  cases fl with
  | some p =>
    simp only
    refine ⟨5, ?_⟩
    have := hf p rfl
    exact .fls p ⟨fun _ => n8, fun _ => n7, fun _ => n6, by omega, by omega, by omega, by omega, by omega⟩ rfl this
  | none =>
  simp only
  cases hst : stO (hasR c) 4 true
  case some v =>
    simp only
    refine ⟨4, ?_⟩
    have N : Neg c none 4 := ⟨fun _ => n8, fun _ => n7, fun _ => n6, fun _ => rfl, by omega, by omega, by omega, by omega⟩
    have hv := hst
    unfold stO at hv
    cases hs : stTop (hasR c)
    · rw [hs] at hv
      simp only [Bool.true_and] at hv
      split at hv
      · next hl =>
        cases hv
        exact .stl N hl (stTop_none hs)
      · cases hv
    · rw [hs] at hv
      simp only at hv
      cases hv
      obtain ⟨a1, a2, a3, a4⟩ := stTop_some hs
      exact .st _ N a1 a2 a3 a4
  case none =>
  have n4 : noSt c := stO_none hst
  simp only
  by_cases h3 : 0 ≤ t
  · rw [if_pos h3]
    obtain ⟨a, ha⟩ := Int.eq_ofNat_of_zero_le h3
    subst ha
    simp only [Int.toNat_natCast] at t1 ⊢
    have ha3 : c a ≤ 3 := by have := n7 a (by omega); omega
    have := enough1 (c := c) (M := 1) (a := a) (fun r h1 h2 => by
      have := w2 r (by omega) (by omega); omega)
    exact ⟨3, .tr a ⟨fun _ => n8, fun _ => n7, fun _ => n6, fun _ => rfl, fun _ => n4, by omega, by omega, by omega⟩ (by omega) (by omega) (fun r h1 h2 => by have := t2 r (by omega) (by omega) h2; omega) (by omega)⟩
  rw [if_neg h3]
  have n3 : no3 c := fun r hr => by have := t2 r (by omega) (by omega); omega
  by_cases h2 : 0 ≤ s
  · rw [if_pos h2]
    obtain ⟨b, hb⟩ := Int.eq_ofNat_of_zero_le h2
    obtain ⟨a, ha⟩ := Int.eq_ofNat_of_zero_le (show 0 ≤ w by omega)
    subst ha hb
    simp only [Int.toNat_natCast] at w1 s1 ⊢
    have := enough2 (c := c) (M := 2) (a := a) (b := b) (fun r h1 _ _ => by have := n3 r h1; omega)
    have ha2 := n3 a (by omega)
    have hb2 := n3 b (by omega)
    exact ⟨2, .tp a b ⟨fun _ => n8, fun _ => n7, fun _ => n6, fun _ => rfl, fun _ => n4, fun _ => n3, by omega, by omega⟩ (by omega) (by omega) (by omega) (by omega)
      (fun r h1 h2 => by have := w2 r (by omega) (by omega) h2; omega) (fun r h1 h2 h3 => by have := s2 r (by omega) (by omega) h3; omega) (by omega)⟩
  rw [if_neg h2]
  have n2 : no22 c := fun a b h1 h2 h3 h4 => by
    have e1 := s2 a (by omega) (by omega) h4
    have e2 := s2 b (by omega) (by omega)
    omega
  by_cases h1 : 0 ≤ w
  · rw [if_pos h1]
    obtain ⟨a, ha⟩ := Int.eq_ofNat_of_zero_le h1
    subst ha
    simp only [Int.toNat_natCast] at w1 ⊢
    have ha2 := n3 a (by omega)
    have := enough1 (c := c) (M := 1) (a := a) (fun r h1 h2 => by
      have := s2 r (by omega) (by omega); omega)
    exact ⟨1, .op a ⟨fun _ => n8, fun _ => n7, fun _ => n6, fun _ => rfl, fun _ => n4, fun _ => n3, fun _ => n2, by omega⟩ (by omega) (by omega) (fun r h1 h2 => by have := w2 r (by omega) (by omega) h2; omega) (by omega)⟩
  rw [if_neg h1]
  have n1 : no2 c := fun r hr => by have := w2 r (by omega) (by omega); omega
  have := enough0 (c := c) (M := 1) (fun r h1 => by have := n1 r h1; omega)
  exact ⟨0, .hc ⟨fun _ => n8, fun _ => n7, fun _ => n6, fun _ => rfl, fun _ => n4, fun _ => n3, fun _ => n2, fun _ => n1⟩ (by omega)⟩
end Go.Proofs.YtbhlghadjcbilaaDoor
