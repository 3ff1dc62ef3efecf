/-
  Badugi hands: plain mathematics.
-/
import Derived.Test.YtgkhhfkijepenaaMathChoice
import Derived.Test.YtgkhhfkijepenaaMathDraw
import Derived.Test.YtgkhhfkijepenaaMathSort
namespace Go.Proofs.Ytgkhhfkijepenaa

theorem snoc_ind {α : Type} {p : List α → Prop} (h0 : p []) (h1 : ∀ xs x, p xs → p (xs ++ [x])) (xs : List α) : p xs := by
  rw [← List.reverse_reverse xs]
  induction xs.reverse with
  | nil => exact h0
  | cons x ys ih => rw [List.reverse_cons]; exact h1 _ _ ih

/-! ### Order -/
/-- A list is less than another one of the same length. -/
def lexI : List Int → List Int → Bool
  | x :: a, y :: b => if x = y then lexI a b else decide (x < y)
  | _, _ => false
theorem lexI_self (a : List Int) : lexI a a = false := by
  induction a with
  | nil => rfl
  | cons x a ih => simp [lexI, ih]
theorem lexI_asymm : ∀ (a b : List Int), lexI a b = true → lexI b a = false
  | [], _, h => by simp [lexI] at h
  | _ :: _, [], h => by simp [lexI] at h
  | x :: a, y :: b, h => by
    by_cases e : x = y
    · subst e
      simp only [lexI, if_true] at h ⊢
      exact lexI_asymm a b h
    · have e' : ¬ y = x := fun h => e h.symm
      simp only [lexI, if_neg e, if_neg e'] at h ⊢
      simp at h ⊢; omega
theorem lexI_tri : ∀ (a b : List Int), a.length = b.length → lexI a b = false → lexI b a = false → a = b
  | [], [], _, _, _ => rfl
  | [], _ :: _, h, _, _ => by simp at h
  | _ :: _, [], h, _, _ => by simp at h
  | x :: a, y :: b, h, h1, h2 => by
    by_cases e : x = y
    · subst e
      simp only [lexI, if_true] at h1 h2
      rw [lexI_tri a b (by simpa using h) h1 h2]
    · have e' : ¬ y = x := fun h => e h.symm
      simp only [lexI, if_neg e, if_neg e'] at h1 h2
      simp at h1 h2; omega
theorem lexI_trans : ∀ (a b c : List Int), a.length = b.length → b.length = c.length → lexI a b = true → lexI b c = true → lexI a c = true
  | [], _, _, _, _, h, _ => by simp [lexI] at h
  | _ :: _, [], _, h, _, _, _ => by simp at h
  | _ :: _, _ :: _, [], _, h, _, _ => by simp at h
  | x :: a, y :: b, z :: c, l1, l2, h1, h2 => by
    by_cases e : x = y
    · subst e
      by_cases e2 : x = z
      · subst e2
        simp only [lexI, if_true] at h1 h2 ⊢
        exact lexI_trans a b c (by simpa using l1) (by simpa using l2) h1 h2
      · simp only [lexI, if_true, if_neg e2] at h1 h2 ⊢
        exact h2
    · by_cases e2 : y = z
      · subst e2
        simp only [lexI, if_true, if_neg e] at h1 h2 ⊢
        exact h1
      · simp only [lexI, if_neg e, if_neg e2] at h1 h2
        simp at h1 h2
        have e3 : ¬ x = z := by omega
        simp only [lexI, if_neg e3]
        simp; omega
/-- Cards are better than as many others: by their low ranks, then by themselves. -/
def lessB (a b : List Int) : Bool := if a.map lowI = b.map lowI then lexI a b else lexI (a.map lowI) (b.map lowI)
theorem lessB_asymm {a b : List Int} (h : lessB a b = true) : lessB b a = false := by
  unfold lessB at *
  by_cases e : a.map lowI = b.map lowI
  · rw [if_pos e] at h
    rw [if_pos e.symm]; exact lexI_asymm _ _ h
  · rw [if_neg e] at h
    rw [if_neg (fun h => e h.symm)]; exact lexI_asymm _ _ h
theorem lessB_tri {a b : List Int} (hl : a.length = b.length) (h1 : lessB a b = false) (h2 : lessB b a = false) : a = b := by
  unfold lessB at *
  by_cases e : a.map lowI = b.map lowI
  · rw [if_pos e] at h1
    rw [if_pos e.symm] at h2
    exact lexI_tri _ _ hl h1 h2
  · rw [if_neg e] at h1
    rw [if_neg (fun h => e h.symm)] at h2
    exact absurd (lexI_tri _ _ (by simpa using hl) h1 h2) e
theorem lessB_trans {a b c : List Int} (l1 : a.length = b.length) (l2 : b.length = c.length) (h1 : lessB a b = true) (h2 : lessB b c = true) : lessB a c = true := by
  unfold lessB at *
  by_cases e : a.map lowI = b.map lowI
  · rw [if_pos e] at h1
    by_cases e2 : b.map lowI = c.map lowI
    · rw [if_pos e2] at h2
      rw [if_pos (e.trans e2)]
      exact lexI_trans a b c l1 l2 h1 h2
    · rw [if_neg e2] at h2
      rw [if_neg (by rw [e]; exact e2), e]
      exact h2
  · rw [if_neg e] at h1
    by_cases e2 : b.map lowI = c.map lowI
    · rw [if_pos e2] at h2
      rw [if_neg (by rw [← e2]; exact e), ← e2]
      exact h1
    · rw [if_neg e2] at h2
      have h3 := lexI_trans _ _ _ (by simpa using l1) (by simpa using l2) h1 h2
      rw [if_neg (fun e3 => by rw [e3, lexI_self] at h3; cases h3)]
      exact h3

/-! ### Cards apart -/
def apartR (a b : Int) : Prop := a / 4 ≠ b / 4 ∧ a % 4 ≠ b % 4
instance (a b : Int) : Decidable (apartR a b) := inferInstanceAs (Decidable (_ ∧ _))
def apB (xs : List Int) : Bool := decide (xs.Pairwise apartR)
theorem apB_iff {xs : List Int} : apB xs = true ↔ xs.Pairwise apartR := by simp [apB]
theorem apB_perm {xs ys : List Int} (h : xs.Perm ys) : apB xs = apB ys := by
  rw [Bool.eq_iff_iff, apB_iff, apB_iff]
  exact h.pairwise_iff (fun {a b} ⟨h1, h2⟩ => ⟨fun e => h1 e.symm, fun e => h2 e.symm⟩)

/-- The best of some lists, as both sides look for it: the empty list stands for none so far. -/
def stepB (m S : List Int) : List Int := if apB S = true ∧ (m = [] ∨ lessB S m = true) then S else m
def minB (cs : List (List Int)) : List Int := cs.foldl stepB []
theorem minB_snoc (cs : List (List Int)) (S : List Int) : minB (cs ++ [S]) = stepB (minB cs) S := by unfold minB; rw [List.foldl_append]; rfl
theorem minB_facts {k : Nat} (hk : 0 < k) (cs : List (List Int)) : (∀ S ∈ cs, S.length = k) →
    (minB cs = [] ∧ ∀ S ∈ cs, apB S = false) ∨ (minB cs ∈ cs ∧ apB (minB cs) = true ∧ ∀ S ∈ cs, apB S = true → lessB S (minB cs) = false) := by
  refine snoc_ind (p := fun cs => (∀ S ∈ cs, S.length = k) → (minB cs = [] ∧ ∀ S ∈ cs, apB S = false) ∨ (minB cs ∈ cs ∧ apB (minB cs) = true ∧ ∀ S ∈ cs, apB S = true → lessB S (minB cs) = false)) ?_ ?_ cs
  · intro _; exact .inl ⟨rfl, fun S hS => by cases hS⟩
  · intro cs T ih hl
    have hT : T.length = k := hl T (by simp)
    have ih := ih (fun S hS => hl S (by simp [hS]))
    rw [minB_snoc]
    unfold stepB
    by_cases ha : apB T = true
    · rcases ih with ⟨h1, h2⟩ | ⟨h1, h2, h3⟩
      · rw [if_pos ⟨ha, .inl h1⟩]
        refine .inr ⟨by simp, ha, fun S hS hSa => ?_⟩
        rcases List.mem_append.1 hS with hS | hS
        · rw [h2 S hS] at hSa; cases hSa
        · have : S = T := by simpa using hS
          subst this
          unfold lessB; rw [if_pos rfl]; exact lexI_self _
      · have hm : (minB cs).length = k := hl _ (by simp [h1])
        have hne : minB cs ≠ [] := by intro e; rw [e] at hm; simp at hm; omega
        by_cases hlt : lessB T (minB cs) = true
        · rw [if_pos ⟨ha, .inr hlt⟩]
          refine .inr ⟨by simp, ha, fun S hS hSa => ?_⟩
          rcases List.mem_append.1 hS with hS | hS
          · have hSm := h3 S hS hSa
            rw [Bool.eq_false_iff]
            intro hST
            have := lessB_trans (by rw [hl S (by simp [hS]), hT]) (by rw [hT, hm]) hST hlt
            rw [hSm] at this; cases this
          · have : S = T := by simpa using hS
            subst this
            unfold lessB; rw [if_pos rfl]; exact lexI_self _
        · rw [if_neg (fun h => by rcases h.2 with h | h; exact hne h; exact hlt h)]
          refine .inr ⟨by simp [h1], h2, fun S hS hSa => ?_⟩
          rcases List.mem_append.1 hS with hS | hS
          · exact h3 S hS hSa
          · have : S = T := by simpa using hS
            subst this
            simpa using hlt
    · rw [if_neg (fun h => ha h.1)]
      rcases ih with ⟨h1, h2⟩ | ⟨h1, h2, h3⟩
      · refine .inl ⟨h1, fun S hS => ?_⟩
        rcases List.mem_append.1 hS with hS | hS
        · exact h2 S hS
        · have : S = T := by simpa using hS
          subst this; simpa using ha
      · refine .inr ⟨by simp [h1], h2, fun S hS hSa => ?_⟩
        rcases List.mem_append.1 hS with hS | hS
        · exact h3 S hS hSa
        · have : S = T := by simpa using hS
          subst this; exact absurd hSa ha
/-- The best is the one that none beats. -/
theorem minB_is {k : Nat} (hk : 0 < k) {cs : List (List Int)} (hl : ∀ S ∈ cs, S.length = k) {T : List Int} (hT : T ∈ cs) (ha : apB T = true) (h : ∀ S ∈ cs, apB S = true → lessB S T = false) : minB cs = T := by
  rcases minB_facts hk cs hl with ⟨_, h2⟩ | ⟨h1, h2, h3⟩
  · rw [h2 T hT] at ha; cases ha
  · exact lessB_tri (by rw [hl _ h1, hl _ hT]) (h _ h1 h2) (h3 _ hT ha)
theorem minB_same {k : Nat} (hk : 0 < k) {cs ds : List (List Int)} (hc : ∀ S ∈ cs, S.length = k) (hd : ∀ S ∈ ds, S.length = k) (h : ∀ S, apB S = true → (S ∈ cs ↔ S ∈ ds)) : minB cs = minB ds := by
  rcases minB_facts hk cs hc with ⟨h1, h2⟩ | ⟨h1, h2, h3⟩
  · rcases minB_facts hk ds hd with ⟨k1, k2⟩ | ⟨k1, k2, k3⟩
    · rw [h1, k1]
    · rw [h2 _ ((h _ k2).2 k1)] at k2; cases k2
  · exact (minB_is hk hd ((h _ h2).1 h1) h2 (fun S hS hSa => h3 S ((h S hSa).2 hS) hSa)).symm

/-! ### Cards by decreasing low ranks -/
def insD : List Int → Int → List Int
  | [], x => [x]
  | y :: r, x => if lowI x < lowI y then y :: insD r x else x :: y :: r
theorem insD_perm (ys : List Int) (x : Int) : (insD ys x).Perm (x :: ys) := by
  induction ys with
  | nil => exact List.Perm.refl _
  | cons y r ih =>
    unfold insD
    split
    · exact (List.Perm.cons y ih).trans (List.Perm.swap x y r)
    · exact List.Perm.refl _
def downR (a b : Int) : Prop := lowI b ≤ lowI a
theorem insD_sorted (ys : List Int) (x : Int) (h : ys.Pairwise downR) : (insD ys x).Pairwise downR := by
  induction ys with
  | nil => simp [insD]
  | cons y r ih =>
    obtain ⟨h1, h2⟩ := List.pairwise_cons.1 h
    unfold insD
    split
    · rename_i hy
      refine List.pairwise_cons.2 ⟨fun z hz => ?_, ih h2⟩
      rcases List.mem_cons.1 ((insD_perm r x).mem_iff.1 hz) with e | e
      · rw [e]; exact Int.le_of_lt hy
      · exact h1 z e
    · rename_i hy
      refine List.pairwise_cons.2 ⟨fun z hz => ?_, h⟩
      have hy' : lowI y ≤ lowI x := by omega
      rcases List.mem_cons.1 hz with e | e
      · rw [e]; exact hy'
      · exact Int.le_trans (h1 z e) hy'
theorem insD_at (x : Int) : ∀ (ys : List Int) (k : Nat), k ≤ ys.length → (∀ i, i < k → lowI x < lowI (ys.getD i 0)) → (k = ys.length ∨ lowI (ys.getD k 0) ≤ lowI x) → insD ys x = ys.take k ++ x :: ys.drop k
  | [], k, hk, _, _ => by
    have : k = 0 := by simpa using hk
    subst this; rfl
  | y :: r, 0, _, _, h2 => by
    have hy : ¬ lowI x < lowI y := by
      rcases h2 with h | h
      · simp at h
      · simp at h; omega
    unfold insD
    rw [if_neg hy]
    rfl
  | y :: r, k + 1, hk, h1, h2 => by
    have hy : lowI x < lowI y := by simpa using h1 0 (by omega)
    unfold insD
    rw [if_pos hy, insD_at x r k (by simpa using hk) (fun i hi => by simpa using h1 (i + 1) (by omega)) (by simpa using h2)]
    rfl
def dnL (xs : List Int) : List Int := xs.foldl insD []
theorem dnL_snoc (xs : List Int) (x : Int) : dnL (xs ++ [x]) = insD (dnL xs) x := by unfold dnL; rw [List.foldl_append]; rfl
theorem dnL_facts (xs : List Int) : (dnL xs).Pairwise downR ∧ (dnL xs).Perm xs := by
  refine snoc_ind (p := fun xs => (dnL xs).Pairwise downR ∧ (dnL xs).Perm xs) ?_ ?_ xs
  · exact ⟨List.Pairwise.nil, List.Perm.refl _⟩
  · intro xs x ⟨h1, h2⟩
    rw [dnL_snoc]
    refine ⟨insD_sorted _ _ h1, (insD_perm _ _).trans ((h2.cons x).trans ?_)⟩
    have := List.perm_append_comm (l₁ := [x]) (l₂ := xs)
    simpa using this
theorem dnL_length (xs : List Int) : (dnL xs).length = xs.length := (dnL_facts xs).2.length_eq

/-- The order in which the program sorts four cards. -/
def ltD (a b : Int) : Bool := decide (lowI b < lowI a ∨ lowI a = lowI b ∧ a < b)
def srtL (xs : List Int) : List Int := xs.mergeSort fun x y => !ltD y x
theorem srtL_perm (xs : List Int) : (srtL xs).Perm xs := List.mergeSort_perm xs _
theorem srtL_length (xs : List Int) : (srtL xs).length = xs.length := (srtL_perm xs).length_eq
theorem srtL_down (xs : List Int) : (srtL xs).Pairwise downR := by
  have h := List.pairwise_mergeSort (le := fun x y : Int => !ltD y x) (fun a b c h k => by unfold ltD at *; simp at *; omega) (fun a b => by unfold ltD; simp; omega) xs
  refine h.imp (fun {a b} h => ?_)
  unfold ltD at h
  unfold downR
  simp at h; omega

def downS (a b : Int) : Prop := lowI b < lowI a
theorem low_ne {a b : Int} (ha : 0 ≤ a ∧ a ≤ 51) (hb : 0 ≤ b ∧ b ≤ 51) (h : a / 4 ≠ b / 4) : lowI a ≠ lowI b := by unfold lowI; omega
theorem down_strict {xs : List Int} (ho : ∀ x ∈ xs, 0 ≤ x ∧ x ≤ 51) (ha : apB xs = true) (hd : xs.Pairwise downR) : xs.Pairwise downS := by
  have h := hd.and (apB_iff.1 ha)
  refine List.Pairwise.imp_of_mem (fun {a b} hma hmb h => ?_) h
  have := low_ne (ho a hma) (ho b hmb) h.2.1
  have h1 : lowI b ≤ lowI a := h.1
  show lowI b < lowI a
  omega
theorem down_eq {xs ys : List Int} (h1 : xs.Pairwise downS) (h2 : ys.Pairwise downS) (h : xs.Perm ys) : xs = ys :=
  List.Perm.eq_of_pairwise (le := downS) (fun a b _ _ h k => by unfold downS at *; omega) h1 h2 h
/-- The lists that either side looks at, as far as they are apart, are the same. -/
theorem cand_iff {four : List Int} (ho : okC four) (n : Nat) {S : List Int} (ha : apB S = true) : S ∈ comb (srtL four) n ↔ S ∈ (comb four n).map dnL := by
  rw [comb_mem, List.mem_map]
  constructor
  · rintro ⟨h1, h2⟩
    obtain ⟨s, hs1, hs2⟩ := List.exists_perm_sublist h1 (srtL_perm four)
    have hS : ∀ x ∈ S, 0 ≤ x ∧ x ≤ 51 := fun x hx => ho.1 x ((srtL_perm four).mem_iff.1 (h1.mem hx))
    have hp : (dnL s).Perm S := (dnL_facts s).2.trans hs1
    refine ⟨s, comb_mem.2 ⟨hs2, by rw [hs1.length_eq, h2]⟩, ?_⟩
    refine down_eq (down_strict (fun x hx => hS x (hp.mem_iff.1 hx)) (by rw [apB_perm hp]; exact ha) (dnL_facts s).1) (down_strict hS ha ((srtL_down four).sublist h1)) hp
  · rintro ⟨s, hs, rfl⟩
    obtain ⟨h1, h2⟩ := comb_mem.1 hs
    obtain ⟨y, hy1, hy2⟩ := List.exists_perm_sublist h1 (srtL_perm four).symm
    have hp : y.Perm (dnL s) := hy1.trans (dnL_facts s).2.symm
    have hS : ∀ x ∈ dnL s, 0 ≤ x ∧ x ≤ 51 := fun x hx => ho.1 x (h1.mem ((dnL_facts s).2.mem_iff.1 hx))
    have e : y = dnL s := down_eq (down_strict (fun x hx => hS x (hp.mem_iff.1 hx)) (by rw [apB_perm hp]; exact ha) ((srtL_down four).sublist hy2)) (down_strict hS ha (dnL_facts s).1) hp
    rw [← e]
    exact ⟨hy2, by rw [hy1.length_eq, h2]⟩
theorem min_eq {four : List Int} (ho : okC four) {n : Nat} (hn : 0 < n) : minB (comb (srtL four) n) = minB ((comb four n).map dnL) :=
  minB_same hn (fun S hS => comb_len hS) (fun S hS => by
    obtain ⟨s, hs, rfl⟩ := List.mem_map.1 hS
    rw [dnL_length]; exact comb_len hs) (fun S ha => cand_iff ho n ha)

/-- The lowest card. -/
def lo1 (b x : Int) : Int := if lowI x < lowI b ∨ lowI x = lowI b ∧ x < b then x else b
def lowest (xs : List Int) : Int := (xs.drop 1).foldl lo1 (xs.getD 0 0)
theorem lowest_snoc {xs : List Int} (h : xs ≠ []) (x : Int) : lowest (xs ++ [x]) = lo1 (lowest xs) x := by
  cases xs with
  | nil => exact absurd rfl h
  | cons y r => simp [lowest, List.foldl_append]
theorem lowest_facts (xs : List Int) : xs ≠ [] → lowest xs ∈ xs ∧ ∀ x ∈ xs, ¬ (lowI x < lowI (lowest xs) ∨ lowI x = lowI (lowest xs) ∧ x < lowest xs) := by
  refine snoc_ind (p := fun xs => xs ≠ [] → lowest xs ∈ xs ∧ ∀ x ∈ xs, ¬ (lowI x < lowI (lowest xs) ∨ lowI x = lowI (lowest xs) ∧ x < lowest xs)) ?_ ?_ xs
  · intro h; exact absurd rfl h
  · intro xs y ih _
    by_cases h : xs = []
    · subst h
      have e : lowest ([] ++ [y]) = y := rfl
      rw [e]
      exact ⟨by simp, fun x hx => by have : x = y := by simpa using hx
                                     subst this; omega⟩
    · obtain ⟨h1, h2⟩ := ih h
      rw [lowest_snoc h]
      unfold lo1
      split
      · rename_i hy
        refine ⟨by simp, fun x hx => ?_⟩
        rcases List.mem_append.1 hx with hx | hx
        · have := h2 x hx; omega
        · have : x = y := by simpa using hx
          subst this; omega
      · rename_i hy
        refine ⟨by simp [h1], fun x hx => ?_⟩
        rcases List.mem_append.1 hx with hx | hx
        · exact h2 x hx
        · have : x = y := by simpa using hx
          subst this; exact hy
theorem min_one {four : List Int} (h : four ≠ []) : minB (comb (srtL four) 1) = [lowest four] := by
  obtain ⟨h1, h2⟩ := lowest_facts four h
  have one : ∀ {S : List Int}, S ∈ comb (srtL four) 1 → ∃ x, S = [x] ∧ x ∈ four := fun {S} hS => by
    obtain ⟨k1, k2⟩ := comb_mem.1 hS
    obtain ⟨x, rfl⟩ := List.length_eq_one_iff.1 k2
    exact ⟨x, rfl, (srtL_perm four).mem_iff.1 (k1.mem (by simp))⟩
  refine minB_is (k := 1) (by omega) (fun S hS => comb_len hS) (comb_mem.2 ⟨List.singleton_sublist.2 ((srtL_perm four).mem_iff.2 h1), rfl⟩) (by simp [apB]) (fun S hS _ => ?_)
  obtain ⟨x, rfl, hx⟩ := one hS
  have := h2 x hx
  unfold lessB
  simp only [List.map_cons, List.map_nil]
  by_cases e : lowI x = lowI (lowest four)
  · rw [if_pos (by rw [e])]
    by_cases e2 : x = lowest four
    · rw [e2]; simp [lexI]
    · simp [lexI, e2]; omega
  · rw [if_neg (by simpa using e)]
    simp [lexI, e]; omega

/-- The cards that the badugi value of four cards takes. -/
def bgL (four : List Int) : List Int :=
  if minB (comb (srtL four) 4) ≠ [] then minB (comb (srtL four) 4) else
  if minB (comb (srtL four) 3) ≠ [] then minB (comb (srtL four) 3) else
  if minB (comb (srtL four) 2) ≠ [] then minB (comb (srtL four) 2) else minB (comb (srtL four) 1)
theorem bgL_facts {four : List Int} (ho : okC four) (h : four.length = 4) : (bgL four).Sublist (srtL four) ∧ apB (bgL four) = true ∧ 1 ≤ (bgL four).length ∧ (bgL four).length ≤ 4 := by
  have key : ∀ n, 0 < n → minB (comb (srtL four) n) ≠ [] → (minB (comb (srtL four) n)).Sublist (srtL four) ∧ apB (minB (comb (srtL four) n)) = true ∧ (minB (comb (srtL four) n)).length = n := fun n hn hne => by
    rcases minB_facts hn (comb (srtL four) n) (fun S hS => comb_len hS) with ⟨h1, _⟩ | ⟨h1, h2, _⟩
    · exact absurd h1 hne
    · exact ⟨(comb_mem.1 h1).1, h2, comb_len h1⟩
  have hne : four ≠ [] := by intro e; subst e; simp at h
  have k1 := key 1 (by omega) (by rw [min_one hne]; simp)
  unfold bgL
  split
  · rename_i h4; have := key 4 (by omega) h4; exact ⟨this.1, this.2.1, by omega, by omega⟩
  · split
    · rename_i h4; have := key 3 (by omega) h4; exact ⟨this.1, this.2.1, by omega, by omega⟩
    · split
      · rename_i h4; have := key 2 (by omega) h4; exact ⟨this.1, this.2.1, by omega, by omega⟩
      · exact ⟨k1.1, k1.2.1, by omega, by omega⟩
theorem bgL_ok {four : List Int} (ho : okC four) (h : four.length = 4) : okC (bgL four) := by
  obtain ⟨h1, _⟩ := bgL_facts ho h
  have h2 := okC_perm (srtL_perm four).symm ho
  exact ⟨fun c hc => h2.1 c (h1.mem hc), h2.2.sublist h1⟩
theorem bgL_down {four : List Int} (ho : okC four) (h : four.length = 4) : (bgL four).Pairwise downS :=
  down_strict (bgL_ok ho h).1 (bgL_facts ho h).2.1 ((srtL_down four).sublist (bgL_facts ho h).1)
end Go.Proofs.Ytgkhhfkijepenaa
