/-
  Plain mathematics of the draws: cards that are put together, dealt and picked are cards.
-/
import Derived.Test.YtmmpeaedglnjlaaMathOthers
import Derived.Test.YtmmpeaedglnjlaaMathCount
namespace Go.Proofs.Ytmmpeaedglnjlaa

theorem okC_perm {xs ys : List Int} (h : xs.Perm ys) (ho : okC xs) : okC ys := ⟨fun c hc => ho.1 c (h.mem_iff.2 hc), h.nodup_iff.1 ho.2⟩
theorem othK_mem {xs : List Int} {k : Nat} {x : Int} : x ∈ othK xs k ↔ 0 ≤ x ∧ x < (k : Int) ∧ x ∉ xs := by
  induction k with
  | zero => simp [othK]; omega
  | succ k ih =>
    by_cases h : (k : Int) ∈ xs
    · rw [othK_in h, ih]
      constructor
      · rintro ⟨a, b, c⟩; exact ⟨a, by omega, c⟩
      · rintro ⟨a, b, c⟩
        exact ⟨a, by
          have : x ≠ (k : Int) := by intro e; subst e; exact c h
          omega, c⟩
    · rw [othK_out h, List.mem_append, ih, List.mem_singleton]
      constructor
      · rintro (⟨a, b, c⟩ | rfl)
        · exact ⟨a, by omega, c⟩
        · exact ⟨by omega, by omega, h⟩
      · rintro ⟨a, b, c⟩
        by_cases e : x = (k : Int)
        · exact .inr e
        · exact .inl ⟨a, by omega, c⟩
theorem othK_nodup (xs : List Int) (k : Nat) : (othK xs k).Nodup := by
  induction k with
  | zero => simp [othK]
  | succ k ih =>
    by_cases h : (k : Int) ∈ xs
    · rw [othK_in h]; exact ih
    · rw [othK_out h, List.nodup_append]
      exact ⟨ih, by simp, fun a ha b hb => by
        simp at hb; subst hb
        have := (othK_mem.1 ha).2.1
        omega⟩
theorem othK_ge (xs : List Int) (k : Nat) : k ≤ (othK xs k).length + xs.length := by
  -- the first k numbers are each in xs or in the list
  have h : ∀ x, x ∈ (List.range k).map (fun i : Nat => (i : Int)) → x ∈ othK xs k ++ xs := by
    intro x hx
    obtain ⟨i, hi, rfl⟩ := List.mem_map.1 hx
    rw [List.mem_range] at hi
    by_cases hm : (i : Int) ∈ xs
    · simp [hm]
    · rw [List.mem_append]; exact .inl (othK_mem.2 ⟨by omega, by omega, hm⟩)
  have hn : ((List.range k).map (fun i : Nat => (i : Int))).Nodup := by
    rw [List.nodup_iff_pairwise_ne, List.pairwise_map]
    exact List.nodup_range.imp (fun h e => h (by omega))
  have := hn.length_le_of_subset (fun x hx => h x hx)
  simpa using this
/-- What is dealt without some cards makes cards with them. -/
theorem deal_ok {wo ys rest : List Int} {n : Nat} (ho : okC wo) (h : (ys ++ rest).Perm (othK wo 52)) (hn : (ys.length : Int) = n ∨ rest = []) (hle : (ys.length : Int) ≤ n) (hw : wo.length + n ≤ 52) : okC (wo ++ ys) ∧ ys.length = n := by
  have hm : ∀ y ∈ ys, 0 ≤ y ∧ y ≤ 51 ∧ y ∉ wo := by
    intro y hy
    have := othK_mem.1 (h.mem_iff.1 (List.mem_append_left rest hy))
    exact ⟨this.1, by omega, this.2.2⟩
  have hnd : ys.Nodup := (List.nodup_append.1 (h.nodup_iff.2 (othK_nodup wo 52))).1
  refine ⟨⟨fun c hc => ?_, ?_⟩, ?_⟩
  · rcases List.mem_append.1 hc with hc | hc
    · exact ho.1 c hc
    · exact ⟨(hm c hc).1, (hm c hc).2.1⟩
  · exact List.nodup_append.2 ⟨ho.2, hnd, fun a ha b hb e => (hm b hb).2.2 (e ▸ ha)⟩
  · rcases hn with hn | hn
    · omega
    · subst hn
      have := h.length_eq
      have := othK_ge wo 52
      simp at *
      omega

/-- Cards whose ranks follow a rule. -/
def ruleC (g : Nat → Int) (xs : List Int) (k : Nat) : Prop := okC xs ∧ xs.length = k ∧ ∀ x ∈ xs, ∃ j, j < k ∧ x / 4 = g j
theorem ruleC_nil (g : Nat → Int) : ruleC g [] 0 := ⟨okC_nil, rfl, fun x hx => by cases hx⟩
theorem ruleC.snoc {g : Nat → Int} {xs : List Int} {k : Nat} {s : Int} (h : ruleC g xs k) (hg : 0 ≤ g k ∧ g k < 13) (hne : ∀ j, j < k → g j ≠ g k) (h0 : 0 ≤ s) (h3 : s < 4) : ruleC g (xs ++ [4 * g k + s]) (k + 1) := by
  obtain ⟨ho, hl, hr⟩ := h
  have hd : (4 * g k + s) / 4 = g k := by omega
  refine ⟨okC_snoc ho (by omega) (by omega) (fun hm => ?_), by simp [hl], fun x hx => ?_⟩
  · obtain ⟨j, hj, e⟩ := hr _ hm
    exact hne j hj (by rw [← e, hd])
  · rcases List.mem_append.1 hx with hx | hx
    · obtain ⟨j, hj, e⟩ := hr x hx
      exact ⟨j, by omega, e⟩
    · simp at hx; subst hx
      exact ⟨k, by omega, hd⟩
theorem okC_mk {xs : List Int} (h1 : ∀ x ∈ xs, 0 ≤ x ∧ x ≤ 51) (h2 : xs.Pairwise (· ≠ ·)) : okC xs := ⟨h1, h2⟩
section
variable {r t s b : Int}
theorem case2_ok (r0 : 0 ≤ r) (r1 : r < 13) (t0 : 0 ≤ t) (t1 : t < 13) (hne : r ≠ t) (s0 : 0 ≤ s) (s1 : s < 4) : okC [4 * r, 4 * r + 1, 4 * r + 2, 4 * r + 3, 4 * t + s] := by
  refine okC_mk ?_ ?_
  · simp; omega
  · simp; omega
theorem case3_ok (r0 : 0 ≤ r) (r1 : r < 13) (t0 : 0 ≤ t) (t1 : t < 13) (hne : r ≠ t) (s0 : 0 ≤ s) (s1 : s < 4) (b0 : 0 ≤ b) (b1 : b < 2) : okC [4 * r, 4 * r + 1 + b, 4 * r + 3, 4 * t + s, 4 * t + (s + 1) % 4] := by
  refine okC_mk ?_ ?_
  · simp; omega
  · simp; omega
theorem case5_ok (r0 : 0 ≤ r) (r1 : r < 13) (t0 : 0 ≤ t) (t1 : t < 13) (hne : r ≠ t) (s0 : 0 ≤ s) (s1 : s < 4) : okC [4 * r + s, 4 * r + (s + 1) % 4, 4 * t + s, 4 * t + (s + 2) % 4] := by
  refine okC_mk ?_ ?_
  · simp; omega
  · simp; omega
theorem case6_ok (r0 : 0 ≤ r) (r1 : r < 13) (s0 : 0 ≤ s) (s1 : s < 4) : okC [4 * r + s, 4 * r + (s + 1) % 4, 4 * r + (s + 2) % 4] := by
  refine okC_mk ?_ ?_
  · simp; omega
  · simp; omega
theorem case20_ok (r0 : 0 ≤ r) (r1 : r < 13) (s0 : 0 ≤ s) (s1 : s < 4) : okC [4 * r + s, 4 * r + (s + 1) % 4] := by
  refine okC_mk ?_ ?_
  · simp; omega
  · simp; omega
theorem case23_ok (r0 : 0 ≤ r) (r1 : r < 13) : okC [4 * r, 4 * r + 1, 4 * r + 2, 4 * r + 3] := by
  refine okC_mk ?_ ?_
  · simp; omega
  · simp; omega
end
end Go.Proofs.Ytmmpeaedglnjlaa
