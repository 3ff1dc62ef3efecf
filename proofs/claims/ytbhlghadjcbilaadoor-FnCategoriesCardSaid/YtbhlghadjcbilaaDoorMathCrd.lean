/-
  Plain mathematics: the greatest value of five among some cards; five cards by both rules. No program is in sight.
-/
import Derived.Test.YtbhlghadjcbilaaDoorMathFive
import Derived.Test.YtbhlghadjcbilaaDoorMathDeck
namespace Go.Proofs.YtbhlghadjcbilaaDoor

/-! ### Cards -/
/-- How many cards have a rank; how many have a suit. -/
def cnt (xs : List Int) (r : Nat) : Nat := xs.countP fun x => decide (x / 4 = (r : Int))
def sut (xs : List Int) (s : Nat) : Nat := xs.countP fun x => decide (x % 4 = (s : Int))
/-- The ranks of the cards of a suit. -/
def inS (xs : List Int) (s r : Nat) : Bool := xs.any fun x => decide (x % 4 = (s : Int)) && decide (x / 4 = (r : Int))
/-- The ranks of a suit with at least five cards. -/
def flm (xs : List Int) : Option (Nat → Bool) := ([0, 1, 2, 3].find? fun s => decide (5 ≤ sut xs s)).map (inS xs)
/-- The value of at least five cards. -/
def Vx (xs : List Int) (low : Bool) : Nat := V (cnt xs) (flm xs) low

theorem cnt_sub {S L : List Int} (h : S.Sublist L) (r : Nat) : cnt S r ≤ cnt L r := List.Sublist.countP_le h
theorem sut_sub {S L : List Int} (h : S.Sublist L) (r : Nat) : sut S r ≤ sut L r := List.Sublist.countP_le h
theorem okC_sub {S L : List Int} (h : S.Sublist L) (ho : okC L) : okC S := ⟨fun c hc => ho.1 c (h.mem hc), ho.2.sublist h⟩
theorem key_le {xs : List Int} (ho : okC xs) (g : Int → Int) (n : Nat) (P : Int → Bool) (hinj : ∀ x y, P x = true → P y = true → g x = g y → x = y) (hg : ∀ x, 0 ≤ x → x ≤ 51 → P x = true → 0 ≤ g x ∧ g x < (n : Int)) : xs.countP P ≤ n := by
  rw [List.countP_eq_length_filter]
  have h1 : ((xs.filter P).map g).Nodup := by
    rw [List.Nodup, List.pairwise_map]
    have h2 : (xs.filter P).Nodup := ho.2.sublist List.filter_sublist
    refine List.Pairwise.imp_of_mem (fun {a b} ha hb hne e => hne ?_) h2
    exact hinj a b (List.mem_filter.1 ha).2 (List.mem_filter.1 hb).2 e
  have h3 := nodup_len n _ h1 (fun c hc => by
    obtain ⟨x, hx, rfl⟩ := List.mem_map.1 hc
    obtain ⟨hx1, hx2⟩ := List.mem_filter.1 hx
    exact hg x (ho.1 x hx1).1 (ho.1 x hx1).2 hx2)
  simpa using h3
theorem cnt_le {xs : List Int} (ho : okC xs) (r : Nat) : cnt xs r ≤ 4 := by
  refine key_le ho (fun x => x % 4) 4 _ (fun x y h1 h2 h3 => ?_) (fun x _ _ _ => by omega)
  simp at h1 h2
  have : x % 4 = y % 4 := h3
  omega
theorem total_cnt {xs : List Int} (ho : okC xs) : total (cnt xs) = xs.length := by
  have H : ∀ ys : List Int, (∀ x ∈ ys, 0 ≤ x ∧ x ≤ 51) → total (cnt ys) = ys.length := by
    intro ys
    induction ys with
    | nil => intro _; decide
    | cons x ys ih =>
      intro h
      have ih := ih (fun y hy => h y (by simp [hy]))
      have hx := h x (by simp)
      have e : ∀ r, cnt (x :: ys) r = cnt ys r + if x / 4 = (r : Int) then 1 else 0 := fun r => by
        unfold cnt; rw [List.countP_cons]; simp
      have : total (cnt (x :: ys)) = total (cnt ys) + (ranks.map fun r => if x / 4 = ((r : Nat) : Int) then 1 else 0).sum := by
        unfold total
        rw [← sum_add]
        congr 1
        exact List.map_congr_left fun r _ => e r
      rw [this, ih]
      obtain ⟨q, hq⟩ : ∃ q : Nat, x / 4 = (q : Int) := ⟨(x / 4).toNat, by omega⟩
      have hq13 : q < 13 := by omega
      have : (ranks.map fun r => if x / 4 = ((r : Nat) : Int) then 1 else 0).sum = 1 := by
        rw [hq]
        have : (fun r : Nat => if (q : Int) = (r : Int) then 1 else 0) = fun r : Nat => if q = r then 1 else 0 := by
          funext r
          by_cases e : q = r
          · simp [e]
          · rw [if_neg e, if_neg (by omega)]
        rw [this]
        have all : ∀ q, q < 13 → (ranks.map fun r => if q = r then 1 else 0).sum = 1 := by decide
        exact all q hq13
      simp [this]
  exact H xs ho.1
/-- Of a list cards can be taken, in order, so many of each rank. -/
theorem pick (L : List Int) : ∀ need : Nat → Nat, (∀ x ∈ L, 0 ≤ x) → (∀ r, need r ≤ cnt L r) → ∃ S : List Int, S.Sublist L ∧ ∀ r, cnt S r = need r := by
  induction L with
  | nil => intro need _ h; exact ⟨[], List.Sublist.refl _, fun r => by have := h r; simp [cnt] at this ⊢; omega⟩
  | cons x L ih =>
    intro need hx h
    have e : ∀ (M : List Int) r, cnt (x :: M) r = cnt M r + if x / 4 = (r : Int) then 1 else 0 := fun M r => by
      unfold cnt; rw [List.countP_cons]; simp
    obtain ⟨q, hq⟩ : ∃ q : Nat, x / 4 = (q : Int) := ⟨(x / 4).toNat, by have := hx x (by simp); omega⟩
    have hx' : ∀ y ∈ L, 0 ≤ y := fun y hy => hx y (by simp [hy])
    by_cases hs : need q ≤ cnt L q
    · obtain ⟨S, h1, h2⟩ := ih need hx' (fun r => by
        have := h r
        rw [e] at this
        by_cases er : q = r
        · subst er; exact hs
        · rw [if_neg (by omega)] at this; exact this)
      exact ⟨S, h1.cons x, h2⟩
    · obtain ⟨S, h1, h2⟩ := ih (fun r => if q = r then need r - 1 else need r) hx' (fun r => by
        have := h r
        rw [e] at this
        by_cases er : q = r
        · subst er; rw [if_pos hq] at this; rw [if_pos rfl]; omega
        · rw [if_neg (by omega)] at this; rw [if_neg er]; exact this)
      refine ⟨x :: S, h1.cons_cons x, fun r => ?_⟩
      rw [e, h2]
      by_cases er : q = r
      · subst er; rw [if_pos rfl, if_pos hq]; omega
      · rw [if_neg er, if_neg (by omega)]; rfl

section
variable {c c' : Nat → Nat} {fl fl' : Option (Nat → Bool)} {k v : Nat}
theorem but1_mono (h : ∀ r, c r ≤ c' r) {a r : Nat} (e : but1 (hasR c) a r = true) : but1 (hasR c') a r = true := by
  have := h r
  simp [but1, hasR] at e ⊢; omega
theorem but2_mono (h : ∀ r, c r ≤ c' r) {a b r : Nat} (e : but2 (hasR c) a b r = true) : but2 (hasR c') a b r = true := by
  have := h r
  simp [but2, hasR] at e ⊢; omega
theorem hasR_mono (h : ∀ r, c r ≤ c' r) {r : Nat} (e : hasR c r = true) : hasR c' r = true := by
  have := h r
  simp [hasR] at e ⊢; omega
theorem stAt_mono {P Q : Nat → Bool} (h : ∀ r, P r = true → Q r = true) {t : Nat} (e : stAt P t = true) : stAt Q t = true := by
  obtain ⟨a, b, d, f, g⟩ := stAt_has e
  simp [stAt, h _ a, h _ b, h _ d, h _ f, h _ g]
theorem lowAt_mono {P Q : Nat → Bool} (h : ∀ r, P r = true → Q r = true) (e : lowAt P = true) : lowAt Q = true := by
  have : P 12 = true ∧ P 3 = true ∧ P 2 = true ∧ P 1 = true ∧ P 0 = true := by simpa [lowAt, and_assoc] using e
  obtain ⟨a, b, d, f, g⟩ := this
  simp [lowAt, h _ a, h _ b, h _ d, h _ f, h _ g]
/-- More cards leave every choice. -/
theorem Feas.mono (h : Feas c fl k v) (hc : ∀ r, c r ≤ c' r) (hf : ∀ p, fl = some p → ∃ p', fl' = some p' ∧ ∀ r, p r = true → p' r = true) : Feas c' fl' k v := by
  cases h
  case sf p t h1 h2 h3 h4 => obtain ⟨p', e, g⟩ := hf p h1; exact .sf p' t e h2 h3 (stAt_mono g h4)
  case sfl p h1 h2 => obtain ⟨p', e, g⟩ := hf p h1; exact .sfl p' e (lowAt_mono g h2)
  case quad a ks h1 h2 h3 h4 h5 => exact .quad a ks h1 (Nat.le_trans h2 (hc a)) h3 h4 (fun r hr => ⟨(h5 r hr).1, but1_mono hc (h5 r hr).2⟩)
  case fh a b h1 h2 h3 h4 h5 => exact .fh a b h1 h2 h3 (Nat.le_trans h4 (hc a)) (Nat.le_trans h5 (hc b))
  case fls p ks h1 h2 h3 h4 => obtain ⟨p', e, g⟩ := hf p h1; exact .fls p' ks e h2 h3 (fun r hr => ⟨(h4 r hr).1, g r (h4 r hr).2⟩)
  case st t h1 h2 h3 => exact .st t h1 h2 (stAt_mono (fun r => hasR_mono hc) h3)
  case stl h1 => exact .stl (lowAt_mono (fun r => hasR_mono hc) h1)
  case tr a ks h1 h2 h3 h4 h5 => exact .tr a ks h1 (Nat.le_trans h2 (hc a)) h3 h4 (fun r hr => ⟨(h5 r hr).1, but1_mono hc (h5 r hr).2⟩)
  case tp a b ks h1 h2 h3 h4 h5 h6 h7 => exact .tp a b ks h1 h2 (Nat.le_trans h3 (hc a)) (Nat.le_trans h4 (hc b)) h5 h6 (fun r hr => ⟨(h7 r hr).1, but2_mono hc (h7 r hr).2⟩)
  case op a ks h1 h2 h3 h4 h5 => exact .op a ks h1 (Nat.le_trans h2 (hc a)) h3 h4 (fun r hr => ⟨(h5 r hr).1, but1_mono hc (h5 r hr).2⟩)
  case hc ks h1 h2 h3 => exact .hc ks h1 h2 (fun r hr => ⟨(h3 r hr).1, hasR_mono hc (h3 r hr).2⟩)

theorem count_one {ks : List Nat} (h : ks.Pairwise (· > ·)) (r : Nat) : ks.count r ≤ 1 ∧ (r ∉ ks → ks.count r = 0) := by
  have hn : ks.Nodup := h.imp (fun h => by omega)
  refine ⟨?_, fun h => List.count_eq_zero.2 h⟩
  by_cases e : r ∈ ks
  · exact List.nodup_iff_count.1 hn r
  · rw [List.count_eq_zero.2 e]; omega
theorem count_pre {pre ks : List Nat} (hp : ∀ r, pre.count r ≤ c r) (hk : ks.Pairwise (· > ·)) (h : ∀ k ∈ ks, 1 ≤ c k ∧ k ∉ pre) (r : Nat) : (pre ++ ks).count r ≤ c r := by
  have h1 := count_one hk r
  rw [List.count_append]
  by_cases e : r ∈ ks
  · have h2 := h r e
    rw [List.count_eq_zero.2 h2.2]; omega
  · have := h1.2 e; have := hp r; omega
theorem count_get {pre ks : List Nat} (g : ∀ r, (pre ++ ks).count r ≤ c' r) : (∀ r, pre.count r ≤ c' r) ∧ ∀ k ∈ ks, 1 ≤ c' k := by
  refine ⟨fun r => ?_, fun k hk => ?_⟩
  · have := g r; rw [List.count_append] at this; omega
  · have := g k; rw [List.count_append] at this
    have := List.count_pos_iff.2 hk
    omega
theorem count_rep (a n r : Nat) : (List.replicate n a).count r = if a = r then n else 0 := by
  rw [List.count_replicate]; simp
/-- What a choice of another category than flushes needs: the digits, so often as they occur. -/
theorem Feas.need (h : Feas c fl k v) (hk8 : k ≠ 8) (hk5 : k ≠ 5) : ∃ ds : List Nat, ds.length = 5 ∧ (∀ d ∈ ds, d < 13) ∧ (∀ r, ds.count r ≤ c r) ∧ ∀ c' fl', (∀ r, ds.count r ≤ c' r) → Feas c' fl' k v := by
  have pre1 : ∀ (n a : Nat) (ks : List Nat), a < 13 → n ≤ c a → ks.length + n = 5 → ks.Pairwise (· > ·) → (∀ k ∈ ks, k < 13 ∧ but1 (hasR c) a k = true) →
      ∃ ds : List Nat, ds.length = 5 ∧ (∀ d ∈ ds, d < 13) ∧ (∀ r, ds.count r ≤ c r) ∧ ∀ c' : Nat → Nat, (∀ r, ds.count r ≤ c' r) → n ≤ c' a ∧ ∀ k ∈ ks, k < 13 ∧ but1 (hasR c') a k = true := by
    intro n a ks h1 h2 h3 h4 h5
    refine ⟨List.replicate n a ++ ks, by simp; omega, fun d hd => ?_, count_pre (fun r => ?_) h4 (fun k hk => ?_), fun c' g => ?_⟩
    · rcases List.mem_append.1 hd with e | e
      · have := List.eq_of_mem_replicate e; omega
      · exact (h5 d e).1
    · rw [count_rep]; split
      · next e => subst e; exact h2
      · omega
    · have := (h5 k hk).2
      simp [but1, hasR] at this
      exact ⟨by omega, fun e => this.2 (List.eq_of_mem_replicate e)⟩
    · obtain ⟨g1, g2⟩ := count_get g
      refine ⟨by have := g1 a; rw [count_rep, if_pos rfl] at this; exact this, fun k hk => ⟨(h5 k hk).1, ?_⟩⟩
      have := (h5 k hk).2
      have := g2 k hk
      simp [but1, hasR] at *
      omega
  cases h
  case sf => exact absurd rfl hk8
  case sfl => exact absurd rfl hk8
  case fls => exact absurd rfl hk5
  case quad a ks h1 h2 h3 h4 h5 =>
    obtain ⟨ds, d1, d2, d3, d4⟩ := pre1 4 a ks h1 h2 (by omega) h4 h5
    exact ⟨ds, d1, d2, d3, fun c' fl' g => .quad a ks h1 (d4 c' g).1 h3 h4 (d4 c' g).2⟩
  case tr a ks h1 h2 h3 h4 h5 =>
    obtain ⟨ds, d1, d2, d3, d4⟩ := pre1 3 a ks h1 h2 (by omega) h4 h5
    exact ⟨ds, d1, d2, d3, fun c' fl' g => .tr a ks h1 (d4 c' g).1 h3 h4 (d4 c' g).2⟩
  case op a ks h1 h2 h3 h4 h5 =>
    obtain ⟨ds, d1, d2, d3, d4⟩ := pre1 2 a ks h1 h2 (by omega) h4 h5
    exact ⟨ds, d1, d2, d3, fun c' fl' g => .op a ks h1 (d4 c' g).1 h3 h4 (d4 c' g).2⟩
  case hc ks h1 h2 h3 =>
    refine ⟨[] ++ ks, by simpa using h1, fun d hd => (h3 d (by simpa using hd)).1, count_pre (fun r => by simp) h2 (fun k hk => ⟨by simpa [hasR] using (h3 k hk).2, by simp⟩), fun c' fl' g => ?_⟩
    obtain ⟨_, g2⟩ := count_get g
    exact .hc ks h1 h2 (fun r hr => ⟨(h3 r hr).1, by simpa [hasR] using g2 r hr⟩)
  case fh a b h1 h2 h3 h4 h5 =>
    refine ⟨[a, a, a, b, b], rfl, fun d hd => by simp only [List.mem_cons, List.not_mem_nil, or_false] at hd; omega, fun r => ?_, fun c' fl' g => .fh a b h1 h2 h3 ?_ ?_⟩
    · by_cases ea : a = r
      · subst ea; simp [Ne.symm h3]; exact h4
      · by_cases eb : b = r
        · subst eb; simp [h3]; exact h5
        · simp [ea, eb]
    · have := g a; simp [Ne.symm h3] at this; exact this
    · have := g b; simp [h3] at this; exact this
  case tp a b ks h1 h2 h3 h4 h5 h6 h7 =>
    have hne : a ≠ b := by omega
    refine ⟨[a, a, b, b] ++ ks, by simp; omega, fun d hd => ?_, count_pre (fun r => ?_) h6 (fun k hk => ?_), fun c' fl' g => ?_⟩
    · rcases List.mem_append.1 hd with e | e
      · simp only [List.mem_cons, List.not_mem_nil, or_false] at e; omega
      · exact (h7 d e).1
    · by_cases ea : a = r
      · subst ea; simp [Ne.symm hne]; exact h3
      · by_cases eb : b = r
        · subst eb; simp [hne]; exact h4
        · simp [ea, eb]
    · have := (h7 k hk).2
      simp [but2, hasR] at this
      refine ⟨by omega, ?_⟩
      simp only [List.mem_cons, List.not_mem_nil, or_false]; omega
    · obtain ⟨g1, g2⟩ := count_get g
      refine .tp a b ks h1 h2 ?_ ?_ h5 h6 (fun k hk => ⟨(h7 k hk).1, ?_⟩)
      · have := g1 a; simp [Ne.symm hne] at this; exact this
      · have := g1 b; simp [hne] at this; exact this
      · have := (h7 k hk).2
        have := g2 k hk
        simp [but2, hasR] at *
        omega
  case st t h1 h2 h3 =>
    have hp : [t, t - 1, t - 2, t - 3, t - 4].Pairwise (· > ·) := by simp; omega
    obtain ⟨a, b, d, f, g⟩ := stAt_has h3
    simp only [hasR, decide_eq_true_eq] at a b d f g
    refine ⟨[] ++ [t, t - 1, t - 2, t - 3, t - 4], rfl, fun d hd => by simp only [List.nil_append, List.mem_cons, List.not_mem_nil, or_false] at hd; omega, count_pre (fun r => by simp) hp (fun k hk => ⟨?_, by simp⟩), fun c' fl' e => .st t h1 h2 ?_⟩
    · simp only [List.mem_cons, List.not_mem_nil, or_false] at hk
      rcases hk with rfl | rfl | rfl | rfl | rfl <;> assumption
    · obtain ⟨_, g2⟩ := count_get e
      have e1 := g2 t (by simp); have e2 := g2 (t - 1) (by simp); have e3 := g2 (t - 2) (by simp); have e4 := g2 (t - 3) (by simp); have e5 := g2 (t - 4) (by simp)
      simp [stAt, hasR, e1, e2, e3, e4, e5]
  case stl h1 =>
    have hp : [12, 3, 2, 1, 0].Pairwise (· > ·) := by decide
    have : c 12 ≥ 1 ∧ c 3 ≥ 1 ∧ c 2 ≥ 1 ∧ c 1 ≥ 1 ∧ c 0 ≥ 1 := by simpa [lowAt, hasR, and_assoc] using h1
    refine ⟨[] ++ [12, 3, 2, 1, 0], rfl, fun d hd => by simp only [List.nil_append, List.mem_cons, List.not_mem_nil, or_false] at hd; omega, count_pre (fun r => by simp) hp (fun k hk => ⟨?_, by simp⟩), fun c' fl' e => .stl ?_⟩
    · simp only [List.mem_cons, List.not_mem_nil, or_false] at hk
      rcases hk with rfl | rfl | rfl | rfl | rfl <;> omega
    · obtain ⟨_, g2⟩ := count_get e
      have e1 := g2 12 (by simp); have e2 := g2 3 (by simp); have e3 := g2 2 (by simp); have e4 := g2 1 (by simp); have e5 := g2 0 (by simp)
      simp [lowAt, hasR, e1, e2, e3, e4, e5]
/-- What a flush needs: one card of each digit. -/
theorem Feas.needF (h : Feas c fl k v) (hk : k = 8 ∨ k = 5) : ∃ (p : Nat → Bool) (ds : List Nat), fl = some p ∧ ds.length = 5 ∧ ds.Pairwise (· > ·) ∧ (∀ d ∈ ds, d < 13 ∧ p d = true) ∧ ∀ (c' : Nat → Nat) (p' : Nat → Bool), (∀ d ∈ ds, p' d = true) → Feas c' (some p') k v := by
  cases h <;> try (exfalso; omega)
  case sf p t h1 h2 h3 h4 =>
    obtain ⟨a, b, d, f, g⟩ := stAt_has h4
    refine ⟨p, [t, t - 1, t - 2, t - 3, t - 4], h1, rfl, by simp; omega, fun k hk => ?_, fun c' p' e => .sf p' t rfl h2 h3 ?_⟩
    · simp only [List.mem_cons, List.not_mem_nil, or_false] at hk
      refine ⟨by omega, ?_⟩
      rcases hk with rfl | rfl | rfl | rfl | rfl <;> assumption
    · simp [stAt, e t (by simp), e (t - 1) (by simp), e (t - 2) (by simp), e (t - 3) (by simp), e (t - 4) (by simp)]
  case sfl p h1 h2 =>
    have : p 12 = true ∧ p 3 = true ∧ p 2 = true ∧ p 1 = true ∧ p 0 = true := by simpa [lowAt, and_assoc] using h2
    obtain ⟨a, b, d, f, g⟩ := this
    refine ⟨p, [12, 3, 2, 1, 0], h1, rfl, by decide, fun k hk => ?_, fun c' p' e => .sfl p' rfl ?_⟩
    · simp only [List.mem_cons, List.not_mem_nil, or_false] at hk
      refine ⟨by omega, ?_⟩
      rcases hk with rfl | rfl | rfl | rfl | rfl <;> assumption
    · simp [lowAt, e 12 (by simp), e 3 (by simp), e 2 (by simp), e 1 (by simp), e 0 (by simp)]
  case fls p ks h1 h2 h3 h4 => exact ⟨p, ks, h1, h2, h3, h4, fun c' p' e => .fls p' ks rfl h2 h3 (fun d hd => ⟨(h4 d hd).1, e d hd⟩)⟩
end

theorem total_count (ds : List Nat) (h : ∀ d ∈ ds, d < 13) : total (fun r => ds.count r) = ds.length := by
  induction ds with
  | nil => decide
  | cons d ds ih =>
    have e : (fun r => (d :: ds).count r) = fun r => ds.count r + if d = r then 1 else 0 := by
      funext r; rw [List.count_cons]; simp
    have hd := h d (by simp)
    unfold total at ih ⊢
    rw [e, sum_add, ih (fun x hx => h x (by simp [hx]))]
    have all : ∀ q, q < 13 → (ranks.map fun r => if q = r then 1 else 0).sum = 1 := by decide
    rw [all d hd]; rfl
theorem inS_iff {xs : List Int} {s r : Nat} : inS xs s r = true ↔ ∃ x ∈ xs, x % 4 = (s : Int) ∧ x / 4 = (r : Int) := by simp [inS]
theorem sut_two (xs : List Int) (s s' : Nat) (h : s ≠ s') : sut xs s + sut xs s' ≤ xs.length := by
  induction xs with
  | nil => simp [sut]
  | cons x xs ih =>
    have h1 : ∀ q : Nat, sut (x :: xs) q = sut xs q + if x % 4 = (q : Int) then 1 else 0 := fun q => by unfold sut; rw [List.countP_cons]; simp
    rw [h1, h1, List.length_cons]
    by_cases e : x % 4 = (s : Int)
    · rw [if_pos e, if_neg (by omega)]; omega
    · rw [if_neg e]; split <;> omega
theorem flm_some {xs : List Int} {p : Nat → Bool} (h : flm xs = some p) : ∃ s, s < 4 ∧ 5 ≤ sut xs s ∧ p = inS xs s := by
  unfold flm at h
  obtain ⟨s, h1, h2⟩ := Option.map_eq_some_iff.1 h
  have m := List.mem_of_find?_eq_some h1
  have q := List.find?_some h1
  simp only [List.mem_cons, List.not_mem_nil, or_false] at m
  exact ⟨s, by omega, by simpa using q, h2.symm⟩
theorem flm_of {xs : List Int} {s : Nat} (hs : s < 4) (h : 5 ≤ sut xs s) (hl : xs.length ≤ 9) : flm xs = some (inS xs s) := by
  cases e : flm xs
  · unfold flm at e
    have := List.find?_eq_none.1 (Option.map_eq_none_iff.1 e) s (by simp only [List.mem_cons, List.not_mem_nil, or_false]; omega)
    simp at this; omega
  · obtain ⟨s', h1, h2, h3⟩ := flm_some e
    by_cases es : s = s'
    · subst es; rw [h3]
    · have := sut_two xs s s' es; omega
theorem nodup_sub : ∀ {l D : List Nat}, l.Nodup → (∀ x ∈ l, x ∈ D) → l.length ≤ D.length
  | [], _, _, _ => Nat.zero_le _
  | x :: l, D, hn, h => by
    rw [List.nodup_cons] at hn
    have hx := h x (by simp)
    have := nodup_sub (D := D.erase x) hn.2 (fun y hy => (List.mem_erase_of_ne (fun e => hn.1 (by rw [← e]; exact hy))).2 (h y (by simp [hy])))
    have h5 := List.length_erase_of_mem hx
    have := List.length_pos_of_mem hx
    rw [List.length_cons]
    omega
theorem desc_len {xs : List Int} (ho : okC xs) (s : Nat) (hs : s < 4) : sut xs s ≤ (desc (inS xs s)).length := by
  -- the cards of a suit have different ranks
  have h1 : sut xs s ≤ ((xs.filter fun x => decide (x % 4 = (s : Int))).map fun x => (x / 4).toNat).length := by simp [sut, List.countP_eq_length_filter]
  have h2 : ((xs.filter fun x => decide (x % 4 = (s : Int))).map fun x => (x / 4).toNat).Nodup := by
    rw [List.Nodup, List.pairwise_map]
    have h2 : (xs.filter fun x => decide (x % 4 = (s : Int))).Nodup := ho.2.sublist List.filter_sublist
    refine List.Pairwise.imp_of_mem (fun {a b} ha hb hne e => hne ?_) h2
    obtain ⟨a1, a2⟩ := List.mem_filter.1 ha
    obtain ⟨b1, b2⟩ := List.mem_filter.1 hb
    have := ho.1 a a1; have := ho.1 b b1
    simp at a2 b2
    omega
  have h3 : ∀ r ∈ (xs.filter fun x => decide (x % 4 = (s : Int))).map fun x => (x / 4).toNat, r ∈ desc (inS xs s) := by
    intro r hr
    obtain ⟨x, hx, rfl⟩ := List.mem_map.1 hr
    obtain ⟨a1, a2⟩ := List.mem_filter.1 hx
    have := ho.1 x a1
    simp at a2
    exact mem_desc.2 ⟨by omega, inS_iff.2 ⟨x, a1, a2, by omega⟩⟩
  exact Nat.le_trans h1 (nodup_sub h2 h3)
/-- The value is that of the best choice of five. -/
theorem Vx_vb {xs : List Int} (ho : okC xs) (h5 : 5 ≤ xs.length) : ∃ k, VB (cnt xs) (flm xs) k (Vx xs true) :=
  V_vb _ _ (cnt_le ho) (by rw [total_cnt ho]; exact h5) (fun p hp => by
    obtain ⟨s, h1, h2, rfl⟩ := flm_some hp
    exact Nat.le_trans h2 (desc_len ho s h1))
theorem Vx_sub {S L : List Int} (ho : okC L) (h : S.Sublist L) (h5 : 5 ≤ S.length) (h8 : L.length ≤ 8) : Vx S true ≤ Vx L true := by
  obtain ⟨k, hk⟩ := Vx_vb (okC_sub h ho) h5
  obtain ⟨j, hj⟩ := Vx_vb ho (Nat.le_trans h5 h.length_le)
  refine (hk.feas.mono (cnt_sub h) (fun p hp => ?_)).le (cnt_le ho) hj
  obtain ⟨s, h1, h2, rfl⟩ := flm_some hp
  refine ⟨inS L s, flm_of h1 (Nat.le_trans h2 (sut_sub h s)) (by omega), fun r hr => ?_⟩
  obtain ⟨x, hx, hx2⟩ := inS_iff.1 hr
  exact inS_iff.2 ⟨x, h.mem hx, hx2⟩
theorem Vx_five {L : List Int} (ho : okC L) (h5 : 5 ≤ L.length) (h8 : L.length ≤ 8) : ∃ S : List Int, S.Sublist L ∧ S.length = 5 ∧ Vx S true = Vx L true := by
  obtain ⟨k, hk⟩ := Vx_vb ho h5
  have main : ∃ S : List Int, S.Sublist L ∧ S.length = 5 ∧ Feas (cnt S) (flm S) k (Vx L true) := by
    by_cases hf : k = 8 ∨ k = 5
    · obtain ⟨p, ds, e, d1, d2, d3, d4⟩ := hk.feas.needF hf
      obtain ⟨s, h1, h2, rfl⟩ := flm_some e
      have hsub : (L.filter fun x => decide (x % 4 = (s : Int))).Sublist L := List.filter_sublist
      obtain ⟨S, g1, g2⟩ := pick (L.filter fun x => decide (x % 4 = (s : Int))) (fun r => ds.count r) (fun x hx => (ho.1 x (hsub.mem hx)).1) (fun r => by
        have h3 := count_one d2 r
        by_cases er : r ∈ ds
        · obtain ⟨x, hx, x1, x2⟩ := inS_iff.1 (d3 r er).2
          have : 0 < cnt (L.filter fun x => decide (x % 4 = (s : Int))) r := List.countP_pos_iff.2 ⟨x, List.mem_filter.2 ⟨hx, by simpa using x1⟩, by simpa using x2⟩
          omega
        · rw [h3.2 er]; omega)
      have hS : S.Sublist L := g1.trans hsub
      have hl : S.length = 5 := by
        have := total_cnt (okC_sub hS ho)
        rw [← this, show cnt S = fun r => ds.count r from funext g2, total_count ds (fun d hd => (d3 d hd).1), d1]
      have hsS : ∀ x ∈ S, x % 4 = (s : Int) := fun x hx => by simpa using (List.mem_filter.1 (g1.mem hx)).2
      have hsut : sut S s = 5 := by
        unfold sut
        rw [← hl]
        exact List.countP_eq_length.2 (fun x hx => by simpa using hsS x hx)
      refine ⟨S, hS, hl, ?_⟩
      rw [flm_of h1 (by omega) (by omega)]
      refine d4 _ _ (fun d hd => ?_)
      have : 0 < cnt S d := by rw [g2]; exact List.count_pos_iff.2 hd
      obtain ⟨x, hx, x1⟩ := List.countP_pos_iff.1 this
      exact inS_iff.2 ⟨x, hx, hsS x hx, by simpa using x1⟩
    · obtain ⟨ds, d1, d2, d3, d4⟩ := hk.feas.need (by omega) (by omega)
      obtain ⟨S, g1, g2⟩ := pick L (fun r => ds.count r) (fun x hx => (ho.1 x hx).1) d3
      have hl : S.length = 5 := by
        have := total_cnt (okC_sub g1 ho)
        rw [← this, show cnt S = fun r => ds.count r from funext g2, total_count ds d2, d1]
      exact ⟨S, g1, hl, d4 _ _ (fun r => by rw [g2]; exact Nat.le_refl _)⟩
  obtain ⟨S, h1, h2, h3⟩ := main
  obtain ⟨j, hj⟩ := Vx_vb (okC_sub h1 ho) (by omega : 5 ≤ S.length)
  have := h3.le (cnt_le (okC_sub h1 ho)) hj
  have := Vx_sub ho h1 (by omega) h8
  exact ⟨S, h1, h2, by omega⟩

/-! ### Five cards -/
/-- Whether all cards have the suit of the first one. -/
def fluB (xs : List Int) : Bool := decide (sut xs (xs.getD 0 0 % 4).toNat = 5)
theorem five_eq {xs : List Int} (ho : okC xs) (h5 : xs.length = 5) :
    Vx xs true = valS (cnt xs) (fluB xs) ∧ Vx xs false = deuS (cnt xs) (fluB xs) ∧ (kickS (cnt xs)).length = 5 ∧ ∀ d ∈ kickS (cnt xs), d < 13 := by
  have hc := cnt_le ho
  have h13 : ∀ r, 13 ≤ r → cnt xs r = 0 := fun r hr => List.countP_eq_zero.2 (fun x hx => by have := ho.1 x hx; simp; omega)
  have ht : total (cnt xs) = 5 := by rw [total_cnt ho, h5]
  have hx0 : xs.getD 0 0 ∈ xs := by
    rw [List.getD_eq_getElem?_getD, List.getElem?_eq_getElem (by omega : 0 < xs.length)]
    exact List.getElem_mem _
  have hr0 := ho.1 _ hx0
  obtain ⟨s, hsu⟩ : ∃ s : Nat, s = (xs.getD 0 0 % 4).toNat := ⟨_, rfl⟩
  have hs4 : s < 4 := by omega
  unfold Vx
  by_cases hf : sut xs s = 5
  · have hall : ∀ x ∈ xs, x % 4 = (s : Int) := by
      have := List.countP_eq_length.1 (show sut xs s = xs.length by omega)
      exact fun x hx => by simpa using this x hx
    have hin : inS xs s = hasR (cnt xs) := by
      funext r
      rw [Bool.eq_iff_iff, inS_iff]
      unfold hasR
      rw [decide_eq_true_eq]
      constructor
      · rintro ⟨x, h1, _, h3⟩
        exact List.countP_pos_iff.2 ⟨x, h1, by simpa using h3⟩
      · intro h
        obtain ⟨x, h1, h2⟩ := List.countP_pos_iff.1 h
        exact ⟨x, h1, hall x h1, by simpa using h2⟩
    have hone : ∀ r, cnt xs r ≤ 1 := fun r => by
      have hcl : cnt xs r = xs.countP (fun x => decide (x % 4 = (s : Int)) && decide (x / 4 = (r : Int))) :=
        List.countP_congr (fun x hx => by have := hall x hx; simp [this])
      rw [hcl]
      refine key_le ho (fun x => 0) 1 _ (fun x y h1 h2 _ => ?_) (fun x _ _ _ => by simp)
      simp at h1 h2
      omega
    have hz : ∀ n, 2 ≤ n → (Fl (cnt xs) n).length = 0 := fun n hn => by
      rw [List.length_eq_zero_iff]
      refine List.filter_eq_nil_iff.2 fun r _ => ?_
      have := hone r
      simp; omega
    have h1 : (Fl (cnt xs) 1).length = 5 := by
      have := total_Fl (cnt xs) hc
      rw [hz 4 (by omega), hz 3 (by omega), hz 2 (by omega)] at this
      omega
    have hfl : fluB xs = true := by unfold fluB; rw [← hsu]; simpa using hf
    have hfm : flm xs = some (hasR (cnt xs)) := by rw [flm_of hs4 (by omega) (by omega), hin]
    obtain ⟨_, ⟨b1, b2⟩, b3, b4⟩ := five_ones hc h13 ht h1
    rw [hfl, hfm]
    exact ⟨b1, b2, b3, b4⟩
  · have hfl : fluB xs = false := by unfold fluB; rw [← hsu]; simpa using hf
    have hfm : flm xs = none := by
      cases e : flm xs
      · rfl
      · obtain ⟨s', h1, h2, _⟩ := flm_some e
        have hle : sut xs s' ≤ xs.length := List.countP_le_length
        have := List.countP_eq_length.1 (show sut xs s' = xs.length by omega) _ hx0
        rw [decide_eq_true_eq] at this
        have : s = s' := by omega
        subst this; omega
    rw [hfl, hfm]
    rcases Nat.lt_or_ge (Fl (cnt xs) 1).length 5 with h | h
    · obtain ⟨b1, b2, b3, b4⟩ := five_pairs hc ht h true
      obtain ⟨d1, _, _, _⟩ := five_pairs hc ht h false
      refine ⟨b1, ?_, b3, b4⟩
      unfold deuS
      rw [if_neg (by rw [b2]; simp)]
      exact d1
    · have := total_Fl (cnt xs) hc
      obtain ⟨⟨b1, b2⟩, _, b3, b4⟩ := five_ones hc h13 ht (by omega)
      exact ⟨b1, b2, b3, b4⟩
end Go.Proofs.YtbhlghadjcbilaaDoor
