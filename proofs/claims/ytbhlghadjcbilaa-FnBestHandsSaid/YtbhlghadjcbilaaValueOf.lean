/-
  The value of at least five cards in the program.
-/
import Derived.Test.YtbhlghadjcbilaaHigh
import Derived.Test.YtbhlghadjcbilaaMathCount
import Derived.Laws.Rows
import Derived.Laws.Tables
import Derived.BigRegion
import Derived.Deep.AppendLies
import Derived.Deep.RegionLaw
namespace Go.Proofs.Ytbhlghadjcbilaa
open Go.RowKit

/-! ### Bits of ranks -/
def rM (p : Int → Bool) (xs : List Int) : Nat := xs.foldl (fun m x => if p x = true then m ||| 2 ^ (x / 4).toNat else m) 0
theorem rM_snoc (p : Int → Bool) (xs : List Int) (x : Int) : rM p (xs ++ [x]) = if p x = true then rM p xs ||| 2 ^ (x / 4).toNat else rM p xs := by simp [rM, List.foldl_append]
theorem snoc_ind {C : List Int → Prop} (h0 : C []) (h1 : ∀ xs x, C xs → C (xs ++ [x])) (xs : List Int) : C xs := by
  have H : ∀ (n : Nat) (ys : List Int), ys.length = n → C ys := by
    intro n
    induction n with
    | zero => intro ys hl; rw [List.eq_nil_of_length_eq_zero hl]; exact h0
    | succ n ih =>
      intro ys hl
      have hne : ys ≠ [] := by intro e; subst e; simp at hl
      rw [← List.dropLast_concat_getLast hne]
      exact h1 _ _ (ih _ (by simp [hl]))
  exact H _ xs rfl
theorem rM_bit (p : Int → Bool) (xs : List Int) (r : Nat) : (∀ x ∈ xs, 0 ≤ x) → (rM p xs).testBit r = xs.any fun x => p x && decide (x / 4 = (r : Int)) := by
  induction xs using snoc_ind with
  | h0 => intro _; simp [rM]
  | h1 xs x ih =>
    intro h
    have ih := ih (fun y hy => h y (by simp [hy]))
    have hx := h x (by simp)
    rw [rM_snoc, List.any_append]
    by_cases hp : p x = true
    · rw [if_pos hp, Nat.testBit_or, ih, Nat.testBit_two_pow]
      have e : decide ((x / 4).toNat = r) = decide (x / 4 = (r : Int)) := by
        rw [Bool.eq_iff_iff, decide_eq_true_eq, decide_eq_true_eq]; omega
      simp [hp, e]
    · simp at hp
      simp [hp, ih]
theorem rM_lt (p : Int → Bool) (xs : List Int) : (∀ x ∈ xs, 0 ≤ x ∧ x ≤ 51) → rM p xs < 8192 := by
  induction xs using snoc_ind with
  | h0 => intro _; simp [rM]
  | h1 xs x ih =>
    intro h
    have ih := ih (fun y hy => h y (by simp [hy]))
    have hx := h x (by simp)
    rw [rM_snoc]
    split
    · exact Nat.or_lt_two_pow (n := 13) ih (Nat.pow_lt_pow_right (by omega) (by omega))
    · exact ih
def sM (xs : List Int) (s : Nat) : Nat := rM (fun x => decide (x % 4 = (s : Int))) xs
def aM (xs : List Int) : Nat := rM (fun _ => true) xs
theorem sM_bits {xs : List Int} (h : ∀ x ∈ xs, 0 ≤ x) (s : Nat) : (fun r => (sM xs s).testBit r) = inS xs s := by
  funext r; exact rM_bit _ xs r h
theorem aM_bits {xs : List Int} (h : ∀ x ∈ xs, 0 ≤ x) : (fun r => (aM xs).testBit r) = hasR (cnt xs) := by
  funext r
  show (rM (fun _ => true) xs).testBit r = _
  rw [rM_bit _ xs r h, Bool.eq_iff_iff]
  unfold hasR cnt
  rw [decide_eq_true_eq, List.any_eq_true]
  constructor
  · rintro ⟨x, h1, h2⟩
    exact List.countP_pos_iff.2 ⟨x, h1, by simpa using h2⟩
  · intro h
    obtain ⟨x, h1, h2⟩ := List.countP_pos_iff.1 h
    exact ⟨x, h1, by simpa using h2⟩
theorem cnt_snoc (xs : List Int) (x : Int) (r : Nat) : cnt (xs ++ [x]) r = cnt xs r + if x / 4 = (r : Int) then 1 else 0 := by
  unfold cnt; rw [List.countP_append]; simp [List.countP_cons]
theorem sut_snoc (xs : List Int) (x : Int) (r : Nat) : sut (xs ++ [x]) r = sut xs r + if x % 4 = (r : Int) then 1 else 0 := by
  unfold sut; rw [List.countP_append]; simp [List.countP_cons]

theorem rowIs_rep (w : World) (m : Nat) (t : TypeId) (v : Value) (cs : Array Value) (hcs : cs = Array.replicate m v) (g : Nat) (hg : w.heap.size = g) : (w.alloc (.cells cs t)).rowIs g t m (fun _ => v) := by
  subst hg hcs
  refine ⟨_, heap_alloc_new _ _, by simp, fun i hi => by simp [hi]⟩
theorem i64_and3 (x : Int) (r : Nat) (h0 : 0 ≤ x) (h1 : x ≤ 51) (hr : x % 4 = (r : Int)) : bits BinOp.and IntKind.i64 x 3 = (r : Int) := by
  obtain ⟨m, rfl⟩ := Int.eq_ofNat_of_zero_le h0
  have all : ∀ m, m < 52 → bits BinOp.and IntKind.i64 ((m : Nat) : Int) 3 = ((m % 4 : Nat) : Int) := by decide +kernel
  rw [all m (by omega)]
  omega

/-- The three arrays stand. -/
def Arr (xs : List Int) (w wr : World) : Prop :=
  wr.rowIs w.heap.size 84 13 (fun j => .int .i64 (cnt xs j : Nat)) ∧ wr.rowIs (w.heap.size + 1) 85 4 (fun j => .int .u64 (sM xs j : Nat)) ∧
    wr.rowIs (w.heap.size + 1 + 1) 86 4 (fun j => .int .i64 (sut xs j : Nat)) ∧ Below w.heap.size w wr
theorem Arr.below {xs : List Int} {w wr wr' : World} (h : Arr xs w wr) (hb : Below wr.heap.size wr wr') : Arr xs w wr' :=
  ⟨h.1.of_block (hb.block _ h.1.lt), h.2.1.of_block (hb.block _ h.2.1.lt), h.2.2.1.of_block (hb.block _ h.2.2.1.lt), h.2.2.2.trans (hb.mono h.2.2.2.size)⟩
theorem Arr.drew {xs : List Int} {w wr : World} (h : Arr xs w wr) : Arr xs w wr.drew := ⟨h.1.drew, h.2.1.drew, h.2.2.1.drew, h.2.2.2.drew⟩
/-- What the loop over the suits has found. -/
def FlI (xs : List Int) (low : Bool) (s : Nat) (z : Int) : Prop :=
  (∀ t, t < s → 5 ≤ sut xs t → stO (inS xs t) 8 low = none ∧ z = ((tk 5 [] (inS xs t) : Nat) : Int)) ∧ ((∀ t, t < s → sut xs t < 5) → z = -1)
theorem FlI.few {xs : List Int} {low : Bool} {s : Nat} {z : Int} (h : FlI xs low s z) (hs : sut xs s < 5) : FlI xs low (s + 1) z := by
  refine ⟨fun t ht h5 => ?_, fun hall => h.2 (fun t ht => hall t (by omega))⟩
  rcases Nat.lt_or_ge t s with g | g
  · exact h.1 t g h5
  · rw [show t = s by omega] at h5; omega
theorem FlI.many {xs : List Int} {low : Bool} {s : Nat} (h8 : xs.length ≤ 8) (hs : 5 ≤ sut xs s) (hn : stO (inS xs s) 8 low = none) : FlI xs low (s + 1) ((tk 5 [] (inS xs s) : Nat) : Int) := by
  refine ⟨fun t ht h5 => ?_, fun hall => ?_⟩
  · by_cases e : t = s
    · subst e; exact ⟨hn, rfl⟩
    · have := sut_two xs t s e; omega
  · have := hall s (by omega); omega
theorem FlI.ends {xs : List Int} {low : Bool} {z : Int} (h : FlI xs low 4 z) : (flm xs).bind (fun p => stO p 8 low) = none ∧ ((flm xs = none ∧ z = -1) ∨ ∃ p, flm xs = some p ∧ z = ((tk 5 [] p : Nat) : Int)) := by
  cases e : flm xs
  · refine ⟨rfl, .inl ⟨rfl, h.2 fun t ht => ?_⟩⟩
    unfold flm at e
    have := List.find?_eq_none.1 (Option.map_eq_none_iff.1 e) t (by simp only [List.mem_cons, List.not_mem_nil, or_false]; omega)
    rw [decide_eq_true_eq] at this; omega
  · obtain ⟨t, h1, h2, rfl⟩ := flm_some e
    obtain ⟨a, b⟩ := h.1 t h1 h2
    exact ⟨a, .inr ⟨_, rfl, b⟩⟩
theorem Vx_sf {xs : List Int} {low : Bool} {s v : Nat} (hs : s < 4) (h8 : xs.length ≤ 8) (h5 : 5 ≤ sut xs s) (h : stO (inS xs s) 8 low = some v) : Vx xs low = v := by
  unfold Vx V Vd
  rw [flm_of hs h5 (by omega)]
  simp only [Option.bind_some, h]
theorem scan_succ {c : Nat → Nat} {m p : Nat} {f t v s : Int} (hp : p + m = 12) (h : scan c m = (f, t, v, s)) :
    scan c (m + 1) = if c p = 4 ∧ f < 0 then ((p : Int), t, v, s) else if 3 ≤ c p ∧ t < 0 then (f, (p : Int), v, s) else if 2 ≤ c p ∧ v < 0 then (f, t, (p : Int), s) else if 2 ≤ c p ∧ s < 0 then (f, t, v, (p : Int)) else (f, t, v, s) := by
  rw [scan, h, show 12 - m = p by omega]
theorem Vx_def {xs : List Int} {low : Bool} {f t v s : Int} (hb : (flm xs).bind (fun p => stO p 8 low) = none) (hs : scan (cnt xs) 13 = (f, t, v, s)) :
    (0 ≤ f → Vx xs low = tk 7 [f.toNat, f.toNat, f.toNat, f.toNat] (but1 (hasR (cnt xs)) f.toNat)) ∧
    (f < 0 → 0 ≤ t ∧ 0 ≤ v → Vx xs low = kvN 6 [t.toNat, t.toNat, t.toNat, v.toNat, v.toNat]) ∧
    (f < 0 → ¬ (0 ≤ t ∧ 0 ≤ v) → (∀ p, flm xs = some p → Vx xs low = tk 5 [] p) ∧ (flm xs = none → (∀ u, stO (hasR (cnt xs)) 4 low = some u → Vx xs low = u) ∧
      (stO (hasR (cnt xs)) 4 low = none → (0 ≤ t → Vx xs low = tk 3 [t.toNat, t.toNat, t.toNat] (but1 (hasR (cnt xs)) t.toNat)) ∧
        (t < 0 → (0 ≤ s → Vx xs low = tk 2 [v.toNat, v.toNat, s.toNat, s.toNat] (but2 (hasR (cnt xs)) v.toNat s.toNat)) ∧
          (s < 0 → (0 ≤ v → Vx xs low = tk 1 [v.toNat, v.toNat] (but1 (hasR (cnt xs)) v.toNat)) ∧ (v < 0 → Vx xs low = tk 0 [] (hasR (cnt xs)))))))) := by
  unfold Vx V Vd
  rw [hb, hs]
  simp only
  refine ⟨fun h => by rw [if_pos h], fun h h' => by rw [if_neg (by omega), if_pos h'], fun h h' => ⟨fun p hp => by rw [if_neg (by omega), if_neg h', hp], fun hn => ⟨fun u hu => by rw [if_neg (by omega), if_neg h', hn, hu], fun hO => ?_⟩⟩⟩
  rw [if_neg (by omega), if_neg h', hn, hO]
  simp only
  refine ⟨fun g => by rw [if_pos g], fun g => ⟨fun g' => by rw [if_neg (by omega), if_pos g'], fun g' => ⟨fun g2 => by rw [if_neg (by omega), if_neg (by omega), if_pos g2], fun g2 => by rw [if_neg (by omega), if_neg (by omega), if_neg (by omega)]⟩⟩⟩
/-- A set without one rank, as bits. -/
theorem andNot_bits (M a : Nat) (hM : M < 8192) (ha : a < 13) :
    bits BinOp.andNot IntKind.u64 (M : Int) (IntKind.u64.wrap (2 ^ a)) = ((M &&& (18446744073709551615 - 2 ^ a) : Nat) : Int) ∧ (M &&& (18446744073709551615 - 2 ^ a)) < 8192 ∧ (fun r => (M &&& (18446744073709551615 - 2 ^ a)).testBit r) = but1 (fun r => M.testBit r) a := by
  have h2 : 2 ^ a < 8192 := by
    have : 2 ^ a < 2 ^ 13 := Nat.pow_lt_pow_right (by omega) ha
    simpa using this
  refine ⟨?_, Nat.lt_of_le_of_lt Nat.and_le_left hM, ?_⟩
  · have e : IntKind.u64.wrap (2 ^ a) = ((2 ^ a : Nat) : Int) := by
      have e1 : ((2 : Int) ^ a) = ((2 ^ a : Nat) : Int) := by simp
      rw [e1]
      simp only [IntKind.wrap, IntKind.bits, IntKind.signed]
      generalize 2 ^ a = q at h2
      simp
      omega
    rw [e]
    exact u64_andNot_nat M (2 ^ a) (by omega) (by omega)
  · funext r
    unfold but1
    rw [Nat.testBit_and]
    have e : 18446744073709551615 - 2 ^ a = 2 ^ 64 - (2 ^ a + 1) := by omega
    rw [e, Nat.testBit_two_pow_sub_succ (by omega), Nat.testBit_two_pow]
    by_cases hr : M.testBit r = true
    · have hr13 : r < 13 := by
        rcases Nat.lt_or_ge r 13 with g | g
        · exact g
        · have : M < 2 ^ r := Nat.lt_of_lt_of_le hM (show 8192 ≤ 2 ^ r from Nat.le_trans (by decide : 8192 ≤ 2 ^ 13) (Nat.pow_le_pow_right (by omega) g))
          rw [Nat.testBit_lt_two_pow this] at hr; cases hr
      rw [hr]
      by_cases e : a = r
      · subst e; simp
      · have h1 : (r != a) = true := by simpa using (fun h => e h.symm : ¬ r = a)
        have h2 : decide (r < 64) = true := by simp; omega
        have h3 : decide (a = r) = false := by simpa using e
        rw [h1, h2, h3]
        show (true && (true && !false)) = (M.testBit r && true)
        rw [hr]; rfl
    · simp at hr; simp [hr]
theorem andNot_bits2 (M a b : Nat) (hM : M < 8192) (ha : a < 13) (hb : b < 13) :
    bits BinOp.or IntKind.u64 (IntKind.u64.wrap (2 ^ a)) (IntKind.u64.wrap (2 ^ b)) = ((2 ^ a ||| 2 ^ b : Nat) : Int) ∧
    bits BinOp.andNot IntKind.u64 (M : Int) ((2 ^ a ||| 2 ^ b : Nat) : Int) = ((M &&& (18446744073709551615 - (2 ^ a ||| 2 ^ b)) : Nat) : Int) ∧ (M &&& (18446744073709551615 - (2 ^ a ||| 2 ^ b))) < 8192 ∧
    (fun r => (M &&& (18446744073709551615 - (2 ^ a ||| 2 ^ b))).testBit r) = but2 (fun r => M.testBit r) a b := by
  have hp : ∀ q, q < 13 → 2 ^ q < 8192 := fun q h => by
    have : 2 ^ q < 2 ^ 13 := Nat.pow_lt_pow_right (by omega) h
    simpa using this
  have hw : ∀ q, q < 13 → IntKind.u64.wrap (2 ^ q) = ((2 ^ q : Nat) : Int) := fun q h => by
    have e1 : ((2 : Int) ^ q) = ((2 ^ q : Nat) : Int) := by simp
    have := hp q h
    rw [e1]
    simp only [IntKind.wrap, IntKind.bits, IntKind.signed]
    generalize 2 ^ q = z at this
    simp
    omega
  have hd : (2 ^ a ||| 2 ^ b) < 8192 := Nat.or_lt_two_pow (n := 13) (hp a ha) (hp b hb)
  refine ⟨?_, ?_, Nat.lt_of_le_of_lt Nat.and_le_left hM, ?_⟩
  · rw [hw a ha, hw b hb]
    exact u64_or_nat (2 ^ a) (2 ^ b) (by have := hp a ha; omega) (by have := hp b hb; omega)
  · generalize (2 ^ a ||| 2 ^ b) = z at hd
    exact u64_andNot_nat M z (by omega) (by omega)
  · funext r
    unfold but2
    rw [Nat.testBit_and]
    have e : 18446744073709551615 - (2 ^ a ||| 2 ^ b) = 2 ^ 64 - ((2 ^ a ||| 2 ^ b) + 1) := by omega
    rw [e, Nat.testBit_two_pow_sub_succ (by omega), Nat.testBit_or, Nat.testBit_two_pow, Nat.testBit_two_pow]
    by_cases hr : M.testBit r = true
    · have hr13 : r < 13 := by
        rcases Nat.lt_or_ge r 13 with g | g
        · exact g
        · have : M < 2 ^ r := Nat.lt_of_lt_of_le hM (show 8192 ≤ 2 ^ r from Nat.le_trans (by decide : 8192 ≤ 2 ^ 13) (Nat.pow_le_pow_right (by omega) g))
          rw [Nat.testBit_lt_two_pow this] at hr; cases hr
      have h2 : decide (r < 64) = true := by simp; omega
      rw [h2]
      show (M.testBit r && (true && !(decide (a = r) || decide (b = r)))) = ((M.testBit r && r != a) && r != b)
      rw [hr]
      by_cases ea : a = r
      · subst ea; simp
      · by_cases eb : b = r
        · subst eb; simp
        · have h1 : (r != a) = true := by simpa using (fun h => ea h.symm : ¬ r = a)
          have h3 : (r != b) = true := by simpa using (fun h => eb h.symm : ¬ r = b)
          simp [ea, eb, h1, h3]
    · simp at hr; simp [hr]
theorem arr4i_info : (Try.prog.info? 86).map (·.size) = some 4 := by kernel_rfl

set_option maxHeartbeats 4000000 in
set_option maxRecDepth 100000 in
theorem valueOf_any (A : Option Addr) (c : Nat) (xs : List Int) (low : Bool) (w : World) (h : RowI w A xs) (h5 : 5 ≤ xs.length) (h8 : xs.length ≤ 8) (ho : okC xs) :
    Calls Try.prog 92 #[.slice A xs.length c, .bool low] w fun e w' => e = .returned (.int .i64 (Vx xs low : Nat)) ∧ Below w.heap.size w w' := by
  obtain ⟨n, hn⟩ : ∃ n, n = xs.length := ⟨_, rfl⟩
  rw [← hn] at h5 h8 ⊢
  have HN := Lib.hid hn
  have HR := Lib.hid h
  have HO := Lib.hid ho
  clear hn h ho
  go_enter Try.func92, Try.ntmps92
  go_wp2
  go_loopw [8, 10, 24] (fun m _ i wr => ∃ k : Nat, k ≤ n ∧ i = .int .i64 k ∧ m = .int .u64 (aM (xs.take k) : Nat) ∧
      wr.rowIs w.heap.size 84 13 (fun j => .int .i64 (cnt (xs.take k) j : Nat)) ∧ wr.rowIs (w.heap.size + 1) 85 4 (fun j => .int .u64 (sM (xs.take k) j : Nat)) ∧
      wr.rowIs (w.heap.size + 1 + 1) 86 4 (fun j => .int .i64 (sut (xs.take k) j : Nat)) ∧ Hid (Below w.heap.size w wr))
    (fun _ _ i _ => n - (intOf i).toNat)
  case atStart => exact ⟨0, Nat.zero_le _, rfl, rfl, (((rowIs_rep w 13 _ _ _ rfl _ rfl).alloc _).alloc _).congr (fun _ _ => rfl), ((rowIs_rep _ 4 _ _ _ rfl _ (by simp)).alloc _).congr (fun _ _ => rfl), (rowIs_rep _ 4 _ _ _ rfl _ (by simp)).congr (fun _ _ => rfl), (((Below.refl _ _).alloc (Nat.le_refl _) _).alloc (by simp) _).alloc (by simp; omega) _⟩
  case round =>
    obtain ⟨k, hk, rfl, rfl, r1, r2, r3, hB⟩ := hrel
    by_cases hlt : k < n
    · obtain ⟨b, off, rfl, hb, hc⟩ := HR.out.at_ (k := k) (by rw [← HN.out]; exact hlt)
      have hx2 := okC_getD HO.out (k := k) (by rw [← HN.out]; exact hlt)
      obtain ⟨x, hx⟩ : ∃ x, x = xs.getD k 0 := ⟨_, rfl⟩
      rw [← hx] at hx2
      obtain ⟨x0, x1⟩ := hx2
      have hc1 : wr.cell? ⟨b, off + k, none⟩ = some (.int .i64 x) := by rw [hx]; exact (hB.out.cell (p := ⟨b, off + k, none⟩) hb).trans hc
      obtain ⟨q, hq⟩ : ∃ q : Nat, x / 4 = (q : Int) := ⟨(x / 4).toNat, by omega⟩
      obtain ⟨r, hr⟩ : ∃ r : Nat, x % 4 = (r : Int) := ⟨(x % 4).toNat, by omega⟩
      have k0 : (0 : Int) ≤ x / 4 := by omega
      have k1 : x / 4 < 13 := by omega
      have k4 : (x / 4).toNat = q := by omega
      have hq13 : q < 13 := by omega
      have hr4 : r < 4 := by omega
      have hr4' : (r : Int) < 4 := by omega
      have hand := i64_and3 x r x0 x1 hr
      obtain ⟨ys, hys⟩ : ∃ ys, ys = xs.take k := ⟨_, rfl⟩
      rw [← hys] at r1 r2 r3 ⊢
      have hyl : ys.length ≤ 8 := by rw [hys, List.length_take]; omega
      have hyo : okC ys := by rw [hys]; exact okC_take HO.out k
      have c1 := r1.cell (i := q) hq13
      have c2 := r2.cell (i := r) hr4
      have c3 := r3.cell (i := r) hr4
      have f1 := r1.frozen q
      have f2 := r2.frozen r
      have f3 := r3.frozen r
      have hsM : sM ys r < 8192 := rM_lt _ ys hyo.1
      have haM : aM ys < 8192 := rM_lt _ ys hyo.1
      have hcn : cnt ys q ≤ 8 := Nat.le_trans List.countP_le_length hyl
      have hsn : sut ys r ≤ 8 := Nat.le_trans List.countP_le_length hyl
      obtain ⟨S, hS⟩ : ∃ S, S = sM ys r := ⟨_, rfl⟩
      obtain ⟨M, hM⟩ : ∃ M, M = aM ys := ⟨_, rfl⟩
      obtain ⟨C, hC⟩ : ∃ C, C = cnt ys q := ⟨_, rfl⟩
      obtain ⟨N, hNN⟩ : ∃ N, N = sut ys r := ⟨_, rfl⟩
      rw [← hS] at c2 hsM
      rw [← hM] at haM ⊢
      rw [← hC] at c1 hcn
      rw [← hNN] at c3 hsn
      have or1 := u64_set S q (by omega) (by omega)
      have or2 := u64_set M q (by omega) (by omega)
      have w1 : IntKind.i64.wrap ((C : Int) + 1) = (C : Int) + 1 := IntWalk.i64_in _ (by omega)
      have w2 : IntKind.i64.wrap ((N : Int) + 1) = (N : Int) + 1 := IntWalk.i64_in _ (by omega)
      have HX := Lib.hid (And.intro hx (And.intro hq hr))
      have HY := Lib.hid hys
      have HS := Lib.hid (And.intro hS (And.intro hM (And.intro hC hNN)))
      have R1 := Lib.hid r1
      have R2 := Lib.hid r2
      have R3 := Lib.hid r3
      have bne1 : ¬ b = w.heap.size := by omega
      have bne2 : ¬ b = w.heap.size + 1 := by omega
      have bne3 : ¬ b = w.heap.size + 1 + 1 := by omega
      clear hx hq hr hys hS hM hC hNN r1 r2 r3 hc hyo hyl hb
      go_wp2
      go_region
      all_goals
        go_wp2
        go_roundw
        case rel =>
          obtain ⟨ex, eq, er⟩ := HX.out
          obtain ⟨eS, eM, eC, eN⟩ := HS.out
          have ET : xs.take (k + 1) = ys ++ [x] := by rw [take_snoc (by rw [← HN.out]; exact hlt), ← HY.out, ← ex]
          refine ⟨k + 1, by omega, by go_num, ?_, ?_, ?_, ?_, ?_⟩
          · rw [ET, eM]
            unfold aM
            rw [rM_snoc, if_pos rfl, k4]
          · rw [ET]
            refine ((((R1.out.set q _).setOther (show w.heap.size ≠ w.heap.size + 1 by omega) _).setOther (show w.heap.size ≠ w.heap.size + 1 + 1 by omega) _).drew).congr fun j _ => ?_
            rw [cnt_snoc, eq, eC]
            by_cases e : j = q
            · subst e; rw [if_pos rfl, if_pos rfl]; rfl
            · rw [if_neg e, if_neg (by omega)]; rfl
          · rw [ET]
            refine ((((R2.out.setOther (show w.heap.size + 1 ≠ w.heap.size by omega) _).set r _).setOther (show w.heap.size + 1 ≠ w.heap.size + 1 + 1 by omega) _).drew).congr fun j _ => ?_
            unfold sM
            rw [rM_snoc, k4, er]
            by_cases e : j = r
            · subst e; rw [if_pos rfl, if_pos (by simp), eS]; rfl
            · rw [if_neg e, if_neg (by simp; omega)]
          · rw [ET]
            refine ((((R3.out.setOther (show w.heap.size + 1 + 1 ≠ w.heap.size by omega) _).setOther (show w.heap.size + 1 + 1 ≠ w.heap.size + 1 by omega) _).set r _).drew).congr fun j _ => ?_
            rw [sut_snoc, er, eN]
            by_cases e : j = r
            · subst e; rw [if_pos rfl, if_pos rfl]; rfl
            · rw [if_neg e, if_neg (by omega)]; rfl
          · exact (((hB.out.setCell (Nat.le_refl _) _).setCell (show w.heap.size ≤ w.heap.size + 1 by omega) _).setCell (show w.heap.size ≤ w.heap.size + 1 + 1 by omega) _).drew
        case measure => simp [intOf]; omega
    · have hkn : k = n := by omega
      subst hkn
      have et : xs.take k = xs := by rw [HN.out, List.take_length]
      rw [et] at r1 r2 r3 ⊢
      have AR : Hid (Arr xs w wr) := ⟨r1, r2, r3, hB.out⟩
      obtain ⟨cs, hg, hsz, hcs⟩ := r3
      have hcs4 : cs = #[.int .i64 (sut xs 0 : Nat), .int .i64 (sut xs 1 : Nat), .int .i64 (sut xs 2 : Nat), .int .i64 (sut xs 3 : Nat)] := by
        apply Array.ext
        · simp [hsz]
        · intro i h1 h2
          have h3 : i < 4 := by rw [← hsz]; exact h1
          have := hcs i h3
          rw [Array.getElem?_eq_getElem h1] at this
          rw [Option.some.inj this]
          have : i = 0 ∨ i = 1 ∨ i = 2 ∨ i = 3 := by omega
          rcases this with rfl | rfl | rfl | rfl <;> rfl
      subst hcs4
      have HG := Lib.hid hg
      obtain ⟨M, hM⟩ : ∃ M, M = aM xs := ⟨_, rfl⟩
      rw [← hM]
      have HM := Lib.hid hM
      obtain ⟨n0, e0⟩ : ∃ n0, n0 = sut xs 0 := ⟨_, rfl⟩
      obtain ⟨n1, e1⟩ : ∃ n1, n1 = sut xs 1 := ⟨_, rfl⟩
      obtain ⟨n2, e2⟩ : ∃ n2, n2 = sut xs 2 := ⟨_, rfl⟩
      obtain ⟨n3, e3⟩ : ∃ n3, n3 = sut xs 3 := ⟨_, rfl⟩
      rw [← e0, ← e1, ← e2, ← e3] at HG
      have HE := Lib.hid (And.intro e0 (And.intro e1 (And.intro e2 e3)))
      clear r1 r2 hg hsz hcs hB et hM hlt hk e0 e1 e2 e3
      go_wp2_with (refine wpList_load_row rfl 86 (.tmp 7) rfl (w.heap.size + 1 + 1) rfl 86 _ (0, 0) _ HG.out Try.underlying86 rfl (by rw [arr4i_info]; rfl) ?_)
      have hidx : Hid (∀ s : Nat, s < 4 → ∀ w, (Instr.index 86 (.agg #[.int .i64 n0, .int .i64 n1, .int .i64 n2, .int .i64 n3]) (.int .i64 (s : Int))).run Try.prog w = .ok (.int .i64 (sut xs s : Nat)) w) := by
        intro s hs w'
        obtain ⟨e0, e1, e2, e3⟩ := HE.out
        have : s = 0 ∨ s = 1 ∨ s = 2 ∨ s = 3 := by omega
        rcases this with rfl | rfl | rfl | rfl
        · rw [← e0]; rfl
        · rw [← e1]; rfl
        · rw [← e2]; rfl
        · rw [← e3]; rfl
      obtain ⟨wo, rfl⟩ : ∃ wo : World, wo = wr := ⟨_, rfl⟩
      go_loopw [11, 12, 13, 14, 56] (fun fv _ _ _ i wr => ∃ (s : Nat) (z : Int), s ≤ 4 ∧ i = .int .i64 s ∧ fv = .int .i64 z ∧ Hid (Arr xs w wr) ∧ Hid (FlI xs low s z)) (fun _ _ _ _ i _ => 4 - (intOf i).toNat)
      case atStart => exact ⟨0, -1, by omega, rfl, rfl, AR.out, fun t ht => absurd ht (by omega), fun _ => rfl⟩
      case round =>
        obtain ⟨s, z, hs4, rfl, rfl, AW, FW⟩ := hrel
        clear AR HG
        by_cases hs : s < 4
        · have i0 := hidx.out s hs
          obtain ⟨N, hN⟩ : ∃ N, N = sut xs s := ⟨_, rfl⟩
          rw [← hN] at i0
          have hN8 : N ≤ 8 := by rw [hN]; exact Nat.le_trans List.countP_le_length (by rw [← HN.out]; exact h8)
          have HNN := Lib.hid hN
          have hsi : (s : Int) < 4 := by omega
          have HX8 : Hid (xs.length ≤ 8) := by rw [← HN.out]; exact h8
          clear hN
          by_cases h5N : N < 5
          · have d5 : (N : Int) < 5 := by omega
            go_wp2
            go_roundw
            case rel => exact ⟨s + 1, z, by omega, by go_num, rfl, AW, FW.out.few (by rw [← HNN.out]; exact h5N)⟩
            case measure => simp [intOf]; omega
          · have d5 : (5 : Int) ≤ (N : Int) := by omega
            have hsu : Hid (5 ≤ sut xs s) := by show 5 ≤ sut xs s; rw [← HNN.out]; omega
            have cS := AW.out.2.1.cell (i := s) hs
            obtain ⟨S, hS⟩ : ∃ S, S = sM xs s := ⟨_, rfl⟩
            rw [← hS] at cS
            have HS := Lib.hid hS
            have HSl : Hid (S < 8192) := by show S < 8192; rw [hS]; exact rM_lt _ xs HO.out.1
            have HSb : Hid ((fun r => S.testBit r) = inS xs s) := by show _ = _; rw [hS]; exact sM_bits (fun x hx => (HO.out.1 x hx).1) s
            clear hS h5N
            cases hO : stO (inS xs s) 8 low
            · have HOO := Lib.hid hO
              clear hO
              go_wp2_with fail
              refine (straight_any S 8 low _ HSl.out (by omega)).mono ?_
              rintro e w2 ⟨rfl, hb2⟩
              rw [HSb.out, stI_none HOO.out]
              have A2 := Lib.hid (AW.out.below hb2)
              have cS2 : w2.cell? ⟨w.heap.size + 1, s, none⟩ = some (.int .u64 S) := by rw [HS.out]; exact A2.out.2.1.cell (i := s) hs
              clear hb2 cS
              go_wp2_with fail
              refine (topRanks_at none 0 0 [] S 5 _ _ _ rfl rfl rfl (.inl rfl) (by simp) (by simp) (by omega) HSl.out (by rw [HSb.out]; have := desc_len HO.out s hs; have := hsu.out; simp; omega)).mono ?_
              rintro e w3 ⟨rfl, rfl⟩
              rw [HSb.out]
              go_wp2
              go_roundw
              case rel => exact ⟨s + 1, _, by omega, by go_num, rfl, A2, FlI.many HX8.out hsu.out HOO.out⟩
              case measure => simp [intOf]; omega
            · next v =>
              have R := Lib.hid (Vx_sf hs HX8.out hsu.out hO)
              have HOO := Lib.hid hO
              clear hO
              go_wp2_with fail
              refine (straight_any S 8 low _ HSl.out (by omega)).mono ?_
              rintro e w2 ⟨rfl, hb2⟩
              rw [HSb.out, stI_some HOO.out]
              have A2 := Lib.hid (AW.out.below hb2)
              clear hb2 cS
              go_wp2
              go_ret
              exact ⟨ret_int (by rw [R.out]), A2.out.2.2.2⟩
        · have hs4' : s = 4 := by omega
          subst hs4'
          obtain ⟨N8, NF⟩ := FW.out.ends
          have HF := Lib.hid (And.intro N8 NF)
          clear N8 NF hs hidx
          go_wp2
          obtain ⟨wp, rfl⟩ : ∃ wp : World, wp = wr := ⟨_, rfl⟩
          go_loop [15, 16, 17, 18, 19, 20, 82, 90, 98, 106] (fun f t v s r _ _ _ _ _ => ∃ (m : Nat) (f' t' v' s' : Int), m ≤ 13 ∧ r = .int .i64 (12 - (m : Int)) ∧ f = .int .i64 f' ∧ t = .int .i64 t' ∧ v = .int .i64 v' ∧ s = .int .i64 s' ∧ Hid (scan (cnt xs) m = (f', t', v', s')))
            (fun _ _ _ _ r _ _ _ _ _ => (intOf r + 1).toNat)
          case atStart => exact ⟨0, -1, -1, -1, -1, by omega, rfl, rfl, rfl, rfl, rfl, rfl⟩
          case round =>
            obtain ⟨m, f, t, v, s, hm, rfl, rfl, rfl, rfl, rfl, SC⟩ := hrel
            by_cases hm13 : m < 13
            · obtain ⟨p, hp⟩ : ∃ p : Nat, p + m = 12 := ⟨12 - m, by omega⟩
              have ep : (12 : Int) - (m : Int) = (p : Int) := by omega
              rw [ep]
              have hp13 : p < 13 := by omega
              have cC := AW.out.1.cell (i := p) hp13
              obtain ⟨C, hC⟩ : ∃ C, C = cnt xs p := ⟨_, rfl⟩
              have hC4 : C ≤ 4 := by rw [hC]; exact cnt_le HO.out p
              rw [← hC] at cC
              have HCC := Lib.hid hC
              have HP := Lib.hid hp
              have hpi : (p : Int) < 13 := by omega
              clear hC hp ep hm
              by_cases h4 : C = 4
              · have e4 : ((C : Int) == 4) = true := by rw [h4]; rfl
                have g3 : (3 : Int) ≤ (C : Int) := by omega
                have g2 : (2 : Int) ≤ (C : Int) := by omega
                have H4 := Lib.hid h4
                clear h4
                go_wp2
                all_goals
                  go_round
                  case rel =>
                    refine ⟨m + 1, _, _, _, _, by omega, int_eq (by have := HP.out; omega), rfl, rfl, rfl, rfl, ?_⟩
                    show _ = _
                    rw [scan_succ HP.out SC.out, ← HCC.out]
                    have := H4.out
                    (repeat' split) <;> first | rfl | (exfalso; omega)
                  case measure => simp [intOf] <;> omega
              · have e4 : ((C : Int) == 4) = false := by simp; omega
                by_cases h3 : C = 3
                · have g3 : (3 : Int) ≤ (C : Int) := by omega
                  have g2 : (2 : Int) ≤ (C : Int) := by omega
                  have H4 := Lib.hid h3
                  clear h3 h4
                  go_wp2
                  all_goals
                    go_round
                    case rel =>
                      refine ⟨m + 1, _, _, _, _, by omega, int_eq (by have := HP.out; omega), rfl, rfl, rfl, rfl, ?_⟩
                      show _ = _
                      rw [scan_succ HP.out SC.out, ← HCC.out]
                      have := H4.out
                      (repeat' split) <;> first | rfl | (exfalso; omega)
                    case measure => simp [intOf] <;> omega
                · by_cases h2 : C = 2
                  · have d3 : decide ((3 : Int) ≤ (C : Int)) = false := by simp; omega
                    have g2 : (2 : Int) ≤ (C : Int) := by omega
                    have H4 := Lib.hid h2
                    clear h2 h4 h3
                    go_wp2
                    all_goals
                      go_round
                      case rel =>
                        refine ⟨m + 1, _, _, _, _, by omega, int_eq (by have := HP.out; omega), rfl, rfl, rfl, rfl, ?_⟩
                        show _ = _
                        rw [scan_succ HP.out SC.out, ← HCC.out]
                        have := H4.out
                        (repeat' split) <;> first | rfl | (exfalso; omega)
                      case measure => simp [intOf] <;> omega
                  · have h1 : C < 2 := by omega
                    have d3 : decide ((3 : Int) ≤ (C : Int)) = false := by simp; omega
                    have d2 : decide ((2 : Int) ≤ (C : Int)) = false := by simp; omega
                    have H4 := Lib.hid h1
                    clear h1 h4 h3 h2
                    go_wp2
                    all_goals
                      go_round
                      case rel =>
                        refine ⟨m + 1, _, _, _, _, by omega, int_eq (by have := HP.out; omega), rfl, rfl, rfl, rfl, ?_⟩
                        show _ = _
                        rw [scan_succ HP.out SC.out, ← HCC.out]
                        have := H4.out
                        (repeat' split) <;> first | rfl | (exfalso; omega)
                      case measure => simp [intOf] <;> omega
            · have hm13' : m = 13 := by omega
              subst hm13'
              have I : Scan (cnt xs) 13 f t v s := by
                have I0 := scan_inv (cnt xs) (cnt_le HO.out) 13 (Nat.le_refl _)
                rw [SC.out] at I0
                exact I0
              have SI := Lib.hid I
              have TT : Hid (5 ≤ total (cnt xs)) := by show 5 ≤ total (cnt xs); rw [total_cnt HO.out, ← HN.out]; exact h5
              have VD := Lib.hid (Vx_def HF.out.1 SC.out)
              have HMl : Hid (M < 8192) := by show M < 8192; rw [HM.out]; exact rM_lt _ xs HO.out.1
              have HMb : Hid ((fun r => M.testBit r) = hasR (cnt xs)) := by show _ = _; rw [HM.out]; exact aM_bits (fun x hx => (HO.out.1 x hx).1)
              have hC4 := Lib.hid (cnt_le HO.out)
              clear I hm hm13
              by_cases c1 : 0 ≤ f
              · obtain ⟨a, rfl⟩ := Int.eq_ofNat_of_zero_le c1
                have R := Lib.hid (VD.out.1 c1)
                rw [Int.toNat_natCast] at R
                have ha : a < 13 := by rcases SI.out.f1 with h | h <;> omega
                obtain ⟨E1, E2, E3⟩ := andNot_bits M a HMl.out ha
                rw [HMb.out] at E3
                obtain ⟨Q, hQ⟩ : ∃ Q, Q = M &&& (18446744073709551615 - 2 ^ a) := ⟨_, rfl⟩
                rw [← hQ] at E1 E2 E3
                have EE := Lib.hid (And.intro E2 E3)
                have NE : Hid (5 ≤ 4 + (desc (but1 (hasR (cnt xs)) a)).length) := by
                  show _ ≤ _
                  have e1 := enough1 (c := cnt xs) (M := 4) (a := a) (fun r _ _ => hC4.out r)
                  have e2 := TT.out
                  have e3 := hC4.out a
                  omega
                clear hQ E2 E3
                go_wp2_with fail
                refine (topRanks_at _ _ _ [a, a, a, a] Q 7 _ _ _ rfl rfl rfl (rowI_new _ _ _ _ rfl) (by simp) (fun d hd => by simp only [List.mem_cons, List.not_mem_nil, or_false] at hd; omega) (by omega) EE.out.1 (by rw [EE.out.2]; exact NE.out)).mono ?_
                rintro e w2 ⟨rfl, rfl⟩
                rw [EE.out.2]
                go_wp2
                go_ret
                exact ⟨ret_int (by rw [R.out]), AW.out.2.2.2.alloc AW.out.2.2.2.size _⟩
              · have f0 : f < 0 := by omega
                have VD2 := Lib.hid (VD.out.2.2 f0)
                by_cases c2 : 0 ≤ t ∧ 0 ≤ v
                · have R := Lib.hid (VD.out.2.1 f0 c2)
                  obtain ⟨c2t, c2v⟩ := c2
                  obtain ⟨a, rfl⟩ := Int.eq_ofNat_of_zero_le c2t
                  obtain ⟨b, rfl⟩ := Int.eq_ofNat_of_zero_le c2v
                  rw [Int.toNat_natCast, Int.toNat_natCast] at R
                  have ha : a < 13 := by rcases SI.out.t1 with h | h <;> omega
                  have hb : b < 13 := by rcases SI.out.w1 with h | h <;> omega
                  go_wp2_with fail
                  refine (kicker_at _ _ _ [a, a, a, b, b] 6 _ _ rfl rfl (rowI_new _ _ _ _ rfl) (by simp) (fun d hd => by simp only [List.mem_cons, List.not_mem_nil, or_false] at hd; omega) (by omega)).mono ?_
                  rintro e w2 ⟨rfl, rfl⟩
                  go_wp2
                  go_ret
                  exact ⟨ret_int (by rw [R.out]), AW.out.2.2.2.alloc AW.out.2.2.2.size _⟩
                · have V3 := Lib.hid (VD2.out c2)
                  have C2 := Lib.hid c2
                  have dec : (decide (0 ≤ t) && decide (0 ≤ v)) = false := by simp; omega
                  clear c2
                  rcases HF.out.2 with ⟨hfn, hz⟩ | ⟨p, hfp, hz⟩
                  · have V4 := Lib.hid (V3.out.2 hfn)
                    have z0 : z < 0 := by omega
                    clear hz hfn
                    cases hO : stO (hasR (cnt xs)) 4 low
                    · have HOO := Lib.hid hO
                      have V5 := Lib.hid (V4.out.2 hO)
                      clear hO
                      by_cases c3 : 0 ≤ t
                      · have v0 : v < 0 := by have := C2.out; omega
                        have R := Lib.hid (V5.out.1 c3)
                        obtain ⟨a, rfl⟩ := Int.eq_ofNat_of_zero_le c3
                        rw [Int.toNat_natCast] at R
                        have ha : a < 13 := by rcases SI.out.t1 with h | h <;> omega
                        obtain ⟨E1, E2, E3⟩ := andNot_bits M a HMl.out ha
                        rw [HMb.out] at E3
                        obtain ⟨Q, hQ⟩ : ∃ Q, Q = M &&& (18446744073709551615 - 2 ^ a) := ⟨_, rfl⟩
                        rw [← hQ] at E1 E2 E3
                        have EE := Lib.hid (And.intro E2 E3)
                        have NE : Hid (5 ≤ 3 + (desc (but1 (hasR (cnt xs)) a)).length) := by
                          show _ ≤ _
                          have e0 := hC4.out a
                          have e4 := SI.out.f2 a (by omega) (by omega)
                          have e1 := enough1 (c := cnt xs) (M := 1) (a := a) (fun r h1 h2 => by have := SI.out.w2 r (by omega) (by omega); omega)
                          have e2 := TT.out
                          omega
                        clear hQ E2 E3
                        go_wp2_with fail
                        refine (straight_any M 4 low _ HMl.out (by omega)).mono ?_
                        rintro e w1 ⟨rfl, hb1⟩
                        rw [HMb.out, stI_none HOO.out]
                        have A1 := Lib.hid (AW.out.below hb1)
                        clear hb1
                        go_wp2_with fail
                        refine (topRanks_at _ _ _ [a, a, a] Q 3 _ _ _ rfl rfl rfl (rowI_new _ _ _ _ rfl) (by simp) (fun d hd => by simp only [List.mem_cons, List.not_mem_nil, or_false] at hd; omega) (by omega) EE.out.1 (by rw [EE.out.2]; exact NE.out)).mono ?_
                        rintro e w2 ⟨rfl, rfl⟩
                        rw [EE.out.2]
                        go_wp2
                        go_ret
                        exact ⟨ret_int (by rw [R.out]), A1.out.2.2.2.alloc A1.out.2.2.2.size _⟩
                      · have t1 : t < 0 := by omega
                        have V6 := Lib.hid (V5.out.2 t1)
                        clear c3
                        by_cases c4 : 0 ≤ s
                        · have R := Lib.hid (V6.out.1 c4)
                          have c5 : 0 ≤ v := by rcases SI.out.s1 with h | h <;> omega
                          obtain ⟨a, rfl⟩ := Int.eq_ofNat_of_zero_le c5
                          obtain ⟨b, rfl⟩ := Int.eq_ofNat_of_zero_le c4
                          rw [Int.toNat_natCast, Int.toNat_natCast] at R
                          have ha : a < 13 := by rcases SI.out.w1 with h | h <;> omega
                          have hb : b < 13 := by rcases SI.out.s1 with h | h <;> omega
                          obtain ⟨E0, E1, E2, E3⟩ := andNot_bits2 M a b HMl.out ha hb
                          rw [HMb.out] at E3
                          obtain ⟨D, hD⟩ : ∃ D, D = 2 ^ a ||| 2 ^ b := ⟨_, rfl⟩
                          rw [← hD] at E0 E1 E2 E3
                          obtain ⟨Q, hQ⟩ : ∃ Q, Q = M &&& (18446744073709551615 - D) := ⟨_, rfl⟩
                          rw [← hQ] at E1 E2 E3
                          have EE := Lib.hid (And.intro E2 E3)
                          have NE : Hid (5 ≤ 4 + (desc (but2 (hasR (cnt xs)) a b)).length) := by
                            show _ ≤ _
                            have e1 := SI.out.t2 a (by omega) (by omega)
                            have e4 := SI.out.t2 b (by omega) (by omega)
                            have e3 := enough2 (c := cnt xs) (M := 2) (a := a) (b := b) (fun r h1 h2 h3 => by have := SI.out.t2 r (by omega) (by omega); omega)
                            have e2 := TT.out
                            omega
                          clear hQ hD E2 E3
                          go_wp2_with fail
                          refine (straight_any M 4 low _ HMl.out (by omega)).mono ?_
                          rintro e w1 ⟨rfl, hb1⟩
                          rw [HMb.out, stI_none HOO.out]
                          have A1 := Lib.hid (AW.out.below hb1)
                          clear hb1
                          go_wp2_with fail
                          go_region_law (go_simp; go_at_call 127; refine (topRanks_at _ _ _ [a, a, b, b] Q 2 _ _ _ rfl rfl rfl ((rowI_new w1 _ _ (nI [a, a, b, b]) rfl).drewN 1) (by simp) (fun d hd => by simp only [List.mem_cons, List.not_mem_nil, or_false] at hd; omega) (by omega) EE.out.1 (by rw [EE.out.2]; exact NE.out)).mono ?_; rintro e w2 ⟨rfl, rfl⟩)
                          all_goals
                            rw [EE.out.2]
                            go_wp2
                            go_ret
                            exact ⟨ret_int (by rw [R.out]), below_drewN (A1.out.2.2.2.alloc A1.out.2.2.2.size _) 1⟩
                        · have s1 : s < 0 := by omega
                          have V7 := Lib.hid (V6.out.2 s1)
                          clear c4
                          by_cases c5 : 0 ≤ v
                          · have R := Lib.hid (V7.out.1 c5)
                            obtain ⟨a, rfl⟩ := Int.eq_ofNat_of_zero_le c5
                            rw [Int.toNat_natCast] at R
                            have ha : a < 13 := by rcases SI.out.w1 with h | h <;> omega
                            obtain ⟨E1, E2, E3⟩ := andNot_bits M a HMl.out ha
                            rw [HMb.out] at E3
                            obtain ⟨Q, hQ⟩ : ∃ Q, Q = M &&& (18446744073709551615 - 2 ^ a) := ⟨_, rfl⟩
                            rw [← hQ] at E1 E2 E3
                            have EE := Lib.hid (And.intro E2 E3)
                            have NE : Hid (5 ≤ 2 + (desc (but1 (hasR (cnt xs)) a)).length) := by
                              show _ ≤ _
                              have e4 := SI.out.t2 a (by omega) (by omega)
                              have e1 := enough1 (c := cnt xs) (M := 1) (a := a) (fun r h1 h2 => by have := SI.out.s2 r (by omega) (by omega); omega)
                              have e2 := TT.out
                              omega
                            clear hQ E2 E3
                            go_wp2_with fail
                            refine (straight_any M 4 low _ HMl.out (by omega)).mono ?_
                            rintro e w1 ⟨rfl, hb1⟩
                            rw [HMb.out, stI_none HOO.out]
                            have A1 := Lib.hid (AW.out.below hb1)
                            clear hb1
                            go_wp2_with fail
                            refine (topRanks_at _ _ _ [a, a] Q 1 _ _ _ rfl rfl rfl (rowI_new _ _ _ _ rfl) (by simp) (fun d hd => by simp only [List.mem_cons, List.not_mem_nil, or_false] at hd; omega) (by omega) EE.out.1 (by rw [EE.out.2]; exact NE.out)).mono ?_
                            rintro e w2 ⟨rfl, rfl⟩
                            rw [EE.out.2]
                            go_wp2
                            go_ret
                            exact ⟨ret_int (by rw [R.out]), A1.out.2.2.2.alloc A1.out.2.2.2.size _⟩
                          · have v1 : v < 0 := by omega
                            have R := Lib.hid (V7.out.2 v1)
                            have NE : Hid (5 ≤ (desc (hasR (cnt xs))).length) := by
                              show _ ≤ _
                              have e1 := enough0 (c := cnt xs) (M := 1) (fun r h1 => by have := SI.out.w2 r (by omega) (by omega); omega)
                              have e2 := TT.out
                              omega
                            clear c5
                            go_wp2_with fail
                            refine (straight_any M 4 low _ HMl.out (by omega)).mono ?_
                            rintro e w1 ⟨rfl, hb1⟩
                            rw [HMb.out, stI_none HOO.out]
                            have A1 := Lib.hid (AW.out.below hb1)
                            clear hb1
                            go_wp2_with fail
                            refine (topRanks_at none 0 0 [] M 0 _ _ _ rfl rfl rfl (.inl rfl) (by simp) (by simp) (by omega) HMl.out (by rw [HMb.out]; have := NE.out; simp; omega)).mono ?_
                            rintro e w2 ⟨rfl, rfl⟩
                            rw [HMb.out]
                            go_wp2
                            go_ret
                            exact ⟨ret_int (by rw [R.out]), A1.out.2.2.2⟩
                    · next u =>
                      have R := Lib.hid (V4.out.1 u hO)
                      have HOO := Lib.hid hO
                      clear hO
                      by_cases t0 : 0 ≤ t
                      · have v0 : v < 0 := by have := C2.out; omega
                        go_wp2_with fail
                        refine (straight_any M 4 low _ HMl.out (by omega)).mono ?_
                        rintro e w1 ⟨rfl, hb1⟩
                        rw [HMb.out, stI_some HOO.out]
                        have A1 := Lib.hid (AW.out.below hb1)
                        clear hb1
                        go_wp2
                        go_ret
                        exact ⟨ret_int (by rw [R.out]), A1.out.2.2.2⟩
                      · have t1 : t < 0 := by omega
                        go_wp2_with fail
                        refine (straight_any M 4 low _ HMl.out (by omega)).mono ?_
                        rintro e w1 ⟨rfl, hb1⟩
                        rw [HMb.out, stI_some HOO.out]
                        have A1 := Lib.hid (AW.out.below hb1)
                        clear hb1
                        go_wp2
                        go_ret
                        exact ⟨ret_int (by rw [R.out]), A1.out.2.2.2⟩
                  · have R := Lib.hid (V3.out.1 p hfp)
                    have z0 : 0 ≤ z := by omega
                    have HZ := Lib.hid hz
                    clear hz hfp
                    by_cases t0 : 0 ≤ t
                    · have v0 : v < 0 := by have := C2.out; omega
                      go_wp2
                      go_ret
                      exact ⟨ret_int (by rw [R.out, HZ.out]), AW.out.2.2.2⟩
                    · have t1 : t < 0 := by omega
                      go_wp2
                      go_ret
                      exact ⟨ret_int (by rw [R.out, HZ.out]), AW.out.2.2.2⟩
end Go.Proofs.Ytbhlghadjcbilaa
