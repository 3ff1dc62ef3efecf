/-
  UnriffleDeck in the reference and in the program.
-/
import Derived.Test.YtljlnfdbjeinaaaDeck
import Derived.Test.YtljlnfdbjeinaaaOwn
import Derived.Test.YtljlnfdbjeinaaaMathUnriffle
import Derived.Deep.AppendLies
import Derived.Deep.RegionLaw
import Derived.BigRegion
namespace Go.Proofs.Ytljlnfdbjeinaaa
open Go.RowKit

theorem owns_reads {w : World} {base : Nat} {v : Value} {n : Nat} {xs : List Value} (h : w.ownsRow base 2 1 v n xs) : ∃ A c, v = .slice A n c ∧ Reads w w.heap.size 1 A n xs := by
  rcases h.2 with ⟨rfl, h0⟩ | ⟨g, cap, cur, rfl, _, hg, _⟩
  · subst h0; exact ⟨none, 0, rfl, by simpa using h.1, fun hn => absurd hn (by omega)⟩
  · exact ⟨some ⟨g, 0, none⟩, cap, rfl, h.1, fun _ => ⟨_, rfl, (h.lt g rfl).2, fun j u hu => h.cells rfl j u hu⟩⟩

theorem ne_block {v u : Value} (h : ∀ q, v.ownBlock = some q → u.ownBlock ≠ some q) : u.ownBlock = none ∨ u.ownBlock ≠ v.ownBlock := by
  cases e : u.ownBlock with
  | none => exact .inl rfl
  | some q => exact .inr (fun e2 => h q e2.symm e)
theorem ne_symm {v u : Value} (h : ∀ q, v.ownBlock = some q → u.ownBlock ≠ some q) : ∀ q, u.ownBlock = some q → v.ownBlock ≠ some q := fun q e e2 => h q e2 e
theorem ne_after {w : World} {base : Nat} {e : TypeId} {n sz m c g : Nat} {zs : List Value} {o : Obj} {v u : Value} (h : ∀ q, v.ownBlock = some q → u.ownBlock ≠ some q) (hu : w.ownsRow base e sz u n zs) (ha : v.ownBlock = some g ∨ g = (w.alloc o).heap.size) :
    ∀ q, Value.ownBlock (.slice (some ⟨g, 0, none⟩) m c) = some q → u.ownBlock ≠ some q := by
  intro q hq e
  simp only [Value.ownBlock, Option.some.injEq] at hq
  subst hq
  rcases ha with ha | ha
  · exact h g ha e
  · have := (hu.lt g e).2
    simp at ha
    omega

set_option maxHeartbeats 1000000 in
set_option maxRecDepth 8000 in
theorem specUn_any (A : Option Addr) (c : Nat) (xs : List Int) (w : World) (h : RowI w A xs) (hl : xs.length ≤ 1048576) :
    Calls Try.prog 30 #[.slice A xs.length c] w (GivesC w (unL xs) (unA xs)) := by
  have HR := Lib.hid h
  clear h
  cases hd : deckB xs
  · have H := Lib.hid hd
    have R : Hid (unL xs = [] ∧ unA xs = 1) := by show _ ∧ _; unfold unL unA; rw [hd]; exact ⟨rfl, rfl⟩
    clear hd
    go_enter Try.func30, Try.ntmps30
    go_wp2_with fail
    refine (specIsDeck_any A c xs _ HR.out hl).mono ?_
    rintro e w1 ⟨rfl, hb⟩
    rw [H.out]
    go_wp2
    go_ret2
    exact ⟨none, 0, by rw [R.out.1, R.out.2]; rfl, by rw [R.out.1]; exact OwnI.nil_ _ _, hb⟩
  · have H := Lib.hid hd
    have HD := Lib.hid ((deckB_iff xs).1 hd)
    have R : Hid (unL xs = unK xs ∧ unA xs = 0) := by show _ ∧ _; unfold unL unA; rw [if_pos hd, if_pos hd]; exact ⟨rfl, rfl⟩
    clear hd
    obtain ⟨i0, hi, hz0, hz1, hz2⟩ := info_parts int_info
    have HI := Lib.hid (And.intro hi (And.intro hz0 (And.intro hz1 hz2)))
    clear hi hz0 hz1 hz2
    go_enter Try.func30, Try.ntmps30
    go_wp2_with fail
    refine (specIsDeck_any A c xs _ HR.out hl).mono ?_
    rintro e w1 ⟨rfl, hb⟩
    rw [H.out]
    have HB := Lib.hid hb
    have HR1 := Lib.hid (HR.out.below hb)
    clear hb
    go_wp2
    go_loopw [4, 5, 6] (fun v u i wr => ∃ k : Nat, k ≤ 26 ∧ i = .int .i64 k ∧ Hid (wr.ownsRow w1.heap.size 2 1 v k ((pickK xs 0 k).map (Value.int .i64))) ∧ Hid (wr.ownsRow w1.heap.size 2 1 u k ((pickK xs 1 k).map (Value.int .i64))) ∧ Hid (∀ q, v.ownBlock = some q → u.ownBlock ≠ some q) ∧ Hid (Below w1.heap.size w1 wr))
      (fun _ _ i _ => 26 - (intOf i).toNat)
    case atStart =>
      refine ⟨0, Nat.zero_le _, rfl, (World.ownsRow_made w1 #[] 0 (Nat.le_refl _) (by decide) rfl).alloc _, ?_, ?_, ((Below.refl _ _).alloc (Nat.le_refl _) _).alloc (by simp) _⟩
      · show World.ownsRow _ _ _ _ _ _ _
        have hs : (w1.alloc (.cells #[] 2)).heap.size = w1.heap.size + 1 := by simp
        have := World.ownsRow_made (e := 2) (size := 1) (base := w1.heap.size) (w1.alloc (.cells #[] 2)) #[] 0 (by omega) (by decide) rfl
        rw [hs] at this
        exact this
      intro q hq
      simp [Value.ownBlock] at hq ⊢
      omega
    case round =>
      obtain ⟨k, hk, rfl, hown, hown', hne, hB⟩ := hrel
      by_cases hlt : k < 26
      · have hk1 : 2 * k < xs.length := by rw [HD.out.2]; omega
        have hk2 : 2 * k + 1 < xs.length := by rw [HD.out.2]; omega
        obtain ⟨b, off, rfl, hb, hc⟩ := HR1.out.at_ hk1
        obtain ⟨b', off', he, _, hc'⟩ := HR1.out.at_ hk2
        simp only [Option.some.injEq, Addr.mk.injEq, and_true] at he
        obtain ⟨rfl, rfl⟩ := he
        obtain ⟨x, hx⟩ : ∃ x, x = xs.getD (2 * k) 0 := ⟨_, rfl⟩
        obtain ⟨y, hy⟩ : ∃ y, y = xs.getD (2 * k + 1) 0 := ⟨_, rfl⟩
        have hc1 : wr.cell? ⟨b, off + 2 * k, none⟩ = some (.int .i64 x) := by rw [hx]; exact (hB.out.cell (p := ⟨b, off + 2 * k, none⟩) hb).trans hc
        have hn := Lib.hid HD.out.2
        have k0 : (0 : Int) ≤ 2 * (k : Int) := by omega
        have k1 : 2 * (k : Int) < (xs.length : Int) := by omega
        have k2 : 2 * (k : Int) + 1 < (xs.length : Int) := by omega
        have k3 : IntKind.i64.wrap (2 * (k : Int) + 1) = 2 * (k : Int) + 1 := IntWalk.i64_in _ (by omega)
        have k6 : IntKind.i64.wrap (2 * (k : Int)) = 2 * (k : Int) := IntWalk.i64_in _ (by omega)
        have k4 : (2 * (k : Int) + 1).toNat = 2 * k + 1 := by omega
        have k7 : (2 * (k : Int)).toNat = 2 * k := by omega
        have k5 : (0 : Int) ≤ 2 * (k : Int) + 1 := by omega
        have HX := Lib.hid hx
        have HY := Lib.hid hy
        have HK := Lib.hid hk1
        have HC := Lib.hid hc'
        have HBL := Lib.hid hb
        clear hx hy hc hc' hb hk1 hk2
        go_wp2_with (at_builtin; first
          | (refine wpList_append_lies _ rfl (.tmp 16) (.tmp 22) 22 rfl w1.heap.size 2 i0 (.int .i64 0) 1 8 Try.underlying22 HI.out.1 HI.out.2.1 HI.out.2.2.1 HI.out.2.2.2 rfl (by decide) _ k _ rfl (hown.out.alloc _) ⟨wr.heap.size, 0, none⟩ 1 1 [.int .i64 x] rfl rfl (World.news_of_block (heap_alloc_new _ _)) (by simp [Value.oneCell']) (by decide) (by simp only [maxLen]; omega) (by omega) (by simp; have := hB.out.size; omega) _ rfl ?_
             intro g cap w2 hown2 hgrow2 hat hlt2
             have R1 := Lib.hid hown2
             have G1 := Lib.hid (hB.out.trans ((((Below.refl _ _).alloc hB.out.size _)).grown hgrow2 (by simp; have := hB.out.size; omega) (fun j e => (hown.out.lt j e).1)))
             have O2 := Lib.hid ((hown'.out.alloc _).kept hgrow2 (ne_block hne.out))
             have N2 := Lib.hid (ne_after (m := k + 1) (c := cap) hne.out hown'.out hat)
             have hc2 : w2.cell? ⟨b, off + (2 * k + 1), none⟩ = some (.int .i64 y) := by rw [HY.out]; exact (G1.out.cell (p := ⟨b, off + (2 * k + 1), none⟩) HBL.out).trans HC.out
             clear hown2 hgrow2 hat hlt2)
          | (refine wpList_append_lies _ rfl (.tmp 24) (.tmp 31) 22 rfl w1.heap.size 2 i0 (.int .i64 0) 1 8 Try.underlying22 HI.out.1 HI.out.2.1 HI.out.2.2.1 HI.out.2.2.2 rfl (by decide) _ k _ rfl (O2.out.alloc _) ⟨w2.heap.size, 0, none⟩ 1 1 [.int .i64 y] rfl rfl (World.news_of_block (heap_alloc_new _ _)) (by simp [Value.oneCell']) (by decide) (by simp only [maxLen]; omega) (by omega) (by simp; have := G1.out.size; omega) _ rfl ?_
             intro g' cap' w3 hown3 hgrow3 hat3 hlt3
             have R3 := Lib.hid hown3
             have G3 := Lib.hid (G1.out.trans ((((Below.refl _ _).alloc G1.out.size _)).grown hgrow3 (by simp; have := G1.out.size; omega) (fun j e => (O2.out.lt j e).1)))
             have O3 := Lib.hid ((R1.out.alloc _).kept hgrow3 (ne_block (ne_symm N2.out)))
             have N3 := Lib.hid (ne_symm (ne_after (m := k + 1) (c := cap') (ne_symm N2.out) R1.out hat3))
             clear hown3 hgrow3 hat3 hlt3))
        go_roundw
        case rel =>
          refine ⟨k + 1, by omega, by go_num, ?_, ?_, N3.out, G3⟩
          · show World.ownsRow _ _ _ _ _ _ _
            rw [pickK_succ, List.map_append, List.map_cons, List.map_nil, ← (show x = xs.getD (2 * k + 0) 0 from HX.out)]
            exact O3.out
          · show World.ownsRow _ _ _ _ _ _ _
            rw [pickK_succ, List.map_append, List.map_cons, List.map_nil, ← HY.out]
            exact R3.out
        case measure => simp [intOf]; omega
      · have hkn : k = 26 := by omega
        subst hkn
        obtain ⟨A2, c2, rfl, hrd⟩ := owns_reads hown'.out
        go_wp2_with (at_builtin; refine wpList_append_any _ rfl (.tmp 33) (.tmp 34) 22 rfl w1.heap.size 2 i0 (.int .i64 0) 1 8 Try.underlying22 HI.out.1 HI.out.2.1 HI.out.2.2.1 HI.out.2.2.2 rfl (by decide) _ 26 _ rfl hown.out wr.heap.size A2 26 c2 _ rfl hrd (ints_one _) (by simp only [maxLen]; omega) (by omega) hB.out.size ?_; intro v1 w2 hown1 hg1 hat1; have O1 := Lib.hid hown1; have G1 := Lib.hid (hB.out.grown hg1 hB.out.size (fun j e => (hown.out.lt j e).1)); clear hown1 hg1 hat1)
        go_ret2
        obtain ⟨A', c', hv, ho⟩ := ownI_of_owns (xs := unK xs) (v := v1) (w := w2) (lo := w1.heap.size) (by rw [unK_length, unK_eq, List.map_append]; exact O1.out)
        subst hv
        exact ⟨A', c', by rw [R.out.1, R.out.2]; rfl, by rw [R.out.1]; exact ho.mono HB.out.size, HB.out.trans (G1.out.mono HB.out.size)⟩

set_option maxHeartbeats 1000000 in
set_option maxRecDepth 8000 in
theorem implUn_any (A : Option Addr) (c : Nat) (xs : List Int) (w : World) (h : RowI w A xs) (hl : xs.length ≤ 1048576) :
    Calls Try.prog 29 #[.slice A xs.length c] w (GivesC w (unL xs) (unA xs)) := by
  have HR := Lib.hid h
  clear h
  cases hd : deckB xs
  · have H := Lib.hid hd
    have R : Hid (unL xs = [] ∧ unA xs = 1) := by show _ ∧ _; unfold unL unA; rw [hd]; exact ⟨rfl, rfl⟩
    clear hd
    go_enter Try.func29, Try.ntmps29
    go_wp2_with fail
    refine (implIsDeck_any A c xs _ HR.out hl).mono ?_
    rintro e w1 ⟨rfl, hb⟩
    rw [H.out]
    go_wp2
    go_ret2
    exact ⟨none, 0, by rw [R.out.1, R.out.2]; rfl, by rw [R.out.1]; exact OwnI.nil_ _ _, hb⟩
  · have H := Lib.hid hd
    have HD := Lib.hid ((deckB_iff xs).1 hd)
    have R : Hid (unL xs = unK xs ∧ unA xs = 0) := by show _ ∧ _; unfold unL unA; rw [if_pos hd, if_pos hd]; exact ⟨rfl, rfl⟩
    clear hd
    have hmk : ∀ w : World, (Instr.makeSlice 22 (.int .i64 52) (.int .i64 52)).run Try.prog w = .ok (.slice (some ⟨w.heap.size, 0, none⟩) 52 52) (w.alloc (.cells (madeCells #[.int .i64 0] 52) 2)) := fun _ => by kernel_rfl
    go_enter Try.func29, Try.ntmps29
    go_wp2_with fail
    refine (implIsDeck_any A c xs _ HR.out hl).mono ?_
    rintro e w1 ⟨rfl, hb⟩
    rw [H.out]
    have HB := Lib.hid hb
    have HR1 := Lib.hid (HR.out.below hb)
    clear hb
    go_wp2
    go_loopw [5, 10] (fun _ i wr => ∃ k : Nat, k ≤ 26 ∧ i = .int .i64 k ∧ wr.rowIs w1.heap.size 2 52 (fun j => if j < k ∨ (26 ≤ j ∧ j < 26 + k) then .int .i64 (unC xs j) else .int .i64 0) ∧ Hid (Below w1.heap.size w1 wr ∧ w1.heap.size < wr.heap.size))
      (fun _ i _ => 26 - (intOf i).toNat)
    case atStart => exact ⟨0, Nat.zero_le _, rfl, (World.rowIs_made w1 _ 52 _).congr (fun i _ => by
        have : ¬ (i < 0 ∨ 26 ≤ i ∧ i < 26 + 0) := by omega
        simp only [if_neg this]), (Below.refl _ _).alloc (Nat.le_refl _) _, by simp⟩
    case round =>
      obtain ⟨k, hk, rfl, hr, hB⟩ := hrel
      clear hmk
      by_cases hlt : k < 26
      · have hk1 : 2 * k < xs.length := by rw [HD.out.2]; omega
        have hk2 : 2 * k + 1 < xs.length := by rw [HD.out.2]; omega
        obtain ⟨b, off, rfl, hb, hc⟩ := HR1.out.at_ hk1
        obtain ⟨b', off', he, _, hc'⟩ := HR1.out.at_ hk2
        simp only [Option.some.injEq, Addr.mk.injEq, and_true] at he
        obtain ⟨rfl, rfl⟩ := he
        obtain ⟨x, hx⟩ : ∃ x, x = xs.getD (2 * k) 0 := ⟨_, rfl⟩
        obtain ⟨y, hy⟩ : ∃ y, y = xs.getD (2 * k + 1) 0 := ⟨_, rfl⟩
        have hc1 : wr.cell? ⟨b, off + 2 * k, none⟩ = some (.int .i64 x) := by rw [hx]; exact (hB.out.1.cell (p := ⟨b, off + 2 * k, none⟩) hb).trans hc
        have hc2 : wr.cell? ⟨b, off + (2 * k + 1), none⟩ = some (.int .i64 y) := by rw [hy]; exact (hB.out.1.cell (p := ⟨b, off + (2 * k + 1), none⟩) hb).trans hc'
        have hc3 := hr.cell (i := k) (by omega)
        have hc4 := hr.cell (i := k + 26) (by omega)
        have e3 : ¬ (k < k ∨ (26 ≤ k ∧ k < 26 + k)) := by omega
        have e4 : ¬ (k + 26 < k ∨ (26 ≤ k + 26 ∧ k + 26 < 26 + k)) := by omega
        simp only [if_neg e3] at hc3
        simp only [if_neg e4] at hc4
        have hf3 := hr.frozen k
        have hf4 := hr.frozen (k + 26)
        have hf5 := (hr.set k (.int .i64 x)).frozen (k + 26)
        have hc5 := (hr.set k (.int .i64 x)).cell (i := k + 26) (by omega)
        have e6 : ¬ k + 26 = k := by omega
        simp only [if_neg e4, if_neg e6] at hc5
        have HRW := Lib.hid hr
        have hn := Lib.hid HD.out.2
        have k0 : (0 : Int) ≤ 2 * (k : Int) := by omega
        have k1 : 2 * (k : Int) < (xs.length : Int) := by omega
        have k2 : 2 * (k : Int) + 1 < (xs.length : Int) := by omega
        have k3 : IntKind.i64.wrap (2 * (k : Int) + 1) = 2 * (k : Int) + 1 := IntWalk.i64_in _ (by omega)
        have k6 : IntKind.i64.wrap (2 * (k : Int)) = 2 * (k : Int) := IntWalk.i64_in _ (by omega)
        have k4 : (2 * (k : Int) + 1).toNat = 2 * k + 1 := by omega
        have k7 : (2 * (k : Int)).toNat = 2 * k := by omega
        have k5 : (0 : Int) ≤ 2 * (k : Int) + 1 := by omega
        have k8 : IntKind.i64.wrap ((k : Int) + 26) = (k : Int) + 26 := IntWalk.i64_in _ (by omega)
        have k9 : ((k : Int) + 26).toNat = k + 26 := by omega
        have HX := Lib.hid hx
        have HY := Lib.hid hy
        skip
        clear hx hy hc hc' hb hk1 hk2 hr e3 e4 e6
        have bne : ¬ b = w1.heap.size := by omega
        have bne' : ¬ w1.heap.size = b := by omega
        go_wp2
        go_region
        all_goals
          go_wp2
          go_roundw
          case rel =>
            have B2 := ((hB.out.1.setCell (p := ⟨w1.heap.size, k, none⟩) (Nat.le_refl _) (.int .i64 x)).setCell (p := ⟨w1.heap.size, k + 26, none⟩) (Nat.le_refl _) (.int .i64 y)).drew
            refine ⟨k + 1, by omega, by go_num, ((HRW.out.set k _).set (k + 26) _).congr (fun j _ => ?_), B2, by simpa [World.setCell] using hB.out.2⟩
            by_cases e1 : j = k
            · have t1 : ¬ j = k + 26 := by omega
              have t2 : j < k + 1 ∨ 26 ≤ j ∧ j < 26 + (k + 1) := by omega
              have t3 : j < 26 := by omega
              simp only [if_neg t1, if_pos t2, if_pos e1, unC, if_pos t3]
              rw [HX.out, e1]
            · by_cases e2 : j = k + 26
              · have t2 : j < k + 1 ∨ 26 ≤ j ∧ j < 26 + (k + 1) := by omega
                have t3 : ¬ j < 26 := by omega
                simp only [if_pos e2, if_pos t2, unC, if_neg t3]
                rw [HY.out, show j - 26 = k by omega]
              · by_cases t2 : j < k ∨ 26 ≤ j ∧ j < 26 + k
                · have t4 : j < k + 1 ∨ 26 ≤ j ∧ j < 26 + (k + 1) := by omega
                  simp only [if_neg e1, if_neg e2, if_pos t2, if_pos t4]
                · have t4 : ¬ (j < k + 1 ∨ 26 ≤ j ∧ j < 26 + (k + 1)) := by omega
                  simp only [if_neg e1, if_neg e2, if_neg t2, if_neg t4]
          case measure => simp [intOf]; omega
      · have hkn : k = 26 := by omega
        subst hkn
        have HRW := Lib.hid hr
        clear hr hlt
        go_wp2
        go_ret2
        have O : OwnI wr w.heap.size (some ⟨w1.heap.size, 0, none⟩) 52 (unK xs) := OwnI.of_rowIs HB.out.size hB.out.2 (by rw [unK_length]; exact Nat.le_refl _) (by simp only [maxLen]; omega) HRW.out (fun j hj => by
          rw [unK_length] at hj
          rw [unK_getD _ _ hj]
          have : j < 26 ∨ (26 ≤ j ∧ j < 26 + 26) := by omega
          simp only [if_pos this])
        exact ⟨some ⟨w1.heap.size, 0, none⟩, 52, by rw [R.out.1, R.out.2, unK_length]; rfl, by rw [R.out.1]; exact O, HB.out.trans (hB.out.1.mono HB.out.size)⟩
end Go.Proofs.Ytljlnfdbjeinaaa
