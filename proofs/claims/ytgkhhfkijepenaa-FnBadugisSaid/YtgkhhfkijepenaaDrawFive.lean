/-
  spec.l04DrawFive: five cards, drawn.
-/
import Derived.Test.YtgkhhfkijepenaaPick
import Derived.Test.YtgkhhfkijepenaaMathDraw
namespace Go.Proofs.Ytgkhhfkijepenaa
open Go.RowKit

/-- The list that is put together. -/
def Fv (lo g : Nat) (w wr : World) (v : Value) (k : Nat) (zs : List Int) : Prop :=
  (∃ A c, v = .slice A k c ∧ OwnT wr lo A c zs) ∧ zs.length = k ∧ Src wr g ∧ Kept g w wr ∧ lo ≤ wr.heap.size
theorem ownT_new (w : World) (cs : Array Value) (ys : List Int) (h : cs = (ys.map (Value.int .i64)).toArray) (n : Nat) (hn : ys.length = n) (hm : n ≤ maxLen) : OwnT (w.alloc (.cells cs 2)) w.heap.size (some ⟨w.heap.size, 0, none⟩) n ys := by
  subst h hn
  refine .inr ⟨w.heap.size, fun j => .int .i64 (ys.getD j 0), rfl, Nat.le_refl _, by simp, Nat.le_refl _, hm, ?_, fun k hk => rfl⟩
  have := World.rowIs_alloc w (ys.map (Value.int .i64)).toArray 2 (fun j => .int .i64 (ys.getD j 0)) (fun i hi => by
    have hi' : i < ys.length := by simpa using hi
    simp [List.getD_eq_getElem?_getD, hi'])
  rwa [show (ys.map (Value.int .i64)).toArray.size = ys.length by simp] at this
theorem fv_new {lo g : Nat} {w wr : World} (cs : Array Value) (ys : List Int) (h : cs = (ys.map (Value.int .i64)).toArray) (n : Nat) (hn : ys.length = n) (hm : n ≤ maxLen) (hs : Src wr g) (hk : Kept g w wr) (hl : lo ≤ wr.heap.size) :
    Fv lo g w (wr.alloc (.cells cs 2)) (.slice (some ⟨wr.heap.size, 0, none⟩) n n) n ys :=
  ⟨⟨_, _, rfl, (ownT_new wr cs ys h n hn hm).mono hl⟩, hn, hs.below' ((Below.refl _ _).alloc (Nat.le_refl _) _), hk.alloc _, by rw [World.size_alloc]; omega⟩
theorem ownT_row {w : World} {lo : Nat} {A : Option Addr} {c : Nat} {xs : List Int} (h : OwnT w lo A c xs) (k : Nat) : ∀ j, (Value.slice A k c).ownBlock = some j → lo ≤ j := by
  intro j e
  cases A with
  | none => cases e
  | some a => exact (h.own.lo_block j (by simpa [Value.ownBlock] using e)).1
theorem fv_snoc {lo g k q cap : Nat} {w w2 w3 : World} {o : Obj} {v : Value} {zs : List Int} {x : Int} (h : Fv lo g w w2 v k zs) (hlo : w.heap.size ≤ lo) (hg : g < lo) (ho : w3.ownsRow lo 2 1 (.slice (some ⟨q, 0, none⟩) (k + 1) cap) (k + 1) (zs.map (Value.int .i64) ++ [.int .i64 x]))
    (hw : (w2.alloc o).grownBy w3 v.ownBlock) : Fv lo g w w3 (.slice (some ⟨q, 0, none⟩) (k + 1) cap) (k + 1) (zs ++ [x]) := by
  obtain ⟨⟨A, c, rfl, hT⟩, hl, hs, hk, hsz⟩ := h
  have hln : (zs ++ [x]).length = k + 1 := by simp [hl]
  obtain ⟨A', c', hv, hT'⟩ := ownT_of_owns (xs := zs ++ [x]) (v := .slice (some ⟨q, 0, none⟩) (k + 1) cap) (by rw [hln]; simpa using ho)
  have hrow := ownT_row hT k
  refine ⟨⟨A', c', by rw [hv, hln], hT'⟩, hln, ?_, (hk.alloc o).grown hw (fun j e => Nat.le_trans hlo (hrow j e)), ?_⟩
  · exact hs.below (((Below.refl lo w2).alloc hsz o).grown hw (by rw [World.size_alloc]; omega) hrow) hg
  · have := hw.size; rw [World.size_alloc] at this; omega
theorem Fv.owns {lo g k : Nat} {w wr : World} {v : Value} {zs : List Int} (h : Fv lo g w wr v k zs) : wr.ownsRow lo 2 1 v k (zs.map (Value.int .i64)) := by
  obtain ⟨⟨A, c, rfl, hT⟩, hl, _⟩ := h
  subst hl
  exact hT.owns
/-- Five cards that were drawn. -/
def Fives (g m : Nat) (w : World) (e : Ending) (w' : World) : Prop :=
  ∃ ys A c, e = .returned (.slice A ys.length c) ∧ OwnT w' w.heap.size A c ys ∧ okC ys ∧ ys.length = m ∧ Src w' g ∧ Kept g w w'
/-- Cards behind which others are dealt. -/
theorem fv_deal {lo g ln n : Nat} {w w2 w3 w4 : World} {v v4 : Value} {zs ys rest : List Int} (h : Fv lo g w w2 v ln zs) (hg : g < lo) (hok : okC zs) (hn : ln + n ≤ 52)
    (hp : (ys ++ rest).Perm (othK zs 52)) (hq : ((ys.length : Int) = n ∨ rest = []) ∧ (ys.length : Int) ≤ n) (hs : Src w3 g) (hk : Kept g w2 w3)
    (ho : w4.ownsRow lo 2 1 v4 (ln + ys.length) (zs.map (Value.int .i64) ++ ys.map (Value.int .i64))) (hw : w3.grownBy w4 v.ownBlock) (hlo : w.heap.size ≤ lo) :
    (∃ A c, v4 = .slice A (zs ++ ys).length c ∧ OwnT w4 lo A c (zs ++ ys)) ∧ okC (zs ++ ys) ∧ (zs ++ ys).length = ln + n ∧ Src w4 g ∧ Kept g w w4 ∧ lo ≤ w4.heap.size := by
  obtain ⟨⟨A, c, rfl, hT⟩, hl, hs2, hk2, hsz⟩ := h
  subst hl
  obtain ⟨h1, h2⟩ := deal_ok hok hp hq.1 hq.2 hn
  have e : zs.length + ys.length = (zs ++ ys).length := by simp
  obtain ⟨A', c', hv, hT'⟩ := ownT_of_owns (xs := zs ++ ys) (v := v4) (by rw [← e]; simpa using ho)
  have hrow := ownT_row hT zs.length
  have hsz3 : lo ≤ w3.heap.size := Nat.le_trans hsz hk.size
  refine ⟨⟨A', c', hv, hT'⟩, h1, by rw [← e, h2], ?_, (hk2.trans hk).grown hw (fun j e => Nat.le_trans hlo (hrow j e)), Nat.le_trans hsz3 hw.size⟩
  exact hs.below ((Below.refl lo w3).grown hw hsz3 hrow) hg
theorem fives_pick {lo g m : Nat} {w w4 w5 : World} {A' : Option Addr} {c' : Nat} {zs ys : List Int} (hok : okC zs) (hl : zs.length = m) (hk : Kept g w w4) (hlo : w.heap.size ≤ lo) (hsz : lo ≤ w4.heap.size)
    (ho : OwnT w5 w4.heap.size A' c' ys) (hp : ys.Perm zs) (hs : Src w5 g) (hk5 : Kept g w4 w5) : Fives g m w (.returned (.slice A' ys.length c')) w5 :=
  ⟨ys, A', c', rfl, ho.mono (by omega), okC_perm hp.symm hok, by rw [hp.length_eq, hl], hs, hk.trans hk5⟩
theorem ownT_ne {w : World} {lo g : Nat} {A : Option Addr} {c : Nat} {xs : List Int} (h : OwnT w lo A c xs) (hg : g < lo) : ∀ b, A.map (·.block) = some b → b ≠ g := fun b hb e => by
  have := (h.own.lo_block b hb).1; omega

theorem Fv.lit {lo g k c : Nat} {w wr : World} {A : Option Addr} {zs : List Int} (h : Fv lo g w wr (.slice A k c) k zs) : OwnT wr lo A c zs := by
  obtain ⟨⟨A', c', hv, hT⟩, _⟩ := h
  simp only [Value.slice.injEq, true_and] at hv
  obtain ⟨rfl, rfl⟩ := hv
  exact hT
theorem Fv.next {lo g k : Nat} {w wr w' : World} {v : Value} {zs : List Int} (h : Fv lo g w wr v k zs) (hg : g < lo) (hs : Src w' g) (hk : Kept g wr w') : Fv lo g w w' v k zs := by
  obtain ⟨⟨A, c, rfl, hT⟩, hl, _, hk2, hsz⟩ := h
  exact ⟨⟨A, c, rfl, hT.keptG hk hg⟩, hl, hs, hk2.trans hk, Nat.le_trans hsz hk.size⟩

end Go.Proofs.Ytgkhhfkijepenaa
