/-
  How the head of a translation is read, for any program: its words, and what follows for the closed facts of a row.
-/
import Derived.Test.YtmmpeaedglnjlaaClosed0
namespace Go.Proofs.Ytmmpeaedglnjlaa
open Go
set_option maxRecDepth 100000

/-- Letters by their numbers. -/
def lets (l : List Nat) : List Char := l.map Char.ofNat
theorem words_split (w r : List Char) (h : ∀ c ∈ w, c ≠ Char.ofNat 32) : wordsSigns (w ++ Char.ofNat 32 :: r) = w :: wordsSigns r := by
  induction w with
  | nil => rfl
  | cons c w ih =>
    have h1 : c ≠ Char.ofNat 32 := h c (by simp)
    have h2 := ih (fun d hd => h d (by simp [hd]))
    rw [List.cons_append, wordsSigns, h2]
    exact h1
theorem no32 (l : List Nat) (h : (l.all fun n => (Char.ofNat n != Char.ofNat 32)) = true) : ∀ c ∈ lets l, c ≠ Char.ofNat 32 := by
  intro c hc
  obtain ⟨n, hn, rfl⟩ := List.mem_map.1 hc
  have := List.all_eq_true.1 h n hn
  simpa using this
theorem words_of {s : String} {w0 w1 w2 w3 : List Nat} (h : s = String.ofList (lets (w0 ++ 32 :: (w1 ++ 32 :: (w2 ++ 32 :: w3)))))
    (h0 : (w0.all fun n => (Char.ofNat n != Char.ofNat 32)) = true) (h1 : (w1.all fun n => (Char.ofNat n != Char.ofNat 32)) = true) (h2 : (w2.all fun n => (Char.ofNat n != Char.ofNat 32)) = true) :
    wordsSigns s.toList = lets w0 :: lets w1 :: lets w2 :: wordsSigns (lets w3) := by
  rw [h, String.toList_ofList]
  have e : lets (w0 ++ 32 :: (w1 ++ 32 :: (w2 ++ 32 :: w3))) = lets w0 ++ Char.ofNat 32 :: (lets w1 ++ Char.ofNat 32 :: (lets w2 ++ Char.ofNat 32 :: lets w3)) := by
    simp only [lets, List.map_append, List.map_cons]
  rw [e, words_split _ _ (no32 w0 h0), words_split _ _ (no32 w1 h1), words_split _ _ (no32 w2 h2)]
theorem behind_of {a b : List Char} {r : List (List Char)} (h : ((a == "harness".toList || a == "ownmain".toList) && isSumSigns b) = true) : behindMainWord (a :: b :: r) = r := by
  simp only [behindMainWord]
  rw [if_pos h]
theorem strip_cut (r : List (List Char)) : stripLifts liftWords ("cut".toList :: r) = ([], "cut".toList :: r) := by
  have e : ∀ o, o ∈ liftWords → ("cut".toList == o.toList) = false := by decide +kernel
  have : ∀ os : List String, (∀ o ∈ os, ("cut".toList == o.toList) = false) → stripLifts os ("cut".toList :: r) = ([], "cut".toList :: r) := by
    intro os
    induction os with
    | nil => intro _; rfl
    | cons o os ih =>
      intro h
      rw [stripLifts, h o (by simp)]
      simpa using ih (fun q hq => h q (by simp [hq]))
  exact this _ e
theorem cut_gc : ("cut".toList == "gc".toList) = false := by decide +kernel
theorem cut_spec : ("cut".toList == "spec".toList) = false := by decide +kernel
theorem cut_carried : ("cut".toList == "carried".toList) = false := by decide +kernel

section
variable {P : Program} {r : List (List Char)}
theorem heads_of (h : behindMainWord (wordsSigns P.initOrder.toList) = "cut".toList :: r) : P.headLifts = [] := by
  unfold Program.headLifts
  rw [h, strip_cut]
  rfl
theorem enter_of (h : behindMainWord (wordsSigns P.initOrder.toList) = "cut".toList :: r) (h1 : P.laysLater = false) (h2 : P.bearsReflect = false) (h3 : P.doorFits [] = true) : P.mayEnter = true := by
  unfold Program.mayEnter
  rw [h]
  simp only [strip_cut, cut_gc, cut_spec, cut_carried, h1, h2, h3]
  simp
theorem final_of (h : behindMainWord (wordsSigns P.initOrder.toList) = "cut".toList :: r) : (false == P.liftsFinal) = true := by
  unfold Program.liftsFinal
  rw [heads_of h, h]
  simp
theorem make_of (h : behindMainWord (wordsSigns P.initOrder.toList) = "cut".toList :: r) : (P.make == some .cut) = true := by
  unfold Program.make
  rw [h]
  simp only [cut_gc, cut_spec]
  simp
end
end Go.Proofs.Ytmmpeaedglnjlaa
