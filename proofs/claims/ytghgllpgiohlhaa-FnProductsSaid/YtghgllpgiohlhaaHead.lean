/-
  The program's own closed facts that read the head of the translation.
-/
import Derived.Test.YtghgllpgiohlhaaHeadMath
namespace Go.Proofs.Ytghgllpgiohlhaa
open Go
set_option maxRecDepth 100000

def w0 : List Nat := [104, 97, 114, 110, 101, 115, 115]
def w1 : List Nat := [55, 51, 97, 50, 102, 52, 54, 49, 57, 50, 55, 55, 98, 54, 49, 100, 52, 100, 56, 49, 50, 48, 49, 57, 53, 99, 57, 50, 102, 55, 102, 98, 56, 101, 56, 53, 49, 50, 100, 53, 54, 101, 98, 49, 100, 55, 55, 53, 53, 54, 48, 48, 57, 100, 102, 100, 102, 102, 52, 55, 51, 57, 52, 51]
def w2 : List Nat := [99, 117, 116]
def w3 : List Nat := [97, 116, 32, 108, 111, 111, 112, 46, 101, 120, 97, 109, 112, 108, 101, 47, 103, 48, 48, 57, 49, 48, 47, 108, 97, 119, 115, 46, 70, 110, 83, 117, 109, 115, 32, 108, 111, 111, 112, 46, 101, 120, 97, 109, 112, 108, 101, 47, 103, 48, 48, 57, 49, 48, 47, 108, 97, 119, 115, 46, 70, 110, 80, 114, 111, 100, 117, 99, 116, 115]
theorem init_text : Try.prog.initOrder = String.ofList (lets (w0 ++ 32 :: (w1 ++ 32 :: (w2 ++ 32 :: w3)))) := by kernel_rfl
theorem is_cut : lets w2 = "cut".toList := by decide +kernel
theorem init_behind : behindMainWord (wordsSigns Try.prog.initOrder.toList) = "cut".toList :: wordsSigns (lets w3) :=
  ((congrArg behindMainWord (words_of init_text (by decide +kernel) (by decide +kernel) (by decide +kernel))).trans (behind_of (by decide +kernel))).trans (congrArg (· :: wordsSigns (lets w3)) is_cut)
theorem cl_later : Try.prog.laysLater = false := by kernel_rfl
theorem cl_reflect : Try.prog.bearsReflect = false := by kernel_rfl
theorem cl_door : Try.prog.doorFits [] = true := by kernel_rfl
theorem cl_enter : Try.prog.mayEnter = true := enter_of init_behind cl_later cl_reflect cl_door
theorem cl_final : (false == Try.prog.liftsFinal) = true := final_of init_behind
theorem cl_make : (Try.prog.make == some .cut) = true := make_of init_behind
end Go.Proofs.Ytghgllpgiohlhaa
