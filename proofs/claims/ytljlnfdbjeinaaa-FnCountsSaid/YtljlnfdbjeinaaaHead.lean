/-
  The program's own closed facts that read the head of the translation.
-/
import Derived.Test.YtljlnfdbjeinaaaHeadMath
namespace Go.Proofs.Ytljlnfdbjeinaaa
open Go
set_option maxRecDepth 100000

def w0 : List Nat := [104, 97, 114, 110, 101, 115, 115]
def w1 : List Nat := [53, 99, 57, 97, 97, 102, 100, 97, 54, 101, 97, 49, 51, 49, 98, 52, 55, 99, 54, 57, 52, 102, 50, 56, 100, 101, 51, 49, 52, 98, 56, 99, 51, 57, 52, 55, 55, 101, 57, 55, 98, 57, 101, 102, 97, 49, 53, 97, 48, 54, 97, 102, 99, 48, 56, 100, 99, 48, 55, 48, 97, 53, 57, 97]
def w2 : List Nat := [99, 117, 116]
def w3 : List Nat := [97, 116, 32, 108, 111, 111, 112, 46, 101, 120, 97, 109, 112, 108, 101, 47, 103, 48, 48, 57, 49, 48, 47, 108, 97, 119, 115, 46, 70, 110, 69, 120, 97, 99, 116, 67, 97, 114, 100, 115, 84, 101, 120, 116, 32, 108, 111, 111, 112, 46, 101, 120, 97, 109, 112, 108, 101, 47, 103, 48, 48, 57, 49, 48, 47, 108, 97, 119, 115, 46, 70, 110, 69, 120, 97, 99, 116, 82, 101, 97, 100, 67, 97, 114, 100, 115, 32, 108, 111, 111, 112, 46, 101, 120, 97, 109, 112, 108, 101, 47, 103, 48, 48, 57, 49, 48, 47, 108, 97, 119, 115, 46, 70, 110, 69, 120, 97, 99, 116, 68, 101, 97, 108, 72, 97, 110, 100, 115, 32, 108, 111, 111, 112, 46, 101, 120, 97, 109, 112, 108, 101, 47, 103, 48, 48, 57, 49, 48, 47, 108, 97, 119, 115, 46, 70, 110, 82, 105, 102, 102, 108, 101, 115, 32, 108, 111, 111, 112, 46, 101, 120, 97, 109, 112, 108, 101, 47, 103, 48, 48, 57, 49, 48, 47, 108, 97, 119, 115, 46, 70, 110, 67, 111, 117, 110, 116, 115, 32, 108, 111, 111, 112, 46, 101, 120, 97, 109, 112, 108, 101, 47, 103, 48, 48, 57, 49, 48, 47, 108, 97, 119, 115, 46, 70, 110, 83, 104, 117, 102, 102, 108, 101, 115, 32, 108, 111, 111, 112, 46, 101, 120, 97, 109, 112, 108, 101, 47, 103, 48, 48, 57, 49, 48, 47, 108, 97, 119, 115, 46, 70, 110, 68, 101, 97, 108, 116, 32, 108, 111, 111, 112, 46, 101, 120, 97, 109, 112, 108, 101, 47, 103, 48, 48, 57, 49, 48, 47, 108, 97, 119, 115, 46, 70, 110, 67, 97, 114, 100, 115]
theorem init_text : Try.prog.initOrder = String.ofList (lets (w0 ++ 32 :: (w1 ++ 32 :: (w2 ++ 32 :: w3)))) := by kernel_rfl
theorem is_cut : lets w2 = "cut".toList := by decide +kernel
theorem init_behind : behindMainWord (wordsSigns Try.prog.initOrder.toList) = "cut".toList :: wordsSigns (lets w3) :=
  ((congrArg behindMainWord (words_of init_text (by decide +kernel) (by decide +kernel) (by decide +kernel))).trans (behind_of (by decide +kernel))).trans (congrArg (· :: wordsSigns (lets w3)) is_cut)
theorem cl_later : Try.prog.laysLater = false := by kernel_rfl
theorem cl_reflect : Try.prog.bearsReflect = false := by kernel_rfl
theorem cl_door : Try.prog.doorFits [] = true := by kernel_rfl
theorem cl_enter : Try.prog.mayEnter = true := enter_of init_behind cl_later cl_reflect cl_door
theorem cl_final : (false == Try.prog.liftsFinal) = true := final_of init_behind
theorem cl_make : (Try.prog.make == some .cut) = true := make_of init_behind
end Go.Proofs.Ytljlnfdbjeinaaa
