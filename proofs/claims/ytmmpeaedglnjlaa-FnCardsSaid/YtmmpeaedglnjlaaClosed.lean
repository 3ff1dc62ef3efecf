/-
  The program's own closed facts, once for all rows of the seat.
-/
import Derived.Test.YtmmpeaedglnjlaaHeadMath
namespace Go.Proofs.Ytmmpeaedglnjlaa
open Go
set_option maxRecDepth 100000

def w0 : List Nat := [104, 97, 114, 110, 101, 115, 115]
def w1 : List Nat := [57, 48, 100, 50, 55, 57, 57, 97, 101, 52, 51, 54, 56, 54, 54, 98, 99, 98, 102, 102, 101, 57, 102, 98, 53, 53, 57, 51, 48, 101, 100, 48, 55, 101, 51, 102, 99, 49, 56, 100, 53, 57, 55, 97, 57, 101, 56, 56, 55, 51, 55, 102, 51, 54, 53, 52, 51, 100, 53, 48, 102, 101, 51, 49]
def w2 : List Nat := [99, 117, 116]
def w3 : List Nat := [97, 116, 32, 108, 111, 111, 112, 46, 101, 120, 97, 109, 112, 108, 101, 47, 103, 48, 48, 57, 49, 48, 47, 108, 97, 119, 115, 46, 70, 110, 69, 120, 97, 99, 116, 67, 97, 114, 100, 115, 84, 101, 120, 116, 32, 108, 111, 111, 112, 46, 101, 120, 97, 109, 112, 108, 101, 47, 103, 48, 48, 57, 49, 48, 47, 108, 97, 119, 115, 46, 70, 110, 69, 120, 97, 99, 116, 82, 101, 97, 100, 67, 97, 114, 100, 115, 32, 108, 111, 111, 112, 46, 101, 120, 97, 109, 112, 108, 101, 47, 103, 48, 48, 57, 49, 48, 47, 108, 97, 119, 115, 46, 70, 110, 68, 101, 97, 108, 116, 32, 108, 111, 111, 112, 46, 101, 120, 97, 109, 112, 108, 101, 47, 103, 48, 48, 57, 49, 48, 47, 108, 97, 119, 115, 46, 70, 110, 67, 97, 114, 100, 115]
theorem init_text : Try.prog.initOrder = String.ofList (lets (w0 ++ 32 :: (w1 ++ 32 :: (w2 ++ 32 :: w3)))) := by kernel_rfl
theorem is_cut : lets w2 = "cut".toList := by decide +kernel
theorem init_behind : behindMainWord (wordsSigns Try.prog.initOrder.toList) = "cut".toList :: wordsSigns (lets w3) :=
  ((congrArg behindMainWord (words_of init_text (by decide +kernel) (by decide +kernel) (by decide +kernel))).trans (behind_of (by decide +kernel))).trans (congrArg (· :: wordsSigns (lets w3)) is_cut)
theorem cl_later : Try.prog.laysLater = false := by kernel_rfl
theorem cl_reflect : Try.prog.bearsReflect = false := by kernel_rfl
theorem cl_door : Try.prog.doorFits [] = true := by kernel_rfl
theorem cl_enter : Try.prog.mayEnter = true := enter_of init_behind cl_later cl_reflect cl_door
theorem cl_final : (false == Try.prog.liftsFinal) = true := final_of init_behind
theorem cl_make : (Try.prog.make == some .cut) = true := make_of init_behind
theorem own : ownKnob Try.prog.godebug = none := by kernel_rfl
theorem laidOut : laidOutB Try.prog = true := by kernel_rfl
theorem cl_maps : mapsRowed Try.prog = true := by kernel_rfl
theorem cl_stops : (Try.prog.stops == []) = true := by kernel_rfl
theorem cl_knobs : (Try.prog.stopKnobs == []) = true := by kernel_rfl
theorem cl_plain : (true == Try.prog.plainKeys) = true := by kernel_rfl
theorem cl_heard : Try.prog.stopsHeard = true := by kernel_rfl
end Go.Proofs.Ytmmpeaedglnjlaa
