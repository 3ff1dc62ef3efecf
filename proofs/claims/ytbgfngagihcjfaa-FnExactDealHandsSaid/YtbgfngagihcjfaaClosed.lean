/-
  The program's own closed facts, once for all rows of the seat.
-/
import Derived.Test.YtbgfngagihcjfaaHeadMath
namespace Go.Proofs.Ytbgfngagihcjfaa
open Go
set_option maxRecDepth 100000

def w0 : List Nat := [104, 97, 114, 110, 101, 115, 115]
def w1 : List Nat := [50, 54, 52, 55, 52, 53, 54, 55, 99, 56, 52, 57, 99, 54, 99, 57, 102, 49, 48, 57, 54, 48, 101, 49, 52, 53, 100, 98, 56, 97, 54, 50, 99, 56, 98, 102, 48, 52, 52, 98, 50, 52, 51, 52, 51, 53, 99, 99, 53, 48, 99, 53, 97, 51, 50, 101, 50, 56, 101, 101, 48, 54, 55, 52]
def w2 : List Nat := [99, 117, 116]
def w3 : List Nat := [97, 116, 32, 108, 111, 111, 112, 46, 101, 120, 97, 109, 112, 108, 101, 47, 103, 48, 48, 57, 49, 48, 47, 108, 97, 119, 115, 46, 70, 110, 69, 120, 97, 99, 116, 67, 97, 114, 100, 115, 84, 101, 120, 116, 32, 108, 111, 111, 112, 46, 101, 120, 97, 109, 112, 108, 101, 47, 103, 48, 48, 57, 49, 48, 47, 108, 97, 119, 115, 46, 70, 110, 69, 120, 97, 99, 116, 82, 101, 97, 100, 67, 97, 114, 100, 115, 32, 108, 111, 111, 112, 46, 101, 120, 97, 109, 112, 108, 101, 47, 103, 48, 48, 57, 49, 48, 47, 108, 97, 119, 115, 46, 70, 110, 69, 120, 97, 99, 116, 68, 101, 97, 108, 72, 97, 110, 100, 115, 32, 108, 111, 111, 112, 46, 101, 120, 97, 109, 112, 108, 101, 47, 103, 48, 48, 57, 49, 48, 47, 108, 97, 119, 115, 46, 70, 110, 68, 101, 97, 108, 116, 32, 108, 111, 111, 112, 46, 101, 120, 97, 109, 112, 108, 101, 47, 103, 48, 48, 57, 49, 48, 47, 108, 97, 119, 115, 46, 70, 110, 67, 97, 114, 100, 115]
theorem init_text : Try.prog.initOrder = String.ofList (lets (w0 ++ 32 :: (w1 ++ 32 :: (w2 ++ 32 :: w3)))) := by kernel_rfl
theorem is_cut : lets w2 = "cut".toList := by decide +kernel
theorem init_behind : behindMainWord (wordsSigns Try.prog.initOrder.toList) = "cut".toList :: wordsSigns (lets w3) :=
  ((congrArg behindMainWord (words_of init_text (by decide +kernel) (by decide +kernel) (by decide +kernel))).trans (behind_of (by decide +kernel))).trans (congrArg (· :: wordsSigns (lets w3)) is_cut)
theorem cl_later : Try.prog.laysLater = false := by kernel_rfl
theorem cl_reflect : Try.prog.bearsReflect = false := by kernel_rfl
theorem cl_door : Try.prog.doorFits [] = true := by kernel_rfl
theorem cl_enter : Try.prog.mayEnter = true := enter_of init_behind cl_later cl_reflect cl_door
theorem cl_final : (false == Try.prog.liftsFinal) = true := final_of init_behind
theorem cl_make : (Try.prog.make == some .cut) = true := make_of init_behind
theorem own : ownKnob Try.prog.godebug = none := by kernel_rfl
theorem laidOut : laidOutB Try.prog = true := by kernel_rfl
theorem cl_maps : mapsRowed Try.prog = true := by kernel_rfl
theorem cl_stops : (Try.prog.stops == []) = true := by kernel_rfl
theorem cl_knobs : (Try.prog.stopKnobs == []) = true := by kernel_rfl
theorem cl_plain : (true == Try.prog.plainKeys) = true := by kernel_rfl
theorem cl_heard : Try.prog.stopsHeard = true := by kernel_rfl
end Go.Proofs.Ytbgfngagihcjfaa
