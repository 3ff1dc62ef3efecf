/-
  The program's own closed facts, once for all rows of the seat.
-/
import Derived.Test.YtbhlghadjcbilaaHead
namespace Go.Proofs.Ytbhlghadjcbilaa
open Go

theorem own : ownKnob Try.prog.godebug = none := by kernel_rfl
theorem laidOut : laidOutB Try.prog = true := by kernel_rfl
theorem cl_maps : mapsRowed Try.prog = true := by kernel_rfl
theorem cl_stops : (Try.prog.stops == []) = true := by kernel_rfl
theorem cl_knobs : (Try.prog.stopKnobs == []) = true := by kernel_rfl
theorem cl_plain : (true == Try.prog.plainKeys) = true := by kernel_rfl
theorem cl_heard : Try.prog.stopsHeard = true := by kernel_rfl
end Go.Proofs.Ytbhlghadjcbilaa
