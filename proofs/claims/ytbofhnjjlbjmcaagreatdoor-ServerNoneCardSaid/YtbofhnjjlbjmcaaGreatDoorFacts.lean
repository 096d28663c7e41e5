/- Closed facts of the row. -/
import Derived.Test.YtbofhnjjlbjmcaaGreatDoorBook
set_option linter.unusedVariables false
set_option linter.unusedSimpArgs false
namespace Go.Proofs.YtbofhnjjlbjmcaaGreatDoor
open Go
theorem j1 : Rows.serverNoneRow.wf (OpenSpec.ofChange Rows.serverNoneSpec) = true := by kernel_rfl
theorem j5 : namedTie Tryz.prog Rows.serverNoneRow.named Rows.serverNoneSpec.vars = true := by kernel_rfl
theorem j6 : (Tryz.prog.stops == []) = true := by kernel_rfl
theorem j8 : (Tryz.prog.stopKnobs == []) = true := by kernel_rfl
theorem j16 : (Rows.serverNoneRow.mapsOut == Tryz.prog.mapsAmong [4]) = true := by kernel_rfl
theorem j22 : (Rows.serverNoneRow.plainKeys == Tryz.prog.plainKeys) = true := by kernel_rfl
theorem j24 : Tryz.prog.mayEnter = true := by kernel_rfl
theorem j24b : (Rows.serverNoneRow.lifted == Tryz.prog.liftsFinal) = true := by kernel_rfl
theorem j24c : (Tryz.prog.make == some Rows.serverNoneRow.make) = true := by kernel_rfl
end Go.Proofs.YtbofhnjjlbjmcaaGreatDoor
