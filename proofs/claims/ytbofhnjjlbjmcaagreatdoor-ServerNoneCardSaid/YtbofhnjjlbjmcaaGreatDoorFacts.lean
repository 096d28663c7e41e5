/- Closed facts of the row. -/
import Derived.Test.YtbofhnjjlbjmcaaGreatDoorBook
import Derived.Test.YtbofhnjjlbjmcaaGreatDoorNamed
set_option linter.unusedVariables false
set_option linter.unusedSimpArgs false
namespace Go.Proofs.YtbofhnjjlbjmcaaGreatDoor
open Go
set_option maxRecDepth 100000
theorem j1 : Rows.serverNoneRow.wf (OpenSpec.ofChange Rows.serverNoneSpec) = true := by kernel_rfl
theorem j5 : namedTie Tryz.prog Rows.serverNoneRow.named Rows.serverNoneSpec.vars = true := by kernel_rfl
theorem j6 : (Tryz.prog.stops == []) = true := by kernel_rfl
theorem j8 : (Tryz.prog.stopKnobs == []) = true := by kernel_rfl
theorem j16 : (Rows.serverNoneRow.mapsOut == Tryz.prog.mapsAmong [4]) = true := by kernel_rfl
theorem j22 : (Rows.serverNoneRow.plainKeys == Tryz.prog.plainKeys) = true := by kernel_rfl
/-- does a function lay something later? -/
def later (fn : Func) : Bool := fn.body.isNone && (fn.name == "runtime.SetFinalizer" || fn.name == "runtime.AddCleanup" || fn.origin == "runtime.AddCleanup")
theorem later0 : (F0.take 200).any later = false := by kernel_rfl
theorem later1 : (F1.take 200).any later = false := by kernel_rfl
theorem later2 : (F2.take 200).any later = false := by kernel_rfl
theorem later3 : (F3.take 100).any later = false := by kernel_rfl
theorem later4 : ((F3.drop 100).take 100).any later = false := by kernel_rfl
theorem later5 : (((F3.drop 100).drop 100).take 60).any later = false := by kernel_rfl
theorem later6 : (((F3.drop 100).drop 100).drop 60).any later = false := by kernel_rfl
theorem none_split {α : Type} {p : α → Bool} {l : List α} (n : Nat) (h1 : (l.take n).any p = false) (h2 : (l.drop n).any p = false) : l.any p = false := by
  rw [← List.take_append_drop n l, List.any_append, h1, h2]; rfl
theorem lays : Tryz.prog.laysLater = false := by
  unfold Program.laysLater
  rw [← Array.any_toList]
  exact none_split 200 later0 (none_split 200 later1 (none_split 200 later2 (none_split 100 later3 (none_split 100 later4 (none_split 60 later5 later6)))))
theorem j24 : Tryz.prog.mayEnter = true := by
  unfold Program.mayEnter
  rw [lays]
  kernel_rfl
theorem j24b : (Rows.serverNoneRow.lifted == Tryz.prog.liftsFinal) = true := by kernel_rfl
theorem j24c : (Tryz.prog.make == some Rows.serverNoneRow.make) = true := by kernel_rfl
end Go.Proofs.YtbofhnjjlbjmcaaGreatDoor
