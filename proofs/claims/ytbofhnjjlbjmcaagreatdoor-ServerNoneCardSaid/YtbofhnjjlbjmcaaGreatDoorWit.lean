/- The witness, part 1. -/
import Derived.Test.YtbofhnjjlbjmcaaGreatDoorLay
set_option linter.unusedVariables false
set_option linter.unusedSimpArgs false
namespace Go.Proofs.YtbofhnjjlbjmcaaGreatDoor
open Go
set_option maxRecDepth 100000
theorem fits_of {P : Program} {w : World} {l : List (String × DataW Unit)} {y : List (Nat × List Value) × List Obj} (h : Lay.layList P w.heap.size l = some y)
    (h1 : decide (y.1.map (·.1)).Nodup = true) (h2 : (y.1.all fun r => Lay.isRow w.heap.toList[r.1]?) = true) : w.layFits P l [] = true := by
  unfold World.layFits
  rw [h]
  dsimp only
  rw [h1]
  simpa using h2
theorem ifaces_of {P : Program} {w w' : World} {l : List (String × DataW Unit)} {y : List (Nat × List Value) × List Obj} (h : Lay.layList P w.heap.size l = some y)
    (h1 : (y.1.all fun r => r.2.all (Lay.okV P w')) = true) (h2 : y.2.all (Lay.okO P w') = true) : w.layIfaces P l w' = true := by
  unfold World.layIfaces
  rw [h]
  dsimp only
  rw [h1, h2]
  rfl
theorem vars_of {P : Program} {w : World} {l : List (String × DataW Unit)} {y : List (Nat × List Value) × List Obj} (h : Lay.layList P w.heap.size l = some y) :
    w.layVars P l = { w with heap := ⟨Lay.setRows w.heap.toList y.1 ++ y.2⟩ } := by
  unfold World.layVars
  rw [h]
theorem size23 (os : Os) : (World.holding Tryz.prog os ⟨#[], #[], []⟩).heap.size = 23 := by
  unfold World.holding World.settled begin
  rw [waits_eq]
  kernel_rfl
theorem lay_here (os : Os) : Lay.layList Tryz.prog (World.holding Tryz.prog os ⟨#[], #[], []⟩).heap.size Rows.serverNoneRow.laid = some laidY := (congrArg (fun n => Lay.layList Tryz.prog n Rows.serverNoneRow.laid) (size23 os)).trans lay_all
theorem w8 (os : Os) : (World.holding Tryz.prog os ⟨#[], #[], []⟩).layFits Tryz.prog Rows.serverNoneRow.laid [] = true := by
  refine fits_of (lay_here os) (by kernel_rfl) ?_
  unfold World.holding World.settled begin
  rw [waits_eq]
  kernel_rfl
theorem laid_eq (os : Os) : World.laidAll Tryz.prog os Rows.serverNoneRow.laid = { World.holding Tryz.prog os ⟨#[], #[], []⟩ with heap := ⟨Lay.setRows (World.holding Tryz.prog os ⟨#[], #[], []⟩).heap.toList laidY.1 ++ laidY.2⟩ } := vars_of (lay_here os)
theorem w9 (os : Os) : (World.holding Tryz.prog os ⟨#[], #[], []⟩).layIfaces Tryz.prog Rows.serverNoneRow.laid (World.laidAll Tryz.prog os Rows.serverNoneRow.laid) = true := by
  rw [laid_eq os]
  refine ifaces_of (lay_here os) ?_ ?_
  · unfold World.holding World.settled begin
    rw [waits_eq]
    kernel_rfl
  · unfold World.holding World.settled begin
    rw [waits_eq]
    kernel_rfl
end Go.Proofs.YtbofhnjjlbjmcaaGreatDoor
