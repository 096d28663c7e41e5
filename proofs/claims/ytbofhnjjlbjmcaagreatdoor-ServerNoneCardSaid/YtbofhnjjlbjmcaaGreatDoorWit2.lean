/- The witness, part 2. -/
import Derived.Test.YtbofhnjjlbjmcaaGreatDoorWit
set_option linter.unusedVariables false
set_option linter.unusedSimpArgs false
namespace Go.Proofs.YtbofhnjjlbjmcaaGreatDoor
open Go
set_option maxRecDepth 100000
noncomputable abbrev zargs : Array Value := #[.agg #[.int .i64 0, .int .i64 0, .int .u8 0, .int .u8 0], .agg #[.int .u8 0, .int .i64 0, .string ⟨#[]⟩, .int .i64 0, .int .i64 0, .int .u32 0]]
theorem w2 (os : Os) : ((World.laidAll Tryz.prog os Rows.serverNoneRow.laid).forCall (fun _ _ => 0) ⟨#[], zargs, []⟩).variablesZipB Tryz.prog = true := by
  rw [laid_eq os]
  unfold World.variablesZipB World.holding World.settled begin
  rw [waits_eq]
  kernel_rfl
theorem w3 (os : Os) : ((((World.laidAll Tryz.prog os Rows.serverNoneRow.laid).forCall (fun _ _ => 0) ⟨#[], zargs, []⟩).heap.toList.drop Tryz.prog.globals.size).take ((begin Tryz.prog (fun _ _ => 0) default).world.heap.size - Tryz.prog.globals.size) = (begin Tryz.prog (fun _ _ => 0) default).world.heap.toList.drop Tryz.prog.globals.size) := by
  rw [laid_eq os]
  unfold World.holding World.settled begin
  rw [waits_eq]
  kernel_rfl
end Go.Proofs.YtbofhnjjlbjmcaaGreatDoor
