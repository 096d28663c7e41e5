/- Closed facts of the row. -/
import Derived.Test.YtbofhnjjlbjmcaaGreatDoorGoes
set_option linter.unusedVariables false
set_option linter.unusedSimpArgs false
namespace Go.Proofs.YtbofhnjjlbjmcaaGreatDoor
open Go
set_option maxRecDepth 100000
theorem rows0 : ((List.range 908).take 152).all (rowFine Tryz.prog) = true := by kernel_rfl
theorem rows1 : (((List.range 908).drop 152).take 152).all (rowFine Tryz.prog) = true := by kernel_rfl
theorem rows2 : ((((List.range 908).drop 152).drop 152).take 152).all (rowFine Tryz.prog) = true := by kernel_rfl
theorem rows3 : (((((List.range 908).drop 152).drop 152).drop 152).take 152).all (rowFine Tryz.prog) = true := by kernel_rfl
theorem rows4 : ((((((List.range 908).drop 152).drop 152).drop 152).drop 152).take 152).all (rowFine Tryz.prog) = true := by kernel_rfl
theorem rows5 : ((((((List.range 908).drop 152).drop 152).drop 152).drop 152).drop 152).all (rowFine Tryz.prog) = true := by kernel_rfl
theorem rows : (List.range 908).all (rowFine Tryz.prog) = true := all_split 152 rows0 (all_split 152 rows1 (all_split 152 rows2 (all_split 152 rows3 (all_split 152 rows4 rows5))))
theorem params0 : (Tryz.prog.funcs.toList.take 232).all (fun f => f.params.all fun t => decide (t < 908)) = true := by kernel_rfl
theorem params1 : ((Tryz.prog.funcs.toList.drop 232).take 232).all (fun f => f.params.all fun t => decide (t < 908)) = true := by kernel_rfl
theorem params2 : (((Tryz.prog.funcs.toList.drop 232).drop 232).take 232).all (fun f => f.params.all fun t => decide (t < 908)) = true := by kernel_rfl
theorem params3 : (((Tryz.prog.funcs.toList.drop 232).drop 232).drop 232).all (fun f => f.params.all fun t => decide (t < 908)) = true := by kernel_rfl
theorem params : Tryz.prog.funcs.toList.all (fun f => f.params.all fun t => decide (t < 908)) = true := all_split 232 params0 (all_split 232 params1 (all_split 232 params2 params3))
theorem globs : Tryz.prog.globals.all (fun g => decide (g.type < 908)) = true := by kernel_rfl
theorem j2 : laidOutB Tryz.prog = true := by
  unfold laidOutB
  rw [size908, rows, globs, ← Array.all_toList, params]
  rfl
end Go.Proofs.YtbofhnjjlbjmcaaGreatDoor
