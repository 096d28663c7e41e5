/- Closed facts of the row. -/
import Derived.Test.YtbofhnjjlbjmcaaGreatDoorGoes
set_option linter.unusedVariables false
set_option linter.unusedSimpArgs false
namespace Go.Proofs.YtbofhnjjlbjmcaaGreatDoor
open Go
set_option maxRecDepth 100000
theorem maps0 : ((List.range 908).take 152).all (fun t => match Tryz.prog.underlying t with | some (.map _ e) => decide (e < 908) | _ => true) = true := by kernel_rfl
theorem maps1 : (((List.range 908).drop 152).take 152).all (fun t => match Tryz.prog.underlying t with | some (.map _ e) => decide (e < 908) | _ => true) = true := by kernel_rfl
theorem maps2 : ((((List.range 908).drop 152).drop 152).take 152).all (fun t => match Tryz.prog.underlying t with | some (.map _ e) => decide (e < 908) | _ => true) = true := by kernel_rfl
theorem maps3 : (((((List.range 908).drop 152).drop 152).drop 152).take 152).all (fun t => match Tryz.prog.underlying t with | some (.map _ e) => decide (e < 908) | _ => true) = true := by kernel_rfl
theorem maps4 : ((((((List.range 908).drop 152).drop 152).drop 152).drop 152).take 152).all (fun t => match Tryz.prog.underlying t with | some (.map _ e) => decide (e < 908) | _ => true) = true := by kernel_rfl
theorem maps5 : ((((((List.range 908).drop 152).drop 152).drop 152).drop 152).drop 152).all (fun t => match Tryz.prog.underlying t with | some (.map _ e) => decide (e < 908) | _ => true) = true := by kernel_rfl
theorem maps : (List.range 908).all (fun t => match Tryz.prog.underlying t with | some (.map _ e) => decide (e < 908) | _ => true) = true := all_split 152 maps0 (all_split 152 maps1 (all_split 152 maps2 (all_split 152 maps3 (all_split 152 maps4 maps5))))
theorem heard0 : (Tryz.prog.funcs.toList.take 232).all (fun fn => (Stop.rowOf fn).isNone || !fn.norace) = true := by kernel_rfl
theorem heard1 : ((Tryz.prog.funcs.toList.drop 232).take 232).all (fun fn => (Stop.rowOf fn).isNone || !fn.norace) = true := by kernel_rfl
theorem heard2 : (((Tryz.prog.funcs.toList.drop 232).drop 232).take 232).all (fun fn => (Stop.rowOf fn).isNone || !fn.norace) = true := by kernel_rfl
theorem heard3 : (((Tryz.prog.funcs.toList.drop 232).drop 232).drop 232).all (fun fn => (Stop.rowOf fn).isNone || !fn.norace) = true := by kernel_rfl
theorem heard : Tryz.prog.funcs.toList.all (fun fn => (Stop.rowOf fn).isNone || !fn.norace) = true := all_split 232 heard0 (all_split 232 heard1 (all_split 232 heard2 heard3))
theorem j3 : mapsRowed Tryz.prog = true := by
  unfold mapsRowed
  rw [size908]
  exact maps
theorem j23 : Tryz.prog.stopsHeard = true := by
  unfold Program.stopsHeard
  rw [← Array.all_toList]
  exact heard
end Go.Proofs.YtbofhnjjlbjmcaaGreatDoor
