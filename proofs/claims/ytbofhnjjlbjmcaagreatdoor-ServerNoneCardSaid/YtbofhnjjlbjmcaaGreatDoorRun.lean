/- The trees are the program's tables (closed facts). -/
import Derived.Test.YtbofhnjjlbjmcaaGreatDoorTrees
import Derived.Test.YtbofhnjjlbjmcaaGreatDoorAmG
import Derived.Test.YtbofhnjjlbjmcaaGreatDoorProg
set_option linter.unusedVariables false
set_option linter.unusedSimpArgs false
set_option maxRecDepth 100000
open Go Go.Proofs Go.Am
namespace KT
theorem ft_eq : ft = mkT (fun i => Tryz.prog.funcs.toList[i]?) 926 11 1 0 := by kernel_rfl
theorem tt_eq : tt = mkT (fun i => Tryz.prog.types.toList[i]?) 908 11 1 0 := by kernel_rfl
theorem zero_ok : (Tryz.prog.types.toList.all zeroOk) = true := by kernel_rfl
theorem plain_ok : ([114].all (plainFields Tryz.prog)) = true := by kernel_rfl
theorem funcs_ok : (Tryz.prog.funcs.toList.all funcOk) = true := by kernel_rfl
theorem ap0Ok : APOk Tryz.prog ap0 := apOk ft_eq tt_eq plain_ok zero_ok funcs_ok
theorem apOk' : APOk Tryz.prog ap := apOk ft_eq tt_eq plain_ok zero_ok funcs_ok
end KT
