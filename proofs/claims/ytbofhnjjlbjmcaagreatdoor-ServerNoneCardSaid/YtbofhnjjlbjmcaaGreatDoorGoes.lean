/- No function of the program starts a goroutine. -/
import Derived.Test.YtbofhnjjlbjmcaaGreatDoorBook
set_option linter.unusedVariables false
set_option linter.unusedSimpArgs false
namespace Go.Proofs.YtbofhnjjlbjmcaaGreatDoor
open Go
theorem goes0 : (Tryz.prog.funcs.toList.take 232).all (fun fn => !fn.goes) = true := by kernel_rfl
theorem goes1 : ((Tryz.prog.funcs.toList.drop 232).take 232).all (fun fn => !fn.goes) = true := by kernel_rfl
theorem goes2 : (((Tryz.prog.funcs.toList.drop 232).drop 232).take 232).all (fun fn => !fn.goes) = true := by kernel_rfl
theorem goes3 : (((Tryz.prog.funcs.toList.drop 232).drop 232).drop 232).all (fun fn => !fn.goes) = true := by kernel_rfl
theorem all_split {α : Type} {p : α → Bool} {l : List α} (n : Nat) (h1 : (l.take n).all p = true) (h2 : (l.drop n).all p = true) : l.all p = true := by
  rw [← List.take_append_drop n l, List.all_append, h1, h2]; rfl
theorem none_goes {g : Nat} {fn : Func} (h : Tryz.prog.funcs[g]? = some fn) : fn.goes = false := by
  have h4 := List.all_eq_true.1 (all_split 232 goes0 (all_split 232 goes1 (all_split 232 goes2 goes3))) fn (Array.mem_toList_iff.2 (Array.mem_of_getElem? h))
  simpa using h4
theorem goes_of (f : FuncId) : Tryz.prog.goes f = false := by
  unfold Program.goes
  have h1 : ((Tryz.prog.closure f).any fun g => (Tryz.prog.funcs[g]?).any Func.goes) = false := by
    rw [List.any_eq_false]
    intro g _
    cases hg : Tryz.prog.funcs[g]? with
    | none => simp
    | some fn => simp [none_goes hg]
  have h2 : Tryz.prog.funcs.any Func.goes = false := by
    rw [Array.any_eq_false]
    intro i hi
    rw [none_goes (Array.getElem?_eq_getElem hi)]
    simp
  rw [h1, h2, Bool.and_false]
  rfl
theorem goesBy_none : false = Rows.serverNoneRow.goesBy Tryz.prog := by
  unfold OpenClaim.goesBy Program.goesAt Program.goesFrom
  have key : ∀ o : Option FuncId, o.any Tryz.prog.goes = false := by
    intro o
    cases o with
    | none => rfl
    | some f => rw [Option.any_some]; exact goes_of f
  rw [key, Bool.false_or]
  rfl
end Go.Proofs.YtbofhnjjlbjmcaaGreatDoor
