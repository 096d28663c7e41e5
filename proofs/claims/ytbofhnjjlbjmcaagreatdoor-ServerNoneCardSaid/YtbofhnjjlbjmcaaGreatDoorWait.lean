/- No variable waits. -/
import Derived.Test.YtbofhnjjlbjmcaaGreatDoorGoes
set_option linter.unusedVariables false
set_option linter.unusedSimpArgs false
namespace Go.Proofs.YtbofhnjjlbjmcaaGreatDoor
open Go
set_option maxRecDepth 100000
theorem ready0 : ((Tryz.prog.funcs.toList.take 232).flatMap fun f => (f.body.map readies).getD []) = [] := by kernel_rfl
theorem ready1 : (((Tryz.prog.funcs.toList.drop 232).take 232).flatMap fun f => (f.body.map readies).getD []) = [] := by kernel_rfl
theorem ready2 : ((((Tryz.prog.funcs.toList.drop 232).drop 232).take 232).flatMap fun f => (f.body.map readies).getD []) = [] := by kernel_rfl
theorem ready3 : ((((Tryz.prog.funcs.toList.drop 232).drop 232).drop 232).flatMap fun f => (f.body.map readies).getD []) = [] := by kernel_rfl
theorem flat_split {α β : Type} {f : α → List β} {l : List α} (n : Nat) (h1 : (l.take n).flatMap f = []) (h2 : (l.drop n).flatMap f = []) : l.flatMap f = [] := by
  rw [← List.take_append_drop n l, List.flatMap_append, h1, h2]; rfl
theorem ready : (Tryz.prog.funcs.toList.flatMap fun f => (f.body.map readies).getD []) = [] := flat_split 232 ready0 (flat_split 232 ready1 (flat_split 232 ready2 ready3))
theorem waits_eq : waiting Tryz.prog = Array.replicate 18 false := by
  unfold waiting
  rw [ready]
  kernel_rfl
end Go.Proofs.YtbofhnjjlbjmcaaGreatDoor
