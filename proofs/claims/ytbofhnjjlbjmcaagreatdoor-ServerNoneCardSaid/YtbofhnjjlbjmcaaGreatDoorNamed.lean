/- Functions found by name. -/
import Derived.Test.YtbofhnjjlbjmcaaGreatDoorProg
import Derived.KernelRfl
import GoSem.Claims
set_option linter.unusedVariables false
set_option linter.unusedSimpArgs false
namespace Go.Proofs.YtbofhnjjlbjmcaaGreatDoor
open Go
set_option maxRecDepth 100000
/-- the numbers of the functions of a name, counted on from a number -/
def hits (name : String) : List Func → Nat → List Nat
  | [], _ => []
  | f :: fs, k => if f.name == name then k :: hits name fs (k + 1) else hits name fs (k + 1)
theorem filter_hits (name : String) (g : Nat → Option Func) : ∀ (l : List Func) (k : Nat), (∀ j, j < l.length → g (k + j) = l[j]?) → (List.range' k l.length).filter (fun i => (g i).any (·.name == name)) = hits name l k
  | [], _, _ => rfl
  | f :: fs, k, h => by
    have h0 : g k = some f := by simpa using h 0 (by simp)
    have ih := filter_hits name g fs (k + 1) (fun j hj => by
      have := h (j + 1) (by simpa using hj)
      rw [show k + 1 + j = k + (j + 1) from by omega, this]; simp)
    rw [List.length_cons, List.range'_succ, List.filter_cons, h0, ih]
    rfl
theorem hits_append (name : String) : ∀ (a b : List Func) (k : Nat), hits name (a ++ b) k = hits name a k ++ hits name b (k + a.length)
  | [], b, k => by simp [hits]
  | f :: fs, b, k => by
    have ih := hits_append name fs b (k + 1)
    have e : k + 1 + fs.length = k + (f :: fs).length := by simp; omega
    rw [e] at ih
    simp only [List.cons_append, hits]
    split
    · rw [ih, List.cons_append]
    · exact ih
theorem hits_split {name : String} {l : List Func} {k : Nat} (n m : Nat) {a b : List Nat} (hm : k + (l.take n).length = m) (h1 : hits name (l.take n) k = a) (h2 : hits name (l.drop n) m = b) : hits name l k = a ++ b := by
  subst hm h1 h2
  rw [← hits_append, List.take_append_drop]
theorem funcNamed_of {P : Program} {name : String} {i : Nat} (h : hits name P.funcs.toList 0 = [i]) : P.funcNamed name = some i := by
  have := filter_hits name (fun i => P.funcs[i]?) P.funcs.toList 0 (fun j _ => by simp)
  unfold Program.funcNamed
  rw [List.range_eq_range', ← Array.length_toList, this, h]
noncomputable abbrev F0 : List Func := Tryz.prog.funcs.toList
noncomputable abbrev F1 : List Func := F0.drop 200
noncomputable abbrev F2 : List Func := F1.drop 200
noncomputable abbrev F3 : List Func := F2.drop 200
noncomputable abbrev F4 : List Func := F3.drop 200
theorem len0 : 0 + (F0.take 200).length = 200 := by kernel_rfl
theorem len1 : 200 + (F1.take 200).length = 400 := by kernel_rfl
theorem len2 : 400 + (F2.take 200).length = 600 := by kernel_rfl
theorem len3 : 600 + (F3.take 200).length = 800 := by kernel_rfl
theorem vars0 : hits "gosem.cut.vars" (F0.take 200) 0 = [] := by kernel_rfl
theorem vars1 : hits "gosem.cut.vars" (F1.take 200) 200 = [] := by kernel_rfl
theorem vars2 : hits "gosem.cut.vars" (F2.take 200) 400 = [] := by kernel_rfl
theorem vars3 : hits "gosem.cut.vars" (F3.take 200) 600 = [] := by kernel_rfl
theorem vars4 : hits "gosem.cut.vars" F4 800 = [925] := by kernel_rfl
theorem named925 : Tryz.prog.funcNamed "gosem.cut.vars" = some 925 :=
  funcNamed_of (hits_split 200 200 len0 vars0 (hits_split 200 400 len1 vars1 (hits_split 200 600 len2 vars2 (hits_split 200 800 len3 vars3 vars4))))
theorem law0 : hits "stillroom/stillroomlaw26.ServerNone" (F0.take 200) 0 = [3] := by kernel_rfl
theorem law1 : hits "stillroom/stillroomlaw26.ServerNone" (F1.take 200) 200 = [] := by kernel_rfl
theorem law2 : hits "stillroom/stillroomlaw26.ServerNone" (F2.take 200) 400 = [] := by kernel_rfl
theorem law3 : hits "stillroom/stillroomlaw26.ServerNone" (F3.take 200) 600 = [] := by kernel_rfl
theorem law4 : hits "stillroom/stillroomlaw26.ServerNone" F4 800 = [] := by kernel_rfl
theorem named3 : Tryz.prog.funcNamed "stillroom/stillroomlaw26.ServerNone" = some 3 :=
  funcNamed_of (hits_split 200 200 len0 law0 (hits_split 200 400 len1 law1 (hits_split 200 600 len2 law2 (hits_split 200 800 len3 law3 law4))))
end Go.Proofs.YtbofhnjjlbjmcaaGreatDoor
