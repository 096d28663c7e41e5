/- The type of a name, found once. -/
import Derived.Test.YtbofhnjjlbjmcaaGreatDoorWait
import Derived.Lay
set_option linter.unusedVariables false
set_option linter.unusedSimpArgs false
namespace Go.Proofs.YtbofhnjjlbjmcaaGreatDoor
open Go
set_option maxRecDepth 100000
/-- a name that a type may have -/
def mayName (P : Program) : Nat → TypeId → Option String
  | 0, _ => none
  | d + 1, t =>
    match P.info? t with
    | none => none
    | some i =>
      match i.desc with
      | .named n _ => some n
      | .pointer e => (mayName P d e).map ("*" ++ ·)
      | _ => some i.str
theorem mayName_of {P : Program} : ∀ (d : Nat) (t : TypeId) (s : String), P.typeName? d t = some s → mayName P d t = some s
  | 0, t, s, h => by simp [Program.typeName?] at h
  | d + 1, t, s, h => by
    unfold Program.typeName? at h
    unfold mayName
    cases hi : P.info? t with
    | none => rw [hi] at h; cases h
    | some i =>
      rw [hi] at h
      dsimp only at h ⊢
      cases hd : i.desc with
      | pointer e =>
        rw [hd] at h
        dsimp only at h ⊢
        cases hn : P.typeName? d e with
        | none => rw [hn] at h; cases h
        | some s' => rw [hn] at h; rw [mayName_of d e s' hn]; exact h
      | named n r =>
        rw [hd] at h
        dsimp only at h ⊢
        split at h
        · exact h
        · cases h
      | _ =>
        rw [hd] at h
        dsimp only at h ⊢
        first
          | (split at h
             · cases h
             · exact h)
          | cases h
theorem early0 : ((List.range 719).take 180).all (fun u => !(mayName Tryz.prog 3 u == some "*errors.errorString")) = true := by kernel_rfl
theorem early1 : (((List.range 719).drop 180).take 180).all (fun u => !(mayName Tryz.prog 3 u == some "*errors.errorString")) = true := by kernel_rfl
theorem early2 : ((((List.range 719).drop 180).drop 180).take 180).all (fun u => !(mayName Tryz.prog 3 u == some "*errors.errorString")) = true := by kernel_rfl
theorem early3 : ((((List.range 719).drop 180).drop 180).drop 180).all (fun u => !(mayName Tryz.prog 3 u == some "*errors.errorString")) = true := by kernel_rfl
theorem early : (List.range 719).all (fun u => !(mayName Tryz.prog 3 u == some "*errors.errorString")) = true := all_split 180 early0 (all_split 180 early1 (all_split 180 early2 early3))
theorem name719 : (Tryz.prog.typeName? 3 719 == some "*errors.errorString") = true := by kernel_rfl
theorem found : (List.range Tryz.prog.types.size).find? (fun u => Tryz.prog.typeName? 3 u == some "*errors.errorString") = some 719 := by
  rw [size908, List.find?_range_eq_some]
  refine ⟨name719, by simp, fun j hj => ?_⟩
  have h1 := List.all_eq_true.1 early j (List.mem_range.2 hj)
  cases hn : (Tryz.prog.typeName? 3 j == some "*errors.errorString") with
  | false => rfl
  | true =>
    rw [mayName_of 3 j _ (eq_of_beq hn)] at h1
    simp at h1
end Go.Proofs.YtbofhnjjlbjmcaaGreatDoor
