/- The tie, part 2. -/
import Derived.Test.YtbofhnjjlbjmcaaGreatDoorTieA
set_option linter.unusedVariables false
set_option linter.unusedSimpArgs false
namespace Go.Proofs.YtbofhnjjlbjmcaaGreatDoor
open Go
set_option maxRecDepth 100000
theorem tieDone : ∀ os tape, varsDone Tryz.prog 101 925 os tape = true := fun _ _ => by kernel_rfl
theorem tieReads : ∀ os tape, (DataW.laidRun Tryz.prog (varsWorld Tryz.prog 101 925 os tape).memory 8 (tied.map (·.1))).map (·.1) = some tied := fun _ _ => by kernel_rfl
theorem tieBits : ∀ os tape, (DataW.laidRun Tryz.prog (varsWorld Tryz.prog 101 925 os tape).memory 8 (tied.map (·.1))).map (fun x => nodupBits 65 x.2 0) = some true := fun _ _ => by kernel_rfl
theorem tieRows : ∀ os tape, (DataW.laidRun Tryz.prog (varsWorld Tryz.prog 101 925 os tape).memory 8 (tied.map (·.1))).map (fun x => laidRowsB Tryz.prog (varsWorld Tryz.prog 101 925 os tape).memory x.2) = some true := fun _ _ => by kernel_rfl
theorem tieBoth : ∀ os tape, (DataW.laidRun Tryz.prog (varsWorld Tryz.prog 101 925 os tape).memory 8 (tied.map (·.1))).map (fun x => decide x.2.Nodup && laidRowsB Tryz.prog (varsWorld Tryz.prog 101 925 os tape).memory x.2) = some true := fun os tape => by
  have h1 := tieBits os tape
  have h2 := tieRows os tape
  cases hx : DataW.laidRun Tryz.prog (varsWorld Tryz.prog 101 925 os tape).memory 8 (tied.map (·.1)) with
  | none => rw [hx] at h1; cases h1
  | some x =>
    rw [hx] at h1 h2
    have e1 : nodupBits 65 x.2 0 = true := Option.some.inj h1
    have e2 : laidRowsB Tryz.prog (varsWorld Tryz.prog 101 925 os tape).memory x.2 = true := Option.some.inj h2
    rw [Option.map_some, e2, decide_eq_true (nodupBits_sound e1).1]
    rfl
theorem tie12 : Tryz.prog.laidByTextLater tied kindsT true :=
  Program.laidByTextLater_of_run 925 101 8 tieWord tieNoWord tieRoot tieKinds named925 tieNamed tieDone tieReads tieBoth (by kernel_rfl)
end Go.Proofs.YtbofhnjjlbjmcaaGreatDoor
