/- Closed facts of the arguments' types. -/
import Derived.Test.YtbofhnjjlbjmcaaGreatDoorRows
import Derived.ProofKit
import Derived.OpenShut
import Derived.LaidMore
import Derived.Lay
import Derived.SevenTiedAt
import Derived.Stop.Joined
import Derived.Carry
import Derived.Lib.SmallJoins
set_option linter.unusedVariables false
set_option linter.unusedSimpArgs false
namespace Go.Proofs.YtbofhnjjlbjmcaaGreatDoor
open Go.ChangeShapes Go.WideShapes Go.ChangeAt Go.RowKit Go.Joins
theorem grown_of_fix {P : Program} {L : List TypeId} (h : P.grow L = L) : ∀ n, P.grown n L = L
  | 0 => rfl
  | n + 1 => by show P.grown n (P.grow L) = L; rw [h]; exact grown_of_fix h n
theorem book_of {P : Program} {t : TypeId} {A : List TypeId} (k n : Nat) (hs : P.types.size = n + k) (hk : P.grown k [t] = A) (hf : P.grow A = A) : P.book t = A := by
  unfold Program.book
  rw [hs]
  have : ∀ k n L, P.grown (n + k) L = P.grown n (P.grown k L) := by
    intro k
    induction k with
    | zero => intro n L; rfl
    | succ k ih => intro n L; exact ih n (P.grow L)
  rw [this, hk]
  exact grown_of_fix hf n
theorem size908 : Tryz.prog.types.size = 908 := by kernel_rfl

theorem book25 : Tryz.prog.book 25 = [25, 3, 2, 22, 23] := book_of 1 907 size908 (by kernel_rfl) (by kernel_rfl)
theorem book29 : Tryz.prog.book 29 = [29, 26, 3, 9, 2, 27] := book_of 1 907 size908 (by kernel_rfl) (by kernel_rfl)
theorem book4 : Tryz.prog.book 4 = [4] := book_of 0 908 size908 (by kernel_rfl) (by kernel_rfl)
theorem book3 : Tryz.prog.book 3 = [3] := book_of 0 908 size908 (by kernel_rfl) (by kernel_rfl)
theorem book2 : Tryz.prog.book 2 = [2] := book_of 0 908 size908 (by kernel_rfl) (by kernel_rfl)
theorem book22 : Tryz.prog.book 22 = [22] := book_of 0 908 size908 (by kernel_rfl) (by kernel_rfl)
theorem book23 : Tryz.prog.book 23 = [23] := book_of 0 908 size908 (by kernel_rfl) (by kernel_rfl)
theorem book26 : Tryz.prog.book 26 = [26] := book_of 0 908 size908 (by kernel_rfl) (by kernel_rfl)
theorem book27 : Tryz.prog.book 27 = [27] := book_of 0 908 size908 (by kernel_rfl) (by kernel_rfl)
theorem book9 : Tryz.prog.book 9 = [9] := book_of 0 908 size908 (by kernel_rfl) (by kernel_rfl)
theorem read25 : Tryz.prog.readableRec 25 = true := by unfold Program.readableRec; rw [book25]; kernel_rfl
theorem read29 : Tryz.prog.readableRec 29 = true := by unfold Program.readableRec; rw [book29]; kernel_rfl
theorem read4 : Tryz.prog.readableRec 4 = true := by unfold Program.readableRec; rw [book4]; kernel_rfl
theorem maps25 : Tryz.prog.mapsRec 25 = false := by unfold Program.mapsRec; rw [book25]; kernel_rfl
theorem maps29 : Tryz.prog.mapsRec 29 = false := by unfold Program.mapsRec; rw [book29]; kernel_rfl
theorem ifaces25 : Tryz.prog.ifacesRec 25 = false := by unfold Program.ifacesRec; rw [book25]; kernel_rfl
theorem ifaces29 : Tryz.prog.ifacesRec 29 = false := by unfold Program.ifacesRec; rw [book29]; kernel_rfl
theorem ifaces4 : Tryz.prog.ifacesRec 4 = false := by unfold Program.ifacesRec; rw [book4]; kernel_rfl
theorem loops25 : Tryz.prog.loopsFrom 25 = false := by
  unfold Program.loopsFrom; rw [book25]
  rw [show ([25, 3, 2, 22, 23] : List TypeId).any (fun u => (Tryz.prog.partsOf u).any fun v => (Tryz.prog.book v).contains u) = (((Tryz.prog.book 3).contains 25 || ((Tryz.prog.book 2).contains 25 || ((Tryz.prog.book 22).contains 25 || ((Tryz.prog.book 23).contains 25 || false)))) || false) by kernel_rfl]
  rw [book3, book2, book22, book23]; kernel_rfl
theorem loops29 : Tryz.prog.loopsFrom 29 = false := by
  unfold Program.loopsFrom; rw [book29]
  rw [show ([29, 26, 3, 9, 2, 27] : List TypeId).any (fun u => (Tryz.prog.partsOf u).any fun v => (Tryz.prog.book v).contains u) = (((Tryz.prog.book 26).contains 29 || ((Tryz.prog.book 3).contains 29 || ((Tryz.prog.book 9).contains 29 || ((Tryz.prog.book 3).contains 29 || ((Tryz.prog.book 2).contains 29 || ((Tryz.prog.book 27).contains 29 || false)))))) || false) by kernel_rfl]
  rw [book26, book3, book9, book2, book27]; kernel_rfl
theorem loops4 : Tryz.prog.loopsFrom 4 = false := by unfold Program.loopsFrom; rw [book4]; kernel_rfl
theorem keys25 : Tryz.prog.wideKeysFrom 25 = false := by unfold Program.wideKeysFrom; rw [book25]; kernel_rfl
theorem keys29 : Tryz.prog.wideKeysFrom 29 = false := by unfold Program.wideKeysFrom; rw [book29]; kernel_rfl
theorem keys4 : Tryz.prog.wideKeysFrom 4 = false := by unfold Program.wideKeysFrom; rw [book4]; kernel_rfl
theorem veiled25 : Tryz.prog.veiledRec 25 = false := by unfold Program.veiledRec; rw [book25]; kernel_rfl
theorem veiled29 : Tryz.prog.veiledRec 29 = false := by unfold Program.veiledRec; rw [book29]; kernel_rfl
theorem veiled4 : Tryz.prog.veiledRec 4 = false := by unfold Program.veiledRec; rw [book4]; kernel_rfl
theorem results3 : Tryz.f3.resultTypes = #[4] := by kernel_rfl
theorem book759 : Tryz.prog.book 759 = [759, 5] := book_of 1 907 size908 (by kernel_rfl) (by kernel_rfl)
theorem veiled759 : Tryz.prog.veiledRec 759 = false := by unfold Program.veiledRec; rw [book759]; kernel_rfl
theorem book747 : Tryz.prog.book 747 = [747, 5] := book_of 1 907 size908 (by kernel_rfl) (by kernel_rfl)
theorem veiled747 : Tryz.prog.veiledRec 747 = false := by unfold Program.veiledRec; rw [book747]; kernel_rfl
theorem book832 : Tryz.prog.book 832 = [832, 306, 3] := book_of 2 906 size908 (by kernel_rfl) (by kernel_rfl)
theorem veiled832 : Tryz.prog.veiledRec 832 = false := by unfold Program.veiledRec; rw [book832]; kernel_rfl
theorem book692 : Tryz.prog.book 692 = [692, 3] := book_of 1 907 size908 (by kernel_rfl) (by kernel_rfl)
theorem veiled692 : Tryz.prog.veiledRec 692 = false := by unfold Program.veiledRec; rw [book692]; kernel_rfl
theorem book861 : Tryz.prog.book 861 = [861, 255] := book_of 1 907 size908 (by kernel_rfl) (by kernel_rfl)
theorem veiled861 : Tryz.prog.veiledRec 861 = false := by unfold Program.veiledRec; rw [book861]; kernel_rfl
theorem book859 : Tryz.prog.book 859 = [859, 790] := book_of 1 907 size908 (by kernel_rfl) (by kernel_rfl)
theorem veiled859 : Tryz.prog.veiledRec 859 = false := by unfold Program.veiledRec; rw [book859]; kernel_rfl
theorem book646 : Tryz.prog.book 646 = [646, 59] := book_of 1 907 size908 (by kernel_rfl) (by kernel_rfl)
theorem veiled646 : Tryz.prog.veiledRec 646 = false := by unfold Program.veiledRec; rw [book646]; kernel_rfl
theorem book731 : Tryz.prog.book 731 = [731, 730, 5] := book_of 2 906 size908 (by kernel_rfl) (by kernel_rfl)
theorem veiled731 : Tryz.prog.veiledRec 731 = false := by unfold Program.veiledRec; rw [book731]; kernel_rfl
theorem book283 : Tryz.prog.book 283 = [283] := book_of 0 908 size908 (by kernel_rfl) (by kernel_rfl)
theorem veiled283 : Tryz.prog.veiledRec 283 = false := by unfold Program.veiledRec; rw [book283]; kernel_rfl
theorem book871 : Tryz.prog.book 871 = [871, 870, 3, 9] := book_of 3 905 size908 (by kernel_rfl) (by kernel_rfl)
theorem veiled871 : Tryz.prog.veiledRec 871 = false := by unfold Program.veiledRec; rw [book871]; kernel_rfl
theorem book865 : Tryz.prog.book 865 = [865, 864, 59] := book_of 2 906 size908 (by kernel_rfl) (by kernel_rfl)
theorem veiled865 : Tryz.prog.veiledRec 865 = false := by unfold Program.veiledRec; rw [book865]; kernel_rfl
theorem book654 : Tryz.prog.book 654 = [654, 764, 27, 762, 21] := book_of 4 904 size908 (by kernel_rfl) (by kernel_rfl)
theorem veiled654 : Tryz.prog.veiledRec 654 = false := by unfold Program.veiledRec; rw [book654]; kernel_rfl
theorem book728 : Tryz.prog.book 728 = [728, 5] := book_of 1 907 size908 (by kernel_rfl) (by kernel_rfl)
theorem veiled728 : Tryz.prog.veiledRec 728 = false := by unfold Program.veiledRec; rw [book728]; kernel_rfl
theorem own759 : Tryz.prog.veiledOwn 759 = true := by unfold Program.veiledOwn; rw [veiled759]; rfl
theorem own747 : Tryz.prog.veiledOwn 747 = true := by unfold Program.veiledOwn; rw [veiled747]; rfl
theorem own832 : Tryz.prog.veiledOwn 832 = true := by unfold Program.veiledOwn; rw [veiled832]; rfl
theorem own692 : Tryz.prog.veiledOwn 692 = true := by unfold Program.veiledOwn; rw [veiled692]; rfl
theorem own861 : Tryz.prog.veiledOwn 861 = true := by unfold Program.veiledOwn; rw [veiled861]; rfl
theorem own859 : Tryz.prog.veiledOwn 859 = true := by unfold Program.veiledOwn; rw [veiled859]; rfl
theorem own646 : Tryz.prog.veiledOwn 646 = true := by unfold Program.veiledOwn; rw [veiled646]; rfl
theorem own731 : Tryz.prog.veiledOwn 731 = true := by unfold Program.veiledOwn; rw [veiled731]; rfl
theorem own283 : Tryz.prog.veiledOwn 283 = true := by unfold Program.veiledOwn; rw [veiled283]; rfl
theorem own871 : Tryz.prog.veiledOwn 871 = true := by unfold Program.veiledOwn; rw [veiled871]; rfl
theorem own865 : Tryz.prog.veiledOwn 865 = true := by unfold Program.veiledOwn; rw [veiled865]; rfl
theorem own654 : Tryz.prog.veiledOwn 654 = true := by unfold Program.veiledOwn; rw [veiled654]; rfl
theorem own728 : Tryz.prog.veiledOwn 728 = true := by unfold Program.veiledOwn; rw [veiled728]; rfl
theorem own4 : Tryz.prog.veiledOwn 4 = true := by unfold Program.veiledOwn; rw [veiled4]; rfl
theorem own25 : Tryz.prog.veiledOwn 25 = true := by unfold Program.veiledOwn; rw [veiled25]; rfl
theorem own29 : Tryz.prog.veiledOwn 29 = true := by unfold Program.veiledOwn; rw [veiled29]; rfl
theorem laidTypes : (Rows.serverNoneRow.laid.filterMap fun x => (Tryz.prog.globalNamed x.1).bind fun g => (Tryz.prog.globals[g]?).map (fun g => g.type)) = [759, 747, 832, 832, 4, 692, 861, 859, 646, 731, 283, 283, 871, 865, 654, 728] := by kernel_rfl
theorem varTypes0 : Rows.serverNoneSpec.plain.varTypes Tryz.prog = [] := by kernel_rfl
theorem params3l : Tryz.f3.params.toList = [25, 29] := by rw [Tryz.params3]
theorem results3l : Tryz.f3.resultTypes.toList = [4] := by rw [results3]
end Go.Proofs.YtbofhnjjlbjmcaaGreatDoor
