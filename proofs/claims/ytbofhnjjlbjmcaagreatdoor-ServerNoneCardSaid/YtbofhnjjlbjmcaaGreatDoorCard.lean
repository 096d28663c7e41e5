/- ServerNone: the card of the law is proved: for every input the law returns true, and its arguments read as before. -/
import Derived.Test.YtbofhnjjlbjmcaaGreatDoorRow
import Derived.Test.YtbofhnjjlbjmcaaGreatDoorGoes
import Derived.Test.YtbofhnjjlbjmcaaGreatDoorFacts
import Derived.Test.YtbofhnjjlbjmcaaGreatDoorFacts2
import Derived.Test.YtbofhnjjlbjmcaaGreatDoorFacts3
import Derived.Test.YtbofhnjjlbjmcaaGreatDoorFacts4
import Derived.Test.YtbofhnjjlbjmcaaGreatDoorNamed
import Derived.Test.YtbofhnjjlbjmcaaGreatDoorTieC
import Derived.Test.YtbofhnjjlbjmcaaGreatDoorCards
set_option linter.unusedVariables false
set_option linter.unusedSimpArgs false
namespace Go.Proofs.YtbofhnjjlbjmcaaGreatDoor
open Go Go.ChangeShapes Go.WideShapes Go.ChangeAt Go.RowKit Go.Joins
set_option maxRecDepth 100000
theorem veiledFits0 : Rows.serverNoneRow.veiledFits Tryz.prog [25, 29] ([25, 29] ++ [] ++ [4]) = true := by
  unfold OpenClaim.veiledFits
  rw [laidTypes]
  have h0 : ∀ t ∈ ([25, 29, 4, 759, 747, 832, 832, 4, 692, 861, 859, 646, 731, 283, 283, 871, 865, 654, 728] : List TypeId), Tryz.prog.veiledOwn t = true := List.forall_mem_cons.2 ⟨own25, List.forall_mem_cons.2 ⟨own29, List.forall_mem_cons.2 ⟨own4, List.forall_mem_cons.2 ⟨own759, List.forall_mem_cons.2 ⟨own747, List.forall_mem_cons.2 ⟨own832, List.forall_mem_cons.2 ⟨own832, List.forall_mem_cons.2 ⟨own4, List.forall_mem_cons.2 ⟨own692, List.forall_mem_cons.2 ⟨own861, List.forall_mem_cons.2 ⟨own859, List.forall_mem_cons.2 ⟨own646, List.forall_mem_cons.2 ⟨own731, List.forall_mem_cons.2 ⟨own283, List.forall_mem_cons.2 ⟨own283, List.forall_mem_cons.2 ⟨own871, List.forall_mem_cons.2 ⟨own865, List.forall_mem_cons.2 ⟨own654, List.forall_mem_cons.2 ⟨own728, List.forall_mem_nil _⟩⟩⟩⟩⟩⟩⟩⟩⟩⟩⟩⟩⟩⟩⟩⟩⟩⟩⟩
  have this : (([25, 29] ++ [] ++ [4] : List TypeId) ++ [759, 747, 832, 832, 4, 692, 861, 859, 646, 731, 283, 283, 871, 865, 654, 728]).all (Tryz.prog.veiledOwn ·) = true := List.all_eq_true.2 h0
  rw [this]
  rfl
theorem read3 : Tryz.f3.params.all (Tryz.prog.readableRec ·) = true := by
  rw [← Array.all_toList, params3l]
  exact List.all_eq_true.2 (List.forall_mem_cons.2 ⟨read25, List.forall_mem_cons.2 ⟨read29, List.forall_mem_nil _⟩⟩)
theorem readOut3 : Tryz.f3.resultTypes.all (fun t => Tryz.prog.readableRec t && decide (t < Tryz.prog.types.size)) = true := by
  rw [← Array.all_toList, results3l, size908]
  exact List.all_eq_true.2 (List.forall_mem_cons.2 ⟨by rw [read4]; rfl, List.forall_mem_nil _⟩)
theorem closed : joinedFacts Tryz.prog 3 Tryz.f3 Rows.serverNoneSpec Rows.serverNoneRow = true := by
  unfold joinedFacts
  rw [varTypes0, params3l, results3l]
  simp only [Bool.and_eq_true]
  repeat' apply And.intro
  · exact j1
  · exact j2
  · exact j3
  · exact read3
  · exact j5
  · rfl
  · exact j6
  · rfl
  · exact j8
  · exact j10
  · exact j11
  · exact j12
  · exact j13
  · rw [List.append_nil, List.any_cons, List.any_cons, maps25, maps29]; rfl
  · rw [List.append_nil, List.any_cons, List.any_cons, ifaces25, ifaces29]; rfl
  · exact j16
  · rw [List.append_nil, List.any_cons, List.any_cons, loops25, loops29]; rfl
  · rw [List.append_nil, List.cons_append, List.cons_append, List.nil_append, List.any_cons, List.any_cons, List.any_cons, keys25, keys29, keys4]; rfl
  · rfl
  · exact readOut3
  · rw [List.any_cons, ifaces4]; rfl
  · rw [List.any_cons, loops4]; rfl
  · exact j22
  · rfl
  · exact j23
  · exact j24
  · exact j24b
  · exact j24c
  · rfl
  · rfl
  · rw [List.append_nil, List.cons_append, List.cons_append, List.nil_append, List.any_cons, List.any_cons, List.any_cons, veiled25, veiled29, veiled4]; rfl
  · exact veiledFits0
theorem holds : Rows.ServerNoneSaid :=
  OpenClaim.holds_of_wide 3 Tryz.f3 rfl rfl rfl rfl rfl rfl rfl ⟨rfl, rfl, rfl, rfl, rfl⟩ rfl rfl rfl rfl rfl named3 Tryz.func3 closed
    (of_decide_eq_true (by kernel_rfl)) (by unfold Func.isWrapper; first | (rw [if_pos (by decide +kernel)]; kernel_rfl) | (rw [if_neg (by decide +kernel)]; exact ⟨rfl, rfl⟩))
    (fun os started H enc _ => lifted j2 os started H enc)
theorem wanted25 : Tryz.prog.wantsStandIn 25 = false := by kernel_rfl
theorem wanted29 : Tryz.prog.wantsStandIn 29 = false := by kernel_rfl
theorem looks0 : true = Tryz.prog.looks [] := by kernel_rfl
theorem main0 : Tryz.prog.mainIs = some (true, "33daa566f35efa480e1132693145a154b20b0720f5260923a3e4af759b57d4db".toList) := by kernel_rfl
theorem byText0 : Rows.serverNoneRow.wfByText (OpenSpec.ofChange Rows.serverNoneSpec) = true := by kernel_rfl
theorem serverNone_holds : Rows.ServerNoneCardSaid :=
  Claim7.holds_tied_plain_at .later [] [.data, .data, .widerDeep, .widerDeep, .data, .data, .data, .data, .data, .data, .sentinel, .sentinel, .pinned, .pinned, .pinned, .pinned] true (true, "33daa566f35efa480e1132693145a154b20b0720f5260923a3e4af759b57d4db") true holds (fun _ h => by cases h) byText0 (fun _ h => by cases h) row_tie rfl ⟨rfl, rfl⟩ main0 rfl
    (fun f fn hf hfn => by
      obtain rfl : f = 3 := Option.some.inj (named3.symm.trans hf) |>.symm
      obtain rfl : fn = Tryz.f3 := (Option.some.inj (Tryz.func3.symm.trans hfn)).symm
      refine ⟨looks0, fun j t ht => ?_⟩
      rw [Tryz.params3] at ht
      have hm : t ∈ [25, 29] := by simpa using Array.mem_of_getElem? ht
      rcases List.mem_cons.1 hm with rfl | hm
      · exact wanted25
      · rcases List.mem_cons.1 hm with rfl | hm
        · exact wanted29
        · cases hm)
    goesBy_none
#print axioms serverNone_holds
end Go.Proofs.YtbofhnjjlbjmcaaGreatDoor
