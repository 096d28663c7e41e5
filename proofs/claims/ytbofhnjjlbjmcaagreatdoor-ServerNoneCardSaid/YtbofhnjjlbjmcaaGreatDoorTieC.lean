/- The tie, part 3: the row's tie. -/
import Derived.Test.YtbofhnjjlbjmcaaGreatDoorTieB
set_option linter.unusedVariables false
set_option linter.unusedSimpArgs false
namespace Go.Proofs.YtbofhnjjlbjmcaaGreatDoor
open Go
set_option maxRecDepth 100000
noncomputable def storedT : Option (List Nat) := ((Tryz.prog.funcs[925]?).bind (·.body)).bind (·.laysInOrder [])
theorem pinned_of {v : String} (h1 : Tryz.prog.wordedOn v (kindTail .pinned) = true) (h2 : (Tryz.prog.kindBase v).isNone = true) (h3 : ((Tryz.prog.globalNamed v).any fun n => storedT.any fun stored => !stored.contains n) = true) : Tryz.prog.pinnedFits v = true := by
  unfold Program.pinnedFits
  rw [named925, h1, h2]
  exact h3
theorem pinA : Tryz.prog.pinnedFits "internal/strconv.leftcheats" = true := pinned_of (by kernel_rfl) (by kernel_rfl) (by kernel_rfl)
theorem pinB : Tryz.prog.pinnedFits "internal/strconv.pow10Tab" = true := pinned_of (by kernel_rfl) (by kernel_rfl) (by kernel_rfl)
theorem pinC : Tryz.prog.pinnedFits "unicode.CaseRanges" = true := pinned_of (by kernel_rfl) (by kernel_rfl) (by kernel_rfl)
theorem pinD : Tryz.prog.pinnedFits "unicode/utf8.first" = true := pinned_of (by kernel_rfl) (by kernel_rfl) (by kernel_rfl)
theorem tieUnsafe : Tryz.prog.headLifts.contains "ownunsafe" = false := by kernel_rfl
theorem tieListed : Tryz.prog.listedFits Rows.serverNoneRow.laid = true := by
  unfold Program.listedFits
  rw [tieUnsafe]
  kernel_rfl
theorem datA : Pinned.datum "internal/strconv.leftcheats" = some Rows.laid_internal_strconv_leftcheats := by kernel_rfl
theorem datB : Pinned.datum "internal/strconv.pow10Tab" = some Rows.laid_internal_strconv_pow10Tab := by kernel_rfl
theorem datC : Pinned.datum "unicode.CaseRanges" = some Rows.laid_unicode_CaseRanges := by kernel_rfl
theorem datD : Pinned.datum "unicode/utf8.first" = some Rows.laid_unicode_utf8_first := by kernel_rfl
theorem row_tie : Rows.serverNoneRow.laidByTextAt .later Tryz.pinned [.data, .data, .widerDeep, .widerDeep, .data, .data, .data, .data, .data, .data, .sentinel, .sentinel, .pinned, .pinned, .pinned, .pinned] true :=
  OpenClaim.laidByTextAt_pinned rfl rfl tie12 rfl rfl rfl rfl (fun y hy e => by
    simp only [Rows.serverNoneRow, List.zip_cons_cons, List.zip_nil_right, List.mem_cons, List.mem_nil_iff, or_false] at hy
    rcases hy with rfl | rfl | rfl | rfl | rfl | rfl | rfl | rfl | rfl | rfl | rfl | rfl | rfl | rfl | rfl | rfl
    · cases e
    · cases e
    · cases e
    · cases e
    · cases e
    · cases e
    · cases e
    · cases e
    · cases e
    · cases e
    · cases e
    · cases e
    · exact ⟨pinA, datA⟩
    · exact ⟨pinB, datB⟩
    · exact ⟨pinC, datC⟩
    · exact ⟨pinD, datD⟩) tieListed
end Go.Proofs.YtbofhnjjlbjmcaaGreatDoor
