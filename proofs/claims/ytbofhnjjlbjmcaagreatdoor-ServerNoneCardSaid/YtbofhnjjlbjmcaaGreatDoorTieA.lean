/- The tie of the listed variables to the program's text, part 1. -/
import Derived.Test.YtbofhnjjlbjmcaaGreatDoorRows
import Derived.Test.YtbofhnjjlbjmcaaGreatDoorNamed
import Derived.LaidByTextLater
import Derived.SevenTiedAt
import Derived.LaidSub
import Derived.LaidOnce
set_option linter.unusedVariables false
set_option linter.unusedSimpArgs false
namespace Go.Proofs.YtbofhnjjlbjmcaaGreatDoor
open Go
set_option maxRecDepth 100000
/-- the listed variables that the program's text lays -/
noncomputable abbrev tied : List (String × DataW Unit) := [("math/bits.deBruijn32tab", Rows.laid_math_bits_deBruijn32tab), ("math/bits.deBruijn64tab", Rows.laid_math_bits_deBruijn64tab), ("internal/strconv.float32info", Rows.laid_internal_strconv_float32info), ("internal/strconv.float64info", Rows.laid_internal_strconv_float64info), ("internal/strconv.optimize", Rows.laid_internal_strconv_optimize), ("internal/strconv.powtab", Rows.laid_internal_strconv_powtab), ("internal/strconv.float64pow10", Rows.laid_internal_strconv_float64pow10), ("internal/strconv.float32pow10", Rows.laid_internal_strconv_float32pow10), ("internal/strconv.uint64pow10", Rows.laid_internal_strconv_uint64pow10), ("unicode/utf8.acceptRanges", Rows.laid_unicode_utf8_acceptRanges), ("strconv.ErrRange", Rows.laid_strconv_ErrRange), ("strconv.ErrSyntax", Rows.laid_strconv_ErrSyntax)]
noncomputable abbrev kindsT : List LaidKind := [.data, .data, .widerDeep, .widerDeep, .data, .data, .data, .data, .data, .data, .sentinel, .sentinel]
/-- is it a word of the translator's? -/
def isWord (word : String) (fn : Func) : Bool := fn.body.isNone && fn.name == word
theorem worded_eq (P : Program) (word : String) : P.worded word = P.funcs.toList.any (isWord word) := by
  unfold Program.worded
  rw [← Array.any_toList]
  rfl
theorem any_of_get {α : Type} {p : α → Bool} {l : List α} (i : Nat) (h : (l[i]?).any p = true) : l.any p = true := by
  cases hx : l[i]? with
  | none => rw [hx] at h; cases h
  | some x =>
    rw [hx] at h
    exact List.any_eq_true.2 ⟨x, List.mem_of_getElem? hx, h⟩
theorem any_split {α : Type} {p : α → Bool} {l : List α} (n : Nat) (h1 : (l.take n).any p = false) (h2 : (l.drop n).any p = false) : l.any p = false := by
  rw [← List.take_append_drop n l, List.any_append, h1, h2]; rfl
theorem word905 : (F0[905]?).any (isWord (varsWordLater true)) = true := by kernel_rfl
theorem word921 : (F0[921]?).any (isWord rootWordLater) = true := by kernel_rfl
theorem nowords0 : (F0.take 200).any (isWord (varsWordLater !true)) = false := by kernel_rfl
theorem nowords1 : (F1.take 200).any (isWord (varsWordLater !true)) = false := by kernel_rfl
theorem nowords2 : (F2.take 200).any (isWord (varsWordLater !true)) = false := by kernel_rfl
theorem nowords3 : (F3.take 200).any (isWord (varsWordLater !true)) = false := by kernel_rfl
theorem nowords4 : F4.any (isWord (varsWordLater !true)) = false := by kernel_rfl
theorem tieWord : Tryz.prog.worded (varsWordLater true) = true := by rw [worded_eq]; exact any_of_get 905 word905
theorem tieNoWord : Tryz.prog.worded (varsWordLater !true) = false := by rw [worded_eq]; exact any_split 200 nowords0 (any_split 200 nowords1 (any_split 200 nowords2 (any_split 200 nowords3 nowords4)))
theorem tieRoot : Tryz.prog.worded rootWordLater = true := by rw [worded_eq]; exact any_of_get 921 word921
theorem tieKinds : tied.map (fun x => Tryz.prog.kindOfLater x.1) = kindsT.map some := by kernel_rfl
theorem varsId_eq : varsId Tryz.prog = 925 := by unfold varsId; rw [named925]; rfl
theorem tieNamed : varsNamedLaterB Tryz.prog 925 tied = true := by kernel_rfl
end Go.Proofs.YtbofhnjjlbjmcaaGreatDoor
