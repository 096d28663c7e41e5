/- Three calls without arguments, run once. -/
import Derived.Test.YtbofhnjjlbjmcaaGreatDoorRun
set_option linter.unusedVariables false
set_option linter.unusedSimpArgs false
set_option maxRecDepth 100000
open Go Go.Proofs Go.Am
namespace KT
theorem sip_run : outV (startA ap0 287 [.int .u64 (.ofNat 1), .int .u64 (.ofNat 0), .string ⟨⟨[97]⟩⟩] T.e11 GN 100000) = some (.int .u64 (.ofNat 13210982519884571601)) := by kernel_rfl
theorem rows_run : outV (startA ap0 131 [] T.e11 GN 100000) = some rowsV := by kernel_rfl
theorem tab_run : outV (startA ap0 227 [] T.e11 GN 1000000) = some tbl := by kernel_rfl
theorem rows_plain : plainV rowsV = true := by kernel_rfl
theorem tab_plain : plainV tbl = true := by kernel_rfl
theorem s0 : SumsOk Tryz.prog ap0 := sums_nil rfl
theorem known_fn {f : FuncId} {fn : Func} (h1 : Tryz.prog.funcs[f]? = some fn) (h2 : fn.body.isSome = true) (h3 : (fn.name == "runtime.NumGoroutine") = false) :
    ∃ fn, Tryz.prog.funcs[f]? = some fn ∧ fn.body.isSome = true ∧ fn.name ≠ "runtime.NumGoroutine" := ⟨fn, h1, h2, ne_of_beq_false h3⟩
theorem sumsOk : SumsOk Tryz.prog ap := by
  intro f xs v hm
  have hm' : (f, xs, v) ∈ [((227 : Nat), ([] : List Value), tbl), (131, [], rowsV), (287, [.int .u64 (.ofNat 1), .int .u64 (.ofNat 0), .string ⟨⟨[97]⟩⟩], .int .u64 (.ofNat 13210982519884571601))] := hm
  simp only [List.mem_cons, Prod.mk.injEq, List.mem_nil_iff, or_false] at hm'
  rcases hm' with ⟨rfl, rfl, rfl⟩ | ⟨rfl, rfl, rfl⟩ | ⟨rfl, rfl, rfl⟩
  · exact ⟨known_plain ap0Ok s0 VRs.nil tab_plain tab_run, known_fn Tryz.func227 (by kernel_rfl) (by kernel_rfl)⟩
  · exact ⟨known_plain ap0Ok s0 VRs.nil rows_plain rows_run, known_fn Tryz.func131 (by kernel_rfl) (by kernel_rfl)⟩
  · exact ⟨known_plain ap0Ok s0 (VRs.cons (.int _ _) (VRs.cons (.int _ _) (VRs.cons (.string _) VRs.nil))) rfl sip_run, known_fn Tryz.func287 (by kernel_rfl) (by kernel_rfl)⟩
end KT
