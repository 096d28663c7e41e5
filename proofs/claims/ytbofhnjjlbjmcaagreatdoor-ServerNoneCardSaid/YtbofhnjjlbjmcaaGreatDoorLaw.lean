/- The call of the law returns true, whatever the arguments and the world. -/
import Derived.Test.YtbofhnjjlbjmcaaGreatDoorKnown
set_option linter.unusedVariables false
set_option linter.unusedSimpArgs false
set_option maxRecDepth 100000
open Go Go.Proofs Go.Am Go.RowKit
namespace KT
theorem law_run (a b p f k c n t d : Int) (s : ByteArray) : outV (startA ap 3 [.agg ⟨[.int .i64 a, .int .i64 b, .int .u8 p, .int .u8 f]⟩, .agg ⟨[.int .u8 k, .int .i64 c, .string s, .int .i64 n, .int .i64 t, .int .u32 d]⟩] T.e11 GN 1000000) = some (.bool true) := by kernel_rfl

/-- the law, called with whatever a configuration and an event may hold, in every world: true, and nothing that was there is turned -/
theorem law_calls (a b p f k c n t d : Int) (s : ByteArray) (w : World) :
    Calls Tryz.prog 3 #[.agg #[.int .i64 a, .int .i64 b, .int .u8 p, .int .u8 f], .agg #[.int .u8 k, .int .i64 c, .string s, .int .i64 n, .int .i64 t, .int .u32 d]] w fun e w' => e = .returned (.bool true) ∧ Below w.heap.size w w' :=
  calls_plain apOk' sumsOk (VRs.cons (VR.plainV rfl) (VRs.cons (VR.plainV rfl) VRs.nil)) rfl (law_run a b p f k c n t d s) w
end KT
