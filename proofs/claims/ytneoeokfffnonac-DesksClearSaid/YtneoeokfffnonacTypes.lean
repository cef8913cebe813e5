/- What the program's table says of the types that the walks meet. -/
import Derived.Test.YtneoeokfffnonacProg
import Derived.Test.YtneoeokfffnonacPlain
set_option linter.unusedVariables false
set_option linter.unusedSimpArgs false
namespace Go.Proofs.Ytneoeokfffnonac
theorem ti_u8 : TInfo Try.prog 5 1 1 := .mk (z := .int .u8 0) (by kernel_rfl) rfl (by decide)
theorem ti_int : TInfo Try.prog 3 1 8 := .mk (z := .int .i64 0) (by kernel_rfl) rfl (by decide)
theorem ti_Char : TInfo Try.prog 86 7 56 := .mk (z := .agg #[.int .u8 0, .int .i64 0, .int .i64 0, .int .i64 0, .int .i64 0, .int .i64 0, .int .i64 0]) (by kernel_rfl) rfl (by decide)
theorem ti_Deed : TInfo Try.prog 24 7 64 := .mk (z := .agg #[.int .i64 0, .int .i64 0, .int .i64 0, .int .i64 0, .int .i64 0, .int .i64 0, .string ⟨#[]⟩]) (by kernel_rfl) rfl (by decide)
end Go.Proofs.Ytneoeokfffnonac
