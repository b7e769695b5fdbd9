/- Facts on the program that all contracts lean on; types whose values are compared cell by cell. -/
import Derived.Test.YtokbhdafpghcpaaProg
import Derived.Test.YtokbhdafpghcpaaEvU
import Derived.Test.YtokbhdafpghcpaaMdC
namespace Go.Proofs.Ytokbhdafpghcpaa
open Go Go.Ev
set_option linter.unusedVariables false
set_option linter.unusedSimpArgs false
theorem mixed : Try.prog.follows .mixedOrders = true := by kernel_rfl
theorem flat_X : FlatEq Try.prog 24 [.int .i8, .int .i8, .int .i8, .int .i8, .int .i8, .int .i64, .int .i64, .int .i8] := FlatEq.of_flat (d := 5) (by kernel_rfl) (by kernel_rfl) (by kernel_rfl) (by kernel_rfl)
end Go.Proofs.Ytokbhdafpghcpaa
