/- Facts on the program that all contracts lean on; types whose values are compared cell by cell. -/
import Derived.Test.YteakhlhhmgpidaaProg
import Derived.Test.YteakhlhhmgpidaaEvT
import Derived.Test.YteakhlhhmgpidaaMdA
import Derived.Test.YteakhlhhmgpidaaMdB
import Derived.Test.YteakhlhhmgpidaaMdL
import Derived.Test.YteakhlhhmgpidaaMdC
import Derived.Test.YteakhlhhmgpidaaEvU
import Derived.Test.YteakhlhhmgpidaaEvS
namespace Go.Proofs.Yteakhlhhmgpidaa
open Go Go.Ev
theorem mixed : Try.prog.follows .mixedOrders = true := by kernel_rfl
theorem flat_Instr : FlatEq Try.prog 24 [.int .i8, .int .i8, .int .i8, .int .i8, .bool, .int .i8, .int .i8, .int .i64, .int .i64] := FlatEq.of_flat (d := 5) (by kernel_rfl) (by kernel_rfl) (by kernel_rfl) (by kernel_rfl)
theorem flat_X : FlatEq Try.prog 33 [.int .i8, .int .i8, .int .i8, .int .i8, .int .i8, .int .i64, .int .i64, .int .i8] := FlatEq.of_flat (d := 5) (by kernel_rfl) (by kernel_rfl) (by kernel_rfl) (by kernel_rfl)
theorem flat_Ir : FlatEq Try.prog 35 [.int .i8, .int .i8, .int .i8, .int .i8, .int .i8, .int .i8, .int .i64, .int .i64, .int .i8, .int .i8, .int .i8, .int .i64, .int .i64] := FlatEq.of_flat (d := 5) (by kernel_rfl) (by kernel_rfl) (by kernel_rfl) (by kernel_rfl)
theorem flat_Flags : FlatEq Try.prog 116 [.bool, .bool, .bool, .bool, .bool] := FlatEq.of_flat (d := 5) (by kernel_rfl) (by kernel_rfl) (by kernel_rfl) (by kernel_rfl)
end Go.Proofs.Yteakhlhhmgpidaa
