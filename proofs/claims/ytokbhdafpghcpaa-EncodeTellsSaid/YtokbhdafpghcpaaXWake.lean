/- The bytes of the three instructions that the document shows. -/
import Derived.Test.YtokbhdafpghcpaaXBytes2
namespace Go.Proofs.Ytokbhdafpghcpaa
open Go Go.Ev
set_option linter.unusedVariables false
set_option linter.unusedSimpArgs false

theorem wake1_ok : Ret Try.prog 9 [xD 0 64 0 3 0 0 0 0] (.tup [.lst .no 1 [.int .u8 72, .int .u8 137, .int .u8 216], .int .i64 0]) :=
  (bytes_any_ok 0 64 0 3 0 0 0 0 (by decide)).cast rfl (by kernel_rfl)
theorem wake2_ok : Ret Try.prog 9 [xD 26 8 1 0 4 16 0 0] (.tup [.lst .no 1 [.int .u8 15, .int .u8 182, .int .u8 140, .int .u8 36, .int .u8 16, .int .u8 0, .int .u8 0, .int .u8 0], .int .i64 0]) :=
  (bytes_any_ok 26 8 1 0 4 16 0 0 (by decide)).cast rfl (by kernel_rfl)
theorem wake3_ok : Ret Try.prog 9 [xD 30 0 0 0 0 0 0 0] (.tup [.lst .no 1 [.int .u8 195], .int .i64 0]) :=
  (bytes_any_ok 30 0 0 0 0 0 0 0 (by decide)).cast rfl (by kernel_rfl)
end Go.Proofs.Ytokbhdafpghcpaa
