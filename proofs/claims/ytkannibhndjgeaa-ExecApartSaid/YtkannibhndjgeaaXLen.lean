/- Contracts: how many bytes. -/
import Derived.Test.YtkannibhndjgeaaXBytes2
import Derived.Test.YtkannibhndjgeaaMdZ
namespace Go.Proofs.Ytkannibhndjgeaa
open Go Go.Ev
set_option maxRecDepth 100000
set_option maxHeartbeats 8000000
set_option linter.unusedVariables false
set_option linter.unusedSimpArgs false
theorem xlen_ok (op w dst src base disp imm cc : Int) (ho : op ≤ 127) : Ret Try.prog 16 ([xD op w dst src base disp imm cc]) (.int .i64 (lenX op w dst src base disp imm cc)) := by
  have c0 := @bytes_any_ok (op) (w) (dst) (src) (base) (disp) (imm) (cc) ho
  exact (Ret.of_eval (d := .int .i64 (↑(List.length (bytesL op w dst src base disp imm cc)) : Int)) mixed Try.func16 (by kernel_rfl) [.ret _ _ _ c0] (by kernel_rfl)).to (by simp [wk, lenX])

end Go.Proofs.Ytkannibhndjgeaa
