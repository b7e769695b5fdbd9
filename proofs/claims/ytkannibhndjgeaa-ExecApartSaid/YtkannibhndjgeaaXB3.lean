/- Contracts: no bytes of what may not be. -/
import Derived.Test.YtkannibhndjgeaaXBytes
namespace Go.Proofs.Ytkannibhndjgeaa
open Go Go.Ev
set_option maxRecDepth 100000
set_option maxHeartbeats 8000000
set_option linter.unusedVariables false
set_option linter.unusedSimpArgs false
theorem bytes_no_ok (op w dst src base disp imm cc : Int) (ho : op ≤ 127) (hm : mayX op w dst src base disp imm cc = false) : Ret Try.prog 37 ([xD op w dst src base disp imm cc]) (.tup [.lst .no 1 [], .int .i64 2]) := by
  have c0 := @mayX_ok (op) (w) (dst) (src) (base) (disp) (imm) (cc) ho
  rw [show (mayX op w dst src base disp imm cc) = false from hm] at c0
  exact (Ret.of_eval (d := .tup [.lst .tight 0 [], .int .i64 2]) mixed Try.func37 (by kernel_rfl) [.ret _ _ _ c0, tT] (by kernel_rfl)).to (by simp [wk, wkL, wkO])

end Go.Proofs.Ytkannibhndjgeaa
