/- Contracts: no bytes of what may not be, by the document. -/
import Derived.Test.YtokbhdafpghcpaaXR1
namespace Go.Proofs.Ytokbhdafpghcpaa
open Go Go.Ev
set_option maxRecDepth 100000
set_option maxHeartbeats 8000000
set_option linter.unusedVariables false
set_option linter.unusedSimpArgs false
theorem rbytes_no_ok (op w dst src base disp imm cc : Int) (ho : op ≤ 127) (hm : mayX op w dst src base disp imm cc = false) : Ret Try.prog 13 ([xD op w dst src base disp imm cc]) (.tup [.lst .no 1 [], .int .i64 2]) := by
  have c0 := @Proofs.Ytokbhdafpghcpaa.rmayX_ok (op) (w) (dst) (src) (base) (disp) (imm) (cc)
  rw [show (mayX op w dst src base disp imm cc) = false from hm] at c0
  exact (Ret.of_eval (d := D.tup [D.lst Own.tight (0 : Nat) [], D.int IntKind.i64 (2 : Int)]) mixed Try.func13 (by kernel_rfl) [.ret _ _ _ c0, tT] (by kernel_rfl)).to (by simp [wk, wkL, wkO])

end Go.Proofs.Ytokbhdafpghcpaa
