/- An instruction's bytes, whether it may be or not. -/
import Derived.Test.YtkannibhndjgeaaXB3
namespace Go.Proofs.Ytkannibhndjgeaa
open Go Go.Ev
set_option linter.unusedVariables false
set_option linter.unusedSimpArgs false

theorem bytes_any_ok (op w dst src base disp imm cc : Int) (ho : op ≤ 127) : Ret Try.prog 37 [xD op w dst src base disp imm cc] (.tup [.lst .no 1 (bytesL op w dst src base disp imm cc), .int .i64 (bytesE op w dst src base disp imm cc)]) := by
  unfold bytesL bytesE
  cases h : mayX op w dst src base disp imm cc
  · exact bytes_no_ok op w dst src base disp imm cc ho h
  · exact bytes_may_ok op w dst src base disp imm cc ho h
end Go.Proofs.Ytkannibhndjgeaa
