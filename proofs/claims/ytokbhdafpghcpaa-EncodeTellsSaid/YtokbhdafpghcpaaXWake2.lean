/- Contract: what the document says of three instructions holds. -/
import Derived.Test.YtokbhdafpghcpaaXWake
import Derived.Test.YtokbhdafpghcpaaXLen
namespace Go.Proofs.Ytokbhdafpghcpaa
open Go Go.Ev
set_option maxRecDepth 100000
set_option maxHeartbeats 8000000
set_option linter.unusedVariables false
set_option linter.unusedSimpArgs false
theorem wakes13_ok  : Ret Try.prog 10 ([]) (.bool true) := by
  have c0 := @wake1_ok
  have c1 := @wake2_ok
  have c2 := @wake3_ok
  exact (Ret.of_eval (d := .bool true) mixed Try.func10 (by kernel_rfl) [.ret _ _ _ c0, .ret _ _ _ c1, .ret _ _ _ c2, tT, tT, tT, tT, tT, tT, tT, tT, tT, tT, tT, tT, tT, tT, tT, tT, tT, tT, tT, tT, tT] (by kernel_rfl)).to (by simp [wk])

end Go.Proofs.Ytokbhdafpghcpaa
