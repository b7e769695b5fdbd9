/- Contracts: an instruction's steps, or that it may not be. -/
import Derived.Test.YteakhlhhmgpidaaMay
import Derived.Test.YteakhlhhmgpidaaMayR
import Derived.Test.YteakhlhhmgpidaaOne
namespace Go.Proofs.Yteakhlhhmgpidaa
open Go Go.Ev
set_option maxRecDepth 100000
set_option maxHeartbeats 8000000
set_option linter.unusedVariables false
set_option linter.unusedSimpArgs false
theorem one_ok (kind op width size : Int) (byReg : Bool) (dst src off imm : Int) : Ret Try.prog 7 ([instD kind op width size byReg dst src off imm]) (.tup [.lst .no 13 (oneL kind op width size byReg dst src off imm), .int .i64 (oneE kind op width size byReg dst src off imm)]) := by
  have c0 := Proofs.Yteakhlhhmgpidaa.instrMay_ok (kind) (op) (width) (size) (byReg) (dst) (src) (off) (imm)
  generalize g2 : mayM kind op width size byReg dst src off imm = r1 at c0
  cases r1
  · skip
    exact (Ret.of_eval (d := D.tup [D.lst Own.tight (0 : Nat) [], D.int IntKind.i64 (2 : Int)]) mixed Try.func7 (by kernel_rfl) [.ret _ _ _ c0, tF, tF, tF, tT, tF, tF, tF, tT, tT] (by kernel_rfl)).to (by simp [wk, wkL, wkO, oneL, oneE, oneOK, g2])
  · skip
    by_cases h3 : kind = 3
    · subst h3
      exact (Ret.of_eval (d := D.tup [D.lst Own.tight (0 : Nat) [], D.int IntKind.i64 (2 : Int)]) mixed Try.func7 (by kernel_rfl) [.ret _ _ _ c0, tT, tT, tT, tF, tF, tF, tF, tT, tT] (by kernel_rfl)).to (by simp [wk, wkL, wkO, oneL, oneE, oneOK, g2])
    · skip
      by_cases h4 : kind = 4
      · subst h4
        exact (Ret.of_eval (d := D.tup [D.lst Own.tight (0 : Nat) [], D.int IntKind.i64 (2 : Int)]) mixed Try.func7 (by kernel_rfl) [.ret _ _ _ c0, tT, tT, tT, tF, tC (eF (neOf h3)), tC (eF (neOf h3)), tC (eF (neOf h3)), tC (neOf h3), tT] (by kernel_rfl)).to (by simp [wk, wkL, wkO, oneL, oneE, oneOK, g2, h3])
      · skip
        have c5 := Proofs.Yteakhlhhmgpidaa.does_any_ok (kind) (op) (width) (size) (byReg) (dst) (src) (off) (imm) g2 (neOf h3) (neOf h4)
        generalize g7 : stepsM kind op width size byReg dst src off imm = r6 at c5
        exact (Ret.of_eval (d := D.tup [D.lst Own.no (13 : Nat) r6, D.int IntKind.i64 (0 : Int)]) mixed Try.func7 (by kernel_rfl) [.ret _ _ _ c0, tT, tT, tT, tF, tC (eF (neOf h3)), tC (eF (neOf h3)), tC (eF (neOf h3)), tC (neOf h3), tC (neOf h4), .ret _ _ _ c5] (by kernel_rfl)).to (by simp [wk, wkL, wkO, oneL, oneE, oneOK, g2, h3, h4, g7])

theorem rone_ok (kind op width size : Int) (byReg : Bool) (dst src off imm : Int) : Ret Try.prog 8 ([instD kind op width size byReg dst src off imm]) (.tup [.lst .no 13 (oneL kind op width size byReg dst src off imm), .int .i64 (oneE kind op width size byReg dst src off imm)]) := by
  have c0 := Proofs.Yteakhlhhmgpidaa.refMay_ok (kind) (op) (width) (size) (byReg) (dst) (src) (off) (imm)
  generalize g2 : mayM kind op width size byReg dst src off imm = r1 at c0
  cases r1
  · skip
    exact (Ret.of_eval (d := D.tup [D.lst Own.tight (0 : Nat) [], D.int IntKind.i64 (2 : Int)]) mixed Try.func8 (by kernel_rfl) [.ret _ _ _ c0, tF, tF, tF, tT, tF, tF, tF, tT, tT] (by kernel_rfl)).to (by simp [wk, wkL, wkO, oneL, oneE, oneOK, g2])
  · skip
    by_cases h3 : kind = 3
    · subst h3
      exact (Ret.of_eval (d := D.tup [D.lst Own.tight (0 : Nat) [], D.int IntKind.i64 (2 : Int)]) mixed Try.func8 (by kernel_rfl) [.ret _ _ _ c0, tT, tT, tT, tF, tF, tF, tF, tT, tT] (by kernel_rfl)).to (by simp [wk, wkL, wkO, oneL, oneE, oneOK, g2])
    · skip
      by_cases h4 : kind = 4
      · subst h4
        exact (Ret.of_eval (d := D.tup [D.lst Own.tight (0 : Nat) [], D.int IntKind.i64 (2 : Int)]) mixed Try.func8 (by kernel_rfl) [.ret _ _ _ c0, tT, tT, tT, tF, tC (eF (neOf h3)), tC (eF (neOf h3)), tC (eF (neOf h3)), tC (neOf h3), tT] (by kernel_rfl)).to (by simp [wk, wkL, wkO, oneL, oneE, oneOK, g2, h3])
      · skip
        have c5 := Proofs.Yteakhlhhmgpidaa.rsteps_any_ok (kind) (op) (width) (size) (byReg) (dst) (src) (off) (imm) g2 (neOf h3) (neOf h4)
        generalize g7 : stepsM kind op width size byReg dst src off imm = r6 at c5
        exact (Ret.of_eval (d := D.tup [D.lst Own.no (13 : Nat) r6, D.int IntKind.i64 (0 : Int)]) mixed Try.func8 (by kernel_rfl) [.ret _ _ _ c0, tT, tT, tT, tF, tC (eF (neOf h3)), tC (eF (neOf h3)), tC (eF (neOf h3)), tC (neOf h3), tC (neOf h4), .ret _ _ _ c5] (by kernel_rfl)).to (by simp [wk, wkL, wkO, oneL, oneE, oneOK, g2, h3, h4, g7])

end Go.Proofs.Yteakhlhhmgpidaa
