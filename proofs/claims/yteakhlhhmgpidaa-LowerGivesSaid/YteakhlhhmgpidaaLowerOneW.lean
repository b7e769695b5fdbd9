/- Contract: LowerOne returns true. -/
import Derived.Test.YteakhlhhmgpidaaOne1
import Derived.Test.YteakhlhhmgpidaaSameO
namespace Go.Proofs.Yteakhlhhmgpidaa
open Go Go.Ev
set_option maxRecDepth 100000
set_option maxHeartbeats 8000000
set_option linter.unusedVariables false
set_option linter.unusedSimpArgs false
theorem wakes18_ok  : Ret Try.prog 10 ([]) (.bool true) := by
  have c0 := Proofs.Yteakhlhhmgpidaa.one_ok ((0 : Int)) ((0 : Int)) ((64 : Int)) ((0 : Int)) (false) ((1 : Int)) ((0 : Int)) ((0 : Int)) ((5 : Int))
  exact (Ret.of_eval (d := D.bool true) mixed Try.func10 (by kernel_rfl) [.ret _ _ _ c0, tT, tT, tT, .inl, tF, .go 64, tT, tT, .get ([(irD 1 0 0 0 0 0 0 0 0 1 0 0 0), (irD 0 9 64 0 0 0 0 5 0 0 0 0 0), (irD 2 0 0 0 0 0 0 0 0 1 0 0 0)]) 0 ((irD 1 0 0 0 0 0 0 0 0 1 0 0 0)) rfl, tT, .get ([(irD 1 0 0 0 0 0 0 0 0 1 0 0 0), (irD 0 9 64 0 0 0 0 5 0 0 0 0 0), (irD 2 0 0 0 0 0 0 0 0 1 0 0 0)]) 0 ((irD 1 0 0 0 0 0 0 0 0 1 0 0 0)) rfl, .flat _ _ Proofs.Yteakhlhhmgpidaa.flat_Ir, tF, tT, tT, .get ([(irD 1 0 0 0 0 0 0 0 0 1 0 0 0), (irD 0 9 64 0 0 0 0 5 0 0 0 0 0), (irD 2 0 0 0 0 0 0 0 0 1 0 0 0)]) 1 ((irD 0 9 64 0 0 0 0 5 0 0 0 0 0)) rfl, tT, .get ([(irD 1 0 0 0 0 0 0 0 0 1 0 0 0), (irD 0 9 64 0 0 0 0 5 0 0 0 0 0), (irD 2 0 0 0 0 0 0 0 0 1 0 0 0)]) 1 ((irD 0 9 64 0 0 0 0 5 0 0 0 0 0)) rfl, .flat _ _ Proofs.Yteakhlhhmgpidaa.flat_Ir, tF, tT, tT, .get ([(irD 1 0 0 0 0 0 0 0 0 1 0 0 0), (irD 0 9 64 0 0 0 0 5 0 0 0 0 0), (irD 2 0 0 0 0 0 0 0 0 1 0 0 0)]) 2 ((irD 2 0 0 0 0 0 0 0 0 1 0 0 0)) rfl, tT, .get ([(irD 1 0 0 0 0 0 0 0 0 1 0 0 0), (irD 0 9 64 0 0 0 0 5 0 0 0 0 0), (irD 2 0 0 0 0 0 0 0 0 1 0 0 0)]) 2 ((irD 2 0 0 0 0 0 0 0 0 1 0 0 0)) rfl, .flat _ _ Proofs.Yteakhlhhmgpidaa.flat_Ir, tF, tF, tT] (by kernel_rfl)).to (by simp [wk])

theorem lowerOne_ok (kind op width size : Int) (byReg : Bool) (dst src off imm : Int) : Ret Try.prog 3 ([instD kind op width size byReg dst src off imm]) (.bool true) := by
  have c0 := Proofs.Yteakhlhhmgpidaa.one_ok (kind) (op) (width) (size) (byReg) (dst) (src) (off) (imm)
  have c1 := Proofs.Yteakhlhhmgpidaa.rone_ok (kind) (op) (width) (size) (byReg) (dst) (src) (off) (imm)
  have c2 := Proofs.Yteakhlhhmgpidaa.same_one_ok (kind) (op) (width) (size) (byReg) (dst) (src) (off) (imm)
  have c3 := Proofs.Yteakhlhhmgpidaa.wakes18_ok
  exact (Ret.of_eval (d := D.bool true) mixed Try.func3 (by kernel_rfl) [.ret _ _ _ c0, .ret _ _ _ c1, .ret _ _ _ c2, tT, tT, tT, tT, tC (eT (selfI (x := oneE kind op width size byReg dst src off imm))), .ret _ _ _ c3, tC (selfI (x := oneE kind op width size byReg dst src off imm))] (by kernel_rfl)).to (by simp [wk])

end Go.Proofs.Yteakhlhhmgpidaa
