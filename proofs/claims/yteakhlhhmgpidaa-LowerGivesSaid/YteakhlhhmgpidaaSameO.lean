/- An instruction's steps are the same as themselves. -/
import Derived.Test.YteakhlhhmgpidaaSameC
import Derived.Test.YteakhlhhmgpidaaMdG
namespace Go.Proofs.Yteakhlhhmgpidaa
open Go Go.Ev

theorem same_of_ir (l : List D) (h : AllIr l) (hl : l.length ≤ 1099511627776) : Ret Try.prog 9 [.lst .no 13 l, .lst .no 13 l] (.bool true) := by
  have := same17_ok (l.map irOf) (l.map irOf) (by rw [h]; exact hl)
  rw [h] at this
  simpa using this
theorem same_one_ok (kind op width size : Int) (byReg : Bool) (dst src off imm : Int) : Ret Try.prog 9 [.lst .no 13 (oneL kind op width size byReg dst src off imm), .lst .no 13 (oneL kind op width size byReg dst src off imm)] (.bool true) :=
  same_of_ir _ (one_ir _ _ _ _ _ _ _ _ _) (by have := one_len kind op width size byReg dst src off imm; omega)
end Go.Proofs.Yteakhlhhmgpidaa
