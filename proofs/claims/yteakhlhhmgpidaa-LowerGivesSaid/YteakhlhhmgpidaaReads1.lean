/- Which registers an instruction reads, whatever it is. -/
import Derived.Test.YteakhlhhmgpidaaReads
import Derived.Test.YteakhlhhmgpidaaMdH
namespace Go.Proofs.Yteakhlhhmgpidaa
open Go Go.Ev
set_option linter.unusedVariables false
set_option linter.unusedSimpArgs false

theorem reads5_any (imm : Int) (h0 : 0 ≤ imm) (h1 : imm ≤ 15) : Ret Try.prog 12 [instD 5 0 0 0 false 0 0 0 imm] (.int .i64 (readsCall imm)) := by
  rcases (by omega : imm = 0 ∨ imm = 1 ∨ imm = 2 ∨ imm = 3 ∨ imm = 4 ∨ imm = 5 ∨ imm = 6 ∨ imm = 7 ∨ imm = 8 ∨ imm = 9 ∨ imm = 10 ∨ imm = 11 ∨ imm = 12 ∨ imm = 13 ∨ imm = 14 ∨ imm = 15) with rfl | rfl | rfl | rfl | rfl | rfl | rfl | rfl | rfl | rfl | rfl | rfl | rfl | rfl | rfl | rfl
  · exact reads5_0_ok
  · exact reads5_1_ok
  · exact reads5_2_ok
  · exact reads5_3_ok
  · exact reads5_4_ok
  · exact reads5_5_ok
  · exact reads5_6_ok
  · exact reads5_7_ok
  · exact reads5_8_ok
  · exact reads5_9_ok
  · exact reads5_10_ok
  · exact reads5_11_ok
  · exact reads5_12_ok
  · exact reads5_13_ok
  · exact reads5_14_ok
  · exact reads5_15_ok
theorem reads_may_ok (kind op width size : Int) (byReg : Bool) (dst src off imm : Int) (h : mayM kind op width size byReg dst src off imm = true) :
    Ret Try.prog 12 [instD kind op width size byReg dst src off imm] (.int .i64 (readsM kind op byReg dst src imm)) := by
  obtain ⟨_, hf⟩ := may_forms h
  rcases hf with ⟨rfl, _⟩ | ⟨rfl, _⟩ | ⟨rfl, _⟩ | ⟨rfl, _⟩ | ⟨rfl, _⟩ | ⟨rfl, rfl, rfl, rfl, rfl, rfl, rfl, rfl, h0, h1⟩ | ⟨rfl, _⟩
  · exact reads_0_ok _ _ _ _ _ _ _ _ h
  · exact reads_1_ok _ _ _ _ _ _ _ _ h
  · exact reads_2_ok _ _ _ _ _ _ _ _ h
  · exact reads_3_ok _ _ _ _ _ _ _ _ h
  · exact reads_4_ok _ _ _ _ _ _ _ _ h
  · exact reads5_any imm h0 h1
  · exact reads_6_ok _ _ _ _ _ _ _ _ h
end Go.Proofs.Yteakhlhhmgpidaa
