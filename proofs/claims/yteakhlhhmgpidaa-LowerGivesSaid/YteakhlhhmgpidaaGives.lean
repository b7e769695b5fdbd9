/- Contract: LowerGives returns true. -/
import Derived.Test.YteakhlhhmgpidaaReads
import Derived.Test.YteakhlhhmgpidaaOne1
import Derived.Test.YteakhlhhmgpidaaLowerOneW
import Derived.Test.YteakhlhhmgpidaaGivesC
namespace Go.Proofs.Yteakhlhhmgpidaa
open Go Go.Ev
set_option maxRecDepth 100000
set_option maxHeartbeats 8000000
set_option linter.unusedVariables false
set_option linter.unusedSimpArgs false
theorem lowerGives_ok (kind op width size : Int) (byReg : Bool) (dst src off imm : Int) : Ret Try.prog 4 ([instD kind op width size byReg dst src off imm]) (.bool true) := by
  rcases Bool.eq_false_or_eq_true (oneOK kind op width size byReg dst src off imm) with k0 | k0
  · skip
    have c1 := @Proofs.Yteakhlhhmgpidaa.one_ok (kind) (op) (width) (size) (byReg) (dst) (src) (off) (imm)
    have c2 := @Proofs.Yteakhlhhmgpidaa.refMay_ok (kind) (op) (width) (size) (byReg) (dst) (src) (off) (imm)
    rw [show (mayM kind op width size byReg dst src off imm) = true from (@Proofs.Yteakhlhhmgpidaa.one_may (kind) (op) (width) (size) (byReg) (dst) (src) (off) (imm) k0)] at c2
    have c3 := @Proofs.Yteakhlhhmgpidaa.gives_run (kind) (op) (width) (size) (byReg) (dst) (src) (off) (imm) (kind) (op) (width) (size) (byReg) (dst) (src) (off) (imm)
    by_cases h4 : kind = 0
    · subst h4
      have c5 := @Proofs.Yteakhlhhmgpidaa.reads_one_ok ((0 : Int)) (op) (width) (size) (byReg) (dst) (src) (off) (imm) k0
      have c6 := @Proofs.Yteakhlhhmgpidaa.wakes18_ok
      exact (Ret.of_eval (d := D.bool true) mixed Try.func4 (by kernel_rfl) [.ret _ _ _ c1, tC (nt (eqI 0 true (eq_of_beq (@Proofs.Yteakhlhhmgpidaa.one_yes ((0 : Int)) (op) (width) (size) (byReg) (dst) (src) (off) (imm) k0)))), .ret _ _ _ c2, tF, .head ⟨[1, 3, 5, 6, 7], [0], []⟩ _ _ _ _ _ _ _ c3, tT, tT, tC (v := true) (@Proofs.Yteakhlhhmgpidaa.one_dst _ _ _ _ _ (dst) _ _ _ k0), tC (eT (@Proofs.Yteakhlhhmgpidaa.gives_0 (op) (width) (size) (byReg) (dst) (src) (off) (imm) k0)), tC (eT (@Proofs.Yteakhlhhmgpidaa.gives_0 (op) (width) (size) (byReg) (dst) (src) (off) (imm) k0)), tC (eT (@Proofs.Yteakhlhhmgpidaa.gives_0 (op) (width) (size) (byReg) (dst) (src) (off) (imm) k0)), .ret _ _ _ c5, tC (eT (@Proofs.Yteakhlhhmgpidaa.gives_0 (op) (width) (size) (byReg) (dst) (src) (off) (imm) k0)), tC (eT (@Proofs.Yteakhlhhmgpidaa.gives_0 (op) (width) (size) (byReg) (dst) (src) (off) (imm) k0)), tC (@Proofs.Yteakhlhhmgpidaa.gives_0 (op) (width) (size) (byReg) (dst) (src) (off) (imm) k0), tC (eT (eqI 0 true (eq_of_beq (@Proofs.Yteakhlhhmgpidaa.takes_x ((0 : Int)) (op) (width) (size) (byReg) (dst) (src) (off) (imm) k0)))), .ret _ _ _ c6, tC (eqI 0 true (eq_of_beq (@Proofs.Yteakhlhhmgpidaa.takes_x ((0 : Int)) (op) (width) (size) (byReg) (dst) (src) (off) (imm) k0)))] (by kernel_rfl)).to (by simp [wk, k0])
    · skip
      by_cases h7 : kind = 1
      · subst h7
        have c8 := @Proofs.Yteakhlhhmgpidaa.reads_one_ok ((1 : Int)) (op) (width) (size) (byReg) (dst) (src) (off) (imm) k0
        have c9 := @Proofs.Yteakhlhhmgpidaa.wakes18_ok
        exact (Ret.of_eval (d := D.bool true) mixed Try.func4 (by kernel_rfl) [.ret _ _ _ c1, tC (nt (eqI 0 true (eq_of_beq (@Proofs.Yteakhlhhmgpidaa.one_yes ((1 : Int)) (op) (width) (size) (byReg) (dst) (src) (off) (imm) k0)))), .ret _ _ _ c2, tF, .head ⟨[1, 3, 5, 6, 7], [0], []⟩ _ _ _ _ _ _ _ c3, tC (neOf h4), tT, tC (v := true) (@Proofs.Yteakhlhhmgpidaa.one_dst _ _ _ _ _ (dst) _ _ _ k0), tC (eT (@Proofs.Yteakhlhhmgpidaa.gives_1 (op) (width) (size) (byReg) (dst) (src) (off) (imm) k0)), tC (eT (@Proofs.Yteakhlhhmgpidaa.gives_1 (op) (width) (size) (byReg) (dst) (src) (off) (imm) k0)), tC (eT (@Proofs.Yteakhlhhmgpidaa.gives_1 (op) (width) (size) (byReg) (dst) (src) (off) (imm) k0)), .ret _ _ _ c8, tC (eT (@Proofs.Yteakhlhhmgpidaa.gives_1 (op) (width) (size) (byReg) (dst) (src) (off) (imm) k0)), tC (eT (@Proofs.Yteakhlhhmgpidaa.gives_1 (op) (width) (size) (byReg) (dst) (src) (off) (imm) k0)), tC (@Proofs.Yteakhlhhmgpidaa.gives_1 (op) (width) (size) (byReg) (dst) (src) (off) (imm) k0), tC (eT (eqI 0 true (eq_of_beq (@Proofs.Yteakhlhhmgpidaa.takes_x ((1 : Int)) (op) (width) (size) (byReg) (dst) (src) (off) (imm) k0)))), .ret _ _ _ c9, tC (eqI 0 true (eq_of_beq (@Proofs.Yteakhlhhmgpidaa.takes_x ((1 : Int)) (op) (width) (size) (byReg) (dst) (src) (off) (imm) k0)))] (by kernel_rfl)).to (by simp [wk, k0, h4])
      · skip
        by_cases h10 : kind = 5
        · subst h10
          have c11 := @Proofs.Yteakhlhhmgpidaa.reads_one_ok ((5 : Int)) (op) (width) (size) (byReg) (dst) (src) (off) (imm) k0
          have c12 := @Proofs.Yteakhlhhmgpidaa.wakes18_ok
          exact (Ret.of_eval (d := D.bool true) mixed Try.func4 (by kernel_rfl) [.ret _ _ _ c1, tC (nt (eqI 0 true (eq_of_beq (@Proofs.Yteakhlhhmgpidaa.one_yes ((5 : Int)) (op) (width) (size) (byReg) (dst) (src) (off) (imm) k0)))), .ret _ _ _ c2, tF, .head ⟨[1, 3, 5, 6, 7], [0], []⟩ _ _ _ _ _ _ _ c3, tC (neOf h4), tC (neOf h7), tT, tC (eT (eqI 63 true (eq_of_beq (@Proofs.Yteakhlhhmgpidaa.gives_5 (op) (width) (size) (byReg) (dst) (src) (off) (imm) k0)))), tC (eT (eqI 63 true (eq_of_beq (@Proofs.Yteakhlhhmgpidaa.gives_5 (op) (width) (size) (byReg) (dst) (src) (off) (imm) k0)))), tC (eT (eqI 63 true (eq_of_beq (@Proofs.Yteakhlhhmgpidaa.gives_5 (op) (width) (size) (byReg) (dst) (src) (off) (imm) k0)))), .ret _ _ _ c11, tC (eT (eqI 63 true (eq_of_beq (@Proofs.Yteakhlhhmgpidaa.gives_5 (op) (width) (size) (byReg) (dst) (src) (off) (imm) k0)))), tC (eT (eqI 63 true (eq_of_beq (@Proofs.Yteakhlhhmgpidaa.gives_5 (op) (width) (size) (byReg) (dst) (src) (off) (imm) k0)))), tC (eqI 63 true (eq_of_beq (@Proofs.Yteakhlhhmgpidaa.gives_5 (op) (width) (size) (byReg) (dst) (src) (off) (imm) k0))), tC (eT (eqI 0 true (eq_of_beq (@Proofs.Yteakhlhhmgpidaa.takes_x ((5 : Int)) (op) (width) (size) (byReg) (dst) (src) (off) (imm) k0)))), .ret _ _ _ c12, tC (eqI 0 true (eq_of_beq (@Proofs.Yteakhlhhmgpidaa.takes_x ((5 : Int)) (op) (width) (size) (byReg) (dst) (src) (off) (imm) k0)))] (by kernel_rfl)).to (by simp [wk, k0, h4, h7])
        · skip
          have c13 := @Proofs.Yteakhlhhmgpidaa.reads_one_ok (kind) (op) (width) (size) (byReg) (dst) (src) (off) (imm) k0
          have c14 := @Proofs.Yteakhlhhmgpidaa.wakes18_ok
          exact (Ret.of_eval (d := D.bool true) mixed Try.func4 (by kernel_rfl) [.ret _ _ _ c1, tC (nt (eqI 0 true (eq_of_beq (@Proofs.Yteakhlhhmgpidaa.one_yes (kind) (op) (width) (size) (byReg) (dst) (src) (off) (imm) k0)))), .ret _ _ _ c2, tF, .head ⟨[1, 3, 5, 6, 7], [0], []⟩ _ _ _ _ _ _ _ c3, tC (neOf h4), tC (neOf h7), tC (neOf h10), tC (eT (eqI 0 true (eq_of_beq (@Proofs.Yteakhlhhmgpidaa.gives_x (kind) (op) (width) (size) (byReg) (dst) (src) (off) (imm) k0 (neOf h4) (neOf h7) (neOf h10))))), tC (eT (eqI 0 true (eq_of_beq (@Proofs.Yteakhlhhmgpidaa.gives_x (kind) (op) (width) (size) (byReg) (dst) (src) (off) (imm) k0 (neOf h4) (neOf h7) (neOf h10))))), tC (eT (eqI 0 true (eq_of_beq (@Proofs.Yteakhlhhmgpidaa.gives_x (kind) (op) (width) (size) (byReg) (dst) (src) (off) (imm) k0 (neOf h4) (neOf h7) (neOf h10))))), .ret _ _ _ c13, tC (eT (eqI 0 true (eq_of_beq (@Proofs.Yteakhlhhmgpidaa.gives_x (kind) (op) (width) (size) (byReg) (dst) (src) (off) (imm) k0 (neOf h4) (neOf h7) (neOf h10))))), tC (eT (eqI 0 true (eq_of_beq (@Proofs.Yteakhlhhmgpidaa.gives_x (kind) (op) (width) (size) (byReg) (dst) (src) (off) (imm) k0 (neOf h4) (neOf h7) (neOf h10))))), tC (eqI 0 true (eq_of_beq (@Proofs.Yteakhlhhmgpidaa.gives_x (kind) (op) (width) (size) (byReg) (dst) (src) (off) (imm) k0 (neOf h4) (neOf h7) (neOf h10)))), tC (eT (eqI 0 true (eq_of_beq (@Proofs.Yteakhlhhmgpidaa.takes_x (kind) (op) (width) (size) (byReg) (dst) (src) (off) (imm) k0)))), .ret _ _ _ c14, tC (eqI 0 true (eq_of_beq (@Proofs.Yteakhlhhmgpidaa.takes_x (kind) (op) (width) (size) (byReg) (dst) (src) (off) (imm) k0)))] (by kernel_rfl)).to (by simp [wk, k0, h4, h7, h10])
  · skip
    have c15 := @Proofs.Yteakhlhhmgpidaa.one_ok (kind) (op) (width) (size) (byReg) (dst) (src) (off) (imm)
    have c16 := @Proofs.Yteakhlhhmgpidaa.wakes18_ok
    exact (Ret.of_eval (d := D.bool true) mixed Try.func4 (by kernel_rfl) [.ret _ _ _ c15, tC (nt (@Proofs.Yteakhlhhmgpidaa.one_no (kind) (op) (width) (size) (byReg) (dst) (src) (off) (imm) k0)), tC (eT (eqI 0 true (eq_of_beq (@Proofs.Yteakhlhhmgpidaa.one_none (kind) (op) (width) (size) (byReg) (dst) (src) (off) (imm) k0)))), .ret _ _ _ c16, tC (eqI 0 true (eq_of_beq (@Proofs.Yteakhlhhmgpidaa.one_none (kind) (op) (width) (size) (byReg) (dst) (src) (off) (imm) k0)))] (by kernel_rfl)).to (by simp [wk, k0])

end Go.Proofs.Yteakhlhhmgpidaa
