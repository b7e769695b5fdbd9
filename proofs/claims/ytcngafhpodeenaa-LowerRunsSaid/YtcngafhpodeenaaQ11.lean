/- Contracts and plain laws that a statement's proof leans on (texts merged: StepsL). -/
import Derived.Test.YtcngafhpodeenaaQ04
import Derived.Test.YtcngafhpodeenaaQ05
set_option linter.unusedVariables false
set_option linter.unusedSimpArgs false
namespace Go.Proofs.Ytcngafhpodeenaa
open Go Go.Ev
set_option maxRecDepth 100000
set_option maxHeartbeats 8000000
def tab_StepsL_0 : List D := [.int .i8 2, .int .i8 9, .int .i8 5, .int .i8 12, .int .i8 0, .int .i8 0, .int .i8 0, .int .i8 0, .int .i8 3, .int .i8 10, .int .i8 4, .int .i8 11, .int .i8 20, .int .i8 17, .int .i8 21, .int .i8 18, .int .i8 0, .int .i8 0, .int .i8 0, .int .i8 0, .int .i8 6, .int .i8 13, .int .i8 0, .int .i8 0, .int .i8 22, .int .i8 19]
def SpStepsL0 (k0_ : Int) (k1_ : Int) : Prop := ∀ (byReg : Bool) (dst src imm : Int) (hi1 : -2147483648 ≤ imm) (hi2 : imm ≤ 2147483647), Ret Try.prog 37 ([instD 0 k0_ k1_ 0 byReg dst src 0 imm]) (.lst .no 13 (stepsM 0 k0_ k1_ 0 byReg dst src 0 imm))
theorem does_0_0_32_ok : SpStepsL0 0 32 := by
 intro byReg dst src imm hi1 hi2
 let E1 : EL := [tT, .get ([D.fn (Fn.func 82) [] [], D.fn (Fn.func 83) [] [], D.fn (Fn.func 84) [] [], D.nilf, D.nilf, D.fn (Fn.func 85) [] [], D.fn (Fn.func 86) [] []]) 0 (D.fn (Fn.func 82) [] []) rfl, tT, .inl, tT, .get ([D.fn (Fn.func 136) [] [], D.fn (Fn.func 136) [] [], D.fn (Fn.func 137) [] [], D.fn (Fn.func 141) [] [], D.fn (Fn.func 136) [] [], D.fn (Fn.func 136) [] [], D.fn (Fn.func 140) [] [], D.fn (Fn.func 140) [] [], D.fn (Fn.func 138) [] [], D.fn (Fn.func 142) [] [], D.fn (Fn.func 136) [] [], D.fn (Fn.func 139) [] [], D.fn (Fn.func 140) [] []]) 0 (D.fn (Fn.func 136) [] []) rfl, .inl, .inl, tT]
 cases byReg
 ·have c0 := @l_take_ok 0 dst
  have c1 := @l_num_ok 9 32 0 imm
  have c2 := @l_give_ok dst 0
  have c3 := @l_steps_ok ([(irD 1 0 0 0 0 0 0 0 0 dst 0 0 0), (irD 0 9 32 0 0 0 0 imm 0 0 0 0 0), (irD 2 0 0 0 0 0 0 0 0 dst 0 0 0)])
  exact (o37 (d := .lst .tight 13 [(irD 1 0 0 0 0 0 0 0 0 dst 0 0 0), (irD 0 9 32 0 0 0 0 imm 0 0 0 0 0), (irD 2 0 0 0 0 0 0 0 0 dst 0 0 0)]) (E1 ++ [.get tab_StepsL_0 0 (.int .i8 2) rfl, tT, .get tab_StepsL_0 1 (.int .i8 9) rfl, tF, .ret _ _ _ c0, .ret _ _ _ c1, .ret _ _ _ c2, .ret _ _ _ c3]) (by kernel_rfl)).to (by clear E1; (try simp only [IntKind.bits, and31, and63, and32, wrap_mod32, wrap_mod64] at *); simp [wk, wkL, wkO, stepsM, aluM, regOp, immOp, zeroImm, takeD, giveD, two, num, cmov, irD, ]; try ((try simp only [w_u64, w_i64, and32, IntKind.bits, Int.mul_one] at *); omega))
 have c4 := @l_take_ok 0 dst
 have c5 := @l_take_ok 1 src
 have c6 := @l_two_ok 2 32 0 1
 have c7 := @l_give_ok dst 0
 have c8 := @l_steps_ok ([(irD 1 0 0 0 0 0 0 0 0 dst 0 0 0), (irD 1 0 0 0 0 0 0 0 0 src 1 0 0), (irD 0 2 32 0 1 0 0 0 0 0 0 0 0), (irD 2 0 0 0 0 0 0 0 0 dst 0 0 0)])
 exact (o37 (d := .lst .tight 13 [(irD 1 0 0 0 0 0 0 0 0 dst 0 0 0), (irD 1 0 0 0 0 0 0 0 0 src 1 0 0), (irD 0 2 32 0 1 0 0 0 0 0 0 0 0), (irD 2 0 0 0 0 0 0 0 0 dst 0 0 0)]) (E1 ++ [.get tab_StepsL_0 0 (.int .i8 2) rfl, tT, .get tab_StepsL_0 1 (.int .i8 9) rfl, tT, .ret _ _ _ c4, .ret _ _ _ c5, .ret _ _ _ c6, .ret _ _ _ c7, .ret _ _ _ c8]) (by kernel_rfl)).to (by clear E1; (try simp only [IntKind.bits, and31, and63, and32, wrap_mod32, wrap_mod64] at *); simp [wk, wkL, wkO, stepsM, aluM, regOp, immOp, zeroImm, takeD, giveD, two, num, cmov, irD, ]; try ((try simp only [w_u64, w_i64, and32, IntKind.bits, Int.mul_one] at *); omega))
theorem does_0_0_64_ok : SpStepsL0 0 64 := by
 intro byReg dst src imm hi1 hi2
 let E1 : EL := [tT, .get ([D.fn (Fn.func 82) [] [], D.fn (Fn.func 83) [] [], D.fn (Fn.func 84) [] [], D.nilf, D.nilf, D.fn (Fn.func 85) [] [], D.fn (Fn.func 86) [] []]) 0 (D.fn (Fn.func 82) [] []) rfl, tT, .inl, tT, .get ([D.fn (Fn.func 136) [] [], D.fn (Fn.func 136) [] [], D.fn (Fn.func 137) [] [], D.fn (Fn.func 141) [] [], D.fn (Fn.func 136) [] [], D.fn (Fn.func 136) [] [], D.fn (Fn.func 140) [] [], D.fn (Fn.func 140) [] [], D.fn (Fn.func 138) [] [], D.fn (Fn.func 142) [] [], D.fn (Fn.func 136) [] [], D.fn (Fn.func 139) [] [], D.fn (Fn.func 140) [] []]) 0 (D.fn (Fn.func 136) [] []) rfl, .inl, .inl, tT]
 cases byReg
 ·have c0 := @l_take_ok 0 dst
  have c1 := @l_num_ok 9 64 0 imm
  have c2 := @l_give_ok dst 0
  have c3 := @l_steps_ok ([(irD 1 0 0 0 0 0 0 0 0 dst 0 0 0), (irD 0 9 64 0 0 0 0 imm 0 0 0 0 0), (irD 2 0 0 0 0 0 0 0 0 dst 0 0 0)])
  exact (o37 (d := .lst .tight 13 [(irD 1 0 0 0 0 0 0 0 0 dst 0 0 0), (irD 0 9 64 0 0 0 0 imm 0 0 0 0 0), (irD 2 0 0 0 0 0 0 0 0 dst 0 0 0)]) (E1 ++ [.get tab_StepsL_0 0 (.int .i8 2) rfl, tT, .get tab_StepsL_0 1 (.int .i8 9) rfl, tF, .ret _ _ _ c0, .ret _ _ _ c1, .ret _ _ _ c2, .ret _ _ _ c3]) (by kernel_rfl)).to (by clear E1; (try simp only [IntKind.bits, and31, and63, and32, wrap_mod32, wrap_mod64] at *); simp [wk, wkL, wkO, stepsM, aluM, regOp, immOp, zeroImm, takeD, giveD, two, num, cmov, irD, ]; try ((try simp only [w_u64, w_i64, and32, IntKind.bits, Int.mul_one] at *); omega))
 have c4 := @l_take_ok 0 dst
 have c5 := @l_take_ok 1 src
 have c6 := @l_two_ok 2 64 0 1
 have c7 := @l_give_ok dst 0
 have c8 := @l_steps_ok ([(irD 1 0 0 0 0 0 0 0 0 dst 0 0 0), (irD 1 0 0 0 0 0 0 0 0 src 1 0 0), (irD 0 2 64 0 1 0 0 0 0 0 0 0 0), (irD 2 0 0 0 0 0 0 0 0 dst 0 0 0)])
 exact (o37 (d := .lst .tight 13 [(irD 1 0 0 0 0 0 0 0 0 dst 0 0 0), (irD 1 0 0 0 0 0 0 0 0 src 1 0 0), (irD 0 2 64 0 1 0 0 0 0 0 0 0 0), (irD 2 0 0 0 0 0 0 0 0 dst 0 0 0)]) (E1 ++ [.get tab_StepsL_0 0 (.int .i8 2) rfl, tT, .get tab_StepsL_0 1 (.int .i8 9) rfl, tT, .ret _ _ _ c4, .ret _ _ _ c5, .ret _ _ _ c6, .ret _ _ _ c7, .ret _ _ _ c8]) (by kernel_rfl)).to (by clear E1; (try simp only [IntKind.bits, and31, and63, and32, wrap_mod32, wrap_mod64] at *); simp [wk, wkL, wkO, stepsM, aluM, regOp, immOp, zeroImm, takeD, giveD, two, num, cmov, irD, ]; try ((try simp only [w_u64, w_i64, and32, IntKind.bits, Int.mul_one] at *); omega))
theorem does_0_1_32_ok : SpStepsL0 1 32 := by
 intro byReg dst src imm hi1 hi2
 let E1 : EL := [tT, .get ([D.fn (Fn.func 82) [] [], D.fn (Fn.func 83) [] [], D.fn (Fn.func 84) [] [], D.nilf, D.nilf, D.fn (Fn.func 85) [] [], D.fn (Fn.func 86) [] []]) 0 (D.fn (Fn.func 82) [] []) rfl, tT, .inl, tT, .get ([D.fn (Fn.func 136) [] [], D.fn (Fn.func 136) [] [], D.fn (Fn.func 137) [] [], D.fn (Fn.func 141) [] [], D.fn (Fn.func 136) [] [], D.fn (Fn.func 136) [] [], D.fn (Fn.func 140) [] [], D.fn (Fn.func 140) [] [], D.fn (Fn.func 138) [] [], D.fn (Fn.func 142) [] [], D.fn (Fn.func 136) [] [], D.fn (Fn.func 139) [] [], D.fn (Fn.func 140) [] []]) 1 (D.fn (Fn.func 136) [] []) rfl, .inl, .inl, tT]
 cases byReg
 ·have c0 := @l_take_ok 0 dst
  have c1 := @l_num_ok 12 32 0 imm
  have c2 := @l_give_ok dst 0
  have c3 := @l_steps_ok ([(irD 1 0 0 0 0 0 0 0 0 dst 0 0 0), (irD 0 12 32 0 0 0 0 imm 0 0 0 0 0), (irD 2 0 0 0 0 0 0 0 0 dst 0 0 0)])
  exact (o37 (d := .lst .tight 13 [(irD 1 0 0 0 0 0 0 0 0 dst 0 0 0), (irD 0 12 32 0 0 0 0 imm 0 0 0 0 0), (irD 2 0 0 0 0 0 0 0 0 dst 0 0 0)]) (E1 ++ [.get tab_StepsL_0 2 (.int .i8 5) rfl, tT, .get tab_StepsL_0 3 (.int .i8 12) rfl, tF, .ret _ _ _ c0, .ret _ _ _ c1, .ret _ _ _ c2, .ret _ _ _ c3]) (by kernel_rfl)).to (by clear E1; (try simp only [IntKind.bits, and31, and63, and32, wrap_mod32, wrap_mod64] at *); simp [wk, wkL, wkO, stepsM, aluM, regOp, immOp, zeroImm, takeD, giveD, two, num, cmov, irD, ]; try ((try simp only [w_u64, w_i64, and32, IntKind.bits, Int.mul_one] at *); omega))
 have c4 := @l_take_ok 0 dst
 have c5 := @l_take_ok 1 src
 have c6 := @l_two_ok 5 32 0 1
 have c7 := @l_give_ok dst 0
 have c8 := @l_steps_ok ([(irD 1 0 0 0 0 0 0 0 0 dst 0 0 0), (irD 1 0 0 0 0 0 0 0 0 src 1 0 0), (irD 0 5 32 0 1 0 0 0 0 0 0 0 0), (irD 2 0 0 0 0 0 0 0 0 dst 0 0 0)])
 exact (o37 (d := .lst .tight 13 [(irD 1 0 0 0 0 0 0 0 0 dst 0 0 0), (irD 1 0 0 0 0 0 0 0 0 src 1 0 0), (irD 0 5 32 0 1 0 0 0 0 0 0 0 0), (irD 2 0 0 0 0 0 0 0 0 dst 0 0 0)]) (E1 ++ [.get tab_StepsL_0 2 (.int .i8 5) rfl, tT, .get tab_StepsL_0 3 (.int .i8 12) rfl, tT, .ret _ _ _ c4, .ret _ _ _ c5, .ret _ _ _ c6, .ret _ _ _ c7, .ret _ _ _ c8]) (by kernel_rfl)).to (by clear E1; (try simp only [IntKind.bits, and31, and63, and32, wrap_mod32, wrap_mod64] at *); simp [wk, wkL, wkO, stepsM, aluM, regOp, immOp, zeroImm, takeD, giveD, two, num, cmov, irD, ]; try ((try simp only [w_u64, w_i64, and32, IntKind.bits, Int.mul_one] at *); omega))
theorem does_0_1_64_ok : SpStepsL0 1 64 := by
 intro byReg dst src imm hi1 hi2
 let E1 : EL := [tT, .get ([D.fn (Fn.func 82) [] [], D.fn (Fn.func 83) [] [], D.fn (Fn.func 84) [] [], D.nilf, D.nilf, D.fn (Fn.func 85) [] [], D.fn (Fn.func 86) [] []]) 0 (D.fn (Fn.func 82) [] []) rfl, tT, .inl, tT, .get ([D.fn (Fn.func 136) [] [], D.fn (Fn.func 136) [] [], D.fn (Fn.func 137) [] [], D.fn (Fn.func 141) [] [], D.fn (Fn.func 136) [] [], D.fn (Fn.func 136) [] [], D.fn (Fn.func 140) [] [], D.fn (Fn.func 140) [] [], D.fn (Fn.func 138) [] [], D.fn (Fn.func 142) [] [], D.fn (Fn.func 136) [] [], D.fn (Fn.func 139) [] [], D.fn (Fn.func 140) [] []]) 1 (D.fn (Fn.func 136) [] []) rfl, .inl, .inl, tT]
 cases byReg
 ·have c0 := @l_take_ok 0 dst
  have c1 := @l_num_ok 12 64 0 imm
  have c2 := @l_give_ok dst 0
  have c3 := @l_steps_ok ([(irD 1 0 0 0 0 0 0 0 0 dst 0 0 0), (irD 0 12 64 0 0 0 0 imm 0 0 0 0 0), (irD 2 0 0 0 0 0 0 0 0 dst 0 0 0)])
  exact (o37 (d := .lst .tight 13 [(irD 1 0 0 0 0 0 0 0 0 dst 0 0 0), (irD 0 12 64 0 0 0 0 imm 0 0 0 0 0), (irD 2 0 0 0 0 0 0 0 0 dst 0 0 0)]) (E1 ++ [.get tab_StepsL_0 2 (.int .i8 5) rfl, tT, .get tab_StepsL_0 3 (.int .i8 12) rfl, tF, .ret _ _ _ c0, .ret _ _ _ c1, .ret _ _ _ c2, .ret _ _ _ c3]) (by kernel_rfl)).to (by clear E1; (try simp only [IntKind.bits, and31, and63, and32, wrap_mod32, wrap_mod64] at *); simp [wk, wkL, wkO, stepsM, aluM, regOp, immOp, zeroImm, takeD, giveD, two, num, cmov, irD, ]; try ((try simp only [w_u64, w_i64, and32, IntKind.bits, Int.mul_one] at *); omega))
 have c4 := @l_take_ok 0 dst
 have c5 := @l_take_ok 1 src
 have c6 := @l_two_ok 5 64 0 1
 have c7 := @l_give_ok dst 0
 have c8 := @l_steps_ok ([(irD 1 0 0 0 0 0 0 0 0 dst 0 0 0), (irD 1 0 0 0 0 0 0 0 0 src 1 0 0), (irD 0 5 64 0 1 0 0 0 0 0 0 0 0), (irD 2 0 0 0 0 0 0 0 0 dst 0 0 0)])
 exact (o37 (d := .lst .tight 13 [(irD 1 0 0 0 0 0 0 0 0 dst 0 0 0), (irD 1 0 0 0 0 0 0 0 0 src 1 0 0), (irD 0 5 64 0 1 0 0 0 0 0 0 0 0), (irD 2 0 0 0 0 0 0 0 0 dst 0 0 0)]) (E1 ++ [.get tab_StepsL_0 2 (.int .i8 5) rfl, tT, .get tab_StepsL_0 3 (.int .i8 12) rfl, tT, .ret _ _ _ c4, .ret _ _ _ c5, .ret _ _ _ c6, .ret _ _ _ c7, .ret _ _ _ c8]) (by kernel_rfl)).to (by clear E1; (try simp only [IntKind.bits, and31, and63, and32, wrap_mod32, wrap_mod64] at *); simp [wk, wkL, wkO, stepsM, aluM, regOp, immOp, zeroImm, takeD, giveD, two, num, cmov, irD, ]; try ((try simp only [w_u64, w_i64, and32, IntKind.bits, Int.mul_one] at *); omega))
theorem does_0_2_32_ok : SpStepsL0 2 32 := by
 intro byReg dst src imm hi1 hi2
 have c0 := @l_num_ok 1 32 1 imm
 let E1 : EL := [tT, .get ([D.fn (Fn.func 82) [] [], D.fn (Fn.func 83) [] [], D.fn (Fn.func 84) [] [], D.nilf, D.nilf, D.fn (Fn.func 85) [] [], D.fn (Fn.func 86) [] []]) 0 (D.fn (Fn.func 82) [] []) rfl, tT, .inl, tT, .get ([D.fn (Fn.func 136) [] [], D.fn (Fn.func 136) [] [], D.fn (Fn.func 137) [] [], D.fn (Fn.func 141) [] [], D.fn (Fn.func 136) [] [], D.fn (Fn.func 136) [] [], D.fn (Fn.func 140) [] [], D.fn (Fn.func 140) [] [], D.fn (Fn.func 138) [] [], D.fn (Fn.func 142) [] [], D.fn (Fn.func 136) [] [], D.fn (Fn.func 139) [] [], D.fn (Fn.func 140) [] []]) 2 (D.fn (Fn.func 137) [] []) rfl, .inl, .ret _ _ _ c0]
 cases byReg
 ·have c1 := @l_take_ok 0 dst
  have c2 := @l_two_ok 16 32 0 1
  have c3 := @l_give_ok dst 0
  have c4 := @l_steps_ok ([(irD 1 0 0 0 0 0 0 0 0 dst 0 0 0), (irD 0 1 32 1 0 0 0 imm 0 0 0 0 0), (irD 0 16 32 0 1 0 0 0 0 0 0 0 0), (irD 2 0 0 0 0 0 0 0 0 dst 0 0 0)])
  exact (o37 (d := .lst .tight 13 [(irD 1 0 0 0 0 0 0 0 0 dst 0 0 0), (irD 0 1 32 1 0 0 0 imm 0 0 0 0 0), (irD 0 16 32 0 1 0 0 0 0 0 0 0 0), (irD 2 0 0 0 0 0 0 0 0 dst 0 0 0)]) (E1 ++ [tF, .ret _ _ _ c1, .ret _ _ _ c2, .ret _ _ _ c3, .ret _ _ _ c4]) (by kernel_rfl)).to (by clear E1; (try simp only [IntKind.bits, and31, and63, and32, wrap_mod32, wrap_mod64] at *); simp [wk, wkL, wkO, stepsM, aluM, regOp, immOp, zeroImm, takeD, giveD, two, num, cmov, irD, ]; try ((try simp only [w_u64, w_i64, and32, IntKind.bits, Int.mul_one] at *); omega))
 have c5 := @l_take_ok 1 src
 have c6 := @l_take_ok 0 dst
 have c7 := @l_two_ok 16 32 0 1
 have c8 := @l_give_ok dst 0
 have c9 := @l_steps_ok ([(irD 1 0 0 0 0 0 0 0 0 dst 0 0 0), (irD 1 0 0 0 0 0 0 0 0 src 1 0 0), (irD 0 16 32 0 1 0 0 0 0 0 0 0 0), (irD 2 0 0 0 0 0 0 0 0 dst 0 0 0)])
 exact (o37 (d := .lst .tight 13 [(irD 1 0 0 0 0 0 0 0 0 dst 0 0 0), (irD 1 0 0 0 0 0 0 0 0 src 1 0 0), (irD 0 16 32 0 1 0 0 0 0 0 0 0 0), (irD 2 0 0 0 0 0 0 0 0 dst 0 0 0)]) (E1 ++ [tT, .ret _ _ _ c5, .ret _ _ _ c6, .ret _ _ _ c7, .ret _ _ _ c8, .ret _ _ _ c9]) (by kernel_rfl)).to (by clear E1; (try simp only [IntKind.bits, and31, and63, and32, wrap_mod32, wrap_mod64] at *); simp [wk, wkL, wkO, stepsM, aluM, regOp, immOp, zeroImm, takeD, giveD, two, num, cmov, irD, ]; try ((try simp only [w_u64, w_i64, and32, IntKind.bits, Int.mul_one] at *); omega))
theorem does_0_2_64_ok : SpStepsL0 2 64 := by
 intro byReg dst src imm hi1 hi2
 have c0 := @l_num_ok 1 64 1 imm
 let E1 : EL := [tT, .get ([D.fn (Fn.func 82) [] [], D.fn (Fn.func 83) [] [], D.fn (Fn.func 84) [] [], D.nilf, D.nilf, D.fn (Fn.func 85) [] [], D.fn (Fn.func 86) [] []]) 0 (D.fn (Fn.func 82) [] []) rfl, tT, .inl, tT, .get ([D.fn (Fn.func 136) [] [], D.fn (Fn.func 136) [] [], D.fn (Fn.func 137) [] [], D.fn (Fn.func 141) [] [], D.fn (Fn.func 136) [] [], D.fn (Fn.func 136) [] [], D.fn (Fn.func 140) [] [], D.fn (Fn.func 140) [] [], D.fn (Fn.func 138) [] [], D.fn (Fn.func 142) [] [], D.fn (Fn.func 136) [] [], D.fn (Fn.func 139) [] [], D.fn (Fn.func 140) [] []]) 2 (D.fn (Fn.func 137) [] []) rfl, .inl, .ret _ _ _ c0]
 cases byReg
 ·have c1 := @l_take_ok 0 dst
  have c2 := @l_two_ok 16 64 0 1
  have c3 := @l_give_ok dst 0
  have c4 := @l_steps_ok ([(irD 1 0 0 0 0 0 0 0 0 dst 0 0 0), (irD 0 1 64 1 0 0 0 imm 0 0 0 0 0), (irD 0 16 64 0 1 0 0 0 0 0 0 0 0), (irD 2 0 0 0 0 0 0 0 0 dst 0 0 0)])
  exact (o37 (d := .lst .tight 13 [(irD 1 0 0 0 0 0 0 0 0 dst 0 0 0), (irD 0 1 64 1 0 0 0 imm 0 0 0 0 0), (irD 0 16 64 0 1 0 0 0 0 0 0 0 0), (irD 2 0 0 0 0 0 0 0 0 dst 0 0 0)]) (E1 ++ [tF, .ret _ _ _ c1, .ret _ _ _ c2, .ret _ _ _ c3, .ret _ _ _ c4]) (by kernel_rfl)).to (by clear E1; (try simp only [IntKind.bits, and31, and63, and32, wrap_mod32, wrap_mod64] at *); simp [wk, wkL, wkO, stepsM, aluM, regOp, immOp, zeroImm, takeD, giveD, two, num, cmov, irD, ]; try ((try simp only [w_u64, w_i64, and32, IntKind.bits, Int.mul_one] at *); omega))
 have c5 := @l_take_ok 1 src
 have c6 := @l_take_ok 0 dst
 have c7 := @l_two_ok 16 64 0 1
 have c8 := @l_give_ok dst 0
 have c9 := @l_steps_ok ([(irD 1 0 0 0 0 0 0 0 0 dst 0 0 0), (irD 1 0 0 0 0 0 0 0 0 src 1 0 0), (irD 0 16 64 0 1 0 0 0 0 0 0 0 0), (irD 2 0 0 0 0 0 0 0 0 dst 0 0 0)])
 exact (o37 (d := .lst .tight 13 [(irD 1 0 0 0 0 0 0 0 0 dst 0 0 0), (irD 1 0 0 0 0 0 0 0 0 src 1 0 0), (irD 0 16 64 0 1 0 0 0 0 0 0 0 0), (irD 2 0 0 0 0 0 0 0 0 dst 0 0 0)]) (E1 ++ [tT, .ret _ _ _ c5, .ret _ _ _ c6, .ret _ _ _ c7, .ret _ _ _ c8, .ret _ _ _ c9]) (by kernel_rfl)).to (by clear E1; (try simp only [IntKind.bits, and31, and63, and32, wrap_mod32, wrap_mod64] at *); simp [wk, wkL, wkO, stepsM, aluM, regOp, immOp, zeroImm, takeD, giveD, two, num, cmov, irD, ]; try ((try simp only [w_u64, w_i64, and32, IntKind.bits, Int.mul_one] at *); omega))
theorem does_0_3_32_ok : SpStepsL0 3 32 := by
 intro byReg dst src imm hi1 hi2
 let E1 : EL := [tT, .get ([D.fn (Fn.func 82) [] [], D.fn (Fn.func 83) [] [], D.fn (Fn.func 84) [] [], D.nilf, D.nilf, D.fn (Fn.func 85) [] [], D.fn (Fn.func 86) [] []]) 0 (D.fn (Fn.func 82) [] []) rfl, tT, .inl, tT, .get ([D.fn (Fn.func 136) [] [], D.fn (Fn.func 136) [] [], D.fn (Fn.func 137) [] [], D.fn (Fn.func 141) [] [], D.fn (Fn.func 136) [] [], D.fn (Fn.func 136) [] [], D.fn (Fn.func 140) [] [], D.fn (Fn.func 140) [] [], D.fn (Fn.func 138) [] [], D.fn (Fn.func 142) [] [], D.fn (Fn.func 136) [] [], D.fn (Fn.func 139) [] [], D.fn (Fn.func 140) [] []]) 3 (D.fn (Fn.func 141) [] []) rfl, .inl, .inl]
 cases byReg
 ·by_cases h0 : IntKind.wrap IntKind.u64 (IntKind.wrap IntKind.u64 imm * 4294967296) = 0
  ·have c1 := @l_num_ok 1 32 0 0
   have c2 := @l_give_ok dst 0
   have c3 := @l_steps_ok ([(irD 0 1 32 0 0 0 0 0 0 0 0 0 0), (irD 2 0 0 0 0 0 0 0 0 dst 0 0 0)])
   exact (o37 (d := .lst .tight 13 [(irD 0 1 32 0 0 0 0 0 0 0 0 0 0), (irD 2 0 0 0 0 0 0 0 0 dst 0 0 0)]) (E1 ++ List.replicate 11 tT ++ [tC (eqI 0 true h0), .ret _ _ _ c1, .ret _ _ _ c2, .ret _ _ _ c3]) (by kernel_rfl)).to (by clear E1; (try simp only [IntKind.bits, and31, and63, and32, wrap_mod32, wrap_mod64] at *); simp [wk, wkL, wkO, stepsM, aluM, regOp, immOp, zeroImm, takeD, giveD, two, num, cmov, irD, h0]; try ((try simp only [w_u64, w_i64, and32, IntKind.bits, Int.mul_one] at *); omega))
  have c4 := @l_num_ok 1 32 11 0
  have c5 := @l_give_ok dst 0
  have c6 := @l_take_ok 0 dst
  have c7 := @l_steps_ok ([(irD 1 0 0 0 0 0 0 0 0 dst 0 0 0)])
  have c8 := @l_num_ok 1 32 1 imm
  have c9 := @l_num_ok 1 32 2 0
  have c10 := @l_one_ok 24 32 1
  exact (o37 (d := .lst (.fresh 13) 13 [(irD 1 0 0 0 0 0 0 0 0 dst 0 0 0), (irD 0 1 32 1 0 0 0 imm 0 0 0 0 0), (irD 0 1 32 2 0 0 0 0 0 0 0 0 0), (irD 0 24 32 1 0 0 0 0 0 0 0 0 0), (irD 2 0 0 0 0 0 0 0 0 dst 0 0 0)]) (E1 ++ List.replicate 11 tT ++ [tC (neOf h0), .ret _ _ _ c4, .inl, .ret _ _ _ c5, .ret _ _ _ c6, .ret _ _ _ c7, tT, .ret _ _ _ c8, .ret _ _ _ c9, .ret _ _ _ c10, .len 5 2147483648 (by decide)]) (by kernel_rfl)).to (by clear E1; (try simp only [IntKind.bits, and31, and63, and32, wrap_mod32, wrap_mod64] at *); simp [wk, wkL, wkO, stepsM, aluM, regOp, immOp, zeroImm, takeD, giveD, two, num, cmov, irD, h0]; try ((try simp only [w_u64, w_i64, and32, IntKind.bits, Int.mul_one] at *); omega))
 have c11 := @l_num_ok 1 32 11 0
 have c12 := @l_give_ok dst 0
 have c13 := @l_take_ok 0 dst
 have c14 := @l_steps_ok ([(irD 1 0 0 0 0 0 0 0 0 dst 0 0 0)])
 have c15 := @l_take_ok 1 src
 have c16 := @l_num_ok 1 32 2 0
 have c17 := @l_num_ok 1 32 11 1
 have c18 := @l_choose_ok 32 1
 have c19 := @l_one_ok 24 32 1
 have c20 := @l_take_ok 1 src
 have c21 := @l_choose_ok 32 0
 exact (o37 (d := .lst (.fresh 13) 13 [(irD 1 0 0 0 0 0 0 0 0 dst 0 0 0), (irD 1 0 0 0 0 0 0 0 0 src 1 0 0), (irD 0 1 32 2 0 0 0 0 0 0 0 0 0), (irD 0 1 32 11 0 0 0 1 0 0 0 0 0), (irD 0 8 32 1 1 0 0 0 0 0 0 0 0), (irD 0 25 32 1 11 0 0 0 4 0 0 0 0), (irD 0 24 32 1 0 0 0 0 0 0 0 0 0), (irD 1 0 0 0 0 0 0 0 0 src 1 0 0), (irD 0 1 32 11 0 0 0 0 0 0 0 0 0), (irD 0 8 32 1 1 0 0 0 0 0 0 0 0), (irD 0 25 32 0 11 0 0 0 4 0 0 0 0), (irD 2 0 0 0 0 0 0 0 0 dst 0 0 0)]) (E1 ++ List.replicate 11 tF ++ [.ret _ _ _ c11, .inl, .ret _ _ _ c12, .ret _ _ _ c13, .ret _ _ _ c14, tF, .ret _ _ _ c15, .ret _ _ _ c16, .ret _ _ _ c17, .len 4 2147483648 (by decide), .ret _ _ _ c18, .len 6 2147483648 (by decide), .ret _ _ _ c19, .ret _ _ _ c20, .len 9 2147483648 (by decide), .ret _ _ _ c21, .len 11 2147483648 (by decide), .len 12 2147483648 (by decide)]) (by kernel_rfl)).to (by clear E1; (try simp only [IntKind.bits, and31, and63, and32, wrap_mod32, wrap_mod64] at *); simp [wk, wkL, wkO, stepsM, aluM, regOp, immOp, zeroImm, takeD, giveD, two, num, cmov, irD, ]; try ((try simp only [w_u64, w_i64, and32, IntKind.bits, Int.mul_one] at *); omega))
theorem does_0_3_64_ok : SpStepsL0 3 64 := by
 intro byReg dst src imm hi1 hi2
 let E1 : EL := [tT, .get ([D.fn (Fn.func 82) [] [], D.fn (Fn.func 83) [] [], D.fn (Fn.func 84) [] [], D.nilf, D.nilf, D.fn (Fn.func 85) [] [], D.fn (Fn.func 86) [] []]) 0 (D.fn (Fn.func 82) [] []) rfl, tT, .inl, tT, .get ([D.fn (Fn.func 136) [] [], D.fn (Fn.func 136) [] [], D.fn (Fn.func 137) [] [], D.fn (Fn.func 141) [] [], D.fn (Fn.func 136) [] [], D.fn (Fn.func 136) [] [], D.fn (Fn.func 140) [] [], D.fn (Fn.func 140) [] [], D.fn (Fn.func 138) [] [], D.fn (Fn.func 142) [] [], D.fn (Fn.func 136) [] [], D.fn (Fn.func 139) [] [], D.fn (Fn.func 140) [] []]) 3 (D.fn (Fn.func 141) [] []) rfl, .inl, .inl]
 cases byReg
 ·by_cases h0 : IntKind.wrap IntKind.u64 (IntKind.wrap IntKind.u64 imm * 1) = 0
  ·have c1 := @l_num_ok 1 64 0 0
   have c2 := @l_give_ok dst 0
   have c3 := @l_steps_ok ([(irD 0 1 64 0 0 0 0 0 0 0 0 0 0), (irD 2 0 0 0 0 0 0 0 0 dst 0 0 0)])
   exact (o37 (d := .lst .tight 13 [(irD 0 1 64 0 0 0 0 0 0 0 0 0 0), (irD 2 0 0 0 0 0 0 0 0 dst 0 0 0)]) (E1 ++ List.replicate 11 tT ++ [tC (eqI 0 true h0), .ret _ _ _ c1, .ret _ _ _ c2, .ret _ _ _ c3]) (by kernel_rfl)).to (by clear E1; (try simp only [IntKind.bits, and31, and63, and32, wrap_mod32, wrap_mod64] at *); simp [wk, wkL, wkO, stepsM, aluM, regOp, immOp, zeroImm, takeD, giveD, two, num, cmov, irD, h0]; try ((try simp only [w_u64, w_i64, and32, IntKind.bits, Int.mul_one] at *); omega))
  have c4 := @l_num_ok 1 32 11 0
  have c5 := @l_give_ok dst 0
  have c6 := @l_take_ok 0 dst
  have c7 := @l_steps_ok ([(irD 1 0 0 0 0 0 0 0 0 dst 0 0 0)])
  have c8 := @l_num_ok 1 64 1 imm
  have c9 := @l_num_ok 1 32 2 0
  have c10 := @l_one_ok 24 64 1
  exact (o37 (d := .lst (.fresh 13) 13 [(irD 1 0 0 0 0 0 0 0 0 dst 0 0 0), (irD 0 1 64 1 0 0 0 imm 0 0 0 0 0), (irD 0 1 32 2 0 0 0 0 0 0 0 0 0), (irD 0 24 64 1 0 0 0 0 0 0 0 0 0), (irD 2 0 0 0 0 0 0 0 0 dst 0 0 0)]) (E1 ++ List.replicate 11 tT ++ [tC (neOf h0), .ret _ _ _ c4, .inl, .ret _ _ _ c5, .ret _ _ _ c6, .ret _ _ _ c7, tT, .ret _ _ _ c8, .ret _ _ _ c9, .ret _ _ _ c10, .len 5 2147483648 (by decide)]) (by kernel_rfl)).to (by clear E1; (try simp only [IntKind.bits, and31, and63, and32, wrap_mod32, wrap_mod64] at *); simp [wk, wkL, wkO, stepsM, aluM, regOp, immOp, zeroImm, takeD, giveD, two, num, cmov, irD, h0]; try ((try simp only [w_u64, w_i64, and32, IntKind.bits, Int.mul_one] at *); omega))
 have c11 := @l_num_ok 1 32 11 0
 have c12 := @l_give_ok dst 0
 have c13 := @l_take_ok 0 dst
 have c14 := @l_steps_ok ([(irD 1 0 0 0 0 0 0 0 0 dst 0 0 0)])
 have c15 := @l_take_ok 1 src
 have c16 := @l_num_ok 1 32 2 0
 have c17 := @l_num_ok 1 32 11 1
 have c18 := @l_choose_ok 64 1
 have c19 := @l_one_ok 24 64 1
 have c20 := @l_take_ok 1 src
 have c21 := @l_choose_ok 64 0
 exact (o37 (d := .lst (.fresh 13) 13 [(irD 1 0 0 0 0 0 0 0 0 dst 0 0 0), (irD 1 0 0 0 0 0 0 0 0 src 1 0 0), (irD 0 1 32 2 0 0 0 0 0 0 0 0 0), (irD 0 1 32 11 0 0 0 1 0 0 0 0 0), (irD 0 8 64 1 1 0 0 0 0 0 0 0 0), (irD 0 25 64 1 11 0 0 0 4 0 0 0 0), (irD 0 24 64 1 0 0 0 0 0 0 0 0 0), (irD 1 0 0 0 0 0 0 0 0 src 1 0 0), (irD 0 1 32 11 0 0 0 0 0 0 0 0 0), (irD 0 8 64 1 1 0 0 0 0 0 0 0 0), (irD 0 25 64 0 11 0 0 0 4 0 0 0 0), (irD 2 0 0 0 0 0 0 0 0 dst 0 0 0)]) (E1 ++ List.replicate 11 tF ++ [.ret _ _ _ c11, .inl, .ret _ _ _ c12, .ret _ _ _ c13, .ret _ _ _ c14, tF, .ret _ _ _ c15, .ret _ _ _ c16, .ret _ _ _ c17, .len 4 2147483648 (by decide), .ret _ _ _ c18, .len 6 2147483648 (by decide), .ret _ _ _ c19, .ret _ _ _ c20, .len 9 2147483648 (by decide), .ret _ _ _ c21, .len 11 2147483648 (by decide), .len 12 2147483648 (by decide)]) (by kernel_rfl)).to (by clear E1; (try simp only [IntKind.bits, and31, and63, and32, wrap_mod32, wrap_mod64] at *); simp [wk, wkL, wkO, stepsM, aluM, regOp, immOp, zeroImm, takeD, giveD, two, num, cmov, irD, ]; try ((try simp only [w_u64, w_i64, and32, IntKind.bits, Int.mul_one] at *); omega))
theorem does_0_4_32_ok : SpStepsL0 4 32 := by
 intro byReg dst src imm hi1 hi2
 let E1 : EL := [tT, .get ([D.fn (Fn.func 82) [] [], D.fn (Fn.func 83) [] [], D.fn (Fn.func 84) [] [], D.nilf, D.nilf, D.fn (Fn.func 85) [] [], D.fn (Fn.func 86) [] []]) 0 (D.fn (Fn.func 82) [] []) rfl, tT, .inl, tT, .get ([D.fn (Fn.func 136) [] [], D.fn (Fn.func 136) [] [], D.fn (Fn.func 137) [] [], D.fn (Fn.func 141) [] [], D.fn (Fn.func 136) [] [], D.fn (Fn.func 136) [] [], D.fn (Fn.func 140) [] [], D.fn (Fn.func 140) [] [], D.fn (Fn.func 138) [] [], D.fn (Fn.func 142) [] [], D.fn (Fn.func 136) [] [], D.fn (Fn.func 139) [] [], D.fn (Fn.func 140) [] []]) 4 (D.fn (Fn.func 136) [] []) rfl, .inl, .inl, tT]
 cases byReg
 ·have c0 := @l_take_ok 0 dst
  have c1 := @l_num_ok 10 32 0 imm
  have c2 := @l_give_ok dst 0
  have c3 := @l_steps_ok ([(irD 1 0 0 0 0 0 0 0 0 dst 0 0 0), (irD 0 10 32 0 0 0 0 imm 0 0 0 0 0), (irD 2 0 0 0 0 0 0 0 0 dst 0 0 0)])
  exact (o37 (d := .lst .tight 13 [(irD 1 0 0 0 0 0 0 0 0 dst 0 0 0), (irD 0 10 32 0 0 0 0 imm 0 0 0 0 0), (irD 2 0 0 0 0 0 0 0 0 dst 0 0 0)]) (E1 ++ [.get tab_StepsL_0 8 (.int .i8 3) rfl, tT, .get tab_StepsL_0 9 (.int .i8 10) rfl, tF, .ret _ _ _ c0, .ret _ _ _ c1, .ret _ _ _ c2, .ret _ _ _ c3]) (by kernel_rfl)).to (by clear E1; (try simp only [IntKind.bits, and31, and63, and32, wrap_mod32, wrap_mod64] at *); simp [wk, wkL, wkO, stepsM, aluM, regOp, immOp, zeroImm, takeD, giveD, two, num, cmov, irD, ]; try ((try simp only [w_u64, w_i64, and32, IntKind.bits, Int.mul_one] at *); omega))
 have c4 := @l_take_ok 0 dst
 have c5 := @l_take_ok 1 src
 have c6 := @l_two_ok 3 32 0 1
 have c7 := @l_give_ok dst 0
 have c8 := @l_steps_ok ([(irD 1 0 0 0 0 0 0 0 0 dst 0 0 0), (irD 1 0 0 0 0 0 0 0 0 src 1 0 0), (irD 0 3 32 0 1 0 0 0 0 0 0 0 0), (irD 2 0 0 0 0 0 0 0 0 dst 0 0 0)])
 exact (o37 (d := .lst .tight 13 [(irD 1 0 0 0 0 0 0 0 0 dst 0 0 0), (irD 1 0 0 0 0 0 0 0 0 src 1 0 0), (irD 0 3 32 0 1 0 0 0 0 0 0 0 0), (irD 2 0 0 0 0 0 0 0 0 dst 0 0 0)]) (E1 ++ [.get tab_StepsL_0 8 (.int .i8 3) rfl, tT, .get tab_StepsL_0 9 (.int .i8 10) rfl, tT, .ret _ _ _ c4, .ret _ _ _ c5, .ret _ _ _ c6, .ret _ _ _ c7, .ret _ _ _ c8]) (by kernel_rfl)).to (by clear E1; (try simp only [IntKind.bits, and31, and63, and32, wrap_mod32, wrap_mod64] at *); simp [wk, wkL, wkO, stepsM, aluM, regOp, immOp, zeroImm, takeD, giveD, two, num, cmov, irD, ]; try ((try simp only [w_u64, w_i64, and32, IntKind.bits, Int.mul_one] at *); omega))
theorem does_0_4_64_ok : SpStepsL0 4 64 := by
 intro byReg dst src imm hi1 hi2
 let E1 : EL := [tT, .get ([D.fn (Fn.func 82) [] [], D.fn (Fn.func 83) [] [], D.fn (Fn.func 84) [] [], D.nilf, D.nilf, D.fn (Fn.func 85) [] [], D.fn (Fn.func 86) [] []]) 0 (D.fn (Fn.func 82) [] []) rfl, tT, .inl, tT, .get ([D.fn (Fn.func 136) [] [], D.fn (Fn.func 136) [] [], D.fn (Fn.func 137) [] [], D.fn (Fn.func 141) [] [], D.fn (Fn.func 136) [] [], D.fn (Fn.func 136) [] [], D.fn (Fn.func 140) [] [], D.fn (Fn.func 140) [] [], D.fn (Fn.func 138) [] [], D.fn (Fn.func 142) [] [], D.fn (Fn.func 136) [] [], D.fn (Fn.func 139) [] [], D.fn (Fn.func 140) [] []]) 4 (D.fn (Fn.func 136) [] []) rfl, .inl, .inl, tT]
 cases byReg
 ·have c0 := @l_take_ok 0 dst
  have c1 := @l_num_ok 10 64 0 imm
  have c2 := @l_give_ok dst 0
  have c3 := @l_steps_ok ([(irD 1 0 0 0 0 0 0 0 0 dst 0 0 0), (irD 0 10 64 0 0 0 0 imm 0 0 0 0 0), (irD 2 0 0 0 0 0 0 0 0 dst 0 0 0)])
  exact (o37 (d := .lst .tight 13 [(irD 1 0 0 0 0 0 0 0 0 dst 0 0 0), (irD 0 10 64 0 0 0 0 imm 0 0 0 0 0), (irD 2 0 0 0 0 0 0 0 0 dst 0 0 0)]) (E1 ++ [.get tab_StepsL_0 8 (.int .i8 3) rfl, tT, .get tab_StepsL_0 9 (.int .i8 10) rfl, tF, .ret _ _ _ c0, .ret _ _ _ c1, .ret _ _ _ c2, .ret _ _ _ c3]) (by kernel_rfl)).to (by clear E1; (try simp only [IntKind.bits, and31, and63, and32, wrap_mod32, wrap_mod64] at *); simp [wk, wkL, wkO, stepsM, aluM, regOp, immOp, zeroImm, takeD, giveD, two, num, cmov, irD, ]; try ((try simp only [w_u64, w_i64, and32, IntKind.bits, Int.mul_one] at *); omega))
 have c4 := @l_take_ok 0 dst
 have c5 := @l_take_ok 1 src
 have c6 := @l_two_ok 3 64 0 1
 have c7 := @l_give_ok dst 0
 have c8 := @l_steps_ok ([(irD 1 0 0 0 0 0 0 0 0 dst 0 0 0), (irD 1 0 0 0 0 0 0 0 0 src 1 0 0), (irD 0 3 64 0 1 0 0 0 0 0 0 0 0), (irD 2 0 0 0 0 0 0 0 0 dst 0 0 0)])
 exact (o37 (d := .lst .tight 13 [(irD 1 0 0 0 0 0 0 0 0 dst 0 0 0), (irD 1 0 0 0 0 0 0 0 0 src 1 0 0), (irD 0 3 64 0 1 0 0 0 0 0 0 0 0), (irD 2 0 0 0 0 0 0 0 0 dst 0 0 0)]) (E1 ++ [.get tab_StepsL_0 8 (.int .i8 3) rfl, tT, .get tab_StepsL_0 9 (.int .i8 10) rfl, tT, .ret _ _ _ c4, .ret _ _ _ c5, .ret _ _ _ c6, .ret _ _ _ c7, .ret _ _ _ c8]) (by kernel_rfl)).to (by clear E1; (try simp only [IntKind.bits, and31, and63, and32, wrap_mod32, wrap_mod64] at *); simp [wk, wkL, wkO, stepsM, aluM, regOp, immOp, zeroImm, takeD, giveD, two, num, cmov, irD, ]; try ((try simp only [w_u64, w_i64, and32, IntKind.bits, Int.mul_one] at *); omega))
theorem does_0_5_32_ok : SpStepsL0 5 32 := by
 intro byReg dst src imm hi1 hi2
 let E1 : EL := [tT, .get ([D.fn (Fn.func 82) [] [], D.fn (Fn.func 83) [] [], D.fn (Fn.func 84) [] [], D.nilf, D.nilf, D.fn (Fn.func 85) [] [], D.fn (Fn.func 86) [] []]) 0 (D.fn (Fn.func 82) [] []) rfl, tT, .inl, tT, .get ([D.fn (Fn.func 136) [] [], D.fn (Fn.func 136) [] [], D.fn (Fn.func 137) [] [], D.fn (Fn.func 141) [] [], D.fn (Fn.func 136) [] [], D.fn (Fn.func 136) [] [], D.fn (Fn.func 140) [] [], D.fn (Fn.func 140) [] [], D.fn (Fn.func 138) [] [], D.fn (Fn.func 142) [] [], D.fn (Fn.func 136) [] [], D.fn (Fn.func 139) [] [], D.fn (Fn.func 140) [] []]) 5 (D.fn (Fn.func 136) [] []) rfl, .inl, .inl, tT]
 cases byReg
 ·have c0 := @l_take_ok 0 dst
  have c1 := @l_num_ok 11 32 0 imm
  have c2 := @l_give_ok dst 0
  have c3 := @l_steps_ok ([(irD 1 0 0 0 0 0 0 0 0 dst 0 0 0), (irD 0 11 32 0 0 0 0 imm 0 0 0 0 0), (irD 2 0 0 0 0 0 0 0 0 dst 0 0 0)])
  exact (o37 (d := .lst .tight 13 [(irD 1 0 0 0 0 0 0 0 0 dst 0 0 0), (irD 0 11 32 0 0 0 0 imm 0 0 0 0 0), (irD 2 0 0 0 0 0 0 0 0 dst 0 0 0)]) (E1 ++ [.get tab_StepsL_0 10 (.int .i8 4) rfl, tT, .get tab_StepsL_0 11 (.int .i8 11) rfl, tF, .ret _ _ _ c0, .ret _ _ _ c1, .ret _ _ _ c2, .ret _ _ _ c3]) (by kernel_rfl)).to (by clear E1; (try simp only [IntKind.bits, and31, and63, and32, wrap_mod32, wrap_mod64] at *); simp [wk, wkL, wkO, stepsM, aluM, regOp, immOp, zeroImm, takeD, giveD, two, num, cmov, irD, ]; try ((try simp only [w_u64, w_i64, and32, IntKind.bits, Int.mul_one] at *); omega))
 have c4 := @l_take_ok 0 dst
 have c5 := @l_take_ok 1 src
 have c6 := @l_two_ok 4 32 0 1
 have c7 := @l_give_ok dst 0
 have c8 := @l_steps_ok ([(irD 1 0 0 0 0 0 0 0 0 dst 0 0 0), (irD 1 0 0 0 0 0 0 0 0 src 1 0 0), (irD 0 4 32 0 1 0 0 0 0 0 0 0 0), (irD 2 0 0 0 0 0 0 0 0 dst 0 0 0)])
 exact (o37 (d := .lst .tight 13 [(irD 1 0 0 0 0 0 0 0 0 dst 0 0 0), (irD 1 0 0 0 0 0 0 0 0 src 1 0 0), (irD 0 4 32 0 1 0 0 0 0 0 0 0 0), (irD 2 0 0 0 0 0 0 0 0 dst 0 0 0)]) (E1 ++ [.get tab_StepsL_0 10 (.int .i8 4) rfl, tT, .get tab_StepsL_0 11 (.int .i8 11) rfl, tT, .ret _ _ _ c4, .ret _ _ _ c5, .ret _ _ _ c6, .ret _ _ _ c7, .ret _ _ _ c8]) (by kernel_rfl)).to (by clear E1; (try simp only [IntKind.bits, and31, and63, and32, wrap_mod32, wrap_mod64] at *); simp [wk, wkL, wkO, stepsM, aluM, regOp, immOp, zeroImm, takeD, giveD, two, num, cmov, irD, ]; try ((try simp only [w_u64, w_i64, and32, IntKind.bits, Int.mul_one] at *); omega))
theorem does_0_5_64_ok : SpStepsL0 5 64 := by
 intro byReg dst src imm hi1 hi2
 let E1 : EL := [tT, .get ([D.fn (Fn.func 82) [] [], D.fn (Fn.func 83) [] [], D.fn (Fn.func 84) [] [], D.nilf, D.nilf, D.fn (Fn.func 85) [] [], D.fn (Fn.func 86) [] []]) 0 (D.fn (Fn.func 82) [] []) rfl, tT, .inl, tT, .get ([D.fn (Fn.func 136) [] [], D.fn (Fn.func 136) [] [], D.fn (Fn.func 137) [] [], D.fn (Fn.func 141) [] [], D.fn (Fn.func 136) [] [], D.fn (Fn.func 136) [] [], D.fn (Fn.func 140) [] [], D.fn (Fn.func 140) [] [], D.fn (Fn.func 138) [] [], D.fn (Fn.func 142) [] [], D.fn (Fn.func 136) [] [], D.fn (Fn.func 139) [] [], D.fn (Fn.func 140) [] []]) 5 (D.fn (Fn.func 136) [] []) rfl, .inl, .inl, tT]
 cases byReg
 ·have c0 := @l_take_ok 0 dst
  have c1 := @l_num_ok 11 64 0 imm
  have c2 := @l_give_ok dst 0
  have c3 := @l_steps_ok ([(irD 1 0 0 0 0 0 0 0 0 dst 0 0 0), (irD 0 11 64 0 0 0 0 imm 0 0 0 0 0), (irD 2 0 0 0 0 0 0 0 0 dst 0 0 0)])
  exact (o37 (d := .lst .tight 13 [(irD 1 0 0 0 0 0 0 0 0 dst 0 0 0), (irD 0 11 64 0 0 0 0 imm 0 0 0 0 0), (irD 2 0 0 0 0 0 0 0 0 dst 0 0 0)]) (E1 ++ [.get tab_StepsL_0 10 (.int .i8 4) rfl, tT, .get tab_StepsL_0 11 (.int .i8 11) rfl, tF, .ret _ _ _ c0, .ret _ _ _ c1, .ret _ _ _ c2, .ret _ _ _ c3]) (by kernel_rfl)).to (by clear E1; (try simp only [IntKind.bits, and31, and63, and32, wrap_mod32, wrap_mod64] at *); simp [wk, wkL, wkO, stepsM, aluM, regOp, immOp, zeroImm, takeD, giveD, two, num, cmov, irD, ]; try ((try simp only [w_u64, w_i64, and32, IntKind.bits, Int.mul_one] at *); omega))
 have c4 := @l_take_ok 0 dst
 have c5 := @l_take_ok 1 src
 have c6 := @l_two_ok 4 64 0 1
 have c7 := @l_give_ok dst 0
 have c8 := @l_steps_ok ([(irD 1 0 0 0 0 0 0 0 0 dst 0 0 0), (irD 1 0 0 0 0 0 0 0 0 src 1 0 0), (irD 0 4 64 0 1 0 0 0 0 0 0 0 0), (irD 2 0 0 0 0 0 0 0 0 dst 0 0 0)])
 exact (o37 (d := .lst .tight 13 [(irD 1 0 0 0 0 0 0 0 0 dst 0 0 0), (irD 1 0 0 0 0 0 0 0 0 src 1 0 0), (irD 0 4 64 0 1 0 0 0 0 0 0 0 0), (irD 2 0 0 0 0 0 0 0 0 dst 0 0 0)]) (E1 ++ [.get tab_StepsL_0 10 (.int .i8 4) rfl, tT, .get tab_StepsL_0 11 (.int .i8 11) rfl, tT, .ret _ _ _ c4, .ret _ _ _ c5, .ret _ _ _ c6, .ret _ _ _ c7, .ret _ _ _ c8]) (by kernel_rfl)).to (by clear E1; (try simp only [IntKind.bits, and31, and63, and32, wrap_mod32, wrap_mod64] at *); simp [wk, wkL, wkO, stepsM, aluM, regOp, immOp, zeroImm, takeD, giveD, two, num, cmov, irD, ]; try ((try simp only [w_u64, w_i64, and32, IntKind.bits, Int.mul_one] at *); omega))
theorem does_0_6_32_ok : SpStepsL0 6 32 := by
 intro byReg dst src imm hi1 hi2
 let E1 : EL := [tT, .get ([D.fn (Fn.func 82) [] [], D.fn (Fn.func 83) [] [], D.fn (Fn.func 84) [] [], D.nilf, D.nilf, D.fn (Fn.func 85) [] [], D.fn (Fn.func 86) [] []]) 0 (D.fn (Fn.func 82) [] []) rfl, tT, .inl, tT, .get ([D.fn (Fn.func 136) [] [], D.fn (Fn.func 136) [] [], D.fn (Fn.func 137) [] [], D.fn (Fn.func 141) [] [], D.fn (Fn.func 136) [] [], D.fn (Fn.func 136) [] [], D.fn (Fn.func 140) [] [], D.fn (Fn.func 140) [] [], D.fn (Fn.func 138) [] [], D.fn (Fn.func 142) [] [], D.fn (Fn.func 136) [] [], D.fn (Fn.func 139) [] [], D.fn (Fn.func 140) [] []]) 6 (D.fn (Fn.func 140) [] []) rfl, .inl, .inl, tT]
 cases byReg
 ·have c0 := @l_take_ok 0 dst
  have c1 := @l_num_ok 17 32 0 (IntKind.wrap IntKind.i64 (↑(BitVec.toNat (BitVec.ofInt (64 : Nat) imm &&& BitVec.ofInt (64 : Nat) 31)) : Int))
  have c2 := @l_give_ok dst 0
  have c3 := @l_steps_ok ([(irD 1 0 0 0 0 0 0 0 0 dst 0 0 0), (irD 0 17 32 0 0 0 0 (IntKind.wrap IntKind.i64 (↑(BitVec.toNat (BitVec.ofInt (64 : Nat) imm &&& BitVec.ofInt (64 : Nat) 31)) : Int)) 0 0 0 0 0), (irD 2 0 0 0 0 0 0 0 0 dst 0 0 0)])
  exact (o37 (d := .lst .tight 13 [(irD 1 0 0 0 0 0 0 0 0 dst 0 0 0), (irD 0 17 32 0 0 0 0 (IntKind.wrap IntKind.i64 (↑(BitVec.toNat (BitVec.ofInt (64 : Nat) imm &&& BitVec.ofInt (64 : Nat) 31)) : Int)) 0 0 0 0 0), (irD 2 0 0 0 0 0 0 0 0 dst 0 0 0)]) (E1 ++ [.get tab_StepsL_0 12 (.int .i8 20) rfl, tT, .get tab_StepsL_0 13 (.int .i8 17) rfl, tF, .ret _ _ _ c0, .ret _ _ _ c1, .ret _ _ _ c2, .ret _ _ _ c3]) (by kernel_rfl)).to (by clear E1; (try simp only [IntKind.bits, and31, and63, and32, wrap_mod32, wrap_mod64] at *); simp [wk, wkL, wkO, stepsM, aluM, regOp, immOp, zeroImm, takeD, giveD, two, num, cmov, irD, ]; try ((try simp only [w_u64, w_i64, and32, IntKind.bits, Int.mul_one] at *); omega))
 have c4 := @l_take_ok 0 dst
 have c5 := @l_take_ok 1 src
 have c6 := @l_one_ok 20 32 0
 have c7 := @l_give_ok dst 0
 have c8 := @l_steps_ok ([(irD 1 0 0 0 0 0 0 0 0 dst 0 0 0), (irD 1 0 0 0 0 0 0 0 0 src 1 0 0), (irD 0 20 32 0 0 0 0 0 0 0 0 0 0), (irD 2 0 0 0 0 0 0 0 0 dst 0 0 0)])
 exact (o37 (d := .lst .tight 13 [(irD 1 0 0 0 0 0 0 0 0 dst 0 0 0), (irD 1 0 0 0 0 0 0 0 0 src 1 0 0), (irD 0 20 32 0 0 0 0 0 0 0 0 0 0), (irD 2 0 0 0 0 0 0 0 0 dst 0 0 0)]) (E1 ++ [.get tab_StepsL_0 12 (.int .i8 20) rfl, tT, .get tab_StepsL_0 13 (.int .i8 17) rfl, tT, .ret _ _ _ c4, .ret _ _ _ c5, .ret _ _ _ c6, .ret _ _ _ c7, .ret _ _ _ c8]) (by kernel_rfl)).to (by clear E1; (try simp only [IntKind.bits, and31, and63, and32, wrap_mod32, wrap_mod64] at *); simp [wk, wkL, wkO, stepsM, aluM, regOp, immOp, zeroImm, takeD, giveD, two, num, cmov, irD, ]; try ((try simp only [w_u64, w_i64, and32, IntKind.bits, Int.mul_one] at *); omega))
theorem does_0_6_64_ok : SpStepsL0 6 64 := by
 intro byReg dst src imm hi1 hi2
 let E1 : EL := [tT, .get ([D.fn (Fn.func 82) [] [], D.fn (Fn.func 83) [] [], D.fn (Fn.func 84) [] [], D.nilf, D.nilf, D.fn (Fn.func 85) [] [], D.fn (Fn.func 86) [] []]) 0 (D.fn (Fn.func 82) [] []) rfl, tT, .inl, tT, .get ([D.fn (Fn.func 136) [] [], D.fn (Fn.func 136) [] [], D.fn (Fn.func 137) [] [], D.fn (Fn.func 141) [] [], D.fn (Fn.func 136) [] [], D.fn (Fn.func 136) [] [], D.fn (Fn.func 140) [] [], D.fn (Fn.func 140) [] [], D.fn (Fn.func 138) [] [], D.fn (Fn.func 142) [] [], D.fn (Fn.func 136) [] [], D.fn (Fn.func 139) [] [], D.fn (Fn.func 140) [] []]) 6 (D.fn (Fn.func 140) [] []) rfl, .inl, .inl, tT]
 cases byReg
 ·have c0 := @l_take_ok 0 dst
  have c1 := @l_num_ok 17 64 0 (IntKind.wrap IntKind.i64 (↑(BitVec.toNat (BitVec.ofInt (64 : Nat) imm &&& BitVec.ofInt (64 : Nat) 63)) : Int))
  have c2 := @l_give_ok dst 0
  have c3 := @l_steps_ok ([(irD 1 0 0 0 0 0 0 0 0 dst 0 0 0), (irD 0 17 64 0 0 0 0 (IntKind.wrap IntKind.i64 (↑(BitVec.toNat (BitVec.ofInt (64 : Nat) imm &&& BitVec.ofInt (64 : Nat) 63)) : Int)) 0 0 0 0 0), (irD 2 0 0 0 0 0 0 0 0 dst 0 0 0)])
  exact (o37 (d := .lst .tight 13 [(irD 1 0 0 0 0 0 0 0 0 dst 0 0 0), (irD 0 17 64 0 0 0 0 (IntKind.wrap IntKind.i64 (↑(BitVec.toNat (BitVec.ofInt (64 : Nat) imm &&& BitVec.ofInt (64 : Nat) 63)) : Int)) 0 0 0 0 0), (irD 2 0 0 0 0 0 0 0 0 dst 0 0 0)]) (E1 ++ [.get tab_StepsL_0 12 (.int .i8 20) rfl, tT, .get tab_StepsL_0 13 (.int .i8 17) rfl, tF, .ret _ _ _ c0, .ret _ _ _ c1, .ret _ _ _ c2, .ret _ _ _ c3]) (by kernel_rfl)).to (by clear E1; (try simp only [IntKind.bits, and31, and63, and32, wrap_mod32, wrap_mod64] at *); simp [wk, wkL, wkO, stepsM, aluM, regOp, immOp, zeroImm, takeD, giveD, two, num, cmov, irD, ]; try ((try simp only [w_u64, w_i64, and32, IntKind.bits, Int.mul_one] at *); omega))
 have c4 := @l_take_ok 0 dst
 have c5 := @l_take_ok 1 src
 have c6 := @l_one_ok 20 64 0
 have c7 := @l_give_ok dst 0
 have c8 := @l_steps_ok ([(irD 1 0 0 0 0 0 0 0 0 dst 0 0 0), (irD 1 0 0 0 0 0 0 0 0 src 1 0 0), (irD 0 20 64 0 0 0 0 0 0 0 0 0 0), (irD 2 0 0 0 0 0 0 0 0 dst 0 0 0)])
 exact (o37 (d := .lst .tight 13 [(irD 1 0 0 0 0 0 0 0 0 dst 0 0 0), (irD 1 0 0 0 0 0 0 0 0 src 1 0 0), (irD 0 20 64 0 0 0 0 0 0 0 0 0 0), (irD 2 0 0 0 0 0 0 0 0 dst 0 0 0)]) (E1 ++ [.get tab_StepsL_0 12 (.int .i8 20) rfl, tT, .get tab_StepsL_0 13 (.int .i8 17) rfl, tT, .ret _ _ _ c4, .ret _ _ _ c5, .ret _ _ _ c6, .ret _ _ _ c7, .ret _ _ _ c8]) (by kernel_rfl)).to (by clear E1; (try simp only [IntKind.bits, and31, and63, and32, wrap_mod32, wrap_mod64] at *); simp [wk, wkL, wkO, stepsM, aluM, regOp, immOp, zeroImm, takeD, giveD, two, num, cmov, irD, ]; try ((try simp only [w_u64, w_i64, and32, IntKind.bits, Int.mul_one] at *); omega))
theorem does_0_7_32_ok : SpStepsL0 7 32 := by
 intro byReg dst src imm hi1 hi2
 let E1 : EL := [tT, .get ([D.fn (Fn.func 82) [] [], D.fn (Fn.func 83) [] [], D.fn (Fn.func 84) [] [], D.nilf, D.nilf, D.fn (Fn.func 85) [] [], D.fn (Fn.func 86) [] []]) 0 (D.fn (Fn.func 82) [] []) rfl, tT, .inl, tT, .get ([D.fn (Fn.func 136) [] [], D.fn (Fn.func 136) [] [], D.fn (Fn.func 137) [] [], D.fn (Fn.func 141) [] [], D.fn (Fn.func 136) [] [], D.fn (Fn.func 136) [] [], D.fn (Fn.func 140) [] [], D.fn (Fn.func 140) [] [], D.fn (Fn.func 138) [] [], D.fn (Fn.func 142) [] [], D.fn (Fn.func 136) [] [], D.fn (Fn.func 139) [] [], D.fn (Fn.func 140) [] []]) 7 (D.fn (Fn.func 140) [] []) rfl, .inl, .inl, tT]
 cases byReg
 ·have c0 := @l_take_ok 0 dst
  have c1 := @l_num_ok 18 32 0 (IntKind.wrap IntKind.i64 (↑(BitVec.toNat (BitVec.ofInt (64 : Nat) imm &&& BitVec.ofInt (64 : Nat) 31)) : Int))
  have c2 := @l_give_ok dst 0
  have c3 := @l_steps_ok ([(irD 1 0 0 0 0 0 0 0 0 dst 0 0 0), (irD 0 18 32 0 0 0 0 (IntKind.wrap IntKind.i64 (↑(BitVec.toNat (BitVec.ofInt (64 : Nat) imm &&& BitVec.ofInt (64 : Nat) 31)) : Int)) 0 0 0 0 0), (irD 2 0 0 0 0 0 0 0 0 dst 0 0 0)])
  exact (o37 (d := .lst .tight 13 [(irD 1 0 0 0 0 0 0 0 0 dst 0 0 0), (irD 0 18 32 0 0 0 0 (IntKind.wrap IntKind.i64 (↑(BitVec.toNat (BitVec.ofInt (64 : Nat) imm &&& BitVec.ofInt (64 : Nat) 31)) : Int)) 0 0 0 0 0), (irD 2 0 0 0 0 0 0 0 0 dst 0 0 0)]) (E1 ++ [.get tab_StepsL_0 14 (.int .i8 21) rfl, tT, .get tab_StepsL_0 15 (.int .i8 18) rfl, tF, .ret _ _ _ c0, .ret _ _ _ c1, .ret _ _ _ c2, .ret _ _ _ c3]) (by kernel_rfl)).to (by clear E1; (try simp only [IntKind.bits, and31, and63, and32, wrap_mod32, wrap_mod64] at *); simp [wk, wkL, wkO, stepsM, aluM, regOp, immOp, zeroImm, takeD, giveD, two, num, cmov, irD, ]; try ((try simp only [w_u64, w_i64, and32, IntKind.bits, Int.mul_one] at *); omega))
 have c4 := @l_take_ok 0 dst
 have c5 := @l_take_ok 1 src
 have c6 := @l_one_ok 21 32 0
 have c7 := @l_give_ok dst 0
 have c8 := @l_steps_ok ([(irD 1 0 0 0 0 0 0 0 0 dst 0 0 0), (irD 1 0 0 0 0 0 0 0 0 src 1 0 0), (irD 0 21 32 0 0 0 0 0 0 0 0 0 0), (irD 2 0 0 0 0 0 0 0 0 dst 0 0 0)])
 exact (o37 (d := .lst .tight 13 [(irD 1 0 0 0 0 0 0 0 0 dst 0 0 0), (irD 1 0 0 0 0 0 0 0 0 src 1 0 0), (irD 0 21 32 0 0 0 0 0 0 0 0 0 0), (irD 2 0 0 0 0 0 0 0 0 dst 0 0 0)]) (E1 ++ [.get tab_StepsL_0 14 (.int .i8 21) rfl, tT, .get tab_StepsL_0 15 (.int .i8 18) rfl, tT, .ret _ _ _ c4, .ret _ _ _ c5, .ret _ _ _ c6, .ret _ _ _ c7, .ret _ _ _ c8]) (by kernel_rfl)).to (by clear E1; (try simp only [IntKind.bits, and31, and63, and32, wrap_mod32, wrap_mod64] at *); simp [wk, wkL, wkO, stepsM, aluM, regOp, immOp, zeroImm, takeD, giveD, two, num, cmov, irD, ]; try ((try simp only [w_u64, w_i64, and32, IntKind.bits, Int.mul_one] at *); omega))
theorem does_0_7_64_ok : SpStepsL0 7 64 := by
 intro byReg dst src imm hi1 hi2
 let E1 : EL := [tT, .get ([D.fn (Fn.func 82) [] [], D.fn (Fn.func 83) [] [], D.fn (Fn.func 84) [] [], D.nilf, D.nilf, D.fn (Fn.func 85) [] [], D.fn (Fn.func 86) [] []]) 0 (D.fn (Fn.func 82) [] []) rfl, tT, .inl, tT, .get ([D.fn (Fn.func 136) [] [], D.fn (Fn.func 136) [] [], D.fn (Fn.func 137) [] [], D.fn (Fn.func 141) [] [], D.fn (Fn.func 136) [] [], D.fn (Fn.func 136) [] [], D.fn (Fn.func 140) [] [], D.fn (Fn.func 140) [] [], D.fn (Fn.func 138) [] [], D.fn (Fn.func 142) [] [], D.fn (Fn.func 136) [] [], D.fn (Fn.func 139) [] [], D.fn (Fn.func 140) [] []]) 7 (D.fn (Fn.func 140) [] []) rfl, .inl, .inl, tT]
 cases byReg
 ·have c0 := @l_take_ok 0 dst
  have c1 := @l_num_ok 18 64 0 (IntKind.wrap IntKind.i64 (↑(BitVec.toNat (BitVec.ofInt (64 : Nat) imm &&& BitVec.ofInt (64 : Nat) 63)) : Int))
  have c2 := @l_give_ok dst 0
  have c3 := @l_steps_ok ([(irD 1 0 0 0 0 0 0 0 0 dst 0 0 0), (irD 0 18 64 0 0 0 0 (IntKind.wrap IntKind.i64 (↑(BitVec.toNat (BitVec.ofInt (64 : Nat) imm &&& BitVec.ofInt (64 : Nat) 63)) : Int)) 0 0 0 0 0), (irD 2 0 0 0 0 0 0 0 0 dst 0 0 0)])
  exact (o37 (d := .lst .tight 13 [(irD 1 0 0 0 0 0 0 0 0 dst 0 0 0), (irD 0 18 64 0 0 0 0 (IntKind.wrap IntKind.i64 (↑(BitVec.toNat (BitVec.ofInt (64 : Nat) imm &&& BitVec.ofInt (64 : Nat) 63)) : Int)) 0 0 0 0 0), (irD 2 0 0 0 0 0 0 0 0 dst 0 0 0)]) (E1 ++ [.get tab_StepsL_0 14 (.int .i8 21) rfl, tT, .get tab_StepsL_0 15 (.int .i8 18) rfl, tF, .ret _ _ _ c0, .ret _ _ _ c1, .ret _ _ _ c2, .ret _ _ _ c3]) (by kernel_rfl)).to (by clear E1; (try simp only [IntKind.bits, and31, and63, and32, wrap_mod32, wrap_mod64] at *); simp [wk, wkL, wkO, stepsM, aluM, regOp, immOp, zeroImm, takeD, giveD, two, num, cmov, irD, ]; try ((try simp only [w_u64, w_i64, and32, IntKind.bits, Int.mul_one] at *); omega))
 have c4 := @l_take_ok 0 dst
 have c5 := @l_take_ok 1 src
 have c6 := @l_one_ok 21 64 0
 have c7 := @l_give_ok dst 0
 have c8 := @l_steps_ok ([(irD 1 0 0 0 0 0 0 0 0 dst 0 0 0), (irD 1 0 0 0 0 0 0 0 0 src 1 0 0), (irD 0 21 64 0 0 0 0 0 0 0 0 0 0), (irD 2 0 0 0 0 0 0 0 0 dst 0 0 0)])
 exact (o37 (d := .lst .tight 13 [(irD 1 0 0 0 0 0 0 0 0 dst 0 0 0), (irD 1 0 0 0 0 0 0 0 0 src 1 0 0), (irD 0 21 64 0 0 0 0 0 0 0 0 0 0), (irD 2 0 0 0 0 0 0 0 0 dst 0 0 0)]) (E1 ++ [.get tab_StepsL_0 14 (.int .i8 21) rfl, tT, .get tab_StepsL_0 15 (.int .i8 18) rfl, tT, .ret _ _ _ c4, .ret _ _ _ c5, .ret _ _ _ c6, .ret _ _ _ c7, .ret _ _ _ c8]) (by kernel_rfl)).to (by clear E1; (try simp only [IntKind.bits, and31, and63, and32, wrap_mod32, wrap_mod64] at *); simp [wk, wkL, wkO, stepsM, aluM, regOp, immOp, zeroImm, takeD, giveD, two, num, cmov, irD, ]; try ((try simp only [w_u64, w_i64, and32, IntKind.bits, Int.mul_one] at *); omega))
theorem does_0_8_32_ok (byReg : Bool) (dst src imm : Int) (hi1 : -2147483648 ≤ imm) (hi2 : imm ≤ 2147483647) (h : byReg = false) : Ret Try.prog 37 ([instD 0 8 32 0 byReg dst src 0 imm]) (.lst .no 13 (stepsM 0 8 32 0 byReg dst src 0 imm)) := by
 have c0 := @l_take_ok 0 dst
 have c1 := @l_one_ok 23 32 0
 have c2 := @l_give_ok dst 0
 have c3 := @l_steps_ok ([(irD 1 0 0 0 0 0 0 0 0 dst 0 0 0), (irD 0 23 32 0 0 0 0 0 0 0 0 0 0), (irD 2 0 0 0 0 0 0 0 0 dst 0 0 0)])
 exact (o37 (d := .lst .tight 13 [(irD 1 0 0 0 0 0 0 0 0 dst 0 0 0), (irD 0 23 32 0 0 0 0 0 0 0 0 0 0), (irD 2 0 0 0 0 0 0 0 0 dst 0 0 0)]) [tT, .get ([D.fn (Fn.func 82) [] [], D.fn (Fn.func 83) [] [], D.fn (Fn.func 84) [] [], D.nilf, D.nilf, D.fn (Fn.func 85) [] [], D.fn (Fn.func 86) [] []]) 0 (D.fn (Fn.func 82) [] []) rfl, tT, .inl, tT, .get ([D.fn (Fn.func 136) [] [], D.fn (Fn.func 136) [] [], D.fn (Fn.func 137) [] [], D.fn (Fn.func 141) [] [], D.fn (Fn.func 136) [] [], D.fn (Fn.func 136) [] [], D.fn (Fn.func 140) [] [], D.fn (Fn.func 140) [] [], D.fn (Fn.func 138) [] [], D.fn (Fn.func 142) [] [], D.fn (Fn.func 136) [] [], D.fn (Fn.func 139) [] [], D.fn (Fn.func 140) [] []]) 8 (D.fn (Fn.func 138) [] []) rfl, .inl, .ret _ _ _ c0, .ret _ _ _ c1, .ret _ _ _ c2, .ret _ _ _ c3] (by kernel_rfl)).to (by (try simp only [IntKind.bits, and31, and63, and32, wrap_mod32, wrap_mod64] at *); simp [wk, wkL, wkO, stepsM, aluM, regOp, immOp, zeroImm, takeD, giveD, two, num, cmov, irD, ]; try ((try simp only [w_u64, w_i64, and32, IntKind.bits, Int.mul_one] at *); omega))
theorem does_0_8_64_ok (byReg : Bool) (dst src imm : Int) (hi1 : -2147483648 ≤ imm) (hi2 : imm ≤ 2147483647) (h : byReg = false) : Ret Try.prog 37 ([instD 0 8 64 0 byReg dst src 0 imm]) (.lst .no 13 (stepsM 0 8 64 0 byReg dst src 0 imm)) := by
 have c0 := @l_take_ok 0 dst
 have c1 := @l_one_ok 23 64 0
 have c2 := @l_give_ok dst 0
 have c3 := @l_steps_ok ([(irD 1 0 0 0 0 0 0 0 0 dst 0 0 0), (irD 0 23 64 0 0 0 0 0 0 0 0 0 0), (irD 2 0 0 0 0 0 0 0 0 dst 0 0 0)])
 exact (o37 (d := .lst .tight 13 [(irD 1 0 0 0 0 0 0 0 0 dst 0 0 0), (irD 0 23 64 0 0 0 0 0 0 0 0 0 0), (irD 2 0 0 0 0 0 0 0 0 dst 0 0 0)]) [tT, .get ([D.fn (Fn.func 82) [] [], D.fn (Fn.func 83) [] [], D.fn (Fn.func 84) [] [], D.nilf, D.nilf, D.fn (Fn.func 85) [] [], D.fn (Fn.func 86) [] []]) 0 (D.fn (Fn.func 82) [] []) rfl, tT, .inl, tT, .get ([D.fn (Fn.func 136) [] [], D.fn (Fn.func 136) [] [], D.fn (Fn.func 137) [] [], D.fn (Fn.func 141) [] [], D.fn (Fn.func 136) [] [], D.fn (Fn.func 136) [] [], D.fn (Fn.func 140) [] [], D.fn (Fn.func 140) [] [], D.fn (Fn.func 138) [] [], D.fn (Fn.func 142) [] [], D.fn (Fn.func 136) [] [], D.fn (Fn.func 139) [] [], D.fn (Fn.func 140) [] []]) 8 (D.fn (Fn.func 138) [] []) rfl, .inl, .ret _ _ _ c0, .ret _ _ _ c1, .ret _ _ _ c2, .ret _ _ _ c3] (by kernel_rfl)).to (by (try simp only [IntKind.bits, and31, and63, and32, wrap_mod32, wrap_mod64] at *); simp [wk, wkL, wkO, stepsM, aluM, regOp, immOp, zeroImm, takeD, giveD, two, num, cmov, irD, ]; try ((try simp only [w_u64, w_i64, and32, IntKind.bits, Int.mul_one] at *); omega))
theorem does_0_9_32_ok : SpStepsL0 9 32 := by
 intro byReg dst src imm hi1 hi2
 let E1 : EL := [tT, .get ([D.fn (Fn.func 82) [] [], D.fn (Fn.func 83) [] [], D.fn (Fn.func 84) [] [], D.nilf, D.nilf, D.fn (Fn.func 85) [] [], D.fn (Fn.func 86) [] []]) 0 (D.fn (Fn.func 82) [] []) rfl, tT, .inl, tT, .get ([D.fn (Fn.func 136) [] [], D.fn (Fn.func 136) [] [], D.fn (Fn.func 137) [] [], D.fn (Fn.func 141) [] [], D.fn (Fn.func 136) [] [], D.fn (Fn.func 136) [] [], D.fn (Fn.func 140) [] [], D.fn (Fn.func 140) [] [], D.fn (Fn.func 138) [] [], D.fn (Fn.func 142) [] [], D.fn (Fn.func 136) [] [], D.fn (Fn.func 139) [] [], D.fn (Fn.func 140) [] []]) 9 (D.fn (Fn.func 142) [] []) rfl, .inl, .inl]
 cases byReg
 ·by_cases h0 : IntKind.wrap IntKind.u64 (IntKind.wrap IntKind.u64 imm * 4294967296) = 0
  ·have c1 := @l_take_ok 0 dst
   have c2 := @l_steps_ok ([(irD 1 0 0 0 0 0 0 0 0 dst 0 0 0)])
   have c3 := @l_short32_ok 0 9 0 false dst src 0 imm
   have c4 := @l_give_ok dst 0
   exact (o37 (d := .lst (.fresh 13) 13 [(irD 1 0 0 0 0 0 0 0 0 dst 0 0 0), (irD 0 0 32 0 0 0 0 0 0 0 0 0 0), (irD 2 0 0 0 0 0 0 0 0 dst 0 0 0)]) (E1 ++ List.replicate 11 tT ++ [tC (eqI 0 true h0), .ret _ _ _ c1, .ret _ _ _ c2, .ret _ _ _ c3, .len 2 2147483648 (by decide), .ret _ _ _ c4, .len 3 2147483648 (by decide)]) (by kernel_rfl)).to (by clear E1; (try simp only [IntKind.bits, and31, and63, and32, wrap_mod32, wrap_mod64] at *); simp [wk, wkL, wkO, stepsM, aluM, regOp, immOp, zeroImm, takeD, giveD, two, num, cmov, irD, h0]; try ((try simp only [w_u64, w_i64, and32, IntKind.bits, Int.mul_one] at *); omega))
  have c5 := @l_take_ok 11 dst
  have c6 := @l_give_ok dst 2
  have c7 := @l_take_ok 0 dst
  have c8 := @l_steps_ok ([(irD 1 0 0 0 0 0 0 0 0 dst 0 0 0)])
  have c9 := @l_num_ok 1 32 1 imm
  have c10 := @l_num_ok 1 32 2 0
  have c11 := @l_one_ok 24 32 1
  exact (o37 (d := .lst (.fresh 13) 13 [(irD 1 0 0 0 0 0 0 0 0 dst 0 0 0), (irD 0 1 32 1 0 0 0 imm 0 0 0 0 0), (irD 0 1 32 2 0 0 0 0 0 0 0 0 0), (irD 0 24 32 1 0 0 0 0 0 0 0 0 0), (irD 2 0 0 0 0 0 0 0 0 dst 2 0 0)]) (E1 ++ List.replicate 11 tT ++ [tC (neOf h0), .ret _ _ _ c5, .inl, .ret _ _ _ c6, .ret _ _ _ c7, .ret _ _ _ c8, tT, .ret _ _ _ c9, .ret _ _ _ c10, .ret _ _ _ c11, .len 5 2147483648 (by decide)]) (by kernel_rfl)).to (by clear E1; (try simp only [IntKind.bits, and31, and63, and32, wrap_mod32, wrap_mod64] at *); simp [wk, wkL, wkO, stepsM, aluM, regOp, immOp, zeroImm, takeD, giveD, two, num, cmov, irD, h0]; try ((try simp only [w_u64, w_i64, and32, IntKind.bits, Int.mul_one] at *); omega))
 have c12 := @l_take_ok 11 dst
 have c13 := @l_give_ok dst 2
 have c14 := @l_take_ok 0 dst
 have c15 := @l_steps_ok ([(irD 1 0 0 0 0 0 0 0 0 dst 0 0 0)])
 have c16 := @l_take_ok 1 src
 have c17 := @l_num_ok 1 32 2 0
 have c18 := @l_num_ok 1 32 11 1
 have c19 := @l_choose_ok 32 1
 have c20 := @l_one_ok 24 32 1
 have c21 := @l_take_ok 1 src
 have c22 := @l_choose_ok 32 2
 exact (o37 (d := .lst (.fresh 13) 13 [(irD 1 0 0 0 0 0 0 0 0 dst 0 0 0), (irD 1 0 0 0 0 0 0 0 0 src 1 0 0), (irD 0 1 32 2 0 0 0 0 0 0 0 0 0), (irD 0 1 32 11 0 0 0 1 0 0 0 0 0), (irD 0 8 32 1 1 0 0 0 0 0 0 0 0), (irD 0 25 32 1 11 0 0 0 4 0 0 0 0), (irD 0 24 32 1 0 0 0 0 0 0 0 0 0), (irD 1 0 0 0 0 0 0 0 0 src 1 0 0), (irD 1 0 0 0 0 0 0 0 0 dst 11 0 0), (irD 0 8 32 1 1 0 0 0 0 0 0 0 0), (irD 0 25 32 2 11 0 0 0 4 0 0 0 0), (irD 2 0 0 0 0 0 0 0 0 dst 2 0 0)]) (E1 ++ List.replicate 11 tF ++ [.ret _ _ _ c12, .inl, .ret _ _ _ c13, .ret _ _ _ c14, .ret _ _ _ c15, tF, .ret _ _ _ c16, .ret _ _ _ c17, .ret _ _ _ c18, .len 4 2147483648 (by decide), .ret _ _ _ c19, .len 6 2147483648 (by decide), .ret _ _ _ c20, .ret _ _ _ c21, .len 9 2147483648 (by decide), .ret _ _ _ c22, .len 11 2147483648 (by decide), .len 12 2147483648 (by decide)]) (by kernel_rfl)).to (by clear E1; (try simp only [IntKind.bits, and31, and63, and32, wrap_mod32, wrap_mod64] at *); simp [wk, wkL, wkO, stepsM, aluM, regOp, immOp, zeroImm, takeD, giveD, two, num, cmov, irD, ]; try ((try simp only [w_u64, w_i64, and32, IntKind.bits, Int.mul_one] at *); omega))
theorem does_0_9_64_ok : SpStepsL0 9 64 := by
 intro byReg dst src imm hi1 hi2
 let E1 : EL := [tT, .get ([D.fn (Fn.func 82) [] [], D.fn (Fn.func 83) [] [], D.fn (Fn.func 84) [] [], D.nilf, D.nilf, D.fn (Fn.func 85) [] [], D.fn (Fn.func 86) [] []]) 0 (D.fn (Fn.func 82) [] []) rfl, tT, .inl, tT, .get ([D.fn (Fn.func 136) [] [], D.fn (Fn.func 136) [] [], D.fn (Fn.func 137) [] [], D.fn (Fn.func 141) [] [], D.fn (Fn.func 136) [] [], D.fn (Fn.func 136) [] [], D.fn (Fn.func 140) [] [], D.fn (Fn.func 140) [] [], D.fn (Fn.func 138) [] [], D.fn (Fn.func 142) [] [], D.fn (Fn.func 136) [] [], D.fn (Fn.func 139) [] [], D.fn (Fn.func 140) [] []]) 9 (D.fn (Fn.func 142) [] []) rfl, .inl, .inl]
 cases byReg
 ·by_cases h0 : IntKind.wrap IntKind.u64 (IntKind.wrap IntKind.u64 imm * 1) = 0
  ·have c1 := @l_take_ok 0 dst
   have c2 := @l_steps_ok ([(irD 1 0 0 0 0 0 0 0 0 dst 0 0 0)])
   have c3 := @l_short64_ok 0 9 0 false dst src 0 imm
   have c4 := @l_give_ok dst 0
   exact (o37 (d := .lst (.fresh 13) 13 [(irD 1 0 0 0 0 0 0 0 0 dst 0 0 0), (irD 2 0 0 0 0 0 0 0 0 dst 0 0 0)]) (E1 ++ List.replicate 11 tT ++ [tC (eqI 0 true h0), .ret _ _ _ c1, .ret _ _ _ c2, .ret _ _ _ c3, .len 1 2147483648 (by decide), .ret _ _ _ c4, .len 2 2147483648 (by decide)]) (by kernel_rfl)).to (by clear E1; (try simp only [IntKind.bits, and31, and63, and32, wrap_mod32, wrap_mod64] at *); simp [wk, wkL, wkO, stepsM, aluM, regOp, immOp, zeroImm, takeD, giveD, two, num, cmov, irD, h0]; try ((try simp only [w_u64, w_i64, and32, IntKind.bits, Int.mul_one] at *); omega))
  have c5 := @l_take_ok 11 dst
  have c6 := @l_give_ok dst 2
  have c7 := @l_take_ok 0 dst
  have c8 := @l_steps_ok ([(irD 1 0 0 0 0 0 0 0 0 dst 0 0 0)])
  have c9 := @l_num_ok 1 64 1 imm
  have c10 := @l_num_ok 1 32 2 0
  have c11 := @l_one_ok 24 64 1
  exact (o37 (d := .lst (.fresh 13) 13 [(irD 1 0 0 0 0 0 0 0 0 dst 0 0 0), (irD 0 1 64 1 0 0 0 imm 0 0 0 0 0), (irD 0 1 32 2 0 0 0 0 0 0 0 0 0), (irD 0 24 64 1 0 0 0 0 0 0 0 0 0), (irD 2 0 0 0 0 0 0 0 0 dst 2 0 0)]) (E1 ++ List.replicate 11 tT ++ [tC (neOf h0), .ret _ _ _ c5, .inl, .ret _ _ _ c6, .ret _ _ _ c7, .ret _ _ _ c8, tT, .ret _ _ _ c9, .ret _ _ _ c10, .ret _ _ _ c11, .len 5 2147483648 (by decide)]) (by kernel_rfl)).to (by clear E1; (try simp only [IntKind.bits, and31, and63, and32, wrap_mod32, wrap_mod64] at *); simp [wk, wkL, wkO, stepsM, aluM, regOp, immOp, zeroImm, takeD, giveD, two, num, cmov, irD, h0]; try ((try simp only [w_u64, w_i64, and32, IntKind.bits, Int.mul_one] at *); omega))
 have c12 := @l_take_ok 11 dst
 have c13 := @l_give_ok dst 2
 have c14 := @l_take_ok 0 dst
 have c15 := @l_steps_ok ([(irD 1 0 0 0 0 0 0 0 0 dst 0 0 0)])
 have c16 := @l_take_ok 1 src
 have c17 := @l_num_ok 1 32 2 0
 have c18 := @l_num_ok 1 32 11 1
 have c19 := @l_choose_ok 64 1
 have c20 := @l_one_ok 24 64 1
 have c21 := @l_take_ok 1 src
 have c22 := @l_choose_ok 64 2
 exact (o37 (d := .lst (.fresh 13) 13 [(irD 1 0 0 0 0 0 0 0 0 dst 0 0 0), (irD 1 0 0 0 0 0 0 0 0 src 1 0 0), (irD 0 1 32 2 0 0 0 0 0 0 0 0 0), (irD 0 1 32 11 0 0 0 1 0 0 0 0 0), (irD 0 8 64 1 1 0 0 0 0 0 0 0 0), (irD 0 25 64 1 11 0 0 0 4 0 0 0 0), (irD 0 24 64 1 0 0 0 0 0 0 0 0 0), (irD 1 0 0 0 0 0 0 0 0 src 1 0 0), (irD 1 0 0 0 0 0 0 0 0 dst 11 0 0), (irD 0 8 64 1 1 0 0 0 0 0 0 0 0), (irD 0 25 64 2 11 0 0 0 4 0 0 0 0), (irD 2 0 0 0 0 0 0 0 0 dst 2 0 0)]) (E1 ++ List.replicate 11 tF ++ [.ret _ _ _ c12, .inl, .ret _ _ _ c13, .ret _ _ _ c14, .ret _ _ _ c15, tF, .ret _ _ _ c16, .ret _ _ _ c17, .ret _ _ _ c18, .len 4 2147483648 (by decide), .ret _ _ _ c19, .len 6 2147483648 (by decide), .ret _ _ _ c20, .ret _ _ _ c21, .len 9 2147483648 (by decide), .ret _ _ _ c22, .len 11 2147483648 (by decide), .len 12 2147483648 (by decide)]) (by kernel_rfl)).to (by clear E1; (try simp only [IntKind.bits, and31, and63, and32, wrap_mod32, wrap_mod64] at *); simp [wk, wkL, wkO, stepsM, aluM, regOp, immOp, zeroImm, takeD, giveD, two, num, cmov, irD, ]; try ((try simp only [w_u64, w_i64, and32, IntKind.bits, Int.mul_one] at *); omega))
theorem does_0_10_32_ok : SpStepsL0 10 32 := by
 intro byReg dst src imm hi1 hi2
 let E1 : EL := [tT, .get ([D.fn (Fn.func 82) [] [], D.fn (Fn.func 83) [] [], D.fn (Fn.func 84) [] [], D.nilf, D.nilf, D.fn (Fn.func 85) [] [], D.fn (Fn.func 86) [] []]) 0 (D.fn (Fn.func 82) [] []) rfl, tT, .inl, tT, .get ([D.fn (Fn.func 136) [] [], D.fn (Fn.func 136) [] [], D.fn (Fn.func 137) [] [], D.fn (Fn.func 141) [] [], D.fn (Fn.func 136) [] [], D.fn (Fn.func 136) [] [], D.fn (Fn.func 140) [] [], D.fn (Fn.func 140) [] [], D.fn (Fn.func 138) [] [], D.fn (Fn.func 142) [] [], D.fn (Fn.func 136) [] [], D.fn (Fn.func 139) [] [], D.fn (Fn.func 140) [] []]) 10 (D.fn (Fn.func 136) [] []) rfl, .inl, .inl, tT]
 cases byReg
 ·have c0 := @l_take_ok 0 dst
  have c1 := @l_num_ok 13 32 0 imm
  have c2 := @l_give_ok dst 0
  have c3 := @l_steps_ok ([(irD 1 0 0 0 0 0 0 0 0 dst 0 0 0), (irD 0 13 32 0 0 0 0 imm 0 0 0 0 0), (irD 2 0 0 0 0 0 0 0 0 dst 0 0 0)])
  exact (o37 (d := .lst .tight 13 [(irD 1 0 0 0 0 0 0 0 0 dst 0 0 0), (irD 0 13 32 0 0 0 0 imm 0 0 0 0 0), (irD 2 0 0 0 0 0 0 0 0 dst 0 0 0)]) (E1 ++ [.get tab_StepsL_0 20 (.int .i8 6) rfl, tT, .get tab_StepsL_0 21 (.int .i8 13) rfl, tF, .ret _ _ _ c0, .ret _ _ _ c1, .ret _ _ _ c2, .ret _ _ _ c3]) (by kernel_rfl)).to (by clear E1; (try simp only [IntKind.bits, and31, and63, and32, wrap_mod32, wrap_mod64] at *); simp [wk, wkL, wkO, stepsM, aluM, regOp, immOp, zeroImm, takeD, giveD, two, num, cmov, irD, ]; try ((try simp only [w_u64, w_i64, and32, IntKind.bits, Int.mul_one] at *); omega))
 have c4 := @l_take_ok 0 dst
 have c5 := @l_take_ok 1 src
 have c6 := @l_two_ok 6 32 0 1
 have c7 := @l_give_ok dst 0
 have c8 := @l_steps_ok ([(irD 1 0 0 0 0 0 0 0 0 dst 0 0 0), (irD 1 0 0 0 0 0 0 0 0 src 1 0 0), (irD 0 6 32 0 1 0 0 0 0 0 0 0 0), (irD 2 0 0 0 0 0 0 0 0 dst 0 0 0)])
 exact (o37 (d := .lst .tight 13 [(irD 1 0 0 0 0 0 0 0 0 dst 0 0 0), (irD 1 0 0 0 0 0 0 0 0 src 1 0 0), (irD 0 6 32 0 1 0 0 0 0 0 0 0 0), (irD 2 0 0 0 0 0 0 0 0 dst 0 0 0)]) (E1 ++ [.get tab_StepsL_0 20 (.int .i8 6) rfl, tT, .get tab_StepsL_0 21 (.int .i8 13) rfl, tT, .ret _ _ _ c4, .ret _ _ _ c5, .ret _ _ _ c6, .ret _ _ _ c7, .ret _ _ _ c8]) (by kernel_rfl)).to (by clear E1; (try simp only [IntKind.bits, and31, and63, and32, wrap_mod32, wrap_mod64] at *); simp [wk, wkL, wkO, stepsM, aluM, regOp, immOp, zeroImm, takeD, giveD, two, num, cmov, irD, ]; try ((try simp only [w_u64, w_i64, and32, IntKind.bits, Int.mul_one] at *); omega))
theorem does_0_10_64_ok : SpStepsL0 10 64 := by
 intro byReg dst src imm hi1 hi2
 let E1 : EL := [tT, .get ([D.fn (Fn.func 82) [] [], D.fn (Fn.func 83) [] [], D.fn (Fn.func 84) [] [], D.nilf, D.nilf, D.fn (Fn.func 85) [] [], D.fn (Fn.func 86) [] []]) 0 (D.fn (Fn.func 82) [] []) rfl, tT, .inl, tT, .get ([D.fn (Fn.func 136) [] [], D.fn (Fn.func 136) [] [], D.fn (Fn.func 137) [] [], D.fn (Fn.func 141) [] [], D.fn (Fn.func 136) [] [], D.fn (Fn.func 136) [] [], D.fn (Fn.func 140) [] [], D.fn (Fn.func 140) [] [], D.fn (Fn.func 138) [] [], D.fn (Fn.func 142) [] [], D.fn (Fn.func 136) [] [], D.fn (Fn.func 139) [] [], D.fn (Fn.func 140) [] []]) 10 (D.fn (Fn.func 136) [] []) rfl, .inl, .inl, tT]
 cases byReg
 ·have c0 := @l_take_ok 0 dst
  have c1 := @l_num_ok 13 64 0 imm
  have c2 := @l_give_ok dst 0
  have c3 := @l_steps_ok ([(irD 1 0 0 0 0 0 0 0 0 dst 0 0 0), (irD 0 13 64 0 0 0 0 imm 0 0 0 0 0), (irD 2 0 0 0 0 0 0 0 0 dst 0 0 0)])
  exact (o37 (d := .lst .tight 13 [(irD 1 0 0 0 0 0 0 0 0 dst 0 0 0), (irD 0 13 64 0 0 0 0 imm 0 0 0 0 0), (irD 2 0 0 0 0 0 0 0 0 dst 0 0 0)]) (E1 ++ [.get tab_StepsL_0 20 (.int .i8 6) rfl, tT, .get tab_StepsL_0 21 (.int .i8 13) rfl, tF, .ret _ _ _ c0, .ret _ _ _ c1, .ret _ _ _ c2, .ret _ _ _ c3]) (by kernel_rfl)).to (by clear E1; (try simp only [IntKind.bits, and31, and63, and32, wrap_mod32, wrap_mod64] at *); simp [wk, wkL, wkO, stepsM, aluM, regOp, immOp, zeroImm, takeD, giveD, two, num, cmov, irD, ]; try ((try simp only [w_u64, w_i64, and32, IntKind.bits, Int.mul_one] at *); omega))
 have c4 := @l_take_ok 0 dst
 have c5 := @l_take_ok 1 src
 have c6 := @l_two_ok 6 64 0 1
 have c7 := @l_give_ok dst 0
 have c8 := @l_steps_ok ([(irD 1 0 0 0 0 0 0 0 0 dst 0 0 0), (irD 1 0 0 0 0 0 0 0 0 src 1 0 0), (irD 0 6 64 0 1 0 0 0 0 0 0 0 0), (irD 2 0 0 0 0 0 0 0 0 dst 0 0 0)])
 exact (o37 (d := .lst .tight 13 [(irD 1 0 0 0 0 0 0 0 0 dst 0 0 0), (irD 1 0 0 0 0 0 0 0 0 src 1 0 0), (irD 0 6 64 0 1 0 0 0 0 0 0 0 0), (irD 2 0 0 0 0 0 0 0 0 dst 0 0 0)]) (E1 ++ [.get tab_StepsL_0 20 (.int .i8 6) rfl, tT, .get tab_StepsL_0 21 (.int .i8 13) rfl, tT, .ret _ _ _ c4, .ret _ _ _ c5, .ret _ _ _ c6, .ret _ _ _ c7, .ret _ _ _ c8]) (by kernel_rfl)).to (by clear E1; (try simp only [IntKind.bits, and31, and63, and32, wrap_mod32, wrap_mod64] at *); simp [wk, wkL, wkO, stepsM, aluM, regOp, immOp, zeroImm, takeD, giveD, two, num, cmov, irD, ]; try ((try simp only [w_u64, w_i64, and32, IntKind.bits, Int.mul_one] at *); omega))
theorem does_0_11_32_ok : SpStepsL0 11 32 := by
 intro byReg dst src imm hi1 hi2
 let E1 : EL := [tT, .get ([D.fn (Fn.func 82) [] [], D.fn (Fn.func 83) [] [], D.fn (Fn.func 84) [] [], D.nilf, D.nilf, D.fn (Fn.func 85) [] [], D.fn (Fn.func 86) [] []]) 0 (D.fn (Fn.func 82) [] []) rfl, tT, .inl, tT, .get ([D.fn (Fn.func 136) [] [], D.fn (Fn.func 136) [] [], D.fn (Fn.func 137) [] [], D.fn (Fn.func 141) [] [], D.fn (Fn.func 136) [] [], D.fn (Fn.func 136) [] [], D.fn (Fn.func 140) [] [], D.fn (Fn.func 140) [] [], D.fn (Fn.func 138) [] [], D.fn (Fn.func 142) [] [], D.fn (Fn.func 136) [] [], D.fn (Fn.func 139) [] [], D.fn (Fn.func 140) [] []]) 11 (D.fn (Fn.func 139) [] []) rfl, .inl]
 cases byReg
 ·have c0 := @l_num_ok 1 32 0 imm
  have c1 := @l_give_ok dst 0
  have c2 := @l_steps_ok ([(irD 0 1 32 0 0 0 0 imm 0 0 0 0 0), (irD 2 0 0 0 0 0 0 0 0 dst 0 0 0)])
  exact (o37 (d := .lst .tight 13 [(irD 0 1 32 0 0 0 0 imm 0 0 0 0 0), (irD 2 0 0 0 0 0 0 0 0 dst 0 0 0)]) (E1 ++ [tT, .ret _ _ _ c0, .ret _ _ _ c1, .ret _ _ _ c2]) (by kernel_rfl)).to (by clear E1; (try simp only [IntKind.bits, and31, and63, and32, wrap_mod32, wrap_mod64] at *); simp [wk, wkL, wkO, stepsM, aluM, regOp, immOp, zeroImm, takeD, giveD, two, num, cmov, irD, ]; try ((try simp only [w_u64, w_i64, and32, IntKind.bits, Int.mul_one] at *); omega))
 have c3 := @l_take_ok 0 src
 have c4 := @l_steps_ok ([(irD 1 0 0 0 0 0 0 0 0 src 0 0 0)])
 have c5 := @l_short32_ok 0 11 0 true dst src 0 imm
 have c6 := @l_give_ok dst 0
 exact (o37 (d := .lst (.fresh 13) 13 [(irD 1 0 0 0 0 0 0 0 0 src 0 0 0), (irD 0 0 32 0 0 0 0 0 0 0 0 0 0), (irD 2 0 0 0 0 0 0 0 0 dst 0 0 0)]) (E1 ++ [tF, .ret _ _ _ c3, .ret _ _ _ c4, .ret _ _ _ c5, .len 2 2147483648 (by decide), .ret _ _ _ c6, .len 3 2147483648 (by decide)]) (by kernel_rfl)).to (by clear E1; (try simp only [IntKind.bits, and31, and63, and32, wrap_mod32, wrap_mod64] at *); simp [wk, wkL, wkO, stepsM, aluM, regOp, immOp, zeroImm, takeD, giveD, two, num, cmov, irD, ]; try ((try simp only [w_u64, w_i64, and32, IntKind.bits, Int.mul_one] at *); omega))
theorem does_0_11_64_ok : SpStepsL0 11 64 := by
 intro byReg dst src imm hi1 hi2
 let E1 : EL := [tT, .get ([D.fn (Fn.func 82) [] [], D.fn (Fn.func 83) [] [], D.fn (Fn.func 84) [] [], D.nilf, D.nilf, D.fn (Fn.func 85) [] [], D.fn (Fn.func 86) [] []]) 0 (D.fn (Fn.func 82) [] []) rfl, tT, .inl, tT, .get ([D.fn (Fn.func 136) [] [], D.fn (Fn.func 136) [] [], D.fn (Fn.func 137) [] [], D.fn (Fn.func 141) [] [], D.fn (Fn.func 136) [] [], D.fn (Fn.func 136) [] [], D.fn (Fn.func 140) [] [], D.fn (Fn.func 140) [] [], D.fn (Fn.func 138) [] [], D.fn (Fn.func 142) [] [], D.fn (Fn.func 136) [] [], D.fn (Fn.func 139) [] [], D.fn (Fn.func 140) [] []]) 11 (D.fn (Fn.func 139) [] []) rfl, .inl]
 cases byReg
 ·have c0 := @l_num_ok 1 64 0 imm
  have c1 := @l_give_ok dst 0
  have c2 := @l_steps_ok ([(irD 0 1 64 0 0 0 0 imm 0 0 0 0 0), (irD 2 0 0 0 0 0 0 0 0 dst 0 0 0)])
  exact (o37 (d := .lst .tight 13 [(irD 0 1 64 0 0 0 0 imm 0 0 0 0 0), (irD 2 0 0 0 0 0 0 0 0 dst 0 0 0)]) (E1 ++ [tT, .ret _ _ _ c0, .ret _ _ _ c1, .ret _ _ _ c2]) (by kernel_rfl)).to (by clear E1; (try simp only [IntKind.bits, and31, and63, and32, wrap_mod32, wrap_mod64] at *); simp [wk, wkL, wkO, stepsM, aluM, regOp, immOp, zeroImm, takeD, giveD, two, num, cmov, irD, ]; try ((try simp only [w_u64, w_i64, and32, IntKind.bits, Int.mul_one] at *); omega))
 have c3 := @l_take_ok 0 src
 have c4 := @l_steps_ok ([(irD 1 0 0 0 0 0 0 0 0 src 0 0 0)])
 have c5 := @l_short64_ok 0 11 0 true dst src 0 imm
 have c6 := @l_give_ok dst 0
 exact (o37 (d := .lst (.fresh 13) 13 [(irD 1 0 0 0 0 0 0 0 0 src 0 0 0), (irD 2 0 0 0 0 0 0 0 0 dst 0 0 0)]) (E1 ++ [tF, .ret _ _ _ c3, .ret _ _ _ c4, .ret _ _ _ c5, .len 1 2147483648 (by decide), .ret _ _ _ c6, .len 2 2147483648 (by decide)]) (by kernel_rfl)).to (by clear E1; (try simp only [IntKind.bits, and31, and63, and32, wrap_mod32, wrap_mod64] at *); simp [wk, wkL, wkO, stepsM, aluM, regOp, immOp, zeroImm, takeD, giveD, two, num, cmov, irD, ]; try ((try simp only [w_u64, w_i64, and32, IntKind.bits, Int.mul_one] at *); omega))
theorem does_0_12_32_ok : SpStepsL0 12 32 := by
 intro byReg dst src imm hi1 hi2
 let E1 : EL := [tT, .get ([D.fn (Fn.func 82) [] [], D.fn (Fn.func 83) [] [], D.fn (Fn.func 84) [] [], D.nilf, D.nilf, D.fn (Fn.func 85) [] [], D.fn (Fn.func 86) [] []]) 0 (D.fn (Fn.func 82) [] []) rfl, tT, .inl, tT, .get ([D.fn (Fn.func 136) [] [], D.fn (Fn.func 136) [] [], D.fn (Fn.func 137) [] [], D.fn (Fn.func 141) [] [], D.fn (Fn.func 136) [] [], D.fn (Fn.func 136) [] [], D.fn (Fn.func 140) [] [], D.fn (Fn.func 140) [] [], D.fn (Fn.func 138) [] [], D.fn (Fn.func 142) [] [], D.fn (Fn.func 136) [] [], D.fn (Fn.func 139) [] [], D.fn (Fn.func 140) [] []]) 12 (D.fn (Fn.func 140) [] []) rfl, .inl, .inl, tT]
 cases byReg
 ·have c0 := @l_take_ok 0 dst
  have c1 := @l_num_ok 19 32 0 (IntKind.wrap IntKind.i64 (↑(BitVec.toNat (BitVec.ofInt (64 : Nat) imm &&& BitVec.ofInt (64 : Nat) 31)) : Int))
  have c2 := @l_give_ok dst 0
  have c3 := @l_steps_ok ([(irD 1 0 0 0 0 0 0 0 0 dst 0 0 0), (irD 0 19 32 0 0 0 0 (IntKind.wrap IntKind.i64 (↑(BitVec.toNat (BitVec.ofInt (64 : Nat) imm &&& BitVec.ofInt (64 : Nat) 31)) : Int)) 0 0 0 0 0), (irD 2 0 0 0 0 0 0 0 0 dst 0 0 0)])
  exact (o37 (d := .lst .tight 13 [(irD 1 0 0 0 0 0 0 0 0 dst 0 0 0), (irD 0 19 32 0 0 0 0 (IntKind.wrap IntKind.i64 (↑(BitVec.toNat (BitVec.ofInt (64 : Nat) imm &&& BitVec.ofInt (64 : Nat) 31)) : Int)) 0 0 0 0 0), (irD 2 0 0 0 0 0 0 0 0 dst 0 0 0)]) (E1 ++ [.get tab_StepsL_0 24 (.int .i8 22) rfl, tT, .get tab_StepsL_0 25 (.int .i8 19) rfl, tF, .ret _ _ _ c0, .ret _ _ _ c1, .ret _ _ _ c2, .ret _ _ _ c3]) (by kernel_rfl)).to (by clear E1; (try simp only [IntKind.bits, and31, and63, and32, wrap_mod32, wrap_mod64] at *); simp [wk, wkL, wkO, stepsM, aluM, regOp, immOp, zeroImm, takeD, giveD, two, num, cmov, irD, ]; try ((try simp only [w_u64, w_i64, and32, IntKind.bits, Int.mul_one] at *); omega))
 have c4 := @l_take_ok 0 dst
 have c5 := @l_take_ok 1 src
 have c6 := @l_one_ok 22 32 0
 have c7 := @l_give_ok dst 0
 have c8 := @l_steps_ok ([(irD 1 0 0 0 0 0 0 0 0 dst 0 0 0), (irD 1 0 0 0 0 0 0 0 0 src 1 0 0), (irD 0 22 32 0 0 0 0 0 0 0 0 0 0), (irD 2 0 0 0 0 0 0 0 0 dst 0 0 0)])
 exact (o37 (d := .lst .tight 13 [(irD 1 0 0 0 0 0 0 0 0 dst 0 0 0), (irD 1 0 0 0 0 0 0 0 0 src 1 0 0), (irD 0 22 32 0 0 0 0 0 0 0 0 0 0), (irD 2 0 0 0 0 0 0 0 0 dst 0 0 0)]) (E1 ++ [.get tab_StepsL_0 24 (.int .i8 22) rfl, tT, .get tab_StepsL_0 25 (.int .i8 19) rfl, tT, .ret _ _ _ c4, .ret _ _ _ c5, .ret _ _ _ c6, .ret _ _ _ c7, .ret _ _ _ c8]) (by kernel_rfl)).to (by clear E1; (try simp only [IntKind.bits, and31, and63, and32, wrap_mod32, wrap_mod64] at *); simp [wk, wkL, wkO, stepsM, aluM, regOp, immOp, zeroImm, takeD, giveD, two, num, cmov, irD, ]; try ((try simp only [w_u64, w_i64, and32, IntKind.bits, Int.mul_one] at *); omega))
theorem does_0_12_64_ok : SpStepsL0 12 64 := by
 intro byReg dst src imm hi1 hi2
 let E1 : EL := [tT, .get ([D.fn (Fn.func 82) [] [], D.fn (Fn.func 83) [] [], D.fn (Fn.func 84) [] [], D.nilf, D.nilf, D.fn (Fn.func 85) [] [], D.fn (Fn.func 86) [] []]) 0 (D.fn (Fn.func 82) [] []) rfl, tT, .inl, tT, .get ([D.fn (Fn.func 136) [] [], D.fn (Fn.func 136) [] [], D.fn (Fn.func 137) [] [], D.fn (Fn.func 141) [] [], D.fn (Fn.func 136) [] [], D.fn (Fn.func 136) [] [], D.fn (Fn.func 140) [] [], D.fn (Fn.func 140) [] [], D.fn (Fn.func 138) [] [], D.fn (Fn.func 142) [] [], D.fn (Fn.func 136) [] [], D.fn (Fn.func 139) [] [], D.fn (Fn.func 140) [] []]) 12 (D.fn (Fn.func 140) [] []) rfl, .inl, .inl, tT]
 cases byReg
 ·have c0 := @l_take_ok 0 dst
  have c1 := @l_num_ok 19 64 0 (IntKind.wrap IntKind.i64 (↑(BitVec.toNat (BitVec.ofInt (64 : Nat) imm &&& BitVec.ofInt (64 : Nat) 63)) : Int))
  have c2 := @l_give_ok dst 0
  have c3 := @l_steps_ok ([(irD 1 0 0 0 0 0 0 0 0 dst 0 0 0), (irD 0 19 64 0 0 0 0 (IntKind.wrap IntKind.i64 (↑(BitVec.toNat (BitVec.ofInt (64 : Nat) imm &&& BitVec.ofInt (64 : Nat) 63)) : Int)) 0 0 0 0 0), (irD 2 0 0 0 0 0 0 0 0 dst 0 0 0)])
  exact (o37 (d := .lst .tight 13 [(irD 1 0 0 0 0 0 0 0 0 dst 0 0 0), (irD 0 19 64 0 0 0 0 (IntKind.wrap IntKind.i64 (↑(BitVec.toNat (BitVec.ofInt (64 : Nat) imm &&& BitVec.ofInt (64 : Nat) 63)) : Int)) 0 0 0 0 0), (irD 2 0 0 0 0 0 0 0 0 dst 0 0 0)]) (E1 ++ [.get tab_StepsL_0 24 (.int .i8 22) rfl, tT, .get tab_StepsL_0 25 (.int .i8 19) rfl, tF, .ret _ _ _ c0, .ret _ _ _ c1, .ret _ _ _ c2, .ret _ _ _ c3]) (by kernel_rfl)).to (by clear E1; (try simp only [IntKind.bits, and31, and63, and32, wrap_mod32, wrap_mod64] at *); simp [wk, wkL, wkO, stepsM, aluM, regOp, immOp, zeroImm, takeD, giveD, two, num, cmov, irD, ]; try ((try simp only [w_u64, w_i64, and32, IntKind.bits, Int.mul_one] at *); omega))
 have c4 := @l_take_ok 0 dst
 have c5 := @l_take_ok 1 src
 have c6 := @l_one_ok 22 64 0
 have c7 := @l_give_ok dst 0
 have c8 := @l_steps_ok ([(irD 1 0 0 0 0 0 0 0 0 dst 0 0 0), (irD 1 0 0 0 0 0 0 0 0 src 1 0 0), (irD 0 22 64 0 0 0 0 0 0 0 0 0 0), (irD 2 0 0 0 0 0 0 0 0 dst 0 0 0)])
 exact (o37 (d := .lst .tight 13 [(irD 1 0 0 0 0 0 0 0 0 dst 0 0 0), (irD 1 0 0 0 0 0 0 0 0 src 1 0 0), (irD 0 22 64 0 0 0 0 0 0 0 0 0 0), (irD 2 0 0 0 0 0 0 0 0 dst 0 0 0)]) (E1 ++ [.get tab_StepsL_0 24 (.int .i8 22) rfl, tT, .get tab_StepsL_0 25 (.int .i8 19) rfl, tT, .ret _ _ _ c4, .ret _ _ _ c5, .ret _ _ _ c6, .ret _ _ _ c7, .ret _ _ _ c8]) (by kernel_rfl)).to (by clear E1; (try simp only [IntKind.bits, and31, and63, and32, wrap_mod32, wrap_mod64] at *); simp [wk, wkL, wkO, stepsM, aluM, regOp, immOp, zeroImm, takeD, giveD, two, num, cmov, irD, ]; try ((try simp only [w_u64, w_i64, and32, IntKind.bits, Int.mul_one] at *); omega))
theorem does_1_ok (size dst src off : Int) (h1 : size = 1 ∨ size = 2 ∨ size = 4 ∨ size = 8) : Ret Try.prog 37 ([instD 1 0 0 size false dst src off 0]) (.lst .no 13 (stepsM 1 0 0 size false dst src off 0)) := by
 have c0 := @l_take_ok 1 src
 have c1 := @l_give_ok dst 0
 have c2 := @l_steps_ok ([(irD 1 0 0 0 0 0 0 0 0 src 1 0 0), (irD 0 26 (IntKind.wrap IntKind.i8 (8 * size)) 0 0 1 off 0 0 0 0 0 0), (irD 2 0 0 0 0 0 0 0 0 dst 0 0 0)])
 exact (o37 (d := .lst .tight 13 [(irD 1 0 0 0 0 0 0 0 0 src 1 0 0), (irD 0 26 (IntKind.wrap IntKind.i8 (8 * size)) 0 0 1 off 0 0 0 0 0 0), (irD 2 0 0 0 0 0 0 0 0 dst 0 0 0)]) [tT, .get ([D.fn (Fn.func 82) [] [], D.fn (Fn.func 83) [] [], D.fn (Fn.func 84) [] [], D.nilf, D.nilf, D.fn (Fn.func 85) [] [], D.fn (Fn.func 86) [] []]) 1 (D.fn (Fn.func 83) [] []) rfl, tT, .inl, .ret _ _ _ c0, .ret _ _ _ c1, .ret _ _ _ c2] (by kernel_rfl)).to (by simp [wk, wkL, wkO, stepsM, ]; rcases h1 with rfl | rfl | rfl | rfl <;> decide)
theorem does_2_ok (size dst src off : Int) (h1 : size = 1 ∨ size = 2 ∨ size = 4 ∨ size = 8) : Ret Try.prog 37 ([instD 2 0 0 size false dst src off 0]) (.lst .no 13 (stepsM 2 0 0 size false dst src off 0)) := by
 have c0 := @l_take_ok 1 dst
 have c1 := @l_take_ok 0 src
 have c2 := @l_steps_ok ([(irD 1 0 0 0 0 0 0 0 0 dst 1 0 0), (irD 1 0 0 0 0 0 0 0 0 src 0 0 0), (irD 0 27 (IntKind.wrap IntKind.i8 (8 * size)) 0 0 1 off 0 0 0 0 0 0)])
 exact (o37 (d := .lst .tight 13 [(irD 1 0 0 0 0 0 0 0 0 dst 1 0 0), (irD 1 0 0 0 0 0 0 0 0 src 0 0 0), (irD 0 27 (IntKind.wrap IntKind.i8 (8 * size)) 0 0 1 off 0 0 0 0 0 0)]) [tT, .get ([D.fn (Fn.func 82) [] [], D.fn (Fn.func 83) [] [], D.fn (Fn.func 84) [] [], D.nilf, D.nilf, D.fn (Fn.func 85) [] [], D.fn (Fn.func 86) [] []]) 2 (D.fn (Fn.func 84) [] []) rfl, tT, .inl, .ret _ _ _ c0, .ret _ _ _ c1, .ret _ _ _ c2] (by kernel_rfl)).to (by simp [wk, wkL, wkO, stepsM, ]; rcases h1 with rfl | rfl | rfl | rfl <;> decide)
theorem does_5_ok (imm : Int) : Ret Try.prog 37 ([instD 5 0 0 0 false 0 0 0 imm]) (.lst .no 13 (stepsM 5 0 0 0 false 0 0 0 imm)) := by
 have c0 := @l_give_ok 0 0
 have c1 := @l_num_ok 1 32 1 0
 have c2 := @l_steps_ok ([(irD 3 0 0 0 0 0 0 0 0 0 0 imm 0), (irD 2 0 0 0 0 0 0 0 0 0 0 0 0), (irD 0 1 32 1 0 0 0 0 0 0 0 0 0)])
 have c3 := @l_give_ok 1 1
 have c4 := @l_give_ok 2 1
 have c5 := @l_give_ok 3 1
 have c6 := @l_give_ok 4 1
 have c7 := @l_give_ok 5 1
 exact (o37 (d := .lst (.fresh 13) 13 [(irD 3 0 0 0 0 0 0 0 0 0 0 imm 0), (irD 2 0 0 0 0 0 0 0 0 0 0 0 0), (irD 0 1 32 1 0 0 0 0 0 0 0 0 0), (irD 2 0 0 0 0 0 0 0 0 1 1 0 0), (irD 2 0 0 0 0 0 0 0 0 2 1 0 0), (irD 2 0 0 0 0 0 0 0 0 3 1 0 0), (irD 2 0 0 0 0 0 0 0 0 4 1 0 0), (irD 2 0 0 0 0 0 0 0 0 5 1 0 0)]) [tT, .get ([D.fn (Fn.func 82) [] [], D.fn (Fn.func 83) [] [], D.fn (Fn.func 84) [] [], D.nilf, D.nilf, D.fn (Fn.func 85) [] [], D.fn (Fn.func 86) [] []]) 5 (D.fn (Fn.func 85) [] []) rfl, tT, .inl, .ret _ _ _ c0, .ret _ _ _ c1, .ret _ _ _ c2, .go 64, tT, .ret _ _ _ c3, .len 4 2147483648 (by decide), tT, .ret _ _ _ c4, .len 5 2147483648 (by decide), tT, .ret _ _ _ c5, .len 6 2147483648 (by decide), tT, .ret _ _ _ c6, .len 7 2147483648 (by decide), tT, .ret _ _ _ c7, .len 8 2147483648 (by decide), tF] (by kernel_rfl)).to (by simp [wk, wkL, wkO, stepsM, ])
theorem does_6_ok  : Ret Try.prog 37 ([instD 6 0 0 0 false 0 0 0 0]) (.lst .no 13 (stepsM 6 0 0 0 false 0 0 0 0)) := by
 have c0 := @l_steps_ok ([(irD 6 0 0 0 0 0 0 0 0 0 0 0 0)])
 exact (o37 (d := .lst .tight 13 [(irD 6 0 0 0 0 0 0 0 0 0 0 0 0)]) [tT, .get ([D.fn (Fn.func 82) [] [], D.fn (Fn.func 83) [] [], D.fn (Fn.func 84) [] [], D.nilf, D.nilf, D.fn (Fn.func 85) [] [], D.fn (Fn.func 86) [] []]) 6 (D.fn (Fn.func 86) [] []) rfl, tT, .inl, .ret _ _ _ c0] (by kernel_rfl)).to (by simp [wk, wkL, wkO, stepsM, ])
end Go.Proofs.Ytcngafhpodeenaa
