/- Contracts and plain laws that a statement's proof leans on (texts merged: StepsL, ZL0A, ZL0, Flt, ZJ3, E0). -/
import Derived.Test.YtojgmjfcfpclbaaGreatU04
import Derived.Test.YtojgmjfcfpclbaaGreatU05
import Derived.Test.YtojgmjfcfpclbaaGreatU06
set_option linter.unusedVariables false
set_option linter.unusedSimpArgs false
namespace Go.Proofs.YtojgmjfcfpclbaaGreat
open Go Go.Ev
set_option maxRecDepth 100000
set_option maxHeartbeats 8000000
def tab_StepsL_0 : List D := [.int .i8 2, .int .i8 9, .int .i8 5, .int .i8 12, .int .i8 0, .int .i8 0, .int .i8 0, .int .i8 0, .int .i8 3, .int .i8 10, .int .i8 4, .int .i8 11, .int .i8 20, .int .i8 17, .int .i8 21, .int .i8 18, .int .i8 0, .int .i8 0, .int .i8 0, .int .i8 0, .int .i8 6, .int .i8 13, .int .i8 0, .int .i8 0, .int .i8 22, .int .i8 19]
def SpStepsL0 (k0_ : Int) (k1_ : Int) : Prop := ∀ (byReg : Bool) (dst src imm : Int) (hi1 : -2147483648 ≤ imm) (hi2 : imm ≤ 2147483647), Ret Tryz.prog 87 ([instD 0 k0_ k1_ 0 byReg dst src 0 imm]) (.lst .no 13 (stepsM 0 k0_ k1_ 0 byReg dst src 0 imm))
theorem does_0_0_32_ok : SpStepsL0 0 32 := by
 intro byReg dst src imm hi1 hi2
 let E1 : EL := [tT, .get ([D.fn (Fn.func 138) [] [], D.fn (Fn.func 139) [] [], D.fn (Fn.func 140) [] [], D.nilf, D.nilf, D.fn (Fn.func 141) [] [], D.fn (Fn.func 142) [] []]) 0 (D.fn (Fn.func 138) [] []) rfl, tT, .inl, tT, .get ([D.fn (Fn.func 175) [] [], D.fn (Fn.func 175) [] [], D.fn (Fn.func 176) [] [], D.fn (Fn.func 180) [] [], D.fn (Fn.func 175) [] [], D.fn (Fn.func 175) [] [], D.fn (Fn.func 179) [] [], D.fn (Fn.func 179) [] [], D.fn (Fn.func 177) [] [], D.fn (Fn.func 181) [] [], D.fn (Fn.func 175) [] [], D.fn (Fn.func 178) [] [], D.fn (Fn.func 179) [] []]) 0 (D.fn (Fn.func 175) [] []) rfl, .inl, .inl, tT]
 cases byReg
 ·have c0 := @l_take_ok 0 dst
  have c1 := @l_num_ok 9 32 0 imm
  have c2 := @l_give_ok dst 0
  have c3 := @l_steps_ok ([(irD 1 0 0 0 0 0 0 0 0 dst 0 0 0), (irD 0 9 32 0 0 0 0 imm 0 0 0 0 0), (irD 2 0 0 0 0 0 0 0 0 dst 0 0 0)])
  exact (o87 (d := .lst .tight 13 [(irD 1 0 0 0 0 0 0 0 0 dst 0 0 0), (irD 0 9 32 0 0 0 0 imm 0 0 0 0 0), (irD 2 0 0 0 0 0 0 0 0 dst 0 0 0)]) (E1 ++ [.get tab_StepsL_0 0 (.int .i8 2) rfl, tT, .get tab_StepsL_0 1 (.int .i8 9) rfl, tF, .ret _ _ _ c0, .ret _ _ _ c1, .ret _ _ _ c2, .ret _ _ _ c3]) (by kernel_rfl)).to (by clear E1; (try simp only [IntKind.bits, and31, and63, and32, wrap_mod32, wrap_mod64] at *); simp [wk, wkL, wkO, stepsM, aluM, regOp, immOp, zeroImm, takeD, giveD, two, num, cmov, irD, ]; try ((try simp only [w_u64, w_i64, and32, IntKind.bits, Int.mul_one] at *); omega))
 have c4 := @l_take_ok 0 dst
 have c5 := @l_take_ok 1 src
 have c6 := @l_two_ok 2 32 0 1
 have c7 := @l_give_ok dst 0
 have c8 := @l_steps_ok ([(irD 1 0 0 0 0 0 0 0 0 dst 0 0 0), (irD 1 0 0 0 0 0 0 0 0 src 1 0 0), (irD 0 2 32 0 1 0 0 0 0 0 0 0 0), (irD 2 0 0 0 0 0 0 0 0 dst 0 0 0)])
 exact (o87 (d := .lst .tight 13 [(irD 1 0 0 0 0 0 0 0 0 dst 0 0 0), (irD 1 0 0 0 0 0 0 0 0 src 1 0 0), (irD 0 2 32 0 1 0 0 0 0 0 0 0 0), (irD 2 0 0 0 0 0 0 0 0 dst 0 0 0)]) (E1 ++ [.get tab_StepsL_0 0 (.int .i8 2) rfl, tT, .get tab_StepsL_0 1 (.int .i8 9) rfl, tT, .ret _ _ _ c4, .ret _ _ _ c5, .ret _ _ _ c6, .ret _ _ _ c7, .ret _ _ _ c8]) (by kernel_rfl)).to (by clear E1; (try simp only [IntKind.bits, and31, and63, and32, wrap_mod32, wrap_mod64] at *); simp [wk, wkL, wkO, stepsM, aluM, regOp, immOp, zeroImm, takeD, giveD, two, num, cmov, irD, ]; try ((try simp only [w_u64, w_i64, and32, IntKind.bits, Int.mul_one] at *); omega))
theorem does_0_0_64_ok : SpStepsL0 0 64 := by
 intro byReg dst src imm hi1 hi2
 let E1 : EL := [tT, .get ([D.fn (Fn.func 138) [] [], D.fn (Fn.func 139) [] [], D.fn (Fn.func 140) [] [], D.nilf, D.nilf, D.fn (Fn.func 141) [] [], D.fn (Fn.func 142) [] []]) 0 (D.fn (Fn.func 138) [] []) rfl, tT, .inl, tT, .get ([D.fn (Fn.func 175) [] [], D.fn (Fn.func 175) [] [], D.fn (Fn.func 176) [] [], D.fn (Fn.func 180) [] [], D.fn (Fn.func 175) [] [], D.fn (Fn.func 175) [] [], D.fn (Fn.func 179) [] [], D.fn (Fn.func 179) [] [], D.fn (Fn.func 177) [] [], D.fn (Fn.func 181) [] [], D.fn (Fn.func 175) [] [], D.fn (Fn.func 178) [] [], D.fn (Fn.func 179) [] []]) 0 (D.fn (Fn.func 175) [] []) rfl, .inl, .inl, tT]
 cases byReg
 ·have c0 := @l_take_ok 0 dst
  have c1 := @l_num_ok 9 64 0 imm
  have c2 := @l_give_ok dst 0
  have c3 := @l_steps_ok ([(irD 1 0 0 0 0 0 0 0 0 dst 0 0 0), (irD 0 9 64 0 0 0 0 imm 0 0 0 0 0), (irD 2 0 0 0 0 0 0 0 0 dst 0 0 0)])
  exact (o87 (d := .lst .tight 13 [(irD 1 0 0 0 0 0 0 0 0 dst 0 0 0), (irD 0 9 64 0 0 0 0 imm 0 0 0 0 0), (irD 2 0 0 0 0 0 0 0 0 dst 0 0 0)]) (E1 ++ [.get tab_StepsL_0 0 (.int .i8 2) rfl, tT, .get tab_StepsL_0 1 (.int .i8 9) rfl, tF, .ret _ _ _ c0, .ret _ _ _ c1, .ret _ _ _ c2, .ret _ _ _ c3]) (by kernel_rfl)).to (by clear E1; (try simp only [IntKind.bits, and31, and63, and32, wrap_mod32, wrap_mod64] at *); simp [wk, wkL, wkO, stepsM, aluM, regOp, immOp, zeroImm, takeD, giveD, two, num, cmov, irD, ]; try ((try simp only [w_u64, w_i64, and32, IntKind.bits, Int.mul_one] at *); omega))
 have c4 := @l_take_ok 0 dst
 have c5 := @l_take_ok 1 src
 have c6 := @l_two_ok 2 64 0 1
 have c7 := @l_give_ok dst 0
 have c8 := @l_steps_ok ([(irD 1 0 0 0 0 0 0 0 0 dst 0 0 0), (irD 1 0 0 0 0 0 0 0 0 src 1 0 0), (irD 0 2 64 0 1 0 0 0 0 0 0 0 0), (irD 2 0 0 0 0 0 0 0 0 dst 0 0 0)])
 exact (o87 (d := .lst .tight 13 [(irD 1 0 0 0 0 0 0 0 0 dst 0 0 0), (irD 1 0 0 0 0 0 0 0 0 src 1 0 0), (irD 0 2 64 0 1 0 0 0 0 0 0 0 0), (irD 2 0 0 0 0 0 0 0 0 dst 0 0 0)]) (E1 ++ [.get tab_StepsL_0 0 (.int .i8 2) rfl, tT, .get tab_StepsL_0 1 (.int .i8 9) rfl, tT, .ret _ _ _ c4, .ret _ _ _ c5, .ret _ _ _ c6, .ret _ _ _ c7, .ret _ _ _ c8]) (by kernel_rfl)).to (by clear E1; (try simp only [IntKind.bits, and31, and63, and32, wrap_mod32, wrap_mod64] at *); simp [wk, wkL, wkO, stepsM, aluM, regOp, immOp, zeroImm, takeD, giveD, two, num, cmov, irD, ]; try ((try simp only [w_u64, w_i64, and32, IntKind.bits, Int.mul_one] at *); omega))
theorem does_0_1_32_ok : SpStepsL0 1 32 := by
 intro byReg dst src imm hi1 hi2
 let E1 : EL := [tT, .get ([D.fn (Fn.func 138) [] [], D.fn (Fn.func 139) [] [], D.fn (Fn.func 140) [] [], D.nilf, D.nilf, D.fn (Fn.func 141) [] [], D.fn (Fn.func 142) [] []]) 0 (D.fn (Fn.func 138) [] []) rfl, tT, .inl, tT, .get ([D.fn (Fn.func 175) [] [], D.fn (Fn.func 175) [] [], D.fn (Fn.func 176) [] [], D.fn (Fn.func 180) [] [], D.fn (Fn.func 175) [] [], D.fn (Fn.func 175) [] [], D.fn (Fn.func 179) [] [], D.fn (Fn.func 179) [] [], D.fn (Fn.func 177) [] [], D.fn (Fn.func 181) [] [], D.fn (Fn.func 175) [] [], D.fn (Fn.func 178) [] [], D.fn (Fn.func 179) [] []]) 1 (D.fn (Fn.func 175) [] []) rfl, .inl, .inl, tT]
 cases byReg
 ·have c0 := @l_take_ok 0 dst
  have c1 := @l_num_ok 12 32 0 imm
  have c2 := @l_give_ok dst 0
  have c3 := @l_steps_ok ([(irD 1 0 0 0 0 0 0 0 0 dst 0 0 0), (irD 0 12 32 0 0 0 0 imm 0 0 0 0 0), (irD 2 0 0 0 0 0 0 0 0 dst 0 0 0)])
  exact (o87 (d := .lst .tight 13 [(irD 1 0 0 0 0 0 0 0 0 dst 0 0 0), (irD 0 12 32 0 0 0 0 imm 0 0 0 0 0), (irD 2 0 0 0 0 0 0 0 0 dst 0 0 0)]) (E1 ++ [.get tab_StepsL_0 2 (.int .i8 5) rfl, tT, .get tab_StepsL_0 3 (.int .i8 12) rfl, tF, .ret _ _ _ c0, .ret _ _ _ c1, .ret _ _ _ c2, .ret _ _ _ c3]) (by kernel_rfl)).to (by clear E1; (try simp only [IntKind.bits, and31, and63, and32, wrap_mod32, wrap_mod64] at *); simp [wk, wkL, wkO, stepsM, aluM, regOp, immOp, zeroImm, takeD, giveD, two, num, cmov, irD, ]; try ((try simp only [w_u64, w_i64, and32, IntKind.bits, Int.mul_one] at *); omega))
 have c4 := @l_take_ok 0 dst
 have c5 := @l_take_ok 1 src
 have c6 := @l_two_ok 5 32 0 1
 have c7 := @l_give_ok dst 0
 have c8 := @l_steps_ok ([(irD 1 0 0 0 0 0 0 0 0 dst 0 0 0), (irD 1 0 0 0 0 0 0 0 0 src 1 0 0), (irD 0 5 32 0 1 0 0 0 0 0 0 0 0), (irD 2 0 0 0 0 0 0 0 0 dst 0 0 0)])
 exact (o87 (d := .lst .tight 13 [(irD 1 0 0 0 0 0 0 0 0 dst 0 0 0), (irD 1 0 0 0 0 0 0 0 0 src 1 0 0), (irD 0 5 32 0 1 0 0 0 0 0 0 0 0), (irD 2 0 0 0 0 0 0 0 0 dst 0 0 0)]) (E1 ++ [.get tab_StepsL_0 2 (.int .i8 5) rfl, tT, .get tab_StepsL_0 3 (.int .i8 12) rfl, tT, .ret _ _ _ c4, .ret _ _ _ c5, .ret _ _ _ c6, .ret _ _ _ c7, .ret _ _ _ c8]) (by kernel_rfl)).to (by clear E1; (try simp only [IntKind.bits, and31, and63, and32, wrap_mod32, wrap_mod64] at *); simp [wk, wkL, wkO, stepsM, aluM, regOp, immOp, zeroImm, takeD, giveD, two, num, cmov, irD, ]; try ((try simp only [w_u64, w_i64, and32, IntKind.bits, Int.mul_one] at *); omega))
theorem does_0_1_64_ok : SpStepsL0 1 64 := by
 intro byReg dst src imm hi1 hi2
 let E1 : EL := [tT, .get ([D.fn (Fn.func 138) [] [], D.fn (Fn.func 139) [] [], D.fn (Fn.func 140) [] [], D.nilf, D.nilf, D.fn (Fn.func 141) [] [], D.fn (Fn.func 142) [] []]) 0 (D.fn (Fn.func 138) [] []) rfl, tT, .inl, tT, .get ([D.fn (Fn.func 175) [] [], D.fn (Fn.func 175) [] [], D.fn (Fn.func 176) [] [], D.fn (Fn.func 180) [] [], D.fn (Fn.func 175) [] [], D.fn (Fn.func 175) [] [], D.fn (Fn.func 179) [] [], D.fn (Fn.func 179) [] [], D.fn (Fn.func 177) [] [], D.fn (Fn.func 181) [] [], D.fn (Fn.func 175) [] [], D.fn (Fn.func 178) [] [], D.fn (Fn.func 179) [] []]) 1 (D.fn (Fn.func 175) [] []) rfl, .inl, .inl, tT]
 cases byReg
 ·have c0 := @l_take_ok 0 dst
  have c1 := @l_num_ok 12 64 0 imm
  have c2 := @l_give_ok dst 0
  have c3 := @l_steps_ok ([(irD 1 0 0 0 0 0 0 0 0 dst 0 0 0), (irD 0 12 64 0 0 0 0 imm 0 0 0 0 0), (irD 2 0 0 0 0 0 0 0 0 dst 0 0 0)])
  exact (o87 (d := .lst .tight 13 [(irD 1 0 0 0 0 0 0 0 0 dst 0 0 0), (irD 0 12 64 0 0 0 0 imm 0 0 0 0 0), (irD 2 0 0 0 0 0 0 0 0 dst 0 0 0)]) (E1 ++ [.get tab_StepsL_0 2 (.int .i8 5) rfl, tT, .get tab_StepsL_0 3 (.int .i8 12) rfl, tF, .ret _ _ _ c0, .ret _ _ _ c1, .ret _ _ _ c2, .ret _ _ _ c3]) (by kernel_rfl)).to (by clear E1; (try simp only [IntKind.bits, and31, and63, and32, wrap_mod32, wrap_mod64] at *); simp [wk, wkL, wkO, stepsM, aluM, regOp, immOp, zeroImm, takeD, giveD, two, num, cmov, irD, ]; try ((try simp only [w_u64, w_i64, and32, IntKind.bits, Int.mul_one] at *); omega))
 have c4 := @l_take_ok 0 dst
 have c5 := @l_take_ok 1 src
 have c6 := @l_two_ok 5 64 0 1
 have c7 := @l_give_ok dst 0
 have c8 := @l_steps_ok ([(irD 1 0 0 0 0 0 0 0 0 dst 0 0 0), (irD 1 0 0 0 0 0 0 0 0 src 1 0 0), (irD 0 5 64 0 1 0 0 0 0 0 0 0 0), (irD 2 0 0 0 0 0 0 0 0 dst 0 0 0)])
 exact (o87 (d := .lst .tight 13 [(irD 1 0 0 0 0 0 0 0 0 dst 0 0 0), (irD 1 0 0 0 0 0 0 0 0 src 1 0 0), (irD 0 5 64 0 1 0 0 0 0 0 0 0 0), (irD 2 0 0 0 0 0 0 0 0 dst 0 0 0)]) (E1 ++ [.get tab_StepsL_0 2 (.int .i8 5) rfl, tT, .get tab_StepsL_0 3 (.int .i8 12) rfl, tT, .ret _ _ _ c4, .ret _ _ _ c5, .ret _ _ _ c6, .ret _ _ _ c7, .ret _ _ _ c8]) (by kernel_rfl)).to (by clear E1; (try simp only [IntKind.bits, and31, and63, and32, wrap_mod32, wrap_mod64] at *); simp [wk, wkL, wkO, stepsM, aluM, regOp, immOp, zeroImm, takeD, giveD, two, num, cmov, irD, ]; try ((try simp only [w_u64, w_i64, and32, IntKind.bits, Int.mul_one] at *); omega))
theorem does_0_2_32_ok : SpStepsL0 2 32 := by
 intro byReg dst src imm hi1 hi2
 have c0 := @l_num_ok 1 32 1 imm
 let E1 : EL := [tT, .get ([D.fn (Fn.func 138) [] [], D.fn (Fn.func 139) [] [], D.fn (Fn.func 140) [] [], D.nilf, D.nilf, D.fn (Fn.func 141) [] [], D.fn (Fn.func 142) [] []]) 0 (D.fn (Fn.func 138) [] []) rfl, tT, .inl, tT, .get ([D.fn (Fn.func 175) [] [], D.fn (Fn.func 175) [] [], D.fn (Fn.func 176) [] [], D.fn (Fn.func 180) [] [], D.fn (Fn.func 175) [] [], D.fn (Fn.func 175) [] [], D.fn (Fn.func 179) [] [], D.fn (Fn.func 179) [] [], D.fn (Fn.func 177) [] [], D.fn (Fn.func 181) [] [], D.fn (Fn.func 175) [] [], D.fn (Fn.func 178) [] [], D.fn (Fn.func 179) [] []]) 2 (D.fn (Fn.func 176) [] []) rfl, .inl, .ret _ _ _ c0]
 cases byReg
 ·have c1 := @l_take_ok 0 dst
  have c2 := @l_two_ok 16 32 0 1
  have c3 := @l_give_ok dst 0
  have c4 := @l_steps_ok ([(irD 1 0 0 0 0 0 0 0 0 dst 0 0 0), (irD 0 1 32 1 0 0 0 imm 0 0 0 0 0), (irD 0 16 32 0 1 0 0 0 0 0 0 0 0), (irD 2 0 0 0 0 0 0 0 0 dst 0 0 0)])
  exact (o87 (d := .lst .tight 13 [(irD 1 0 0 0 0 0 0 0 0 dst 0 0 0), (irD 0 1 32 1 0 0 0 imm 0 0 0 0 0), (irD 0 16 32 0 1 0 0 0 0 0 0 0 0), (irD 2 0 0 0 0 0 0 0 0 dst 0 0 0)]) (E1 ++ [tF, .ret _ _ _ c1, .ret _ _ _ c2, .ret _ _ _ c3, .ret _ _ _ c4]) (by kernel_rfl)).to (by clear E1; (try simp only [IntKind.bits, and31, and63, and32, wrap_mod32, wrap_mod64] at *); simp [wk, wkL, wkO, stepsM, aluM, regOp, immOp, zeroImm, takeD, giveD, two, num, cmov, irD, ]; try ((try simp only [w_u64, w_i64, and32, IntKind.bits, Int.mul_one] at *); omega))
 have c5 := @l_take_ok 1 src
 have c6 := @l_take_ok 0 dst
 have c7 := @l_two_ok 16 32 0 1
 have c8 := @l_give_ok dst 0
 have c9 := @l_steps_ok ([(irD 1 0 0 0 0 0 0 0 0 dst 0 0 0), (irD 1 0 0 0 0 0 0 0 0 src 1 0 0), (irD 0 16 32 0 1 0 0 0 0 0 0 0 0), (irD 2 0 0 0 0 0 0 0 0 dst 0 0 0)])
 exact (o87 (d := .lst .tight 13 [(irD 1 0 0 0 0 0 0 0 0 dst 0 0 0), (irD 1 0 0 0 0 0 0 0 0 src 1 0 0), (irD 0 16 32 0 1 0 0 0 0 0 0 0 0), (irD 2 0 0 0 0 0 0 0 0 dst 0 0 0)]) (E1 ++ [tT, .ret _ _ _ c5, .ret _ _ _ c6, .ret _ _ _ c7, .ret _ _ _ c8, .ret _ _ _ c9]) (by kernel_rfl)).to (by clear E1; (try simp only [IntKind.bits, and31, and63, and32, wrap_mod32, wrap_mod64] at *); simp [wk, wkL, wkO, stepsM, aluM, regOp, immOp, zeroImm, takeD, giveD, two, num, cmov, irD, ]; try ((try simp only [w_u64, w_i64, and32, IntKind.bits, Int.mul_one] at *); omega))
theorem does_0_2_64_ok : SpStepsL0 2 64 := by
 intro byReg dst src imm hi1 hi2
 have c0 := @l_num_ok 1 64 1 imm
 let E1 : EL := [tT, .get ([D.fn (Fn.func 138) [] [], D.fn (Fn.func 139) [] [], D.fn (Fn.func 140) [] [], D.nilf, D.nilf, D.fn (Fn.func 141) [] [], D.fn (Fn.func 142) [] []]) 0 (D.fn (Fn.func 138) [] []) rfl, tT, .inl, tT, .get ([D.fn (Fn.func 175) [] [], D.fn (Fn.func 175) [] [], D.fn (Fn.func 176) [] [], D.fn (Fn.func 180) [] [], D.fn (Fn.func 175) [] [], D.fn (Fn.func 175) [] [], D.fn (Fn.func 179) [] [], D.fn (Fn.func 179) [] [], D.fn (Fn.func 177) [] [], D.fn (Fn.func 181) [] [], D.fn (Fn.func 175) [] [], D.fn (Fn.func 178) [] [], D.fn (Fn.func 179) [] []]) 2 (D.fn (Fn.func 176) [] []) rfl, .inl, .ret _ _ _ c0]
 cases byReg
 ·have c1 := @l_take_ok 0 dst
  have c2 := @l_two_ok 16 64 0 1
  have c3 := @l_give_ok dst 0
  have c4 := @l_steps_ok ([(irD 1 0 0 0 0 0 0 0 0 dst 0 0 0), (irD 0 1 64 1 0 0 0 imm 0 0 0 0 0), (irD 0 16 64 0 1 0 0 0 0 0 0 0 0), (irD 2 0 0 0 0 0 0 0 0 dst 0 0 0)])
  exact (o87 (d := .lst .tight 13 [(irD 1 0 0 0 0 0 0 0 0 dst 0 0 0), (irD 0 1 64 1 0 0 0 imm 0 0 0 0 0), (irD 0 16 64 0 1 0 0 0 0 0 0 0 0), (irD 2 0 0 0 0 0 0 0 0 dst 0 0 0)]) (E1 ++ [tF, .ret _ _ _ c1, .ret _ _ _ c2, .ret _ _ _ c3, .ret _ _ _ c4]) (by kernel_rfl)).to (by clear E1; (try simp only [IntKind.bits, and31, and63, and32, wrap_mod32, wrap_mod64] at *); simp [wk, wkL, wkO, stepsM, aluM, regOp, immOp, zeroImm, takeD, giveD, two, num, cmov, irD, ]; try ((try simp only [w_u64, w_i64, and32, IntKind.bits, Int.mul_one] at *); omega))
 have c5 := @l_take_ok 1 src
 have c6 := @l_take_ok 0 dst
 have c7 := @l_two_ok 16 64 0 1
 have c8 := @l_give_ok dst 0
 have c9 := @l_steps_ok ([(irD 1 0 0 0 0 0 0 0 0 dst 0 0 0), (irD 1 0 0 0 0 0 0 0 0 src 1 0 0), (irD 0 16 64 0 1 0 0 0 0 0 0 0 0), (irD 2 0 0 0 0 0 0 0 0 dst 0 0 0)])
 exact (o87 (d := .lst .tight 13 [(irD 1 0 0 0 0 0 0 0 0 dst 0 0 0), (irD 1 0 0 0 0 0 0 0 0 src 1 0 0), (irD 0 16 64 0 1 0 0 0 0 0 0 0 0), (irD 2 0 0 0 0 0 0 0 0 dst 0 0 0)]) (E1 ++ [tT, .ret _ _ _ c5, .ret _ _ _ c6, .ret _ _ _ c7, .ret _ _ _ c8, .ret _ _ _ c9]) (by kernel_rfl)).to (by clear E1; (try simp only [IntKind.bits, and31, and63, and32, wrap_mod32, wrap_mod64] at *); simp [wk, wkL, wkO, stepsM, aluM, regOp, immOp, zeroImm, takeD, giveD, two, num, cmov, irD, ]; try ((try simp only [w_u64, w_i64, and32, IntKind.bits, Int.mul_one] at *); omega))
theorem does_0_3_32_ok : SpStepsL0 3 32 := by
 intro byReg dst src imm hi1 hi2
 let E1 : EL := [tT, .get ([D.fn (Fn.func 138) [] [], D.fn (Fn.func 139) [] [], D.fn (Fn.func 140) [] [], D.nilf, D.nilf, D.fn (Fn.func 141) [] [], D.fn (Fn.func 142) [] []]) 0 (D.fn (Fn.func 138) [] []) rfl, tT, .inl, tT, .get ([D.fn (Fn.func 175) [] [], D.fn (Fn.func 175) [] [], D.fn (Fn.func 176) [] [], D.fn (Fn.func 180) [] [], D.fn (Fn.func 175) [] [], D.fn (Fn.func 175) [] [], D.fn (Fn.func 179) [] [], D.fn (Fn.func 179) [] [], D.fn (Fn.func 177) [] [], D.fn (Fn.func 181) [] [], D.fn (Fn.func 175) [] [], D.fn (Fn.func 178) [] [], D.fn (Fn.func 179) [] []]) 3 (D.fn (Fn.func 180) [] []) rfl, .inl, .inl]
 cases byReg
 ·by_cases h0 : IntKind.wrap IntKind.u64 (IntKind.wrap IntKind.u64 imm * 4294967296) = 0
  ·have c1 := @l_num_ok 1 32 0 0
   have c2 := @l_give_ok dst 0
   have c3 := @l_steps_ok ([(irD 0 1 32 0 0 0 0 0 0 0 0 0 0), (irD 2 0 0 0 0 0 0 0 0 dst 0 0 0)])
   exact (o87 (d := .lst .tight 13 [(irD 0 1 32 0 0 0 0 0 0 0 0 0 0), (irD 2 0 0 0 0 0 0 0 0 dst 0 0 0)]) (E1 ++ List.replicate 11 tT ++ [tC (eqI 0 true h0), .ret _ _ _ c1, .ret _ _ _ c2, .ret _ _ _ c3]) (by kernel_rfl)).to (by clear E1; (try simp only [IntKind.bits, and31, and63, and32, wrap_mod32, wrap_mod64] at *); simp [wk, wkL, wkO, stepsM, aluM, regOp, immOp, zeroImm, takeD, giveD, two, num, cmov, irD, h0]; try ((try simp only [w_u64, w_i64, and32, IntKind.bits, Int.mul_one] at *); omega))
  have c4 := @l_num_ok 1 32 11 0
  have c5 := @l_give_ok dst 0
  have c6 := @l_take_ok 0 dst
  have c7 := @l_steps_ok ([(irD 1 0 0 0 0 0 0 0 0 dst 0 0 0)])
  have c8 := @l_num_ok 1 32 1 imm
  have c9 := @l_num_ok 1 32 2 0
  have c10 := @l_one_ok 24 32 1
  exact (o87 (d := .lst (.fresh 13) 13 [(irD 1 0 0 0 0 0 0 0 0 dst 0 0 0), (irD 0 1 32 1 0 0 0 imm 0 0 0 0 0), (irD 0 1 32 2 0 0 0 0 0 0 0 0 0), (irD 0 24 32 1 0 0 0 0 0 0 0 0 0), (irD 2 0 0 0 0 0 0 0 0 dst 0 0 0)]) (E1 ++ List.replicate 11 tT ++ [tC (neOf h0), .ret _ _ _ c4, .inl, .ret _ _ _ c5, .ret _ _ _ c6, .ret _ _ _ c7, tT, .ret _ _ _ c8, .ret _ _ _ c9, .ret _ _ _ c10, .len 5 2147483648 (by decide)]) (by kernel_rfl)).to (by clear E1; (try simp only [IntKind.bits, and31, and63, and32, wrap_mod32, wrap_mod64] at *); simp [wk, wkL, wkO, stepsM, aluM, regOp, immOp, zeroImm, takeD, giveD, two, num, cmov, irD, h0]; try ((try simp only [w_u64, w_i64, and32, IntKind.bits, Int.mul_one] at *); omega))
 have c11 := @l_num_ok 1 32 11 0
 have c12 := @l_give_ok dst 0
 have c13 := @l_take_ok 0 dst
 have c14 := @l_steps_ok ([(irD 1 0 0 0 0 0 0 0 0 dst 0 0 0)])
 have c15 := @l_take_ok 1 src
 have c16 := @l_num_ok 1 32 2 0
 have c17 := @l_num_ok 1 32 11 1
 have c18 := @l_choose_ok 32 1
 have c19 := @l_one_ok 24 32 1
 have c20 := @l_take_ok 1 src
 have c21 := @l_choose_ok 32 0
 exact (o87 (d := .lst (.fresh 13) 13 [(irD 1 0 0 0 0 0 0 0 0 dst 0 0 0), (irD 1 0 0 0 0 0 0 0 0 src 1 0 0), (irD 0 1 32 2 0 0 0 0 0 0 0 0 0), (irD 0 1 32 11 0 0 0 1 0 0 0 0 0), (irD 0 8 32 1 1 0 0 0 0 0 0 0 0), (irD 0 25 32 1 11 0 0 0 4 0 0 0 0), (irD 0 24 32 1 0 0 0 0 0 0 0 0 0), (irD 1 0 0 0 0 0 0 0 0 src 1 0 0), (irD 0 1 32 11 0 0 0 0 0 0 0 0 0), (irD 0 8 32 1 1 0 0 0 0 0 0 0 0), (irD 0 25 32 0 11 0 0 0 4 0 0 0 0), (irD 2 0 0 0 0 0 0 0 0 dst 0 0 0)]) (E1 ++ List.replicate 11 tF ++ [.ret _ _ _ c11, .inl, .ret _ _ _ c12, .ret _ _ _ c13, .ret _ _ _ c14, tF, .ret _ _ _ c15, .ret _ _ _ c16, .ret _ _ _ c17, .len 4 2147483648 (by decide), .ret _ _ _ c18, .len 6 2147483648 (by decide), .ret _ _ _ c19, .ret _ _ _ c20, .len 9 2147483648 (by decide), .ret _ _ _ c21, .len 11 2147483648 (by decide), .len 12 2147483648 (by decide)]) (by kernel_rfl)).to (by clear E1; (try simp only [IntKind.bits, and31, and63, and32, wrap_mod32, wrap_mod64] at *); simp [wk, wkL, wkO, stepsM, aluM, regOp, immOp, zeroImm, takeD, giveD, two, num, cmov, irD, ]; try ((try simp only [w_u64, w_i64, and32, IntKind.bits, Int.mul_one] at *); omega))
theorem does_0_3_64_ok : SpStepsL0 3 64 := by
 intro byReg dst src imm hi1 hi2
 let E1 : EL := [tT, .get ([D.fn (Fn.func 138) [] [], D.fn (Fn.func 139) [] [], D.fn (Fn.func 140) [] [], D.nilf, D.nilf, D.fn (Fn.func 141) [] [], D.fn (Fn.func 142) [] []]) 0 (D.fn (Fn.func 138) [] []) rfl, tT, .inl, tT, .get ([D.fn (Fn.func 175) [] [], D.fn (Fn.func 175) [] [], D.fn (Fn.func 176) [] [], D.fn (Fn.func 180) [] [], D.fn (Fn.func 175) [] [], D.fn (Fn.func 175) [] [], D.fn (Fn.func 179) [] [], D.fn (Fn.func 179) [] [], D.fn (Fn.func 177) [] [], D.fn (Fn.func 181) [] [], D.fn (Fn.func 175) [] [], D.fn (Fn.func 178) [] [], D.fn (Fn.func 179) [] []]) 3 (D.fn (Fn.func 180) [] []) rfl, .inl, .inl]
 cases byReg
 ·by_cases h0 : IntKind.wrap IntKind.u64 (IntKind.wrap IntKind.u64 imm * 1) = 0
  ·have c1 := @l_num_ok 1 64 0 0
   have c2 := @l_give_ok dst 0
   have c3 := @l_steps_ok ([(irD 0 1 64 0 0 0 0 0 0 0 0 0 0), (irD 2 0 0 0 0 0 0 0 0 dst 0 0 0)])
   exact (o87 (d := .lst .tight 13 [(irD 0 1 64 0 0 0 0 0 0 0 0 0 0), (irD 2 0 0 0 0 0 0 0 0 dst 0 0 0)]) (E1 ++ List.replicate 11 tT ++ [tC (eqI 0 true h0), .ret _ _ _ c1, .ret _ _ _ c2, .ret _ _ _ c3]) (by kernel_rfl)).to (by clear E1; (try simp only [IntKind.bits, and31, and63, and32, wrap_mod32, wrap_mod64] at *); simp [wk, wkL, wkO, stepsM, aluM, regOp, immOp, zeroImm, takeD, giveD, two, num, cmov, irD, h0]; try ((try simp only [w_u64, w_i64, and32, IntKind.bits, Int.mul_one] at *); omega))
  have c4 := @l_num_ok 1 32 11 0
  have c5 := @l_give_ok dst 0
  have c6 := @l_take_ok 0 dst
  have c7 := @l_steps_ok ([(irD 1 0 0 0 0 0 0 0 0 dst 0 0 0)])
  have c8 := @l_num_ok 1 64 1 imm
  have c9 := @l_num_ok 1 32 2 0
  have c10 := @l_one_ok 24 64 1
  exact (o87 (d := .lst (.fresh 13) 13 [(irD 1 0 0 0 0 0 0 0 0 dst 0 0 0), (irD 0 1 64 1 0 0 0 imm 0 0 0 0 0), (irD 0 1 32 2 0 0 0 0 0 0 0 0 0), (irD 0 24 64 1 0 0 0 0 0 0 0 0 0), (irD 2 0 0 0 0 0 0 0 0 dst 0 0 0)]) (E1 ++ List.replicate 11 tT ++ [tC (neOf h0), .ret _ _ _ c4, .inl, .ret _ _ _ c5, .ret _ _ _ c6, .ret _ _ _ c7, tT, .ret _ _ _ c8, .ret _ _ _ c9, .ret _ _ _ c10, .len 5 2147483648 (by decide)]) (by kernel_rfl)).to (by clear E1; (try simp only [IntKind.bits, and31, and63, and32, wrap_mod32, wrap_mod64] at *); simp [wk, wkL, wkO, stepsM, aluM, regOp, immOp, zeroImm, takeD, giveD, two, num, cmov, irD, h0]; try ((try simp only [w_u64, w_i64, and32, IntKind.bits, Int.mul_one] at *); omega))
 have c11 := @l_num_ok 1 32 11 0
 have c12 := @l_give_ok dst 0
 have c13 := @l_take_ok 0 dst
 have c14 := @l_steps_ok ([(irD 1 0 0 0 0 0 0 0 0 dst 0 0 0)])
 have c15 := @l_take_ok 1 src
 have c16 := @l_num_ok 1 32 2 0
 have c17 := @l_num_ok 1 32 11 1
 have c18 := @l_choose_ok 64 1
 have c19 := @l_one_ok 24 64 1
 have c20 := @l_take_ok 1 src
 have c21 := @l_choose_ok 64 0
 exact (o87 (d := .lst (.fresh 13) 13 [(irD 1 0 0 0 0 0 0 0 0 dst 0 0 0), (irD 1 0 0 0 0 0 0 0 0 src 1 0 0), (irD 0 1 32 2 0 0 0 0 0 0 0 0 0), (irD 0 1 32 11 0 0 0 1 0 0 0 0 0), (irD 0 8 64 1 1 0 0 0 0 0 0 0 0), (irD 0 25 64 1 11 0 0 0 4 0 0 0 0), (irD 0 24 64 1 0 0 0 0 0 0 0 0 0), (irD 1 0 0 0 0 0 0 0 0 src 1 0 0), (irD 0 1 32 11 0 0 0 0 0 0 0 0 0), (irD 0 8 64 1 1 0 0 0 0 0 0 0 0), (irD 0 25 64 0 11 0 0 0 4 0 0 0 0), (irD 2 0 0 0 0 0 0 0 0 dst 0 0 0)]) (E1 ++ List.replicate 11 tF ++ [.ret _ _ _ c11, .inl, .ret _ _ _ c12, .ret _ _ _ c13, .ret _ _ _ c14, tF, .ret _ _ _ c15, .ret _ _ _ c16, .ret _ _ _ c17, .len 4 2147483648 (by decide), .ret _ _ _ c18, .len 6 2147483648 (by decide), .ret _ _ _ c19, .ret _ _ _ c20, .len 9 2147483648 (by decide), .ret _ _ _ c21, .len 11 2147483648 (by decide), .len 12 2147483648 (by decide)]) (by kernel_rfl)).to (by clear E1; (try simp only [IntKind.bits, and31, and63, and32, wrap_mod32, wrap_mod64] at *); simp [wk, wkL, wkO, stepsM, aluM, regOp, immOp, zeroImm, takeD, giveD, two, num, cmov, irD, ]; try ((try simp only [w_u64, w_i64, and32, IntKind.bits, Int.mul_one] at *); omega))
theorem does_0_4_32_ok : SpStepsL0 4 32 := by
 intro byReg dst src imm hi1 hi2
 let E1 : EL := [tT, .get ([D.fn (Fn.func 138) [] [], D.fn (Fn.func 139) [] [], D.fn (Fn.func 140) [] [], D.nilf, D.nilf, D.fn (Fn.func 141) [] [], D.fn (Fn.func 142) [] []]) 0 (D.fn (Fn.func 138) [] []) rfl, tT, .inl, tT, .get ([D.fn (Fn.func 175) [] [], D.fn (Fn.func 175) [] [], D.fn (Fn.func 176) [] [], D.fn (Fn.func 180) [] [], D.fn (Fn.func 175) [] [], D.fn (Fn.func 175) [] [], D.fn (Fn.func 179) [] [], D.fn (Fn.func 179) [] [], D.fn (Fn.func 177) [] [], D.fn (Fn.func 181) [] [], D.fn (Fn.func 175) [] [], D.fn (Fn.func 178) [] [], D.fn (Fn.func 179) [] []]) 4 (D.fn (Fn.func 175) [] []) rfl, .inl, .inl, tT]
 cases byReg
 ·have c0 := @l_take_ok 0 dst
  have c1 := @l_num_ok 10 32 0 imm
  have c2 := @l_give_ok dst 0
  have c3 := @l_steps_ok ([(irD 1 0 0 0 0 0 0 0 0 dst 0 0 0), (irD 0 10 32 0 0 0 0 imm 0 0 0 0 0), (irD 2 0 0 0 0 0 0 0 0 dst 0 0 0)])
  exact (o87 (d := .lst .tight 13 [(irD 1 0 0 0 0 0 0 0 0 dst 0 0 0), (irD 0 10 32 0 0 0 0 imm 0 0 0 0 0), (irD 2 0 0 0 0 0 0 0 0 dst 0 0 0)]) (E1 ++ [.get tab_StepsL_0 8 (.int .i8 3) rfl, tT, .get tab_StepsL_0 9 (.int .i8 10) rfl, tF, .ret _ _ _ c0, .ret _ _ _ c1, .ret _ _ _ c2, .ret _ _ _ c3]) (by kernel_rfl)).to (by clear E1; (try simp only [IntKind.bits, and31, and63, and32, wrap_mod32, wrap_mod64] at *); simp [wk, wkL, wkO, stepsM, aluM, regOp, immOp, zeroImm, takeD, giveD, two, num, cmov, irD, ]; try ((try simp only [w_u64, w_i64, and32, IntKind.bits, Int.mul_one] at *); omega))
 have c4 := @l_take_ok 0 dst
 have c5 := @l_take_ok 1 src
 have c6 := @l_two_ok 3 32 0 1
 have c7 := @l_give_ok dst 0
 have c8 := @l_steps_ok ([(irD 1 0 0 0 0 0 0 0 0 dst 0 0 0), (irD 1 0 0 0 0 0 0 0 0 src 1 0 0), (irD 0 3 32 0 1 0 0 0 0 0 0 0 0), (irD 2 0 0 0 0 0 0 0 0 dst 0 0 0)])
 exact (o87 (d := .lst .tight 13 [(irD 1 0 0 0 0 0 0 0 0 dst 0 0 0), (irD 1 0 0 0 0 0 0 0 0 src 1 0 0), (irD 0 3 32 0 1 0 0 0 0 0 0 0 0), (irD 2 0 0 0 0 0 0 0 0 dst 0 0 0)]) (E1 ++ [.get tab_StepsL_0 8 (.int .i8 3) rfl, tT, .get tab_StepsL_0 9 (.int .i8 10) rfl, tT, .ret _ _ _ c4, .ret _ _ _ c5, .ret _ _ _ c6, .ret _ _ _ c7, .ret _ _ _ c8]) (by kernel_rfl)).to (by clear E1; (try simp only [IntKind.bits, and31, and63, and32, wrap_mod32, wrap_mod64] at *); simp [wk, wkL, wkO, stepsM, aluM, regOp, immOp, zeroImm, takeD, giveD, two, num, cmov, irD, ]; try ((try simp only [w_u64, w_i64, and32, IntKind.bits, Int.mul_one] at *); omega))
theorem does_0_4_64_ok : SpStepsL0 4 64 := by
 intro byReg dst src imm hi1 hi2
 let E1 : EL := [tT, .get ([D.fn (Fn.func 138) [] [], D.fn (Fn.func 139) [] [], D.fn (Fn.func 140) [] [], D.nilf, D.nilf, D.fn (Fn.func 141) [] [], D.fn (Fn.func 142) [] []]) 0 (D.fn (Fn.func 138) [] []) rfl, tT, .inl, tT, .get ([D.fn (Fn.func 175) [] [], D.fn (Fn.func 175) [] [], D.fn (Fn.func 176) [] [], D.fn (Fn.func 180) [] [], D.fn (Fn.func 175) [] [], D.fn (Fn.func 175) [] [], D.fn (Fn.func 179) [] [], D.fn (Fn.func 179) [] [], D.fn (Fn.func 177) [] [], D.fn (Fn.func 181) [] [], D.fn (Fn.func 175) [] [], D.fn (Fn.func 178) [] [], D.fn (Fn.func 179) [] []]) 4 (D.fn (Fn.func 175) [] []) rfl, .inl, .inl, tT]
 cases byReg
 ·have c0 := @l_take_ok 0 dst
  have c1 := @l_num_ok 10 64 0 imm
  have c2 := @l_give_ok dst 0
  have c3 := @l_steps_ok ([(irD 1 0 0 0 0 0 0 0 0 dst 0 0 0), (irD 0 10 64 0 0 0 0 imm 0 0 0 0 0), (irD 2 0 0 0 0 0 0 0 0 dst 0 0 0)])
  exact (o87 (d := .lst .tight 13 [(irD 1 0 0 0 0 0 0 0 0 dst 0 0 0), (irD 0 10 64 0 0 0 0 imm 0 0 0 0 0), (irD 2 0 0 0 0 0 0 0 0 dst 0 0 0)]) (E1 ++ [.get tab_StepsL_0 8 (.int .i8 3) rfl, tT, .get tab_StepsL_0 9 (.int .i8 10) rfl, tF, .ret _ _ _ c0, .ret _ _ _ c1, .ret _ _ _ c2, .ret _ _ _ c3]) (by kernel_rfl)).to (by clear E1; (try simp only [IntKind.bits, and31, and63, and32, wrap_mod32, wrap_mod64] at *); simp [wk, wkL, wkO, stepsM, aluM, regOp, immOp, zeroImm, takeD, giveD, two, num, cmov, irD, ]; try ((try simp only [w_u64, w_i64, and32, IntKind.bits, Int.mul_one] at *); omega))
 have c4 := @l_take_ok 0 dst
 have c5 := @l_take_ok 1 src
 have c6 := @l_two_ok 3 64 0 1
 have c7 := @l_give_ok dst 0
 have c8 := @l_steps_ok ([(irD 1 0 0 0 0 0 0 0 0 dst 0 0 0), (irD 1 0 0 0 0 0 0 0 0 src 1 0 0), (irD 0 3 64 0 1 0 0 0 0 0 0 0 0), (irD 2 0 0 0 0 0 0 0 0 dst 0 0 0)])
 exact (o87 (d := .lst .tight 13 [(irD 1 0 0 0 0 0 0 0 0 dst 0 0 0), (irD 1 0 0 0 0 0 0 0 0 src 1 0 0), (irD 0 3 64 0 1 0 0 0 0 0 0 0 0), (irD 2 0 0 0 0 0 0 0 0 dst 0 0 0)]) (E1 ++ [.get tab_StepsL_0 8 (.int .i8 3) rfl, tT, .get tab_StepsL_0 9 (.int .i8 10) rfl, tT, .ret _ _ _ c4, .ret _ _ _ c5, .ret _ _ _ c6, .ret _ _ _ c7, .ret _ _ _ c8]) (by kernel_rfl)).to (by clear E1; (try simp only [IntKind.bits, and31, and63, and32, wrap_mod32, wrap_mod64] at *); simp [wk, wkL, wkO, stepsM, aluM, regOp, immOp, zeroImm, takeD, giveD, two, num, cmov, irD, ]; try ((try simp only [w_u64, w_i64, and32, IntKind.bits, Int.mul_one] at *); omega))
theorem does_0_5_32_ok : SpStepsL0 5 32 := by
 intro byReg dst src imm hi1 hi2
 let E1 : EL := [tT, .get ([D.fn (Fn.func 138) [] [], D.fn (Fn.func 139) [] [], D.fn (Fn.func 140) [] [], D.nilf, D.nilf, D.fn (Fn.func 141) [] [], D.fn (Fn.func 142) [] []]) 0 (D.fn (Fn.func 138) [] []) rfl, tT, .inl, tT, .get ([D.fn (Fn.func 175) [] [], D.fn (Fn.func 175) [] [], D.fn (Fn.func 176) [] [], D.fn (Fn.func 180) [] [], D.fn (Fn.func 175) [] [], D.fn (Fn.func 175) [] [], D.fn (Fn.func 179) [] [], D.fn (Fn.func 179) [] [], D.fn (Fn.func 177) [] [], D.fn (Fn.func 181) [] [], D.fn (Fn.func 175) [] [], D.fn (Fn.func 178) [] [], D.fn (Fn.func 179) [] []]) 5 (D.fn (Fn.func 175) [] []) rfl, .inl, .inl, tT]
 cases byReg
 ·have c0 := @l_take_ok 0 dst
  have c1 := @l_num_ok 11 32 0 imm
  have c2 := @l_give_ok dst 0
  have c3 := @l_steps_ok ([(irD 1 0 0 0 0 0 0 0 0 dst 0 0 0), (irD 0 11 32 0 0 0 0 imm 0 0 0 0 0), (irD 2 0 0 0 0 0 0 0 0 dst 0 0 0)])
  exact (o87 (d := .lst .tight 13 [(irD 1 0 0 0 0 0 0 0 0 dst 0 0 0), (irD 0 11 32 0 0 0 0 imm 0 0 0 0 0), (irD 2 0 0 0 0 0 0 0 0 dst 0 0 0)]) (E1 ++ [.get tab_StepsL_0 10 (.int .i8 4) rfl, tT, .get tab_StepsL_0 11 (.int .i8 11) rfl, tF, .ret _ _ _ c0, .ret _ _ _ c1, .ret _ _ _ c2, .ret _ _ _ c3]) (by kernel_rfl)).to (by clear E1; (try simp only [IntKind.bits, and31, and63, and32, wrap_mod32, wrap_mod64] at *); simp [wk, wkL, wkO, stepsM, aluM, regOp, immOp, zeroImm, takeD, giveD, two, num, cmov, irD, ]; try ((try simp only [w_u64, w_i64, and32, IntKind.bits, Int.mul_one] at *); omega))
 have c4 := @l_take_ok 0 dst
 have c5 := @l_take_ok 1 src
 have c6 := @l_two_ok 4 32 0 1
 have c7 := @l_give_ok dst 0
 have c8 := @l_steps_ok ([(irD 1 0 0 0 0 0 0 0 0 dst 0 0 0), (irD 1 0 0 0 0 0 0 0 0 src 1 0 0), (irD 0 4 32 0 1 0 0 0 0 0 0 0 0), (irD 2 0 0 0 0 0 0 0 0 dst 0 0 0)])
 exact (o87 (d := .lst .tight 13 [(irD 1 0 0 0 0 0 0 0 0 dst 0 0 0), (irD 1 0 0 0 0 0 0 0 0 src 1 0 0), (irD 0 4 32 0 1 0 0 0 0 0 0 0 0), (irD 2 0 0 0 0 0 0 0 0 dst 0 0 0)]) (E1 ++ [.get tab_StepsL_0 10 (.int .i8 4) rfl, tT, .get tab_StepsL_0 11 (.int .i8 11) rfl, tT, .ret _ _ _ c4, .ret _ _ _ c5, .ret _ _ _ c6, .ret _ _ _ c7, .ret _ _ _ c8]) (by kernel_rfl)).to (by clear E1; (try simp only [IntKind.bits, and31, and63, and32, wrap_mod32, wrap_mod64] at *); simp [wk, wkL, wkO, stepsM, aluM, regOp, immOp, zeroImm, takeD, giveD, two, num, cmov, irD, ]; try ((try simp only [w_u64, w_i64, and32, IntKind.bits, Int.mul_one] at *); omega))
theorem does_0_5_64_ok : SpStepsL0 5 64 := by
 intro byReg dst src imm hi1 hi2
 let E1 : EL := [tT, .get ([D.fn (Fn.func 138) [] [], D.fn (Fn.func 139) [] [], D.fn (Fn.func 140) [] [], D.nilf, D.nilf, D.fn (Fn.func 141) [] [], D.fn (Fn.func 142) [] []]) 0 (D.fn (Fn.func 138) [] []) rfl, tT, .inl, tT, .get ([D.fn (Fn.func 175) [] [], D.fn (Fn.func 175) [] [], D.fn (Fn.func 176) [] [], D.fn (Fn.func 180) [] [], D.fn (Fn.func 175) [] [], D.fn (Fn.func 175) [] [], D.fn (Fn.func 179) [] [], D.fn (Fn.func 179) [] [], D.fn (Fn.func 177) [] [], D.fn (Fn.func 181) [] [], D.fn (Fn.func 175) [] [], D.fn (Fn.func 178) [] [], D.fn (Fn.func 179) [] []]) 5 (D.fn (Fn.func 175) [] []) rfl, .inl, .inl, tT]
 cases byReg
 ·have c0 := @l_take_ok 0 dst
  have c1 := @l_num_ok 11 64 0 imm
  have c2 := @l_give_ok dst 0
  have c3 := @l_steps_ok ([(irD 1 0 0 0 0 0 0 0 0 dst 0 0 0), (irD 0 11 64 0 0 0 0 imm 0 0 0 0 0), (irD 2 0 0 0 0 0 0 0 0 dst 0 0 0)])
  exact (o87 (d := .lst .tight 13 [(irD 1 0 0 0 0 0 0 0 0 dst 0 0 0), (irD 0 11 64 0 0 0 0 imm 0 0 0 0 0), (irD 2 0 0 0 0 0 0 0 0 dst 0 0 0)]) (E1 ++ [.get tab_StepsL_0 10 (.int .i8 4) rfl, tT, .get tab_StepsL_0 11 (.int .i8 11) rfl, tF, .ret _ _ _ c0, .ret _ _ _ c1, .ret _ _ _ c2, .ret _ _ _ c3]) (by kernel_rfl)).to (by clear E1; (try simp only [IntKind.bits, and31, and63, and32, wrap_mod32, wrap_mod64] at *); simp [wk, wkL, wkO, stepsM, aluM, regOp, immOp, zeroImm, takeD, giveD, two, num, cmov, irD, ]; try ((try simp only [w_u64, w_i64, and32, IntKind.bits, Int.mul_one] at *); omega))
 have c4 := @l_take_ok 0 dst
 have c5 := @l_take_ok 1 src
 have c6 := @l_two_ok 4 64 0 1
 have c7 := @l_give_ok dst 0
 have c8 := @l_steps_ok ([(irD 1 0 0 0 0 0 0 0 0 dst 0 0 0), (irD 1 0 0 0 0 0 0 0 0 src 1 0 0), (irD 0 4 64 0 1 0 0 0 0 0 0 0 0), (irD 2 0 0 0 0 0 0 0 0 dst 0 0 0)])
 exact (o87 (d := .lst .tight 13 [(irD 1 0 0 0 0 0 0 0 0 dst 0 0 0), (irD 1 0 0 0 0 0 0 0 0 src 1 0 0), (irD 0 4 64 0 1 0 0 0 0 0 0 0 0), (irD 2 0 0 0 0 0 0 0 0 dst 0 0 0)]) (E1 ++ [.get tab_StepsL_0 10 (.int .i8 4) rfl, tT, .get tab_StepsL_0 11 (.int .i8 11) rfl, tT, .ret _ _ _ c4, .ret _ _ _ c5, .ret _ _ _ c6, .ret _ _ _ c7, .ret _ _ _ c8]) (by kernel_rfl)).to (by clear E1; (try simp only [IntKind.bits, and31, and63, and32, wrap_mod32, wrap_mod64] at *); simp [wk, wkL, wkO, stepsM, aluM, regOp, immOp, zeroImm, takeD, giveD, two, num, cmov, irD, ]; try ((try simp only [w_u64, w_i64, and32, IntKind.bits, Int.mul_one] at *); omega))
theorem does_0_6_32_ok : SpStepsL0 6 32 := by
 intro byReg dst src imm hi1 hi2
 let E1 : EL := [tT, .get ([D.fn (Fn.func 138) [] [], D.fn (Fn.func 139) [] [], D.fn (Fn.func 140) [] [], D.nilf, D.nilf, D.fn (Fn.func 141) [] [], D.fn (Fn.func 142) [] []]) 0 (D.fn (Fn.func 138) [] []) rfl, tT, .inl, tT, .get ([D.fn (Fn.func 175) [] [], D.fn (Fn.func 175) [] [], D.fn (Fn.func 176) [] [], D.fn (Fn.func 180) [] [], D.fn (Fn.func 175) [] [], D.fn (Fn.func 175) [] [], D.fn (Fn.func 179) [] [], D.fn (Fn.func 179) [] [], D.fn (Fn.func 177) [] [], D.fn (Fn.func 181) [] [], D.fn (Fn.func 175) [] [], D.fn (Fn.func 178) [] [], D.fn (Fn.func 179) [] []]) 6 (D.fn (Fn.func 179) [] []) rfl, .inl, .inl, tT]
 cases byReg
 ·have c0 := @l_take_ok 0 dst
  have c1 := @l_num_ok 17 32 0 (IntKind.wrap IntKind.i64 (↑(BitVec.toNat (BitVec.ofInt (64 : Nat) imm &&& BitVec.ofInt (64 : Nat) 31)) : Int))
  have c2 := @l_give_ok dst 0
  have c3 := @l_steps_ok ([(irD 1 0 0 0 0 0 0 0 0 dst 0 0 0), (irD 0 17 32 0 0 0 0 (IntKind.wrap IntKind.i64 (↑(BitVec.toNat (BitVec.ofInt (64 : Nat) imm &&& BitVec.ofInt (64 : Nat) 31)) : Int)) 0 0 0 0 0), (irD 2 0 0 0 0 0 0 0 0 dst 0 0 0)])
  exact (o87 (d := .lst .tight 13 [(irD 1 0 0 0 0 0 0 0 0 dst 0 0 0), (irD 0 17 32 0 0 0 0 (IntKind.wrap IntKind.i64 (↑(BitVec.toNat (BitVec.ofInt (64 : Nat) imm &&& BitVec.ofInt (64 : Nat) 31)) : Int)) 0 0 0 0 0), (irD 2 0 0 0 0 0 0 0 0 dst 0 0 0)]) (E1 ++ [.get tab_StepsL_0 12 (.int .i8 20) rfl, tT, .get tab_StepsL_0 13 (.int .i8 17) rfl, tF, .ret _ _ _ c0, .ret _ _ _ c1, .ret _ _ _ c2, .ret _ _ _ c3]) (by kernel_rfl)).to (by clear E1; (try simp only [IntKind.bits, and31, and63, and32, wrap_mod32, wrap_mod64] at *); simp [wk, wkL, wkO, stepsM, aluM, regOp, immOp, zeroImm, takeD, giveD, two, num, cmov, irD, ]; try ((try simp only [w_u64, w_i64, and32, IntKind.bits, Int.mul_one] at *); omega))
 have c4 := @l_take_ok 0 dst
 have c5 := @l_take_ok 1 src
 have c6 := @l_one_ok 20 32 0
 have c7 := @l_give_ok dst 0
 have c8 := @l_steps_ok ([(irD 1 0 0 0 0 0 0 0 0 dst 0 0 0), (irD 1 0 0 0 0 0 0 0 0 src 1 0 0), (irD 0 20 32 0 0 0 0 0 0 0 0 0 0), (irD 2 0 0 0 0 0 0 0 0 dst 0 0 0)])
 exact (o87 (d := .lst .tight 13 [(irD 1 0 0 0 0 0 0 0 0 dst 0 0 0), (irD 1 0 0 0 0 0 0 0 0 src 1 0 0), (irD 0 20 32 0 0 0 0 0 0 0 0 0 0), (irD 2 0 0 0 0 0 0 0 0 dst 0 0 0)]) (E1 ++ [.get tab_StepsL_0 12 (.int .i8 20) rfl, tT, .get tab_StepsL_0 13 (.int .i8 17) rfl, tT, .ret _ _ _ c4, .ret _ _ _ c5, .ret _ _ _ c6, .ret _ _ _ c7, .ret _ _ _ c8]) (by kernel_rfl)).to (by clear E1; (try simp only [IntKind.bits, and31, and63, and32, wrap_mod32, wrap_mod64] at *); simp [wk, wkL, wkO, stepsM, aluM, regOp, immOp, zeroImm, takeD, giveD, two, num, cmov, irD, ]; try ((try simp only [w_u64, w_i64, and32, IntKind.bits, Int.mul_one] at *); omega))
theorem does_0_6_64_ok : SpStepsL0 6 64 := by
 intro byReg dst src imm hi1 hi2
 let E1 : EL := [tT, .get ([D.fn (Fn.func 138) [] [], D.fn (Fn.func 139) [] [], D.fn (Fn.func 140) [] [], D.nilf, D.nilf, D.fn (Fn.func 141) [] [], D.fn (Fn.func 142) [] []]) 0 (D.fn (Fn.func 138) [] []) rfl, tT, .inl, tT, .get ([D.fn (Fn.func 175) [] [], D.fn (Fn.func 175) [] [], D.fn (Fn.func 176) [] [], D.fn (Fn.func 180) [] [], D.fn (Fn.func 175) [] [], D.fn (Fn.func 175) [] [], D.fn (Fn.func 179) [] [], D.fn (Fn.func 179) [] [], D.fn (Fn.func 177) [] [], D.fn (Fn.func 181) [] [], D.fn (Fn.func 175) [] [], D.fn (Fn.func 178) [] [], D.fn (Fn.func 179) [] []]) 6 (D.fn (Fn.func 179) [] []) rfl, .inl, .inl, tT]
 cases byReg
 ·have c0 := @l_take_ok 0 dst
  have c1 := @l_num_ok 17 64 0 (IntKind.wrap IntKind.i64 (↑(BitVec.toNat (BitVec.ofInt (64 : Nat) imm &&& BitVec.ofInt (64 : Nat) 63)) : Int))
  have c2 := @l_give_ok dst 0
  have c3 := @l_steps_ok ([(irD 1 0 0 0 0 0 0 0 0 dst 0 0 0), (irD 0 17 64 0 0 0 0 (IntKind.wrap IntKind.i64 (↑(BitVec.toNat (BitVec.ofInt (64 : Nat) imm &&& BitVec.ofInt (64 : Nat) 63)) : Int)) 0 0 0 0 0), (irD 2 0 0 0 0 0 0 0 0 dst 0 0 0)])
  exact (o87 (d := .lst .tight 13 [(irD 1 0 0 0 0 0 0 0 0 dst 0 0 0), (irD 0 17 64 0 0 0 0 (IntKind.wrap IntKind.i64 (↑(BitVec.toNat (BitVec.ofInt (64 : Nat) imm &&& BitVec.ofInt (64 : Nat) 63)) : Int)) 0 0 0 0 0), (irD 2 0 0 0 0 0 0 0 0 dst 0 0 0)]) (E1 ++ [.get tab_StepsL_0 12 (.int .i8 20) rfl, tT, .get tab_StepsL_0 13 (.int .i8 17) rfl, tF, .ret _ _ _ c0, .ret _ _ _ c1, .ret _ _ _ c2, .ret _ _ _ c3]) (by kernel_rfl)).to (by clear E1; (try simp only [IntKind.bits, and31, and63, and32, wrap_mod32, wrap_mod64] at *); simp [wk, wkL, wkO, stepsM, aluM, regOp, immOp, zeroImm, takeD, giveD, two, num, cmov, irD, ]; try ((try simp only [w_u64, w_i64, and32, IntKind.bits, Int.mul_one] at *); omega))
 have c4 := @l_take_ok 0 dst
 have c5 := @l_take_ok 1 src
 have c6 := @l_one_ok 20 64 0
 have c7 := @l_give_ok dst 0
 have c8 := @l_steps_ok ([(irD 1 0 0 0 0 0 0 0 0 dst 0 0 0), (irD 1 0 0 0 0 0 0 0 0 src 1 0 0), (irD 0 20 64 0 0 0 0 0 0 0 0 0 0), (irD 2 0 0 0 0 0 0 0 0 dst 0 0 0)])
 exact (o87 (d := .lst .tight 13 [(irD 1 0 0 0 0 0 0 0 0 dst 0 0 0), (irD 1 0 0 0 0 0 0 0 0 src 1 0 0), (irD 0 20 64 0 0 0 0 0 0 0 0 0 0), (irD 2 0 0 0 0 0 0 0 0 dst 0 0 0)]) (E1 ++ [.get tab_StepsL_0 12 (.int .i8 20) rfl, tT, .get tab_StepsL_0 13 (.int .i8 17) rfl, tT, .ret _ _ _ c4, .ret _ _ _ c5, .ret _ _ _ c6, .ret _ _ _ c7, .ret _ _ _ c8]) (by kernel_rfl)).to (by clear E1; (try simp only [IntKind.bits, and31, and63, and32, wrap_mod32, wrap_mod64] at *); simp [wk, wkL, wkO, stepsM, aluM, regOp, immOp, zeroImm, takeD, giveD, two, num, cmov, irD, ]; try ((try simp only [w_u64, w_i64, and32, IntKind.bits, Int.mul_one] at *); omega))
theorem does_0_7_32_ok : SpStepsL0 7 32 := by
 intro byReg dst src imm hi1 hi2
 let E1 : EL := [tT, .get ([D.fn (Fn.func 138) [] [], D.fn (Fn.func 139) [] [], D.fn (Fn.func 140) [] [], D.nilf, D.nilf, D.fn (Fn.func 141) [] [], D.fn (Fn.func 142) [] []]) 0 (D.fn (Fn.func 138) [] []) rfl, tT, .inl, tT, .get ([D.fn (Fn.func 175) [] [], D.fn (Fn.func 175) [] [], D.fn (Fn.func 176) [] [], D.fn (Fn.func 180) [] [], D.fn (Fn.func 175) [] [], D.fn (Fn.func 175) [] [], D.fn (Fn.func 179) [] [], D.fn (Fn.func 179) [] [], D.fn (Fn.func 177) [] [], D.fn (Fn.func 181) [] [], D.fn (Fn.func 175) [] [], D.fn (Fn.func 178) [] [], D.fn (Fn.func 179) [] []]) 7 (D.fn (Fn.func 179) [] []) rfl, .inl, .inl, tT]
 cases byReg
 ·have c0 := @l_take_ok 0 dst
  have c1 := @l_num_ok 18 32 0 (IntKind.wrap IntKind.i64 (↑(BitVec.toNat (BitVec.ofInt (64 : Nat) imm &&& BitVec.ofInt (64 : Nat) 31)) : Int))
  have c2 := @l_give_ok dst 0
  have c3 := @l_steps_ok ([(irD 1 0 0 0 0 0 0 0 0 dst 0 0 0), (irD 0 18 32 0 0 0 0 (IntKind.wrap IntKind.i64 (↑(BitVec.toNat (BitVec.ofInt (64 : Nat) imm &&& BitVec.ofInt (64 : Nat) 31)) : Int)) 0 0 0 0 0), (irD 2 0 0 0 0 0 0 0 0 dst 0 0 0)])
  exact (o87 (d := .lst .tight 13 [(irD 1 0 0 0 0 0 0 0 0 dst 0 0 0), (irD 0 18 32 0 0 0 0 (IntKind.wrap IntKind.i64 (↑(BitVec.toNat (BitVec.ofInt (64 : Nat) imm &&& BitVec.ofInt (64 : Nat) 31)) : Int)) 0 0 0 0 0), (irD 2 0 0 0 0 0 0 0 0 dst 0 0 0)]) (E1 ++ [.get tab_StepsL_0 14 (.int .i8 21) rfl, tT, .get tab_StepsL_0 15 (.int .i8 18) rfl, tF, .ret _ _ _ c0, .ret _ _ _ c1, .ret _ _ _ c2, .ret _ _ _ c3]) (by kernel_rfl)).to (by clear E1; (try simp only [IntKind.bits, and31, and63, and32, wrap_mod32, wrap_mod64] at *); simp [wk, wkL, wkO, stepsM, aluM, regOp, immOp, zeroImm, takeD, giveD, two, num, cmov, irD, ]; try ((try simp only [w_u64, w_i64, and32, IntKind.bits, Int.mul_one] at *); omega))
 have c4 := @l_take_ok 0 dst
 have c5 := @l_take_ok 1 src
 have c6 := @l_one_ok 21 32 0
 have c7 := @l_give_ok dst 0
 have c8 := @l_steps_ok ([(irD 1 0 0 0 0 0 0 0 0 dst 0 0 0), (irD 1 0 0 0 0 0 0 0 0 src 1 0 0), (irD 0 21 32 0 0 0 0 0 0 0 0 0 0), (irD 2 0 0 0 0 0 0 0 0 dst 0 0 0)])
 exact (o87 (d := .lst .tight 13 [(irD 1 0 0 0 0 0 0 0 0 dst 0 0 0), (irD 1 0 0 0 0 0 0 0 0 src 1 0 0), (irD 0 21 32 0 0 0 0 0 0 0 0 0 0), (irD 2 0 0 0 0 0 0 0 0 dst 0 0 0)]) (E1 ++ [.get tab_StepsL_0 14 (.int .i8 21) rfl, tT, .get tab_StepsL_0 15 (.int .i8 18) rfl, tT, .ret _ _ _ c4, .ret _ _ _ c5, .ret _ _ _ c6, .ret _ _ _ c7, .ret _ _ _ c8]) (by kernel_rfl)).to (by clear E1; (try simp only [IntKind.bits, and31, and63, and32, wrap_mod32, wrap_mod64] at *); simp [wk, wkL, wkO, stepsM, aluM, regOp, immOp, zeroImm, takeD, giveD, two, num, cmov, irD, ]; try ((try simp only [w_u64, w_i64, and32, IntKind.bits, Int.mul_one] at *); omega))
theorem does_0_7_64_ok : SpStepsL0 7 64 := by
 intro byReg dst src imm hi1 hi2
 let E1 : EL := [tT, .get ([D.fn (Fn.func 138) [] [], D.fn (Fn.func 139) [] [], D.fn (Fn.func 140) [] [], D.nilf, D.nilf, D.fn (Fn.func 141) [] [], D.fn (Fn.func 142) [] []]) 0 (D.fn (Fn.func 138) [] []) rfl, tT, .inl, tT, .get ([D.fn (Fn.func 175) [] [], D.fn (Fn.func 175) [] [], D.fn (Fn.func 176) [] [], D.fn (Fn.func 180) [] [], D.fn (Fn.func 175) [] [], D.fn (Fn.func 175) [] [], D.fn (Fn.func 179) [] [], D.fn (Fn.func 179) [] [], D.fn (Fn.func 177) [] [], D.fn (Fn.func 181) [] [], D.fn (Fn.func 175) [] [], D.fn (Fn.func 178) [] [], D.fn (Fn.func 179) [] []]) 7 (D.fn (Fn.func 179) [] []) rfl, .inl, .inl, tT]
 cases byReg
 ·have c0 := @l_take_ok 0 dst
  have c1 := @l_num_ok 18 64 0 (IntKind.wrap IntKind.i64 (↑(BitVec.toNat (BitVec.ofInt (64 : Nat) imm &&& BitVec.ofInt (64 : Nat) 63)) : Int))
  have c2 := @l_give_ok dst 0
  have c3 := @l_steps_ok ([(irD 1 0 0 0 0 0 0 0 0 dst 0 0 0), (irD 0 18 64 0 0 0 0 (IntKind.wrap IntKind.i64 (↑(BitVec.toNat (BitVec.ofInt (64 : Nat) imm &&& BitVec.ofInt (64 : Nat) 63)) : Int)) 0 0 0 0 0), (irD 2 0 0 0 0 0 0 0 0 dst 0 0 0)])
  exact (o87 (d := .lst .tight 13 [(irD 1 0 0 0 0 0 0 0 0 dst 0 0 0), (irD 0 18 64 0 0 0 0 (IntKind.wrap IntKind.i64 (↑(BitVec.toNat (BitVec.ofInt (64 : Nat) imm &&& BitVec.ofInt (64 : Nat) 63)) : Int)) 0 0 0 0 0), (irD 2 0 0 0 0 0 0 0 0 dst 0 0 0)]) (E1 ++ [.get tab_StepsL_0 14 (.int .i8 21) rfl, tT, .get tab_StepsL_0 15 (.int .i8 18) rfl, tF, .ret _ _ _ c0, .ret _ _ _ c1, .ret _ _ _ c2, .ret _ _ _ c3]) (by kernel_rfl)).to (by clear E1; (try simp only [IntKind.bits, and31, and63, and32, wrap_mod32, wrap_mod64] at *); simp [wk, wkL, wkO, stepsM, aluM, regOp, immOp, zeroImm, takeD, giveD, two, num, cmov, irD, ]; try ((try simp only [w_u64, w_i64, and32, IntKind.bits, Int.mul_one] at *); omega))
 have c4 := @l_take_ok 0 dst
 have c5 := @l_take_ok 1 src
 have c6 := @l_one_ok 21 64 0
 have c7 := @l_give_ok dst 0
 have c8 := @l_steps_ok ([(irD 1 0 0 0 0 0 0 0 0 dst 0 0 0), (irD 1 0 0 0 0 0 0 0 0 src 1 0 0), (irD 0 21 64 0 0 0 0 0 0 0 0 0 0), (irD 2 0 0 0 0 0 0 0 0 dst 0 0 0)])
 exact (o87 (d := .lst .tight 13 [(irD 1 0 0 0 0 0 0 0 0 dst 0 0 0), (irD 1 0 0 0 0 0 0 0 0 src 1 0 0), (irD 0 21 64 0 0 0 0 0 0 0 0 0 0), (irD 2 0 0 0 0 0 0 0 0 dst 0 0 0)]) (E1 ++ [.get tab_StepsL_0 14 (.int .i8 21) rfl, tT, .get tab_StepsL_0 15 (.int .i8 18) rfl, tT, .ret _ _ _ c4, .ret _ _ _ c5, .ret _ _ _ c6, .ret _ _ _ c7, .ret _ _ _ c8]) (by kernel_rfl)).to (by clear E1; (try simp only [IntKind.bits, and31, and63, and32, wrap_mod32, wrap_mod64] at *); simp [wk, wkL, wkO, stepsM, aluM, regOp, immOp, zeroImm, takeD, giveD, two, num, cmov, irD, ]; try ((try simp only [w_u64, w_i64, and32, IntKind.bits, Int.mul_one] at *); omega))
theorem does_0_8_32_ok (byReg : Bool) (dst src imm : Int) (hi1 : -2147483648 ≤ imm) (hi2 : imm ≤ 2147483647) (h : byReg = false) : Ret Tryz.prog 87 ([instD 0 8 32 0 byReg dst src 0 imm]) (.lst .no 13 (stepsM 0 8 32 0 byReg dst src 0 imm)) := by
 have c0 := @l_take_ok 0 dst
 have c1 := @l_one_ok 23 32 0
 have c2 := @l_give_ok dst 0
 have c3 := @l_steps_ok ([(irD 1 0 0 0 0 0 0 0 0 dst 0 0 0), (irD 0 23 32 0 0 0 0 0 0 0 0 0 0), (irD 2 0 0 0 0 0 0 0 0 dst 0 0 0)])
 exact (o87 (d := .lst .tight 13 [(irD 1 0 0 0 0 0 0 0 0 dst 0 0 0), (irD 0 23 32 0 0 0 0 0 0 0 0 0 0), (irD 2 0 0 0 0 0 0 0 0 dst 0 0 0)]) [tT, .get ([D.fn (Fn.func 138) [] [], D.fn (Fn.func 139) [] [], D.fn (Fn.func 140) [] [], D.nilf, D.nilf, D.fn (Fn.func 141) [] [], D.fn (Fn.func 142) [] []]) 0 (D.fn (Fn.func 138) [] []) rfl, tT, .inl, tT, .get ([D.fn (Fn.func 175) [] [], D.fn (Fn.func 175) [] [], D.fn (Fn.func 176) [] [], D.fn (Fn.func 180) [] [], D.fn (Fn.func 175) [] [], D.fn (Fn.func 175) [] [], D.fn (Fn.func 179) [] [], D.fn (Fn.func 179) [] [], D.fn (Fn.func 177) [] [], D.fn (Fn.func 181) [] [], D.fn (Fn.func 175) [] [], D.fn (Fn.func 178) [] [], D.fn (Fn.func 179) [] []]) 8 (D.fn (Fn.func 177) [] []) rfl, .inl, .ret _ _ _ c0, .ret _ _ _ c1, .ret _ _ _ c2, .ret _ _ _ c3] (by kernel_rfl)).to (by (try simp only [IntKind.bits, and31, and63, and32, wrap_mod32, wrap_mod64] at *); simp [wk, wkL, wkO, stepsM, aluM, regOp, immOp, zeroImm, takeD, giveD, two, num, cmov, irD, ]; try ((try simp only [w_u64, w_i64, and32, IntKind.bits, Int.mul_one] at *); omega))
theorem does_0_8_64_ok (byReg : Bool) (dst src imm : Int) (hi1 : -2147483648 ≤ imm) (hi2 : imm ≤ 2147483647) (h : byReg = false) : Ret Tryz.prog 87 ([instD 0 8 64 0 byReg dst src 0 imm]) (.lst .no 13 (stepsM 0 8 64 0 byReg dst src 0 imm)) := by
 have c0 := @l_take_ok 0 dst
 have c1 := @l_one_ok 23 64 0
 have c2 := @l_give_ok dst 0
 have c3 := @l_steps_ok ([(irD 1 0 0 0 0 0 0 0 0 dst 0 0 0), (irD 0 23 64 0 0 0 0 0 0 0 0 0 0), (irD 2 0 0 0 0 0 0 0 0 dst 0 0 0)])
 exact (o87 (d := .lst .tight 13 [(irD 1 0 0 0 0 0 0 0 0 dst 0 0 0), (irD 0 23 64 0 0 0 0 0 0 0 0 0 0), (irD 2 0 0 0 0 0 0 0 0 dst 0 0 0)]) [tT, .get ([D.fn (Fn.func 138) [] [], D.fn (Fn.func 139) [] [], D.fn (Fn.func 140) [] [], D.nilf, D.nilf, D.fn (Fn.func 141) [] [], D.fn (Fn.func 142) [] []]) 0 (D.fn (Fn.func 138) [] []) rfl, tT, .inl, tT, .get ([D.fn (Fn.func 175) [] [], D.fn (Fn.func 175) [] [], D.fn (Fn.func 176) [] [], D.fn (Fn.func 180) [] [], D.fn (Fn.func 175) [] [], D.fn (Fn.func 175) [] [], D.fn (Fn.func 179) [] [], D.fn (Fn.func 179) [] [], D.fn (Fn.func 177) [] [], D.fn (Fn.func 181) [] [], D.fn (Fn.func 175) [] [], D.fn (Fn.func 178) [] [], D.fn (Fn.func 179) [] []]) 8 (D.fn (Fn.func 177) [] []) rfl, .inl, .ret _ _ _ c0, .ret _ _ _ c1, .ret _ _ _ c2, .ret _ _ _ c3] (by kernel_rfl)).to (by (try simp only [IntKind.bits, and31, and63, and32, wrap_mod32, wrap_mod64] at *); simp [wk, wkL, wkO, stepsM, aluM, regOp, immOp, zeroImm, takeD, giveD, two, num, cmov, irD, ]; try ((try simp only [w_u64, w_i64, and32, IntKind.bits, Int.mul_one] at *); omega))
theorem does_0_9_32_ok : SpStepsL0 9 32 := by
 intro byReg dst src imm hi1 hi2
 let E1 : EL := [tT, .get ([D.fn (Fn.func 138) [] [], D.fn (Fn.func 139) [] [], D.fn (Fn.func 140) [] [], D.nilf, D.nilf, D.fn (Fn.func 141) [] [], D.fn (Fn.func 142) [] []]) 0 (D.fn (Fn.func 138) [] []) rfl, tT, .inl, tT, .get ([D.fn (Fn.func 175) [] [], D.fn (Fn.func 175) [] [], D.fn (Fn.func 176) [] [], D.fn (Fn.func 180) [] [], D.fn (Fn.func 175) [] [], D.fn (Fn.func 175) [] [], D.fn (Fn.func 179) [] [], D.fn (Fn.func 179) [] [], D.fn (Fn.func 177) [] [], D.fn (Fn.func 181) [] [], D.fn (Fn.func 175) [] [], D.fn (Fn.func 178) [] [], D.fn (Fn.func 179) [] []]) 9 (D.fn (Fn.func 181) [] []) rfl, .inl, .inl]
 cases byReg
 ·by_cases h0 : IntKind.wrap IntKind.u64 (IntKind.wrap IntKind.u64 imm * 4294967296) = 0
  ·have c1 := @l_take_ok 0 dst
   have c2 := @l_steps_ok ([(irD 1 0 0 0 0 0 0 0 0 dst 0 0 0)])
   have c3 := @l_short32_ok 0 9 0 false dst src 0 imm
   have c4 := @l_give_ok dst 0
   exact (o87 (d := .lst (.fresh 13) 13 [(irD 1 0 0 0 0 0 0 0 0 dst 0 0 0), (irD 0 0 32 0 0 0 0 0 0 0 0 0 0), (irD 2 0 0 0 0 0 0 0 0 dst 0 0 0)]) (E1 ++ List.replicate 11 tT ++ [tC (eqI 0 true h0), .ret _ _ _ c1, .ret _ _ _ c2, .ret _ _ _ c3, .len 2 2147483648 (by decide), .ret _ _ _ c4, .len 3 2147483648 (by decide)]) (by kernel_rfl)).to (by clear E1; (try simp only [IntKind.bits, and31, and63, and32, wrap_mod32, wrap_mod64] at *); simp [wk, wkL, wkO, stepsM, aluM, regOp, immOp, zeroImm, takeD, giveD, two, num, cmov, irD, h0]; try ((try simp only [w_u64, w_i64, and32, IntKind.bits, Int.mul_one] at *); omega))
  have c5 := @l_take_ok 11 dst
  have c6 := @l_give_ok dst 2
  have c7 := @l_take_ok 0 dst
  have c8 := @l_steps_ok ([(irD 1 0 0 0 0 0 0 0 0 dst 0 0 0)])
  have c9 := @l_num_ok 1 32 1 imm
  have c10 := @l_num_ok 1 32 2 0
  have c11 := @l_one_ok 24 32 1
  exact (o87 (d := .lst (.fresh 13) 13 [(irD 1 0 0 0 0 0 0 0 0 dst 0 0 0), (irD 0 1 32 1 0 0 0 imm 0 0 0 0 0), (irD 0 1 32 2 0 0 0 0 0 0 0 0 0), (irD 0 24 32 1 0 0 0 0 0 0 0 0 0), (irD 2 0 0 0 0 0 0 0 0 dst 2 0 0)]) (E1 ++ List.replicate 11 tT ++ [tC (neOf h0), .ret _ _ _ c5, .inl, .ret _ _ _ c6, .ret _ _ _ c7, .ret _ _ _ c8, tT, .ret _ _ _ c9, .ret _ _ _ c10, .ret _ _ _ c11, .len 5 2147483648 (by decide)]) (by kernel_rfl)).to (by clear E1; (try simp only [IntKind.bits, and31, and63, and32, wrap_mod32, wrap_mod64] at *); simp [wk, wkL, wkO, stepsM, aluM, regOp, immOp, zeroImm, takeD, giveD, two, num, cmov, irD, h0]; try ((try simp only [w_u64, w_i64, and32, IntKind.bits, Int.mul_one] at *); omega))
 have c12 := @l_take_ok 11 dst
 have c13 := @l_give_ok dst 2
 have c14 := @l_take_ok 0 dst
 have c15 := @l_steps_ok ([(irD 1 0 0 0 0 0 0 0 0 dst 0 0 0)])
 have c16 := @l_take_ok 1 src
 have c17 := @l_num_ok 1 32 2 0
 have c18 := @l_num_ok 1 32 11 1
 have c19 := @l_choose_ok 32 1
 have c20 := @l_one_ok 24 32 1
 have c21 := @l_take_ok 1 src
 have c22 := @l_choose_ok 32 2
 exact (o87 (d := .lst (.fresh 13) 13 [(irD 1 0 0 0 0 0 0 0 0 dst 0 0 0), (irD 1 0 0 0 0 0 0 0 0 src 1 0 0), (irD 0 1 32 2 0 0 0 0 0 0 0 0 0), (irD 0 1 32 11 0 0 0 1 0 0 0 0 0), (irD 0 8 32 1 1 0 0 0 0 0 0 0 0), (irD 0 25 32 1 11 0 0 0 4 0 0 0 0), (irD 0 24 32 1 0 0 0 0 0 0 0 0 0), (irD 1 0 0 0 0 0 0 0 0 src 1 0 0), (irD 1 0 0 0 0 0 0 0 0 dst 11 0 0), (irD 0 8 32 1 1 0 0 0 0 0 0 0 0), (irD 0 25 32 2 11 0 0 0 4 0 0 0 0), (irD 2 0 0 0 0 0 0 0 0 dst 2 0 0)]) (E1 ++ List.replicate 11 tF ++ [.ret _ _ _ c12, .inl, .ret _ _ _ c13, .ret _ _ _ c14, .ret _ _ _ c15, tF, .ret _ _ _ c16, .ret _ _ _ c17, .ret _ _ _ c18, .len 4 2147483648 (by decide), .ret _ _ _ c19, .len 6 2147483648 (by decide), .ret _ _ _ c20, .ret _ _ _ c21, .len 9 2147483648 (by decide), .ret _ _ _ c22, .len 11 2147483648 (by decide), .len 12 2147483648 (by decide)]) (by kernel_rfl)).to (by clear E1; (try simp only [IntKind.bits, and31, and63, and32, wrap_mod32, wrap_mod64] at *); simp [wk, wkL, wkO, stepsM, aluM, regOp, immOp, zeroImm, takeD, giveD, two, num, cmov, irD, ]; try ((try simp only [w_u64, w_i64, and32, IntKind.bits, Int.mul_one] at *); omega))
theorem does_0_9_64_ok : SpStepsL0 9 64 := by
 intro byReg dst src imm hi1 hi2
 let E1 : EL := [tT, .get ([D.fn (Fn.func 138) [] [], D.fn (Fn.func 139) [] [], D.fn (Fn.func 140) [] [], D.nilf, D.nilf, D.fn (Fn.func 141) [] [], D.fn (Fn.func 142) [] []]) 0 (D.fn (Fn.func 138) [] []) rfl, tT, .inl, tT, .get ([D.fn (Fn.func 175) [] [], D.fn (Fn.func 175) [] [], D.fn (Fn.func 176) [] [], D.fn (Fn.func 180) [] [], D.fn (Fn.func 175) [] [], D.fn (Fn.func 175) [] [], D.fn (Fn.func 179) [] [], D.fn (Fn.func 179) [] [], D.fn (Fn.func 177) [] [], D.fn (Fn.func 181) [] [], D.fn (Fn.func 175) [] [], D.fn (Fn.func 178) [] [], D.fn (Fn.func 179) [] []]) 9 (D.fn (Fn.func 181) [] []) rfl, .inl, .inl]
 cases byReg
 ·by_cases h0 : IntKind.wrap IntKind.u64 (IntKind.wrap IntKind.u64 imm * 1) = 0
  ·have c1 := @l_take_ok 0 dst
   have c2 := @l_steps_ok ([(irD 1 0 0 0 0 0 0 0 0 dst 0 0 0)])
   have c3 := @l_short64_ok 0 9 0 false dst src 0 imm
   have c4 := @l_give_ok dst 0
   exact (o87 (d := .lst (.fresh 13) 13 [(irD 1 0 0 0 0 0 0 0 0 dst 0 0 0), (irD 2 0 0 0 0 0 0 0 0 dst 0 0 0)]) (E1 ++ List.replicate 11 tT ++ [tC (eqI 0 true h0), .ret _ _ _ c1, .ret _ _ _ c2, .ret _ _ _ c3, .len 1 2147483648 (by decide), .ret _ _ _ c4, .len 2 2147483648 (by decide)]) (by kernel_rfl)).to (by clear E1; (try simp only [IntKind.bits, and31, and63, and32, wrap_mod32, wrap_mod64] at *); simp [wk, wkL, wkO, stepsM, aluM, regOp, immOp, zeroImm, takeD, giveD, two, num, cmov, irD, h0]; try ((try simp only [w_u64, w_i64, and32, IntKind.bits, Int.mul_one] at *); omega))
  have c5 := @l_take_ok 11 dst
  have c6 := @l_give_ok dst 2
  have c7 := @l_take_ok 0 dst
  have c8 := @l_steps_ok ([(irD 1 0 0 0 0 0 0 0 0 dst 0 0 0)])
  have c9 := @l_num_ok 1 64 1 imm
  have c10 := @l_num_ok 1 32 2 0
  have c11 := @l_one_ok 24 64 1
  exact (o87 (d := .lst (.fresh 13) 13 [(irD 1 0 0 0 0 0 0 0 0 dst 0 0 0), (irD 0 1 64 1 0 0 0 imm 0 0 0 0 0), (irD 0 1 32 2 0 0 0 0 0 0 0 0 0), (irD 0 24 64 1 0 0 0 0 0 0 0 0 0), (irD 2 0 0 0 0 0 0 0 0 dst 2 0 0)]) (E1 ++ List.replicate 11 tT ++ [tC (neOf h0), .ret _ _ _ c5, .inl, .ret _ _ _ c6, .ret _ _ _ c7, .ret _ _ _ c8, tT, .ret _ _ _ c9, .ret _ _ _ c10, .ret _ _ _ c11, .len 5 2147483648 (by decide)]) (by kernel_rfl)).to (by clear E1; (try simp only [IntKind.bits, and31, and63, and32, wrap_mod32, wrap_mod64] at *); simp [wk, wkL, wkO, stepsM, aluM, regOp, immOp, zeroImm, takeD, giveD, two, num, cmov, irD, h0]; try ((try simp only [w_u64, w_i64, and32, IntKind.bits, Int.mul_one] at *); omega))
 have c12 := @l_take_ok 11 dst
 have c13 := @l_give_ok dst 2
 have c14 := @l_take_ok 0 dst
 have c15 := @l_steps_ok ([(irD 1 0 0 0 0 0 0 0 0 dst 0 0 0)])
 have c16 := @l_take_ok 1 src
 have c17 := @l_num_ok 1 32 2 0
 have c18 := @l_num_ok 1 32 11 1
 have c19 := @l_choose_ok 64 1
 have c20 := @l_one_ok 24 64 1
 have c21 := @l_take_ok 1 src
 have c22 := @l_choose_ok 64 2
 exact (o87 (d := .lst (.fresh 13) 13 [(irD 1 0 0 0 0 0 0 0 0 dst 0 0 0), (irD 1 0 0 0 0 0 0 0 0 src 1 0 0), (irD 0 1 32 2 0 0 0 0 0 0 0 0 0), (irD 0 1 32 11 0 0 0 1 0 0 0 0 0), (irD 0 8 64 1 1 0 0 0 0 0 0 0 0), (irD 0 25 64 1 11 0 0 0 4 0 0 0 0), (irD 0 24 64 1 0 0 0 0 0 0 0 0 0), (irD 1 0 0 0 0 0 0 0 0 src 1 0 0), (irD 1 0 0 0 0 0 0 0 0 dst 11 0 0), (irD 0 8 64 1 1 0 0 0 0 0 0 0 0), (irD 0 25 64 2 11 0 0 0 4 0 0 0 0), (irD 2 0 0 0 0 0 0 0 0 dst 2 0 0)]) (E1 ++ List.replicate 11 tF ++ [.ret _ _ _ c12, .inl, .ret _ _ _ c13, .ret _ _ _ c14, .ret _ _ _ c15, tF, .ret _ _ _ c16, .ret _ _ _ c17, .ret _ _ _ c18, .len 4 2147483648 (by decide), .ret _ _ _ c19, .len 6 2147483648 (by decide), .ret _ _ _ c20, .ret _ _ _ c21, .len 9 2147483648 (by decide), .ret _ _ _ c22, .len 11 2147483648 (by decide), .len 12 2147483648 (by decide)]) (by kernel_rfl)).to (by clear E1; (try simp only [IntKind.bits, and31, and63, and32, wrap_mod32, wrap_mod64] at *); simp [wk, wkL, wkO, stepsM, aluM, regOp, immOp, zeroImm, takeD, giveD, two, num, cmov, irD, ]; try ((try simp only [w_u64, w_i64, and32, IntKind.bits, Int.mul_one] at *); omega))
theorem does_0_10_32_ok : SpStepsL0 10 32 := by
 intro byReg dst src imm hi1 hi2
 let E1 : EL := [tT, .get ([D.fn (Fn.func 138) [] [], D.fn (Fn.func 139) [] [], D.fn (Fn.func 140) [] [], D.nilf, D.nilf, D.fn (Fn.func 141) [] [], D.fn (Fn.func 142) [] []]) 0 (D.fn (Fn.func 138) [] []) rfl, tT, .inl, tT, .get ([D.fn (Fn.func 175) [] [], D.fn (Fn.func 175) [] [], D.fn (Fn.func 176) [] [], D.fn (Fn.func 180) [] [], D.fn (Fn.func 175) [] [], D.fn (Fn.func 175) [] [], D.fn (Fn.func 179) [] [], D.fn (Fn.func 179) [] [], D.fn (Fn.func 177) [] [], D.fn (Fn.func 181) [] [], D.fn (Fn.func 175) [] [], D.fn (Fn.func 178) [] [], D.fn (Fn.func 179) [] []]) 10 (D.fn (Fn.func 175) [] []) rfl, .inl, .inl, tT]
 cases byReg
 ·have c0 := @l_take_ok 0 dst
  have c1 := @l_num_ok 13 32 0 imm
  have c2 := @l_give_ok dst 0
  have c3 := @l_steps_ok ([(irD 1 0 0 0 0 0 0 0 0 dst 0 0 0), (irD 0 13 32 0 0 0 0 imm 0 0 0 0 0), (irD 2 0 0 0 0 0 0 0 0 dst 0 0 0)])
  exact (o87 (d := .lst .tight 13 [(irD 1 0 0 0 0 0 0 0 0 dst 0 0 0), (irD 0 13 32 0 0 0 0 imm 0 0 0 0 0), (irD 2 0 0 0 0 0 0 0 0 dst 0 0 0)]) (E1 ++ [.get tab_StepsL_0 20 (.int .i8 6) rfl, tT, .get tab_StepsL_0 21 (.int .i8 13) rfl, tF, .ret _ _ _ c0, .ret _ _ _ c1, .ret _ _ _ c2, .ret _ _ _ c3]) (by kernel_rfl)).to (by clear E1; (try simp only [IntKind.bits, and31, and63, and32, wrap_mod32, wrap_mod64] at *); simp [wk, wkL, wkO, stepsM, aluM, regOp, immOp, zeroImm, takeD, giveD, two, num, cmov, irD, ]; try ((try simp only [w_u64, w_i64, and32, IntKind.bits, Int.mul_one] at *); omega))
 have c4 := @l_take_ok 0 dst
 have c5 := @l_take_ok 1 src
 have c6 := @l_two_ok 6 32 0 1
 have c7 := @l_give_ok dst 0
 have c8 := @l_steps_ok ([(irD 1 0 0 0 0 0 0 0 0 dst 0 0 0), (irD 1 0 0 0 0 0 0 0 0 src 1 0 0), (irD 0 6 32 0 1 0 0 0 0 0 0 0 0), (irD 2 0 0 0 0 0 0 0 0 dst 0 0 0)])
 exact (o87 (d := .lst .tight 13 [(irD 1 0 0 0 0 0 0 0 0 dst 0 0 0), (irD 1 0 0 0 0 0 0 0 0 src 1 0 0), (irD 0 6 32 0 1 0 0 0 0 0 0 0 0), (irD 2 0 0 0 0 0 0 0 0 dst 0 0 0)]) (E1 ++ [.get tab_StepsL_0 20 (.int .i8 6) rfl, tT, .get tab_StepsL_0 21 (.int .i8 13) rfl, tT, .ret _ _ _ c4, .ret _ _ _ c5, .ret _ _ _ c6, .ret _ _ _ c7, .ret _ _ _ c8]) (by kernel_rfl)).to (by clear E1; (try simp only [IntKind.bits, and31, and63, and32, wrap_mod32, wrap_mod64] at *); simp [wk, wkL, wkO, stepsM, aluM, regOp, immOp, zeroImm, takeD, giveD, two, num, cmov, irD, ]; try ((try simp only [w_u64, w_i64, and32, IntKind.bits, Int.mul_one] at *); omega))
theorem does_0_10_64_ok : SpStepsL0 10 64 := by
 intro byReg dst src imm hi1 hi2
 let E1 : EL := [tT, .get ([D.fn (Fn.func 138) [] [], D.fn (Fn.func 139) [] [], D.fn (Fn.func 140) [] [], D.nilf, D.nilf, D.fn (Fn.func 141) [] [], D.fn (Fn.func 142) [] []]) 0 (D.fn (Fn.func 138) [] []) rfl, tT, .inl, tT, .get ([D.fn (Fn.func 175) [] [], D.fn (Fn.func 175) [] [], D.fn (Fn.func 176) [] [], D.fn (Fn.func 180) [] [], D.fn (Fn.func 175) [] [], D.fn (Fn.func 175) [] [], D.fn (Fn.func 179) [] [], D.fn (Fn.func 179) [] [], D.fn (Fn.func 177) [] [], D.fn (Fn.func 181) [] [], D.fn (Fn.func 175) [] [], D.fn (Fn.func 178) [] [], D.fn (Fn.func 179) [] []]) 10 (D.fn (Fn.func 175) [] []) rfl, .inl, .inl, tT]
 cases byReg
 ·have c0 := @l_take_ok 0 dst
  have c1 := @l_num_ok 13 64 0 imm
  have c2 := @l_give_ok dst 0
  have c3 := @l_steps_ok ([(irD 1 0 0 0 0 0 0 0 0 dst 0 0 0), (irD 0 13 64 0 0 0 0 imm 0 0 0 0 0), (irD 2 0 0 0 0 0 0 0 0 dst 0 0 0)])
  exact (o87 (d := .lst .tight 13 [(irD 1 0 0 0 0 0 0 0 0 dst 0 0 0), (irD 0 13 64 0 0 0 0 imm 0 0 0 0 0), (irD 2 0 0 0 0 0 0 0 0 dst 0 0 0)]) (E1 ++ [.get tab_StepsL_0 20 (.int .i8 6) rfl, tT, .get tab_StepsL_0 21 (.int .i8 13) rfl, tF, .ret _ _ _ c0, .ret _ _ _ c1, .ret _ _ _ c2, .ret _ _ _ c3]) (by kernel_rfl)).to (by clear E1; (try simp only [IntKind.bits, and31, and63, and32, wrap_mod32, wrap_mod64] at *); simp [wk, wkL, wkO, stepsM, aluM, regOp, immOp, zeroImm, takeD, giveD, two, num, cmov, irD, ]; try ((try simp only [w_u64, w_i64, and32, IntKind.bits, Int.mul_one] at *); omega))
 have c4 := @l_take_ok 0 dst
 have c5 := @l_take_ok 1 src
 have c6 := @l_two_ok 6 64 0 1
 have c7 := @l_give_ok dst 0
 have c8 := @l_steps_ok ([(irD 1 0 0 0 0 0 0 0 0 dst 0 0 0), (irD 1 0 0 0 0 0 0 0 0 src 1 0 0), (irD 0 6 64 0 1 0 0 0 0 0 0 0 0), (irD 2 0 0 0 0 0 0 0 0 dst 0 0 0)])
 exact (o87 (d := .lst .tight 13 [(irD 1 0 0 0 0 0 0 0 0 dst 0 0 0), (irD 1 0 0 0 0 0 0 0 0 src 1 0 0), (irD 0 6 64 0 1 0 0 0 0 0 0 0 0), (irD 2 0 0 0 0 0 0 0 0 dst 0 0 0)]) (E1 ++ [.get tab_StepsL_0 20 (.int .i8 6) rfl, tT, .get tab_StepsL_0 21 (.int .i8 13) rfl, tT, .ret _ _ _ c4, .ret _ _ _ c5, .ret _ _ _ c6, .ret _ _ _ c7, .ret _ _ _ c8]) (by kernel_rfl)).to (by clear E1; (try simp only [IntKind.bits, and31, and63, and32, wrap_mod32, wrap_mod64] at *); simp [wk, wkL, wkO, stepsM, aluM, regOp, immOp, zeroImm, takeD, giveD, two, num, cmov, irD, ]; try ((try simp only [w_u64, w_i64, and32, IntKind.bits, Int.mul_one] at *); omega))
theorem does_0_11_32_ok : SpStepsL0 11 32 := by
 intro byReg dst src imm hi1 hi2
 let E1 : EL := [tT, .get ([D.fn (Fn.func 138) [] [], D.fn (Fn.func 139) [] [], D.fn (Fn.func 140) [] [], D.nilf, D.nilf, D.fn (Fn.func 141) [] [], D.fn (Fn.func 142) [] []]) 0 (D.fn (Fn.func 138) [] []) rfl, tT, .inl, tT, .get ([D.fn (Fn.func 175) [] [], D.fn (Fn.func 175) [] [], D.fn (Fn.func 176) [] [], D.fn (Fn.func 180) [] [], D.fn (Fn.func 175) [] [], D.fn (Fn.func 175) [] [], D.fn (Fn.func 179) [] [], D.fn (Fn.func 179) [] [], D.fn (Fn.func 177) [] [], D.fn (Fn.func 181) [] [], D.fn (Fn.func 175) [] [], D.fn (Fn.func 178) [] [], D.fn (Fn.func 179) [] []]) 11 (D.fn (Fn.func 178) [] []) rfl, .inl]
 cases byReg
 ·have c0 := @l_num_ok 1 32 0 imm
  have c1 := @l_give_ok dst 0
  have c2 := @l_steps_ok ([(irD 0 1 32 0 0 0 0 imm 0 0 0 0 0), (irD 2 0 0 0 0 0 0 0 0 dst 0 0 0)])
  exact (o87 (d := .lst .tight 13 [(irD 0 1 32 0 0 0 0 imm 0 0 0 0 0), (irD 2 0 0 0 0 0 0 0 0 dst 0 0 0)]) (E1 ++ [tT, .ret _ _ _ c0, .ret _ _ _ c1, .ret _ _ _ c2]) (by kernel_rfl)).to (by clear E1; (try simp only [IntKind.bits, and31, and63, and32, wrap_mod32, wrap_mod64] at *); simp [wk, wkL, wkO, stepsM, aluM, regOp, immOp, zeroImm, takeD, giveD, two, num, cmov, irD, ]; try ((try simp only [w_u64, w_i64, and32, IntKind.bits, Int.mul_one] at *); omega))
 have c3 := @l_take_ok 0 src
 have c4 := @l_steps_ok ([(irD 1 0 0 0 0 0 0 0 0 src 0 0 0)])
 have c5 := @l_short32_ok 0 11 0 true dst src 0 imm
 have c6 := @l_give_ok dst 0
 exact (o87 (d := .lst (.fresh 13) 13 [(irD 1 0 0 0 0 0 0 0 0 src 0 0 0), (irD 0 0 32 0 0 0 0 0 0 0 0 0 0), (irD 2 0 0 0 0 0 0 0 0 dst 0 0 0)]) (E1 ++ [tF, .ret _ _ _ c3, .ret _ _ _ c4, .ret _ _ _ c5, .len 2 2147483648 (by decide), .ret _ _ _ c6, .len 3 2147483648 (by decide)]) (by kernel_rfl)).to (by clear E1; (try simp only [IntKind.bits, and31, and63, and32, wrap_mod32, wrap_mod64] at *); simp [wk, wkL, wkO, stepsM, aluM, regOp, immOp, zeroImm, takeD, giveD, two, num, cmov, irD, ]; try ((try simp only [w_u64, w_i64, and32, IntKind.bits, Int.mul_one] at *); omega))
theorem does_0_11_64_ok : SpStepsL0 11 64 := by
 intro byReg dst src imm hi1 hi2
 let E1 : EL := [tT, .get ([D.fn (Fn.func 138) [] [], D.fn (Fn.func 139) [] [], D.fn (Fn.func 140) [] [], D.nilf, D.nilf, D.fn (Fn.func 141) [] [], D.fn (Fn.func 142) [] []]) 0 (D.fn (Fn.func 138) [] []) rfl, tT, .inl, tT, .get ([D.fn (Fn.func 175) [] [], D.fn (Fn.func 175) [] [], D.fn (Fn.func 176) [] [], D.fn (Fn.func 180) [] [], D.fn (Fn.func 175) [] [], D.fn (Fn.func 175) [] [], D.fn (Fn.func 179) [] [], D.fn (Fn.func 179) [] [], D.fn (Fn.func 177) [] [], D.fn (Fn.func 181) [] [], D.fn (Fn.func 175) [] [], D.fn (Fn.func 178) [] [], D.fn (Fn.func 179) [] []]) 11 (D.fn (Fn.func 178) [] []) rfl, .inl]
 cases byReg
 ·have c0 := @l_num_ok 1 64 0 imm
  have c1 := @l_give_ok dst 0
  have c2 := @l_steps_ok ([(irD 0 1 64 0 0 0 0 imm 0 0 0 0 0), (irD 2 0 0 0 0 0 0 0 0 dst 0 0 0)])
  exact (o87 (d := .lst .tight 13 [(irD 0 1 64 0 0 0 0 imm 0 0 0 0 0), (irD 2 0 0 0 0 0 0 0 0 dst 0 0 0)]) (E1 ++ [tT, .ret _ _ _ c0, .ret _ _ _ c1, .ret _ _ _ c2]) (by kernel_rfl)).to (by clear E1; (try simp only [IntKind.bits, and31, and63, and32, wrap_mod32, wrap_mod64] at *); simp [wk, wkL, wkO, stepsM, aluM, regOp, immOp, zeroImm, takeD, giveD, two, num, cmov, irD, ]; try ((try simp only [w_u64, w_i64, and32, IntKind.bits, Int.mul_one] at *); omega))
 have c3 := @l_take_ok 0 src
 have c4 := @l_steps_ok ([(irD 1 0 0 0 0 0 0 0 0 src 0 0 0)])
 have c5 := @l_short64_ok 0 11 0 true dst src 0 imm
 have c6 := @l_give_ok dst 0
 exact (o87 (d := .lst (.fresh 13) 13 [(irD 1 0 0 0 0 0 0 0 0 src 0 0 0), (irD 2 0 0 0 0 0 0 0 0 dst 0 0 0)]) (E1 ++ [tF, .ret _ _ _ c3, .ret _ _ _ c4, .ret _ _ _ c5, .len 1 2147483648 (by decide), .ret _ _ _ c6, .len 2 2147483648 (by decide)]) (by kernel_rfl)).to (by clear E1; (try simp only [IntKind.bits, and31, and63, and32, wrap_mod32, wrap_mod64] at *); simp [wk, wkL, wkO, stepsM, aluM, regOp, immOp, zeroImm, takeD, giveD, two, num, cmov, irD, ]; try ((try simp only [w_u64, w_i64, and32, IntKind.bits, Int.mul_one] at *); omega))
theorem does_0_12_32_ok : SpStepsL0 12 32 := by
 intro byReg dst src imm hi1 hi2
 let E1 : EL := [tT, .get ([D.fn (Fn.func 138) [] [], D.fn (Fn.func 139) [] [], D.fn (Fn.func 140) [] [], D.nilf, D.nilf, D.fn (Fn.func 141) [] [], D.fn (Fn.func 142) [] []]) 0 (D.fn (Fn.func 138) [] []) rfl, tT, .inl, tT, .get ([D.fn (Fn.func 175) [] [], D.fn (Fn.func 175) [] [], D.fn (Fn.func 176) [] [], D.fn (Fn.func 180) [] [], D.fn (Fn.func 175) [] [], D.fn (Fn.func 175) [] [], D.fn (Fn.func 179) [] [], D.fn (Fn.func 179) [] [], D.fn (Fn.func 177) [] [], D.fn (Fn.func 181) [] [], D.fn (Fn.func 175) [] [], D.fn (Fn.func 178) [] [], D.fn (Fn.func 179) [] []]) 12 (D.fn (Fn.func 179) [] []) rfl, .inl, .inl, tT]
 cases byReg
 ·have c0 := @l_take_ok 0 dst
  have c1 := @l_num_ok 19 32 0 (IntKind.wrap IntKind.i64 (↑(BitVec.toNat (BitVec.ofInt (64 : Nat) imm &&& BitVec.ofInt (64 : Nat) 31)) : Int))
  have c2 := @l_give_ok dst 0
  have c3 := @l_steps_ok ([(irD 1 0 0 0 0 0 0 0 0 dst 0 0 0), (irD 0 19 32 0 0 0 0 (IntKind.wrap IntKind.i64 (↑(BitVec.toNat (BitVec.ofInt (64 : Nat) imm &&& BitVec.ofInt (64 : Nat) 31)) : Int)) 0 0 0 0 0), (irD 2 0 0 0 0 0 0 0 0 dst 0 0 0)])
  exact (o87 (d := .lst .tight 13 [(irD 1 0 0 0 0 0 0 0 0 dst 0 0 0), (irD 0 19 32 0 0 0 0 (IntKind.wrap IntKind.i64 (↑(BitVec.toNat (BitVec.ofInt (64 : Nat) imm &&& BitVec.ofInt (64 : Nat) 31)) : Int)) 0 0 0 0 0), (irD 2 0 0 0 0 0 0 0 0 dst 0 0 0)]) (E1 ++ [.get tab_StepsL_0 24 (.int .i8 22) rfl, tT, .get tab_StepsL_0 25 (.int .i8 19) rfl, tF, .ret _ _ _ c0, .ret _ _ _ c1, .ret _ _ _ c2, .ret _ _ _ c3]) (by kernel_rfl)).to (by clear E1; (try simp only [IntKind.bits, and31, and63, and32, wrap_mod32, wrap_mod64] at *); simp [wk, wkL, wkO, stepsM, aluM, regOp, immOp, zeroImm, takeD, giveD, two, num, cmov, irD, ]; try ((try simp only [w_u64, w_i64, and32, IntKind.bits, Int.mul_one] at *); omega))
 have c4 := @l_take_ok 0 dst
 have c5 := @l_take_ok 1 src
 have c6 := @l_one_ok 22 32 0
 have c7 := @l_give_ok dst 0
 have c8 := @l_steps_ok ([(irD 1 0 0 0 0 0 0 0 0 dst 0 0 0), (irD 1 0 0 0 0 0 0 0 0 src 1 0 0), (irD 0 22 32 0 0 0 0 0 0 0 0 0 0), (irD 2 0 0 0 0 0 0 0 0 dst 0 0 0)])
 exact (o87 (d := .lst .tight 13 [(irD 1 0 0 0 0 0 0 0 0 dst 0 0 0), (irD 1 0 0 0 0 0 0 0 0 src 1 0 0), (irD 0 22 32 0 0 0 0 0 0 0 0 0 0), (irD 2 0 0 0 0 0 0 0 0 dst 0 0 0)]) (E1 ++ [.get tab_StepsL_0 24 (.int .i8 22) rfl, tT, .get tab_StepsL_0 25 (.int .i8 19) rfl, tT, .ret _ _ _ c4, .ret _ _ _ c5, .ret _ _ _ c6, .ret _ _ _ c7, .ret _ _ _ c8]) (by kernel_rfl)).to (by clear E1; (try simp only [IntKind.bits, and31, and63, and32, wrap_mod32, wrap_mod64] at *); simp [wk, wkL, wkO, stepsM, aluM, regOp, immOp, zeroImm, takeD, giveD, two, num, cmov, irD, ]; try ((try simp only [w_u64, w_i64, and32, IntKind.bits, Int.mul_one] at *); omega))
theorem does_0_12_64_ok : SpStepsL0 12 64 := by
 intro byReg dst src imm hi1 hi2
 let E1 : EL := [tT, .get ([D.fn (Fn.func 138) [] [], D.fn (Fn.func 139) [] [], D.fn (Fn.func 140) [] [], D.nilf, D.nilf, D.fn (Fn.func 141) [] [], D.fn (Fn.func 142) [] []]) 0 (D.fn (Fn.func 138) [] []) rfl, tT, .inl, tT, .get ([D.fn (Fn.func 175) [] [], D.fn (Fn.func 175) [] [], D.fn (Fn.func 176) [] [], D.fn (Fn.func 180) [] [], D.fn (Fn.func 175) [] [], D.fn (Fn.func 175) [] [], D.fn (Fn.func 179) [] [], D.fn (Fn.func 179) [] [], D.fn (Fn.func 177) [] [], D.fn (Fn.func 181) [] [], D.fn (Fn.func 175) [] [], D.fn (Fn.func 178) [] [], D.fn (Fn.func 179) [] []]) 12 (D.fn (Fn.func 179) [] []) rfl, .inl, .inl, tT]
 cases byReg
 ·have c0 := @l_take_ok 0 dst
  have c1 := @l_num_ok 19 64 0 (IntKind.wrap IntKind.i64 (↑(BitVec.toNat (BitVec.ofInt (64 : Nat) imm &&& BitVec.ofInt (64 : Nat) 63)) : Int))
  have c2 := @l_give_ok dst 0
  have c3 := @l_steps_ok ([(irD 1 0 0 0 0 0 0 0 0 dst 0 0 0), (irD 0 19 64 0 0 0 0 (IntKind.wrap IntKind.i64 (↑(BitVec.toNat (BitVec.ofInt (64 : Nat) imm &&& BitVec.ofInt (64 : Nat) 63)) : Int)) 0 0 0 0 0), (irD 2 0 0 0 0 0 0 0 0 dst 0 0 0)])
  exact (o87 (d := .lst .tight 13 [(irD 1 0 0 0 0 0 0 0 0 dst 0 0 0), (irD 0 19 64 0 0 0 0 (IntKind.wrap IntKind.i64 (↑(BitVec.toNat (BitVec.ofInt (64 : Nat) imm &&& BitVec.ofInt (64 : Nat) 63)) : Int)) 0 0 0 0 0), (irD 2 0 0 0 0 0 0 0 0 dst 0 0 0)]) (E1 ++ [.get tab_StepsL_0 24 (.int .i8 22) rfl, tT, .get tab_StepsL_0 25 (.int .i8 19) rfl, tF, .ret _ _ _ c0, .ret _ _ _ c1, .ret _ _ _ c2, .ret _ _ _ c3]) (by kernel_rfl)).to (by clear E1; (try simp only [IntKind.bits, and31, and63, and32, wrap_mod32, wrap_mod64] at *); simp [wk, wkL, wkO, stepsM, aluM, regOp, immOp, zeroImm, takeD, giveD, two, num, cmov, irD, ]; try ((try simp only [w_u64, w_i64, and32, IntKind.bits, Int.mul_one] at *); omega))
 have c4 := @l_take_ok 0 dst
 have c5 := @l_take_ok 1 src
 have c6 := @l_one_ok 22 64 0
 have c7 := @l_give_ok dst 0
 have c8 := @l_steps_ok ([(irD 1 0 0 0 0 0 0 0 0 dst 0 0 0), (irD 1 0 0 0 0 0 0 0 0 src 1 0 0), (irD 0 22 64 0 0 0 0 0 0 0 0 0 0), (irD 2 0 0 0 0 0 0 0 0 dst 0 0 0)])
 exact (o87 (d := .lst .tight 13 [(irD 1 0 0 0 0 0 0 0 0 dst 0 0 0), (irD 1 0 0 0 0 0 0 0 0 src 1 0 0), (irD 0 22 64 0 0 0 0 0 0 0 0 0 0), (irD 2 0 0 0 0 0 0 0 0 dst 0 0 0)]) (E1 ++ [.get tab_StepsL_0 24 (.int .i8 22) rfl, tT, .get tab_StepsL_0 25 (.int .i8 19) rfl, tT, .ret _ _ _ c4, .ret _ _ _ c5, .ret _ _ _ c6, .ret _ _ _ c7, .ret _ _ _ c8]) (by kernel_rfl)).to (by clear E1; (try simp only [IntKind.bits, and31, and63, and32, wrap_mod32, wrap_mod64] at *); simp [wk, wkL, wkO, stepsM, aluM, regOp, immOp, zeroImm, takeD, giveD, two, num, cmov, irD, ]; try ((try simp only [w_u64, w_i64, and32, IntKind.bits, Int.mul_one] at *); omega))
end Go.Proofs.YtojgmjfcfpclbaaGreat

namespace Go.Proofs.YtojgmjfcfpclbaaGreat
open Go Go.Ev
theorem does_alu_ok (op width : Int) (byReg : Bool) (dst src imm : Int) (h : mayM 0 op width 0 byReg dst src 0 imm = true) :
  Ret Tryz.prog 87 [instD 0 op width 0 byReg dst src 0 imm] (.lst .no 13 (aluM op width byReg dst src imm)) := by
 obtain ⟨⟨_, _, _, _, _, _, i1, i2⟩, hf⟩ := may_forms h
 rcases hf with ⟨_, _, _, _, h8, ho, hw, _, _⟩ | ⟨h0, _⟩ | ⟨h0, _⟩ | ⟨h0, _⟩ | ⟨h0, _⟩ | ⟨h0, _⟩ | ⟨h0, _⟩
 ·rcases ho with rfl | rfl | rfl | rfl | rfl | rfl | rfl | rfl | rfl | rfl | rfl | rfl | rfl <;> rcases hw with rfl | rfl
  all_goals first
   | exact does_0_0_32_ok _ _ _ _ i1 i2
   | exact does_0_0_64_ok _ _ _ _ i1 i2
   | exact does_0_1_32_ok _ _ _ _ i1 i2
   | exact does_0_1_64_ok _ _ _ _ i1 i2
   | exact does_0_2_32_ok _ _ _ _ i1 i2
   | exact does_0_2_64_ok _ _ _ _ i1 i2
   | exact does_0_3_32_ok _ _ _ _ i1 i2
   | exact does_0_3_64_ok _ _ _ _ i1 i2
   | exact does_0_4_32_ok _ _ _ _ i1 i2
   | exact does_0_4_64_ok _ _ _ _ i1 i2
   | exact does_0_5_32_ok _ _ _ _ i1 i2
   | exact does_0_5_64_ok _ _ _ _ i1 i2
   | exact does_0_6_32_ok _ _ _ _ i1 i2
   | exact does_0_6_64_ok _ _ _ _ i1 i2
   | exact does_0_7_32_ok _ _ _ _ i1 i2
   | exact does_0_7_64_ok _ _ _ _ i1 i2
   | exact does_0_8_32_ok _ _ _ _ i1 i2 (h8 rfl)
   | exact does_0_8_64_ok _ _ _ _ i1 i2 (h8 rfl)
   | exact does_0_9_32_ok _ _ _ _ i1 i2
   | exact does_0_9_64_ok _ _ _ _ i1 i2
   | exact does_0_10_32_ok _ _ _ _ i1 i2
   | exact does_0_10_64_ok _ _ _ _ i1 i2
   | exact does_0_11_32_ok _ _ _ _ i1 i2
   | exact does_0_11_64_ok _ _ _ _ i1 i2
   | exact does_0_12_32_ok _ _ _ _ i1 i2
   | exact does_0_12_64_ok _ _ _ _ i1 i2
 all_goals exact absurd h0 (by decide)
end Go.Proofs.YtojgmjfcfpclbaaGreat

namespace Go.Proofs.YtojgmjfcfpclbaaGreat
open Go Go.Ev
set_option maxRecDepth 100000
set_option maxHeartbeats 8000000
theorem one_alu_ok (op width : Int) (byReg : Bool) (dst src imm : Int) (hm : mayM 0 op width 0 byReg dst src 0 imm = true)  : Ret Tryz.prog 41 ([instD 0 op width 0 byReg dst src 0 imm]) (.tup [.lst .no 13 (aluM op width byReg dst src imm), .int .i64 0]) := by
 have c0 := @instrMay_ok 0 op width 0 byReg dst src 0 imm
 have c1 := @does_alu_ok op width byReg dst src imm hm
 exact (o41 (d := .tup [.lst .no 13 (aluM op width byReg dst src imm), .int .i64 0]) ([.ret _ _ _ c0] ++ List.replicate 3 (tC (eF (nt hm))) ++ [tC (nt hm), tT, tT, tT, tF, tF, .ret _ _ _ c1]) (by kernel_rfl)).to (by simp [wk, wkL, wkO, ])
theorem wakes18_ok  : Ret Tryz.prog 40 ([]) (.bool true) := by
 have c0 := @one_alu_ok 0 64 false 1 0 5 (rfl : true = true)
 exact (o40 (d := .bool true) [.ret _ _ _ c0, tT, tT, tT, .inl, tF, .go 64, tT, tT, .get ([(irD 1 0 0 0 0 0 0 0 0 1 0 0 0), (irD 0 9 64 0 0 0 0 5 0 0 0 0 0), (irD 2 0 0 0 0 0 0 0 0 1 0 0 0)]) 0 ((irD 1 0 0 0 0 0 0 0 0 1 0 0 0)) rfl, tT, .get ([(irD 1 0 0 0 0 0 0 0 0 1 0 0 0), (irD 0 9 64 0 0 0 0 5 0 0 0 0 0), (irD 2 0 0 0 0 0 0 0 0 1 0 0 0)]) 0 ((irD 1 0 0 0 0 0 0 0 0 1 0 0 0)) rfl, .flat _ _ flat_Ir, tF, tT, tT, .get ([(irD 1 0 0 0 0 0 0 0 0 1 0 0 0), (irD 0 9 64 0 0 0 0 5 0 0 0 0 0), (irD 2 0 0 0 0 0 0 0 0 1 0 0 0)]) 1 ((irD 0 9 64 0 0 0 0 5 0 0 0 0 0)) rfl, tT, .get ([(irD 1 0 0 0 0 0 0 0 0 1 0 0 0), (irD 0 9 64 0 0 0 0 5 0 0 0 0 0), (irD 2 0 0 0 0 0 0 0 0 1 0 0 0)]) 1 ((irD 0 9 64 0 0 0 0 5 0 0 0 0 0)) rfl, .flat _ _ flat_Ir, tF, tT, tT, .get ([(irD 1 0 0 0 0 0 0 0 0 1 0 0 0), (irD 0 9 64 0 0 0 0 5 0 0 0 0 0), (irD 2 0 0 0 0 0 0 0 0 1 0 0 0)]) 2 ((irD 2 0 0 0 0 0 0 0 0 1 0 0 0)) rfl, tT, .get ([(irD 1 0 0 0 0 0 0 0 0 1 0 0 0), (irD 0 9 64 0 0 0 0 5 0 0 0 0 0), (irD 2 0 0 0 0 0 0 0 0 1 0 0 0)]) 2 ((irD 2 0 0 0 0 0 0 0 0 1 0 0 0)) rfl, .flat _ _ flat_Ir, tF, tF, tT] (by kernel_rfl)).to (by simp [wk])
end Go.Proofs.YtojgmjfcfpclbaaGreat

namespace Go.Proofs.YtojgmjfcfpclbaaGreat
open Go Go.Ev
theorem flat_R11 : FlatEq Tryz.prog 47 [.int .u64, .int .u64, .int .u64, .int .u64, .int .u64, .int .u64, .int .u64, .int .u64, .int .u64, .int .u64, .int .u64] := FlatEq.of_flat (d := 5) (by kernel_rfl) (by kernel_rfl) (by kernel_rfl) (by kernel_rfl)
end Go.Proofs.YtojgmjfcfpclbaaGreat

namespace Go.Proofs.YtojgmjfcfpclbaaGreat
open Go Go.Ev
set_option maxRecDepth 100000
set_option maxHeartbeats 8000000
theorem jumps_true_ok (op dst src off imm t : Int) (r0 r1 r2 r3 r4 r5 r6 r7 r8 r9 r10 : Int) (hm : mayM 3 op 0 0 true dst src 0 imm = true) (d0 : 0 ≤ dst) (d1 : dst ≤ 10) (s0 : 0 ≤ src) (s1 : src ≤ 10) (m : MachS) (v : Bool) (h1 : Ret Tryz.prog 43 [.agg [.int .i64 0, .lst .tight 9 [instD 3 op 0 0 true dst src 0 imm, instD 6 0 0 0 false 0 0 0 0]]] (.tup [.lst .no 1 [.lst .no 13 [takeD 0 dst, takeD 1 src, two t 64 0 1, irD 4 29 0 0 0 0 0 0 (toccM op).1 0 0 0 1, irD 5 0 0 0 0 0 0 0 0 0 0 0 1], .lst .no 13 [irD 6 0 0 0 0 0 0 0 0 0 0 0 0]], .int .i64 0])) (h2 : Ret Tryz.prog 25 [.lst .no 13 [takeD 0 dst, takeD 1 src, two t 64 0 1], .agg [.int .u64 r0, .int .u64 r1, .int .u64 r2, .int .u64 r3, .int .u64 r4, .int .u64 r5, .int .u64 r6, .int .u64 r7, .int .u64 r8, .int .u64 r9, .int .u64 r10]] (.tup [.agg [.int .u64 r0, .int .u64 r1, .int .u64 r2, .int .u64 r3, .int .u64 r4, .int .u64 r5, .int .u64 r6, .int .u64 r7, .int .u64 r8, .int .u64 r9, .int .u64 r10], m.d, .int .i64 3, .int .i64 0])) (h3 : Ret Tryz.prog 44 [.int .i8 op, .int .i8 64, .int .u64 (rg [r0, r1, r2, r3, r4, r5, r6, r7, r8, r9, r10] dst), .int .u64 (rg [r0, r1, r2, r3, r4, r5, r6, r7, r8, r9, r10] src)] (.tup [.bool v, .int .i64 0])) (h4 : Ret Tryz.prog 45 [.int .i8 (toccM op).1, .agg [.bool m.fk, .bool m.fc, .bool m.fz, .bool m.fs, .bool m.fo]] (.tup [.bool v, .int .i64 0]))  : Ret Tryz.prog 7 ([instD 3 op 0 0 true dst src off imm, .agg [.int .u64 r0, .int .u64 r1, .int .u64 r2, .int .u64 r3, .int .u64 r4, .int .u64 r5, .int .u64 r6, .int .u64 r7, .int .u64 r8, .int .u64 r9, .int .u64 r10]]) (.bool true) := by
 have c0 := @refMay_ok ((3 : Int)) (op) ((0 : Int)) ((0 : Int)) (true) (dst) (src) ((0 : Int)) (imm)
 have c1 := @wakes18_ok
 exact (Ret.of_eval (d := .bool true) mixed Tryz.func7 (by kernel_rfl) ([tT, tT, .ret _ _ _ c0, tT, tF, tC (nt hm), .ret _ _ _ h1, tT, tT, tT, tF, tT, tT, .get ([.lst .no 13 [(irD 1 0 0 0 0 0 0 0 0 dst 0 0 0), (irD 1 0 0 0 0 0 0 0 0 src 1 0 0), (irD 0 t 64 0 1 0 0 0 0 0 0 0 0), (irD 4 29 0 0 0 0 0 0 (Prod.fst (toccM op)) 0 0 0 1), (irD 5 0 0 0 0 0 0 0 0 0 0 0 1)], .lst .no 13 [(irD 6 0 0 0 0 0 0 0 0 0 0 0 0)]]) 0 (.lst .no 13 [(irD 1 0 0 0 0 0 0 0 0 dst 0 0 0), (irD 1 0 0 0 0 0 0 0 0 src 1 0 0), (irD 0 t 64 0 1 0 0 0 0 0 0 0 0), (irD 4 29 0 0 0 0 0 0 (Prod.fst (toccM op)) 0 0 0 1), (irD 5 0 0 0 0 0 0 0 0 0 0 0 1)]) rfl, tT, tT] ++ [tT, tF, tF, .get ([.lst .no 13 [(irD 1 0 0 0 0 0 0 0 0 dst 0 0 0), (irD 1 0 0 0 0 0 0 0 0 src 1 0 0), (irD 0 t 64 0 1 0 0 0 0 0 0 0 0), (irD 4 29 0 0 0 0 0 0 (Prod.fst (toccM op)) 0 0 0 1), (irD 5 0 0 0 0 0 0 0 0 0 0 0 1)], .lst .no 13 [(irD 6 0 0 0 0 0 0 0 0 0 0 0 0)]]) 0 (.lst .no 13 [(irD 1 0 0 0 0 0 0 0 0 dst 0 0 0), (irD 1 0 0 0 0 0 0 0 0 src 1 0 0), (irD 0 t 64 0 1 0 0 0 0 0 0 0 0), (irD 4 29 0 0 0 0 0 0 (Prod.fst (toccM op)) 0 0 0 1), (irD 5 0 0 0 0 0 0 0 0 0 0 0 1)]) rfl, .get ([.lst .no 13 [(irD 1 0 0 0 0 0 0 0 0 dst 0 0 0), (irD 1 0 0 0 0 0 0 0 0 src 1 0 0), (irD 0 t 64 0 1 0 0 0 0 0 0 0 0), (irD 4 29 0 0 0 0 0 0 (Prod.fst (toccM op)) 0 0 0 1), (irD 5 0 0 0 0 0 0 0 0 0 0 0 1)], .lst .no 13 [(irD 6 0 0 0 0 0 0 0 0 0 0 0 0)]]) 0 (.lst .no 13 [(irD 1 0 0 0 0 0 0 0 0 dst 0 0 0), (irD 1 0 0 0 0 0 0 0 0 src 1 0 0), (irD 0 t 64 0 1 0 0 0 0 0 0 0 0), (irD 4 29 0 0 0 0 0 0 (Prod.fst (toccM op)) 0 0 0 1), (irD 5 0 0 0 0 0 0 0 0 0 0 0 1)]) rfl, tT, .ret _ _ _ h2, .get ([.lst .no 13 [(irD 1 0 0 0 0 0 0 0 0 dst 0 0 0), (irD 1 0 0 0 0 0 0 0 0 src 1 0 0), (irD 0 t 64 0 1 0 0 0 0 0 0 0 0), (irD 4 29 0 0 0 0 0 0 (Prod.fst (toccM op)) 0 0 0 1), (irD 5 0 0 0 0 0 0 0 0 0 0 0 1)], .lst .no 13 [(irD 6 0 0 0 0 0 0 0 0 0 0 0 0)]]) 0 (.lst .no 13 [(irD 1 0 0 0 0 0 0 0 0 dst 0 0 0), (irD 1 0 0 0 0 0 0 0 0 src 1 0 0), (irD 0 t 64 0 1 0 0 0 0 0 0 0 0), (irD 4 29 0 0 0 0 0 0 (Prod.fst (toccM op)) 0 0 0 1), (irD 5 0 0 0 0 0 0 0 0 0 0 0 1)]) rfl, tT, .get ([(irD 1 0 0 0 0 0 0 0 0 dst 0 0 0), (irD 1 0 0 0 0 0 0 0 0 src 1 0 0), (irD 0 t 64 0 1 0 0 0 0 0 0 0 0), (irD 4 29 0 0 0 0 0 0 (Prod.fst (toccM op)) 0 0 0 1), (irD 5 0 0 0 0 0 0 0 0 0 0 0 1)]) 3 ((irD 4 29 0 0 0 0 0 0 (Prod.fst (toccM op)) 0 0 0 1)) rfl, tT, tT, tF, tT, tT, tT] ++ [tF, tT, tT, tT, .flat _ _ flat_R11, tF, tC (nt (andT (beq_self_eq_true (r0)) (andT (beq_self_eq_true (r1)) (andT (beq_self_eq_true (r2)) (andT (beq_self_eq_true (r3)) (andT (beq_self_eq_true (r4)) (andT (beq_self_eq_true (r5)) (andT (beq_self_eq_true (r6)) (andT (beq_self_eq_true (r7)) (andT (beq_self_eq_true (r8)) (andT (beq_self_eq_true (r9)) (andT (beq_self_eq_true (r10)) (rfl : true = true))))))))))))), tT, .tst (decide ((0 : Int) ≤ src ∧ src < (↑(11 : Nat) : Int))) true (by (simp only [w_i8, w_u8, w_i64, w_u64, decide_eq_true_eq, decide_eq_false_iff_not, beq_iff_eq, bne_iff_ne, beq_eq_false_iff_ne, bne_eq_false_iff_eq, Bool.not_eq_true', Bool.not_eq_false', Bool.and_eq_true, Bool.or_eq_true] at *; omega)), .get _ _ _ (@get_rg (r0) (r1) (r2) (r3) (r4) (r5) (r6) (r7) (r8) (r9) (r10) (src) ([]) s0 s1), .tst (decide ((0 : Int) ≤ dst ∧ dst < (↑(11 : Nat) : Int))) true (by (simp only [w_i8, w_u8, w_i64, w_u64, decide_eq_true_eq, decide_eq_false_iff_not, beq_iff_eq, bne_iff_ne, beq_eq_false_iff_ne, bne_eq_false_iff_eq, Bool.not_eq_true', Bool.not_eq_false', Bool.and_eq_true, Bool.or_eq_true] at *; omega)), .get _ _ _ (@get_rg (r0) (r1) (r2) (r3) (r4) (r5) (r6) (r7) (r8) (r9) (r10) (dst) ([]) d0 d1), .ret _ _ _ h3, .get ([.lst .no 13 [(irD 1 0 0 0 0 0 0 0 0 dst 0 0 0), (irD 1 0 0 0 0 0 0 0 0 src 1 0 0), (irD 0 t 64 0 1 0 0 0 0 0 0 0 0), (irD 4 29 0 0 0 0 0 0 (Prod.fst (toccM op)) 0 0 0 1), (irD 5 0 0 0 0 0 0 0 0 0 0 0 1)], .lst .no 13 [(irD 6 0 0 0 0 0 0 0 0 0 0 0 0)]]) 0 (.lst .no 13 [(irD 1 0 0 0 0 0 0 0 0 dst 0 0 0), (irD 1 0 0 0 0 0 0 0 0 src 1 0 0), (irD 0 t 64 0 1 0 0 0 0 0 0 0 0), (irD 4 29 0 0 0 0 0 0 (Prod.fst (toccM op)) 0 0 0 1), (irD 5 0 0 0 0 0 0 0 0 0 0 0 1)]) rfl, tT, .get ([(irD 1 0 0 0 0 0 0 0 0 dst 0 0 0), (irD 1 0 0 0 0 0 0 0 0 src 1 0 0), (irD 0 t 64 0 1 0 0 0 0 0 0 0 0), (irD 4 29 0 0 0 0 0 0 (Prod.fst (toccM op)) 0 0 0 1), (irD 5 0 0 0 0 0 0 0 0 0 0 0 1)]) 3 ((irD 4 29 0 0 0 0 0 0 (Prod.fst (toccM op)) 0 0 0 1)) rfl] ++ [.ret _ _ _ h4, tT, tT, tT, tT, tT, tT, tT, tC (eT (beq_self_eq_true (v))), .ret _ _ _ c1, tC (beq_self_eq_true (v))]) (by kernel_rfl)).to (by simp [wk])
theorem jumps_false_ok (op dst src off imm t : Int) (r0 r1 r2 r3 r4 r5 r6 r7 r8 r9 r10 : Int) (hm : mayM 3 op 0 0 false dst src 0 imm = true) (d0 : 0 ≤ dst) (d1 : dst ≤ 10) (s0 : 0 ≤ src) (s1 : src ≤ 10) (m : MachS) (v : Bool) (h1 : Ret Tryz.prog 43 [.agg [.int .i64 0, .lst .tight 9 [instD 3 op 0 0 false dst src 0 imm, instD 6 0 0 0 false 0 0 0 0]]] (.tup [.lst .no 1 [.lst .no 13 [takeD 0 dst, num t 64 0 imm, irD 4 29 0 0 0 0 0 0 (toccM op).1 0 0 0 1, irD 5 0 0 0 0 0 0 0 0 0 0 0 1], .lst .no 13 [irD 6 0 0 0 0 0 0 0 0 0 0 0 0]], .int .i64 0])) (h2 : Ret Tryz.prog 25 [.lst .no 13 [takeD 0 dst, num t 64 0 imm], .agg [.int .u64 r0, .int .u64 r1, .int .u64 r2, .int .u64 r3, .int .u64 r4, .int .u64 r5, .int .u64 r6, .int .u64 r7, .int .u64 r8, .int .u64 r9, .int .u64 r10]] (.tup [.agg [.int .u64 r0, .int .u64 r1, .int .u64 r2, .int .u64 r3, .int .u64 r4, .int .u64 r5, .int .u64 r6, .int .u64 r7, .int .u64 r8, .int .u64 r9, .int .u64 r10], m.d, .int .i64 2, .int .i64 0])) (h3 : Ret Tryz.prog 44 [.int .i8 op, .int .i8 64, .int .u64 (rg [r0, r1, r2, r3, r4, r5, r6, r7, r8, r9, r10] dst), .int .u64 (IntKind.u64.wrap imm)] (.tup [.bool v, .int .i64 0])) (h4 : Ret Tryz.prog 45 [.int .i8 (toccM op).1, .agg [.bool m.fk, .bool m.fc, .bool m.fz, .bool m.fs, .bool m.fo]] (.tup [.bool v, .int .i64 0]))  : Ret Tryz.prog 7 ([instD 3 op 0 0 false dst src off imm, .agg [.int .u64 r0, .int .u64 r1, .int .u64 r2, .int .u64 r3, .int .u64 r4, .int .u64 r5, .int .u64 r6, .int .u64 r7, .int .u64 r8, .int .u64 r9, .int .u64 r10]]) (.bool true) := by
 have c0 := @refMay_ok ((3 : Int)) (op) ((0 : Int)) ((0 : Int)) (false) (dst) (src) ((0 : Int)) (imm)
 have c1 := @wakes18_ok
 exact (Ret.of_eval (d := .bool true) mixed Tryz.func7 (by kernel_rfl) ([tT, tT, .ret _ _ _ c0, tT, tF, tC (nt hm), .ret _ _ _ h1, tT, tT, tT, tF, tT, tT, .get ([.lst .no 13 [(irD 1 0 0 0 0 0 0 0 0 dst 0 0 0), (irD 0 t 64 0 0 0 0 imm 0 0 0 0 0), (irD 4 29 0 0 0 0 0 0 (Prod.fst (toccM op)) 0 0 0 1), (irD 5 0 0 0 0 0 0 0 0 0 0 0 1)], .lst .no 13 [(irD 6 0 0 0 0 0 0 0 0 0 0 0 0)]]) 0 (.lst .no 13 [(irD 1 0 0 0 0 0 0 0 0 dst 0 0 0), (irD 0 t 64 0 0 0 0 imm 0 0 0 0 0), (irD 4 29 0 0 0 0 0 0 (Prod.fst (toccM op)) 0 0 0 1), (irD 5 0 0 0 0 0 0 0 0 0 0 0 1)]) rfl, tT, tT] ++ [tT, tF, tF, .get ([.lst .no 13 [(irD 1 0 0 0 0 0 0 0 0 dst 0 0 0), (irD 0 t 64 0 0 0 0 imm 0 0 0 0 0), (irD 4 29 0 0 0 0 0 0 (Prod.fst (toccM op)) 0 0 0 1), (irD 5 0 0 0 0 0 0 0 0 0 0 0 1)], .lst .no 13 [(irD 6 0 0 0 0 0 0 0 0 0 0 0 0)]]) 0 (.lst .no 13 [(irD 1 0 0 0 0 0 0 0 0 dst 0 0 0), (irD 0 t 64 0 0 0 0 imm 0 0 0 0 0), (irD 4 29 0 0 0 0 0 0 (Prod.fst (toccM op)) 0 0 0 1), (irD 5 0 0 0 0 0 0 0 0 0 0 0 1)]) rfl, .get ([.lst .no 13 [(irD 1 0 0 0 0 0 0 0 0 dst 0 0 0), (irD 0 t 64 0 0 0 0 imm 0 0 0 0 0), (irD 4 29 0 0 0 0 0 0 (Prod.fst (toccM op)) 0 0 0 1), (irD 5 0 0 0 0 0 0 0 0 0 0 0 1)], .lst .no 13 [(irD 6 0 0 0 0 0 0 0 0 0 0 0 0)]]) 0 (.lst .no 13 [(irD 1 0 0 0 0 0 0 0 0 dst 0 0 0), (irD 0 t 64 0 0 0 0 imm 0 0 0 0 0), (irD 4 29 0 0 0 0 0 0 (Prod.fst (toccM op)) 0 0 0 1), (irD 5 0 0 0 0 0 0 0 0 0 0 0 1)]) rfl, tT, .ret _ _ _ h2, .get ([.lst .no 13 [(irD 1 0 0 0 0 0 0 0 0 dst 0 0 0), (irD 0 t 64 0 0 0 0 imm 0 0 0 0 0), (irD 4 29 0 0 0 0 0 0 (Prod.fst (toccM op)) 0 0 0 1), (irD 5 0 0 0 0 0 0 0 0 0 0 0 1)], .lst .no 13 [(irD 6 0 0 0 0 0 0 0 0 0 0 0 0)]]) 0 (.lst .no 13 [(irD 1 0 0 0 0 0 0 0 0 dst 0 0 0), (irD 0 t 64 0 0 0 0 imm 0 0 0 0 0), (irD 4 29 0 0 0 0 0 0 (Prod.fst (toccM op)) 0 0 0 1), (irD 5 0 0 0 0 0 0 0 0 0 0 0 1)]) rfl, tT, .get ([(irD 1 0 0 0 0 0 0 0 0 dst 0 0 0), (irD 0 t 64 0 0 0 0 imm 0 0 0 0 0), (irD 4 29 0 0 0 0 0 0 (Prod.fst (toccM op)) 0 0 0 1), (irD 5 0 0 0 0 0 0 0 0 0 0 0 1)]) 2 ((irD 4 29 0 0 0 0 0 0 (Prod.fst (toccM op)) 0 0 0 1)) rfl, tT, tT, tF, tT, tT, tT] ++ [tF, tT, tT, tT, .flat _ _ flat_R11, tF, tC (nt (andT (beq_self_eq_true (r0)) (andT (beq_self_eq_true (r1)) (andT (beq_self_eq_true (r2)) (andT (beq_self_eq_true (r3)) (andT (beq_self_eq_true (r4)) (andT (beq_self_eq_true (r5)) (andT (beq_self_eq_true (r6)) (andT (beq_self_eq_true (r7)) (andT (beq_self_eq_true (r8)) (andT (beq_self_eq_true (r9)) (andT (beq_self_eq_true (r10)) (rfl : true = true))))))))))))), tF, .tst (decide ((0 : Int) ≤ dst ∧ dst < (↑(11 : Nat) : Int))) true (by (simp only [w_i8, w_u8, w_i64, w_u64, decide_eq_true_eq, decide_eq_false_iff_not, beq_iff_eq, bne_iff_ne, beq_eq_false_iff_ne, bne_eq_false_iff_eq, Bool.not_eq_true', Bool.not_eq_false', Bool.and_eq_true, Bool.or_eq_true] at *; omega)), .get _ _ _ (@get_rg (r0) (r1) (r2) (r3) (r4) (r5) (r6) (r7) (r8) (r9) (r10) (dst) ([]) d0 d1), .ret _ _ _ h3, .get ([.lst .no 13 [(irD 1 0 0 0 0 0 0 0 0 dst 0 0 0), (irD 0 t 64 0 0 0 0 imm 0 0 0 0 0), (irD 4 29 0 0 0 0 0 0 (Prod.fst (toccM op)) 0 0 0 1), (irD 5 0 0 0 0 0 0 0 0 0 0 0 1)], .lst .no 13 [(irD 6 0 0 0 0 0 0 0 0 0 0 0 0)]]) 0 (.lst .no 13 [(irD 1 0 0 0 0 0 0 0 0 dst 0 0 0), (irD 0 t 64 0 0 0 0 imm 0 0 0 0 0), (irD 4 29 0 0 0 0 0 0 (Prod.fst (toccM op)) 0 0 0 1), (irD 5 0 0 0 0 0 0 0 0 0 0 0 1)]) rfl, tT, .get ([(irD 1 0 0 0 0 0 0 0 0 dst 0 0 0), (irD 0 t 64 0 0 0 0 imm 0 0 0 0 0), (irD 4 29 0 0 0 0 0 0 (Prod.fst (toccM op)) 0 0 0 1), (irD 5 0 0 0 0 0 0 0 0 0 0 0 1)]) 2 ((irD 4 29 0 0 0 0 0 0 (Prod.fst (toccM op)) 0 0 0 1)) rfl, .ret _ _ _ h4, tT] ++ [tT, tT, tT, tT, tT, tT, tC (eT (beq_self_eq_true (v))), .ret _ _ _ c1, tC (beq_self_eq_true (v))]) (by kernel_rfl)).to (by simp [wk])
theorem jumps_k_ok (kind op width size : Int) (byReg : Bool) (dst src off imm : Int) (r0 r1 r2 r3 r4 r5 r6 r7 r8 r9 r10 : Int) (h : (kind == 3) = false) : Ret Tryz.prog 7 ([instD kind op width size byReg dst src off imm, .agg [.int .u64 r0, .int .u64 r1, .int .u64 r2, .int .u64 r3, .int .u64 r4, .int .u64 r5, .int .u64 r6, .int .u64 r7, .int .u64 r8, .int .u64 r9, .int .u64 r10]]) (.bool true) := by
 have c0 := @wakes18_ok
 exact (Ret.of_eval (d := .bool true) mixed Tryz.func7 (by kernel_rfl) [tC (eF (nt h)), tC (eF (nt h)), tC (eF (nt h)), tC (nt h), tT, .ret _ _ _ c0] (by kernel_rfl)).to (by simp [wk])
theorem jumps_m_ok (kind op width size : Int) (byReg : Bool) (dst src off imm : Int) (r0 r1 r2 r3 r4 r5 r6 r7 r8 r9 r10 : Int) (h : (kind == 3) = true) (h2 : mayM kind op width size byReg dst src 0 imm = false) : Ret Tryz.prog 7 ([instD kind op width size byReg dst src off imm, .agg [.int .u64 r0, .int .u64 r1, .int .u64 r2, .int .u64 r3, .int .u64 r4, .int .u64 r5, .int .u64 r6, .int .u64 r7, .int .u64 r8, .int .u64 r9, .int .u64 r10]]) (.bool true) := by
 have c0 := @refMay_ok (kind) (op) (width) (size) (byReg) (dst) (src) ((0 : Int)) (imm)
 have c1 := @wakes18_ok
 exact (Ret.of_eval (d := .bool true) mixed Tryz.func7 (by kernel_rfl) [tC (eF (nt (eqI 3 true (eq_of_beq h)))), tC (eF (nt (eqI 3 true (eq_of_beq h)))), .ret _ _ _ c0, tC (eF (nt (eqI 3 true (eq_of_beq h)))), tC (nt (eqI 3 true (eq_of_beq h))), tC (nt h2), .ret _ _ _ c1] (by kernel_rfl)).to (by simp [wk])
end Go.Proofs.YtojgmjfcfpclbaaGreat

namespace Go.Proofs.YtojgmjfcfpclbaaGreat
open Go Go.Ev
set_option maxRecDepth 100000
set_option maxHeartbeats 8000000
def tqE00 : List D := [.fn (.func 188) [] [], .fn (.func 189) [] [], .fn (.func 190) [] [], .fn (.func 191) [] [], .fn (.func 192) [] [], .fn (.func 193) [] [], .fn (.func 194) [] [], .fn (.func 195) [] [], .fn (.func 196) [] [], .fn (.func 197) [] [], .fn (.func 198) [] [], .fn (.func 199) [] [], .fn (.func 200) [] []]
theorem cut_ok (v w : Int) : Ret Tryz.prog 69 ([.int .u64 v, .int .i8 w]) (.int .u64 (cutM v w)) := by
 by_cases h0 : w = 8
 ·subst h0
  exact (o69 (d := .int .u64 (IntKind.wrap IntKind.u64 (IntKind.wrap IntKind.u8 v))) [tT] (by kernel_rfl)).to (by simp [wk, cutM, w_u8, w_u16, w_u32, w_u64, ]; try omega)
 by_cases h1 : w = 16
 ·subst h1
  exact (o69 (d := .int .u64 (IntKind.wrap IntKind.u64 (IntKind.wrap IntKind.u16 v))) [tC (neOf h0), tT] (by kernel_rfl)).to (by simp [wk, cutM, w_u8, w_u16, w_u32, w_u64, h0]; try omega)
 by_cases h2 : w = 32
 ·subst h2
  exact (o69 (d := .int .u64 (IntKind.wrap IntKind.u64 (IntKind.wrap IntKind.u32 v))) [tC (neOf h0), tC (neOf h1), tT] (by kernel_rfl)).to (by simp [wk, cutM, w_u8, w_u16, w_u32, w_u64, h0, h1]; try omega)
 exact (o69 (d := .int .u64 v) [tC (neOf h0), tC (neOf h1), tC (neOf h2)] (by kernel_rfl)).to (by simp [wk, cutM, w_u8, w_u16, w_u32, w_u64, h0, h1, h2]; try omega)
theorem sign_ok (v w : Int) : Ret Tryz.prog 201 ([.int .u64 v, .int .i8 w]) (.int .u64 (signM v w)) := by
 by_cases h0 : w = 8
 ·subst h0
  exact (o201 (d := .int .u64 (IntKind.wrap IntKind.u64 (IntKind.wrap IntKind.i64 (IntKind.wrap IntKind.i8 v)))) [tT] (by kernel_rfl)).to (by simp [wk, signM, u64, sign_a, sign_b, sign_c, ])
 by_cases h1 : w = 16
 ·subst h1
  exact (o201 (d := .int .u64 (IntKind.wrap IntKind.u64 (IntKind.wrap IntKind.i64 (IntKind.wrap IntKind.i16 v)))) [tC (neOf h0), tT] (by kernel_rfl)).to (by simp [wk, signM, u64, sign_a, sign_b, sign_c, h0])
 by_cases h2 : w = 32
 ·subst h2
  exact (o201 (d := .int .u64 (IntKind.wrap IntKind.u64 (IntKind.wrap IntKind.i64 (IntKind.wrap IntKind.i32 v)))) [tC (neOf h0), tC (neOf h1), tT] (by kernel_rfl)).to (by simp [wk, signM, u64, sign_a, sign_b, sign_c, h0, h1])
 exact (o201 (d := .int .u64 v) [tC (neOf h0), tC (neOf h1), tC (neOf h2)] (by kernel_rfl)).to (by simp [wk, signM, u64, sign_a, sign_b, sign_c, h0, h1, h2])
theorem blong_ok (w : Int) : Ret Tryz.prog 162 ([.int .i8 w]) (.bool (longM w)) := by
 by_cases h0 : w = 32
 ·subst h0
  exact (o162 (d := .bool true) [tF, tF, tT] (by kernel_rfl)).to (by simp only [wk, D.bool.injEq, longM]; rfl)
 exact (o162 (d := .bool (w == 64)) [tC (eF (neOf h0)), tC (eF (neOf h0)), tC (neOf h0)] (by kernel_rfl)).to (by simp only [wk, D.bool.injEq, longM]; (rw [Bool.eq_iff_iff]; simp [h0]; try omega))
def SpE00 (k0_ : Int) : Prop := ∀ (w a b : Int) (hw : longM w = true), Ret Tryz.prog 107 ([.int .i8 k0_, .int .i8 w, .int .u64 a, .int .u64 b]) (.tup [.int .u64 (doM k0_ w a b), .int .i64 0])
theorem bdo_0_ok : SpE00 0 := by
 intro w a b hw
 have c0 := @blong_ok w
 rw [show (longM w) = true from hw] at c0
 have c1 := @cut_ok a w
 have c2 := @cut_ok b w
 have c3 := @cut_ok (IntKind.wrap IntKind.u64 (cutM a w + cutM b w)) w
 exact (o107 (d := .tup [.int .u64 (cutM (IntKind.wrap IntKind.u64 (cutM a w + cutM b w)) w), .int .i64 0]) [tT, tT, tF, tT, tT, .ret _ _ _ c0, tT, tF, tF, .ret _ _ _ c1, .ret _ _ _ c2, .inl, tT, .get ([D.fn (Fn.func 188) [] [], D.fn (Fn.func 189) [] [], D.fn (Fn.func 190) [] [], D.fn (Fn.func 191) [] [], D.fn (Fn.func 192) [] [], D.fn (Fn.func 193) [] [], D.fn (Fn.func 194) [] [], D.fn (Fn.func 195) [] [], D.fn (Fn.func 196) [] [], D.fn (Fn.func 197) [] [], D.fn (Fn.func 198) [] [], D.fn (Fn.func 199) [] [], D.fn (Fn.func 200) [] []]) 0 (D.fn (Fn.func 188) [] []) rfl, .inl, .ret _ _ _ c3] (by kernel_rfl)).to (by ((simp only [wk, wkL, and_true]; repeat' (first | rfl | exact True.intro | apply And.intro)); done))
theorem bdo_1_ok : SpE00 1 := by
 intro w a b hw
 have c0 := @blong_ok w
 rw [show (longM w) = true from hw] at c0
 have c1 := @cut_ok a w
 have c2 := @cut_ok b w
 have c3 := @cut_ok (IntKind.wrap IntKind.u64 (cutM a w - cutM b w)) w
 exact (o107 (d := .tup [.int .u64 (cutM (IntKind.wrap IntKind.u64 (cutM a w - cutM b w)) w), .int .i64 0]) [tT, tT, tF, tT, tT, .ret _ _ _ c0, tT, tF, tF, .ret _ _ _ c1, .ret _ _ _ c2, .inl, tT, .get ([D.fn (Fn.func 188) [] [], D.fn (Fn.func 189) [] [], D.fn (Fn.func 190) [] [], D.fn (Fn.func 191) [] [], D.fn (Fn.func 192) [] [], D.fn (Fn.func 193) [] [], D.fn (Fn.func 194) [] [], D.fn (Fn.func 195) [] [], D.fn (Fn.func 196) [] [], D.fn (Fn.func 197) [] [], D.fn (Fn.func 198) [] [], D.fn (Fn.func 199) [] [], D.fn (Fn.func 200) [] []]) 1 (D.fn (Fn.func 189) [] []) rfl, .inl, .ret _ _ _ c3] (by kernel_rfl)).to (by ((simp only [wk, wkL, and_true]; repeat' (first | rfl | exact True.intro | apply And.intro)); done))
theorem bdo_2_ok : SpE00 2 := by
 intro w a b hw
 have c0 := @blong_ok w
 rw [show (longM w) = true from hw] at c0
 have c1 := @cut_ok a w
 have c2 := @cut_ok b w
 have c3 := @cut_ok (IntKind.wrap IntKind.u64 (cutM a w * cutM b w)) w
 exact (o107 (d := .tup [.int .u64 (cutM (IntKind.wrap IntKind.u64 (cutM a w * cutM b w)) w), .int .i64 0]) [tT, tT, tF, tT, tT, .ret _ _ _ c0, tT, tF, tF, .ret _ _ _ c1, .ret _ _ _ c2, .inl, tT, .get ([D.fn (Fn.func 188) [] [], D.fn (Fn.func 189) [] [], D.fn (Fn.func 190) [] [], D.fn (Fn.func 191) [] [], D.fn (Fn.func 192) [] [], D.fn (Fn.func 193) [] [], D.fn (Fn.func 194) [] [], D.fn (Fn.func 195) [] [], D.fn (Fn.func 196) [] [], D.fn (Fn.func 197) [] [], D.fn (Fn.func 198) [] [], D.fn (Fn.func 199) [] [], D.fn (Fn.func 200) [] []]) 2 (D.fn (Fn.func 190) [] []) rfl, .inl, .ret _ _ _ c3] (by kernel_rfl)).to (by ((simp only [wk, wkL, and_true]; repeat' (first | rfl | exact True.intro | apply And.intro)); done))
theorem bdo_4_ok : SpE00 4 := by
 intro w a b hw
 have c0 := @blong_ok w
 rw [show (longM w) = true from hw] at c0
 have c1 := @cut_ok a w
 have c2 := @cut_ok b w
 have c3 := @cut_ok (IntKind.wrap IntKind.u64 (↑(BitVec.toNat (BitVec.ofInt (64 : Nat) (cutM a w) ||| BitVec.ofInt (64 : Nat) (cutM b w))) : Int)) w
 exact (o107 (d := .tup [.int .u64 (cutM (IntKind.wrap IntKind.u64 (↑(BitVec.toNat (BitVec.ofInt (64 : Nat) (cutM a w) ||| BitVec.ofInt (64 : Nat) (cutM b w))) : Int)) w), .int .i64 0]) [tT, tT, tF, tT, tT, .ret _ _ _ c0, tT, tF, tF, .ret _ _ _ c1, .ret _ _ _ c2, .inl, tT, .get ([D.fn (Fn.func 188) [] [], D.fn (Fn.func 189) [] [], D.fn (Fn.func 190) [] [], D.fn (Fn.func 191) [] [], D.fn (Fn.func 192) [] [], D.fn (Fn.func 193) [] [], D.fn (Fn.func 194) [] [], D.fn (Fn.func 195) [] [], D.fn (Fn.func 196) [] [], D.fn (Fn.func 197) [] [], D.fn (Fn.func 198) [] [], D.fn (Fn.func 199) [] [], D.fn (Fn.func 200) [] []]) 4 (D.fn (Fn.func 192) [] []) rfl, .inl, .ret _ _ _ c3] (by kernel_rfl)).to (by ((simp only [wk, wkL, and_true]; repeat' (first | rfl | exact True.intro | apply And.intro)); done))
theorem bdo_5_ok : SpE00 5 := by
 intro w a b hw
 have c0 := @blong_ok w
 rw [show (longM w) = true from hw] at c0
 have c1 := @cut_ok a w
 have c2 := @cut_ok b w
 have c3 := @cut_ok (IntKind.wrap IntKind.u64 (↑(BitVec.toNat (BitVec.ofInt (64 : Nat) (cutM a w) &&& BitVec.ofInt (64 : Nat) (cutM b w))) : Int)) w
 exact (o107 (d := .tup [.int .u64 (cutM (IntKind.wrap IntKind.u64 (↑(BitVec.toNat (BitVec.ofInt (64 : Nat) (cutM a w) &&& BitVec.ofInt (64 : Nat) (cutM b w))) : Int)) w), .int .i64 0]) [tT, tT, tF, tT, tT, .ret _ _ _ c0, tT, tF, tF, .ret _ _ _ c1, .ret _ _ _ c2, .inl, tT, .get ([D.fn (Fn.func 188) [] [], D.fn (Fn.func 189) [] [], D.fn (Fn.func 190) [] [], D.fn (Fn.func 191) [] [], D.fn (Fn.func 192) [] [], D.fn (Fn.func 193) [] [], D.fn (Fn.func 194) [] [], D.fn (Fn.func 195) [] [], D.fn (Fn.func 196) [] [], D.fn (Fn.func 197) [] [], D.fn (Fn.func 198) [] [], D.fn (Fn.func 199) [] [], D.fn (Fn.func 200) [] []]) 5 (D.fn (Fn.func 193) [] []) rfl, .inl, .ret _ _ _ c3] (by kernel_rfl)).to (by ((simp only [wk, wkL, and_true]; repeat' (first | rfl | exact True.intro | apply And.intro)); done))
theorem bdo_6_ok : SpE00 6 := by
 intro w a b hw
 have c0 := @blong_ok w
 rw [show (longM w) = true from hw] at c0
 have c1 := @cut_ok a w
 have c2 := @cut_ok b w
 have c3 := @cut_ok (IntKind.wrap IntKind.u64 (cutM a w * 2 ^ min (Int.toNat (IntKind.wrap IntKind.u64 (↑(BitVec.toNat (BitVec.ofInt (64 : Nat) (cutM b w) &&& BitVec.ofInt (64 : Nat) (IntKind.wrap IntKind.u64 (IntKind.wrap IntKind.i8 (w - 1))))) : Int))) (64 : Nat))) w
 exact (o107 (d := .tup [.int .u64 (cutM (IntKind.wrap IntKind.u64 (cutM a w * 2 ^ min (Int.toNat (IntKind.wrap IntKind.u64 (↑(BitVec.toNat (BitVec.ofInt (64 : Nat) (cutM b w) &&& BitVec.ofInt (64 : Nat) (IntKind.wrap IntKind.u64 (IntKind.wrap IntKind.i8 (w - 1))))) : Int))) (64 : Nat))) w), .int .i64 0]) [tT, tT, tF, tT, tT, .ret _ _ _ c0, tT, tF, tF, .ret _ _ _ c1, .ret _ _ _ c2, .inl, tT, .get ([D.fn (Fn.func 188) [] [], D.fn (Fn.func 189) [] [], D.fn (Fn.func 190) [] [], D.fn (Fn.func 191) [] [], D.fn (Fn.func 192) [] [], D.fn (Fn.func 193) [] [], D.fn (Fn.func 194) [] [], D.fn (Fn.func 195) [] [], D.fn (Fn.func 196) [] [], D.fn (Fn.func 197) [] [], D.fn (Fn.func 198) [] [], D.fn (Fn.func 199) [] [], D.fn (Fn.func 200) [] []]) 6 (D.fn (Fn.func 194) [] []) rfl, .inl, tT, .ret _ _ _ c3] (by kernel_rfl)).to (by ((simp only [wk, wkL, and_true]; repeat' (first | rfl | exact True.intro | apply And.intro)); done))
theorem bdo_7_ok : SpE00 7 := by
 intro w a b hw
 have c0 := @blong_ok w
 rw [show (longM w) = true from hw] at c0
 have c1 := @cut_ok a w
 have c2 := @cut_ok b w
 have c3 := @cut_ok (Int.fdiv (cutM a w) (2 ^ min (Int.toNat (IntKind.wrap IntKind.u64 (↑(BitVec.toNat (BitVec.ofInt (64 : Nat) (cutM b w) &&& BitVec.ofInt (64 : Nat) (IntKind.wrap IntKind.u64 (IntKind.wrap IntKind.i8 (w - 1))))) : Int))) (64 : Nat))) w
 exact (o107 (d := .tup [.int .u64 (cutM (Int.fdiv (cutM a w) (2 ^ min (Int.toNat (IntKind.wrap IntKind.u64 (↑(BitVec.toNat (BitVec.ofInt (64 : Nat) (cutM b w) &&& BitVec.ofInt (64 : Nat) (IntKind.wrap IntKind.u64 (IntKind.wrap IntKind.i8 (w - 1))))) : Int))) (64 : Nat))) w), .int .i64 0]) [tT, tT, tF, tT, tT, .ret _ _ _ c0, tT, tF, tF, .ret _ _ _ c1, .ret _ _ _ c2, .inl, tT, .get ([D.fn (Fn.func 188) [] [], D.fn (Fn.func 189) [] [], D.fn (Fn.func 190) [] [], D.fn (Fn.func 191) [] [], D.fn (Fn.func 192) [] [], D.fn (Fn.func 193) [] [], D.fn (Fn.func 194) [] [], D.fn (Fn.func 195) [] [], D.fn (Fn.func 196) [] [], D.fn (Fn.func 197) [] [], D.fn (Fn.func 198) [] [], D.fn (Fn.func 199) [] [], D.fn (Fn.func 200) [] []]) 7 (D.fn (Fn.func 195) [] []) rfl, .inl, tT, .ret _ _ _ c3] (by kernel_rfl)).to (by ((simp only [wk, wkL, and_true]; repeat' (first | rfl | exact True.intro | apply And.intro)); done))
theorem bdo_8_ok : SpE00 8 := by
 intro w a b hw
 have c0 := @blong_ok w
 rw [show (longM w) = true from hw] at c0
 have c1 := @cut_ok a w
 have c2 := @cut_ok b w
 have c3 := @cut_ok (IntKind.wrap IntKind.u64 (0 - cutM a w)) w
 exact (o107 (d := .tup [.int .u64 (cutM (IntKind.wrap IntKind.u64 (0 - cutM a w)) w), .int .i64 0]) [tT, tT, tF, tT, tT, .ret _ _ _ c0, tT, tF, tF, .ret _ _ _ c1, .ret _ _ _ c2, .inl, tT, .get ([D.fn (Fn.func 188) [] [], D.fn (Fn.func 189) [] [], D.fn (Fn.func 190) [] [], D.fn (Fn.func 191) [] [], D.fn (Fn.func 192) [] [], D.fn (Fn.func 193) [] [], D.fn (Fn.func 194) [] [], D.fn (Fn.func 195) [] [], D.fn (Fn.func 196) [] [], D.fn (Fn.func 197) [] [], D.fn (Fn.func 198) [] [], D.fn (Fn.func 199) [] [], D.fn (Fn.func 200) [] []]) 8 (D.fn (Fn.func 196) [] []) rfl, .inl, .ret _ _ _ c3] (by kernel_rfl)).to (by ((simp only [wk, wkL, and_true]; repeat' (first | rfl | exact True.intro | apply And.intro)); done))
theorem bdo_10_ok : SpE00 10 := by
 intro w a b hw
 have c0 := @blong_ok w
 rw [show (longM w) = true from hw] at c0
 have c1 := @cut_ok a w
 have c2 := @cut_ok b w
 have c3 := @cut_ok (IntKind.wrap IntKind.u64 (↑(BitVec.toNat (BitVec.ofInt (64 : Nat) (cutM a w) ^^^ BitVec.ofInt (64 : Nat) (cutM b w))) : Int)) w
 exact (o107 (d := .tup [.int .u64 (cutM (IntKind.wrap IntKind.u64 (↑(BitVec.toNat (BitVec.ofInt (64 : Nat) (cutM a w) ^^^ BitVec.ofInt (64 : Nat) (cutM b w))) : Int)) w), .int .i64 0]) [tT, tT, tF, tT, tT, .ret _ _ _ c0, tT, tF, tF, .ret _ _ _ c1, .ret _ _ _ c2, .inl, tT, .get ([D.fn (Fn.func 188) [] [], D.fn (Fn.func 189) [] [], D.fn (Fn.func 190) [] [], D.fn (Fn.func 191) [] [], D.fn (Fn.func 192) [] [], D.fn (Fn.func 193) [] [], D.fn (Fn.func 194) [] [], D.fn (Fn.func 195) [] [], D.fn (Fn.func 196) [] [], D.fn (Fn.func 197) [] [], D.fn (Fn.func 198) [] [], D.fn (Fn.func 199) [] [], D.fn (Fn.func 200) [] []]) 10 (D.fn (Fn.func 198) [] []) rfl, .inl, .ret _ _ _ c3] (by kernel_rfl)).to (by ((simp only [wk, wkL, and_true]; repeat' (first | rfl | exact True.intro | apply And.intro)); done))
theorem bdo_12_ok : SpE00 12 := by
 intro w a b hw
 have c0 := @blong_ok w
 rw [show (longM w) = true from hw] at c0
 have c1 := @cut_ok a w
 have c2 := @cut_ok b w
 have c3 := @sign_ok (cutM a w) w
 have c4 := @cut_ok (IntKind.wrap IntKind.u64 (Int.fdiv (IntKind.wrap IntKind.i64 (signM (cutM a w) w)) (2 ^ min (Int.toNat (IntKind.wrap IntKind.u64 (↑(BitVec.toNat (BitVec.ofInt (64 : Nat) (cutM b w) &&& BitVec.ofInt (64 : Nat) (IntKind.wrap IntKind.u64 (IntKind.wrap IntKind.i8 (w - 1))))) : Int))) (64 : Nat)))) w
 exact (o107 (d := .tup [.int .u64 (cutM (IntKind.wrap IntKind.u64 (Int.fdiv (IntKind.wrap IntKind.i64 (signM (cutM a w) w)) (2 ^ min (Int.toNat (IntKind.wrap IntKind.u64 (↑(BitVec.toNat (BitVec.ofInt (64 : Nat) (cutM b w) &&& BitVec.ofInt (64 : Nat) (IntKind.wrap IntKind.u64 (IntKind.wrap IntKind.i8 (w - 1))))) : Int))) (64 : Nat)))) w), .int .i64 0]) [tT, tT, tF, tT, tT, .ret _ _ _ c0, tT, tF, tF, .ret _ _ _ c1, .ret _ _ _ c2, .inl, tT, .get ([D.fn (Fn.func 188) [] [], D.fn (Fn.func 189) [] [], D.fn (Fn.func 190) [] [], D.fn (Fn.func 191) [] [], D.fn (Fn.func 192) [] [], D.fn (Fn.func 193) [] [], D.fn (Fn.func 194) [] [], D.fn (Fn.func 195) [] [], D.fn (Fn.func 196) [] [], D.fn (Fn.func 197) [] [], D.fn (Fn.func 198) [] [], D.fn (Fn.func 199) [] [], D.fn (Fn.func 200) [] []]) 12 (D.fn (Fn.func 200) [] []) rfl, .inl, .ret _ _ _ c3, tT, .ret _ _ _ c4] (by kernel_rfl)).to (by ((simp only [wk, wkL, and_true]; repeat' (first | rfl | exact True.intro | apply And.intro)); done))
theorem fnone_ok  : Ret Tryz.prog 94 ([]) (fD false false false false false) := by
 exact (o94 (d := .agg [.bool false, .bool false, .bool false, .bool false, .bool false]) [] (by kernel_rfl)).to (by ((simp only [wk, wkL, and_true]; repeat' (first | rfl | exact True.intro | apply And.intro)); done))
theorem fminus_ok (v w : Int) : Ret Tryz.prog 164 ([.int .u64 v, .int .i8 w]) (.bool (negM v w)) := by
 have c0 := @sign_ok v w
 exact (o164 (d := .bool (decide (IntKind.wrap IntKind.i64 (signM v w) < 0))) [.ret _ _ _ c0] (by kernel_rfl)).to (by ((simp only [wk, wkL, and_true]; repeat' (first | rfl | exact True.intro | apply And.intro)); done))
theorem fof_ok (w v : Int) (hw : longM w = true) : Ret Tryz.prog 110 ([.int .i8 w, .int .u64 v]) (.tup [fD true false (cutM v w == 0) (negM v w) false, .int .i64 0]) := by
 by_cases h0 : w = 32
 ·subst h0
  have c1 := @cut_ok v 32
  have c2 := @fminus_ok v 32
  exact (o110 (d := .tup [.agg [.bool true, .bool false, .bool (cutM v 32 == 0), .bool (negM v 32), .bool false], .int .i64 0]) [tF, tF, tF, tF, .ret _ _ _ c1, .ret _ _ _ c2] (by kernel_rfl)).to (by ((simp only [wk, wkL, and_true]; repeat' (first | rfl | exact True.intro | apply And.intro)); done))
 by_cases h3 : w = 64
 ·subst h3
  have c4 := @cut_ok v 64
  have c5 := @fminus_ok v 64
  exact (o110 (d := .tup [.agg [.bool true, .bool false, .bool (cutM v 64 == 0), .bool (negM v 64), .bool false], .int .i64 0]) [tC (eT (nt (neOf h0))), tC (eT (nt (neOf h0))), tC (nt (neOf h0)), tF, .ret _ _ _ c4, .ret _ _ _ c5] (by kernel_rfl)).to (by ((simp only [wk, wkL, and_true]; repeat' (first | rfl | exact True.intro | apply And.intro)); done))
 exact (o110 (d := .tup [.agg [.bool false, .bool false, .bool false, .bool false, .bool false], .int .i64 2]) [tC (eT (nt (neOf h0))), tC (eT (nt (neOf h0))), tC (nt (neOf h0)), tC (nt (neOf h3))] (by kernel_rfl)).to (by (exfalso; simp [longM] at *; omega))
theorem fadd_ok (w a b : Int) (hw : longM w = true) : Ret Tryz.prog 108 ([.int .i8 w, .int .u64 a, .int .u64 b]) (.tup [fD true (addC w a b) (cutM (u64 (a + b)) w == 0) (negM (u64 (a + b)) w) (addO w a b), .int .i64 0]) := by
 have c0 := @fof_ok w (IntKind.wrap IntKind.u64 (a + b)) hw
 have c1 := @cut_ok (IntKind.wrap IntKind.u64 (a + b)) w
 have c2 := @cut_ok a w
 have c3 := @fminus_ok (IntKind.wrap IntKind.u64 (↑(BitVec.toNat (BitVec.ofInt (64 : Nat) (IntKind.wrap IntKind.u64 (↑(BitVec.toNat (BitVec.ofInt (64 : Nat) a ^^^ BitVec.ofInt (64 : Nat) (IntKind.wrap IntKind.u64 (a + b)))) : Int)) &&& BitVec.ofInt (64 : Nat) (IntKind.wrap IntKind.u64 (↑(BitVec.toNat (BitVec.ofInt (64 : Nat) b ^^^ BitVec.ofInt (64 : Nat) (IntKind.wrap IntKind.u64 (a + b)))) : Int)))) : Int)) w
 exact (o108 (d := .tup [.agg [.bool true, .bool (decide (cutM (IntKind.wrap IntKind.u64 (a + b)) w < cutM a w)), .bool (cutM (IntKind.wrap IntKind.u64 (a + b)) w == 0), .bool (negM (IntKind.wrap IntKind.u64 (a + b)) w), .bool (negM (IntKind.wrap IntKind.u64 (↑(BitVec.toNat (BitVec.ofInt (64 : Nat) (IntKind.wrap IntKind.u64 (↑(BitVec.toNat (BitVec.ofInt (64 : Nat) a ^^^ BitVec.ofInt (64 : Nat) (IntKind.wrap IntKind.u64 (a + b)))) : Int)) &&& BitVec.ofInt (64 : Nat) (IntKind.wrap IntKind.u64 (↑(BitVec.toNat (BitVec.ofInt (64 : Nat) b ^^^ BitVec.ofInt (64 : Nat) (IntKind.wrap IntKind.u64 (a + b)))) : Int)))) : Int)) w)], .int .i64 0]) [.ret _ _ _ c0, tF, .ret _ _ _ c1, .ret _ _ _ c2, .ret _ _ _ c3] (by kernel_rfl)).to (by ((simp only [wk, wkL, and_true]; repeat' (first | rfl | exact True.intro | apply And.intro)); done))
theorem fsub_ok (w a b : Int) (hw : longM w = true) : Ret Tryz.prog 109 ([.int .i8 w, .int .u64 a, .int .u64 b]) (.tup [fD true (subC w a b) (cutM (u64 (a - b)) w == 0) (negM (u64 (a - b)) w) (subO w a b), .int .i64 0]) := by
 have c0 := @fof_ok w (IntKind.wrap IntKind.u64 (a - b)) hw
 have c1 := @cut_ok a w
 have c2 := @cut_ok b w
 have c3 := @fminus_ok (IntKind.wrap IntKind.u64 (↑(BitVec.toNat (BitVec.ofInt (64 : Nat) (IntKind.wrap IntKind.u64 (↑(BitVec.toNat (BitVec.ofInt (64 : Nat) a ^^^ BitVec.ofInt (64 : Nat) b)) : Int)) &&& BitVec.ofInt (64 : Nat) (IntKind.wrap IntKind.u64 (↑(BitVec.toNat (BitVec.ofInt (64 : Nat) a ^^^ BitVec.ofInt (64 : Nat) (IntKind.wrap IntKind.u64 (a - b)))) : Int)))) : Int)) w
 exact (o109 (d := .tup [.agg [.bool true, .bool (decide (cutM a w < cutM b w)), .bool (cutM (IntKind.wrap IntKind.u64 (a - b)) w == 0), .bool (negM (IntKind.wrap IntKind.u64 (a - b)) w), .bool (negM (IntKind.wrap IntKind.u64 (↑(BitVec.toNat (BitVec.ofInt (64 : Nat) (IntKind.wrap IntKind.u64 (↑(BitVec.toNat (BitVec.ofInt (64 : Nat) a ^^^ BitVec.ofInt (64 : Nat) b)) : Int)) &&& BitVec.ofInt (64 : Nat) (IntKind.wrap IntKind.u64 (↑(BitVec.toNat (BitVec.ofInt (64 : Nat) a ^^^ BitVec.ofInt (64 : Nat) (IntKind.wrap IntKind.u64 (a - b)))) : Int)))) : Int)) w)], .int .i64 0]) [.ret _ _ _ c0, tF, .ret _ _ _ c1, .ret _ _ _ c2, .ret _ _ _ c3] (by kernel_rfl)).to (by ((simp only [wk, wkL, and_true]; repeat' (first | rfl | exact True.intro | apply And.intro)); done))
end Go.Proofs.YtojgmjfcfpclbaaGreat
