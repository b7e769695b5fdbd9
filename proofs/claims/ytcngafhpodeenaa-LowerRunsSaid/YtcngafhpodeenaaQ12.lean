/- Contracts and plain laws that a statement's proof leans on (texts merged: KSR, KSA, KS2A, KS3, KS3A, KS4). -/
import Derived.Test.YtcngafhpodeenaaQ04
import Derived.Test.YtcngafhpodeenaaQ05
import Derived.Test.YtcngafhpodeenaaQ07
import Derived.Test.YtcngafhpodeenaaQ10
import Derived.Test.YtcngafhpodeenaaQ11
set_option linter.unusedVariables false
set_option linter.unusedSimpArgs false
namespace Go.Proofs.Ytcngafhpodeenaa
open Go Go.Ev
set_option maxRecDepth 100000
set_option maxHeartbeats 8000000
def SpKSR0 (k0_ : Int) (k1_ : Int) : Prop := ∀ (byReg : Bool) (dst src imm : Int) (hi1 : -2147483648 ≤ imm) (hi2 : imm ≤ 2147483647), Ret Try.prog 41 ([instD 0 k0_ k1_ 0 byReg dst src 0 imm]) (.lst .no 13 (stepsM 0 k0_ k1_ 0 byReg dst src 0 imm))
theorem rsteps_0_0_32_ok : SpKSR0 0 32 := by
 intro byReg dst src imm hi1 hi2
 have c0 := @r_take_ok 0 dst
 have c1 := @r_give_ok dst 0
 let E1 : EL := [tT, .inl, .inl, tT, .ret _ _ _ c0, .ret _ _ _ c1, tT, tT, tT, tF, tF, tT, tT, tT]
 cases byReg
 ·have c2 := @r_imm_ok 9 32 0 imm
  exact (o41 (d := .lst .tight 13 [(irD 1 0 0 0 0 0 0 0 0 dst 0 0 0), (irD 0 9 32 0 0 0 0 imm 0 0 0 0 0), (irD 2 0 0 0 0 0 0 0 0 dst 0 0 0)]) (E1 ++ [tF, tT, .ret _ _ _ c2]) (by kernel_rfl)).to (by clear E1; (try simp only [IntKind.bits, and31, and63, and32, wrap_mod32, wrap_mod64] at *); simp [wk, wkL, wkO, stepsM, aluM, regOp, immOp, zeroImm, takeD, giveD, two, num, cmov, irD, ]; try ((try simp only [w_u64, w_i64, and32, IntKind.bits, Int.mul_one] at *); omega))
 have c3 := @r_take_ok 1 src
 have c4 := @r_two_ok 2 32 0 1
 exact (o41 (d := .lst .tight 13 [(irD 1 0 0 0 0 0 0 0 0 dst 0 0 0), (irD 1 0 0 0 0 0 0 0 0 src 1 0 0), (irD 0 2 32 0 1 0 0 0 0 0 0 0 0), (irD 2 0 0 0 0 0 0 0 0 dst 0 0 0)]) (E1 ++ [tT, .ret _ _ _ c3, .ret _ _ _ c4]) (by kernel_rfl)).to (by clear E1; (try simp only [IntKind.bits, and31, and63, and32, wrap_mod32, wrap_mod64] at *); simp [wk, wkL, wkO, stepsM, aluM, regOp, immOp, zeroImm, takeD, giveD, two, num, cmov, irD, ]; try ((try simp only [w_u64, w_i64, and32, IntKind.bits, Int.mul_one] at *); omega))
theorem rsteps_0_0_64_ok : SpKSR0 0 64 := by
 intro byReg dst src imm hi1 hi2
 have c0 := @r_take_ok 0 dst
 have c1 := @r_give_ok dst 0
 let E1 : EL := [tT, .inl, .inl, tT, .ret _ _ _ c0, .ret _ _ _ c1, tT, tT, tT, tF, tF, tT, tT, tT]
 cases byReg
 ·have c2 := @r_imm_ok 9 64 0 imm
  exact (o41 (d := .lst .tight 13 [(irD 1 0 0 0 0 0 0 0 0 dst 0 0 0), (irD 0 9 64 0 0 0 0 imm 0 0 0 0 0), (irD 2 0 0 0 0 0 0 0 0 dst 0 0 0)]) (E1 ++ [tF, tT, .ret _ _ _ c2]) (by kernel_rfl)).to (by clear E1; (try simp only [IntKind.bits, and31, and63, and32, wrap_mod32, wrap_mod64] at *); simp [wk, wkL, wkO, stepsM, aluM, regOp, immOp, zeroImm, takeD, giveD, two, num, cmov, irD, ]; try ((try simp only [w_u64, w_i64, and32, IntKind.bits, Int.mul_one] at *); omega))
 have c3 := @r_take_ok 1 src
 have c4 := @r_two_ok 2 64 0 1
 exact (o41 (d := .lst .tight 13 [(irD 1 0 0 0 0 0 0 0 0 dst 0 0 0), (irD 1 0 0 0 0 0 0 0 0 src 1 0 0), (irD 0 2 64 0 1 0 0 0 0 0 0 0 0), (irD 2 0 0 0 0 0 0 0 0 dst 0 0 0)]) (E1 ++ [tT, .ret _ _ _ c3, .ret _ _ _ c4]) (by kernel_rfl)).to (by clear E1; (try simp only [IntKind.bits, and31, and63, and32, wrap_mod32, wrap_mod64] at *); simp [wk, wkL, wkO, stepsM, aluM, regOp, immOp, zeroImm, takeD, giveD, two, num, cmov, irD, ]; try ((try simp only [w_u64, w_i64, and32, IntKind.bits, Int.mul_one] at *); omega))
theorem rsteps_0_1_32_ok : SpKSR0 1 32 := by
 intro byReg dst src imm hi1 hi2
 have c0 := @r_take_ok 0 dst
 have c1 := @r_give_ok dst 0
 let E1 : EL := [tT, .inl, .inl, tF, tF, tF, tT, .ret _ _ _ c0, .ret _ _ _ c1, tT, tT, tT, tF, tF, tT, tT, tT]
 cases byReg
 ·have c2 := @r_imm_ok 12 32 0 imm
  exact (o41 (d := .lst .tight 13 [(irD 1 0 0 0 0 0 0 0 0 dst 0 0 0), (irD 0 12 32 0 0 0 0 imm 0 0 0 0 0), (irD 2 0 0 0 0 0 0 0 0 dst 0 0 0)]) (E1 ++ [tF, tT, .ret _ _ _ c2]) (by kernel_rfl)).to (by clear E1; (try simp only [IntKind.bits, and31, and63, and32, wrap_mod32, wrap_mod64] at *); simp [wk, wkL, wkO, stepsM, aluM, regOp, immOp, zeroImm, takeD, giveD, two, num, cmov, irD, ]; try ((try simp only [w_u64, w_i64, and32, IntKind.bits, Int.mul_one] at *); omega))
 have c3 := @r_take_ok 1 src
 have c4 := @r_two_ok 5 32 0 1
 exact (o41 (d := .lst .tight 13 [(irD 1 0 0 0 0 0 0 0 0 dst 0 0 0), (irD 1 0 0 0 0 0 0 0 0 src 1 0 0), (irD 0 5 32 0 1 0 0 0 0 0 0 0 0), (irD 2 0 0 0 0 0 0 0 0 dst 0 0 0)]) (E1 ++ [tT, .ret _ _ _ c3, .ret _ _ _ c4]) (by kernel_rfl)).to (by clear E1; (try simp only [IntKind.bits, and31, and63, and32, wrap_mod32, wrap_mod64] at *); simp [wk, wkL, wkO, stepsM, aluM, regOp, immOp, zeroImm, takeD, giveD, two, num, cmov, irD, ]; try ((try simp only [w_u64, w_i64, and32, IntKind.bits, Int.mul_one] at *); omega))
theorem rsteps_0_1_64_ok : SpKSR0 1 64 := by
 intro byReg dst src imm hi1 hi2
 have c0 := @r_take_ok 0 dst
 have c1 := @r_give_ok dst 0
 let E1 : EL := [tT, .inl, .inl, tF, tF, tF, tT, .ret _ _ _ c0, .ret _ _ _ c1, tT, tT, tT, tF, tF, tT, tT, tT]
 cases byReg
 ·have c2 := @r_imm_ok 12 64 0 imm
  exact (o41 (d := .lst .tight 13 [(irD 1 0 0 0 0 0 0 0 0 dst 0 0 0), (irD 0 12 64 0 0 0 0 imm 0 0 0 0 0), (irD 2 0 0 0 0 0 0 0 0 dst 0 0 0)]) (E1 ++ [tF, tT, .ret _ _ _ c2]) (by kernel_rfl)).to (by clear E1; (try simp only [IntKind.bits, and31, and63, and32, wrap_mod32, wrap_mod64] at *); simp [wk, wkL, wkO, stepsM, aluM, regOp, immOp, zeroImm, takeD, giveD, two, num, cmov, irD, ]; try ((try simp only [w_u64, w_i64, and32, IntKind.bits, Int.mul_one] at *); omega))
 have c3 := @r_take_ok 1 src
 have c4 := @r_two_ok 5 64 0 1
 exact (o41 (d := .lst .tight 13 [(irD 1 0 0 0 0 0 0 0 0 dst 0 0 0), (irD 1 0 0 0 0 0 0 0 0 src 1 0 0), (irD 0 5 64 0 1 0 0 0 0 0 0 0 0), (irD 2 0 0 0 0 0 0 0 0 dst 0 0 0)]) (E1 ++ [tT, .ret _ _ _ c3, .ret _ _ _ c4]) (by kernel_rfl)).to (by clear E1; (try simp only [IntKind.bits, and31, and63, and32, wrap_mod32, wrap_mod64] at *); simp [wk, wkL, wkO, stepsM, aluM, regOp, immOp, zeroImm, takeD, giveD, two, num, cmov, irD, ]; try ((try simp only [w_u64, w_i64, and32, IntKind.bits, Int.mul_one] at *); omega))
theorem rsteps_0_2_32_ok : SpKSR0 2 32 := by
 intro byReg dst src imm hi1 hi2
 have c0 := @r_take_ok 0 dst
 have c1 := @r_give_ok dst 0
 let E1 : EL := [tT, .inl, .inl, tF, tF, tF, tF, tF, .ret _ _ _ c0, .ret _ _ _ c1, tT, tT, tT, tF, tF, tF, tF, tF, tF, tF, tT, tT, tT]
 cases byReg
 ·have c2 := @r_imm_ok 1 32 1 imm
  have c3 := @r_two_ok 16 32 0 1
  exact (o41 (d := .lst .tight 13 [(irD 1 0 0 0 0 0 0 0 0 dst 0 0 0), (irD 0 1 32 1 0 0 0 imm 0 0 0 0 0), (irD 0 16 32 0 1 0 0 0 0 0 0 0 0), (irD 2 0 0 0 0 0 0 0 0 dst 0 0 0)]) (E1 ++ [tF, tT, .ret _ _ _ c2, .ret _ _ _ c3]) (by kernel_rfl)).to (by clear E1; (try simp only [IntKind.bits, and31, and63, and32, wrap_mod32, wrap_mod64] at *); simp [wk, wkL, wkO, stepsM, aluM, regOp, immOp, zeroImm, takeD, giveD, two, num, cmov, irD, ]; try ((try simp only [w_u64, w_i64, and32, IntKind.bits, Int.mul_one] at *); omega))
 have c4 := @r_take_ok 1 src
 have c5 := @r_two_ok 16 32 0 1
 exact (o41 (d := .lst .tight 13 [(irD 1 0 0 0 0 0 0 0 0 dst 0 0 0), (irD 1 0 0 0 0 0 0 0 0 src 1 0 0), (irD 0 16 32 0 1 0 0 0 0 0 0 0 0), (irD 2 0 0 0 0 0 0 0 0 dst 0 0 0)]) (E1 ++ [tT, .ret _ _ _ c4, .ret _ _ _ c5]) (by kernel_rfl)).to (by clear E1; (try simp only [IntKind.bits, and31, and63, and32, wrap_mod32, wrap_mod64] at *); simp [wk, wkL, wkO, stepsM, aluM, regOp, immOp, zeroImm, takeD, giveD, two, num, cmov, irD, ]; try ((try simp only [w_u64, w_i64, and32, IntKind.bits, Int.mul_one] at *); omega))
theorem rsteps_0_2_64_ok : SpKSR0 2 64 := by
 intro byReg dst src imm hi1 hi2
 have c0 := @r_take_ok 0 dst
 have c1 := @r_give_ok dst 0
 let E1 : EL := [tT, .inl, .inl, tF, tF, tF, tF, tF, .ret _ _ _ c0, .ret _ _ _ c1, tT, tT, tT, tF, tF, tF, tF, tF, tF, tF, tT, tT, tT]
 cases byReg
 ·have c2 := @r_imm_ok 1 64 1 imm
  have c3 := @r_two_ok 16 64 0 1
  exact (o41 (d := .lst .tight 13 [(irD 1 0 0 0 0 0 0 0 0 dst 0 0 0), (irD 0 1 64 1 0 0 0 imm 0 0 0 0 0), (irD 0 16 64 0 1 0 0 0 0 0 0 0 0), (irD 2 0 0 0 0 0 0 0 0 dst 0 0 0)]) (E1 ++ [tF, tT, .ret _ _ _ c2, .ret _ _ _ c3]) (by kernel_rfl)).to (by clear E1; (try simp only [IntKind.bits, and31, and63, and32, wrap_mod32, wrap_mod64] at *); simp [wk, wkL, wkO, stepsM, aluM, regOp, immOp, zeroImm, takeD, giveD, two, num, cmov, irD, ]; try ((try simp only [w_u64, w_i64, and32, IntKind.bits, Int.mul_one] at *); omega))
 have c4 := @r_take_ok 1 src
 have c5 := @r_two_ok 16 64 0 1
 exact (o41 (d := .lst .tight 13 [(irD 1 0 0 0 0 0 0 0 0 dst 0 0 0), (irD 1 0 0 0 0 0 0 0 0 src 1 0 0), (irD 0 16 64 0 1 0 0 0 0 0 0 0 0), (irD 2 0 0 0 0 0 0 0 0 dst 0 0 0)]) (E1 ++ [tT, .ret _ _ _ c4, .ret _ _ _ c5]) (by kernel_rfl)).to (by clear E1; (try simp only [IntKind.bits, and31, and63, and32, wrap_mod32, wrap_mod64] at *); simp [wk, wkL, wkO, stepsM, aluM, regOp, immOp, zeroImm, takeD, giveD, two, num, cmov, irD, ]; try ((try simp only [w_u64, w_i64, and32, IntKind.bits, Int.mul_one] at *); omega))
theorem rsteps_0_3_32_ok : SpKSR0 3 32 := by
 intro byReg dst src imm hi1 hi2
 have c0 := @r_take_ok 0 dst
 have c1 := @r_give_ok dst 0
 let E1 : EL := [tT, .inl, .inl, tF, tF, tF, tF, tF, .ret _ _ _ c0, .ret _ _ _ c1, tF, tF, tF, tT, tT, .inl, tF, tT]
 cases byReg
 ·by_cases h2 : IntKind.wrap IntKind.i64 (↑(BitVec.toNat (BitVec.ofInt (64 : Nat) imm &&& BitVec.ofInt (64 : Nat) 4294967295)) : Int) = 0
  ·have c3 := @r_imm_ok 1 32 0 0
   have c4 := @r_give_ok dst 0
   exact (o41 (d := .lst .tight 13 [(irD 0 1 32 0 0 0 0 0 0 0 0 0 0), (irD 2 0 0 0 0 0 0 0 0 dst 0 0 0)]) (E1 ++ [tT, tT, tT] ++ List.replicate 3 (tC (eT (eqI 0 true h2))) ++ [tC (eqI 0 true h2), tT, .ret _ _ _ c3, .ret _ _ _ c4]) (by kernel_rfl)).to (by clear E1; (try simp only [IntKind.bits, and31, and63, and32, wrap_mod32, wrap_mod64] at *); simp [wk, wkL, wkO, stepsM, aluM, regOp, immOp, zeroImm, takeD, giveD, two, num, cmov, irD, h2]; try ((try simp only [w_u64, w_i64, and32, IntKind.bits, Int.mul_one] at *); omega))
  have c5 := @r_take_ok 0 dst
  have c6 := @r_imm_ok 1 32 1 imm
  have c7 := @r_imm_ok 1 32 2 0
  have c8 := @r_x_ok 24 32 1 0 0 0 0 0
  have c9 := @r_give_ok dst 0
  exact (o41 (d := .lst .tight 13 [(irD 1 0 0 0 0 0 0 0 0 dst 0 0 0), (irD 0 1 32 1 0 0 0 imm 0 0 0 0 0), (irD 0 1 32 2 0 0 0 0 0 0 0 0 0), (irD 0 24 32 1 0 0 0 0 0 0 0 0 0), (irD 2 0 0 0 0 0 0 0 0 dst 0 0 0)]) (E1 ++ [tT, tT, tT] ++ List.replicate 3 (tC (eT (neOf h2))) ++ [tC (neOf h2), tF, tT, tT, tT, tC (eT (neOf h2)), tC (eT (neOf h2)), tC (neOf h2), tF, tT, tT, tT, tC (neOf h2), tT, .ret _ _ _ c5, .ret _ _ _ c6, .ret _ _ _ c7, .ret _ _ _ c8, .ret _ _ _ c9]) (by kernel_rfl)).to (by clear E1; (try simp only [IntKind.bits, and31, and63, and32, wrap_mod32, wrap_mod64] at *); simp [wk, wkL, wkO, stepsM, aluM, regOp, immOp, zeroImm, takeD, giveD, two, num, cmov, irD, h2]; try ((try simp only [w_u64, w_i64, and32, IntKind.bits, Int.mul_one] at *); omega))
 have c10 := @r_take_ok 0 dst
 have c11 := @r_take_ok 1 src
 have c12 := @r_imm_ok 1 32 2 0
 have c13 := @r_imm_ok 1 32 11 1
 have c14 := @r_choose_ok 32 1
 have c15 := @r_x_ok 24 32 1 0 0 0 0 0
 have c16 := @r_take_ok 1 src
 have c17 := @r_imm_ok 1 32 11 0
 have c18 := @r_choose_ok 32 0
 have c19 := @r_give_ok dst 0
 exact (o41 (d := .lst (.fresh 13) 13 [(irD 1 0 0 0 0 0 0 0 0 dst 0 0 0), (irD 1 0 0 0 0 0 0 0 0 src 1 0 0), (irD 0 1 32 2 0 0 0 0 0 0 0 0 0), (irD 0 1 32 11 0 0 0 1 0 0 0 0 0), (irD 0 8 32 1 1 0 0 0 0 0 0 0 0), (irD 0 25 32 1 11 0 0 0 4 0 0 0 0), (irD 0 24 32 1 0 0 0 0 0 0 0 0 0), (irD 1 0 0 0 0 0 0 0 0 src 1 0 0), (irD 0 1 32 11 0 0 0 0 0 0 0 0 0), (irD 0 8 32 1 1 0 0 0 0 0 0 0 0), (irD 0 25 32 0 11 0 0 0 4 0 0 0 0), (irD 2 0 0 0 0 0 0 0 0 dst 0 0 0)]) (E1 ++ List.replicate 20 tF ++ [.ret _ _ _ c10, .ret _ _ _ c11, .ret _ _ _ c12, .ret _ _ _ c13, .ret _ _ _ c14, .len 6 2147483648 (by decide), .ret _ _ _ c15, .ret _ _ _ c16, .len 8 2147483648 (by decide), tT, .ret _ _ _ c17, .len 9 2147483648 (by decide), .ret _ _ _ c18, .len 11 2147483648 (by decide), .ret _ _ _ c19, .len 12 2147483648 (by decide)]) (by kernel_rfl)).to (by clear E1; (try simp only [IntKind.bits, and31, and63, and32, wrap_mod32, wrap_mod64] at *); simp [wk, wkL, wkO, stepsM, aluM, regOp, immOp, zeroImm, takeD, giveD, two, num, cmov, irD, ]; try ((try simp only [w_u64, w_i64, and32, IntKind.bits, Int.mul_one] at *); omega))
theorem rsteps_0_3_64_ok : SpKSR0 3 64 := by
 intro byReg dst src imm hi1 hi2
 have c0 := @r_take_ok 0 dst
 have c1 := @r_give_ok dst 0
 let E1 : EL := [tT, .inl, .inl, tF, tF, tF, tF, tF, .ret _ _ _ c0, .ret _ _ _ c1, tF, tF, tF, tT, tT, .inl, tF, tF]
 cases byReg
 ·by_cases h2 : imm = 0
  ·subst h2
   have c3 := @r_imm_ok 1 64 0 0
   have c4 := @r_give_ok dst 0
   exact (o41 (d := .lst .tight 13 [(irD 0 1 64 0 0 0 0 0 0 0 0 0 0), (irD 2 0 0 0 0 0 0 0 0 dst 0 0 0)]) (E1 ++ List.replicate 8 tT ++ [.ret _ _ _ c3, .ret _ _ _ c4]) (by kernel_rfl)).to (by clear E1; (try simp only [IntKind.bits, and31, and63, and32, wrap_mod32, wrap_mod64] at *); simp [wk, wkL, wkO, stepsM, aluM, regOp, immOp, zeroImm, takeD, giveD, two, num, cmov, irD, ]; try ((try simp only [w_u64, w_i64, and32, IntKind.bits, Int.mul_one] at *); omega))
  have c5 := @r_take_ok 0 dst
  have c6 := @r_imm_ok 1 64 1 imm
  have c7 := @r_imm_ok 1 32 2 0
  have c8 := @r_x_ok 24 64 1 0 0 0 0 0
  have c9 := @r_give_ok dst 0
  exact (o41 (d := .lst .tight 13 [(irD 1 0 0 0 0 0 0 0 0 dst 0 0 0), (irD 0 1 64 1 0 0 0 imm 0 0 0 0 0), (irD 0 1 32 2 0 0 0 0 0 0 0 0 0), (irD 0 24 64 1 0 0 0 0 0 0 0 0 0), (irD 2 0 0 0 0 0 0 0 0 dst 0 0 0)]) (E1 ++ [tT, tT, tT] ++ List.replicate 3 (tC (eT (neOf h2))) ++ [tC (neOf h2), tF, tT, tT, tT, tC (eT (neOf h2)), tC (eT (neOf h2)), tC (neOf h2), tF, tT, tT, tT, tC (neOf h2), tT, .ret _ _ _ c5, .ret _ _ _ c6, .ret _ _ _ c7, .ret _ _ _ c8, .ret _ _ _ c9]) (by kernel_rfl)).to (by clear E1; (try simp only [IntKind.bits, and31, and63, and32, wrap_mod32, wrap_mod64] at *); simp [wk, wkL, wkO, stepsM, aluM, regOp, immOp, zeroImm, takeD, giveD, two, num, cmov, irD, h2]; try ((try simp only [w_u64, w_i64, and32, IntKind.bits, Int.mul_one] at *); omega))
 have c10 := @r_take_ok 0 dst
 have c11 := @r_take_ok 1 src
 have c12 := @r_imm_ok 1 32 2 0
 have c13 := @r_imm_ok 1 32 11 1
 have c14 := @r_choose_ok 64 1
 have c15 := @r_x_ok 24 64 1 0 0 0 0 0
 have c16 := @r_take_ok 1 src
 have c17 := @r_imm_ok 1 32 11 0
 have c18 := @r_choose_ok 64 0
 have c19 := @r_give_ok dst 0
 exact (o41 (d := .lst (.fresh 13) 13 [(irD 1 0 0 0 0 0 0 0 0 dst 0 0 0), (irD 1 0 0 0 0 0 0 0 0 src 1 0 0), (irD 0 1 32 2 0 0 0 0 0 0 0 0 0), (irD 0 1 32 11 0 0 0 1 0 0 0 0 0), (irD 0 8 64 1 1 0 0 0 0 0 0 0 0), (irD 0 25 64 1 11 0 0 0 4 0 0 0 0), (irD 0 24 64 1 0 0 0 0 0 0 0 0 0), (irD 1 0 0 0 0 0 0 0 0 src 1 0 0), (irD 0 1 32 11 0 0 0 0 0 0 0 0 0), (irD 0 8 64 1 1 0 0 0 0 0 0 0 0), (irD 0 25 64 0 11 0 0 0 4 0 0 0 0), (irD 2 0 0 0 0 0 0 0 0 dst 0 0 0)]) (E1 ++ List.replicate 20 tF ++ [.ret _ _ _ c10, .ret _ _ _ c11, .ret _ _ _ c12, .ret _ _ _ c13, .ret _ _ _ c14, .len 6 2147483648 (by decide), .ret _ _ _ c15, .ret _ _ _ c16, .len 8 2147483648 (by decide), tT, .ret _ _ _ c17, .len 9 2147483648 (by decide), .ret _ _ _ c18, .len 11 2147483648 (by decide), .ret _ _ _ c19, .len 12 2147483648 (by decide)]) (by kernel_rfl)).to (by clear E1; (try simp only [IntKind.bits, and31, and63, and32, wrap_mod32, wrap_mod64] at *); simp [wk, wkL, wkO, stepsM, aluM, regOp, immOp, zeroImm, takeD, giveD, two, num, cmov, irD, ]; try ((try simp only [w_u64, w_i64, and32, IntKind.bits, Int.mul_one] at *); omega))
theorem rsteps_0_4_32_ok : SpKSR0 4 32 := by
 intro byReg dst src imm hi1 hi2
 have c0 := @r_take_ok 0 dst
 have c1 := @r_give_ok dst 0
 let E1 : EL := [tT, .inl, .inl, tF, tT, .ret _ _ _ c0, .ret _ _ _ c1, tT, tT, tT, tF, tF, tT, tT, tT]
 cases byReg
 ·have c2 := @r_imm_ok 10 32 0 imm
  exact (o41 (d := .lst .tight 13 [(irD 1 0 0 0 0 0 0 0 0 dst 0 0 0), (irD 0 10 32 0 0 0 0 imm 0 0 0 0 0), (irD 2 0 0 0 0 0 0 0 0 dst 0 0 0)]) (E1 ++ [tF, tT, .ret _ _ _ c2]) (by kernel_rfl)).to (by clear E1; (try simp only [IntKind.bits, and31, and63, and32, wrap_mod32, wrap_mod64] at *); simp [wk, wkL, wkO, stepsM, aluM, regOp, immOp, zeroImm, takeD, giveD, two, num, cmov, irD, ]; try ((try simp only [w_u64, w_i64, and32, IntKind.bits, Int.mul_one] at *); omega))
 have c3 := @r_take_ok 1 src
 have c4 := @r_two_ok 3 32 0 1
 exact (o41 (d := .lst .tight 13 [(irD 1 0 0 0 0 0 0 0 0 dst 0 0 0), (irD 1 0 0 0 0 0 0 0 0 src 1 0 0), (irD 0 3 32 0 1 0 0 0 0 0 0 0 0), (irD 2 0 0 0 0 0 0 0 0 dst 0 0 0)]) (E1 ++ [tT, .ret _ _ _ c3, .ret _ _ _ c4]) (by kernel_rfl)).to (by clear E1; (try simp only [IntKind.bits, and31, and63, and32, wrap_mod32, wrap_mod64] at *); simp [wk, wkL, wkO, stepsM, aluM, regOp, immOp, zeroImm, takeD, giveD, two, num, cmov, irD, ]; try ((try simp only [w_u64, w_i64, and32, IntKind.bits, Int.mul_one] at *); omega))
theorem rsteps_0_4_64_ok : SpKSR0 4 64 := by
 intro byReg dst src imm hi1 hi2
 have c0 := @r_take_ok 0 dst
 have c1 := @r_give_ok dst 0
 let E1 : EL := [tT, .inl, .inl, tF, tT, .ret _ _ _ c0, .ret _ _ _ c1, tT, tT, tT, tF, tF, tT, tT, tT]
 cases byReg
 ·have c2 := @r_imm_ok 10 64 0 imm
  exact (o41 (d := .lst .tight 13 [(irD 1 0 0 0 0 0 0 0 0 dst 0 0 0), (irD 0 10 64 0 0 0 0 imm 0 0 0 0 0), (irD 2 0 0 0 0 0 0 0 0 dst 0 0 0)]) (E1 ++ [tF, tT, .ret _ _ _ c2]) (by kernel_rfl)).to (by clear E1; (try simp only [IntKind.bits, and31, and63, and32, wrap_mod32, wrap_mod64] at *); simp [wk, wkL, wkO, stepsM, aluM, regOp, immOp, zeroImm, takeD, giveD, two, num, cmov, irD, ]; try ((try simp only [w_u64, w_i64, and32, IntKind.bits, Int.mul_one] at *); omega))
 have c3 := @r_take_ok 1 src
 have c4 := @r_two_ok 3 64 0 1
 exact (o41 (d := .lst .tight 13 [(irD 1 0 0 0 0 0 0 0 0 dst 0 0 0), (irD 1 0 0 0 0 0 0 0 0 src 1 0 0), (irD 0 3 64 0 1 0 0 0 0 0 0 0 0), (irD 2 0 0 0 0 0 0 0 0 dst 0 0 0)]) (E1 ++ [tT, .ret _ _ _ c3, .ret _ _ _ c4]) (by kernel_rfl)).to (by clear E1; (try simp only [IntKind.bits, and31, and63, and32, wrap_mod32, wrap_mod64] at *); simp [wk, wkL, wkO, stepsM, aluM, regOp, immOp, zeroImm, takeD, giveD, two, num, cmov, irD, ]; try ((try simp only [w_u64, w_i64, and32, IntKind.bits, Int.mul_one] at *); omega))
theorem rsteps_0_5_32_ok : SpKSR0 5 32 := by
 intro byReg dst src imm hi1 hi2
 have c0 := @r_take_ok 0 dst
 have c1 := @r_give_ok dst 0
 let E1 : EL := [tT, .inl, .inl, tF, tF, tT, .ret _ _ _ c0, .ret _ _ _ c1, tT, tT, tT, tF, tF, tT, tT, tT]
 cases byReg
 ·have c2 := @r_imm_ok 11 32 0 imm
  exact (o41 (d := .lst .tight 13 [(irD 1 0 0 0 0 0 0 0 0 dst 0 0 0), (irD 0 11 32 0 0 0 0 imm 0 0 0 0 0), (irD 2 0 0 0 0 0 0 0 0 dst 0 0 0)]) (E1 ++ [tF, tT, .ret _ _ _ c2]) (by kernel_rfl)).to (by clear E1; (try simp only [IntKind.bits, and31, and63, and32, wrap_mod32, wrap_mod64] at *); simp [wk, wkL, wkO, stepsM, aluM, regOp, immOp, zeroImm, takeD, giveD, two, num, cmov, irD, ]; try ((try simp only [w_u64, w_i64, and32, IntKind.bits, Int.mul_one] at *); omega))
 have c3 := @r_take_ok 1 src
 have c4 := @r_two_ok 4 32 0 1
 exact (o41 (d := .lst .tight 13 [(irD 1 0 0 0 0 0 0 0 0 dst 0 0 0), (irD 1 0 0 0 0 0 0 0 0 src 1 0 0), (irD 0 4 32 0 1 0 0 0 0 0 0 0 0), (irD 2 0 0 0 0 0 0 0 0 dst 0 0 0)]) (E1 ++ [tT, .ret _ _ _ c3, .ret _ _ _ c4]) (by kernel_rfl)).to (by clear E1; (try simp only [IntKind.bits, and31, and63, and32, wrap_mod32, wrap_mod64] at *); simp [wk, wkL, wkO, stepsM, aluM, regOp, immOp, zeroImm, takeD, giveD, two, num, cmov, irD, ]; try ((try simp only [w_u64, w_i64, and32, IntKind.bits, Int.mul_one] at *); omega))
theorem rsteps_0_5_64_ok : SpKSR0 5 64 := by
 intro byReg dst src imm hi1 hi2
 have c0 := @r_take_ok 0 dst
 have c1 := @r_give_ok dst 0
 let E1 : EL := [tT, .inl, .inl, tF, tF, tT, .ret _ _ _ c0, .ret _ _ _ c1, tT, tT, tT, tF, tF, tT, tT, tT]
 cases byReg
 ·have c2 := @r_imm_ok 11 64 0 imm
  exact (o41 (d := .lst .tight 13 [(irD 1 0 0 0 0 0 0 0 0 dst 0 0 0), (irD 0 11 64 0 0 0 0 imm 0 0 0 0 0), (irD 2 0 0 0 0 0 0 0 0 dst 0 0 0)]) (E1 ++ [tF, tT, .ret _ _ _ c2]) (by kernel_rfl)).to (by clear E1; (try simp only [IntKind.bits, and31, and63, and32, wrap_mod32, wrap_mod64] at *); simp [wk, wkL, wkO, stepsM, aluM, regOp, immOp, zeroImm, takeD, giveD, two, num, cmov, irD, ]; try ((try simp only [w_u64, w_i64, and32, IntKind.bits, Int.mul_one] at *); omega))
 have c3 := @r_take_ok 1 src
 have c4 := @r_two_ok 4 64 0 1
 exact (o41 (d := .lst .tight 13 [(irD 1 0 0 0 0 0 0 0 0 dst 0 0 0), (irD 1 0 0 0 0 0 0 0 0 src 1 0 0), (irD 0 4 64 0 1 0 0 0 0 0 0 0 0), (irD 2 0 0 0 0 0 0 0 0 dst 0 0 0)]) (E1 ++ [tT, .ret _ _ _ c3, .ret _ _ _ c4]) (by kernel_rfl)).to (by clear E1; (try simp only [IntKind.bits, and31, and63, and32, wrap_mod32, wrap_mod64] at *); simp [wk, wkL, wkO, stepsM, aluM, regOp, immOp, zeroImm, takeD, giveD, two, num, cmov, irD, ]; try ((try simp only [w_u64, w_i64, and32, IntKind.bits, Int.mul_one] at *); omega))
theorem rsteps_0_6_32_ok : SpKSR0 6 32 := by
 intro byReg dst src imm hi1 hi2
 have c0 := @r_take_ok 0 dst
 have c1 := @r_give_ok dst 0
 let E1 : EL := ([tT, .inl, .inl, tF, tF, tF, tF, tF, .ret _ _ _ c0, .ret _ _ _ c1, tT, tT, tT] ++ List.replicate 23 tF ++ [.inl, tT])
 cases byReg
 ·have c2 := @r_imm_ok 17 32 0 (IntKind.wrap IntKind.i64 (↑(BitVec.toNat (BitVec.ofInt (64 : Nat) imm &&& BitVec.ofInt (64 : Nat) 31)) : Int))
  exact (o41 (d := .lst .tight 13 [(irD 1 0 0 0 0 0 0 0 0 dst 0 0 0), (irD 0 17 32 0 0 0 0 (IntKind.wrap IntKind.i64 (↑(BitVec.toNat (BitVec.ofInt (64 : Nat) imm &&& BitVec.ofInt (64 : Nat) 31)) : Int)) 0 0 0 0 0), (irD 2 0 0 0 0 0 0 0 0 dst 0 0 0)]) (E1 ++ [tF, .ret _ _ _ c2]) (by kernel_rfl)).to (by clear E1; (try simp only [IntKind.bits, and31, and63, and32, wrap_mod32, wrap_mod64] at *); simp [wk, wkL, wkO, stepsM, aluM, regOp, immOp, zeroImm, takeD, giveD, two, num, cmov, irD, ]; try ((try simp only [w_u64, w_i64, and32, IntKind.bits, Int.mul_one] at *); omega))
 have c3 := @r_take_ok 1 src
 have c4 := @r_x_ok 20 32 0 0 0 0 0 0
 exact (o41 (d := .lst .tight 13 [(irD 1 0 0 0 0 0 0 0 0 dst 0 0 0), (irD 1 0 0 0 0 0 0 0 0 src 1 0 0), (irD 0 20 32 0 0 0 0 0 0 0 0 0 0), (irD 2 0 0 0 0 0 0 0 0 dst 0 0 0)]) (E1 ++ [tT, .ret _ _ _ c3, .ret _ _ _ c4]) (by kernel_rfl)).to (by clear E1; (try simp only [IntKind.bits, and31, and63, and32, wrap_mod32, wrap_mod64] at *); simp [wk, wkL, wkO, stepsM, aluM, regOp, immOp, zeroImm, takeD, giveD, two, num, cmov, irD, ]; try ((try simp only [w_u64, w_i64, and32, IntKind.bits, Int.mul_one] at *); omega))
theorem rsteps_0_6_64_ok : SpKSR0 6 64 := by
 intro byReg dst src imm hi1 hi2
 have c0 := @r_take_ok 0 dst
 have c1 := @r_give_ok dst 0
 let E1 : EL := ([tT, .inl, .inl, tF, tF, tF, tF, tF, .ret _ _ _ c0, .ret _ _ _ c1, tT, tT, tT] ++ List.replicate 23 tF ++ [.inl, tT])
 cases byReg
 ·have c2 := @r_imm_ok 17 64 0 (IntKind.wrap IntKind.i64 (↑(BitVec.toNat (BitVec.ofInt (64 : Nat) imm &&& BitVec.ofInt (64 : Nat) 63)) : Int))
  exact (o41 (d := .lst .tight 13 [(irD 1 0 0 0 0 0 0 0 0 dst 0 0 0), (irD 0 17 64 0 0 0 0 (IntKind.wrap IntKind.i64 (↑(BitVec.toNat (BitVec.ofInt (64 : Nat) imm &&& BitVec.ofInt (64 : Nat) 63)) : Int)) 0 0 0 0 0), (irD 2 0 0 0 0 0 0 0 0 dst 0 0 0)]) (E1 ++ [tF, .ret _ _ _ c2]) (by kernel_rfl)).to (by clear E1; (try simp only [IntKind.bits, and31, and63, and32, wrap_mod32, wrap_mod64] at *); simp [wk, wkL, wkO, stepsM, aluM, regOp, immOp, zeroImm, takeD, giveD, two, num, cmov, irD, ]; try ((try simp only [w_u64, w_i64, and32, IntKind.bits, Int.mul_one] at *); omega))
 have c3 := @r_take_ok 1 src
 have c4 := @r_x_ok 20 64 0 0 0 0 0 0
 exact (o41 (d := .lst .tight 13 [(irD 1 0 0 0 0 0 0 0 0 dst 0 0 0), (irD 1 0 0 0 0 0 0 0 0 src 1 0 0), (irD 0 20 64 0 0 0 0 0 0 0 0 0 0), (irD 2 0 0 0 0 0 0 0 0 dst 0 0 0)]) (E1 ++ [tT, .ret _ _ _ c3, .ret _ _ _ c4]) (by kernel_rfl)).to (by clear E1; (try simp only [IntKind.bits, and31, and63, and32, wrap_mod32, wrap_mod64] at *); simp [wk, wkL, wkO, stepsM, aluM, regOp, immOp, zeroImm, takeD, giveD, two, num, cmov, irD, ]; try ((try simp only [w_u64, w_i64, and32, IntKind.bits, Int.mul_one] at *); omega))
theorem rsteps_0_7_32_ok : SpKSR0 7 32 := by
 intro byReg dst src imm hi1 hi2
 have c0 := @r_take_ok 0 dst
 have c1 := @r_give_ok dst 0
 let E1 : EL := ([tT, .inl, .inl, tF, tF, tF, tF, tF, .ret _ _ _ c0, .ret _ _ _ c1, tT, tT, tT] ++ List.replicate 23 tF ++ [.inl, tF, tT])
 cases byReg
 ·have c2 := @r_imm_ok 18 32 0 (IntKind.wrap IntKind.i64 (↑(BitVec.toNat (BitVec.ofInt (64 : Nat) imm &&& BitVec.ofInt (64 : Nat) 31)) : Int))
  exact (o41 (d := .lst .tight 13 [(irD 1 0 0 0 0 0 0 0 0 dst 0 0 0), (irD 0 18 32 0 0 0 0 (IntKind.wrap IntKind.i64 (↑(BitVec.toNat (BitVec.ofInt (64 : Nat) imm &&& BitVec.ofInt (64 : Nat) 31)) : Int)) 0 0 0 0 0), (irD 2 0 0 0 0 0 0 0 0 dst 0 0 0)]) (E1 ++ [tF, .ret _ _ _ c2]) (by kernel_rfl)).to (by clear E1; (try simp only [IntKind.bits, and31, and63, and32, wrap_mod32, wrap_mod64] at *); simp [wk, wkL, wkO, stepsM, aluM, regOp, immOp, zeroImm, takeD, giveD, two, num, cmov, irD, ]; try ((try simp only [w_u64, w_i64, and32, IntKind.bits, Int.mul_one] at *); omega))
 have c3 := @r_take_ok 1 src
 have c4 := @r_x_ok 21 32 0 0 0 0 0 0
 exact (o41 (d := .lst .tight 13 [(irD 1 0 0 0 0 0 0 0 0 dst 0 0 0), (irD 1 0 0 0 0 0 0 0 0 src 1 0 0), (irD 0 21 32 0 0 0 0 0 0 0 0 0 0), (irD 2 0 0 0 0 0 0 0 0 dst 0 0 0)]) (E1 ++ [tT, .ret _ _ _ c3, .ret _ _ _ c4]) (by kernel_rfl)).to (by clear E1; (try simp only [IntKind.bits, and31, and63, and32, wrap_mod32, wrap_mod64] at *); simp [wk, wkL, wkO, stepsM, aluM, regOp, immOp, zeroImm, takeD, giveD, two, num, cmov, irD, ]; try ((try simp only [w_u64, w_i64, and32, IntKind.bits, Int.mul_one] at *); omega))
theorem rsteps_0_7_64_ok : SpKSR0 7 64 := by
 intro byReg dst src imm hi1 hi2
 have c0 := @r_take_ok 0 dst
 have c1 := @r_give_ok dst 0
 let E1 : EL := ([tT, .inl, .inl, tF, tF, tF, tF, tF, .ret _ _ _ c0, .ret _ _ _ c1, tT, tT, tT] ++ List.replicate 23 tF ++ [.inl, tF, tT])
 cases byReg
 ·have c2 := @r_imm_ok 18 64 0 (IntKind.wrap IntKind.i64 (↑(BitVec.toNat (BitVec.ofInt (64 : Nat) imm &&& BitVec.ofInt (64 : Nat) 63)) : Int))
  exact (o41 (d := .lst .tight 13 [(irD 1 0 0 0 0 0 0 0 0 dst 0 0 0), (irD 0 18 64 0 0 0 0 (IntKind.wrap IntKind.i64 (↑(BitVec.toNat (BitVec.ofInt (64 : Nat) imm &&& BitVec.ofInt (64 : Nat) 63)) : Int)) 0 0 0 0 0), (irD 2 0 0 0 0 0 0 0 0 dst 0 0 0)]) (E1 ++ [tF, .ret _ _ _ c2]) (by kernel_rfl)).to (by clear E1; (try simp only [IntKind.bits, and31, and63, and32, wrap_mod32, wrap_mod64] at *); simp [wk, wkL, wkO, stepsM, aluM, regOp, immOp, zeroImm, takeD, giveD, two, num, cmov, irD, ]; try ((try simp only [w_u64, w_i64, and32, IntKind.bits, Int.mul_one] at *); omega))
 have c3 := @r_take_ok 1 src
 have c4 := @r_x_ok 21 64 0 0 0 0 0 0
 exact (o41 (d := .lst .tight 13 [(irD 1 0 0 0 0 0 0 0 0 dst 0 0 0), (irD 1 0 0 0 0 0 0 0 0 src 1 0 0), (irD 0 21 64 0 0 0 0 0 0 0 0 0 0), (irD 2 0 0 0 0 0 0 0 0 dst 0 0 0)]) (E1 ++ [tT, .ret _ _ _ c3, .ret _ _ _ c4]) (by kernel_rfl)).to (by clear E1; (try simp only [IntKind.bits, and31, and63, and32, wrap_mod32, wrap_mod64] at *); simp [wk, wkL, wkO, stepsM, aluM, regOp, immOp, zeroImm, takeD, giveD, two, num, cmov, irD, ]; try ((try simp only [w_u64, w_i64, and32, IntKind.bits, Int.mul_one] at *); omega))
theorem rsteps_0_8_32_ok (byReg : Bool) (dst src imm : Int) (hi1 : -2147483648 ≤ imm) (hi2 : imm ≤ 2147483647) (h : byReg = false) : Ret Try.prog 41 ([instD 0 8 32 0 byReg dst src 0 imm]) (.lst .no 13 (stepsM 0 8 32 0 byReg dst src 0 imm)) := by
 have c0 := @r_take_ok 0 dst
 have c1 := @r_give_ok dst 0
 have c2 := @r_x_ok 23 32 0 0 0 0 0 0
 exact (o41 (d := .lst .tight 13 [(irD 1 0 0 0 0 0 0 0 0 dst 0 0 0), (irD 0 23 32 0 0 0 0 0 0 0 0 0 0), (irD 2 0 0 0 0 0 0 0 0 dst 0 0 0)]) ([tT, .inl, .inl, tF, tF, tF, tF, tF, .ret _ _ _ c0, .ret _ _ _ c1, tT, tT, tT] ++ List.replicate 12 tF ++ [tT, .ret _ _ _ c2]) (by kernel_rfl)).to (by (try simp only [IntKind.bits, and31, and63, and32, wrap_mod32, wrap_mod64] at *); simp [wk, wkL, wkO, stepsM, aluM, regOp, immOp, zeroImm, takeD, giveD, two, num, cmov, irD, ]; try ((try simp only [w_u64, w_i64, and32, IntKind.bits, Int.mul_one] at *); omega))
theorem rsteps_0_8_64_ok (byReg : Bool) (dst src imm : Int) (hi1 : -2147483648 ≤ imm) (hi2 : imm ≤ 2147483647) (h : byReg = false) : Ret Try.prog 41 ([instD 0 8 64 0 byReg dst src 0 imm]) (.lst .no 13 (stepsM 0 8 64 0 byReg dst src 0 imm)) := by
 have c0 := @r_take_ok 0 dst
 have c1 := @r_give_ok dst 0
 have c2 := @r_x_ok 23 64 0 0 0 0 0 0
 exact (o41 (d := .lst .tight 13 [(irD 1 0 0 0 0 0 0 0 0 dst 0 0 0), (irD 0 23 64 0 0 0 0 0 0 0 0 0 0), (irD 2 0 0 0 0 0 0 0 0 dst 0 0 0)]) ([tT, .inl, .inl, tF, tF, tF, tF, tF, .ret _ _ _ c0, .ret _ _ _ c1, tT, tT, tT] ++ List.replicate 12 tF ++ [tT, .ret _ _ _ c2]) (by kernel_rfl)).to (by (try simp only [IntKind.bits, and31, and63, and32, wrap_mod32, wrap_mod64] at *); simp [wk, wkL, wkO, stepsM, aluM, regOp, immOp, zeroImm, takeD, giveD, two, num, cmov, irD, ]; try ((try simp only [w_u64, w_i64, and32, IntKind.bits, Int.mul_one] at *); omega))
theorem rsteps_0_9_32_ok : SpKSR0 9 32 := by
 intro byReg dst src imm hi1 hi2
 have c0 := @r_take_ok 0 dst
 have c1 := @r_give_ok dst 0
 let E1 : EL := [tT, .inl, .inl, tF, tF, tF, tF, tF, .ret _ _ _ c0, .ret _ _ _ c1, tT, tT, tT, tF, tT, .inl, tT, tT]
 cases byReg
 ·by_cases h2 : IntKind.wrap IntKind.i64 (↑(BitVec.toNat (BitVec.ofInt (64 : Nat) imm &&& BitVec.ofInt (64 : Nat) 4294967295)) : Int) = 0
  ·have c3 := @r_take_ok 0 dst
   have c4 := @r_two_ok 0 32 0 0
   have c5 := @r_give_ok dst 0
   exact (o41 (d := .lst .tight 13 [(irD 1 0 0 0 0 0 0 0 0 dst 0 0 0), (irD 0 0 32 0 0 0 0 0 0 0 0 0 0), (irD 2 0 0 0 0 0 0 0 0 dst 0 0 0)]) (E1 ++ [tT, tT, tT] ++ List.replicate 3 (tC (eT (eqI 0 true h2))) ++ [tC (eqI 0 true h2), tF, tT, tT, tT, tC (eT (eqI 0 true h2)), tC (eT (eqI 0 true h2)), tC (eqI 0 true h2), tT, .ret _ _ _ c3, .ret _ _ _ c4, .ret _ _ _ c5]) (by kernel_rfl)).to (by clear E1; (try simp only [IntKind.bits, and31, and63, and32, wrap_mod32, wrap_mod64] at *); simp [wk, wkL, wkO, stepsM, aluM, regOp, immOp, zeroImm, takeD, giveD, two, num, cmov, irD, h2]; try ((try simp only [w_u64, w_i64, and32, IntKind.bits, Int.mul_one] at *); omega))
  have c6 := @r_take_ok 0 dst
  have c7 := @r_imm_ok 1 32 1 imm
  have c8 := @r_imm_ok 1 32 2 0
  have c9 := @r_x_ok 24 32 1 0 0 0 0 0
  have c10 := @r_give_ok dst 2
  exact (o41 (d := .lst .tight 13 [(irD 1 0 0 0 0 0 0 0 0 dst 0 0 0), (irD 0 1 32 1 0 0 0 imm 0 0 0 0 0), (irD 0 1 32 2 0 0 0 0 0 0 0 0 0), (irD 0 24 32 1 0 0 0 0 0 0 0 0 0), (irD 2 0 0 0 0 0 0 0 0 dst 2 0 0)]) (E1 ++ [tT, tT, tT] ++ List.replicate 3 (tC (eT (neOf h2))) ++ [tC (neOf h2), tF, tT, tT, tT, tC (eT (neOf h2)), tC (eT (neOf h2)), tC (neOf h2), tF, tT, tT, tT, tC (neOf h2), tT, .ret _ _ _ c6, .ret _ _ _ c7, .ret _ _ _ c8, .ret _ _ _ c9, .ret _ _ _ c10]) (by kernel_rfl)).to (by clear E1; (try simp only [IntKind.bits, and31, and63, and32, wrap_mod32, wrap_mod64] at *); simp [wk, wkL, wkO, stepsM, aluM, regOp, immOp, zeroImm, takeD, giveD, two, num, cmov, irD, h2]; try ((try simp only [w_u64, w_i64, and32, IntKind.bits, Int.mul_one] at *); omega))
 have c11 := @r_take_ok 0 dst
 have c12 := @r_take_ok 1 src
 have c13 := @r_imm_ok 1 32 2 0
 have c14 := @r_imm_ok 1 32 11 1
 have c15 := @r_choose_ok 32 1
 have c16 := @r_x_ok 24 32 1 0 0 0 0 0
 have c17 := @r_take_ok 1 src
 have c18 := @r_take_ok 11 dst
 have c19 := @r_choose_ok 32 2
 have c20 := @r_give_ok dst 2
 exact (o41 (d := .lst (.fresh 13) 13 [(irD 1 0 0 0 0 0 0 0 0 dst 0 0 0), (irD 1 0 0 0 0 0 0 0 0 src 1 0 0), (irD 0 1 32 2 0 0 0 0 0 0 0 0 0), (irD 0 1 32 11 0 0 0 1 0 0 0 0 0), (irD 0 8 32 1 1 0 0 0 0 0 0 0 0), (irD 0 25 32 1 11 0 0 0 4 0 0 0 0), (irD 0 24 32 1 0 0 0 0 0 0 0 0 0), (irD 1 0 0 0 0 0 0 0 0 src 1 0 0), (irD 1 0 0 0 0 0 0 0 0 dst 11 0 0), (irD 0 8 32 1 1 0 0 0 0 0 0 0 0), (irD 0 25 32 2 11 0 0 0 4 0 0 0 0), (irD 2 0 0 0 0 0 0 0 0 dst 2 0 0)]) (E1 ++ List.replicate 20 tF ++ [.ret _ _ _ c11, .ret _ _ _ c12, .ret _ _ _ c13, .ret _ _ _ c14, .ret _ _ _ c15, .len 6 2147483648 (by decide), .ret _ _ _ c16, .ret _ _ _ c17, .len 8 2147483648 (by decide), tF, .ret _ _ _ c18, .len 9 2147483648 (by decide), .ret _ _ _ c19, .len 11 2147483648 (by decide), .ret _ _ _ c20, .len 12 2147483648 (by decide)]) (by kernel_rfl)).to (by clear E1; (try simp only [IntKind.bits, and31, and63, and32, wrap_mod32, wrap_mod64] at *); simp [wk, wkL, wkO, stepsM, aluM, regOp, immOp, zeroImm, takeD, giveD, two, num, cmov, irD, ]; try ((try simp only [w_u64, w_i64, and32, IntKind.bits, Int.mul_one] at *); omega))
theorem rsteps_0_9_64_ok : SpKSR0 9 64 := by
 intro byReg dst src imm hi1 hi2
 have c0 := @r_take_ok 0 dst
 have c1 := @r_give_ok dst 0
 let E1 : EL := [tT, .inl, .inl, tF, tF, tF, tF, tF, .ret _ _ _ c0, .ret _ _ _ c1, tT, tT, tT, tF, tT, .inl, tT, tF]
 cases byReg
 ·by_cases h2 : imm = 0
  ·subst h2
   have c3 := @r_take_ok 0 dst
   have c4 := @r_give_ok dst 0
   exact (o41 (d := .lst .tight 13 [(irD 1 0 0 0 0 0 0 0 0 dst 0 0 0), (irD 2 0 0 0 0 0 0 0 0 dst 0 0 0)]) (E1 ++ [tT, tT, tT, tT, tT, tT, tT, tF, tT, tT, tT, tT, tT, tT, tF, tT, tT, tT, tT, .ret _ _ _ c3, .ret _ _ _ c4]) (by kernel_rfl)).to (by clear E1; (try simp only [IntKind.bits, and31, and63, and32, wrap_mod32, wrap_mod64] at *); simp [wk, wkL, wkO, stepsM, aluM, regOp, immOp, zeroImm, takeD, giveD, two, num, cmov, irD, ]; try ((try simp only [w_u64, w_i64, and32, IntKind.bits, Int.mul_one] at *); omega))
  have c5 := @r_take_ok 0 dst
  have c6 := @r_imm_ok 1 64 1 imm
  have c7 := @r_imm_ok 1 32 2 0
  have c8 := @r_x_ok 24 64 1 0 0 0 0 0
  have c9 := @r_give_ok dst 2
  exact (o41 (d := .lst .tight 13 [(irD 1 0 0 0 0 0 0 0 0 dst 0 0 0), (irD 0 1 64 1 0 0 0 imm 0 0 0 0 0), (irD 0 1 32 2 0 0 0 0 0 0 0 0 0), (irD 0 24 64 1 0 0 0 0 0 0 0 0 0), (irD 2 0 0 0 0 0 0 0 0 dst 2 0 0)]) (E1 ++ [tT, tT, tT] ++ List.replicate 3 (tC (eT (neOf h2))) ++ [tC (neOf h2), tF, tT, tT, tT, tC (eT (neOf h2)), tC (eT (neOf h2)), tC (neOf h2), tF, tT, tT, tT, tC (neOf h2), tT, .ret _ _ _ c5, .ret _ _ _ c6, .ret _ _ _ c7, .ret _ _ _ c8, .ret _ _ _ c9]) (by kernel_rfl)).to (by clear E1; (try simp only [IntKind.bits, and31, and63, and32, wrap_mod32, wrap_mod64] at *); simp [wk, wkL, wkO, stepsM, aluM, regOp, immOp, zeroImm, takeD, giveD, two, num, cmov, irD, h2]; try ((try simp only [w_u64, w_i64, and32, IntKind.bits, Int.mul_one] at *); omega))
 have c10 := @r_take_ok 0 dst
 have c11 := @r_take_ok 1 src
 have c12 := @r_imm_ok 1 32 2 0
 have c13 := @r_imm_ok 1 32 11 1
 have c14 := @r_choose_ok 64 1
 have c15 := @r_x_ok 24 64 1 0 0 0 0 0
 have c16 := @r_take_ok 1 src
 have c17 := @r_take_ok 11 dst
 have c18 := @r_choose_ok 64 2
 have c19 := @r_give_ok dst 2
 exact (o41 (d := .lst (.fresh 13) 13 [(irD 1 0 0 0 0 0 0 0 0 dst 0 0 0), (irD 1 0 0 0 0 0 0 0 0 src 1 0 0), (irD 0 1 32 2 0 0 0 0 0 0 0 0 0), (irD 0 1 32 11 0 0 0 1 0 0 0 0 0), (irD 0 8 64 1 1 0 0 0 0 0 0 0 0), (irD 0 25 64 1 11 0 0 0 4 0 0 0 0), (irD 0 24 64 1 0 0 0 0 0 0 0 0 0), (irD 1 0 0 0 0 0 0 0 0 src 1 0 0), (irD 1 0 0 0 0 0 0 0 0 dst 11 0 0), (irD 0 8 64 1 1 0 0 0 0 0 0 0 0), (irD 0 25 64 2 11 0 0 0 4 0 0 0 0), (irD 2 0 0 0 0 0 0 0 0 dst 2 0 0)]) (E1 ++ List.replicate 20 tF ++ [.ret _ _ _ c10, .ret _ _ _ c11, .ret _ _ _ c12, .ret _ _ _ c13, .ret _ _ _ c14, .len 6 2147483648 (by decide), .ret _ _ _ c15, .ret _ _ _ c16, .len 8 2147483648 (by decide), tF, .ret _ _ _ c17, .len 9 2147483648 (by decide), .ret _ _ _ c18, .len 11 2147483648 (by decide), .ret _ _ _ c19, .len 12 2147483648 (by decide)]) (by kernel_rfl)).to (by clear E1; (try simp only [IntKind.bits, and31, and63, and32, wrap_mod32, wrap_mod64] at *); simp [wk, wkL, wkO, stepsM, aluM, regOp, immOp, zeroImm, takeD, giveD, two, num, cmov, irD, ]; try ((try simp only [w_u64, w_i64, and32, IntKind.bits, Int.mul_one] at *); omega))
theorem rsteps_0_10_32_ok : SpKSR0 10 32 := by
 intro byReg dst src imm hi1 hi2
 have c0 := @r_take_ok 0 dst
 have c1 := @r_give_ok dst 0
 let E1 : EL := [tT, .inl, .inl, tF, tF, tF, tF, tT, .ret _ _ _ c0, .ret _ _ _ c1, tT, tT, tT, tF, tF, tT, tT, tT]
 cases byReg
 ·have c2 := @r_imm_ok 13 32 0 imm
  exact (o41 (d := .lst .tight 13 [(irD 1 0 0 0 0 0 0 0 0 dst 0 0 0), (irD 0 13 32 0 0 0 0 imm 0 0 0 0 0), (irD 2 0 0 0 0 0 0 0 0 dst 0 0 0)]) (E1 ++ [tF, tT, .ret _ _ _ c2]) (by kernel_rfl)).to (by clear E1; (try simp only [IntKind.bits, and31, and63, and32, wrap_mod32, wrap_mod64] at *); simp [wk, wkL, wkO, stepsM, aluM, regOp, immOp, zeroImm, takeD, giveD, two, num, cmov, irD, ]; try ((try simp only [w_u64, w_i64, and32, IntKind.bits, Int.mul_one] at *); omega))
 have c3 := @r_take_ok 1 src
 have c4 := @r_two_ok 6 32 0 1
 exact (o41 (d := .lst .tight 13 [(irD 1 0 0 0 0 0 0 0 0 dst 0 0 0), (irD 1 0 0 0 0 0 0 0 0 src 1 0 0), (irD 0 6 32 0 1 0 0 0 0 0 0 0 0), (irD 2 0 0 0 0 0 0 0 0 dst 0 0 0)]) (E1 ++ [tT, .ret _ _ _ c3, .ret _ _ _ c4]) (by kernel_rfl)).to (by clear E1; (try simp only [IntKind.bits, and31, and63, and32, wrap_mod32, wrap_mod64] at *); simp [wk, wkL, wkO, stepsM, aluM, regOp, immOp, zeroImm, takeD, giveD, two, num, cmov, irD, ]; try ((try simp only [w_u64, w_i64, and32, IntKind.bits, Int.mul_one] at *); omega))
theorem rsteps_0_10_64_ok : SpKSR0 10 64 := by
 intro byReg dst src imm hi1 hi2
 have c0 := @r_take_ok 0 dst
 have c1 := @r_give_ok dst 0
 let E1 : EL := [tT, .inl, .inl, tF, tF, tF, tF, tT, .ret _ _ _ c0, .ret _ _ _ c1, tT, tT, tT, tF, tF, tT, tT, tT]
 cases byReg
 ·have c2 := @r_imm_ok 13 64 0 imm
  exact (o41 (d := .lst .tight 13 [(irD 1 0 0 0 0 0 0 0 0 dst 0 0 0), (irD 0 13 64 0 0 0 0 imm 0 0 0 0 0), (irD 2 0 0 0 0 0 0 0 0 dst 0 0 0)]) (E1 ++ [tF, tT, .ret _ _ _ c2]) (by kernel_rfl)).to (by clear E1; (try simp only [IntKind.bits, and31, and63, and32, wrap_mod32, wrap_mod64] at *); simp [wk, wkL, wkO, stepsM, aluM, regOp, immOp, zeroImm, takeD, giveD, two, num, cmov, irD, ]; try ((try simp only [w_u64, w_i64, and32, IntKind.bits, Int.mul_one] at *); omega))
 have c3 := @r_take_ok 1 src
 have c4 := @r_two_ok 6 64 0 1
 exact (o41 (d := .lst .tight 13 [(irD 1 0 0 0 0 0 0 0 0 dst 0 0 0), (irD 1 0 0 0 0 0 0 0 0 src 1 0 0), (irD 0 6 64 0 1 0 0 0 0 0 0 0 0), (irD 2 0 0 0 0 0 0 0 0 dst 0 0 0)]) (E1 ++ [tT, .ret _ _ _ c3, .ret _ _ _ c4]) (by kernel_rfl)).to (by clear E1; (try simp only [IntKind.bits, and31, and63, and32, wrap_mod32, wrap_mod64] at *); simp [wk, wkL, wkO, stepsM, aluM, regOp, immOp, zeroImm, takeD, giveD, two, num, cmov, irD, ]; try ((try simp only [w_u64, w_i64, and32, IntKind.bits, Int.mul_one] at *); omega))
theorem rsteps_0_11_32_ok : SpKSR0 11 32 := by
 intro byReg dst src imm hi1 hi2
 have c0 := @r_take_ok 0 dst
 have c1 := @r_give_ok dst 0
 let E1 : EL := ([tT, .inl, .inl, tF, tF, tF, tF, tF, .ret _ _ _ c0, .ret _ _ _ c1, tT, tT, tT] ++ List.replicate 13 tF ++ [tT, tT, tT, tT])
 cases byReg
 ·have c2 := @r_imm_ok 1 32 0 imm
  exact (o41 (d := .lst .tight 13 [(irD 0 1 32 0 0 0 0 imm 0 0 0 0 0), (irD 2 0 0 0 0 0 0 0 0 dst 0 0 0)]) (E1 ++ [tT, .ret _ _ _ c2]) (by kernel_rfl)).to (by clear E1; (try simp only [IntKind.bits, and31, and63, and32, wrap_mod32, wrap_mod64] at *); simp [wk, wkL, wkO, stepsM, aluM, regOp, immOp, zeroImm, takeD, giveD, two, num, cmov, irD, ]; try ((try simp only [w_u64, w_i64, and32, IntKind.bits, Int.mul_one] at *); omega))
 have c3 := @r_take_ok 0 src
 have c4 := @r_two_ok 0 32 0 0
 exact (o41 (d := .lst .tight 13 [(irD 1 0 0 0 0 0 0 0 0 src 0 0 0), (irD 0 0 32 0 0 0 0 0 0 0 0 0 0), (irD 2 0 0 0 0 0 0 0 0 dst 0 0 0)]) (E1 ++ [tF, tT, tT, tT, tT, .ret _ _ _ c3, .ret _ _ _ c4]) (by kernel_rfl)).to (by clear E1; (try simp only [IntKind.bits, and31, and63, and32, wrap_mod32, wrap_mod64] at *); simp [wk, wkL, wkO, stepsM, aluM, regOp, immOp, zeroImm, takeD, giveD, two, num, cmov, irD, ]; try ((try simp only [w_u64, w_i64, and32, IntKind.bits, Int.mul_one] at *); omega))
theorem rsteps_0_11_64_ok : SpKSR0 11 64 := by
 intro byReg dst src imm hi1 hi2
 have c0 := @r_take_ok 0 dst
 have c1 := @r_give_ok dst 0
 let E1 : EL := ([tT, .inl, .inl, tF, tF, tF, tF, tF, .ret _ _ _ c0, .ret _ _ _ c1, tT, tT, tT] ++ List.replicate 13 tF ++ [tT, tT, tT, tT])
 cases byReg
 ·have c2 := @r_imm_ok 1 64 0 imm
  exact (o41 (d := .lst .tight 13 [(irD 0 1 64 0 0 0 0 imm 0 0 0 0 0), (irD 2 0 0 0 0 0 0 0 0 dst 0 0 0)]) (E1 ++ [tT, .ret _ _ _ c2]) (by kernel_rfl)).to (by clear E1; (try simp only [IntKind.bits, and31, and63, and32, wrap_mod32, wrap_mod64] at *); simp [wk, wkL, wkO, stepsM, aluM, regOp, immOp, zeroImm, takeD, giveD, two, num, cmov, irD, ]; try ((try simp only [w_u64, w_i64, and32, IntKind.bits, Int.mul_one] at *); omega))
 have c3 := @r_take_ok 0 src
 exact (o41 (d := .lst .tight 13 [(irD 1 0 0 0 0 0 0 0 0 src 0 0 0), (irD 2 0 0 0 0 0 0 0 0 dst 0 0 0)]) (E1 ++ [tF, tT, tT, tT, tF, tT, .ret _ _ _ c3]) (by kernel_rfl)).to (by clear E1; (try simp only [IntKind.bits, and31, and63, and32, wrap_mod32, wrap_mod64] at *); simp [wk, wkL, wkO, stepsM, aluM, regOp, immOp, zeroImm, takeD, giveD, two, num, cmov, irD, ]; try ((try simp only [w_u64, w_i64, and32, IntKind.bits, Int.mul_one] at *); omega))
theorem rsteps_0_12_32_ok : SpKSR0 12 32 := by
 intro byReg dst src imm hi1 hi2
 have c0 := @r_take_ok 0 dst
 have c1 := @r_give_ok dst 0
 let E1 : EL := ([tT, .inl, .inl, tF, tF, tF, tF, tF, .ret _ _ _ c0, .ret _ _ _ c1, tT, tT, tT] ++ List.replicate 23 tF ++ [.inl, tF, tF])
 cases byReg
 ·have c2 := @r_imm_ok 19 32 0 (IntKind.wrap IntKind.i64 (↑(BitVec.toNat (BitVec.ofInt (64 : Nat) imm &&& BitVec.ofInt (64 : Nat) 31)) : Int))
  exact (o41 (d := .lst .tight 13 [(irD 1 0 0 0 0 0 0 0 0 dst 0 0 0), (irD 0 19 32 0 0 0 0 (IntKind.wrap IntKind.i64 (↑(BitVec.toNat (BitVec.ofInt (64 : Nat) imm &&& BitVec.ofInt (64 : Nat) 31)) : Int)) 0 0 0 0 0), (irD 2 0 0 0 0 0 0 0 0 dst 0 0 0)]) (E1 ++ [tF, .ret _ _ _ c2]) (by kernel_rfl)).to (by clear E1; (try simp only [IntKind.bits, and31, and63, and32, wrap_mod32, wrap_mod64] at *); simp [wk, wkL, wkO, stepsM, aluM, regOp, immOp, zeroImm, takeD, giveD, two, num, cmov, irD, ]; try ((try simp only [w_u64, w_i64, and32, IntKind.bits, Int.mul_one] at *); omega))
 have c3 := @r_take_ok 1 src
 have c4 := @r_x_ok 22 32 0 0 0 0 0 0
 exact (o41 (d := .lst .tight 13 [(irD 1 0 0 0 0 0 0 0 0 dst 0 0 0), (irD 1 0 0 0 0 0 0 0 0 src 1 0 0), (irD 0 22 32 0 0 0 0 0 0 0 0 0 0), (irD 2 0 0 0 0 0 0 0 0 dst 0 0 0)]) (E1 ++ [tT, .ret _ _ _ c3, .ret _ _ _ c4]) (by kernel_rfl)).to (by clear E1; (try simp only [IntKind.bits, and31, and63, and32, wrap_mod32, wrap_mod64] at *); simp [wk, wkL, wkO, stepsM, aluM, regOp, immOp, zeroImm, takeD, giveD, two, num, cmov, irD, ]; try ((try simp only [w_u64, w_i64, and32, IntKind.bits, Int.mul_one] at *); omega))
theorem rsteps_0_12_64_ok : SpKSR0 12 64 := by
 intro byReg dst src imm hi1 hi2
 have c0 := @r_take_ok 0 dst
 have c1 := @r_give_ok dst 0
 let E1 : EL := ([tT, .inl, .inl, tF, tF, tF, tF, tF, .ret _ _ _ c0, .ret _ _ _ c1, tT, tT, tT] ++ List.replicate 23 tF ++ [.inl, tF, tF])
 cases byReg
 ·have c2 := @r_imm_ok 19 64 0 (IntKind.wrap IntKind.i64 (↑(BitVec.toNat (BitVec.ofInt (64 : Nat) imm &&& BitVec.ofInt (64 : Nat) 63)) : Int))
  exact (o41 (d := .lst .tight 13 [(irD 1 0 0 0 0 0 0 0 0 dst 0 0 0), (irD 0 19 64 0 0 0 0 (IntKind.wrap IntKind.i64 (↑(BitVec.toNat (BitVec.ofInt (64 : Nat) imm &&& BitVec.ofInt (64 : Nat) 63)) : Int)) 0 0 0 0 0), (irD 2 0 0 0 0 0 0 0 0 dst 0 0 0)]) (E1 ++ [tF, .ret _ _ _ c2]) (by kernel_rfl)).to (by clear E1; (try simp only [IntKind.bits, and31, and63, and32, wrap_mod32, wrap_mod64] at *); simp [wk, wkL, wkO, stepsM, aluM, regOp, immOp, zeroImm, takeD, giveD, two, num, cmov, irD, ]; try ((try simp only [w_u64, w_i64, and32, IntKind.bits, Int.mul_one] at *); omega))
 have c3 := @r_take_ok 1 src
 have c4 := @r_x_ok 22 64 0 0 0 0 0 0
 exact (o41 (d := .lst .tight 13 [(irD 1 0 0 0 0 0 0 0 0 dst 0 0 0), (irD 1 0 0 0 0 0 0 0 0 src 1 0 0), (irD 0 22 64 0 0 0 0 0 0 0 0 0 0), (irD 2 0 0 0 0 0 0 0 0 dst 0 0 0)]) (E1 ++ [tT, .ret _ _ _ c3, .ret _ _ _ c4]) (by kernel_rfl)).to (by clear E1; (try simp only [IntKind.bits, and31, and63, and32, wrap_mod32, wrap_mod64] at *); simp [wk, wkL, wkO, stepsM, aluM, regOp, immOp, zeroImm, takeD, giveD, two, num, cmov, irD, ]; try ((try simp only [w_u64, w_i64, and32, IntKind.bits, Int.mul_one] at *); omega))
theorem rsteps_1_ok (size dst src off : Int) (h1 : size = 1 ∨ size = 2 ∨ size = 4 ∨ size = 8) : Ret Try.prog 41 ([instD 1 0 0 size false dst src off 0]) (.lst .no 13 (stepsM 1 0 0 size false dst src off 0)) := by
 have c0 := @r_take_ok 1 src
 have c1 := @r_x_ok 26 (IntKind.wrap IntKind.i8 (8 * size)) 0 0 1 off 0 0
 have c2 := @r_give_ok dst 0
 exact (o41 (d := .lst .tight 13 [(irD 1 0 0 0 0 0 0 0 0 src 1 0 0), (irD 0 26 (IntKind.wrap IntKind.i8 (8 * size)) 0 0 1 off 0 0 0 0 0 0), (irD 2 0 0 0 0 0 0 0 0 dst 0 0 0)]) [tF, tT, .ret _ _ _ c0, .ret _ _ _ c1, .ret _ _ _ c2] (by kernel_rfl)).to (by simp [wk, wkL, wkO, stepsM, ]; rcases h1 with rfl | rfl | rfl | rfl <;> decide)
theorem rsteps_2_ok (size dst src off : Int) (h1 : size = 1 ∨ size = 2 ∨ size = 4 ∨ size = 8) : Ret Try.prog 41 ([instD 2 0 0 size false dst src off 0]) (.lst .no 13 (stepsM 2 0 0 size false dst src off 0)) := by
 have c0 := @r_take_ok 1 dst
 have c1 := @r_take_ok 0 src
 have c2 := @r_x_ok 27 (IntKind.wrap IntKind.i8 (8 * size)) 0 0 1 off 0 0
 exact (o41 (d := .lst .tight 13 [(irD 1 0 0 0 0 0 0 0 0 dst 1 0 0), (irD 1 0 0 0 0 0 0 0 0 src 0 0 0), (irD 0 27 (IntKind.wrap IntKind.i8 (8 * size)) 0 0 1 off 0 0 0 0 0 0)]) [tF, tF, tT, .ret _ _ _ c0, .ret _ _ _ c1, .ret _ _ _ c2] (by kernel_rfl)).to (by simp [wk, wkL, wkO, stepsM, ]; rcases h1 with rfl | rfl | rfl | rfl <;> decide)
theorem rsteps_5_ok (imm : Int) : Ret Try.prog 41 ([instD 5 0 0 0 false 0 0 0 imm]) (.lst .no 13 (stepsM 5 0 0 0 false 0 0 0 imm)) := by
 have c0 := @r_give_ok 0 0
 have c1 := @r_imm_ok 1 32 1 0
 have c2 := @r_give_ok 1 1
 have c3 := @r_give_ok 2 1
 have c4 := @r_give_ok 3 1
 have c5 := @r_give_ok 4 1
 have c6 := @r_give_ok 5 1
 exact (o41 (d := .lst (.fresh 13) 13 [(irD 3 0 0 0 0 0 0 0 0 0 0 imm 0), (irD 2 0 0 0 0 0 0 0 0 0 0 0 0), (irD 0 1 32 1 0 0 0 0 0 0 0 0 0), (irD 2 0 0 0 0 0 0 0 0 1 1 0 0), (irD 2 0 0 0 0 0 0 0 0 2 1 0 0), (irD 2 0 0 0 0 0 0 0 0 3 1 0 0), (irD 2 0 0 0 0 0 0 0 0 4 1 0 0), (irD 2 0 0 0 0 0 0 0 0 5 1 0 0)]) [tF, tF, tF, tT, .ret _ _ _ c0, .ret _ _ _ c1, .go 64, tT, .ret _ _ _ c2, .len 4 2147483648 (by decide), tT, .ret _ _ _ c3, .len 5 2147483648 (by decide), tT, .ret _ _ _ c4, .len 6 2147483648 (by decide), tT, .ret _ _ _ c5, .len 7 2147483648 (by decide), tT, .ret _ _ _ c6, .len 8 2147483648 (by decide), tF] (by kernel_rfl)).to (by simp [wk, wkL, wkO, stepsM, ])
theorem rsteps_6_ok  : Ret Try.prog 41 ([instD 6 0 0 0 false 0 0 0 0]) (.lst .no 13 (stepsM 6 0 0 0 false 0 0 0 0)) := by
 exact (o41 (d := .lst .tight 13 [(irD 6 0 0 0 0 0 0 0 0 0 0 0 0)]) [tF, tF, tF, tF] (by kernel_rfl)).to (by simp [wk, wkL, wkO, stepsM, ])
end Go.Proofs.Ytcngafhpodeenaa

namespace Go.Proofs.Ytcngafhpodeenaa
open Go Go.Ev
theorem does_any_ok (kind op width size : Int) (byReg : Bool) (dst src off imm : Int) (h : mayM kind op width size byReg dst src off imm = true) (h3 : (kind == 3) = false) (h4 : (kind == 4) = false) :
  Ret Try.prog 37 [instD kind op width size byReg dst src off imm] (.lst .no 13 (stepsM kind op width size byReg dst src off imm)) := by
 obtain ⟨⟨_, _, _, _, _, _, i1, i2⟩, hf⟩ := may_forms h
 simp only [beq_eq_false_iff_ne] at h3 h4
 rcases hf with ⟨rfl, rfl, rfl, _, h8, ho, hw, _, _⟩ | ⟨rfl, rfl, rfl, rfl, rfl, _, hs⟩ | ⟨rfl, rfl, rfl, rfl, rfl, hs⟩ | ⟨rfl, _⟩ | ⟨rfl, _⟩ | ⟨rfl, rfl, rfl, rfl, rfl, rfl, rfl, rfl, _⟩ | ⟨rfl, rfl, rfl, rfl, rfl, rfl, rfl, rfl, rfl⟩
 ·rcases ho with rfl | rfl | rfl | rfl | rfl | rfl | rfl | rfl | rfl | rfl | rfl | rfl | rfl <;> rcases hw with rfl | rfl
  all_goals first
   | exact does_0_0_32_ok _ _ _ _ i1 i2
   | exact does_0_0_64_ok _ _ _ _ i1 i2
   | exact does_0_1_32_ok _ _ _ _ i1 i2
   | exact does_0_1_64_ok _ _ _ _ i1 i2
   | exact does_0_2_32_ok _ _ _ _ i1 i2
   | exact does_0_2_64_ok _ _ _ _ i1 i2
   | exact does_0_3_32_ok _ _ _ _ i1 i2
   | exact does_0_3_64_ok _ _ _ _ i1 i2
   | exact does_0_4_32_ok _ _ _ _ i1 i2
   | exact does_0_4_64_ok _ _ _ _ i1 i2
   | exact does_0_5_32_ok _ _ _ _ i1 i2
   | exact does_0_5_64_ok _ _ _ _ i1 i2
   | exact does_0_6_32_ok _ _ _ _ i1 i2
   | exact does_0_6_64_ok _ _ _ _ i1 i2
   | exact does_0_7_32_ok _ _ _ _ i1 i2
   | exact does_0_7_64_ok _ _ _ _ i1 i2
   | exact does_0_8_32_ok _ _ _ _ i1 i2 (h8 rfl)
   | exact does_0_8_64_ok _ _ _ _ i1 i2 (h8 rfl)
   | exact does_0_9_32_ok _ _ _ _ i1 i2
   | exact does_0_9_64_ok _ _ _ _ i1 i2
   | exact does_0_10_32_ok _ _ _ _ i1 i2
   | exact does_0_10_64_ok _ _ _ _ i1 i2
   | exact does_0_11_32_ok _ _ _ _ i1 i2
   | exact does_0_11_64_ok _ _ _ _ i1 i2
   | exact does_0_12_32_ok _ _ _ _ i1 i2
   | exact does_0_12_64_ok _ _ _ _ i1 i2
 ·exact does_1_ok _ _ _ _ hs
 ·exact does_2_ok _ _ _ _ hs
 ·exact absurd rfl h3
 ·exact absurd rfl h4
 ·exact does_5_ok _
 ·exact does_6_ok
theorem rsteps_any_ok (kind op width size : Int) (byReg : Bool) (dst src off imm : Int) (h : mayM kind op width size byReg dst src off imm = true) (h3 : (kind == 3) = false) (h4 : (kind == 4) = false) :
  Ret Try.prog 41 [instD kind op width size byReg dst src off imm] (.lst .no 13 (stepsM kind op width size byReg dst src off imm)) := by
 obtain ⟨⟨_, _, _, _, _, _, i1, i2⟩, hf⟩ := may_forms h
 simp only [beq_eq_false_iff_ne] at h3 h4
 rcases hf with ⟨rfl, rfl, rfl, _, h8, ho, hw, _, _⟩ | ⟨rfl, rfl, rfl, rfl, rfl, _, hs⟩ | ⟨rfl, rfl, rfl, rfl, rfl, hs⟩ | ⟨rfl, _⟩ | ⟨rfl, _⟩ | ⟨rfl, rfl, rfl, rfl, rfl, rfl, rfl, rfl, _⟩ | ⟨rfl, rfl, rfl, rfl, rfl, rfl, rfl, rfl, rfl⟩
 ·rcases ho with rfl | rfl | rfl | rfl | rfl | rfl | rfl | rfl | rfl | rfl | rfl | rfl | rfl <;> rcases hw with rfl | rfl
  all_goals first
   | exact rsteps_0_0_32_ok _ _ _ _ i1 i2
   | exact rsteps_0_0_64_ok _ _ _ _ i1 i2
   | exact rsteps_0_1_32_ok _ _ _ _ i1 i2
   | exact rsteps_0_1_64_ok _ _ _ _ i1 i2
   | exact rsteps_0_2_32_ok _ _ _ _ i1 i2
   | exact rsteps_0_2_64_ok _ _ _ _ i1 i2
   | exact rsteps_0_3_32_ok _ _ _ _ i1 i2
   | exact rsteps_0_3_64_ok _ _ _ _ i1 i2
   | exact rsteps_0_4_32_ok _ _ _ _ i1 i2
   | exact rsteps_0_4_64_ok _ _ _ _ i1 i2
   | exact rsteps_0_5_32_ok _ _ _ _ i1 i2
   | exact rsteps_0_5_64_ok _ _ _ _ i1 i2
   | exact rsteps_0_6_32_ok _ _ _ _ i1 i2
   | exact rsteps_0_6_64_ok _ _ _ _ i1 i2
   | exact rsteps_0_7_32_ok _ _ _ _ i1 i2
   | exact rsteps_0_7_64_ok _ _ _ _ i1 i2
   | exact rsteps_0_8_32_ok _ _ _ _ i1 i2 (h8 rfl)
   | exact rsteps_0_8_64_ok _ _ _ _ i1 i2 (h8 rfl)
   | exact rsteps_0_9_32_ok _ _ _ _ i1 i2
   | exact rsteps_0_9_64_ok _ _ _ _ i1 i2
   | exact rsteps_0_10_32_ok _ _ _ _ i1 i2
   | exact rsteps_0_10_64_ok _ _ _ _ i1 i2
   | exact rsteps_0_11_32_ok _ _ _ _ i1 i2
   | exact rsteps_0_11_64_ok _ _ _ _ i1 i2
   | exact rsteps_0_12_32_ok _ _ _ _ i1 i2
   | exact rsteps_0_12_64_ok _ _ _ _ i1 i2
 ·exact rsteps_1_ok _ _ _ _ hs
 ·exact rsteps_2_ok _ _ _ _ hs
 ·exact absurd rfl h3
 ·exact absurd rfl h4
 ·exact rsteps_5_ok _
 ·exact rsteps_6_ok
theorem jump_any_ok (kind op width size : Int) (byReg : Bool) (dst src off imm a b : Int) (h0 : 0 ≤ op) (h1 : op ≤ 10) :
  Ret Try.prog 35 [instD kind op width size byReg dst src off imm, .lst .no 1 [.int .i64 a, .int .i64 b]] (.lst .no 13 (jmpM op byReg dst src imm a b)) := by
 rcases Bool.eq_false_or_eq_true (op == 10) with h | h <;> cases byReg
 ·exact jump_is_ok kind op width size dst src off imm h0 h1 h a b
 ·exact jump_rs_ok kind op width size dst src off imm h0 h1 h a b
 ·exact jump_ic_ok kind op width size dst src off imm h0 h1 h a b
 ·exact jump_rc_ok kind op width size dst src off imm h0 h1 h a b
theorem rcmp_any_ok (kind op width size : Int) (byReg : Bool) (dst src off imm : Int) (h0 : 0 ≤ op) (h1 : op ≤ 10) :
  Ret Try.prog 39 [instD kind op width size byReg dst src off imm] (.lst .no 13 (cmpM op byReg dst src imm)) := by
 rcases Bool.eq_false_or_eq_true (op == 10) with h | h <;> cases byReg
 ·exact rcmp_is_ok kind op width size dst src off imm h0 h1 h
 ·exact rcmp_rs_ok kind op width size dst src off imm h0 h1 h
 ·exact rcmp_ic_ok kind op width size dst src off imm h0 h1 h
 ·exact rcmp_rc_ok kind op width size dst src off imm h0 h1 h
end Go.Proofs.Ytcngafhpodeenaa

namespace Go.Proofs.Ytcngafhpodeenaa
open Go Go.Ev
set_option maxRecDepth 100000
theorem may_op {kind op width size : Int} {byReg : Bool} {dst src off imm : Int} (h : mayM kind op width size byReg dst src off imm = true) (h3 : kind = 3) : 0 ≤ op ∧ op ≤ 10 := by
 obtain ⟨_, hf⟩ := may_forms h
 rcases hf with ⟨q, _⟩ | ⟨q, _⟩ | ⟨q, _⟩ | ⟨_, _, _, ho, _⟩ | ⟨q, _⟩ | ⟨q, _⟩ | ⟨q, _⟩ <;> omega
abbrev cutD (l : List InstS) (r : RowS) : List D := List.drop (Int.toNat r.fr) (List.take (Int.toNat r.to) (isd l))
theorem cutD_len (l : List InstS) (r : RowS) (h : r.to ≤ l.length) : (cutD l r).length = r.to.toNat - r.fr.toNat := by
 simp only [cutD, List.length_drop, List.length_take, isd_len]
 omega
theorem cutD_get (l : List InstS) (r : RowS) (h : r.to ≤ l.length) (k : Nat) (hk : k < r.to.toNat - r.fr.toNat) (hlt : r.fr.toNat + k < l.length) : (cutD l r)[k]? = some l[r.fr.toNat + k].d := by
 simp only [cutD, List.getElem?_drop]
 rw [List.getElem?_take_of_lt (by omega), isd_get l _ hlt]
theorem nx_cases (ns : List Int) : (ns = [] ∧ nxD ns = .lst .tight 0 []) ∨ (nxD ns = .lst .no 1 (i64s ns)) := by
 cases ns with
 | nil => exact .inl ⟨rfl, rfl⟩
 | cons a t => exact .inr rfl
abbrev liT (l : List InstS) (rs out : List D) (n b : Int) (row : List D) (r : RowS) (k : Int) : List D := [.undef, .ptr false 0 0, .lst (.tok 3 0) 1 out, .undef, .lst .no 3 rs, .int .i64 b, .lst (.tok 4 0) 13 row, nxD r.nx, .undef, .undef, .undef, .undef, .undef, .undef, .undef, .undef, .undef, .undef, .undef, .undef, .int .i64 n, .int .i64 b, .undef, .undef, .undef, .undef, .undef, .undef, .undef, .undef, .undef, .undef, .undef, .undef, .undef, .undef, .undef, .undef, .undef, .undef, .undef, .lst .no 9 (cutD l r), .int .i64 ((cutD l r).length : Int), .int .i64 k, .undef, .undef, .undef, .undef, .undef, .undef, .undef, .undef, .undef, .undef, .undef, .undef, .undef, .undef, .undef, .undef, .undef, .undef, .undef, .undef, .undef, .undef, .undef, .undef, .undef, .undef, .undef, .undef, .undef, .undef, .undef, .undef, .undef, .undef, .undef, .undef, .undef, .undef, .undef, .undef, .undef, .undef, .undef, .undef, .undef, .undef, .undef, .undef, .undef, .undef, .undef, .undef, .undef, .undef, .undef, .undef, .undef, .undef, .undef, .undef]
abbrev liU (rs out : List D) (n b : Int) (row : List D) (r : RowS) : List D := [.undef, .ptr false 0 0, .lst (.tok 3 0) 1 out, .undef, .lst .no 3 rs, .int .i64 b, .lst (.tok 4 0) 13 row, nxD r.nx, .undef, .undef, .undef, .undef, .undef, .undef, .undef, .undef, .undef, .undef, .undef, .undef, .int .i64 n, .int .i64 b, .undef, .undef, .undef, .undef, .undef, .undef, .undef, .undef, .undef, .undef, .undef, .undef, .undef, .undef, .undef, .undef, .undef, .undef, .undef, .undef, .undef, .undef, .undef, .undef, .undef, .undef, .undef, .undef, .undef, .undef, .undef, .undef, .undef, .undef, .undef, .undef, .undef, .undef, .undef, .undef, .undef, .undef, .undef, .undef, .undef, .undef, .undef, .undef, .undef, .undef, .undef, .undef, .undef, .undef, .undef, .undef, .undef, .undef, .undef, .undef, .undef, .undef, .undef, .undef, .undef, .undef, .undef, .undef, .undef, .undef, .undef, .undef, .undef, .undef, .undef, .undef, .undef, .undef, .undef, .undef, .undef, .undef]
abbrev liS (ctx : Int) (l : List InstS) : List Ob := [.box [.int .i64 ctx, .lst .no 9 (isd l)], .dead, .dead, .fam 0 1, .fam 0 13]
theorem li_rounds (l : List InstS) (hp : OkP l) (ctx : Int) (rs out : List D) (n : Int) (b : Nat) (r : RowS) (hr : RowOk l b r) : ∀ (m k : Nat), k + m = r.to.toNat - r.fr.toNat →
  Rounds Try.prog (loopB Try.f13 1) 3 (liT l rs out n b (accM l r.fr.toNat r.nx k) r k) (liS ctx l) (.exit 2) (liU rs out n b (accM l r.fr.toNat r.nx (r.to.toNat - r.fr.toNat)) r) (liS ctx l)
 | 0, k, hk => by
  have tl := hr.tl
  have hlen := cutD_len l r tl
  have hend : ((cutD l r).length : Int) ≤ k := by rw [hlen]; omega
  obtain rfl : k = r.to.toNat - r.fr.toNat := by omega
  rcases nx_cases r.nx with ⟨_, e⟩ | e
  ·have := li_endz (isd l) rs out (cutD l r) (accM l r.fr.toNat r.nx (r.to.toNat - r.fr.toNat)) ctx n b _ hend
   rw [← e] at this
   exact Rounds.last this (fun h => by cases h)
  ·have := li_end (isd l) rs out (cutD l r) (accM l r.fr.toNat r.nx (r.to.toNat - r.fr.toNat)) ctx n b _ (i64s r.nx) hend
   rw [← e] at this
   exact Rounds.last this (fun h => by cases h)
 | m + 1, k, hk => by
  have h64 := hp.le
  have f0 := hr.f0
  have ft := hr.ft
  have tl := hr.tl
  have hlen := cutD_len l r tl
  have ih := li_rounds l hp ctx rs out n b r hr m (k + 1) (by omega)
  have hw : IntKind.i64.wrap ((k : Int) + 1) = ((k + 1 : Nat) : Int) := by rw [w_i64]; omega
  have hlt : r.fr.toNat + k < l.length := by omega
  have hx : (cutD l r)[(k : Int).toNat]? = some (instD l[r.fr.toNat + k].kind l[r.fr.toNat + k].op l[r.fr.toNat + k].width l[r.fr.toNat + k].size l[r.fr.toNat + k].byReg l[r.fr.toNat + k].dst l[r.fr.toNat + k].src l[r.fr.toNat + k].off l[r.fr.toNat + k].imm) := by
   rw [Int.toNat_natCast]; exact cutD_get l r tl k (by omega) hlt
  have k1 : (k : Int) < ((cutD l r).length : Int) := by rw [hlen]; omega
  have n1 : ((cutD l r).length : Int) ≤ 64 := by rw [hlen]; omega
  have hacc := accM_len l r.fr.toNat r.nx k
  have w1 : ((accM l r.fr.toNat r.nx k).length : Int) ≤ 1000 := by omega
  have hm := hp.may _ hlt
  have es := accM_succ l r.fr.toNat r.nx k hlt
  have hil := insM_len l[r.fr.toNat + k] r.nx
  rw [es] at ih
  by_cases q3 : l[r.fr.toNat + k].kind = 3
  ·have hn := row_jump hp hr (t := r.fr.toNat + k) (by omega) (by omega) hlt q3
   obtain ⟨o0, o1⟩ := may_op hm q3
   generalize blkOf l (tgt1 ((r.fr.toNat + k : Nat) : Int) l[r.fr.toNat + k].kind l[r.fr.toNat + k].off) = p at hn
   have ei : insM l[r.fr.toNat + k] r.nx = jmpM l[r.fr.toNat + k].op l[r.fr.toNat + k].byReg l[r.fr.toNat + k].dst l[r.fr.toNat + k].src l[r.fr.toNat + k].imm p ((b : Int) + 1) := by unfold insM; rw [if_pos q3, hn]; rfl
   rw [ei] at ih hil
   have := li_jump (isd l) rs out (cutD l r) (accM l r.fr.toNat r.nx k) ctx n b k p ((b : Int) + 1) k1 n1 w1 _ _ _ _ _ _ _ _ _ hx _ (by omega) (jump_any_ok _ _ _ _ _ _ _ _ _ p ((b : Int) + 1) o0 o1) q3
   have e : nxD r.nx = .lst .no 1 [.int .i64 p, .int .i64 ((b : Int) + 1)] := by rw [hn]; rfl
   rw [hw, ← e] at this
   exact Rounds.more this ih
  by_cases q4 : l[r.fr.toNat + k].kind = 4
  ·have hn := row_goto hp hr (t := r.fr.toNat + k) (by omega) (by omega) hlt q4
   generalize blkOf l (tgt1 ((r.fr.toNat + k : Nat) : Int) l[r.fr.toNat + k].kind l[r.fr.toNat + k].off) = p at hn
   have ei : insM l[r.fr.toNat + k] r.nx = [gotoD p] := by unfold insM; rw [if_neg q3, if_pos q4, hn]; rfl
   rw [ei] at ih hil
   have := li_goto (isd l) rs out (cutD l r) (accM l r.fr.toNat r.nx k) ctx n b k p k1 n1 w1 _ _ _ _ _ _ _ _ _ hx q4
   have e : nxD r.nx = .lst .no 1 [.int .i64 p] := by rw [hn]; rfl
   rw [hw, ← e] at this
   exact Rounds.more this ih
  have q3' : (l[r.fr.toNat + k].kind == 3) = false := by simpa using q3
  have q4' : (l[r.fr.toNat + k].kind == 4) = false := by simpa using q4
  have ei : insM l[r.fr.toNat + k] r.nx = l[r.fr.toNat + k].steps := by unfold insM; rw [if_neg q3, if_neg q4]
  rw [ei] at ih hil
  have hd := does_any_ok _ _ _ _ _ _ _ _ _ hm q3' q4'
  rcases nx_cases r.nx with ⟨_, e⟩ | e
  ·have := li_stepz (isd l) rs out (cutD l r) (accM l r.fr.toNat r.nx k) ctx n b k k1 n1 w1 _ _ _ _ _ _ _ _ _ hx l[r.fr.toNat + k].steps (by omega) hd q3' q4'
   rw [hw, ← e] at this
   exact Rounds.more this ih
  ·have := li_step (isd l) rs out (cutD l r) (accM l r.fr.toNat r.nx k) ctx n b k (i64s r.nx) k1 n1 w1 _ _ _ _ _ _ _ _ _ hx l[r.fr.toNat + k].steps (by omega) hd q3' q4'
   rw [hw, ← e] at this
   exact Rounds.more this ih
theorem li_loop (l : List InstS) (hp : OkP l) (ctx : Int) (rs out : List D) (n : Int) (b : Nat) (r : RowS) (hr : RowOk l b r) :
  LoopRun Try.prog 3 (.loop (loopB Try.f13 1)) (liT l rs out n b [] r 0) (liS ctx l) (.exit 2) (liU rs out n b (accM l r.fr.toNat r.nx (r.to.toNat - r.fr.toNat)) r) (liS ctx l) :=
 LoopRun.of_rounds (by show 3 ≤ 5; decide) (li_rounds l hp ctx rs out n b r hr (r.to.toNat - r.fr.toNat) 0 (by omega))
end Go.Proofs.Ytcngafhpodeenaa

namespace Go.Proofs.Ytcngafhpodeenaa
open Go Go.Ev
set_option maxRecDepth 100000
set_option maxHeartbeats 8000000
theorem lo_end (l rs out : List D) (ctx : Int) (b : Nat) (h : (rs.length : Int) ≤ b)  : RoundRun Try.prog (loopB Try.f13 0) ⟨[], [], [(2, 1)]⟩ 2 [uu, D.ptr false 0 0, .lst (Own.tok (2 : Nat) (0 : Nat)) (1 : Nat) out, uu, .lst .no 3 rs, uu, uu, uu, uu, uu, uu, uu, uu, uu, uu, uu, uu, uu, uu, uu, .int .i64 (↑(List.length rs) : Int), .int .i64 (↑b : Int), uu, uu, uu, uu, uu, uu, uu, uu, uu, uu, uu, uu, uu, uu, uu, uu, uu, uu, uu, uu, uu, uu, uu, uu, uu, uu, uu, uu, uu, uu, uu, uu, uu, uu, uu, uu, uu, uu, uu, uu, uu, uu, uu, uu, uu, uu, uu, uu, uu, uu, uu, uu, uu, uu, uu, uu, uu, uu, uu, uu, uu, uu, uu, uu, uu, uu, uu, uu, uu, uu, uu, uu, uu, uu, uu, uu, uu, uu, uu, uu, uu, uu] [Ob.box [.int .i64 ctx, .lst .no 9 l], Ob.dead, Ob.fam (0 : Nat) (1 : Nat)] (Ex.exit (0 : Nat)) [uu, uu, .lst (Own.tok (2 : Nat) (0 : Nat)) (1 : Nat) out, uu, uu, uu, uu, uu, uu, uu, uu, uu, uu, uu, uu, uu, uu, uu, uu, uu, uu, uu, uu, uu, uu, uu, uu, uu, uu, uu, uu, uu, uu, uu, uu, uu, uu, uu, uu, uu, uu, uu, uu, uu, uu, uu, uu, uu, uu, uu, uu, uu, uu, uu, uu, uu, uu, uu, uu, uu, uu, uu, uu, uu, uu, uu, uu, uu, uu, uu, uu, uu, uu, uu, uu, uu, uu, uu, uu, uu, uu, uu, uu, uu, uu, uu, uu, uu, uu, uu, uu, uu, uu, uu, uu, uu, uu, uu, uu, uu, uu, uu, uu, uu] ([Ob.dead, Ob.dead, Ob.fam (0 : Nat) (1 : Nat)]) := by
 exact (RoundRun.of_eval (sp := ⟨[], [], [(2, 1)]⟩) (n0 := 2) (ex := Ex.exit (0 : Nat)) (t' := [uu, uu, .lst (Own.tok (2 : Nat) (0 : Nat)) (1 : Nat) out, uu, uu, uu, uu, uu, uu, uu, uu, uu, uu, uu, uu, uu, uu, uu, uu, uu, uu, uu, uu, uu, uu, uu, uu, uu, uu, uu, uu, uu, uu, uu, uu, uu, uu, uu, uu, uu, uu, uu, uu, uu, uu, uu, uu, uu, uu, uu, uu, uu, uu, uu, uu, uu, uu, uu, uu, uu, uu, uu, uu, uu, uu, uu, uu, uu, uu, uu, uu, uu, uu, uu, uu, uu, uu, uu, uu, uu, uu, uu, uu, uu, uu, uu, uu, uu, uu, uu, uu, uu, uu, uu, uu, uu, uu, uu, uu, uu, uu, uu, uu, uu]) (s' := [Ob.dead, Ob.dead, Ob.fam (0 : Nat) (1 : Nat)]) mixed [tC (by ((try simp only [List.length_append, List.length_cons, List.length_nil, List.length_set, List.length_replicate, List.length_take, List.length_drop, sl2] at *); (try unfold big at *); omega) : (decide ((↑b : Int) < (↑(List.length rs) : Int))) = false)] (by kernel_rfl)).cast (by rfl) (by rfl)
theorem lo_jump (l rs out : List D) (ctx : Int) (b : Nat) (ns : List D) (fr to : Int) (hg : rs[(b : Int).toNat]? = some (.agg [.int .i64 fr, .int .i64 to, .lst .no 1 ns])) (f0 : 0 ≤ fr) (ft : fr < to) (tl : to ≤ (l.length : Int)) (l1 : (l.length : Int) ≤ 64) (b1 : (b : Int) < (rs.length : Int)) (r1 : (rs.length : Int) ≤ 64) (o1 : (out.length : Int) ≤ 64) (kind op width size : Int) (byReg : Bool) (dst src off imm : Int) (hy : l[Int.toNat (IntKind.i64.wrap (to - 1))]? = some (instD kind op width size byReg dst src off imm)) (row : List D) (w1 : (row.length : Int) ≤ 1000) (hI : LoopRun Try.prog 3 (.loop (loopB Try.f13 1)) [uu, .ptr false 0 0, .lst (.tok 3 0) 1 out, uu, .lst .no 3 rs, .int .i64 (b : Int), .lst (.tok 4 0) 13 [], .lst .no 1 ns, uu, uu, uu, uu, uu, uu, uu, uu, uu, uu, uu, uu, .int .i64 (rs.length : Int), .int .i64 (b : Int), uu, uu, uu, uu, uu, uu, uu, uu, uu, uu, uu, uu, uu, uu, uu, uu, uu, uu, uu, .lst .no 9 (List.drop (Int.toNat fr) (List.take (Int.toNat to) l)), .int .i64 ((List.drop (Int.toNat fr) (List.take (Int.toNat to) l)).length : Int), .int .i64 0, uu, uu, uu, uu, uu, uu, uu, uu, uu, uu, uu, uu, uu, uu, uu, uu, uu, uu, uu, uu, uu, uu, uu, uu, uu, uu, uu, uu, uu, uu, uu, uu, uu, uu, uu, uu, uu, uu, uu, uu, uu, uu, uu, uu, uu, uu, uu, uu, uu, uu, uu, uu, uu, uu, uu, uu, uu, uu, uu, uu] [.box [.int .i64 ctx, .lst .no 9 l], .dead, .dead, .fam 0 1, .fam 0 13] (.exit 2) [uu, .ptr false 0 0, .lst (.tok 3 0) 1 out, uu, .lst .no 3 rs, .int .i64 (b : Int), .lst (.tok 4 0) 13 row, .lst .no 1 ns, uu, uu, uu, uu, uu, uu, uu, uu, uu, uu, uu, uu, .int .i64 (rs.length : Int), .int .i64 (b : Int), uu, uu, uu, uu, uu, uu, uu, uu, uu, uu, uu, uu, uu, uu, uu, uu, uu, uu, uu, uu, uu, uu, uu, uu, uu, uu, uu, uu, uu, uu, uu, uu, uu, uu, uu, uu, uu, uu, uu, uu, uu, uu, uu, uu, uu, uu, uu, uu, uu, uu, uu, uu, uu, uu, uu, uu, uu, uu, uu, uu, uu, uu, uu, uu, uu, uu, uu, uu, uu, uu, uu, uu, uu, uu, uu, uu, uu, uu, uu, uu, uu, uu] [.box [.int .i64 ctx, .lst .no 9 l], .dead, .dead, .fam 0 1, .fam 0 13]) (kk : kind = 3)  : RoundRun Try.prog (loopB Try.f13 0) ⟨[1, 4, 20, 21], [0], [(2, 1)]⟩ 2 [uu, D.ptr false 0 0, .lst (Own.tok (2 : Nat) (0 : Nat)) (1 : Nat) out, uu, .lst .no 3 rs, uu, uu, uu, uu, uu, uu, uu, uu, uu, uu, uu, uu, uu, uu, uu, .int .i64 (↑(List.length rs) : Int), .int .i64 (↑b : Int), uu, uu, uu, uu, uu, uu, uu, uu, uu, uu, uu, uu, uu, uu, uu, uu, uu, uu, uu, uu, uu, uu, uu, uu, uu, uu, uu, uu, uu, uu, uu, uu, uu, uu, uu, uu, uu, uu, uu, uu, uu, uu, uu, uu, uu, uu, uu, uu, uu, uu, uu, uu, uu, uu, uu, uu, uu, uu, uu, uu, uu, uu, uu, uu, uu, uu, uu, uu, uu, uu, uu, uu, uu, uu, uu, uu, uu, uu, uu, uu, uu, uu] [Ob.box [.int .i64 ctx, .lst .no 9 l], Ob.dead, Ob.fam (0 : Nat) (1 : Nat)] (Ex.norm) [uu, D.ptr false 0 0, .lst (Own.tok (2 : Nat) (0 : Nat)) (1 : Nat) (out ++ [.lst .no 13 row]), uu, .lst .no 3 rs, uu, uu, uu, uu, uu, uu, uu, uu, uu, uu, uu, uu, uu, uu, uu, .int .i64 (↑(List.length rs) : Int), .int .i64 (IntKind.wrap IntKind.i64 ((↑b : Int) + 1)), uu, uu, uu, uu, uu, uu, uu, uu, uu, uu, uu, uu, uu, uu, uu, uu, uu, uu, uu, uu, uu, uu, uu, uu, uu, uu, uu, uu, uu, uu, uu, uu, uu, uu, uu, uu, uu, uu, uu, uu, uu, uu, uu, uu, uu, uu, uu, uu, uu, uu, uu, uu, uu, uu, uu, uu, uu, uu, uu, uu, uu, uu, uu, uu, uu, uu, uu, uu, uu, uu, uu, uu, uu, uu, uu, uu, uu, uu, uu, uu, uu, uu] ([Ob.box [.int .i64 ctx, .lst .no 9 l], Ob.dead, Ob.fam (0 : Nat) (1 : Nat)]) := by
 have c0 := @of_id (nat_lit 3) _ ([uu, D.ptr false 0 0, .lst (Own.tok (3 : Nat) (0 : Nat)) (1 : Nat) out, uu, .lst .no 3 rs, .int .i64 (↑b : Int), .lst (Own.tok (4 : Nat) (0 : Nat)) (13 : Nat) [], .lst .no 1 ns, uu, uu, uu, uu, uu, uu, uu, uu, uu, uu, uu, uu, .int .i64 (↑(List.length rs) : Int), .int .i64 (↑b : Int), uu, uu, uu, uu, uu, uu, uu, uu, uu, uu, uu, uu, uu, uu, uu, uu, uu, uu, uu, .lst .no 9 (List.drop (Int.toNat fr) (List.take (Int.toNat to) l)), .int .i64 (↑(List.length (List.drop (Int.toNat fr) (List.take (Int.toNat to) l))) : Int), .int .i64 0, uu, uu, uu, uu, uu, uu, uu, uu, uu, uu, uu, uu, uu, uu, uu, uu, uu, uu, uu, uu, uu, uu, uu, uu, uu, uu, uu, uu, uu, uu, uu, uu, uu, uu, uu, uu, uu, uu, uu, uu, uu, uu, uu, uu, uu, uu, uu, uu, uu, uu, uu, uu, uu, uu, uu, uu, uu, uu, uu, uu]) ([Ob.box [.int .i64 ctx, .lst .no 9 l], Ob.dead, Ob.dead, Ob.fam (0 : Nat) (1 : Nat), Ob.fam (0 : Nat) (13 : Nat)]) _ _ _ hI
 exact (RoundRun.of_eval (sp := ⟨[1, 4, 20, 21], [0], [(2, 1)]⟩) (n0 := 2) (ex := Ex.norm) (t' := [uu, D.ptr false 0 0, .lst (Own.tok (2 : Nat) (0 : Nat)) (1 : Nat) (out ++ [.lst .no 13 row]), uu, .lst .no 3 rs, uu, uu, uu, uu, uu, uu, uu, uu, uu, uu, uu, uu, uu, uu, uu, .int .i64 (↑(List.length rs) : Int), .int .i64 (IntKind.wrap IntKind.i64 ((↑b : Int) + 1)), uu, uu, uu, uu, uu, uu, uu, uu, uu, uu, uu, uu, uu, uu, uu, uu, uu, uu, uu, uu, uu, uu, uu, uu, uu, uu, uu, uu, uu, uu, uu, uu, uu, uu, uu, uu, uu, uu, uu, uu, uu, uu, uu, uu, uu, uu, uu, uu, uu, uu, uu, uu, uu, uu, uu, uu, uu, uu, uu, uu, uu, uu, uu, uu, uu, uu, uu, uu, uu, uu, uu, uu, uu, uu, uu, uu, uu, uu, uu, uu, uu, uu]) (s' := [Ob.box [.int .i64 ctx, .lst .no 9 l], Ob.dead, Ob.fam (0 : Nat) (1 : Nat)]) mixed [tC (by ((try simp only [List.length_append, List.length_cons, List.length_nil, List.length_set, List.length_replicate, List.length_take, List.length_drop, sl2] at *); (try unfold big at *); omega) : (decide ((↑b : Int) < (↑(List.length rs) : Int))) = true), tT, .get _ _ _ hg, tT, .get _ _ _ hg, tT, .get _ _ _ hg, .tst (decide (0 ≤ fr ∧ fr ≤ to ∧ to ≤ (↑(List.length l) : Int))) true (by ((try simp only [List.length_append, List.length_cons, List.length_nil, List.length_set, List.length_replicate, List.length_take, List.length_drop, sl2] at *); (try unfold big at *); omega)), .head ⟨[1, 4, 5, 7, 20, 21, 41, 42, 43], [0], [(2, 1), (6, 13)]⟩ _ _ _ _ _ _ _ c0, tT, .get _ _ _ hg, .tst (decide (0 ≤ IntKind.wrap IntKind.i64 (to - 1))) true (by ((try simp only [List.length_append, List.length_cons, List.length_nil, List.length_set, List.length_replicate, List.length_take, List.length_drop, sl2] at *); (try unfold big at *); omega)), .get _ _ _ hy, tC (eT (nt (eqI 3 true (by ((try simp only [List.length_append, List.length_cons, List.length_nil, List.length_set, List.length_replicate, List.length_take, List.length_drop, sl2] at *); (try unfold big at *); omega) : kind = 3)))), tC (eT (nt (eqI 3 true (by ((try simp only [List.length_append, List.length_cons, List.length_nil, List.length_set, List.length_replicate, List.length_take, List.length_drop, sl2] at *); (try unfold big at *); omega) : kind = 3)))), tC (nt (eqI 3 true (by ((try simp only [List.length_append, List.length_cons, List.length_nil, List.length_set, List.length_replicate, List.length_take, List.length_drop, sl2] at *); (try unfold big at *); omega) : kind = 3))), tF, tF, tF, tF, .len (List.length out + (1 : Nat)) ((2147483648 : Nat)) (by first | decide | omega | (simp; omega))] (by kernel_rfl)).cast (by rfl) (by rfl)
theorem lo_goto (l rs out : List D) (ctx : Int) (b : Nat) (ns : List D) (fr to : Int) (hg : rs[(b : Int).toNat]? = some (.agg [.int .i64 fr, .int .i64 to, .lst .no 1 ns])) (f0 : 0 ≤ fr) (ft : fr < to) (tl : to ≤ (l.length : Int)) (l1 : (l.length : Int) ≤ 64) (b1 : (b : Int) < (rs.length : Int)) (r1 : (rs.length : Int) ≤ 64) (o1 : (out.length : Int) ≤ 64) (kind op width size : Int) (byReg : Bool) (dst src off imm : Int) (hy : l[Int.toNat (IntKind.i64.wrap (to - 1))]? = some (instD kind op width size byReg dst src off imm)) (row : List D) (w1 : (row.length : Int) ≤ 1000) (hI : LoopRun Try.prog 3 (.loop (loopB Try.f13 1)) [uu, .ptr false 0 0, .lst (.tok 3 0) 1 out, uu, .lst .no 3 rs, .int .i64 (b : Int), .lst (.tok 4 0) 13 [], .lst .no 1 ns, uu, uu, uu, uu, uu, uu, uu, uu, uu, uu, uu, uu, .int .i64 (rs.length : Int), .int .i64 (b : Int), uu, uu, uu, uu, uu, uu, uu, uu, uu, uu, uu, uu, uu, uu, uu, uu, uu, uu, uu, .lst .no 9 (List.drop (Int.toNat fr) (List.take (Int.toNat to) l)), .int .i64 ((List.drop (Int.toNat fr) (List.take (Int.toNat to) l)).length : Int), .int .i64 0, uu, uu, uu, uu, uu, uu, uu, uu, uu, uu, uu, uu, uu, uu, uu, uu, uu, uu, uu, uu, uu, uu, uu, uu, uu, uu, uu, uu, uu, uu, uu, uu, uu, uu, uu, uu, uu, uu, uu, uu, uu, uu, uu, uu, uu, uu, uu, uu, uu, uu, uu, uu, uu, uu, uu, uu, uu, uu, uu, uu] [.box [.int .i64 ctx, .lst .no 9 l], .dead, .dead, .fam 0 1, .fam 0 13] (.exit 2) [uu, .ptr false 0 0, .lst (.tok 3 0) 1 out, uu, .lst .no 3 rs, .int .i64 (b : Int), .lst (.tok 4 0) 13 row, .lst .no 1 ns, uu, uu, uu, uu, uu, uu, uu, uu, uu, uu, uu, uu, .int .i64 (rs.length : Int), .int .i64 (b : Int), uu, uu, uu, uu, uu, uu, uu, uu, uu, uu, uu, uu, uu, uu, uu, uu, uu, uu, uu, uu, uu, uu, uu, uu, uu, uu, uu, uu, uu, uu, uu, uu, uu, uu, uu, uu, uu, uu, uu, uu, uu, uu, uu, uu, uu, uu, uu, uu, uu, uu, uu, uu, uu, uu, uu, uu, uu, uu, uu, uu, uu, uu, uu, uu, uu, uu, uu, uu, uu, uu, uu, uu, uu, uu, uu, uu, uu, uu, uu, uu, uu, uu] [.box [.int .i64 ctx, .lst .no 9 l], .dead, .dead, .fam 0 1, .fam 0 13]) (kk : kind = 4)  : RoundRun Try.prog (loopB Try.f13 0) ⟨[1, 4, 20, 21], [0], [(2, 1)]⟩ 2 [uu, D.ptr false 0 0, .lst (Own.tok (2 : Nat) (0 : Nat)) (1 : Nat) out, uu, .lst .no 3 rs, uu, uu, uu, uu, uu, uu, uu, uu, uu, uu, uu, uu, uu, uu, uu, .int .i64 (↑(List.length rs) : Int), .int .i64 (↑b : Int), uu, uu, uu, uu, uu, uu, uu, uu, uu, uu, uu, uu, uu, uu, uu, uu, uu, uu, uu, uu, uu, uu, uu, uu, uu, uu, uu, uu, uu, uu, uu, uu, uu, uu, uu, uu, uu, uu, uu, uu, uu, uu, uu, uu, uu, uu, uu, uu, uu, uu, uu, uu, uu, uu, uu, uu, uu, uu, uu, uu, uu, uu, uu, uu, uu, uu, uu, uu, uu, uu, uu, uu, uu, uu, uu, uu, uu, uu, uu, uu, uu, uu] [Ob.box [.int .i64 ctx, .lst .no 9 l], Ob.dead, Ob.fam (0 : Nat) (1 : Nat)] (Ex.norm) [uu, D.ptr false 0 0, .lst (Own.tok (2 : Nat) (0 : Nat)) (1 : Nat) (out ++ [.lst .no 13 row]), uu, .lst .no 3 rs, uu, uu, uu, uu, uu, uu, uu, uu, uu, uu, uu, uu, uu, uu, uu, .int .i64 (↑(List.length rs) : Int), .int .i64 (IntKind.wrap IntKind.i64 ((↑b : Int) + 1)), uu, uu, uu, uu, uu, uu, uu, uu, uu, uu, uu, uu, uu, uu, uu, uu, uu, uu, uu, uu, uu, uu, uu, uu, uu, uu, uu, uu, uu, uu, uu, uu, uu, uu, uu, uu, uu, uu, uu, uu, uu, uu, uu, uu, uu, uu, uu, uu, uu, uu, uu, uu, uu, uu, uu, uu, uu, uu, uu, uu, uu, uu, uu, uu, uu, uu, uu, uu, uu, uu, uu, uu, uu, uu, uu, uu, uu, uu, uu, uu, uu, uu] ([Ob.box [.int .i64 ctx, .lst .no 9 l], Ob.dead, Ob.fam (0 : Nat) (1 : Nat)]) := by
 have c0 := @of_id (nat_lit 3) _ ([uu, D.ptr false 0 0, .lst (Own.tok (3 : Nat) (0 : Nat)) (1 : Nat) out, uu, .lst .no 3 rs, .int .i64 (↑b : Int), .lst (Own.tok (4 : Nat) (0 : Nat)) (13 : Nat) [], .lst .no 1 ns, uu, uu, uu, uu, uu, uu, uu, uu, uu, uu, uu, uu, .int .i64 (↑(List.length rs) : Int), .int .i64 (↑b : Int), uu, uu, uu, uu, uu, uu, uu, uu, uu, uu, uu, uu, uu, uu, uu, uu, uu, uu, uu, .lst .no 9 (List.drop (Int.toNat fr) (List.take (Int.toNat to) l)), .int .i64 (↑(List.length (List.drop (Int.toNat fr) (List.take (Int.toNat to) l))) : Int), .int .i64 0, uu, uu, uu, uu, uu, uu, uu, uu, uu, uu, uu, uu, uu, uu, uu, uu, uu, uu, uu, uu, uu, uu, uu, uu, uu, uu, uu, uu, uu, uu, uu, uu, uu, uu, uu, uu, uu, uu, uu, uu, uu, uu, uu, uu, uu, uu, uu, uu, uu, uu, uu, uu, uu, uu, uu, uu, uu, uu, uu, uu]) ([Ob.box [.int .i64 ctx, .lst .no 9 l], Ob.dead, Ob.dead, Ob.fam (0 : Nat) (1 : Nat), Ob.fam (0 : Nat) (13 : Nat)]) _ _ _ hI
 exact (RoundRun.of_eval (sp := ⟨[1, 4, 20, 21], [0], [(2, 1)]⟩) (n0 := 2) (ex := Ex.norm) (t' := [uu, D.ptr false 0 0, .lst (Own.tok (2 : Nat) (0 : Nat)) (1 : Nat) (out ++ [.lst .no 13 row]), uu, .lst .no 3 rs, uu, uu, uu, uu, uu, uu, uu, uu, uu, uu, uu, uu, uu, uu, uu, .int .i64 (↑(List.length rs) : Int), .int .i64 (IntKind.wrap IntKind.i64 ((↑b : Int) + 1)), uu, uu, uu, uu, uu, uu, uu, uu, uu, uu, uu, uu, uu, uu, uu, uu, uu, uu, uu, uu, uu, uu, uu, uu, uu, uu, uu, uu, uu, uu, uu, uu, uu, uu, uu, uu, uu, uu, uu, uu, uu, uu, uu, uu, uu, uu, uu, uu, uu, uu, uu, uu, uu, uu, uu, uu, uu, uu, uu, uu, uu, uu, uu, uu, uu, uu, uu, uu, uu, uu, uu, uu, uu, uu, uu, uu, uu, uu, uu, uu, uu, uu]) (s' := [Ob.box [.int .i64 ctx, .lst .no 9 l], Ob.dead, Ob.fam (0 : Nat) (1 : Nat)]) mixed [tC (by ((try simp only [List.length_append, List.length_cons, List.length_nil, List.length_set, List.length_replicate, List.length_take, List.length_drop, sl2] at *); (try unfold big at *); omega) : (decide ((↑b : Int) < (↑(List.length rs) : Int))) = true), tT, .get _ _ _ hg, tT, .get _ _ _ hg, tT, .get _ _ _ hg, .tst (decide (0 ≤ fr ∧ fr ≤ to ∧ to ≤ (↑(List.length l) : Int))) true (by ((try simp only [List.length_append, List.length_cons, List.length_nil, List.length_set, List.length_replicate, List.length_take, List.length_drop, sl2] at *); (try unfold big at *); omega)), .head ⟨[1, 4, 5, 7, 20, 21, 41, 42, 43], [0], [(2, 1), (6, 13)]⟩ _ _ _ _ _ _ _ c0, tT, .get _ _ _ hg, .tst (decide (0 ≤ IntKind.wrap IntKind.i64 (to - 1))) true (by ((try simp only [List.length_append, List.length_cons, List.length_nil, List.length_set, List.length_replicate, List.length_take, List.length_drop, sl2] at *); (try unfold big at *); omega)), .get _ _ _ hy, tC (eT (nt (by ((try simp only [List.length_append, List.length_cons, List.length_nil, List.length_set, List.length_replicate, List.length_take, List.length_drop, sl2] at *); (try unfold big at *); omega) : (kind == 3) = false))), tC (eT (nt (by ((try simp only [List.length_append, List.length_cons, List.length_nil, List.length_set, List.length_replicate, List.length_take, List.length_drop, sl2] at *); (try unfold big at *); omega) : (kind == 3) = false))), tC (nt (by ((try simp only [List.length_append, List.length_cons, List.length_nil, List.length_set, List.length_replicate, List.length_take, List.length_drop, sl2] at *); (try unfold big at *); omega) : (kind == 3) = false)), tC (eT (nt (eqI 4 true (by ((try simp only [List.length_append, List.length_cons, List.length_nil, List.length_set, List.length_replicate, List.length_take, List.length_drop, sl2] at *); (try unfold big at *); omega) : kind = 4)))), tC (eT (nt (eqI 4 true (by ((try simp only [List.length_append, List.length_cons, List.length_nil, List.length_set, List.length_replicate, List.length_take, List.length_drop, sl2] at *); (try unfold big at *); omega) : kind = 4)))), tC (nt (eqI 4 true (by ((try simp only [List.length_append, List.length_cons, List.length_nil, List.length_set, List.length_replicate, List.length_take, List.length_drop, sl2] at *); (try unfold big at *); omega) : kind = 4))), tF, .len (List.length out + (1 : Nat)) ((2147483648 : Nat)) (by first | decide | omega | (simp; omega))] (by kernel_rfl)).cast (by rfl) (by rfl)
theorem lo_exit (l rs out : List D) (ctx : Int) (b : Nat) (fr to : Int) (hg : rs[(b : Int).toNat]? = some (.agg [.int .i64 fr, .int .i64 to, .lst .tight 0 []])) (f0 : 0 ≤ fr) (ft : fr < to) (tl : to ≤ (l.length : Int)) (l1 : (l.length : Int) ≤ 64) (b1 : (b : Int) < (rs.length : Int)) (r1 : (rs.length : Int) ≤ 64) (o1 : (out.length : Int) ≤ 64) (kind op width size : Int) (byReg : Bool) (dst src off imm : Int) (hy : l[Int.toNat (IntKind.i64.wrap (to - 1))]? = some (instD kind op width size byReg dst src off imm)) (row : List D) (w1 : (row.length : Int) ≤ 1000) (hI : LoopRun Try.prog 3 (.loop (loopB Try.f13 1)) [uu, .ptr false 0 0, .lst (.tok 3 0) 1 out, uu, .lst .no 3 rs, .int .i64 (b : Int), .lst (.tok 4 0) 13 [], .lst .tight 0 [], uu, uu, uu, uu, uu, uu, uu, uu, uu, uu, uu, uu, .int .i64 (rs.length : Int), .int .i64 (b : Int), uu, uu, uu, uu, uu, uu, uu, uu, uu, uu, uu, uu, uu, uu, uu, uu, uu, uu, uu, .lst .no 9 (List.drop (Int.toNat fr) (List.take (Int.toNat to) l)), .int .i64 ((List.drop (Int.toNat fr) (List.take (Int.toNat to) l)).length : Int), .int .i64 0, uu, uu, uu, uu, uu, uu, uu, uu, uu, uu, uu, uu, uu, uu, uu, uu, uu, uu, uu, uu, uu, uu, uu, uu, uu, uu, uu, uu, uu, uu, uu, uu, uu, uu, uu, uu, uu, uu, uu, uu, uu, uu, uu, uu, uu, uu, uu, uu, uu, uu, uu, uu, uu, uu, uu, uu, uu, uu, uu, uu] [.box [.int .i64 ctx, .lst .no 9 l], .dead, .dead, .fam 0 1, .fam 0 13] (.exit 2) [uu, .ptr false 0 0, .lst (.tok 3 0) 1 out, uu, .lst .no 3 rs, .int .i64 (b : Int), .lst (.tok 4 0) 13 row, .lst .tight 0 [], uu, uu, uu, uu, uu, uu, uu, uu, uu, uu, uu, uu, .int .i64 (rs.length : Int), .int .i64 (b : Int), uu, uu, uu, uu, uu, uu, uu, uu, uu, uu, uu, uu, uu, uu, uu, uu, uu, uu, uu, uu, uu, uu, uu, uu, uu, uu, uu, uu, uu, uu, uu, uu, uu, uu, uu, uu, uu, uu, uu, uu, uu, uu, uu, uu, uu, uu, uu, uu, uu, uu, uu, uu, uu, uu, uu, uu, uu, uu, uu, uu, uu, uu, uu, uu, uu, uu, uu, uu, uu, uu, uu, uu, uu, uu, uu, uu, uu, uu, uu, uu, uu, uu] [.box [.int .i64 ctx, .lst .no 9 l], .dead, .dead, .fam 0 1, .fam 0 13]) (kk : kind = 6)  : RoundRun Try.prog (loopB Try.f13 0) ⟨[1, 4, 20, 21], [0], [(2, 1)]⟩ 2 [uu, D.ptr false 0 0, .lst (Own.tok (2 : Nat) (0 : Nat)) (1 : Nat) out, uu, .lst .no 3 rs, uu, uu, uu, uu, uu, uu, uu, uu, uu, uu, uu, uu, uu, uu, uu, .int .i64 (↑(List.length rs) : Int), .int .i64 (↑b : Int), uu, uu, uu, uu, uu, uu, uu, uu, uu, uu, uu, uu, uu, uu, uu, uu, uu, uu, uu, uu, uu, uu, uu, uu, uu, uu, uu, uu, uu, uu, uu, uu, uu, uu, uu, uu, uu, uu, uu, uu, uu, uu, uu, uu, uu, uu, uu, uu, uu, uu, uu, uu, uu, uu, uu, uu, uu, uu, uu, uu, uu, uu, uu, uu, uu, uu, uu, uu, uu, uu, uu, uu, uu, uu, uu, uu, uu, uu, uu, uu, uu, uu] [Ob.box [.int .i64 ctx, .lst .no 9 l], Ob.dead, Ob.fam (0 : Nat) (1 : Nat)] (Ex.norm) [uu, D.ptr false 0 0, .lst (Own.tok (2 : Nat) (0 : Nat)) (1 : Nat) (out ++ [.lst .no 13 row]), uu, .lst .no 3 rs, uu, uu, uu, uu, uu, uu, uu, uu, uu, uu, uu, uu, uu, uu, uu, .int .i64 (↑(List.length rs) : Int), .int .i64 (IntKind.wrap IntKind.i64 ((↑b : Int) + 1)), uu, uu, uu, uu, uu, uu, uu, uu, uu, uu, uu, uu, uu, uu, uu, uu, uu, uu, uu, uu, uu, uu, uu, uu, uu, uu, uu, uu, uu, uu, uu, uu, uu, uu, uu, uu, uu, uu, uu, uu, uu, uu, uu, uu, uu, uu, uu, uu, uu, uu, uu, uu, uu, uu, uu, uu, uu, uu, uu, uu, uu, uu, uu, uu, uu, uu, uu, uu, uu, uu, uu, uu, uu, uu, uu, uu, uu, uu, uu, uu, uu, uu] ([Ob.box [.int .i64 ctx, .lst .no 9 l], Ob.dead, Ob.fam (0 : Nat) (1 : Nat)]) := by
 have c0 := @of_id (nat_lit 3) _ ([uu, D.ptr false 0 0, .lst (Own.tok (3 : Nat) (0 : Nat)) (1 : Nat) out, uu, .lst .no 3 rs, .int .i64 (↑b : Int), .lst (Own.tok (4 : Nat) (0 : Nat)) (13 : Nat) [], .lst .tight 0 [], uu, uu, uu, uu, uu, uu, uu, uu, uu, uu, uu, uu, .int .i64 (↑(List.length rs) : Int), .int .i64 (↑b : Int), uu, uu, uu, uu, uu, uu, uu, uu, uu, uu, uu, uu, uu, uu, uu, uu, uu, uu, uu, .lst .no 9 (List.drop (Int.toNat fr) (List.take (Int.toNat to) l)), .int .i64 (↑(List.length (List.drop (Int.toNat fr) (List.take (Int.toNat to) l))) : Int), .int .i64 0, uu, uu, uu, uu, uu, uu, uu, uu, uu, uu, uu, uu, uu, uu, uu, uu, uu, uu, uu, uu, uu, uu, uu, uu, uu, uu, uu, uu, uu, uu, uu, uu, uu, uu, uu, uu, uu, uu, uu, uu, uu, uu, uu, uu, uu, uu, uu, uu, uu, uu, uu, uu, uu, uu, uu, uu, uu, uu, uu, uu]) ([Ob.box [.int .i64 ctx, .lst .no 9 l], Ob.dead, Ob.dead, Ob.fam (0 : Nat) (1 : Nat), Ob.fam (0 : Nat) (13 : Nat)]) _ _ _ hI
 exact (RoundRun.of_eval (sp := ⟨[1, 4, 20, 21], [0], [(2, 1)]⟩) (n0 := 2) (ex := Ex.norm) (t' := [uu, D.ptr false 0 0, .lst (Own.tok (2 : Nat) (0 : Nat)) (1 : Nat) (out ++ [.lst .no 13 row]), uu, .lst .no 3 rs, uu, uu, uu, uu, uu, uu, uu, uu, uu, uu, uu, uu, uu, uu, uu, .int .i64 (↑(List.length rs) : Int), .int .i64 (IntKind.wrap IntKind.i64 ((↑b : Int) + 1)), uu, uu, uu, uu, uu, uu, uu, uu, uu, uu, uu, uu, uu, uu, uu, uu, uu, uu, uu, uu, uu, uu, uu, uu, uu, uu, uu, uu, uu, uu, uu, uu, uu, uu, uu, uu, uu, uu, uu, uu, uu, uu, uu, uu, uu, uu, uu, uu, uu, uu, uu, uu, uu, uu, uu, uu, uu, uu, uu, uu, uu, uu, uu, uu, uu, uu, uu, uu, uu, uu, uu, uu, uu, uu, uu, uu, uu, uu, uu, uu, uu, uu]) (s' := [Ob.box [.int .i64 ctx, .lst .no 9 l], Ob.dead, Ob.fam (0 : Nat) (1 : Nat)]) mixed [tC (by ((try simp only [List.length_append, List.length_cons, List.length_nil, List.length_set, List.length_replicate, List.length_take, List.length_drop, sl2] at *); (try unfold big at *); omega) : (decide ((↑b : Int) < (↑(List.length rs) : Int))) = true), tT, .get _ _ _ hg, tT, .get _ _ _ hg, tT, .get _ _ _ hg, .tst (decide (0 ≤ fr ∧ fr ≤ to ∧ to ≤ (↑(List.length l) : Int))) true (by ((try simp only [List.length_append, List.length_cons, List.length_nil, List.length_set, List.length_replicate, List.length_take, List.length_drop, sl2] at *); (try unfold big at *); omega)), .head ⟨[1, 4, 5, 7, 20, 21, 41, 42, 43], [0], [(2, 1), (6, 13)]⟩ _ _ _ _ _ _ _ c0, tT, .get _ _ _ hg, .tst (decide (0 ≤ IntKind.wrap IntKind.i64 (to - 1))) true (by ((try simp only [List.length_append, List.length_cons, List.length_nil, List.length_set, List.length_replicate, List.length_take, List.length_drop, sl2] at *); (try unfold big at *); omega)), .get _ _ _ hy, tC (eT (nt (by ((try simp only [List.length_append, List.length_cons, List.length_nil, List.length_set, List.length_replicate, List.length_take, List.length_drop, sl2] at *); (try unfold big at *); omega) : (kind == 3) = false))), tC (eT (nt (by ((try simp only [List.length_append, List.length_cons, List.length_nil, List.length_set, List.length_replicate, List.length_take, List.length_drop, sl2] at *); (try unfold big at *); omega) : (kind == 3) = false))), tC (nt (by ((try simp only [List.length_append, List.length_cons, List.length_nil, List.length_set, List.length_replicate, List.length_take, List.length_drop, sl2] at *); (try unfold big at *); omega) : (kind == 3) = false)), tC (eT (nt (by ((try simp only [List.length_append, List.length_cons, List.length_nil, List.length_set, List.length_replicate, List.length_take, List.length_drop, sl2] at *); (try unfold big at *); omega) : (kind == 4) = false))), tC (eT (nt (by ((try simp only [List.length_append, List.length_cons, List.length_nil, List.length_set, List.length_replicate, List.length_take, List.length_drop, sl2] at *); (try unfold big at *); omega) : (kind == 4) = false))), tC (nt (by ((try simp only [List.length_append, List.length_cons, List.length_nil, List.length_set, List.length_replicate, List.length_take, List.length_drop, sl2] at *); (try unfold big at *); omega) : (kind == 4) = false)), tC (nt (eqI 6 true (by ((try simp only [List.length_append, List.length_cons, List.length_nil, List.length_set, List.length_replicate, List.length_take, List.length_drop, sl2] at *); (try unfold big at *); omega) : kind = 6))), .len (List.length out + (1 : Nat)) ((2147483648 : Nat)) (by first | decide | omega | (simp; omega))] (by kernel_rfl)).cast (by rfl) (by rfl)
theorem lo_else (l rs out : List D) (ctx : Int) (b : Nat) (p : Int) (fr to : Int) (hg : rs[(b : Int).toNat]? = some (.agg [.int .i64 fr, .int .i64 to, .lst .no 1 [.int .i64 p]])) (f0 : 0 ≤ fr) (ft : fr < to) (tl : to ≤ (l.length : Int)) (l1 : (l.length : Int) ≤ 64) (b1 : (b : Int) < (rs.length : Int)) (r1 : (rs.length : Int) ≤ 64) (o1 : (out.length : Int) ≤ 64) (kind op width size : Int) (byReg : Bool) (dst src off imm : Int) (hy : l[Int.toNat (IntKind.i64.wrap (to - 1))]? = some (instD kind op width size byReg dst src off imm)) (row : List D) (w1 : (row.length : Int) ≤ 1000) (hI : LoopRun Try.prog 3 (.loop (loopB Try.f13 1)) [uu, .ptr false 0 0, .lst (.tok 3 0) 1 out, uu, .lst .no 3 rs, .int .i64 (b : Int), .lst (.tok 4 0) 13 [], .lst .no 1 [.int .i64 p], uu, uu, uu, uu, uu, uu, uu, uu, uu, uu, uu, uu, .int .i64 (rs.length : Int), .int .i64 (b : Int), uu, uu, uu, uu, uu, uu, uu, uu, uu, uu, uu, uu, uu, uu, uu, uu, uu, uu, uu, .lst .no 9 (List.drop (Int.toNat fr) (List.take (Int.toNat to) l)), .int .i64 ((List.drop (Int.toNat fr) (List.take (Int.toNat to) l)).length : Int), .int .i64 0, uu, uu, uu, uu, uu, uu, uu, uu, uu, uu, uu, uu, uu, uu, uu, uu, uu, uu, uu, uu, uu, uu, uu, uu, uu, uu, uu, uu, uu, uu, uu, uu, uu, uu, uu, uu, uu, uu, uu, uu, uu, uu, uu, uu, uu, uu, uu, uu, uu, uu, uu, uu, uu, uu, uu, uu, uu, uu, uu, uu] [.box [.int .i64 ctx, .lst .no 9 l], .dead, .dead, .fam 0 1, .fam 0 13] (.exit 2) [uu, .ptr false 0 0, .lst (.tok 3 0) 1 out, uu, .lst .no 3 rs, .int .i64 (b : Int), .lst (.tok 4 0) 13 row, .lst .no 1 [.int .i64 p], uu, uu, uu, uu, uu, uu, uu, uu, uu, uu, uu, uu, .int .i64 (rs.length : Int), .int .i64 (b : Int), uu, uu, uu, uu, uu, uu, uu, uu, uu, uu, uu, uu, uu, uu, uu, uu, uu, uu, uu, uu, uu, uu, uu, uu, uu, uu, uu, uu, uu, uu, uu, uu, uu, uu, uu, uu, uu, uu, uu, uu, uu, uu, uu, uu, uu, uu, uu, uu, uu, uu, uu, uu, uu, uu, uu, uu, uu, uu, uu, uu, uu, uu, uu, uu, uu, uu, uu, uu, uu, uu, uu, uu, uu, uu, uu, uu, uu, uu, uu, uu, uu, uu] [.box [.int .i64 ctx, .lst .no 9 l], .dead, .dead, .fam 0 1, .fam 0 13]) (q3 : (kind == 3) = false) (q4 : (kind == 4) = false) (q6 : (kind == 6) = false)  : RoundRun Try.prog (loopB Try.f13 0) ⟨[1, 4, 20, 21], [0], [(2, 1)]⟩ 2 [uu, D.ptr false 0 0, .lst (Own.tok (2 : Nat) (0 : Nat)) (1 : Nat) out, uu, .lst .no 3 rs, uu, uu, uu, uu, uu, uu, uu, uu, uu, uu, uu, uu, uu, uu, uu, .int .i64 (↑(List.length rs) : Int), .int .i64 (↑b : Int), uu, uu, uu, uu, uu, uu, uu, uu, uu, uu, uu, uu, uu, uu, uu, uu, uu, uu, uu, uu, uu, uu, uu, uu, uu, uu, uu, uu, uu, uu, uu, uu, uu, uu, uu, uu, uu, uu, uu, uu, uu, uu, uu, uu, uu, uu, uu, uu, uu, uu, uu, uu, uu, uu, uu, uu, uu, uu, uu, uu, uu, uu, uu, uu, uu, uu, uu, uu, uu, uu, uu, uu, uu, uu, uu, uu, uu, uu, uu, uu, uu, uu] [Ob.box [.int .i64 ctx, .lst .no 9 l], Ob.dead, Ob.fam (0 : Nat) (1 : Nat)] (Ex.norm) [uu, D.ptr false 0 0, .lst (Own.tok (2 : Nat) (0 : Nat)) (1 : Nat) (out ++ [.lst .no 13 (row ++ [(irD 5 0 0 0 0 0 0 0 0 0 0 0 p)])]), uu, .lst .no 3 rs, uu, uu, uu, uu, uu, uu, uu, uu, uu, uu, uu, uu, uu, uu, uu, .int .i64 (↑(List.length rs) : Int), .int .i64 (IntKind.wrap IntKind.i64 ((↑b : Int) + 1)), uu, uu, uu, uu, uu, uu, uu, uu, uu, uu, uu, uu, uu, uu, uu, uu, uu, uu, uu, uu, uu, uu, uu, uu, uu, uu, uu, uu, uu, uu, uu, uu, uu, uu, uu, uu, uu, uu, uu, uu, uu, uu, uu, uu, uu, uu, uu, uu, uu, uu, uu, uu, uu, uu, uu, uu, uu, uu, uu, uu, uu, uu, uu, uu, uu, uu, uu, uu, uu, uu, uu, uu, uu, uu, uu, uu, uu, uu, uu, uu, uu, uu] ([Ob.box [.int .i64 ctx, .lst .no 9 l], Ob.dead, Ob.fam (0 : Nat) (1 : Nat)]) := by
 have c0 := @of_id (nat_lit 3) _ ([uu, D.ptr false 0 0, .lst (Own.tok (3 : Nat) (0 : Nat)) (1 : Nat) out, uu, .lst .no 3 rs, .int .i64 (↑b : Int), .lst (Own.tok (4 : Nat) (0 : Nat)) (13 : Nat) [], .lst .no 1 [.int .i64 p], uu, uu, uu, uu, uu, uu, uu, uu, uu, uu, uu, uu, .int .i64 (↑(List.length rs) : Int), .int .i64 (↑b : Int), uu, uu, uu, uu, uu, uu, uu, uu, uu, uu, uu, uu, uu, uu, uu, uu, uu, uu, uu, .lst .no 9 (List.drop (Int.toNat fr) (List.take (Int.toNat to) l)), .int .i64 (↑(List.length (List.drop (Int.toNat fr) (List.take (Int.toNat to) l))) : Int), .int .i64 0, uu, uu, uu, uu, uu, uu, uu, uu, uu, uu, uu, uu, uu, uu, uu, uu, uu, uu, uu, uu, uu, uu, uu, uu, uu, uu, uu, uu, uu, uu, uu, uu, uu, uu, uu, uu, uu, uu, uu, uu, uu, uu, uu, uu, uu, uu, uu, uu, uu, uu, uu, uu, uu, uu, uu, uu, uu, uu, uu, uu]) ([Ob.box [.int .i64 ctx, .lst .no 9 l], Ob.dead, Ob.dead, Ob.fam (0 : Nat) (1 : Nat), Ob.fam (0 : Nat) (13 : Nat)]) _ _ _ hI
 have c1 := @l_goes_ok p
 exact (RoundRun.of_eval (sp := ⟨[1, 4, 20, 21], [0], [(2, 1)]⟩) (n0 := 2) (ex := Ex.norm) (t' := [uu, D.ptr false 0 0, .lst (Own.tok (2 : Nat) (0 : Nat)) (1 : Nat) (out ++ [.lst .no 13 (row ++ [(irD 5 0 0 0 0 0 0 0 0 0 0 0 p)])]), uu, .lst .no 3 rs, uu, uu, uu, uu, uu, uu, uu, uu, uu, uu, uu, uu, uu, uu, uu, .int .i64 (↑(List.length rs) : Int), .int .i64 (IntKind.wrap IntKind.i64 ((↑b : Int) + 1)), uu, uu, uu, uu, uu, uu, uu, uu, uu, uu, uu, uu, uu, uu, uu, uu, uu, uu, uu, uu, uu, uu, uu, uu, uu, uu, uu, uu, uu, uu, uu, uu, uu, uu, uu, uu, uu, uu, uu, uu, uu, uu, uu, uu, uu, uu, uu, uu, uu, uu, uu, uu, uu, uu, uu, uu, uu, uu, uu, uu, uu, uu, uu, uu, uu, uu, uu, uu, uu, uu, uu, uu, uu, uu, uu, uu, uu, uu, uu, uu, uu, uu]) (s' := [Ob.box [.int .i64 ctx, .lst .no 9 l], Ob.dead, Ob.fam (0 : Nat) (1 : Nat)]) mixed [tC (by ((try simp only [List.length_append, List.length_cons, List.length_nil, List.length_set, List.length_replicate, List.length_take, List.length_drop, sl2] at *); (try unfold big at *); omega) : (decide ((↑b : Int) < (↑(List.length rs) : Int))) = true), tT, .get _ _ _ hg, tT, .get _ _ _ hg, tT, .get _ _ _ hg, .tst (decide (0 ≤ fr ∧ fr ≤ to ∧ to ≤ (↑(List.length l) : Int))) true (by ((try simp only [List.length_append, List.length_cons, List.length_nil, List.length_set, List.length_replicate, List.length_take, List.length_drop, sl2] at *); (try unfold big at *); omega)), .head ⟨[1, 4, 5, 7, 20, 21, 41, 42, 43], [0], [(2, 1), (6, 13)]⟩ _ _ _ _ _ _ _ c0, tT, .get _ _ _ hg, .tst (decide (0 ≤ IntKind.wrap IntKind.i64 (to - 1))) true (by ((try simp only [List.length_append, List.length_cons, List.length_nil, List.length_set, List.length_replicate, List.length_take, List.length_drop, sl2] at *); (try unfold big at *); omega)), .get _ _ _ hy, tC (eT (nt q3)), tC (eT (nt q3)), tC (nt q3), tC (eT (nt q4)), tC (eT (nt q4)), tC (nt q4), tC (nt q6), .get ([.int .i64 p]) 0 (.int .i64 p) rfl, .ret _ _ _ c1, .len (List.length row + (1 : Nat)) ((2147483648 : Nat)) (by first | decide | omega | (simp; omega)), .len (List.length out + (1 : Nat)) ((2147483648 : Nat)) (by first | decide | omega | (simp; omega))] (by kernel_rfl)).cast (by rfl) (by rfl)
end Go.Proofs.Ytcngafhpodeenaa

namespace Go.Proofs.Ytcngafhpodeenaa
open Go Go.Ev
set_option maxRecDepth 100000
abbrev rwD (l : List InstS) (r : RowS) : D := .lst .no 13 (rowM l r)
theorem low_succ (l : List InstS) (b : Nat) (r : RowS) (h : (rowsP l)[b]? = some r) : ((rowsP l).take (b + 1)).map (rwD l) = ((rowsP l).take b).map (rwD l) ++ [.lst .no 13 (rowM l r)] := by
 obtain ⟨hlt, e⟩ := List.getElem?_eq_some_iff.1 h
 rw [List.take_succ_eq_append_getElem hlt, List.map_append, e]
 rfl
theorem rowsP_len (l : List InstS) : (rowsP l).length ≤ l.length := by
 show (nextP l (cutP l l.length) (cutP l l.length).length).length ≤ l.length
 rw [nextP_len]
 exact (cutP_len l l.length).1
theorem row_lastI (l : List InstS) (h64 : l.length ≤ 64) {b : Nat} {r : RowS} (hr : RowOk l b r) : ∃ (m : Nat) (hlt : m < l.length), (m : Int) + 1 = r.to ∧ r.fr ≤ m ∧ kindAt l (r.to.toNat - 1) = l[m].kind ∧ (isd l)[Int.toNat (IntKind.i64.wrap (r.to - 1))]? = some (instD l[m].kind l[m].op l[m].width l[m].size l[m].byReg l[m].dst l[m].src l[m].off l[m].imm) := by
 have f0 := hr.f0
 have ft := hr.ft
 have tl := hr.tl
 have hlt : r.to.toNat - 1 < l.length := by omega
 have hw : Int.toNat (IntKind.i64.wrap (r.to - 1)) = r.to.toNat - 1 := by rw [w_i64]; omega
 refine ⟨r.to.toNat - 1, hlt, by omega, by omega, ?_, ?_⟩
 ·unfold kindAt; rw [List.getElem?_eq_getElem hlt]
 ·rw [hw]; exact isd_get l _ hlt
abbrev loT (rs out : List D) (b : Int) : List D := [.undef, .ptr false 0 0, .lst (.tok 2 0) 1 out, .undef, .lst .no 3 rs, .undef, .undef, .undef, .undef, .undef, .undef, .undef, .undef, .undef, .undef, .undef, .undef, .undef, .undef, .undef, .int .i64 (rs.length : Int), .int .i64 b, .undef, .undef, .undef, .undef, .undef, .undef, .undef, .undef, .undef, .undef, .undef, .undef, .undef, .undef, .undef, .undef, .undef, .undef, .undef, .undef, .undef, .undef, .undef, .undef, .undef, .undef, .undef, .undef, .undef, .undef, .undef, .undef, .undef, .undef, .undef, .undef, .undef, .undef, .undef, .undef, .undef, .undef, .undef, .undef, .undef, .undef, .undef, .undef, .undef, .undef, .undef, .undef, .undef, .undef, .undef, .undef, .undef, .undef, .undef, .undef, .undef, .undef, .undef, .undef, .undef, .undef, .undef, .undef, .undef, .undef, .undef, .undef, .undef, .undef, .undef, .undef, .undef, .undef, .undef, .undef, .undef, .undef]
abbrev loU (out : List D) : List D := [.undef, .undef, .lst (.tok 2 0) 1 out, .undef, .undef, .undef, .undef, .undef, .undef, .undef, .undef, .undef, .undef, .undef, .undef, .undef, .undef, .undef, .undef, .undef, .undef, .undef, .undef, .undef, .undef, .undef, .undef, .undef, .undef, .undef, .undef, .undef, .undef, .undef, .undef, .undef, .undef, .undef, .undef, .undef, .undef, .undef, .undef, .undef, .undef, .undef, .undef, .undef, .undef, .undef, .undef, .undef, .undef, .undef, .undef, .undef, .undef, .undef, .undef, .undef, .undef, .undef, .undef, .undef, .undef, .undef, .undef, .undef, .undef, .undef, .undef, .undef, .undef, .undef, .undef, .undef, .undef, .undef, .undef, .undef, .undef, .undef, .undef, .undef, .undef, .undef, .undef, .undef, .undef, .undef, .undef, .undef, .undef, .undef, .undef, .undef, .undef, .undef, .undef, .undef, .undef, .undef, .undef, .undef]
abbrev loS (ctx : Int) (l : List InstS) : List Ob := [.box [.int .i64 ctx, .lst .no 9 (isd l)], .dead, .fam 0 1]
theorem lo_rounds (l : List InstS) (hp : OkP l) (ctx : Int) : ∀ (m b : Nat), b + m = (rowsP l).length →
  Rounds Try.prog (loopB Try.f13 0) 2 (loT ((rowsP l).map RowS.d) (((rowsP l).take b).map (rwD l)) b) (loS ctx l) (.exit 0) (loU ((rowsP l).map (rwD l))) [.dead, .dead, .fam 0 1]
 | 0, b, hb => by
  rw [List.take_of_length_le (by omega)]
  exact Rounds.last (lo_end (isd l) ((rowsP l).map RowS.d) ((rowsP l).map (rwD l)) ctx b (by rw [List.length_map]; omega)) (fun h => by cases h)
 | m + 1, b, hb => by
  have h64 := hp.le
  have hN := rowsP_len l
  have ih := lo_rounds l hp ctx m (b + 1) (by omega)
  have hw : IntKind.i64.wrap ((b : Int) + 1) = ((b + 1 : Nat) : Int) := by rw [w_i64]; omega
  have hlt : b < (rowsP l).length := by omega
  obtain ⟨r, hg⟩ : ∃ r, (rowsP l)[b]? = some r := ⟨_, List.getElem?_eq_getElem hlt⟩
  have hr := rows_ok hg
  have f0 := hr.f0
  have ft := hr.ft
  have tl := hr.tl
  have hgd : ((rowsP l).map RowS.d)[(b : Int).toNat]? = some (.agg [.int .i64 r.fr, .int .i64 r.to, nxD r.nx]) := by rw [Int.toNat_natCast, List.getElem?_map, hg]; rfl
  obtain ⟨q, hlq, q1, q2, hk, hy⟩ := row_lastI l h64 hr
  have tl' : r.to ≤ ((isd l).length : Int) := by rw [isd_len]; omega
  have l1 : ((isd l).length : Int) ≤ 64 := by rw [isd_len]; omega
  have b1 : (b : Int) < (((rowsP l).map RowS.d).length : Int) := by rw [List.length_map]; omega
  have r1 : (((rowsP l).map RowS.d).length : Int) ≤ 64 := by rw [List.length_map]; omega
  have o1 : ((((rowsP l).take b).map (rwD l)).length : Int) ≤ 64 := by rw [List.length_map, List.length_take]; omega
  have hacc := accM_len l r.fr.toNat r.nx (r.to.toNat - r.fr.toNat)
  have w1 : ((accM l r.fr.toNat r.nx (r.to.toNat - r.fr.toNat)).length : Int) ≤ 1000 := by omega
  have hI := li_loop l hp ctx ((rowsP l).map RowS.d) (((rowsP l).take b).map (rwD l)) (((rowsP l).map RowS.d).length : Int) b r hr
  have ho := low_succ l b r hg
  have hR : rowM l r = accM l r.fr.toNat r.nx (r.to.toNat - r.fr.toNat) ++ tailM l r := rfl
  unfold tailM at hR
  rw [hk] at hR
  rw [ho, hR] at ih
  by_cases q3 : l[q].kind = 3
  ·rw [if_pos (by rw [q3]; rfl), List.append_nil] at ih
   have hn := row_jump hp hr q2 (by omega) hlq q3
   have e : nxD r.nx = .lst .no 1 (i64s r.nx) := by rw [hn]; rfl
   rw [e] at hgd
   simp only [liT, liU] at hI
   rw [e] at hI
   have := lo_jump (isd l) ((rowsP l).map RowS.d) (((rowsP l).take b).map (rwD l)) ctx b (i64s r.nx) _ _ hgd f0 ft tl' l1 b1 r1 o1 _ _ _ _ _ _ _ _ _ hy _ w1 hI q3
   rw [hw] at this
   exact Rounds.more this ih
  by_cases q4 : l[q].kind = 4
  ·rw [if_pos (by rw [q4]; rfl), List.append_nil] at ih
   have hn := row_goto hp hr q2 (by omega) hlq q4
   have e : nxD r.nx = .lst .no 1 (i64s r.nx) := by rw [hn]; rfl
   rw [e] at hgd
   simp only [liT, liU] at hI
   rw [e] at hI
   have := lo_goto (isd l) ((rowsP l).map RowS.d) (((rowsP l).take b).map (rwD l)) ctx b (i64s r.nx) _ _ hgd f0 ft tl' l1 b1 r1 o1 _ _ _ _ _ _ _ _ _ hy _ w1 hI q4
   rw [hw] at this
   exact Rounds.more this ih
  by_cases q6 : l[q].kind = 6
  ·rw [if_pos (by rw [q6]; rfl), List.append_nil] at ih
   have hn := row_exit hp hr q1 hlq q6
   have e : nxD r.nx = .lst .tight 0 [] := by rw [hn]; rfl
   rw [e] at hgd
   simp only [liT, liU] at hI
   rw [e] at hI
   have := lo_exit (isd l) ((rowsP l).map RowS.d) (((rowsP l).take b).map (rwD l)) ctx b _ _ hgd f0 ft tl' l1 b1 r1 o1 _ _ _ _ _ _ _ _ _ hy _ w1 hI q6
   rw [hw] at this
   exact Rounds.more this ih
  ·have hst : stopK l[q].kind = false := by unfold stopK; simp [q3, q4, q6]
   have hn := row_else hp hr q1 hlq q3 q4 q6
   rw [if_neg (by rw [hst]; simp), show r.nx.getD 0 0 = (b : Int) + 1 by rw [hn]; rfl] at ih
   have e : nxD r.nx = .lst .no 1 [.int .i64 ((b : Int) + 1)] := by rw [hn]; rfl
   rw [e] at hgd
   simp only [liT, liU] at hI
   rw [e] at hI
   have := lo_else (isd l) ((rowsP l).map RowS.d) (((rowsP l).take b).map (rwD l)) ctx b ((b : Int) + 1) _ _ hgd f0 ft tl' l1 b1 r1 o1 _ _ _ _ _ _ _ _ _ hy _ w1 hI (by simpa using q3) (by simpa using q4) (by simpa using q6)
   rw [hw] at this
   exact Rounds.more this ih
theorem lo_enter (l : List InstS) (hp : OkP l) (ctx : Int) : LoopRun Try.prog 2 (.loop (loopB Try.f13 0)) (loT ((rowsP l).map RowS.d) [] 0) (loS ctx l) (.exit 0) (loU (lowM l)) [.dead, .dead, .fam 0 1] :=
 LoopRun.of_rounds (by show 2 ≤ 3; decide) (lo_rounds l hp ctx (rowsP l).length 0 (by omega))
end Go.Proofs.Ytcngafhpodeenaa

namespace Go.Proofs.Ytcngafhpodeenaa
open Go Go.Ev
set_option maxRecDepth 100000
set_option maxHeartbeats 8000000
theorem lrun_no_ok (ctx : Int) (l : List InstS) (hb : Ret Try.prog 34 [.agg [.int .i64 ctx, .lst .no 9 (isd l)]] (.tup [.lst .tight 0 [], .int .i64 (checkM ctx l).2])) (he : ((checkM ctx l).2 == 0) = false)  : Ret Try.prog 13 ([.agg [.int .i64 ctx, .lst .no 9 (isd l)]]) (.tup [.lst .tight 0 [], .int .i64 (checkM ctx l).2]) := by
 exact (Ret.of_eval (d := .tup [.lst .tight 0 [], .int .i64 (Prod.snd (checkM ctx l))]) mixed Try.func13 (by kernel_rfl) [.ret _ _ _ hb, tC (nt he)] (by kernel_rfl)).to (by simp [wk, wkL, wkO])
theorem lrun_ok (ctx : Int) (l : List InstS) (hp : OkP l) (hb : Ret Try.prog 34 [.agg [.int .i64 ctx, .lst .no 9 (isd l)]] (.tup [.lst .no 3 ((rowsP l).map RowS.d), .int .i64 0]))  : Ret Try.prog 13 ([.agg [.int .i64 ctx, .lst .no 9 (isd l)]]) (.tup [.lst .no 1 (lowM l), .int .i64 0]) := by
 have c0 := @lo_enter (l) hp (ctx)
 exact (Ret.of_eval (d := .tup [.lst (.fresh 1) 1 (lowM l), .int .i64 0]) mixed Try.func13 (by kernel_rfl) [.ret _ _ _ hb, tF, .head ⟨[1, 4, 20, 21], [0], [(2, 1)]⟩ _ _ _ _ _ _ _ c0] (by kernel_rfl)).to (by simp [wk, wkL, wkO])
end Go.Proofs.Ytcngafhpodeenaa
