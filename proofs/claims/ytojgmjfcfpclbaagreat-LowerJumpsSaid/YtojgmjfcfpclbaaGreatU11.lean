/- Contracts and plain laws that a statement's proof leans on (texts merged: I0, I1H, I1, I2, XLen, Y1a, Y1b, Y1c, Y1d, E0F, E1e). -/
import Derived.Test.YtojgmjfcfpclbaaGreatU04
import Derived.Test.YtojgmjfcfpclbaaGreatU05
import Derived.Test.YtojgmjfcfpclbaaGreatU06
import Derived.Test.YtojgmjfcfpclbaaGreatU07
import Derived.Test.YtojgmjfcfpclbaaGreatU08
import Derived.Test.YtojgmjfcfpclbaaGreatU10
set_option linter.unusedVariables false
set_option linter.unusedSimpArgs false
namespace Go.Proofs.YtojgmjfcfpclbaaGreat
open Go Go.Ev
set_option maxRecDepth 100000
set_option maxHeartbeats 8000000
def tqI00 : List D := [.fn (.func 129) [] [], .fn (.func 126) [] [], .fn (.func 126) [] [], .fn (.func 132) [] [], .fn (.func 133) [] [.ptr false 2 0], .fn (.func 128) [] [], .fn (.func 134) [] []]
theorem those_ok  : Ret Tryz.prog 131 ([]) (.int .i64 2055) := by
 exact (o131 (d := .int .i64 2055) [.inl, .go 64, tT, tT, .get ([.int .i8 0, .int .i8 1, .int .i8 2, .int .i8 11]) 0 (.int .i8 0) rfl, tT, tT, tT, .get ([.int .i8 0, .int .i8 1, .int .i8 2, .int .i8 11]) 1 (.int .i8 1) rfl, tT, tT, tT, .get ([.int .i8 0, .int .i8 1, .int .i8 2, .int .i8 11]) 2 (.int .i8 2) rfl, tT, tT, tT, .get ([.int .i8 0, .int .i8 1, .int .i8 2, .int .i8 11]) 3 (.int .i8 11) rfl, tT, tF] (by kernel_rfl)).to (by rfl)
theorem phys_ok (n : Int) (hn : n ≤ 127) : Ret Tryz.prog 127 ([.int .i8 n]) (.bool (scrM n)) := by
 rcases bft (decide (n < 0)) with h0 | h0
 ·exact (o127 (d := .bool false) (List.replicate 5 (tC (eT (leL 0 h0))) ++ [tC (leL 0 h0)]) (by kernel_rfl)).to (by exact wk_bool (scr_neg h0))
 have c1 := @those_ok
 exact (o127 (d := .bool (IntKind.wrap IntKind.i64 (↑(BitVec.toNat (BitVec.ofInt (64 : Nat) (Int.fdiv 2055 (2 ^ min (Int.toNat n) (64 : Nat))) &&& BitVec.ofInt (64 : Nat) 1)) : Int) == 1)) [tC (eT (leL 0 h0)), .ret _ _ _ c1, tC (eT (leL 0 h0)), tC (eT (leL 0 h0)), tC (v := true) (leL 0 h0), tC (eT (leL 0 h0)), tC (eT (leL 0 h0)), tC (leL 0 h0)] (by kernel_rfl)).to (by exact wk_bool (scr_bit_eq h0 hn))
def SpI00 (k0_ : Int) : Prop := ∀ (op w dst src base disp imm cc reg phys num to : Int) (ho : op ≤ 127) (hc : cc ≤ 127) (hp : phys ≤ 127) (g0 : -128 ≤ reg) (g1 : reg ≤ 127), Ret Tryz.prog 29 ([irD k0_ op w dst src base disp imm cc reg phys num to]) (.bool (mayI k0_ op w dst src base disp imm cc reg phys num to))
theorem imay_0_ok : SpI00 0 := by
 intro op w dst src base disp imm cc reg phys num to ho hc hp g0 g1
 let E1 : EL := ([.inl, .inl] ++ List.replicate 9 tT ++ [.get ([D.fn (Fn.func 129) [] [], D.fn (Fn.func 126) [] [], D.fn (Fn.func 126) [] [], D.fn (Fn.func 132) [] [], D.fn (Fn.func 133) [] [D.ptr false 2 0], D.fn (Fn.func 128) [] [], D.fn (Fn.func 134) [] []]) 0 (D.fn (Fn.func 129) [] []) rfl, tT, .inl])
 rcases bft (mayX op w dst src base disp imm cc) with k0 | k0
 ·rcases bft (decide (op < 28)) with k1 | k1
  ·rcases bft (ownM op w dst src base disp imm cc) with k2 | k2
   ·have c3 := @reads_any_ok op w dst src base disp imm cc ho
    have c4 := @writes_any_ok op w dst src base disp imm cc ho
    have c5 := @mayX_ok op w dst src base disp imm cc ho
    have c6 := @those_ok
    exact (o29 (d := .bool (eqCells [.int .i8 0, .int .i8 0, .int .i8 0, .int .i8 0, .int .i8 0, .int .i8 0, .int .i64 0, .int .i64 0, .int .i8 0, .int .i8 reg, .int .i8 phys, .int .i64 num, .int .i64 to] [.int .i8 0, .int .i8 0, .int .i8 0, .int .i8 0, .int .i8 0, .int .i8 0, .int .i64 0, .int .i64 0, .int .i8 0, .int .i8 0, .int .i8 0, .int .i64 0, .int .i64 0])) (E1 ++ [.ret _ _ _ c3, .ret _ _ _ c4, .ret _ _ _ c5] ++ List.replicate 6 (tC (eT k0)) ++ [tC k0, tC (eT k1), tC (eT k1), .ret _ _ _ c6, tC (eT k1), tC (eT k1), tC k1, tT] ++ List.replicate 5 (tC (eT (eqI 0 true (eq_of_beq (@own_t op w dst src base disp imm cc k2))))) ++ [.flat _ _ flat_Ir, tC (eqI 0 true (eq_of_beq (@own_t op w dst src base disp imm cc k2)))]) (by kernel_rfl)).to (by clear E1; simp only [wk, D.bool.injEq, eq_irc, mayI_0, zeroX, k0, k1, k2, Bool.true_and, Bool.false_and, Bool.and_true, Bool.and_false]; rw [Bool.eq_iff_iff]; simp only [sl1, eq_irc] at *; done)
   have c7 := @reads_any_ok op w dst src base disp imm cc ho
   have c8 := @writes_any_ok op w dst src base disp imm cc ho
   have c9 := @mayX_ok op w dst src base disp imm cc ho
   have c10 := @those_ok
   exact (o29 (d := .bool false) (E1 ++ [.ret _ _ _ c7, .ret _ _ _ c8, .ret _ _ _ c9] ++ List.replicate 6 (tC (eT k0)) ++ [tC k0, tC (eT k1), tC (eT k1), .ret _ _ _ c10, tC (eT k1), tC (eT k1), tC k1, tT] ++ List.replicate 5 (tC (eT (@own_f op w dst src base disp imm cc k2))) ++ [tC (@own_f op w dst src base disp imm cc k2)]) (by kernel_rfl)).to (by simp only [wk, D.bool.injEq, eq_irc, mayI_0, zeroX, k0, k1, k2, Bool.true_and, Bool.false_and, Bool.and_true, Bool.and_false]; done)
  rcases bft (ownM op w dst src base disp imm cc) with k11 | k11
  ·have c12 := @reads_any_ok op w dst src base disp imm cc ho
   have c13 := @writes_any_ok op w dst src base disp imm cc ho
   have c14 := @mayX_ok op w dst src base disp imm cc ho
   exact (o29 (d := .bool false) (E1 ++ [.ret _ _ _ c12, .ret _ _ _ c13, .ret _ _ _ c14] ++ List.replicate 6 (tC (eT k0)) ++ [tC k0] ++ List.replicate 4 (tC (eT k1)) ++ [tC k1, tT, tF, tF, tF, tF, tF, tF]) (by kernel_rfl)).to (by simp only [wk, D.bool.injEq, eq_irc, mayI_0, zeroX, k0, k1, k11, Bool.true_and, Bool.false_and, Bool.and_true, Bool.and_false]; done)
  have c15 := @reads_any_ok op w dst src base disp imm cc ho
  have c16 := @writes_any_ok op w dst src base disp imm cc ho
  have c17 := @mayX_ok op w dst src base disp imm cc ho
  exact (o29 (d := .bool false) (E1 ++ [.ret _ _ _ c15, .ret _ _ _ c16, .ret _ _ _ c17] ++ List.replicate 6 (tC (eT k0)) ++ [tC k0] ++ List.replicate 4 (tC (eT k1)) ++ [tC k1, tT, tF, tF, tF, tF, tF, tF]) (by kernel_rfl)).to (by simp only [wk, D.bool.injEq, eq_irc, mayI_0, zeroX, k0, k1, k11, Bool.true_and, Bool.false_and, Bool.and_true, Bool.and_false]; done)
 rcases bft (decide (op < 28)) with k18 | k18
 ·rcases bft (ownM op w dst src base disp imm cc) with k19 | k19
  ·have c20 := @reads_any_ok op w dst src base disp imm cc ho
   have c21 := @writes_any_ok op w dst src base disp imm cc ho
   have c22 := @mayX_ok op w dst src base disp imm cc ho
   exact (o29 (d := .bool false) (E1 ++ [.ret _ _ _ c20, .ret _ _ _ c21, .ret _ _ _ c22] ++ List.replicate 6 (tC (eT k0)) ++ [tC k0, tF, tF, tF, tF, tF, tT, tF, tF, tF, tF, tF, tF]) (by kernel_rfl)).to (by simp only [wk, D.bool.injEq, eq_irc, mayI_0, zeroX, k0, k18, k19, Bool.true_and, Bool.false_and, Bool.and_true, Bool.and_false]; done)
  have c23 := @reads_any_ok op w dst src base disp imm cc ho
  have c24 := @writes_any_ok op w dst src base disp imm cc ho
  have c25 := @mayX_ok op w dst src base disp imm cc ho
  exact (o29 (d := .bool false) (E1 ++ [.ret _ _ _ c23, .ret _ _ _ c24, .ret _ _ _ c25] ++ List.replicate 6 (tC (eT k0)) ++ [tC k0, tF, tF, tF, tF, tF, tT, tF, tF, tF, tF, tF, tF]) (by kernel_rfl)).to (by simp only [wk, D.bool.injEq, eq_irc, mayI_0, zeroX, k0, k18, k19, Bool.true_and, Bool.false_and, Bool.and_true, Bool.and_false]; done)
 rcases bft (ownM op w dst src base disp imm cc) with k26 | k26
 ·have c27 := @reads_any_ok op w dst src base disp imm cc ho
  have c28 := @writes_any_ok op w dst src base disp imm cc ho
  have c29 := @mayX_ok op w dst src base disp imm cc ho
  exact (o29 (d := .bool false) (E1 ++ [.ret _ _ _ c27, .ret _ _ _ c28, .ret _ _ _ c29] ++ List.replicate 6 (tC (eT k0)) ++ [tC k0, tF, tF, tF, tF, tF, tT, tF, tF, tF, tF, tF, tF]) (by kernel_rfl)).to (by simp only [wk, D.bool.injEq, eq_irc, mayI_0, zeroX, k0, k18, k26, Bool.true_and, Bool.false_and, Bool.and_true, Bool.and_false]; done)
 have c30 := @reads_any_ok op w dst src base disp imm cc ho
 have c31 := @writes_any_ok op w dst src base disp imm cc ho
 have c32 := @mayX_ok op w dst src base disp imm cc ho
 exact (o29 (d := .bool false) (E1 ++ [.ret _ _ _ c30, .ret _ _ _ c31, .ret _ _ _ c32] ++ List.replicate 6 (tC (eT k0)) ++ [tC k0, tF, tF, tF, tF, tF, tT, tF, tF, tF, tF, tF, tF]) (by kernel_rfl)).to (by simp only [wk, D.bool.injEq, eq_irc, mayI_0, zeroX, k0, k18, k26, Bool.true_and, Bool.false_and, Bool.and_true, Bool.and_false]; done)
theorem imay_1_ok : SpI00 1 := by
 intro op w dst src base disp imm cc reg phys num to ho hc hp g0 g1
 let E1 : EL := ([.inl, .inl] ++ List.replicate 9 tT ++ [.get ([D.fn (Fn.func 129) [] [], D.fn (Fn.func 126) [] [], D.fn (Fn.func 126) [] [], D.fn (Fn.func 132) [] [], D.fn (Fn.func 133) [] [D.ptr false 2 0], D.fn (Fn.func 128) [] [], D.fn (Fn.func 134) [] []]) 1 (D.fn (Fn.func 126) [] []) rfl, tT, .inl, .inl])
 rcases bft (scrM phys) with k0 | k0
 ·rcases bft (decide (IntKind.wrap IntKind.i64 reg < 0)) with h1 | h1
  ·exact (o29 (d := .bool false) (E1 ++ List.replicate 3 (tC (eT (leL 0 h1))) ++ [tC (leL 0 h1), tF, tF, tF, tF, tF, tF, tT, tF, tF, tF, tF, tF, tF]) (by kernel_rfl)).to (by clear E1; simp only [wk, D.bool.injEq, eq_irc, mayI_1, zeroX, k0, h1, Bool.true_and, Bool.false_and, Bool.and_true, Bool.and_false]; rw [Bool.eq_iff_iff]; simp only [sl1, eq_irc] at *; omega)
  rcases bft (decide (IntKind.wrap IntKind.i64 reg < 11)) with h2 | h2
  ·have c3 := @phys_ok phys hp
   exact (o29 (d := .bool (eqCells [.int .i8 1, .int .i8 op, .int .i8 w, .int .i8 dst, .int .i8 src, .int .i8 base, .int .i64 disp, .int .i64 imm, .int .i8 cc, .int .i8 0, .int .i8 0, .int .i64 num, .int .i64 to] [.int .i8 1, .int .i8 0, .int .i8 0, .int .i8 0, .int .i8 0, .int .i8 0, .int .i64 0, .int .i64 0, .int .i8 0, .int .i8 0, .int .i8 0, .int .i64 0, .int .i64 0])) (E1 ++ List.replicate 3 (tC (eT (leL 0 h1))) ++ [tC (leL 0 h1)] ++ List.replicate 5 (tC (eT (leC 10 h2))) ++ [.ret _ _ _ c3, tC (leC 10 h2), tT] ++ List.replicate 5 (tC (eT k0)) ++ [.flat _ _ flat_Ir, tC k0]) (by kernel_rfl)).to (by clear E1; simp only [wk, D.bool.injEq, eq_irc, mayI_1, zeroX, k0, h1, h2, Bool.true_and, Bool.false_and, Bool.and_true, Bool.and_false]; rw [Bool.eq_iff_iff]; simp only [sl1, eq_irc] at *; omega)
  exact (o29 (d := .bool false) (E1 ++ List.replicate 3 (tC (eT (leL 0 h1))) ++ [tC (leL 0 h1)] ++ List.replicate 5 (tC (eT (leC 10 h2))) ++ [tC (leC 10 h2), tT, tF, tF, tF, tF, tF, tF]) (by kernel_rfl)).to (by clear E1; simp only [wk, D.bool.injEq, eq_irc, mayI_1, zeroX, k0, h1, h2, Bool.true_and, Bool.false_and, Bool.and_true, Bool.and_false]; rw [Bool.eq_iff_iff]; simp only [sl1, eq_irc] at *; omega)
 rcases bft (decide (IntKind.wrap IntKind.i64 reg < 0)) with h4 | h4
 ·exact (o29 (d := .bool false) (E1 ++ List.replicate 3 (tC (eT (leL 0 h4))) ++ [tC (leL 0 h4), tF, tF, tF, tF, tF, tF, tT, tF, tF, tF, tF, tF, tF]) (by kernel_rfl)).to (by simp only [wk, D.bool.injEq, eq_irc, mayI_1, zeroX, k0, h4, Bool.true_and, Bool.false_and, Bool.and_true, Bool.and_false]; done)
 rcases bft (decide (IntKind.wrap IntKind.i64 reg < 11)) with h5 | h5
 ·have c6 := @phys_ok phys hp
  exact (o29 (d := .bool false) (E1 ++ List.replicate 3 (tC (eT (leL 0 h4))) ++ [tC (leL 0 h4)] ++ List.replicate 5 (tC (eT (leC 10 h5))) ++ [.ret _ _ _ c6, tC (leC 10 h5), tT] ++ List.replicate 5 (tC (eT k0)) ++ [tC k0]) (by kernel_rfl)).to (by simp only [wk, D.bool.injEq, eq_irc, mayI_1, zeroX, k0, h4, h5, Bool.true_and, Bool.false_and, Bool.and_true, Bool.and_false]; done)
 exact (o29 (d := .bool false) (E1 ++ List.replicate 3 (tC (eT (leL 0 h4))) ++ [tC (leL 0 h4)] ++ List.replicate 5 (tC (eT (leC 10 h5))) ++ [tC (leC 10 h5), tT, tF, tF, tF, tF, tF, tF]) (by kernel_rfl)).to (by simp only [wk, D.bool.injEq, eq_irc, mayI_1, zeroX, k0, h4, h5, Bool.true_and, Bool.false_and, Bool.and_true, Bool.and_false]; done)
theorem imay_2_ok : SpI00 2 := by
 intro op w dst src base disp imm cc reg phys num to ho hc hp g0 g1
 let E1 : EL := ([.inl, .inl] ++ List.replicate 9 tT ++ [.get ([D.fn (Fn.func 129) [] [], D.fn (Fn.func 126) [] [], D.fn (Fn.func 126) [] [], D.fn (Fn.func 132) [] [], D.fn (Fn.func 133) [] [D.ptr false 2 0], D.fn (Fn.func 128) [] [], D.fn (Fn.func 134) [] []]) 2 (D.fn (Fn.func 126) [] []) rfl, tT, .inl, .inl])
 rcases bft (scrM phys) with k0 | k0
 ·rcases bft (decide (IntKind.wrap IntKind.i64 reg < 0)) with h1 | h1
  ·exact (o29 (d := .bool false) (E1 ++ List.replicate 3 (tC (eT (leL 0 h1))) ++ [tC (leL 0 h1), tF, tF, tF, tF, tF, tF, tT, tF, tF, tF, tF, tF, tF]) (by kernel_rfl)).to (by clear E1; simp only [wk, D.bool.injEq, eq_irc, mayI_2, zeroX, k0, h1, Bool.true_and, Bool.false_and, Bool.and_true, Bool.and_false]; rw [Bool.eq_iff_iff]; simp only [sl1, eq_irc] at *; omega)
  rcases bft (decide (IntKind.wrap IntKind.i64 reg < 11)) with h2 | h2
  ·have c3 := @phys_ok phys hp
   exact (o29 (d := .bool (eqCells [.int .i8 2, .int .i8 op, .int .i8 w, .int .i8 dst, .int .i8 src, .int .i8 base, .int .i64 disp, .int .i64 imm, .int .i8 cc, .int .i8 0, .int .i8 0, .int .i64 num, .int .i64 to] [.int .i8 2, .int .i8 0, .int .i8 0, .int .i8 0, .int .i8 0, .int .i8 0, .int .i64 0, .int .i64 0, .int .i8 0, .int .i8 0, .int .i8 0, .int .i64 0, .int .i64 0])) (E1 ++ List.replicate 3 (tC (eT (leL 0 h1))) ++ [tC (leL 0 h1)] ++ List.replicate 5 (tC (eT (leC 10 h2))) ++ [.ret _ _ _ c3, tC (leC 10 h2), tT] ++ List.replicate 5 (tC (eT k0)) ++ [.flat _ _ flat_Ir, tC k0]) (by kernel_rfl)).to (by clear E1; simp only [wk, D.bool.injEq, eq_irc, mayI_2, zeroX, k0, h1, h2, Bool.true_and, Bool.false_and, Bool.and_true, Bool.and_false]; rw [Bool.eq_iff_iff]; simp only [sl1, eq_irc] at *; omega)
  exact (o29 (d := .bool false) (E1 ++ List.replicate 3 (tC (eT (leL 0 h1))) ++ [tC (leL 0 h1)] ++ List.replicate 5 (tC (eT (leC 10 h2))) ++ [tC (leC 10 h2), tT, tF, tF, tF, tF, tF, tF]) (by kernel_rfl)).to (by clear E1; simp only [wk, D.bool.injEq, eq_irc, mayI_2, zeroX, k0, h1, h2, Bool.true_and, Bool.false_and, Bool.and_true, Bool.and_false]; rw [Bool.eq_iff_iff]; simp only [sl1, eq_irc] at *; omega)
 rcases bft (decide (IntKind.wrap IntKind.i64 reg < 0)) with h4 | h4
 ·exact (o29 (d := .bool false) (E1 ++ List.replicate 3 (tC (eT (leL 0 h4))) ++ [tC (leL 0 h4), tF, tF, tF, tF, tF, tF, tT, tF, tF, tF, tF, tF, tF]) (by kernel_rfl)).to (by simp only [wk, D.bool.injEq, eq_irc, mayI_2, zeroX, k0, h4, Bool.true_and, Bool.false_and, Bool.and_true, Bool.and_false]; done)
 rcases bft (decide (IntKind.wrap IntKind.i64 reg < 11)) with h5 | h5
 ·have c6 := @phys_ok phys hp
  exact (o29 (d := .bool false) (E1 ++ List.replicate 3 (tC (eT (leL 0 h4))) ++ [tC (leL 0 h4)] ++ List.replicate 5 (tC (eT (leC 10 h5))) ++ [.ret _ _ _ c6, tC (leC 10 h5), tT] ++ List.replicate 5 (tC (eT k0)) ++ [tC k0]) (by kernel_rfl)).to (by simp only [wk, D.bool.injEq, eq_irc, mayI_2, zeroX, k0, h4, h5, Bool.true_and, Bool.false_and, Bool.and_true, Bool.and_false]; done)
 exact (o29 (d := .bool false) (E1 ++ List.replicate 3 (tC (eT (leL 0 h4))) ++ [tC (leL 0 h4)] ++ List.replicate 5 (tC (eT (leC 10 h5))) ++ [tC (leC 10 h5), tT, tF, tF, tF, tF, tF, tF]) (by kernel_rfl)).to (by simp only [wk, D.bool.injEq, eq_irc, mayI_2, zeroX, k0, h4, h5, Bool.true_and, Bool.false_and, Bool.and_true, Bool.and_false]; done)
theorem imay_3_ok : SpI00 3 := by
 intro op w dst src base disp imm cc reg phys num to ho hc hp g0 g1
 let E1 : EL := ([.inl, .inl] ++ List.replicate 9 tT ++ [.get ([D.fn (Fn.func 129) [] [], D.fn (Fn.func 126) [] [], D.fn (Fn.func 126) [] [], D.fn (Fn.func 132) [] [], D.fn (Fn.func 133) [] [D.ptr false 2 0], D.fn (Fn.func 128) [] [], D.fn (Fn.func 134) [] []]) 3 (D.fn (Fn.func 132) [] []) rfl, tT, .inl, .inl])
 rcases bft (decide (num < 0)) with h0 | h0
 ·exact (o29 (d := .bool false) (E1 ++ List.replicate 3 (tC (eT (leL 0 h0))) ++ [tC (leL 0 h0), tT, tF, tF, tF, tF, tF, tF]) (by kernel_rfl)).to (by clear E1; simp only [wk, D.bool.injEq, eq_irc, mayI_3, zeroX, h0, Bool.true_and, Bool.false_and, Bool.and_true, Bool.and_false]; rw [Bool.eq_iff_iff]; simp only [sl1, eq_irc] at *; omega)
 rcases bft (decide (num < 16)) with h1 | h1
 ·exact (o29 (d := .bool (eqCells [.int .i8 3, .int .i8 op, .int .i8 w, .int .i8 dst, .int .i8 src, .int .i8 base, .int .i64 disp, .int .i64 imm, .int .i8 cc, .int .i8 reg, .int .i8 phys, .int .i64 0, .int .i64 to] [.int .i8 3, .int .i8 0, .int .i8 0, .int .i8 0, .int .i8 0, .int .i8 0, .int .i64 0, .int .i64 0, .int .i8 0, .int .i8 0, .int .i8 0, .int .i64 0, .int .i64 0])) (E1 ++ List.replicate 3 (tC (eT (leL 0 h0))) ++ [tC (leL 0 h0), tT] ++ List.replicate 5 (tC (eT (leC 15 h1))) ++ [.flat _ _ flat_Ir, tC (leC 15 h1)]) (by kernel_rfl)).to (by clear E1; simp only [wk, D.bool.injEq, eq_irc, mayI_3, zeroX, h0, h1, Bool.true_and, Bool.false_and, Bool.and_true, Bool.and_false]; rw [Bool.eq_iff_iff]; simp only [sl1, eq_irc] at *; omega)
 exact (o29 (d := .bool false) (E1 ++ List.replicate 3 (tC (eT (leL 0 h0))) ++ [tC (leL 0 h0), tT] ++ List.replicate 5 (tC (eT (leC 15 h1))) ++ [tC (leC 15 h1)]) (by kernel_rfl)).to (by clear E1; simp only [wk, D.bool.injEq, eq_irc, mayI_3, zeroX, h0, h1, Bool.true_and, Bool.false_and, Bool.and_true, Bool.and_false]; rw [Bool.eq_iff_iff]; simp only [sl1, eq_irc] at *; omega)
theorem imay_4_ok : SpI00 4 := by
 intro op w dst src base disp imm cc reg phys num to ho hc hp g0 g1
 let E1 : EL := ([.inl, .inl] ++ List.replicate 9 tT ++ [.get ([D.fn (Fn.func 129) [] [], D.fn (Fn.func 126) [] [], D.fn (Fn.func 126) [] [], D.fn (Fn.func 132) [] [], D.fn (Fn.func 133) [] [D.ptr false 2 0], D.fn (Fn.func 128) [] [], D.fn (Fn.func 134) [] []]) 4 (D.fn (Fn.func 133) [] [D.ptr false 2 0]) rfl, tT, .inl, .flat _ _ flat_X])
 rcases bft (eqCells [.int .i8 op, .int .i8 w, .int .i8 dst, .int .i8 src, .int .i8 base, .int .i64 disp, .int .i64 imm, .int .i8 cc] [.int .i8 29, .int .i8 0, .int .i8 0, .int .i8 0, .int .i8 0, .int .i64 0, .int .i64 0, .int .i8 cc]) with h0 | h0
 ·have c1 := @fmay_any_ok cc
  let E2 : EL := E1 ++ List.replicate 6 (tC (eT h0)) ++ [.ret _ _ _ c1, tC h0, .inl, .inl]
  rcases bft (decide (to < 0)) with h2 | h2
  ·exact (o29 (d := .bool false) (E2 ++ List.replicate 3 (tC (eT (leL 0 h2))) ++ [tC (leL 0 h2), tF, tF, tT, tF, tF, tF, tF, tF, tF]) (by kernel_rfl)).to (by clear E1 E2; simp only [wk, D.bool.injEq, eq_irc, mayI_4, zeroX, h0, h2, Bool.true_and, Bool.false_and, Bool.and_true, Bool.and_false]; first | done | rfl | (rw [Bool.eq_iff_iff]; simp only [sl1, eq_irc, eqCells, eqCell, beq_self_eq_true, Bool.and_eq_false_iff, Bool.and_true] at *; first | done | omega | (intro hh; omega) | (simp; done) | (intro hh; simp at hh; omega) | (constructor <;> intro hh <;> omega)))
  let E3 : EL := E2 ++ List.replicate 3 (tC (eT (leL 0 h2))) ++ [tC (leL 0 h2)]
  rcases bft (decide (to < 65)) with h3 | h3
  ·rcases bft (ccM cc) with h4 | h4
   ·exact (o29 (d := .bool (eqCells [.int .i8 4, .int .i8 0, .int .i8 0, .int .i8 0, .int .i8 0, .int .i8 0, .int .i64 0, .int .i64 0, .int .i8 0, .int .i8 reg, .int .i8 phys, .int .i64 num, .int .i64 0] [.int .i8 4, .int .i8 0, .int .i8 0, .int .i8 0, .int .i8 0, .int .i8 0, .int .i64 0, .int .i64 0, .int .i8 0, .int .i8 0, .int .i8 0, .int .i64 0, .int .i64 0])) (E3 ++ [tC (eT (leC 64 h3)), tC (leC 64 h3), tT] ++ List.replicate 5 (tC (eT h4)) ++ [.flat _ _ flat_Ir, tC h4]) (by kernel_rfl)).to (by clear E1 E2 E3; simp only [wk, D.bool.injEq, eq_irc, mayI_4, zeroX, h0, h2, h3, h4, Bool.true_and, Bool.false_and, Bool.and_true, Bool.and_false]; first | done | rfl | (rw [Bool.eq_iff_iff]; simp only [sl1, eq_irc, eqCells, eqCell, beq_self_eq_true, Bool.and_eq_false_iff, Bool.and_true] at *; first | done | omega | (intro hh; omega) | (simp; done) | (intro hh; simp at hh; omega) | (constructor <;> intro hh <;> omega)))
   exact (o29 (d := .bool false) (E3 ++ [tC (eT (leC 64 h3)), tC (leC 64 h3), tT] ++ List.replicate 5 (tC (eT h4)) ++ [tC h4]) (by kernel_rfl)).to (by clear E1 E2 E3; simp only [wk, D.bool.injEq, eq_irc, mayI_4, zeroX, h0, h2, h3, h4, Bool.true_and, Bool.false_and, Bool.and_true, Bool.and_false]; first | done | rfl | (rw [Bool.eq_iff_iff]; simp only [sl1, eq_irc, eqCells, eqCell, beq_self_eq_true, Bool.and_eq_false_iff, Bool.and_true] at *; first | done | omega | (intro hh; omega) | (simp; done) | (intro hh; simp at hh; omega) | (constructor <;> intro hh <;> omega)))
  exact (o29 (d := .bool false) (E3 ++ [tC (eT (leC 64 h3)), tC (leC 64 h3), tT, tF, tF, tF, tF, tF, tF]) (by kernel_rfl)).to (by clear E1 E2 E3; simp only [wk, D.bool.injEq, eq_irc, mayI_4, zeroX, h0, h2, h3, Bool.true_and, Bool.false_and, Bool.and_true, Bool.and_false]; first | done | rfl | (rw [Bool.eq_iff_iff]; simp only [sl1, eq_irc, eqCells, eqCell, beq_self_eq_true, Bool.and_eq_false_iff, Bool.and_true] at *; first | done | omega | (intro hh; omega) | (simp; done) | (intro hh; simp at hh; omega) | (constructor <;> intro hh <;> omega)))
 let E4 : EL := E1 ++ List.replicate 6 (tC (eT h0)) ++ [tC h0, .inl, .inl]
 rcases bft (decide (to < 0)) with h5 | h5
 ·exact (o29 (d := .bool false) (E4 ++ List.replicate 3 (tC (eT (leL 0 h5))) ++ [tC (leL 0 h5), tF, tF, tT, tF, tF, tF, tF, tF, tF]) (by kernel_rfl)).to (by clear E1 E4; simp only [wk, D.bool.injEq, eq_irc, mayI_4, zeroX, h0, h5, Bool.true_and, Bool.false_and, Bool.and_true, Bool.and_false]; first | done | rfl | (rw [Bool.eq_iff_iff]; simp only [sl1, eq_irc, eqCells, eqCell, beq_self_eq_true, Bool.and_eq_false_iff, Bool.and_true] at *; first | done | omega | (intro hh; omega) | (simp; done) | (intro hh; simp at hh; omega) | (constructor <;> intro hh <;> omega)))
 rcases bft (decide (to < 65)) with h6 | h6
 ·exact (o29 (d := .bool false) (E4 ++ List.replicate 3 (tC (eT (leL 0 h5))) ++ [tC (leL 0 h5), tC (eT (leC 64 h6)), tC (leC 64 h6), tT, tF, tF, tF, tF, tF, tF]) (by kernel_rfl)).to (by clear E1 E4; simp only [wk, D.bool.injEq, eq_irc, mayI_4, zeroX, h0, h5, h6, Bool.true_and, Bool.false_and, Bool.and_true, Bool.and_false]; first | done | rfl | (rw [Bool.eq_iff_iff]; simp only [sl1, eq_irc, eqCells, eqCell, beq_self_eq_true, Bool.and_eq_false_iff, Bool.and_true] at *; first | done | omega | (intro hh; omega) | (simp; done) | (intro hh; simp at hh; omega) | (constructor <;> intro hh <;> omega)))
 exact (o29 (d := .bool false) (E4 ++ List.replicate 3 (tC (eT (leL 0 h5))) ++ [tC (leL 0 h5), tC (eT (leC 64 h6)), tC (leC 64 h6), tT, tF, tF, tF, tF, tF, tF]) (by kernel_rfl)).to (by clear E1 E4; simp only [wk, D.bool.injEq, eq_irc, mayI_4, zeroX, h0, h5, h6, Bool.true_and, Bool.false_and, Bool.and_true, Bool.and_false]; first | done | rfl | (rw [Bool.eq_iff_iff]; simp only [sl1, eq_irc, eqCells, eqCell, beq_self_eq_true, Bool.and_eq_false_iff, Bool.and_true] at *; first | done | omega | (intro hh; omega) | (simp; done) | (intro hh; simp at hh; omega) | (constructor <;> intro hh <;> omega)))
theorem imay_5_ok : SpI00 5 := by
 intro op w dst src base disp imm cc reg phys num to ho hc hp g0 g1
 let E1 : EL := ([.inl, .inl] ++ List.replicate 9 tT ++ [.get ([D.fn (Fn.func 129) [] [], D.fn (Fn.func 126) [] [], D.fn (Fn.func 126) [] [], D.fn (Fn.func 132) [] [], D.fn (Fn.func 133) [] [D.ptr false 2 0], D.fn (Fn.func 128) [] [], D.fn (Fn.func 134) [] []]) 5 (D.fn (Fn.func 128) [] []) rfl, tT, .inl, .inl])
 rcases bft (decide (to < 0)) with h0 | h0
 ·exact (o29 (d := .bool false) (E1 ++ List.replicate 3 (tC (eT (leL 0 h0))) ++ [tC (leL 0 h0), tT, tF, tF, tF, tF, tF, tF]) (by kernel_rfl)).to (by clear E1; simp only [wk, D.bool.injEq, eq_irc, mayI_5, zeroX, h0, Bool.true_and, Bool.false_and, Bool.and_true, Bool.and_false]; rw [Bool.eq_iff_iff]; simp only [sl1, eq_irc] at *; omega)
 rcases bft (decide (to < 65)) with h1 | h1
 ·exact (o29 (d := .bool (eqCells [.int .i8 5, .int .i8 op, .int .i8 w, .int .i8 dst, .int .i8 src, .int .i8 base, .int .i64 disp, .int .i64 imm, .int .i8 cc, .int .i8 reg, .int .i8 phys, .int .i64 num, .int .i64 0] [.int .i8 5, .int .i8 0, .int .i8 0, .int .i8 0, .int .i8 0, .int .i8 0, .int .i64 0, .int .i64 0, .int .i8 0, .int .i8 0, .int .i8 0, .int .i64 0, .int .i64 0])) (E1 ++ List.replicate 3 (tC (eT (leL 0 h0))) ++ [tC (leL 0 h0), tT] ++ List.replicate 5 (tC (eT (leC 64 h1))) ++ [.flat _ _ flat_Ir, tC (leC 64 h1)]) (by kernel_rfl)).to (by clear E1; simp only [wk, D.bool.injEq, eq_irc, mayI_5, zeroX, h0, h1, Bool.true_and, Bool.false_and, Bool.and_true, Bool.and_false]; rw [Bool.eq_iff_iff]; simp only [sl1, eq_irc] at *; omega)
 exact (o29 (d := .bool false) (E1 ++ List.replicate 3 (tC (eT (leL 0 h0))) ++ [tC (leL 0 h0), tT] ++ List.replicate 5 (tC (eT (leC 64 h1))) ++ [tC (leC 64 h1)]) (by kernel_rfl)).to (by clear E1; simp only [wk, D.bool.injEq, eq_irc, mayI_5, zeroX, h0, h1, Bool.true_and, Bool.false_and, Bool.and_true, Bool.and_false]; rw [Bool.eq_iff_iff]; simp only [sl1, eq_irc] at *; omega)
theorem imay_6_ok : SpI00 6 := by
 intro op w dst src base disp imm cc reg phys num to ho hc hp g0 g1
 exact (o29 (d := .bool (eqCells [.int .i8 6, .int .i8 op, .int .i8 w, .int .i8 dst, .int .i8 src, .int .i8 base, .int .i64 disp, .int .i64 imm, .int .i8 cc, .int .i8 reg, .int .i8 phys, .int .i64 num, .int .i64 to] [.int .i8 6, .int .i8 0, .int .i8 0, .int .i8 0, .int .i8 0, .int .i8 0, .int .i64 0, .int .i64 0, .int .i8 0, .int .i8 0, .int .i8 0, .int .i64 0, .int .i64 0])) ([.inl, .inl] ++ List.replicate 9 tT ++ [.get ([D.fn (Fn.func 129) [] [], D.fn (Fn.func 126) [] [], D.fn (Fn.func 126) [] [], D.fn (Fn.func 132) [] [], D.fn (Fn.func 133) [] [D.ptr false 2 0], D.fn (Fn.func 128) [] [], D.fn (Fn.func 134) [] []]) 6 (D.fn (Fn.func 134) [] []) rfl, tT, .inl, tT, tT, tT, tT, tT, tT, .flat _ _ flat_Ir, tT]) (by kernel_rfl)).to (by simp only [wk, D.bool.injEq, eq_irc, mayI_6, zeroX, Bool.true_and, Bool.false_and, Bool.and_true, Bool.and_false]; rw [Bool.eq_iff_iff]; simp only [sl1, eq_irc] at *; omega)
theorem imay_lo_ok (kind op w dst src base disp imm cc reg phys num to : Int) (h : kind < 0) (h2 : -128 ≤ kind) : Ret Tryz.prog 29 ([irD kind op w dst src base disp imm cc reg phys num to]) (.bool false) := by
 exact (o29 (d := .bool false) ([.inl, .inl] ++ List.replicate 3 (tC (eT (leL 0 (by (simp only [sl2] at *; omega) : (decide (IntKind.wrap IntKind.i64 kind < 0)) = true)))) ++ [tC (leL 0 (by (simp only [sl2] at *; omega) : (decide (IntKind.wrap IntKind.i64 kind < 0)) = true))] ++ List.replicate 12 tF) (by kernel_rfl)).to (by simp [wk])
theorem imay_hi_ok (kind op w dst src base disp imm cc reg phys num to : Int) (h : 7 ≤ kind) (h2 : kind ≤ 127) : Ret Tryz.prog 29 ([irD kind op w dst src base disp imm cc reg phys num to]) (.bool false) := by
 exact (o29 (d := .bool false) ([.inl, .inl] ++ List.replicate 3 (tC (eT (leL 0 (by (simp only [sl2] at *; omega) : (decide (IntKind.wrap IntKind.i64 kind < 0)) = false)))) ++ [tC (leL 0 (by (simp only [sl2] at *; omega) : (decide (IntKind.wrap IntKind.i64 kind < 0)) = false))] ++ List.replicate 5 (tC (eT (leC 6 (by (simp only [sl2] at *; omega) : (decide (IntKind.wrap IntKind.i64 kind < 7)) = false)))) ++ [tC (leC 6 (by (simp only [sl2] at *; omega) : (decide (IntKind.wrap IntKind.i64 kind < 7)) = false)), tF, tF, tF, tF, tF, tF]) (by kernel_rfl)).to (by simp [wk])
theorem istops_ok (kind op w dst src base disp imm cc reg phys num to : Int) (k0 : -128 ≤ kind) (k1 : kind ≤ 127) : Ret Tryz.prog 31 ([irD kind op w dst src base disp imm cc reg phys num to]) (.bool (stopsI kind op)) := by
 rcases bft (decide (IntKind.wrap IntKind.i64 kind < 3)) with h0 | h0
 ·let E1 : EL := ([.inl] ++ List.replicate 3 (tC (eT (leL 3 h0))) ++ [tC (leL 3 h0), tT, tT, tT, tT])
  by_cases h1 : kind = 0
  ·subst h1
   by_cases h2 : op = 26
   ·subst h2
    exact (o31 (d := .bool true) (E1 ++ [tT, tT, tT, tT, tT, tF, tF, tF, tF, tT, tT, tT, tT, tF]) (by kernel_rfl)).to (by clear E1; first | exact stops_op (by assumption) | (apply wk_bool; unfold stopsI; first | rfl | (simp; done) | skip; simp only [w_i64, beq_iff_eq, beq_eq_false_iff_ne, ne_eq, decide_eq_true_eq, decide_eq_false_iff_not] at *; first | (symm; rw [decide_eq_true_eq]; omega) | (symm; rw [decide_eq_false_iff_not]; omega) | (rw [Bool.eq_iff_iff]; simp only [beq_iff_eq, decide_eq_true_eq]; omega)))
   exact (o31 (d := .bool (op == 27)) (E1 ++ [tT, tT, tT, tT, tT] ++ List.replicate 4 (tC (eF (neOf h2))) ++ [tT, tC (neOf h2), tT, tT, tF]) (by kernel_rfl)).to (by clear E1; first | exact stops_op (by assumption) | (apply wk_bool; unfold stopsI; first | rfl | (simp; done) | skip; simp only [w_i64, beq_iff_eq, beq_eq_false_iff_ne, ne_eq, decide_eq_true_eq, decide_eq_false_iff_not] at *; first | (symm; rw [decide_eq_true_eq]; omega) | (symm; rw [decide_eq_false_iff_not]; omega) | (rw [Bool.eq_iff_iff]; simp only [beq_iff_eq, decide_eq_true_eq]; omega)))
  exact (o31 (d := .bool false) (E1 ++ List.replicate 6 (tC (eT (neOf h1))) ++ [tT, tC (neOf h1), tF]) (by kernel_rfl)).to (by clear E1; first | exact stops_op (by assumption) | (apply wk_bool; unfold stopsI; first | rfl | (simp; done) | skip; simp only [w_i64, beq_iff_eq, beq_eq_false_iff_ne, ne_eq, decide_eq_true_eq, decide_eq_false_iff_not] at *; first | (symm; rw [decide_eq_true_eq]; omega) | (symm; rw [decide_eq_false_iff_not]; omega) | (rw [Bool.eq_iff_iff]; simp only [beq_iff_eq, decide_eq_true_eq]; omega)))
 rcases bft (decide (IntKind.wrap IntKind.i64 kind < 7)) with h3 | h3
 ·exact (o31 (d := .bool true) ([.inl] ++ List.replicate 3 (tC (eT (leL 3 h0))) ++ [tC (leL 3 h0)] ++ List.replicate 5 (tC (eF (leC 6 h3))) ++ [tC (leC 6 h3)]) (by kernel_rfl)).to (by first | exact stops_op (by assumption) | (apply wk_bool; unfold stopsI; first | rfl | (simp; done) | skip; simp only [w_i64, beq_iff_eq, beq_eq_false_iff_ne, ne_eq, decide_eq_true_eq, decide_eq_false_iff_not] at *; first | (symm; rw [decide_eq_true_eq]; omega) | (symm; rw [decide_eq_false_iff_not]; omega) | (rw [Bool.eq_iff_iff]; simp only [beq_iff_eq, decide_eq_true_eq]; omega)))
 exact (o31 (d := .bool false) ([.inl] ++ List.replicate 3 (tC (eT (leL 3 h0))) ++ [tC (leL 3 h0)] ++ List.replicate 4 (tC (eF (leC 6 h3))) ++ List.replicate 6 (tC (eT (by (simp only [sl2] at *; omega) : (kind == 0) = false))) ++ [tC (eF (leC 6 h3)), tC (by (simp only [sl2] at *; omega) : (kind == 0) = false), tC (leC 6 h3)]) (by kernel_rfl)).to (by first | exact stops_op (by assumption) | (apply wk_bool; unfold stopsI; first | rfl | (simp; done) | skip; simp only [w_i64, beq_iff_eq, beq_eq_false_iff_ne, ne_eq, decide_eq_true_eq, decide_eq_false_iff_not] at *; first | (symm; rw [decide_eq_true_eq]; omega) | (symm; rw [decide_eq_false_iff_not]; omega) | (rw [Bool.eq_iff_iff]; simp only [beq_iff_eq, decide_eq_true_eq]; omega)))
end Go.Proofs.YtojgmjfcfpclbaaGreat

namespace Go.Proofs.YtojgmjfcfpclbaaGreat
open Go Go.Ev
theorem imay_c_ok (kind op w dst src base disp imm cc reg phys num to : Int) (a0 : -128 ≤ kind) (a1 : kind ≤ 127) (ho : op ≤ 127) (hc : cc ≤ 127) (hp : phys ≤ 127) (g0 : -128 ≤ reg) (g1 : reg ≤ 127) :
  Ret Tryz.prog 29 [irD kind op w dst src base disp imm cc reg phys num to] (.bool (mayI kind op w dst src base disp imm cc reg phys num to)) := by
 by_cases h : 0 ≤ kind ∧ kind ≤ 6
 ·have hk : kind = 0 ∨ kind = 1 ∨ kind = 2 ∨ kind = 3 ∨ kind = 4 ∨ kind = 5 ∨ kind = 6 := by omega
  rcases hk with rfl | rfl | rfl | rfl | rfl | rfl | rfl
  ·exact imay_0_ok _ _ _ _ _ _ _ _ _ _ _ _ ho hc hp g0 g1
  ·exact imay_1_ok _ _ _ _ _ _ _ _ _ _ _ _ ho hc hp g0 g1
  ·exact imay_2_ok _ _ _ _ _ _ _ _ _ _ _ _ ho hc hp g0 g1
  ·exact imay_3_ok _ _ _ _ _ _ _ _ _ _ _ _ ho hc hp g0 g1
  ·exact imay_4_ok _ _ _ _ _ _ _ _ _ _ _ _ ho hc hp g0 g1
  ·exact imay_5_ok _ _ _ _ _ _ _ _ _ _ _ _ ho hc hp g0 g1
  ·exact imay_6_ok _ _ _ _ _ _ _ _ _ _ _ _ ho hc hp g0 g1
 ·have e : mayI kind op w dst src base disp imm cc reg phys num to = false := by
   unfold mayI
   rw [if_neg (by omega), if_neg (by omega), if_neg (by omega), if_neg (by omega), if_neg (by omega), if_neg (by omega)]
  rw [e]
  by_cases h2 : kind < 0
  ·exact imay_lo_ok _ _ _ _ _ _ _ _ _ _ _ _ _ h2 a0
  ·exact imay_hi_ok _ _ _ _ _ _ _ _ _ _ _ _ _ (by omega) a1
end Go.Proofs.YtojgmjfcfpclbaaGreat

namespace Go.Proofs.YtojgmjfcfpclbaaGreat
open Go Go.Ev
set_option maxRecDepth 100000
set_option maxHeartbeats 8000000
theorem idx_done (l : List D) (k : Nat) (hb : l.length ≤ 9223372036854775807) (hk : l.length ≤ k) : RoundRun Tryz.prog (loopB Tryz.f72 0) ⟨[], [], []⟩ 0 [.lst .no 13 l, D.fn (Fn.func (73 : FuncId)) [] [], uu, uu, uu, uu, uu, .int .i64 (↑(List.length l) : Int), .int .i64 (↑k : Int), uu, uu, uu, uu, uu, uu, uu, uu, uu, uu] [] (Ex.exit (0 : Nat)) [uu, uu, uu, uu, uu, uu, uu, uu, uu, uu, uu, uu, uu, uu, uu, uu, uu, uu, uu] ([]) := by
 exact (RoundRun.of_eval (sp := ⟨[], [], []⟩) (n0 := 0) (ex := Ex.exit (0 : Nat)) (t' := [uu, uu, uu, uu, uu, uu, uu, uu, uu, uu, uu, uu, uu, uu, uu, uu, uu, uu, uu]) (s' := []) mixed [tC (by (simp only [sl2] at *; omega) : (decide ((↑k : Int) < (↑(List.length l) : Int))) = false)] (by kernel_rfl)).cast (by rfl) (by rfl)
theorem idx_ok (l : List D) (k : Nat) (hb : l.length ≤ 9223372036854775807) (hk : k < l.length) (kind op w dst src base disp imm cc reg phys num to : Int) (a0 : -128 ≤ kind) (a1 : kind ≤ 127) (ho : op ≤ 127) (hc : cc ≤ 127) (hp : phys ≤ 127) (g0 : -128 ≤ reg) (g1 : reg ≤ 127) (hx : l[k]? = some (irD kind op w dst src base disp imm cc reg phys num to)) (he : mayI kind op w dst src base disp imm cc reg phys num to = true) : RoundRun Tryz.prog (loopB Tryz.f72 0) ⟨[0, 1, 7, 8], [], []⟩ 0 [.lst .no 13 l, D.fn (Fn.func (73 : FuncId)) [] [], uu, uu, uu, uu, uu, .int .i64 (↑(List.length l) : Int), .int .i64 (↑k : Int), uu, uu, uu, uu, uu, uu, uu, uu, uu, uu] [] (Ex.norm) [.lst .no 13 l, D.fn (Fn.func (73 : FuncId)) [] [], uu, uu, uu, uu, uu, .int .i64 (↑(List.length l) : Int), .int .i64 (↑(k + (1 : Nat)) : Int), uu, uu, uu, uu, uu, uu, uu, uu, uu, uu] ([]) := by
 have c0 := @imay_c_ok kind op w dst src base disp imm cc reg phys num to a0 a1 ho hc hp g0 g1
 exact (RoundRun.of_eval (sp := ⟨[0, 1, 7, 8], [], []⟩) (n0 := 0) (ex := Ex.norm) (t' := [.lst .no 13 l, D.fn (Fn.func (73 : FuncId)) [] [], uu, uu, uu, uu, uu, .int .i64 (↑(List.length l) : Int), .int .i64 (IntKind.wrap IntKind.i64 ((↑k : Int) + 1)), uu, uu, uu, uu, uu, uu, uu, uu, uu, uu]) (s' := []) mixed [tC (by (simp only [sl2] at *; omega) : (decide ((↑k : Int) < (↑(List.length l) : Int))) = true), tT, .get _ _ _ hx, .inl, .ret _ _ _ c0, tC (nt he)] (by kernel_rfl)).cast (by first | rfl | (congr; rw [w_i64]; omega)) (by first | rfl | (congr; rw [w_i64]; omega))
theorem idx_bad (l : List D) (k : Nat) (hb : l.length ≤ 9223372036854775807) (hk : k < l.length) (kind op w dst src base disp imm cc reg phys num to : Int) (a0 : -128 ≤ kind) (a1 : kind ≤ 127) (ho : op ≤ 127) (hc : cc ≤ 127) (hp : phys ≤ 127) (g0 : -128 ≤ reg) (g1 : reg ≤ 127) (hx : l[k]? = some (irD kind op w dst src base disp imm cc reg phys num to)) (he : mayI kind op w dst src base disp imm cc reg phys num to = false) : RoundRun Tryz.prog (loopB Tryz.f72 0) ⟨[4], [], []⟩ 0 [.lst .no 13 l, D.fn (Fn.func (73 : FuncId)) [] [], uu, uu, uu, uu, uu, .int .i64 (↑(List.length l) : Int), .int .i64 (↑k : Int), uu, uu, uu, uu, uu, uu, uu, uu, uu, uu] [] (Ex.ret) [uu, uu, uu, uu, .int .i64 (↑k : Int), uu, uu, uu, uu, uu, uu, uu, uu, uu, uu, uu, uu, uu, uu] ([]) := by
 have c0 := @imay_c_ok kind op w dst src base disp imm cc reg phys num to a0 a1 ho hc hp g0 g1
 exact (RoundRun.of_eval (sp := ⟨[4], [], []⟩) (n0 := 0) (ex := Ex.ret) (t' := [uu, uu, uu, uu, .int .i64 (↑k : Int), uu, uu, uu, uu, uu, uu, uu, uu, uu, uu, uu, uu, uu, uu]) (s' := []) mixed [tC (by (simp only [sl2] at *; omega) : (decide ((↑k : Int) < (↑(List.length l) : Int))) = true), tT, .get _ _ _ hx, .inl, .ret _ _ _ c0, tC (nt he)] (by kernel_rfl)).cast (by rfl) (by rfl)
end Go.Proofs.YtojgmjfcfpclbaaGreat

namespace Go.Proofs.YtojgmjfcfpclbaaGreat
open Go Go.Ev
set_option maxRecDepth 100000
theorem idx_run_n (l : List IrS) (hb : (l.map IrS.d).length ≤ 9223372036854775807) (ho : AllOk l) (hm : badI l = none) :
  LoopRun Tryz.prog 0 (.loop (loopB Tryz.f72 0)) [.lst .no 13 (l.map IrS.d), .fn (Fn.func 73) [] [], uu, uu, uu, uu, uu, .int .i64 ((l.map IrS.d).length : Int), .int .i64 0, uu, uu, uu, uu, uu, uu, uu, uu, uu, uu] [] (.exit 0) [uu, uu, uu, uu, uu, uu, uu, uu, uu, uu, uu, uu, uu, uu, uu, uu, uu, uu, uu] [] := by
 have hall : ∀ s ∈ l, s.may = true := by
  unfold badI at hm
  rw [List.findIdx?_eq_none_iff] at hm
  intro s hs
  simpa using hm s hs
 have key : ∀ (n k : Nat), n + k = l.length → Rounds Tryz.prog (loopB Tryz.f72 0) 0 [.lst .no 13 (l.map IrS.d), .fn (Fn.func 73) [] [], uu, uu, uu, uu, uu, .int .i64 ((l.map IrS.d).length : Int), .int .i64 (k : Int), uu, uu, uu, uu, uu, uu, uu, uu, uu, uu] [] (.exit 0) [uu, uu, uu, uu, uu, uu, uu, uu, uu, uu, uu, uu, uu, uu, uu, uu, uu, uu, uu] [] := by
  intro n
  induction n with
  | zero =>
   intro k hk
   exact Rounds.last (idx_done (l.map IrS.d) k hb (by simp; omega)) (by simp)
  | succ n ih =>
   intro k hk
   have hx : l[k]? = some l[k] := by simp
   obtain ⟨a0, a1, ho', hc, hp, g0, g1⟩ := ho _ (List.getElem_mem (show k < l.length by omega))
   exact Rounds.more (idx_ok (l.map IrS.d) k hb (by simp; omega) _ _ _ _ _ _ _ _ _ _ _ _ _ a0 a1 ho' hc hp g0 g1 (get_map hx) (hall _ (List.getElem_mem (show k < l.length by omega)))) (ih (k + 1) (by omega))
 exact LoopRun.of_rounds (by decide) (key l.length 0 (by omega))
theorem idx_run_s (l : List IrS) (j : Nat) (hb : (l.map IrS.d).length ≤ 9223372036854775807) (ho : AllOk l) (hm : badI l = some j) :
  LoopRun Tryz.prog 0 (.loop (loopB Tryz.f72 0)) [.lst .no 13 (l.map IrS.d), .fn (Fn.func 73) [] [], uu, uu, uu, uu, uu, .int .i64 ((l.map IrS.d).length : Int), .int .i64 0, uu, uu, uu, uu, uu, uu, uu, uu, uu, uu] [] .ret [uu, uu, uu, uu, .int .i64 (j : Int), uu, uu, uu, uu, uu, uu, uu, uu, uu, uu, uu, uu, uu, uu] [] := by
 unfold badI at hm
 rw [List.findIdx?_eq_some_iff_getElem] at hm
 obtain ⟨hj, hbad, hbefore⟩ := hm
 have key : ∀ (n k : Nat), n + k = j → Rounds Tryz.prog (loopB Tryz.f72 0) 0 [.lst .no 13 (l.map IrS.d), .fn (Fn.func 73) [] [], uu, uu, uu, uu, uu, .int .i64 ((l.map IrS.d).length : Int), .int .i64 (k : Int), uu, uu, uu, uu, uu, uu, uu, uu, uu, uu] [] .ret [uu, uu, uu, uu, .int .i64 (j : Int), uu, uu, uu, uu, uu, uu, uu, uu, uu, uu, uu, uu, uu, uu] [] := by
  intro n
  induction n with
  | zero =>
   intro k hk
   obtain rfl : k = j := by omega
   have hx : l[k]? = some l[k] := by simp
   obtain ⟨a0, a1, ho', hc, hp, g0, g1⟩ := ho _ (List.getElem_mem hj)
   exact Rounds.last (idx_bad (l.map IrS.d) k hb (by simpa using hj) _ _ _ _ _ _ _ _ _ _ _ _ _ a0 a1 ho' hc hp g0 g1 (get_map hx) (show l[k].may = false by simpa using hbad)) (by simp)
  | succ n ih =>
   intro k hk
   have hlt : k < l.length := by omega
   have hx : l[k]? = some l[k] := by simp
   obtain ⟨a0, a1, ho', hc, hp, g0, g1⟩ := ho _ (List.getElem_mem hlt)
   exact Rounds.more (idx_ok (l.map IrS.d) k hb (by simpa using hlt) _ _ _ _ _ _ _ _ _ _ _ _ _ a0 a1 ho' hc hp g0 g1 (get_map hx) (show l[k].may = true by simpa using hbefore k (by omega))) (ih (k + 1) (by omega))
 exact LoopRun.of_rounds (by decide) (key j 0 (by omega))
end Go.Proofs.YtojgmjfcfpclbaaGreat

namespace Go.Proofs.YtojgmjfcfpclbaaGreat
open Go Go.Ev
set_option maxRecDepth 100000
set_option maxHeartbeats 8000000
theorem xlen_ok (op w dst src base disp imm cc : Int) (ho : op ≤ 127) : Ret Tryz.prog 47 ([xD op w dst src base disp imm cc]) (.int .i64 (lenX op w dst src base disp imm cc)) := by
 have c0 := @bytes_any_ok op w dst src base disp imm cc ho
 exact (o47 (d := .int .i64 (↑(List.length (bytesL op w dst src base disp imm cc)) : Int)) [.ret _ _ _ c0] (by kernel_rfl)).to (by simp [wk, lenX])
end Go.Proofs.YtojgmjfcfpclbaaGreat

namespace Go.Proofs.YtojgmjfcfpclbaaGreat
open Go Go.Ev
set_option maxRecDepth 100000
set_option maxHeartbeats 8000000
theorem exec_2_ok (m : MachS) (w dst src base disp imm cc ld : Int) (d0 : 0 ≤ dst) (d1 : dst ≤ 15) (s0 : 0 ≤ src) (s1 : src ≤ 15) (b0 : 0 ≤ base) (b1 : base ≤ 15) (hm : mayX 2 w dst src base disp imm cc = true) (hw : longM w = true)  : Ret Tryz.prog 8 ([m.d, xD 2 w dst src base disp imm cc, .int .u64 ld]) (.tup [(doS (m.at (u64 (m.pc + u64 (lenX 2 w dst src base disp imm cc)))) ⟨2, w, dst, src, base, disp, imm, cc⟩ ld).1.d, .int .i64 0]) := by
 have c0 := @mayX_ok 2 w dst src base disp imm cc (by decide)
 rw [show (mayX 2 w dst src base disp imm cc) = true from hm] at c0
 have c1 := @xlen_ok 2 w dst src base disp imm cc (by decide)
 have c2 := @bdo_0_ok w (rg (MachS.rl m) dst) (rg (MachS.rl m) src) hw
 have c3 := @fadd_ok w (rg (MachS.rl m) dst) (rg (MachS.rl m) src) hw
 have c4 := @writes_any_ok 2 w dst src base disp imm cc (by decide)
 exact (o8 (d := .tup [(doS (m.at (u64 (m.pc + u64 (lenX 2 w dst src base disp imm cc)))) ⟨2, w, dst, src, base, disp, imm, cc⟩ ld).1.d, .int .i64 0]) ([.ret _ _ _ c0, tF, .ret _ _ _ c1, tT, .get ([D.fn (Fn.func 48) [D.ptr false 4 0] [], D.fn (Fn.func 49) [D.ptr false 4 0] [], D.nilf, D.nilf, D.nilf, D.nilf, D.nilf, D.nilf, D.nilf, D.nilf, D.nilf, D.nilf, D.nilf, D.nilf, D.nilf, D.nilf, D.nilf, D.nilf, D.nilf, D.nilf, D.nilf, D.nilf, D.nilf, D.nilf, D.fn (Fn.func 50) [D.ptr false 4 0] [], D.fn (Fn.func 51) [D.ptr false 4 0] [], D.fn (Fn.func 52) [D.ptr false 4 0] [], D.fn (Fn.func 53) [D.ptr false 4 0] [], D.fn (Fn.func 54) [D.ptr false 4 0] [], D.fn (Fn.func 55) [D.ptr false 4 0] [], D.fn (Fn.func 56) [D.ptr false 4 0] [], D.fn (Fn.func 57) [D.ptr false 4 0] []]) 2 (D.nilf) rfl, tT, .inl, .inl, .keep [(4, Ob.box (MachS.cw m (pcX m 2 w dst src base disp imm cc) (xT 2 w dst src base disp imm cc ld)))], .mget ([(2, .int .i8 0), (9, .int .i8 0), (3, .int .i8 4), (10, .int .i8 4), (4, .int .i8 5), (11, .int .i8 5), (8, .int .i8 5), (15, .int .i8 5), (5, .int .i8 1), (12, .int .i8 1), (7, .int .i8 1), (14, .int .i8 1), (6, .int .i8 10), (13, .int .i8 10), (16, .int .i8 2), (17, .int .i8 6), (20, .int .i8 6), (18, .int .i8 7), (21, .int .i8 7), (19, .int .i8 12), (22, .int .i8 12), (23, .int .i8 8)]) 2 (some (.int .i8 0)) rfl, .tst _ true (in16 d0 d1), .get _ _ _ (@get_regm m dst ((fT m (pcX m 2 w dst src base disp imm cc) (xT 2 w dst src base disp imm cc ld))) d0 d1), .inl] ++ List.replicate 24 tF ++ [.tst _ true (in16 s0 s1), .get _ _ _ (@get_regm m src ((fT m (pcX m 2 w dst src base disp imm cc) (xT 2 w dst src base disp imm cc ld))) s0 s1), .keep [(4, Ob.box (MachS.cw m (pcX m 2 w dst src base disp imm cc) (xT 2 w dst src base disp imm cc ld)))], .ret _ _ _ c2, tF, tT, .ret _ _ _ c3, .ret _ _ _ c4, tC (nt (@wr_nz 2 w dst src base disp imm cc hm d0 d1 (rfl : true = true))), .tst _ true (in16 d0 d1), .putA _ _ _ _ (@put_regm m dst (doM 0 w (rg (MachS.rl m) dst) (rg (MachS.rl m) src)) ([.bool true, .bool (addC w (rg (MachS.rl m) dst) (rg (MachS.rl m) src)), .bool (cutM (u64 (rg (MachS.rl m) dst + rg (MachS.rl m) src)) w == 0), .bool (negM (u64 (rg (MachS.rl m) dst + rg (MachS.rl m) src)) w), .bool (addO w (rg (MachS.rl m) dst) (rg (MachS.rl m) src)), .int .u64 (pcX m 2 w dst src base disp imm cc), .int .i8 2, .int .i8 w, .int .i8 dst, .int .i8 src, .int .i8 base, .int .i64 disp, .int .i64 imm, .int .i8 cc, .int .u64 ld]) d0 d1), tF]) (by kernel_rfl))
end Go.Proofs.YtojgmjfcfpclbaaGreat

namespace Go.Proofs.YtojgmjfcfpclbaaGreat
open Go Go.Ev
set_option maxRecDepth 100000
set_option maxHeartbeats 8000000
def tbYb0 : List D := [D.fn (Fn.func 48) [D.ptr false 4 0] [], D.fn (Fn.func 49) [D.ptr false 4 0] [], D.nilf, D.nilf, D.nilf, D.nilf, D.nilf, D.nilf, D.nilf, D.nilf, D.nilf, D.nilf, D.nilf, D.nilf, D.nilf, D.nilf, D.nilf, D.nilf, D.nilf, D.nilf, D.nilf, D.nilf, D.nilf, D.nilf, D.fn (Fn.func 50) [D.ptr false 4 0] [], D.fn (Fn.func 51) [D.ptr false 4 0] [], D.fn (Fn.func 52) [D.ptr false 4 0] [], D.fn (Fn.func 53) [D.ptr false 4 0] [], D.fn (Fn.func 54) [D.ptr false 4 0] [], D.fn (Fn.func 55) [D.ptr false 4 0] [], D.fn (Fn.func 56) [D.ptr false 4 0] [], D.fn (Fn.func 57) [D.ptr false 4 0] []]
def tbYb1 : List (Int × D) := [((2 : Int), .int .i8 0), ((9 : Int), .int .i8 0), ((3 : Int), .int .i8 4), ((10 : Int), .int .i8 4), ((4 : Int), .int .i8 5), ((11 : Int), .int .i8 5), ((8 : Int), .int .i8 5), ((15 : Int), .int .i8 5), ((5 : Int), .int .i8 1), ((12 : Int), .int .i8 1), ((7 : Int), .int .i8 1), ((14 : Int), .int .i8 1), ((6 : Int), .int .i8 10), ((13 : Int), .int .i8 10), ((16 : Int), .int .i8 2), ((17 : Int), .int .i8 6), ((20 : Int), .int .i8 6), ((18 : Int), .int .i8 7), ((21 : Int), .int .i8 7), ((19 : Int), .int .i8 12), ((22 : Int), .int .i8 12), ((23 : Int), .int .i8 8)]
def SpY1b0 (k0_ : Int) : Prop := ∀ (m : MachS) (w dst src base disp imm cc ld : Int) (d0 : 0 ≤ dst) (d1 : dst ≤ 15) (s0 : 0 ≤ src) (s1 : src ≤ 15) (b0 : 0 ≤ base) (b1 : base ≤ 15) (hm : mayX k0_ w dst src base disp imm cc = true) (hw : longM w = true), Ret Tryz.prog 8 ([m.d, xD k0_ w dst src base disp imm cc, .int .u64 ld]) (.tup [(doS (m.at (u64 (m.pc + u64 (lenX k0_ w dst src base disp imm cc)))) ⟨k0_, w, dst, src, base, disp, imm, cc⟩ ld).1.d, .int .i64 0])
theorem exec_3_ok : SpY1b0 3 := by
 intro m w dst src base disp imm cc ld d0 d1 s0 s1 b0 b1 hm hw
 have c0 := @mayX_ok 3 w dst src base disp imm cc (by decide)
 rw [hm] at c0
 have c1 := @xlen_ok 3 w dst src base disp imm cc (by decide)
 have c2 := @bdo_4_ok w (rg (MachS.rl m) dst) (rg (MachS.rl m) src) hw
 have c3 := @fof_ok w (doM 4 w (rg (MachS.rl m) dst) (rg (MachS.rl m) src)) hw
 have c4 := @writes_any_ok 3 w dst src base disp imm cc (by decide)
 exact (o8 (d := .tup [(doS (m.at (u64 (m.pc + u64 (lenX 3 w dst src base disp imm cc)))) ⟨3, w, dst, src, base, disp, imm, cc⟩ ld).1.d, .int .i64 0]) ([.ret _ _ _ c0, tF, .ret _ _ _ c1, tT, .get tbYb0 3 (.nilf) rfl, tT, .inl, .inl, .keep [(4, Ob.box (MachS.cw m (pcX m 3 w dst src base disp imm cc) (xT 3 w dst src base disp imm cc ld)))], .mget tbYb1 3 (some (.int .i8 4)) rfl, .tst _ true (in16 d0 d1), .get _ _ _ (@get_regm m dst ((fT m (pcX m 3 w dst src base disp imm cc) (xT 3 w dst src base disp imm cc ld))) d0 d1), .inl] ++ List.replicate 24 tF ++ [.tst _ true (in16 s0 s1), .get _ _ _ (@get_regm m src ((fT m (pcX m 3 w dst src base disp imm cc) (xT 3 w dst src base disp imm cc ld))) s0 s1), .keep [(4, Ob.box (MachS.cw m (pcX m 3 w dst src base disp imm cc) (xT 3 w dst src base disp imm cc ld)))], .ret _ _ _ c2, tF, tF, tF, tF, tT, tT, .ret _ _ _ c3, .ret _ _ _ c4, tC (nt (@wr_nz 3 w dst src base disp imm cc hm d0 d1 (rfl : true = true))), .tst _ true (in16 d0 d1), .putA _ _ _ _ (@put_regm m dst (doM 4 w (rg (MachS.rl m) dst) (rg (MachS.rl m) src)) ([.bool true, .bool false, .bool (cutM (doM 4 w (rg (MachS.rl m) dst) (rg (MachS.rl m) src)) w == 0), .bool (negM (doM 4 w (rg (MachS.rl m) dst) (rg (MachS.rl m) src)) w), .bool false, .int .u64 (pcX m 3 w dst src base disp imm cc), .int .i8 3, .int .i8 w, .int .i8 dst, .int .i8 src, .int .i8 base, .int .i64 disp, .int .i64 imm, .int .i8 cc, .int .u64 ld]) d0 d1), tF]) (by kernel_rfl))
theorem exec_4_ok : SpY1b0 4 := by
 intro m w dst src base disp imm cc ld d0 d1 s0 s1 b0 b1 hm hw
 have c0 := @mayX_ok 4 w dst src base disp imm cc (by decide)
 rw [hm] at c0
 have c1 := @xlen_ok 4 w dst src base disp imm cc (by decide)
 have c2 := @bdo_5_ok w (rg (MachS.rl m) dst) (rg (MachS.rl m) src) hw
 have c3 := @fof_ok w (doM 5 w (rg (MachS.rl m) dst) (rg (MachS.rl m) src)) hw
 have c4 := @writes_any_ok 4 w dst src base disp imm cc (by decide)
 exact (o8 (d := .tup [(doS (m.at (u64 (m.pc + u64 (lenX 4 w dst src base disp imm cc)))) ⟨4, w, dst, src, base, disp, imm, cc⟩ ld).1.d, .int .i64 0]) ([.ret _ _ _ c0, tF, .ret _ _ _ c1, tT, .get tbYb0 4 (.nilf) rfl, tT, .inl, .inl, .keep [(4, Ob.box (MachS.cw m (pcX m 4 w dst src base disp imm cc) (xT 4 w dst src base disp imm cc ld)))], .mget tbYb1 4 (some (.int .i8 5)) rfl, .tst _ true (in16 d0 d1), .get _ _ _ (@get_regm m dst ((fT m (pcX m 4 w dst src base disp imm cc) (xT 4 w dst src base disp imm cc ld))) d0 d1), .inl] ++ List.replicate 24 tF ++ [.tst _ true (in16 s0 s1), .get _ _ _ (@get_regm m src ((fT m (pcX m 4 w dst src base disp imm cc) (xT 4 w dst src base disp imm cc ld))) s0 s1), .keep [(4, Ob.box (MachS.cw m (pcX m 4 w dst src base disp imm cc) (xT 4 w dst src base disp imm cc ld)))], .ret _ _ _ c2, tF, tF, tF, tF, tF, tT, tT, .ret _ _ _ c3, .ret _ _ _ c4, tC (nt (@wr_nz 4 w dst src base disp imm cc hm d0 d1 (rfl : true = true))), .tst _ true (in16 d0 d1), .putA _ _ _ _ (@put_regm m dst (doM 5 w (rg (MachS.rl m) dst) (rg (MachS.rl m) src)) ([.bool true, .bool false, .bool (cutM (doM 5 w (rg (MachS.rl m) dst) (rg (MachS.rl m) src)) w == 0), .bool (negM (doM 5 w (rg (MachS.rl m) dst) (rg (MachS.rl m) src)) w), .bool false, .int .u64 (pcX m 4 w dst src base disp imm cc), .int .i8 4, .int .i8 w, .int .i8 dst, .int .i8 src, .int .i8 base, .int .i64 disp, .int .i64 imm, .int .i8 cc, .int .u64 ld]) d0 d1), tF]) (by kernel_rfl))
theorem exec_5_ok : SpY1b0 5 := by
 intro m w dst src base disp imm cc ld d0 d1 s0 s1 b0 b1 hm hw
 have c0 := @mayX_ok 5 w dst src base disp imm cc (by decide)
 rw [hm] at c0
 have c1 := @xlen_ok 5 w dst src base disp imm cc (by decide)
 have c2 := @bdo_1_ok w (rg (MachS.rl m) dst) (rg (MachS.rl m) src) hw
 have c3 := @fsub_ok w (rg (MachS.rl m) dst) (rg (MachS.rl m) src) hw
 have c4 := @writes_any_ok 5 w dst src base disp imm cc (by decide)
 exact (o8 (d := .tup [(doS (m.at (u64 (m.pc + u64 (lenX 5 w dst src base disp imm cc)))) ⟨5, w, dst, src, base, disp, imm, cc⟩ ld).1.d, .int .i64 0]) ([.ret _ _ _ c0, tF, .ret _ _ _ c1, tT, .get tbYb0 5 (.nilf) rfl, tT, .inl, .inl, .keep [(4, Ob.box (MachS.cw m (pcX m 5 w dst src base disp imm cc) (xT 5 w dst src base disp imm cc ld)))], .mget tbYb1 5 (some (.int .i8 1)) rfl, .tst _ true (in16 d0 d1), .get _ _ _ (@get_regm m dst ((fT m (pcX m 5 w dst src base disp imm cc) (xT 5 w dst src base disp imm cc ld))) d0 d1), .inl] ++ List.replicate 24 tF ++ [.tst _ true (in16 s0 s1), .get _ _ _ (@get_regm m src ((fT m (pcX m 5 w dst src base disp imm cc) (xT 5 w dst src base disp imm cc ld))) s0 s1), .keep [(4, Ob.box (MachS.cw m (pcX m 5 w dst src base disp imm cc) (xT 5 w dst src base disp imm cc ld)))], .ret _ _ _ c2, tF, tF, tT, .ret _ _ _ c3, .ret _ _ _ c4, tC (nt (@wr_nz 5 w dst src base disp imm cc hm d0 d1 (rfl : true = true))), .tst _ true (in16 d0 d1), .putA _ _ _ _ (@put_regm m dst (doM 1 w (rg (MachS.rl m) dst) (rg (MachS.rl m) src)) ([.bool true, .bool (subC w (rg (MachS.rl m) dst) (rg (MachS.rl m) src)), .bool (cutM (u64 (rg (MachS.rl m) dst - rg (MachS.rl m) src)) w == 0), .bool (negM (u64 (rg (MachS.rl m) dst - rg (MachS.rl m) src)) w), .bool (subO w (rg (MachS.rl m) dst) (rg (MachS.rl m) src)), .int .u64 (pcX m 5 w dst src base disp imm cc), .int .i8 5, .int .i8 w, .int .i8 dst, .int .i8 src, .int .i8 base, .int .i64 disp, .int .i64 imm, .int .i8 cc, .int .u64 ld]) d0 d1), tF]) (by kernel_rfl))
theorem exec_6_ok : SpY1b0 6 := by
 intro m w dst src base disp imm cc ld d0 d1 s0 s1 b0 b1 hm hw
 have c0 := @mayX_ok 6 w dst src base disp imm cc (by decide)
 rw [hm] at c0
 have c1 := @xlen_ok 6 w dst src base disp imm cc (by decide)
 have c2 := @bdo_10_ok w (rg (MachS.rl m) dst) (rg (MachS.rl m) src) hw
 have c3 := @fof_ok w (doM 10 w (rg (MachS.rl m) dst) (rg (MachS.rl m) src)) hw
 have c4 := @writes_any_ok 6 w dst src base disp imm cc (by decide)
 exact (o8 (d := .tup [(doS (m.at (u64 (m.pc + u64 (lenX 6 w dst src base disp imm cc)))) ⟨6, w, dst, src, base, disp, imm, cc⟩ ld).1.d, .int .i64 0]) ([.ret _ _ _ c0, tF, .ret _ _ _ c1, tT, .get tbYb0 6 (.nilf) rfl, tT, .inl, .inl, .keep [(4, Ob.box (MachS.cw m (pcX m 6 w dst src base disp imm cc) (xT 6 w dst src base disp imm cc ld)))], .mget tbYb1 6 (some (.int .i8 10)) rfl, .tst _ true (in16 d0 d1), .get _ _ _ (@get_regm m dst ((fT m (pcX m 6 w dst src base disp imm cc) (xT 6 w dst src base disp imm cc ld))) d0 d1), .inl] ++ List.replicate 24 tF ++ [.tst _ true (in16 s0 s1), .get _ _ _ (@get_regm m src ((fT m (pcX m 6 w dst src base disp imm cc) (xT 6 w dst src base disp imm cc ld))) s0 s1), .keep [(4, Ob.box (MachS.cw m (pcX m 6 w dst src base disp imm cc) (xT 6 w dst src base disp imm cc ld)))], .ret _ _ _ c2, tF, tF, tF, tF, tF, tF, tT, .ret _ _ _ c3, .ret _ _ _ c4, tC (nt (@wr_nz 6 w dst src base disp imm cc hm d0 d1 (rfl : true = true))), .tst _ true (in16 d0 d1), .putA _ _ _ _ (@put_regm m dst (doM 10 w (rg (MachS.rl m) dst) (rg (MachS.rl m) src)) ([.bool true, .bool false, .bool (cutM (doM 10 w (rg (MachS.rl m) dst) (rg (MachS.rl m) src)) w == 0), .bool (negM (doM 10 w (rg (MachS.rl m) dst) (rg (MachS.rl m) src)) w), .bool false, .int .u64 (pcX m 6 w dst src base disp imm cc), .int .i8 6, .int .i8 w, .int .i8 dst, .int .i8 src, .int .i8 base, .int .i64 disp, .int .i64 imm, .int .i8 cc, .int .u64 ld]) d0 d1), tF]) (by kernel_rfl))
theorem exec_7_ok : SpY1b0 7 := by
 intro m w dst src base disp imm cc ld d0 d1 s0 s1 b0 b1 hm hw
 have c0 := @mayX_ok 7 w dst src base disp imm cc (by decide)
 rw [hm] at c0
 have c1 := @xlen_ok 7 w dst src base disp imm cc (by decide)
 have c2 := @bdo_1_ok w (rg (MachS.rl m) dst) (rg (MachS.rl m) src) hw
 have c3 := @fsub_ok w (rg (MachS.rl m) dst) (rg (MachS.rl m) src) hw
 have c4 := @writes_any_ok 7 w dst src base disp imm cc (by decide)
 exact (o8 (d := .tup [(doS (m.at (u64 (m.pc + u64 (lenX 7 w dst src base disp imm cc)))) ⟨7, w, dst, src, base, disp, imm, cc⟩ ld).1.d, .int .i64 0]) ([.ret _ _ _ c0, tF, .ret _ _ _ c1, tT, .get tbYb0 7 (.nilf) rfl, tT, .inl, .inl, .keep [(4, Ob.box (MachS.cw m (pcX m 7 w dst src base disp imm cc) (xT 7 w dst src base disp imm cc ld)))], .mget tbYb1 7 (some (.int .i8 1)) rfl, .tst _ true (in16 d0 d1), .get _ _ _ (@get_regm m dst ((fT m (pcX m 7 w dst src base disp imm cc) (xT 7 w dst src base disp imm cc ld))) d0 d1), .inl] ++ List.replicate 24 tF ++ [.tst _ true (in16 s0 s1), .get _ _ _ (@get_regm m src ((fT m (pcX m 7 w dst src base disp imm cc) (xT 7 w dst src base disp imm cc ld))) s0 s1), .keep [(4, Ob.box (MachS.cw m (pcX m 7 w dst src base disp imm cc) (xT 7 w dst src base disp imm cc ld)))], .ret _ _ _ c2, tF, tF, tT, .ret _ _ _ c3, .ret _ _ _ c4, tC (nt (eqI 0 true (eq_of_beq (@wr_z 7 w dst src base disp imm cc (rfl : false = false))))), tF]) (by kernel_rfl))
theorem exec_8_ok : SpY1b0 8 := by
 intro m w dst src base disp imm cc ld d0 d1 s0 s1 b0 b1 hm hw
 have c0 := @mayX_ok 8 w dst src base disp imm cc (by decide)
 rw [hm] at c0
 have c1 := @xlen_ok 8 w dst src base disp imm cc (by decide)
 have c2 := @bdo_5_ok w (rg (MachS.rl m) dst) (rg (MachS.rl m) src) hw
 have c3 := @fof_ok w (doM 5 w (rg (MachS.rl m) dst) (rg (MachS.rl m) src)) hw
 have c4 := @writes_any_ok 8 w dst src base disp imm cc (by decide)
 exact (o8 (d := .tup [(doS (m.at (u64 (m.pc + u64 (lenX 8 w dst src base disp imm cc)))) ⟨8, w, dst, src, base, disp, imm, cc⟩ ld).1.d, .int .i64 0]) ([.ret _ _ _ c0, tF, .ret _ _ _ c1, tT, .get tbYb0 8 (.nilf) rfl, tT, .inl, .inl, .keep [(4, Ob.box (MachS.cw m (pcX m 8 w dst src base disp imm cc) (xT 8 w dst src base disp imm cc ld)))], .mget tbYb1 8 (some (.int .i8 5)) rfl, .tst _ true (in16 d0 d1), .get _ _ _ (@get_regm m dst ((fT m (pcX m 8 w dst src base disp imm cc) (xT 8 w dst src base disp imm cc ld))) d0 d1), .inl] ++ List.replicate 24 tF ++ [.tst _ true (in16 s0 s1), .get _ _ _ (@get_regm m src ((fT m (pcX m 8 w dst src base disp imm cc) (xT 8 w dst src base disp imm cc ld))) s0 s1), .keep [(4, Ob.box (MachS.cw m (pcX m 8 w dst src base disp imm cc) (xT 8 w dst src base disp imm cc ld)))], .ret _ _ _ c2, tF, tF, tF, tF, tF, tT, tT, .ret _ _ _ c3, .ret _ _ _ c4, tC (nt (eqI 0 true (eq_of_beq (@wr_z 8 w dst src base disp imm cc (rfl : false = false))))), tF]) (by kernel_rfl))
theorem exec_12_ok : SpY1b0 12 := by
 intro m w dst src base disp imm cc ld d0 d1 s0 s1 b0 b1 hm hw
 have c0 := @mayX_ok 12 w dst src base disp imm cc (by decide)
 rw [hm] at c0
 have c1 := @xlen_ok 12 w dst src base disp imm cc (by decide)
 have c2 := @bdo_1_ok w (rg (MachS.rl m) dst) (IntKind.wrap IntKind.u64 imm) hw
 have c3 := @fsub_ok w (rg (MachS.rl m) dst) (IntKind.wrap IntKind.u64 imm) hw
 have c4 := @writes_any_ok 12 w dst src base disp imm cc (by decide)
 exact (o8 (d := .tup [(doS (m.at (u64 (m.pc + u64 (lenX 12 w dst src base disp imm cc)))) ⟨12, w, dst, src, base, disp, imm, cc⟩ ld).1.d, .int .i64 0]) ([.ret _ _ _ c0, tF, .ret _ _ _ c1, tT, .get tbYb0 12 (.nilf) rfl, tT, .inl, .inl, .keep [(4, Ob.box (MachS.cw m (pcX m 12 w dst src base disp imm cc) (xT 12 w dst src base disp imm cc ld)))], .mget tbYb1 12 (some (.int .i8 1)) rfl, .tst _ true (in16 d0 d1), .get _ _ _ (@get_regm m dst ((fT m (pcX m 12 w dst src base disp imm cc) (xT 12 w dst src base disp imm cc ld))) d0 d1), .inl] ++ List.replicate 8 tF ++ List.replicate 9 tT ++ [.keep [(4, Ob.box (MachS.cw m (pcX m 12 w dst src base disp imm cc) (xT 12 w dst src base disp imm cc ld)))], .ret _ _ _ c2, tF, tF, tT, .ret _ _ _ c3, .ret _ _ _ c4, tC (nt (@wr_nz 12 w dst src base disp imm cc hm d0 d1 (rfl : true = true))), .tst _ true (in16 d0 d1), .putA _ _ _ _ (@put_regm m dst (doM 1 w (rg (MachS.rl m) dst) (IntKind.wrap IntKind.u64 imm)) ([.bool true, .bool (subC w (rg (MachS.rl m) dst) (IntKind.wrap IntKind.u64 imm)), .bool (cutM (u64 (rg (MachS.rl m) dst - IntKind.wrap IntKind.u64 imm)) w == 0), .bool (negM (u64 (rg (MachS.rl m) dst - IntKind.wrap IntKind.u64 imm)) w), .bool (subO w (rg (MachS.rl m) dst) (IntKind.wrap IntKind.u64 imm)), .int .u64 (pcX m 12 w dst src base disp imm cc), .int .i8 12, .int .i8 w, .int .i8 dst, .int .i8 src, .int .i8 base, .int .i64 disp, .int .i64 imm, .int .i8 cc, .int .u64 ld]) d0 d1), tF]) (by kernel_rfl))
end Go.Proofs.YtojgmjfcfpclbaaGreat

namespace Go.Proofs.YtojgmjfcfpclbaaGreat
open Go Go.Ev
set_option maxRecDepth 100000
set_option maxHeartbeats 8000000
def tbYc0 : List D := [D.fn (Fn.func 48) [D.ptr false 4 0] [], D.fn (Fn.func 49) [D.ptr false 4 0] [], D.nilf, D.nilf, D.nilf, D.nilf, D.nilf, D.nilf, D.nilf, D.nilf, D.nilf, D.nilf, D.nilf, D.nilf, D.nilf, D.nilf, D.nilf, D.nilf, D.nilf, D.nilf, D.nilf, D.nilf, D.nilf, D.nilf, D.fn (Fn.func 50) [D.ptr false 4 0] [], D.fn (Fn.func 51) [D.ptr false 4 0] [], D.fn (Fn.func 52) [D.ptr false 4 0] [], D.fn (Fn.func 53) [D.ptr false 4 0] [], D.fn (Fn.func 54) [D.ptr false 4 0] [], D.fn (Fn.func 55) [D.ptr false 4 0] [], D.fn (Fn.func 56) [D.ptr false 4 0] [], D.fn (Fn.func 57) [D.ptr false 4 0] []]
def tbYc1 : List (Int × D) := [((2 : Int), .int .i8 0), ((9 : Int), .int .i8 0), ((3 : Int), .int .i8 4), ((10 : Int), .int .i8 4), ((4 : Int), .int .i8 5), ((11 : Int), .int .i8 5), ((8 : Int), .int .i8 5), ((15 : Int), .int .i8 5), ((5 : Int), .int .i8 1), ((12 : Int), .int .i8 1), ((7 : Int), .int .i8 1), ((14 : Int), .int .i8 1), ((6 : Int), .int .i8 10), ((13 : Int), .int .i8 10), ((16 : Int), .int .i8 2), ((17 : Int), .int .i8 6), ((20 : Int), .int .i8 6), ((18 : Int), .int .i8 7), ((21 : Int), .int .i8 7), ((19 : Int), .int .i8 12), ((22 : Int), .int .i8 12), ((23 : Int), .int .i8 8)]
def SpY1c0 (k0_ : Int) : Prop := ∀ (m : MachS) (w dst src base disp imm cc ld : Int) (d0 : 0 ≤ dst) (d1 : dst ≤ 15) (s0 : 0 ≤ src) (s1 : src ≤ 15) (b0 : 0 ≤ base) (b1 : base ≤ 15) (hm : mayX k0_ w dst src base disp imm cc = true) (hw : longM w = true), Ret Tryz.prog 8 ([m.d, xD k0_ w dst src base disp imm cc, .int .u64 ld]) (.tup [(doS (m.at (u64 (m.pc + u64 (lenX k0_ w dst src base disp imm cc)))) ⟨k0_, w, dst, src, base, disp, imm, cc⟩ ld).1.d, .int .i64 0])
theorem exec_17_ok : SpY1c0 17 := by
 intro m w dst src base disp imm cc ld d0 d1 s0 s1 b0 b1 hm hw
 have c0 := @mayX_ok 17 w dst src base disp imm cc (by decide)
 rw [hm] at c0
 have c1 := @xlen_ok 17 w dst src base disp imm cc (by decide)
 have c2 := @bdo_6_ok w (rg (MachS.rl m) dst) (IntKind.wrap IntKind.u64 imm) hw
 have c3 := @fnone_ok
 have c4 := @writes_any_ok 17 w dst src base disp imm cc (by decide)
 exact (o8 (d := .tup [(doS (m.at (u64 (m.pc + u64 (lenX 17 w dst src base disp imm cc)))) ⟨17, w, dst, src, base, disp, imm, cc⟩ ld).1.d, .int .i64 0]) ([.ret _ _ _ c0, tF, .ret _ _ _ c1, tT, .get tbYc0 17 (.nilf) rfl, tT, .inl, .inl, .keep [(4, Ob.box (MachS.cw m (pcX m 17 w dst src base disp imm cc) (xT 17 w dst src base disp imm cc ld)))], .mget tbYc1 17 (some (.int .i8 6)) rfl, .tst _ true (in16 d0 d1), .get _ _ _ (@get_regm m dst ((fT m (pcX m 17 w dst src base disp imm cc) (xT 17 w dst src base disp imm cc ld))) d0 d1), .inl] ++ List.replicate 8 tF ++ [tT, tT, tT, tT, tT, tT, tT, tF] ++ List.replicate 8 tT ++ [.keep [(4, Ob.box (MachS.cw m (pcX m 17 w dst src base disp imm cc) (xT 17 w dst src base disp imm cc ld)))], .ret _ _ _ c2, tF, tF, tF, tF, tF, tF, tF, .ret _ _ _ c3, .ret _ _ _ c4, tC (nt (@wr_nz 17 w dst src base disp imm cc hm d0 d1 (rfl : true = true))), .tst _ true (in16 d0 d1), .putA _ _ _ _ (@put_regm m dst (doM 6 w (rg (MachS.rl m) dst) (IntKind.wrap IntKind.u64 imm)) ([.bool false, .bool false, .bool false, .bool false, .bool false, .int .u64 (pcX m 17 w dst src base disp imm cc), .int .i8 17, .int .i8 w, .int .i8 dst, .int .i8 src, .int .i8 base, .int .i64 disp, .int .i64 imm, .int .i8 cc, .int .u64 ld]) d0 d1), tF]) (by kernel_rfl))
theorem exec_18_ok : SpY1c0 18 := by
 intro m w dst src base disp imm cc ld d0 d1 s0 s1 b0 b1 hm hw
 have c0 := @mayX_ok 18 w dst src base disp imm cc (by decide)
 rw [hm] at c0
 have c1 := @xlen_ok 18 w dst src base disp imm cc (by decide)
 have c2 := @bdo_7_ok w (rg (MachS.rl m) dst) (IntKind.wrap IntKind.u64 imm) hw
 have c3 := @fnone_ok
 have c4 := @writes_any_ok 18 w dst src base disp imm cc (by decide)
 exact (o8 (d := .tup [(doS (m.at (u64 (m.pc + u64 (lenX 18 w dst src base disp imm cc)))) ⟨18, w, dst, src, base, disp, imm, cc⟩ ld).1.d, .int .i64 0]) ([.ret _ _ _ c0, tF, .ret _ _ _ c1, tT, .get tbYc0 18 (.nilf) rfl, tT, .inl, .inl, .keep [(4, Ob.box (MachS.cw m (pcX m 18 w dst src base disp imm cc) (xT 18 w dst src base disp imm cc ld)))], .mget tbYc1 18 (some (.int .i8 7)) rfl, .tst _ true (in16 d0 d1), .get _ _ _ (@get_regm m dst ((fT m (pcX m 18 w dst src base disp imm cc) (xT 18 w dst src base disp imm cc ld))) d0 d1), .inl] ++ List.replicate 8 tF ++ [tT, tT, tT, tT, tT, tT, tT, tF] ++ List.replicate 8 tT ++ [.keep [(4, Ob.box (MachS.cw m (pcX m 18 w dst src base disp imm cc) (xT 18 w dst src base disp imm cc ld)))], .ret _ _ _ c2, tF, tF, tF, tF, tF, tF, tF, .ret _ _ _ c3, .ret _ _ _ c4, tC (nt (@wr_nz 18 w dst src base disp imm cc hm d0 d1 (rfl : true = true))), .tst _ true (in16 d0 d1), .putA _ _ _ _ (@put_regm m dst (doM 7 w (rg (MachS.rl m) dst) (IntKind.wrap IntKind.u64 imm)) ([.bool false, .bool false, .bool false, .bool false, .bool false, .int .u64 (pcX m 18 w dst src base disp imm cc), .int .i8 18, .int .i8 w, .int .i8 dst, .int .i8 src, .int .i8 base, .int .i64 disp, .int .i64 imm, .int .i8 cc, .int .u64 ld]) d0 d1), tF]) (by kernel_rfl))
theorem exec_19_ok : SpY1c0 19 := by
 intro m w dst src base disp imm cc ld d0 d1 s0 s1 b0 b1 hm hw
 have c0 := @mayX_ok 19 w dst src base disp imm cc (by decide)
 rw [hm] at c0
 have c1 := @xlen_ok 19 w dst src base disp imm cc (by decide)
 have c2 := @bdo_12_ok w (rg (MachS.rl m) dst) (IntKind.wrap IntKind.u64 imm) hw
 have c3 := @fnone_ok
 have c4 := @writes_any_ok 19 w dst src base disp imm cc (by decide)
 exact (o8 (d := .tup [(doS (m.at (u64 (m.pc + u64 (lenX 19 w dst src base disp imm cc)))) ⟨19, w, dst, src, base, disp, imm, cc⟩ ld).1.d, .int .i64 0]) ([.ret _ _ _ c0, tF, .ret _ _ _ c1, tT, .get tbYc0 19 (.nilf) rfl, tT, .inl, .inl, .keep [(4, Ob.box (MachS.cw m (pcX m 19 w dst src base disp imm cc) (xT 19 w dst src base disp imm cc ld)))], .mget tbYc1 19 (some (.int .i8 12)) rfl, .tst _ true (in16 d0 d1), .get _ _ _ (@get_regm m dst ((fT m (pcX m 19 w dst src base disp imm cc) (xT 19 w dst src base disp imm cc ld))) d0 d1), .inl] ++ List.replicate 8 tF ++ [tT, tT, tT, tT, tT, tT, tT, tF] ++ List.replicate 8 tT ++ [.keep [(4, Ob.box (MachS.cw m (pcX m 19 w dst src base disp imm cc) (xT 19 w dst src base disp imm cc ld)))], .ret _ _ _ c2, tF, tF, tF, tF, tF, tF, tF, .ret _ _ _ c3, .ret _ _ _ c4, tC (nt (@wr_nz 19 w dst src base disp imm cc hm d0 d1 (rfl : true = true))), .tst _ true (in16 d0 d1), .putA _ _ _ _ (@put_regm m dst (doM 12 w (rg (MachS.rl m) dst) (IntKind.wrap IntKind.u64 imm)) ([.bool false, .bool false, .bool false, .bool false, .bool false, .int .u64 (pcX m 19 w dst src base disp imm cc), .int .i8 19, .int .i8 w, .int .i8 dst, .int .i8 src, .int .i8 base, .int .i64 disp, .int .i64 imm, .int .i8 cc, .int .u64 ld]) d0 d1), tF]) (by kernel_rfl))
theorem exec_20_ok : SpY1c0 20 := by
 intro m w dst src base disp imm cc ld d0 d1 s0 s1 b0 b1 hm hw
 have c0 := @mayX_ok 20 w dst src base disp imm cc (by decide)
 rw [hm] at c0
 have c1 := @xlen_ok 20 w dst src base disp imm cc (by decide)
 have c2 := @bdo_6_ok w (rg (MachS.rl m) dst) (MachS.q1 m) hw
 have c3 := @fnone_ok
 have c4 := @writes_any_ok 20 w dst src base disp imm cc (by decide)
 exact (o8 (d := .tup [(doS (m.at (u64 (m.pc + u64 (lenX 20 w dst src base disp imm cc)))) ⟨20, w, dst, src, base, disp, imm, cc⟩ ld).1.d, .int .i64 0]) ([.ret _ _ _ c0, tF, .ret _ _ _ c1, tT, .get tbYc0 20 (.nilf) rfl, tT, .inl, .inl, .keep [(4, Ob.box (MachS.cw m (pcX m 20 w dst src base disp imm cc) (xT 20 w dst src base disp imm cc ld)))], .mget tbYc1 20 (some (.int .i8 6)) rfl, .tst _ true (in16 d0 d1), .get _ _ _ (@get_regm m dst ((fT m (pcX m 20 w dst src base disp imm cc) (xT 20 w dst src base disp imm cc ld))) d0 d1), .inl] ++ List.replicate 8 tT ++ [.keep [(4, Ob.box (MachS.cw m (pcX m 20 w dst src base disp imm cc) (xT 20 w dst src base disp imm cc ld)))], .ret _ _ _ c2, tF, tF, tF, tF, tF, tF, tF, .ret _ _ _ c3, .ret _ _ _ c4, tC (nt (@wr_nz 20 w dst src base disp imm cc hm d0 d1 (rfl : true = true))), .tst _ true (in16 d0 d1), .putA _ _ _ _ (@put_regm m dst (doM 6 w (rg (MachS.rl m) dst) (MachS.q1 m)) ([.bool false, .bool false, .bool false, .bool false, .bool false, .int .u64 (pcX m 20 w dst src base disp imm cc), .int .i8 20, .int .i8 w, .int .i8 dst, .int .i8 src, .int .i8 base, .int .i64 disp, .int .i64 imm, .int .i8 cc, .int .u64 ld]) d0 d1), tF]) (by kernel_rfl))
theorem exec_21_ok : SpY1c0 21 := by
 intro m w dst src base disp imm cc ld d0 d1 s0 s1 b0 b1 hm hw
 have c0 := @mayX_ok 21 w dst src base disp imm cc (by decide)
 rw [hm] at c0
 have c1 := @xlen_ok 21 w dst src base disp imm cc (by decide)
 have c2 := @bdo_7_ok w (rg (MachS.rl m) dst) (MachS.q1 m) hw
 have c3 := @fnone_ok
 have c4 := @writes_any_ok 21 w dst src base disp imm cc (by decide)
 exact (o8 (d := .tup [(doS (m.at (u64 (m.pc + u64 (lenX 21 w dst src base disp imm cc)))) ⟨21, w, dst, src, base, disp, imm, cc⟩ ld).1.d, .int .i64 0]) ([.ret _ _ _ c0, tF, .ret _ _ _ c1, tT, .get tbYc0 21 (.nilf) rfl, tT, .inl, .inl, .keep [(4, Ob.box (MachS.cw m (pcX m 21 w dst src base disp imm cc) (xT 21 w dst src base disp imm cc ld)))], .mget tbYc1 21 (some (.int .i8 7)) rfl, .tst _ true (in16 d0 d1), .get _ _ _ (@get_regm m dst ((fT m (pcX m 21 w dst src base disp imm cc) (xT 21 w dst src base disp imm cc ld))) d0 d1), .inl] ++ List.replicate 8 tT ++ [.keep [(4, Ob.box (MachS.cw m (pcX m 21 w dst src base disp imm cc) (xT 21 w dst src base disp imm cc ld)))], .ret _ _ _ c2, tF, tF, tF, tF, tF, tF, tF, .ret _ _ _ c3, .ret _ _ _ c4, tC (nt (@wr_nz 21 w dst src base disp imm cc hm d0 d1 (rfl : true = true))), .tst _ true (in16 d0 d1), .putA _ _ _ _ (@put_regm m dst (doM 7 w (rg (MachS.rl m) dst) (MachS.q1 m)) ([.bool false, .bool false, .bool false, .bool false, .bool false, .int .u64 (pcX m 21 w dst src base disp imm cc), .int .i8 21, .int .i8 w, .int .i8 dst, .int .i8 src, .int .i8 base, .int .i64 disp, .int .i64 imm, .int .i8 cc, .int .u64 ld]) d0 d1), tF]) (by kernel_rfl))
theorem exec_22_ok : SpY1c0 22 := by
 intro m w dst src base disp imm cc ld d0 d1 s0 s1 b0 b1 hm hw
 have c0 := @mayX_ok 22 w dst src base disp imm cc (by decide)
 rw [hm] at c0
 have c1 := @xlen_ok 22 w dst src base disp imm cc (by decide)
 have c2 := @bdo_12_ok w (rg (MachS.rl m) dst) (MachS.q1 m) hw
 have c3 := @fnone_ok
 have c4 := @writes_any_ok 22 w dst src base disp imm cc (by decide)
 exact (o8 (d := .tup [(doS (m.at (u64 (m.pc + u64 (lenX 22 w dst src base disp imm cc)))) ⟨22, w, dst, src, base, disp, imm, cc⟩ ld).1.d, .int .i64 0]) ([.ret _ _ _ c0, tF, .ret _ _ _ c1, tT, .get tbYc0 22 (.nilf) rfl, tT, .inl, .inl, .keep [(4, Ob.box (MachS.cw m (pcX m 22 w dst src base disp imm cc) (xT 22 w dst src base disp imm cc ld)))], .mget tbYc1 22 (some (.int .i8 12)) rfl, .tst _ true (in16 d0 d1), .get _ _ _ (@get_regm m dst ((fT m (pcX m 22 w dst src base disp imm cc) (xT 22 w dst src base disp imm cc ld))) d0 d1), .inl] ++ List.replicate 8 tT ++ [.keep [(4, Ob.box (MachS.cw m (pcX m 22 w dst src base disp imm cc) (xT 22 w dst src base disp imm cc ld)))], .ret _ _ _ c2, tF, tF, tF, tF, tF, tF, tF, .ret _ _ _ c3, .ret _ _ _ c4, tC (nt (@wr_nz 22 w dst src base disp imm cc hm d0 d1 (rfl : true = true))), .tst _ true (in16 d0 d1), .putA _ _ _ _ (@put_regm m dst (doM 12 w (rg (MachS.rl m) dst) (MachS.q1 m)) ([.bool false, .bool false, .bool false, .bool false, .bool false, .int .u64 (pcX m 22 w dst src base disp imm cc), .int .i8 22, .int .i8 w, .int .i8 dst, .int .i8 src, .int .i8 base, .int .i64 disp, .int .i64 imm, .int .i8 cc, .int .u64 ld]) d0 d1), tF]) (by kernel_rfl))
theorem exec_23_ok : SpY1c0 23 := by
 intro m w dst src base disp imm cc ld d0 d1 s0 s1 b0 b1 hm hw
 have c0 := @mayX_ok 23 w dst src base disp imm cc (by decide)
 rw [hm] at c0
 have c1 := @xlen_ok 23 w dst src base disp imm cc (by decide)
 have c2 := @bdo_8_ok w (rg (MachS.rl m) dst) (rg (MachS.rl m) src) hw
 have c3 := @fsub_ok w 0 (rg (MachS.rl m) dst) hw
 have c4 := @writes_any_ok 23 w dst src base disp imm cc (by decide)
 exact (o8 (d := .tup [(doS (m.at (u64 (m.pc + u64 (lenX 23 w dst src base disp imm cc)))) ⟨23, w, dst, src, base, disp, imm, cc⟩ ld).1.d, .int .i64 0]) ([.ret _ _ _ c0, tF, .ret _ _ _ c1, tT, .get tbYc0 23 (.nilf) rfl, tT, .inl, .inl, .keep [(4, Ob.box (MachS.cw m (pcX m 23 w dst src base disp imm cc) (xT 23 w dst src base disp imm cc ld)))], .mget tbYc1 23 (some (.int .i8 8)) rfl, .tst _ true (in16 d0 d1), .get _ _ _ (@get_regm m dst ((fT m (pcX m 23 w dst src base disp imm cc) (xT 23 w dst src base disp imm cc ld))) d0 d1), .inl, tT, tT, tT, tT, tT, tT, tT, tF, tT, tT, tT, tT, tT, tT, tT, tF, tT, tT, tT, tT, tT, tT, tT, tF, .tst _ true (in16 s0 s1), .get _ _ _ (@get_regm m src ((fT m (pcX m 23 w dst src base disp imm cc) (xT 23 w dst src base disp imm cc ld))) s0 s1), .keep [(4, Ob.box (MachS.cw m (pcX m 23 w dst src base disp imm cc) (xT 23 w dst src base disp imm cc ld)))], .ret _ _ _ c2, tF, tF, tF, tT, .ret _ _ _ c3, .ret _ _ _ c4, tC (nt (@wr_nz 23 w dst src base disp imm cc hm d0 d1 (rfl : true = true))), .tst _ true (in16 d0 d1), .putA _ _ _ _ (@put_regm m dst (doM 8 w (rg (MachS.rl m) dst) (rg (MachS.rl m) src)) ([.bool true, .bool (subC w 0 (rg (MachS.rl m) dst)), .bool (cutM (u64 (0 - rg (MachS.rl m) dst)) w == 0), .bool (negM (u64 (0 - rg (MachS.rl m) dst)) w), .bool (subO w 0 (rg (MachS.rl m) dst)), .int .u64 (pcX m 23 w dst src base disp imm cc), .int .i8 23, .int .i8 w, .int .i8 dst, .int .i8 src, .int .i8 base, .int .i64 disp, .int .i64 imm, .int .i8 cc, .int .u64 ld]) d0 d1)] ++ [tF]) (by kernel_rfl))
end Go.Proofs.YtojgmjfcfpclbaaGreat

namespace Go.Proofs.YtojgmjfcfpclbaaGreat
open Go Go.Ev
set_option maxRecDepth 100000
set_option maxHeartbeats 8000000
def tbYd0 : List D := [D.fn (Fn.func 48) [D.ptr false 4 0] [], D.fn (Fn.func 49) [D.ptr false 4 0] [], D.nilf, D.nilf, D.nilf, D.nilf, D.nilf, D.nilf, D.nilf, D.nilf, D.nilf, D.nilf, D.nilf, D.nilf, D.nilf, D.nilf, D.nilf, D.nilf, D.nilf, D.nilf, D.nilf, D.nilf, D.nilf, D.nilf, D.fn (Fn.func 50) [D.ptr false 4 0] [], D.fn (Fn.func 51) [D.ptr false 4 0] [], D.fn (Fn.func 52) [D.ptr false 4 0] [], D.fn (Fn.func 53) [D.ptr false 4 0] [], D.fn (Fn.func 54) [D.ptr false 4 0] [], D.fn (Fn.func 55) [D.ptr false 4 0] [], D.fn (Fn.func 56) [D.ptr false 4 0] [], D.fn (Fn.func 57) [D.ptr false 4 0] []]
def SpY1d0 (k0_ : Int) : Prop := ∀ (m : MachS) (w dst src base disp imm cc ld : Int) (d0 : 0 ≤ dst) (d1 : dst ≤ 15) (s0 : 0 ≤ src) (s1 : src ≤ 15) (b0 : 0 ≤ base) (b1 : base ≤ 15) (hm : mayX k0_ w dst src base disp imm cc = true), Ret Tryz.prog 8 ([m.d, xD k0_ w dst src base disp imm cc, .int .u64 ld]) (.tup [(doS (m.at (u64 (m.pc + u64 (lenX k0_ w dst src base disp imm cc)))) ⟨k0_, w, dst, src, base, disp, imm, cc⟩ ld).1.d, .int .i64 0])
theorem exec_0_ok : SpY1d0 0 := by
 intro m w dst src base disp imm cc ld d0 d1 s0 s1 b0 b1 hm
 have c0 := @mayX_ok 0 w dst src base disp imm cc (by decide)
 rw [show (mayX 0 w dst src base disp imm cc) = true from hm] at c0
 have c1 := @xlen_ok 0 w dst src base disp imm cc (by decide)
 have c2 := @cut_ok (rg (MachS.rl m) src) w
 exact (o8 (d := .tup [(doS (m.at (u64 (m.pc + u64 (lenX 0 w dst src base disp imm cc)))) ⟨0, w, dst, src, base, disp, imm, cc⟩ ld).1.d, .int .i64 0]) [.ret _ _ _ c0, tF, .ret _ _ _ c1, tT, .get tbYd0 0 (D.fn (Fn.func 48) [D.ptr false 4 0] []) rfl, tF, .inl, .tst _ true (in16 s0 s1), .get _ _ _ (@get_regm m src ((fT m (pcX m 0 w dst src base disp imm cc) (xT 0 w dst src base disp imm cc ld))) s0 s1), .inl, .ret _ _ _ c2, .tst _ true (in16 d0 d1), .putA _ _ _ _ (@put_regm m dst (cutM (rg (MachS.rl m) src) w) ((fT m (pcX m 0 w dst src base disp imm cc) (xT 0 w dst src base disp imm cc ld))) d0 d1), tF] (by kernel_rfl))
theorem exec_1_ok : SpY1d0 1 := by
 intro m w dst src base disp imm cc ld d0 d1 s0 s1 b0 b1 hm
 have c0 := @mayX_ok 1 w dst src base disp imm cc (by decide)
 rw [show (mayX 1 w dst src base disp imm cc) = true from hm] at c0
 have c1 := @xlen_ok 1 w dst src base disp imm cc (by decide)
 have c2 := @cut_ok (IntKind.wrap IntKind.u64 imm) w
 exact (o8 (d := .tup [(doS (m.at (u64 (m.pc + u64 (lenX 1 w dst src base disp imm cc)))) ⟨1, w, dst, src, base, disp, imm, cc⟩ ld).1.d, .int .i64 0]) [.ret _ _ _ c0, tF, .ret _ _ _ c1, tT, .get tbYd0 1 (D.fn (Fn.func 49) [D.ptr false 4 0] []) rfl, tF, .inl, .inl, .ret _ _ _ c2, .tst _ true (in16 d0 d1), .putA _ _ _ _ (@put_regm m dst (cutM (IntKind.wrap IntKind.u64 imm) w) ((fT m (pcX m 1 w dst src base disp imm cc) (xT 1 w dst src base disp imm cc ld))) d0 d1), tF] (by kernel_rfl))
theorem exec_26_ok : SpY1d0 26 := by
 intro m w dst src base disp imm cc ld d0 d1 s0 s1 b0 b1 hm
 have c0 := @mayX_ok 26 w dst src base disp imm cc (by decide)
 rw [show (mayX 26 w dst src base disp imm cc) = true from hm] at c0
 have c1 := @xlen_ok 26 w dst src base disp imm cc (by decide)
 have c2 := @cut_ok ld w
 exact (o8 (d := .tup [(doS (m.at (u64 (m.pc + u64 (lenX 26 w dst src base disp imm cc)))) ⟨26, w, dst, src, base, disp, imm, cc⟩ ld).1.d, .int .i64 0]) [.ret _ _ _ c0, tF, .ret _ _ _ c1, tT, .get tbYd0 26 (D.fn (Fn.func 52) [D.ptr false 4 0] []) rfl, tF, .inl, .inl, .ret _ _ _ c2, .tst _ true (in16 d0 d1), .putA _ _ _ _ (@put_regm m dst (cutM ld w) ((fT m (pcX m 26 w dst src base disp imm cc) (xT 26 w dst src base disp imm cc ld))) d0 d1), tF] (by kernel_rfl))
theorem exec_27_ok : SpY1d0 27 := by
 intro m w dst src base disp imm cc ld d0 d1 s0 s1 b0 b1 hm
 have c0 := @mayX_ok 27 w dst src base disp imm cc (by decide)
 rw [show (mayX 27 w dst src base disp imm cc) = true from hm] at c0
 have c1 := @xlen_ok 27 w dst src base disp imm cc (by decide)
 exact (o8 (d := .tup [(doS (m.at (u64 (m.pc + u64 (lenX 27 w dst src base disp imm cc)))) ⟨27, w, dst, src, base, disp, imm, cc⟩ ld).1.d, .int .i64 0]) [.ret _ _ _ c0, tF, .ret _ _ _ c1, tT, .get tbYd0 27 (D.fn (Fn.func 53) [D.ptr false 4 0] []) rfl, tF, .inl, tF] (by kernel_rfl))
theorem exec_28_ok : SpY1d0 28 := by
 intro m w dst src base disp imm cc ld d0 d1 s0 s1 b0 b1 hm
 have c0 := @mayX_ok 28 w dst src base disp imm cc (by decide)
 rw [show (mayX 28 w dst src base disp imm cc) = true from hm] at c0
 have c1 := @xlen_ok 28 w dst src base disp imm cc (by decide)
 exact (o8 (d := .tup [(doS (m.at (u64 (m.pc + u64 (lenX 28 w dst src base disp imm cc)))) ⟨28, w, dst, src, base, disp, imm, cc⟩ ld).1.d, .int .i64 0]) [.ret _ _ _ c0, tF, .ret _ _ _ c1, tT, .get tbYd0 28 (D.fn (Fn.func 54) [D.ptr false 4 0] []) rfl, tF, .inl, tF] (by kernel_rfl))
theorem exec_30_ok : SpY1d0 30 := by
 intro m w dst src base disp imm cc ld d0 d1 s0 s1 b0 b1 hm
 have c0 := @mayX_ok 30 w dst src base disp imm cc (by decide)
 rw [show (mayX 30 w dst src base disp imm cc) = true from hm] at c0
 have c1 := @xlen_ok 30 w dst src base disp imm cc (by decide)
 exact (o8 (d := .tup [(doS (m.at (u64 (m.pc + u64 (lenX 30 w dst src base disp imm cc)))) ⟨30, w, dst, src, base, disp, imm, cc⟩ ld).1.d, .int .i64 0]) [.ret _ _ _ c0, tF, .ret _ _ _ c1, tT, .get tbYd0 30 (D.fn (Fn.func 56) [D.ptr false 4 0] []) rfl, tF, .inl, tF] (by kernel_rfl))
theorem exec_31_ok : SpY1d0 31 := by
 intro m w dst src base disp imm cc ld d0 d1 s0 s1 b0 b1 hm
 have c0 := @mayX_ok 31 w dst src base disp imm cc (by decide)
 rw [show (mayX 31 w dst src base disp imm cc) = true from hm] at c0
 have c1 := @xlen_ok 31 w dst src base disp imm cc (by decide)
 exact (o8 (d := .tup [(doS (m.at (u64 (m.pc + u64 (lenX 31 w dst src base disp imm cc)))) ⟨31, w, dst, src, base, disp, imm, cc⟩ ld).1.d, .int .i64 0]) [.ret _ _ _ c0, tF, .ret _ _ _ c1, tT, .get tbYd0 31 (D.fn (Fn.func 57) [D.ptr false 4 0] []) rfl, tF, .inl, tF] (by kernel_rfl))
end Go.Proofs.YtojgmjfcfpclbaaGreat

namespace Go.Proofs.YtojgmjfcfpclbaaGreat
open Go Go.Ev
theorem cc_cases {cc : Int} (h : ccM cc = true) : cc = 2 ∨ cc = 3 ∨ cc = 4 ∨ cc = 5 ∨ cc = 6 ∨ cc = 7 ∨ cc = 12 ∨ cc = 13 ∨ cc = 14 ∨ cc = 15 := by
 simp only [ccM, decide_eq_true_eq] at h; omega
theorem fholds_t_ok (cc : Int) (c z s o : Bool) (h : ccM cc = true) : Ret Tryz.prog 45 [.int .i8 cc, fD true c z s o] (.tup [.bool (holdM cc c z s o), .int .i64 0]) := by
 rcases cc_cases h with rfl | rfl | rfl | rfl | rfl | rfl | rfl | rfl | rfl | rfl
 ·exact fholds_2_ok c z s o
 ·exact fholds_3_ok c z s o
 ·exact fholds_4_ok c z s o
 ·exact fholds_5_ok c z s o
 ·exact fholds_6_ok c z s o
 ·exact fholds_7_ok c z s o
 ·exact fholds_12_ok c z s o
 ·exact fholds_13_ok c z s o
 ·exact fholds_14_ok c z s o
 ·exact fholds_15_ok c z s o
theorem fholds_f_ok (cc : Int) (c z s o : Bool) (h : ccM cc = true) : Ret Tryz.prog 45 [.int .i8 cc, fD false c z s o] (.tup [.bool false, .int .i64 20]) := by
 rcases cc_cases h with rfl | rfl | rfl | rfl | rfl | rfl | rfl | rfl | rfl | rfl
 ·exact fholds_n2_ok c z s o
 ·exact fholds_n3_ok c z s o
 ·exact fholds_n4_ok c z s o
 ·exact fholds_n5_ok c z s o
 ·exact fholds_n6_ok c z s o
 ·exact fholds_n7_ok c z s o
 ·exact fholds_n12_ok c z s o
 ·exact fholds_n13_ok c z s o
 ·exact fholds_n14_ok c z s o
 ·exact fholds_n15_ok c z s o
end Go.Proofs.YtojgmjfcfpclbaaGreat

namespace Go.Proofs.YtojgmjfcfpclbaaGreat
open Go Go.Ev
set_option maxRecDepth 100000
set_option maxHeartbeats 8000000
def tab_E1e_0 : List D := [D.fn (Fn.func 48) [D.ptr false 4 0] [], D.fn (Fn.func 49) [D.ptr false 4 0] [], D.nilf, D.nilf, D.nilf, D.nilf, D.nilf, D.nilf, D.nilf, D.nilf, D.nilf, D.nilf, D.nilf, D.nilf, D.nilf, D.nilf, D.nilf, D.nilf, D.nilf, D.nilf, D.nilf, D.nilf, D.nilf, D.nilf, D.fn (Fn.func 50) [D.ptr false 4 0] [], D.fn (Fn.func 51) [D.ptr false 4 0] [], D.fn (Fn.func 52) [D.ptr false 4 0] [], D.fn (Fn.func 53) [D.ptr false 4 0] [], D.fn (Fn.func 54) [D.ptr false 4 0] [], D.fn (Fn.func 55) [D.ptr false 4 0] [], D.fn (Fn.func 56) [D.ptr false 4 0] [], D.fn (Fn.func 57) [D.ptr false 4 0] []]
theorem exec_24_ok (q0 q1 q2 q3 q4 q5 q6 q7 q8 q9 q10 q11 q12 q13 q14 q15 at' : Int) (fk fc fz fs fo : Bool) (w dst src base disp imm cc ld : Int) (d0 : 0 ≤ dst) (d1 : dst ≤ 15) (s0 : 0 ≤ src) (s1 : src ≤ 15) (b0 : 0 ≤ base) (b1 : base ≤ 15) (hm : mayX 24 w dst src base disp imm cc = true) (hd : (cutM (rg [q0, q1, q2, q3, q4, q5, q6, q7, q8, q9, q10, q11, q12, q13, q14, q15] dst) w == 0) = false) (hz : (cutM q2 w == 0) = true) : Ret Tryz.prog 8 ([.agg [.int .u64 q0, .int .u64 q1, .int .u64 q2, .int .u64 q3, .int .u64 q4, .int .u64 q5, .int .u64 q6, .int .u64 q7, .int .u64 q8, .int .u64 q9, .int .u64 q10, .int .u64 q11, .int .u64 q12, .int .u64 q13, .int .u64 q14, .int .u64 q15, .bool fk, .bool fc, .bool fz, .bool fs, .bool fo, .int .u64 (at')], xD 24 w dst src base disp imm cc, .int .u64 ld]) (.tup [.agg [.int .u64 (u64 ((cutM q0 w).tdiv (cutM (rg [q0, q1, q2, q3, q4, q5, q6, q7, q8, q9, q10, q11, q12, q13, q14, q15] dst) w))), .int .u64 q1, .int .u64 ((cutM q0 w).tmod (cutM (rg [q0, q1, q2, q3, q4, q5, q6, q7, q8, q9, q10, q11, q12, q13, q14, q15] dst) w)), .int .u64 q3, .int .u64 q4, .int .u64 q5, .int .u64 q6, .int .u64 q7, .int .u64 q8, .int .u64 q9, .int .u64 q10, .int .u64 q11, .int .u64 q12, .int .u64 q13, .int .u64 q14, .int .u64 q15, .bool false, .bool false, .bool false, .bool false, .bool false, .int .u64 (u64 (at' + u64 (lenX 24 w dst src base disp imm cc)))], .int .i64 0]) := by
 have c0 := @mayX_ok 24 w dst src base disp imm cc (by decide)
 rw [hm] at c0
 have c1 := @xlen_ok 24 w dst src base disp imm cc (by decide)
 have c2 := @cut_ok q0 w
 have c3 := @cut_ok (rg [q0, q1, q2, q3, q4, q5, q6, q7, q8, q9, q10, q11, q12, q13, q14, q15] dst) w
 have c4 := @cut_ok q2 w
 have c5 := @fnone_ok
 exact (o8 (d := .tup [.agg [.int .u64 (IntKind.wrap IntKind.u64 (Int.tdiv (cutM q0 w) (cutM (rg [q0, q1, q2, q3, q4, q5, q6, q7, q8, q9, q10, q11, q12, q13, q14, q15] dst) w))), .int .u64 q1, .int .u64 (Int.tmod (cutM q0 w) (cutM (rg [q0, q1, q2, q3, q4, q5, q6, q7, q8, q9, q10, q11, q12, q13, q14, q15] dst) w)), .int .u64 q3, .int .u64 q4, .int .u64 q5, .int .u64 q6, .int .u64 q7, .int .u64 q8, .int .u64 q9, .int .u64 q10, .int .u64 q11, .int .u64 q12, .int .u64 q13, .int .u64 q14, .int .u64 q15, .bool false, .bool false, .bool false, .bool false, .bool false, .int .u64 (IntKind.wrap IntKind.u64 (at' + IntKind.wrap IntKind.u64 (lenX 24 w dst src base disp imm cc)))], .int .i64 0]) ([.ret _ _ _ c0, tF, .ret _ _ _ c1, tT, .get tab_E1e_0 24 (.fn (.func 50) [.ptr false 4 0] []) rfl, tF, .inl, .ret _ _ _ c2, .tst _ true (in16 d0 d1), .get _ _ _ (@get_reg q0 q1 q2 q3 q4 q5 q6 q7 q8 q9 q10 q11 q12 q13 q14 q15 dst ([.bool fk, .bool fc, .bool fz, .bool fs, .bool fo, .int .u64 (IntKind.wrap IntKind.u64 (at' + IntKind.wrap IntKind.u64 (lenX 24 w dst src base disp imm cc))), .int .i8 24, .int .i8 w, .int .i8 dst, .int .i8 src, .int .i8 base, .int .i64 disp, .int .i64 imm, .int .i8 cc, .int .u64 ld]) d0 d1), .ret _ _ _ c3] ++ List.replicate 8 (tC (eF hd)) ++ [.ret _ _ _ c4, tC (eF hd), tC hd, tC (nt (eqI 0 true (eq_of_beq hz))), tC (v := true) (neD hd), tC (v := true) (neD hd), .ret _ _ _ c5, tF]) (by kernel_rfl)).to (by first | ((simp only [wk, wkL, and_true]; repeat' (first | rfl | exact True.intro | (apply wkL_put; simp only [wk, wkL, and_true]) | apply And.intro)); done) | (simp [wk, wkL, putD, u64, ]; done))
theorem exec_24f_ok (q0 q1 q2 q3 q4 q5 q6 q7 q8 q9 q10 q11 q12 q13 q14 q15 at' : Int) (fk fc fz fs fo : Bool) (w dst src base disp imm cc ld : Int) (d0 : 0 ≤ dst) (d1 : dst ≤ 15) (s0 : 0 ≤ src) (s1 : src ≤ 15) (b0 : 0 ≤ base) (b1 : base ≤ 15) (hm : mayX 24 w dst src base disp imm cc = true) (hd : (cutM (rg [q0, q1, q2, q3, q4, q5, q6, q7, q8, q9, q10, q11, q12, q13, q14, q15] dst) w == 0) = true) : Ret Tryz.prog 8 ([.agg [.int .u64 q0, .int .u64 q1, .int .u64 q2, .int .u64 q3, .int .u64 q4, .int .u64 q5, .int .u64 q6, .int .u64 q7, .int .u64 q8, .int .u64 q9, .int .u64 q10, .int .u64 q11, .int .u64 q12, .int .u64 q13, .int .u64 q14, .int .u64 q15, .bool fk, .bool fc, .bool fz, .bool fs, .bool fo, .int .u64 (at')], xD 24 w dst src base disp imm cc, .int .u64 ld]) (.tup [.agg [.int .u64 (0), .int .u64 (0), .int .u64 (0), .int .u64 (0), .int .u64 (0), .int .u64 (0), .int .u64 (0), .int .u64 (0), .int .u64 (0), .int .u64 (0), .int .u64 (0), .int .u64 (0), .int .u64 (0), .int .u64 (0), .int .u64 (0), .int .u64 (0), .bool false, .bool false, .bool false, .bool false, .bool false, .int .u64 (0)], .int .i64 20]) := by
 have c0 := @mayX_ok 24 w dst src base disp imm cc (by decide)
 rw [hm] at c0
 have c1 := @xlen_ok 24 w dst src base disp imm cc (by decide)
 have c2 := @cut_ok q0 w
 have c3 := @cut_ok (rg [q0, q1, q2, q3, q4, q5, q6, q7, q8, q9, q10, q11, q12, q13, q14, q15] dst) w
 exact (o8 (d := .tup [.agg [.int .u64 0, .int .u64 0, .int .u64 0, .int .u64 0, .int .u64 0, .int .u64 0, .int .u64 0, .int .u64 0, .int .u64 0, .int .u64 0, .int .u64 0, .int .u64 0, .int .u64 0, .int .u64 0, .int .u64 0, .int .u64 0, .bool false, .bool false, .bool false, .bool false, .bool false, .int .u64 0], .int .i64 20]) ([.ret _ _ _ c0, tF, .ret _ _ _ c1, tT, .get tab_E1e_0 24 (.fn (.func 50) [.ptr false 4 0] []) rfl, tF, .inl, .ret _ _ _ c2, .tst _ true (in16 d0 d1), .get _ _ _ (@get_reg q0 q1 q2 q3 q4 q5 q6 q7 q8 q9 q10 q11 q12 q13 q14 q15 dst ([.bool fk, .bool fc, .bool fz, .bool fs, .bool fo, .int .u64 (IntKind.wrap IntKind.u64 (at' + IntKind.wrap IntKind.u64 (lenX 24 w dst src base disp imm cc))), .int .i8 24, .int .i8 w, .int .i8 dst, .int .i8 src, .int .i8 base, .int .i64 disp, .int .i64 imm, .int .i8 cc, .int .u64 ld]) d0 d1), .ret _ _ _ c3] ++ List.replicate 9 (tC (eF (eqI 0 true (eq_of_beq hd)))) ++ [tC (eqI 0 true (eq_of_beq hd)), tT, tT]) (by kernel_rfl)).to (by first | ((simp only [wk, wkL, and_true]; repeat' (first | rfl | exact True.intro | (apply wkL_put; simp only [wk, wkL, and_true]) | apply And.intro)); done) | (simp [wk, wkL, putD, u64, ]; done))
theorem exec_24g_ok (q0 q1 q2 q3 q4 q5 q6 q7 q8 q9 q10 q11 q12 q13 q14 q15 at' : Int) (fk fc fz fs fo : Bool) (w dst src base disp imm cc ld : Int) (d0 : 0 ≤ dst) (d1 : dst ≤ 15) (s0 : 0 ≤ src) (s1 : src ≤ 15) (b0 : 0 ≤ base) (b1 : base ≤ 15) (hm : mayX 24 w dst src base disp imm cc = true) (hd : (cutM (rg [q0, q1, q2, q3, q4, q5, q6, q7, q8, q9, q10, q11, q12, q13, q14, q15] dst) w == 0) = false) (hz : (cutM q2 w == 0) = false) : Ret Tryz.prog 8 ([.agg [.int .u64 q0, .int .u64 q1, .int .u64 q2, .int .u64 q3, .int .u64 q4, .int .u64 q5, .int .u64 q6, .int .u64 q7, .int .u64 q8, .int .u64 q9, .int .u64 q10, .int .u64 q11, .int .u64 q12, .int .u64 q13, .int .u64 q14, .int .u64 q15, .bool fk, .bool fc, .bool fz, .bool fs, .bool fo, .int .u64 (at')], xD 24 w dst src base disp imm cc, .int .u64 ld]) (.tup [.agg [.int .u64 (0), .int .u64 (0), .int .u64 (0), .int .u64 (0), .int .u64 (0), .int .u64 (0), .int .u64 (0), .int .u64 (0), .int .u64 (0), .int .u64 (0), .int .u64 (0), .int .u64 (0), .int .u64 (0), .int .u64 (0), .int .u64 (0), .int .u64 (0), .bool false, .bool false, .bool false, .bool false, .bool false, .int .u64 (0)], .int .i64 20]) := by
 have c0 := @mayX_ok 24 w dst src base disp imm cc (by decide)
 rw [hm] at c0
 have c1 := @xlen_ok 24 w dst src base disp imm cc (by decide)
 have c2 := @cut_ok q0 w
 have c3 := @cut_ok (rg [q0, q1, q2, q3, q4, q5, q6, q7, q8, q9, q10, q11, q12, q13, q14, q15] dst) w
 have c4 := @cut_ok q2 w
 exact (o8 (d := .tup [.agg [.int .u64 0, .int .u64 0, .int .u64 0, .int .u64 0, .int .u64 0, .int .u64 0, .int .u64 0, .int .u64 0, .int .u64 0, .int .u64 0, .int .u64 0, .int .u64 0, .int .u64 0, .int .u64 0, .int .u64 0, .int .u64 0, .bool false, .bool false, .bool false, .bool false, .bool false, .int .u64 0], .int .i64 20]) ([.ret _ _ _ c0, tF, .ret _ _ _ c1, tT, .get tab_E1e_0 24 (.fn (.func 50) [.ptr false 4 0] []) rfl, tF, .inl, .ret _ _ _ c2, .tst _ true (in16 d0 d1), .get _ _ _ (@get_reg q0 q1 q2 q3 q4 q5 q6 q7 q8 q9 q10 q11 q12 q13 q14 q15 dst ([.bool fk, .bool fc, .bool fz, .bool fs, .bool fo, .int .u64 (IntKind.wrap IntKind.u64 (at' + IntKind.wrap IntKind.u64 (lenX 24 w dst src base disp imm cc))), .int .i8 24, .int .i8 w, .int .i8 dst, .int .i8 src, .int .i8 base, .int .i64 disp, .int .i64 imm, .int .i8 cc, .int .u64 ld]) d0 d1), .ret _ _ _ c3] ++ List.replicate 8 (tC (eF hd)) ++ [.ret _ _ _ c4, tC (eF hd), tC hd, tC (nt hz), tT]) (by kernel_rfl)).to (by first | ((simp only [wk, wkL, and_true]; repeat' (first | rfl | exact True.intro | (apply wkL_put; simp only [wk, wkL, and_true]) | apply And.intro)); done) | (simp [wk, wkL, putD, u64, ]; done))
theorem exec_25_ok (q0 q1 q2 q3 q4 q5 q6 q7 q8 q9 q10 q11 q12 q13 q14 q15 at' : Int) (fc fz fs fo : Bool) (w dst src base disp imm cc ld : Int) (d0 : 0 ≤ dst) (d1 : dst ≤ 15) (s0 : 0 ≤ src) (s1 : src ≤ 15) (b0 : 0 ≤ base) (b1 : base ≤ 15) (hm : mayX 25 w dst src base disp imm cc = true) (hcc : ccM cc = true) : Ret Tryz.prog 8 ([.agg [.int .u64 q0, .int .u64 q1, .int .u64 q2, .int .u64 q3, .int .u64 q4, .int .u64 q5, .int .u64 q6, .int .u64 q7, .int .u64 q8, .int .u64 q9, .int .u64 q10, .int .u64 q11, .int .u64 q12, .int .u64 q13, .int .u64 q14, .int .u64 q15, .bool true, .bool fc, .bool fz, .bool fs, .bool fo, .int .u64 (at')], xD 25 w dst src base disp imm cc, .int .u64 ld]) (.tup [.agg (putD dst (cutM (if holdM cc fc fz fs fo then rg [q0, q1, q2, q3, q4, q5, q6, q7, q8, q9, q10, q11, q12, q13, q14, q15] src else rg [q0, q1, q2, q3, q4, q5, q6, q7, q8, q9, q10, q11, q12, q13, q14, q15] dst) w) q0 q1 q2 q3 q4 q5 q6 q7 q8 q9 q10 q11 q12 q13 q14 q15 [.bool true, .bool fc, .bool fz, .bool fs, .bool fo, .int .u64 (u64 (at' + u64 (lenX 25 w dst src base disp imm cc)))]), .int .i64 0]) := by
 have c0 := @mayX_ok 25 w dst src base disp imm cc (by decide)
 rw [hm] at c0
 have c1 := @xlen_ok 25 w dst src base disp imm cc (by decide)
 have c2 := @fholds_t_ok cc fc fz fs fo hcc
 let E1 : EL := [.ret _ _ _ c0, tF, .ret _ _ _ c1, tT, .get tab_E1e_0 25 (.fn (.func 51) [.ptr false 4 0] []) rfl, tF, .inl, .inl, .ret _ _ _ c2, tF]
 rcases bft (holdM cc fc fz fs fo) with h3 | h3
 ·have c4 := @cut_ok (rg [q0, q1, q2, q3, q4, q5, q6, q7, q8, q9, q10, q11, q12, q13, q14, q15] src) w
  exact (o8 (d := .tup [.agg (putD dst (cutM (rg [q0, q1, q2, q3, q4, q5, q6, q7, q8, q9, q10, q11, q12, q13, q14, q15] src) w) q0 q1 q2 q3 q4 q5 q6 q7 q8 q9 q10 q11 q12 q13 q14 q15 [.bool true, .bool fc, .bool fz, .bool fs, .bool fo, .int .u64 (IntKind.wrap IntKind.u64 (at' + IntKind.wrap IntKind.u64 (lenX 25 w dst src base disp imm cc)))]), .int .i64 0]) (E1 ++ [tC h3, .inl, .tst _ true (in16 s0 s1), .get _ _ _ (@get_reg q0 q1 q2 q3 q4 q5 q6 q7 q8 q9 q10 q11 q12 q13 q14 q15 src ([.bool true, .bool fc, .bool fz, .bool fs, .bool fo, .int .u64 (IntKind.wrap IntKind.u64 (at' + IntKind.wrap IntKind.u64 (lenX 25 w dst src base disp imm cc))), .int .i8 25, .int .i8 w, .int .i8 dst, .int .i8 src, .int .i8 base, .int .i64 disp, .int .i64 imm, .int .i8 cc, .int .u64 ld]) s0 s1), .inl, .ret _ _ _ c4, .tst _ true (in16 d0 d1), .putA _ _ _ _ (@put_reg q0 q1 q2 q3 q4 q5 q6 q7 q8 q9 q10 q11 q12 q13 q14 q15 dst (cutM (rg [q0, q1, q2, q3, q4, q5, q6, q7, q8, q9, q10, q11, q12, q13, q14, q15] src) w) ([.bool true, .bool fc, .bool fz, .bool fs, .bool fo, .int .u64 (IntKind.wrap IntKind.u64 (at' + IntKind.wrap IntKind.u64 (lenX 25 w dst src base disp imm cc))), .int .i8 25, .int .i8 w, .int .i8 dst, .int .i8 src, .int .i8 base, .int .i64 disp, .int .i64 imm, .int .i8 cc, .int .u64 ld]) d0 d1), tF]) (by kernel_rfl)).to (by clear E1; first | ((simp only [wk, wkL, and_true]; repeat' (first | rfl | exact True.intro | (apply wkL_put; simp only [wk, wkL, and_true]) | apply And.intro)); done) | (simp [wk, wkL, putD, u64, h3]; done))
 have c5 := @cut_ok (rg [q0, q1, q2, q3, q4, q5, q6, q7, q8, q9, q10, q11, q12, q13, q14, q15] dst) w
 exact (o8 (d := .tup [.agg (putD dst (cutM (rg [q0, q1, q2, q3, q4, q5, q6, q7, q8, q9, q10, q11, q12, q13, q14, q15] dst) w) q0 q1 q2 q3 q4 q5 q6 q7 q8 q9 q10 q11 q12 q13 q14 q15 [.bool true, .bool fc, .bool fz, .bool fs, .bool fo, .int .u64 (IntKind.wrap IntKind.u64 (at' + IntKind.wrap IntKind.u64 (lenX 25 w dst src base disp imm cc)))]), .int .i64 0]) (E1 ++ [tC h3, .tst _ true (in16 d0 d1), .get _ _ _ (@get_reg q0 q1 q2 q3 q4 q5 q6 q7 q8 q9 q10 q11 q12 q13 q14 q15 dst ([.bool true, .bool fc, .bool fz, .bool fs, .bool fo, .int .u64 (IntKind.wrap IntKind.u64 (at' + IntKind.wrap IntKind.u64 (lenX 25 w dst src base disp imm cc))), .int .i8 25, .int .i8 w, .int .i8 dst, .int .i8 src, .int .i8 base, .int .i64 disp, .int .i64 imm, .int .i8 cc, .int .u64 ld]) d0 d1), .inl, .ret _ _ _ c5, .tst _ true (in16 d0 d1), .putA _ _ _ _ (@put_reg q0 q1 q2 q3 q4 q5 q6 q7 q8 q9 q10 q11 q12 q13 q14 q15 dst (cutM (rg [q0, q1, q2, q3, q4, q5, q6, q7, q8, q9, q10, q11, q12, q13, q14, q15] dst) w) ([.bool true, .bool fc, .bool fz, .bool fs, .bool fo, .int .u64 (IntKind.wrap IntKind.u64 (at' + IntKind.wrap IntKind.u64 (lenX 25 w dst src base disp imm cc))), .int .i8 25, .int .i8 w, .int .i8 dst, .int .i8 src, .int .i8 base, .int .i64 disp, .int .i64 imm, .int .i8 cc, .int .u64 ld]) d0 d1), tF]) (by kernel_rfl)).to (by clear E1; first | ((simp only [wk, wkL, and_true]; repeat' (first | rfl | exact True.intro | (apply wkL_put; simp only [wk, wkL, and_true]) | apply And.intro)); done) | (simp [wk, wkL, putD, u64, h3]; done))
theorem exec_25f_ok (q0 q1 q2 q3 q4 q5 q6 q7 q8 q9 q10 q11 q12 q13 q14 q15 at' : Int) (fc fz fs fo : Bool) (w dst src base disp imm cc ld : Int) (d0 : 0 ≤ dst) (d1 : dst ≤ 15) (s0 : 0 ≤ src) (s1 : src ≤ 15) (b0 : 0 ≤ base) (b1 : base ≤ 15) (hm : mayX 25 w dst src base disp imm cc = true) (hcc : ccM cc = true) : Ret Tryz.prog 8 ([.agg [.int .u64 q0, .int .u64 q1, .int .u64 q2, .int .u64 q3, .int .u64 q4, .int .u64 q5, .int .u64 q6, .int .u64 q7, .int .u64 q8, .int .u64 q9, .int .u64 q10, .int .u64 q11, .int .u64 q12, .int .u64 q13, .int .u64 q14, .int .u64 q15, .bool false, .bool fc, .bool fz, .bool fs, .bool fo, .int .u64 (at')], xD 25 w dst src base disp imm cc, .int .u64 ld]) (.tup [.agg [.int .u64 (0), .int .u64 (0), .int .u64 (0), .int .u64 (0), .int .u64 (0), .int .u64 (0), .int .u64 (0), .int .u64 (0), .int .u64 (0), .int .u64 (0), .int .u64 (0), .int .u64 (0), .int .u64 (0), .int .u64 (0), .int .u64 (0), .int .u64 (0), .bool false, .bool false, .bool false, .bool false, .bool false, .int .u64 (0)], .int .i64 20]) := by
 have c0 := @mayX_ok 25 w dst src base disp imm cc (by decide)
 rw [hm] at c0
 have c1 := @xlen_ok 25 w dst src base disp imm cc (by decide)
 have c2 := @fholds_f_ok cc fc fz fs fo hcc
 exact (o8 (d := .tup [.agg [.int .u64 0, .int .u64 0, .int .u64 0, .int .u64 0, .int .u64 0, .int .u64 0, .int .u64 0, .int .u64 0, .int .u64 0, .int .u64 0, .int .u64 0, .int .u64 0, .int .u64 0, .int .u64 0, .int .u64 0, .int .u64 0, .bool false, .bool false, .bool false, .bool false, .bool false, .int .u64 0], .int .i64 20]) [.ret _ _ _ c0, tF, .ret _ _ _ c1, tT, .get tab_E1e_0 25 (.fn (.func 51) [.ptr false 4 0] []) rfl, tF, .inl, .inl, .ret _ _ _ c2, tT, tT] (by kernel_rfl)).to (by first | ((simp only [wk, wkL, and_true]; repeat' (first | rfl | exact True.intro | (apply wkL_put; simp only [wk, wkL, and_true]) | apply And.intro)); done) | (simp [wk, wkL, putD, u64, ]; done))
theorem exec_29_ok (q0 q1 q2 q3 q4 q5 q6 q7 q8 q9 q10 q11 q12 q13 q14 q15 at' : Int) (fc fz fs fo : Bool) (w dst src base disp imm cc ld : Int) (d0 : 0 ≤ dst) (d1 : dst ≤ 15) (s0 : 0 ≤ src) (s1 : src ≤ 15) (b0 : 0 ≤ base) (b1 : base ≤ 15) (hm : mayX 29 w dst src base disp imm cc = true) (hcc : ccM cc = true) : Ret Tryz.prog 8 ([.agg [.int .u64 q0, .int .u64 q1, .int .u64 q2, .int .u64 q3, .int .u64 q4, .int .u64 q5, .int .u64 q6, .int .u64 q7, .int .u64 q8, .int .u64 q9, .int .u64 q10, .int .u64 q11, .int .u64 q12, .int .u64 q13, .int .u64 q14, .int .u64 q15, .bool true, .bool fc, .bool fz, .bool fs, .bool fo, .int .u64 (at')], xD 29 w dst src base disp imm cc, .int .u64 ld]) (.tup [.agg [.int .u64 q0, .int .u64 q1, .int .u64 q2, .int .u64 q3, .int .u64 q4, .int .u64 q5, .int .u64 q6, .int .u64 q7, .int .u64 q8, .int .u64 q9, .int .u64 q10, .int .u64 q11, .int .u64 q12, .int .u64 q13, .int .u64 q14, .int .u64 q15, .bool true, .bool fc, .bool fz, .bool fs, .bool fo, .int .u64 (if holdM cc fc fz fs fo then u64 (u64 (at' + u64 (lenX 29 w dst src base disp imm cc)) + u64 imm) else u64 (at' + u64 (lenX 29 w dst src base disp imm cc)))], .int .i64 0]) := by
 have c0 := @mayX_ok 29 w dst src base disp imm cc (by decide)
 rw [hm] at c0
 have c1 := @xlen_ok 29 w dst src base disp imm cc (by decide)
 have c2 := @fholds_t_ok cc fc fz fs fo hcc
 let E1 : EL := [.ret _ _ _ c0, tF, .ret _ _ _ c1, tT, .get tab_E1e_0 29 (.fn (.func 55) [.ptr false 4 0] []) rfl, tF, .inl, .inl, .ret _ _ _ c2, tF]
 rcases bft (holdM cc fc fz fs fo) with h3 | h3
 ·exact (o8 (d := .tup [.agg [.int .u64 q0, .int .u64 q1, .int .u64 q2, .int .u64 q3, .int .u64 q4, .int .u64 q5, .int .u64 q6, .int .u64 q7, .int .u64 q8, .int .u64 q9, .int .u64 q10, .int .u64 q11, .int .u64 q12, .int .u64 q13, .int .u64 q14, .int .u64 q15, .bool true, .bool fc, .bool fz, .bool fs, .bool fo, .int .u64 (IntKind.wrap IntKind.u64 (IntKind.wrap IntKind.u64 (at' + IntKind.wrap IntKind.u64 (lenX 29 w dst src base disp imm cc)) + IntKind.wrap IntKind.u64 imm))], .int .i64 0]) (E1 ++ [tC h3, .inl, tF]) (by kernel_rfl)).to (by clear E1; first | ((simp only [wk, wkL, and_true]; repeat' (first | rfl | exact True.intro | (apply wkL_put; simp only [wk, wkL, and_true]) | apply And.intro)); done) | (simp [wk, wkL, putD, u64, h3]; done))
 exact (o8 (d := .tup [.agg [.int .u64 q0, .int .u64 q1, .int .u64 q2, .int .u64 q3, .int .u64 q4, .int .u64 q5, .int .u64 q6, .int .u64 q7, .int .u64 q8, .int .u64 q9, .int .u64 q10, .int .u64 q11, .int .u64 q12, .int .u64 q13, .int .u64 q14, .int .u64 q15, .bool true, .bool fc, .bool fz, .bool fs, .bool fo, .int .u64 (IntKind.wrap IntKind.u64 (at' + IntKind.wrap IntKind.u64 (lenX 29 w dst src base disp imm cc)))], .int .i64 0]) (E1 ++ [tC h3, tF]) (by kernel_rfl)).to (by clear E1; first | ((simp only [wk, wkL, and_true]; repeat' (first | rfl | exact True.intro | (apply wkL_put; simp only [wk, wkL, and_true]) | apply And.intro)); done) | (simp [wk, wkL, putD, u64, h3]; done))
theorem exec_29f_ok (q0 q1 q2 q3 q4 q5 q6 q7 q8 q9 q10 q11 q12 q13 q14 q15 at' : Int) (fc fz fs fo : Bool) (w dst src base disp imm cc ld : Int) (d0 : 0 ≤ dst) (d1 : dst ≤ 15) (s0 : 0 ≤ src) (s1 : src ≤ 15) (b0 : 0 ≤ base) (b1 : base ≤ 15) (hm : mayX 29 w dst src base disp imm cc = true) (hcc : ccM cc = true) : Ret Tryz.prog 8 ([.agg [.int .u64 q0, .int .u64 q1, .int .u64 q2, .int .u64 q3, .int .u64 q4, .int .u64 q5, .int .u64 q6, .int .u64 q7, .int .u64 q8, .int .u64 q9, .int .u64 q10, .int .u64 q11, .int .u64 q12, .int .u64 q13, .int .u64 q14, .int .u64 q15, .bool false, .bool fc, .bool fz, .bool fs, .bool fo, .int .u64 (at')], xD 29 w dst src base disp imm cc, .int .u64 ld]) (.tup [.agg [.int .u64 (0), .int .u64 (0), .int .u64 (0), .int .u64 (0), .int .u64 (0), .int .u64 (0), .int .u64 (0), .int .u64 (0), .int .u64 (0), .int .u64 (0), .int .u64 (0), .int .u64 (0), .int .u64 (0), .int .u64 (0), .int .u64 (0), .int .u64 (0), .bool false, .bool false, .bool false, .bool false, .bool false, .int .u64 (0)], .int .i64 20]) := by
 have c0 := @mayX_ok 29 w dst src base disp imm cc (by decide)
 rw [hm] at c0
 have c1 := @xlen_ok 29 w dst src base disp imm cc (by decide)
 have c2 := @fholds_f_ok cc fc fz fs fo hcc
 exact (o8 (d := .tup [.agg [.int .u64 0, .int .u64 0, .int .u64 0, .int .u64 0, .int .u64 0, .int .u64 0, .int .u64 0, .int .u64 0, .int .u64 0, .int .u64 0, .int .u64 0, .int .u64 0, .int .u64 0, .int .u64 0, .int .u64 0, .int .u64 0, .bool false, .bool false, .bool false, .bool false, .bool false, .int .u64 0], .int .i64 20]) [.ret _ _ _ c0, tF, .ret _ _ _ c1, tT, .get tab_E1e_0 29 (.fn (.func 55) [.ptr false 4 0] []) rfl, tF, .inl, .inl, .ret _ _ _ c2, tT, tT] (by kernel_rfl)).to (by first | ((simp only [wk, wkL, and_true]; repeat' (first | rfl | exact True.intro | (apply wkL_put; simp only [wk, wkL, and_true]) | apply And.intro)); done) | (simp [wk, wkL, putD, u64, ]; done))
theorem exec_no_ok (q0 q1 q2 q3 q4 q5 q6 q7 q8 q9 q10 q11 q12 q13 q14 q15 at' : Int) (fk fc fz fs fo : Bool) (op w dst src base disp imm cc ld : Int)(ho : op ≤ 127) (hm : mayX op w dst src base disp imm cc = false)  : Ret Tryz.prog 8 ([.agg [.int .u64 q0, .int .u64 q1, .int .u64 q2, .int .u64 q3, .int .u64 q4, .int .u64 q5, .int .u64 q6, .int .u64 q7, .int .u64 q8, .int .u64 q9, .int .u64 q10, .int .u64 q11, .int .u64 q12, .int .u64 q13, .int .u64 q14, .int .u64 q15, .bool fk, .bool fc, .bool fz, .bool fs, .bool fo, .int .u64 (at')], xD op w dst src base disp imm cc, .int .u64 ld]) (.tup [.agg [.int .u64 (0), .int .u64 (0), .int .u64 (0), .int .u64 (0), .int .u64 (0), .int .u64 (0), .int .u64 (0), .int .u64 (0), .int .u64 (0), .int .u64 (0), .int .u64 (0), .int .u64 (0), .int .u64 (0), .int .u64 (0), .int .u64 (0), .int .u64 (0), .bool false, .bool false, .bool false, .bool false, .bool false, .int .u64 (0)], .int .i64 2]) := by
 have c0 := @mayX_ok op w dst src base disp imm cc ho
 rw [hm] at c0
 exact (o8 (d := .tup [.agg [.int .u64 0, .int .u64 0, .int .u64 0, .int .u64 0, .int .u64 0, .int .u64 0, .int .u64 0, .int .u64 0, .int .u64 0, .int .u64 0, .int .u64 0, .int .u64 0, .int .u64 0, .int .u64 0, .int .u64 0, .int .u64 0, .bool false, .bool false, .bool false, .bool false, .bool false, .int .u64 0], .int .i64 2]) [.ret _ _ _ c0, tT] (by kernel_rfl)).to (by first | ((simp only [wk, wkL, and_true]; repeat' (first | rfl | exact True.intro | (apply wkL_put; simp only [wk, wkL, and_true]) | apply And.intro)); done) | (simp [wk, wkL, putD, u64, ]; done))
end Go.Proofs.YtojgmjfcfpclbaaGreat
