/- Contracts and plain laws that a statement's proof leans on (texts merged: XMay3, XMayA, XB0, NumA, XB1, XB2a, XB2b, XB2c, XB2d, XB2e, XBytes, XB3, XBytes2, XS1, XS2, XRW, MdE, MdP). -/
import Derived.WalkKit
import Derived.IntWalk
import Derived.KernelRfl
import Derived.LoopN
import Derived.Test.YtojgmjfcfpclbaaJ04
import Derived.Test.YtojgmjfcfpclbaaJ05
import Derived.Test.YtojgmjfcfpclbaaJ06
set_option linter.unusedVariables false
set_option linter.unusedSimpArgs false
namespace Go.Proofs.Ytojgmjfcfpclbaa
open Go Go.Ev
set_option maxRecDepth 100000
set_option maxHeartbeats 8000000
theorem mayX_9_ok (op w dst src base disp imm cc : Int) (ho : op ≤ 127) (h : (shapeM op == 9) = true) (hin : decide (0 ≤ op ∧ op ≤ 31) = true) : Ret Try.prog 32 ([xD op w dst src base disp imm cc]) (.bool (mayX op w dst src base disp imm cc)) := by
  have c0 := @of_any_ok (op) ho
  rw [show (shapeM op) = 9 from (eq_of_beq h)] at c0
  generalize g2 : codeM op = r1 at c0
  generalize g4 : numM op = r3 at c0
  have c5 := @bare_9_ok (op) (w) (dst) (src) (base) (disp) (imm) (cc) ((9 : Int)) (rfl : true = true)
  rcases Bool.eq_false_or_eq_true (eqCells [.int .i8 0, .int .i8 0, .int .i8 dst, .int .i8 src, .int .i8 base, .int .i64 disp, .int .i64 0, .int .i8 cc] [.int .i8 0, .int .i8 0, .int .i8 0, .int .i8 0, .int .i8 0, .int .i64 0, .int .i64 0, .int .i8 0]) with h6 | h6
  · skip
    have c7 := @reg_ok (dst)
    generalize g9 : regM dst = r8 at c7
    cases r8
    · skip
      exact (Ret.of_eval (d := .bool false) mixed Try.func32 (by kernel_rfl) ([.ret _ _ _ c0] ++ List.replicate 4 (tC (eF (nt hin))) ++ [.ret _ _ _ c5, tC (eF (nt hin)), tC (eF (nt hin)), .flat _ _ flat_X, tC (nt hin), tC (eF (nt h6)), tC (eF (nt h6)), tC (eF (nt h6)), .ret _ _ _ c7, tC (eF (nt h6)), tC (nt h6), tF, tF, tF, tF, tT, tF, tF, tF, tF, tT, tF, tF, tF, tF, tT, tF, tF, tF, tF, tT, tT]) (by kernel_rfl)).to (by (try simp only [decide_eq_true_eq, decide_eq_false_iff_not, Bool.not_eq_true, beq_iff_eq, beq_eq_false_iff_ne, D.bool.injEq, wk, wkL, wkO, eqCells, eqCell, mayX, regM, mayS, longM, widthM, jumpM, ccM] at *); (simp [wk, wkL, wkO, eqCells, eqCell, mayX, regM, mayS, longM, widthM, jumpM, ccM, *]; done))
    · skip
      have c10 := @reg_ok (src)
      generalize g12 : regM src = r11 at c10
      cases r11
      · skip
        exact (Ret.of_eval (d := .bool false) mixed Try.func32 (by kernel_rfl) ([.ret _ _ _ c0] ++ List.replicate 4 (tC (eF (nt hin))) ++ [.ret _ _ _ c5, tC (eF (nt hin)), tC (eF (nt hin)), .flat _ _ flat_X, tC (nt hin), tC (eF (nt h6)), tC (eF (nt h6)), tC (eF (nt h6)), .ret _ _ _ c7, tC (eF (nt h6)), tC (nt h6), tT, tT, tT, .ret _ _ _ c10, tT, tF, tF, tF, tF, tF, tT, tF, tF, tF, tF, tT, tF, tF, tF, tF, tT, tT]) (by kernel_rfl)).to (by (try simp only [decide_eq_true_eq, decide_eq_false_iff_not, Bool.not_eq_true, beq_iff_eq, beq_eq_false_iff_ne, D.bool.injEq, wk, wkL, wkO, eqCells, eqCell, mayX, regM, mayS, longM, widthM, jumpM, ccM] at *); (simp [wk, wkL, wkO, eqCells, eqCell, mayX, regM, mayS, longM, widthM, jumpM, ccM, *]; done))
      · skip
        have c13 := @reg_ok (base)
        generalize g15 : regM base = r14 at c13
        cases r14
        · skip
          exact (Ret.of_eval (d := .bool false) mixed Try.func32 (by kernel_rfl) ([.ret _ _ _ c0] ++ List.replicate 4 (tC (eF (nt hin))) ++ [.ret _ _ _ c5, tC (eF (nt hin)), tC (eF (nt hin)), .flat _ _ flat_X, tC (nt hin), tC (eF (nt h6)), tC (eF (nt h6)), tC (eF (nt h6)), .ret _ _ _ c7, tC (eF (nt h6)), tC (nt h6), tT, tT, tT, .ret _ _ _ c10, tT, tF, tT, tT, tT, .ret _ _ _ c13, tT, tF, tF, tF, tF, tF, tT, tF, tF, tF, tF, tT, tT]) (by kernel_rfl)).to (by (try simp only [decide_eq_true_eq, decide_eq_false_iff_not, Bool.not_eq_true, beq_iff_eq, beq_eq_false_iff_ne, D.bool.injEq, wk, wkL, wkO, eqCells, eqCell, mayX, regM, mayS, longM, widthM, jumpM, ccM] at *); (simp [wk, wkL, wkO, eqCells, eqCell, mayX, regM, mayS, longM, widthM, jumpM, ccM, *]; done))
        · skip
          have c16 := @within_ok (disp) ((-2147483648 : Int)) ((2147483647 : Int))
          rcases Bool.eq_false_or_eq_true (decide (disp < (-2147483648 : Int))) with h17 | h17
          · skip
            exact (Ret.of_eval (d := .bool false) mixed Try.func32 (by kernel_rfl) ([.ret _ _ _ c0] ++ List.replicate 4 (tC (eF (nt hin))) ++ [.ret _ _ _ c5, tC (eF (nt hin)), tC (eF (nt hin)), .flat _ _ flat_X, tC (nt hin), tC (eF (nt h6)), tC (eF (nt h6)), tC (eF (nt h6)), .ret _ _ _ c7, tC (eF (nt h6)), tC (nt h6), tT, tT, tT, .ret _ _ _ c10, tT, tF, tT, tT, tT, .ret _ _ _ c13, tT, tF, tT, tT, tT, .ret _ _ _ c16, tT, tF] ++ List.replicate 4 (tC (eF (nt (andF (y := decide (disp ≤ (2147483647 : Int))) (leL (-2147483648) h17))))) ++ [tC (nt (andF (y := decide (disp ≤ (2147483647 : Int))) (leL (-2147483648) h17))), tT]) (by kernel_rfl)).to (by (try simp only [decide_eq_true_eq, decide_eq_false_iff_not, Bool.not_eq_true, beq_iff_eq, beq_eq_false_iff_ne, D.bool.injEq, wk, wkL, wkO, eqCells, eqCell, mayX, regM, mayS, longM, widthM, jumpM, ccM] at *); (simp [wk, wkL, wkO, eqCells, eqCell, mayX, regM, mayS, longM, widthM, jumpM, ccM, *]; omega))
          · skip
            rcases Bool.eq_false_or_eq_true (decide (disp < (2147483648 : Int))) with h18 | h18
            · skip
              have c19 := @within_ok (imm) ((-2147483648 : Int)) ((2147483647 : Int))
              rcases Bool.eq_false_or_eq_true (decide (imm < (-2147483648 : Int))) with h20 | h20
              · skip
                exact (Ret.of_eval (d := .bool false) mixed Try.func32 (by kernel_rfl) ([.ret _ _ _ c0] ++ List.replicate 4 (tC (eF (nt hin))) ++ [.ret _ _ _ c5, tC (eF (nt hin)), tC (eF (nt hin)), .flat _ _ flat_X, tC (nt hin), tC (eF (nt h6)), tC (eF (nt h6)), tC (eF (nt h6)), .ret _ _ _ c7, tC (eF (nt h6)), tC (nt h6), tT, tT, tT, .ret _ _ _ c10, tT, tF, tT, tT, tT, .ret _ _ _ c13, tT, tF, tT, tT, tT, .ret _ _ _ c16, tT, tF] ++ List.replicate 3 (tC (eF (nt (andT (leL (-2147483648) h17) (leC 2147483647 h18))))) ++ [.ret _ _ _ c19, tC (eF (nt (andT (leL (-2147483648) h17) (leC 2147483647 h18)))), tC (nt (andT (leL (-2147483648) h17) (leC 2147483647 h18))), tC (nt (andF (y := decide (imm ≤ (2147483647 : Int))) (leL (-2147483648) h20)))]) (by kernel_rfl)).to (by (try simp only [decide_eq_true_eq, decide_eq_false_iff_not, Bool.not_eq_true, beq_iff_eq, beq_eq_false_iff_ne, D.bool.injEq, wk, wkL, wkO, eqCells, eqCell, mayX, regM, mayS, longM, widthM, jumpM, ccM] at *); (simp [wk, wkL, wkO, eqCells, eqCell, mayX, regM, mayS, longM, widthM, jumpM, ccM, *]; omega))
              · skip
                rcases Bool.eq_false_or_eq_true (decide (imm < (2147483648 : Int))) with h21 | h21
                · skip
                  by_cases h22 : w = 32
                  · subst h22
                    exact (Ret.of_eval (d := .bool true) mixed Try.func32 (by kernel_rfl) ([.ret _ _ _ c0] ++ List.replicate 4 (tC (eF (nt hin))) ++ [.ret _ _ _ c5, tC (eF (nt hin)), tC (eF (nt hin)), .flat _ _ flat_X, tC (nt hin), tC (eF (nt h6)), tC (eF (nt h6)), tC (eF (nt h6)), .ret _ _ _ c7, tC (eF (nt h6)), tC (nt h6), tT, tT, tT, .ret _ _ _ c10, tT, tF, tT, tT, tT, .ret _ _ _ c13, tT, tF, tT, tT, tT, .ret _ _ _ c16, tT, tF] ++ List.replicate 3 (tC (eF (nt (andT (leL (-2147483648) h17) (leC 2147483647 h18))))) ++ [.ret _ _ _ c19, tC (eF (nt (andT (leL (-2147483648) h17) (leC 2147483647 h18)))), tC (nt (andT (leL (-2147483648) h17) (leC 2147483647 h18))), tC (nt (andT (leL (-2147483648) h20) (leC 2147483647 h21))), tF, tF, tF, tT, tF, tF, tF, tF, tF, tT, tF, tF, tF, tF, tF, tF, tF, tF, tT]) (by kernel_rfl)).to (by (try simp only [decide_eq_true_eq, decide_eq_false_iff_not, Bool.not_eq_true, beq_iff_eq, beq_eq_false_iff_ne, D.bool.injEq, wk, wkL, wkO, eqCells, eqCell, mayX, regM, mayS, longM, widthM, jumpM, ccM] at *); (rw [Bool.eq_iff_iff]; simp [wk, wkL, wkO, eqCells, eqCell, mayX, regM, mayS, longM, widthM, jumpM, ccM, *]; grind))
                  · skip
                    by_cases h23 : w = 8
                    · subst h23
                      have c24 := @within_ok (imm) ((-128 : Int)) ((127 : Int))
                      exact (Ret.of_eval (d := .bool (decide ((-128 : Int) ≤ imm) && decide (imm ≤ (127 : Int)))) mixed Try.func32 (by kernel_rfl) ([.ret _ _ _ c0] ++ List.replicate 4 (tC (eF (nt hin))) ++ [.ret _ _ _ c5, tC (eF (nt hin)), tC (eF (nt hin)), .flat _ _ flat_X, tC (nt hin), tC (eF (nt h6)), tC (eF (nt h6)), tC (eF (nt h6)), .ret _ _ _ c7, tC (eF (nt h6)), tC (nt h6), tT, tT, tT, .ret _ _ _ c10, tT, tF, tT, tT, tT, .ret _ _ _ c13, tT, tF, tT, tT, tT, .ret _ _ _ c16, tT, tF] ++ List.replicate 3 (tC (eF (nt (andT (leL (-2147483648) h17) (leC 2147483647 h18))))) ++ [.ret _ _ _ c19, tC (eF (nt (andT (leL (-2147483648) h17) (leC 2147483647 h18)))), tC (nt (andT (leL (-2147483648) h17) (leC 2147483647 h18))), tC (nt (andT (leL (-2147483648) h20) (leC 2147483647 h21)))] ++ List.replicate 3 (tC (eF (neOf h22))) ++ [tC (neOf h22)] ++ List.replicate 4 (tC (eF (neOf h22))) ++ [tT, tT, tT, .ret _ _ _ c24, tT, tT, tF, tF, tF, tF, tF, tF, tF, tF, tF, tT]) (by kernel_rfl)).to (by (try simp only [decide_eq_true_eq, decide_eq_false_iff_not, Bool.not_eq_true, beq_iff_eq, beq_eq_false_iff_ne, D.bool.injEq, wk, wkL, wkO, eqCells, eqCell, mayX, regM, mayS, longM, widthM, jumpM, ccM] at *); (rw [Bool.eq_iff_iff]; simp [wk, wkL, wkO, eqCells, eqCell, mayX, regM, mayS, longM, widthM, jumpM, ccM, *]; grind))
                    · skip
                      exact (Ret.of_eval (d := .bool false) mixed Try.func32 (by kernel_rfl) ([.ret _ _ _ c0] ++ List.replicate 4 (tC (eF (nt hin))) ++ [.ret _ _ _ c5, tC (eF (nt hin)), tC (eF (nt hin)), .flat _ _ flat_X, tC (nt hin), tC (eF (nt h6)), tC (eF (nt h6)), tC (eF (nt h6)), .ret _ _ _ c7, tC (eF (nt h6)), tC (nt h6), tT, tT, tT, .ret _ _ _ c10, tT, tF, tT, tT, tT, .ret _ _ _ c13, tT, tF, tT, tT, tT, .ret _ _ _ c16, tT, tF] ++ List.replicate 3 (tC (eF (nt (andT (leL (-2147483648) h17) (leC 2147483647 h18))))) ++ [.ret _ _ _ c19, tC (eF (nt (andT (leL (-2147483648) h17) (leC 2147483647 h18)))), tC (nt (andT (leL (-2147483648) h17) (leC 2147483647 h18))), tC (nt (andT (leL (-2147483648) h20) (leC 2147483647 h21)))] ++ List.replicate 3 (tC (eF (neOf h22))) ++ [tC (neOf h22)] ++ List.replicate 4 (tC (eF (neOf h22))) ++ List.replicate 3 (tC (eT (neOf h23))) ++ [tC (eF (neOf h22)), tC (neOf h23), tC (neOf h22), tF, tF, tF, tF, tF, tF, tF, tF, tT]) (by kernel_rfl)).to (by (try simp only [decide_eq_true_eq, decide_eq_false_iff_not, Bool.not_eq_true, beq_iff_eq, beq_eq_false_iff_ne, D.bool.injEq, wk, wkL, wkO, eqCells, eqCell, mayX, regM, mayS, longM, widthM, jumpM, ccM] at *); (simp [wk, wkL, wkO, eqCells, eqCell, mayX, regM, mayS, longM, widthM, jumpM, ccM, *]; done))
                · skip
                  exact (Ret.of_eval (d := .bool false) mixed Try.func32 (by kernel_rfl) ([.ret _ _ _ c0] ++ List.replicate 4 (tC (eF (nt hin))) ++ [.ret _ _ _ c5, tC (eF (nt hin)), tC (eF (nt hin)), .flat _ _ flat_X, tC (nt hin), tC (eF (nt h6)), tC (eF (nt h6)), tC (eF (nt h6)), .ret _ _ _ c7, tC (eF (nt h6)), tC (nt h6), tT, tT, tT, .ret _ _ _ c10, tT, tF, tT, tT, tT, .ret _ _ _ c13, tT, tF, tT, tT, tT, .ret _ _ _ c16, tT, tF] ++ List.replicate 3 (tC (eF (nt (andT (leL (-2147483648) h17) (leC 2147483647 h18))))) ++ [.ret _ _ _ c19, tC (eF (nt (andT (leL (-2147483648) h17) (leC 2147483647 h18)))), tC (nt (andT (leL (-2147483648) h17) (leC 2147483647 h18))), tC (nt (andT (leL (-2147483648) h20) (leC 2147483647 h21)))]) (by kernel_rfl)).to (by (try simp only [decide_eq_true_eq, decide_eq_false_iff_not, Bool.not_eq_true, beq_iff_eq, beq_eq_false_iff_ne, D.bool.injEq, wk, wkL, wkO, eqCells, eqCell, mayX, regM, mayS, longM, widthM, jumpM, ccM] at *); (simp [wk, wkL, wkO, eqCells, eqCell, mayX, regM, mayS, longM, widthM, jumpM, ccM, *]; omega))
            · skip
              exact (Ret.of_eval (d := .bool false) mixed Try.func32 (by kernel_rfl) ([.ret _ _ _ c0] ++ List.replicate 4 (tC (eF (nt hin))) ++ [.ret _ _ _ c5, tC (eF (nt hin)), tC (eF (nt hin)), .flat _ _ flat_X, tC (nt hin), tC (eF (nt h6)), tC (eF (nt h6)), tC (eF (nt h6)), .ret _ _ _ c7, tC (eF (nt h6)), tC (nt h6), tT, tT, tT, .ret _ _ _ c10, tT, tF, tT, tT, tT, .ret _ _ _ c13, tT, tF, tT, tT, tT, .ret _ _ _ c16, tT, tF] ++ List.replicate 4 (tC (eF (nt (andT (leL (-2147483648) h17) (leC 2147483647 h18))))) ++ [tC (nt (andT (leL (-2147483648) h17) (leC 2147483647 h18))), tT]) (by kernel_rfl)).to (by (try simp only [decide_eq_true_eq, decide_eq_false_iff_not, Bool.not_eq_true, beq_iff_eq, beq_eq_false_iff_ne, D.bool.injEq, wk, wkL, wkO, eqCells, eqCell, mayX, regM, mayS, longM, widthM, jumpM, ccM] at *); (simp [wk, wkL, wkO, eqCells, eqCell, mayX, regM, mayS, longM, widthM, jumpM, ccM, *]; omega))
  · skip
    exact (Ret.of_eval (d := .bool false) mixed Try.func32 (by kernel_rfl) ([.ret _ _ _ c0] ++ List.replicate 4 (tC (eF (nt hin))) ++ [.ret _ _ _ c5, tC (eF (nt hin)), tC (eF (nt hin)), .flat _ _ flat_X, tC (nt hin)] ++ List.replicate 4 (tC (eF (nt h6))) ++ [tC (nt h6), tF, tF, tF, tF, tT, tF, tF, tF, tF, tT, tF, tF, tF, tF, tT, tF, tF, tF, tF, tT, tT]) (by kernel_rfl)).to (by (try simp only [decide_eq_true_eq, decide_eq_false_iff_not, Bool.not_eq_true, beq_iff_eq, beq_eq_false_iff_ne, D.bool.injEq, wk, wkL, wkO, eqCells, eqCell, mayX, regM, mayS, longM, widthM, jumpM, ccM] at *); (rw [Bool.eq_iff_iff]; simp [wk, wkL, wkO, eqCells, eqCell, mayX, regM, mayS, longM, widthM, jumpM, ccM, *]; grind))
theorem mayX_10_ok (op w dst src base disp imm cc : Int) (ho : op ≤ 127) (h : (shapeM op == 10) = true) (hin : decide (0 ≤ op ∧ op ≤ 31) = true) : Ret Try.prog 32 ([xD op w dst src base disp imm cc]) (.bool (mayX op w dst src base disp imm cc)) := by
  have c0 := @of_any_ok (op) ho
  rw [show (shapeM op) = 10 from (eq_of_beq h)] at c0
  generalize g2 : codeM op = r1 at c0
  generalize g4 : numM op = r3 at c0
  have c5 := @bare_10_ok (op) (w) (dst) (src) (base) (disp) (imm) (cc) ((10 : Int)) (rfl : true = true)
  rcases Bool.eq_false_or_eq_true (eqCells [.int .i8 0, .int .i8 0, .int .i8 dst, .int .i8 src, .int .i8 base, .int .i64 disp, .int .i64 0, .int .i8 0] [.int .i8 0, .int .i8 0, .int .i8 0, .int .i8 0, .int .i8 0, .int .i64 0, .int .i64 0, .int .i8 0]) with h6 | h6
  · skip
    have c7 := @reg_ok (dst)
    generalize g9 : regM dst = r8 at c7
    cases r8
    · skip
      exact (Ret.of_eval (d := .bool false) mixed Try.func32 (by kernel_rfl) ([.ret _ _ _ c0] ++ List.replicate 4 (tC (eF (nt hin))) ++ [.ret _ _ _ c5, tC (eF (nt hin)), tC (eF (nt hin)), .flat _ _ flat_X, tC (nt hin), tC (eF (nt h6)), tC (eF (nt h6)), tC (eF (nt h6)), .ret _ _ _ c7, tC (eF (nt h6)), tC (nt h6), tF, tF, tF, tF, tT, tF, tF, tF, tF, tT, tF, tF, tF, tF, tT, tF, tF, tF, tF, tT, tT]) (by kernel_rfl)).to (by (try simp only [decide_eq_true_eq, decide_eq_false_iff_not, Bool.not_eq_true, beq_iff_eq, beq_eq_false_iff_ne, D.bool.injEq, wk, wkL, wkO, eqCells, eqCell, mayX, regM, mayS, longM, widthM, jumpM, ccM] at *); (simp [wk, wkL, wkO, eqCells, eqCell, mayX, regM, mayS, longM, widthM, jumpM, ccM, *]; done))
    · skip
      have c10 := @reg_ok (src)
      generalize g12 : regM src = r11 at c10
      cases r11
      · skip
        exact (Ret.of_eval (d := .bool false) mixed Try.func32 (by kernel_rfl) ([.ret _ _ _ c0] ++ List.replicate 4 (tC (eF (nt hin))) ++ [.ret _ _ _ c5, tC (eF (nt hin)), tC (eF (nt hin)), .flat _ _ flat_X, tC (nt hin), tC (eF (nt h6)), tC (eF (nt h6)), tC (eF (nt h6)), .ret _ _ _ c7, tC (eF (nt h6)), tC (nt h6), tT, tT, tT, .ret _ _ _ c10, tT, tF, tF, tF, tF, tF, tT, tF, tF, tF, tF, tT, tF, tF, tF, tF, tT, tT]) (by kernel_rfl)).to (by (try simp only [decide_eq_true_eq, decide_eq_false_iff_not, Bool.not_eq_true, beq_iff_eq, beq_eq_false_iff_ne, D.bool.injEq, wk, wkL, wkO, eqCells, eqCell, mayX, regM, mayS, longM, widthM, jumpM, ccM] at *); (simp [wk, wkL, wkO, eqCells, eqCell, mayX, regM, mayS, longM, widthM, jumpM, ccM, *]; done))
      · skip
        have c13 := @reg_ok (base)
        generalize g15 : regM base = r14 at c13
        cases r14
        · skip
          exact (Ret.of_eval (d := .bool false) mixed Try.func32 (by kernel_rfl) ([.ret _ _ _ c0] ++ List.replicate 4 (tC (eF (nt hin))) ++ [.ret _ _ _ c5, tC (eF (nt hin)), tC (eF (nt hin)), .flat _ _ flat_X, tC (nt hin), tC (eF (nt h6)), tC (eF (nt h6)), tC (eF (nt h6)), .ret _ _ _ c7, tC (eF (nt h6)), tC (nt h6), tT, tT, tT, .ret _ _ _ c10, tT, tF, tT, tT, tT, .ret _ _ _ c13, tT, tF, tF, tF, tF, tF, tT, tF, tF, tF, tF, tT, tT]) (by kernel_rfl)).to (by (try simp only [decide_eq_true_eq, decide_eq_false_iff_not, Bool.not_eq_true, beq_iff_eq, beq_eq_false_iff_ne, D.bool.injEq, wk, wkL, wkO, eqCells, eqCell, mayX, regM, mayS, longM, widthM, jumpM, ccM] at *); (simp [wk, wkL, wkO, eqCells, eqCell, mayX, regM, mayS, longM, widthM, jumpM, ccM, *]; done))
        · skip
          have c16 := @within_ok (disp) ((-2147483648 : Int)) ((2147483647 : Int))
          rcases Bool.eq_false_or_eq_true (decide (disp < (-2147483648 : Int))) with h17 | h17
          · skip
            exact (Ret.of_eval (d := .bool false) mixed Try.func32 (by kernel_rfl) ([.ret _ _ _ c0] ++ List.replicate 4 (tC (eF (nt hin))) ++ [.ret _ _ _ c5, tC (eF (nt hin)), tC (eF (nt hin)), .flat _ _ flat_X, tC (nt hin), tC (eF (nt h6)), tC (eF (nt h6)), tC (eF (nt h6)), .ret _ _ _ c7, tC (eF (nt h6)), tC (nt h6), tT, tT, tT, .ret _ _ _ c10, tT, tF, tT, tT, tT, .ret _ _ _ c13, tT, tF, tT, tT, tT, .ret _ _ _ c16, tT, tF] ++ List.replicate 4 (tC (eF (nt (andF (y := decide (disp ≤ (2147483647 : Int))) (leL (-2147483648) h17))))) ++ [tC (nt (andF (y := decide (disp ≤ (2147483647 : Int))) (leL (-2147483648) h17))), tT]) (by kernel_rfl)).to (by (try simp only [decide_eq_true_eq, decide_eq_false_iff_not, Bool.not_eq_true, beq_iff_eq, beq_eq_false_iff_ne, D.bool.injEq, wk, wkL, wkO, eqCells, eqCell, mayX, regM, mayS, longM, widthM, jumpM, ccM] at *); (simp [wk, wkL, wkO, eqCells, eqCell, mayX, regM, mayS, longM, widthM, jumpM, ccM, *]; omega))
          · skip
            rcases Bool.eq_false_or_eq_true (decide (disp < (2147483648 : Int))) with h18 | h18
            · skip
              have c19 := @within_ok (imm) ((-2147483648 : Int)) ((2147483647 : Int))
              rcases Bool.eq_false_or_eq_true (decide (imm < (-2147483648 : Int))) with h20 | h20
              · skip
                exact (Ret.of_eval (d := .bool false) mixed Try.func32 (by kernel_rfl) ([.ret _ _ _ c0] ++ List.replicate 4 (tC (eF (nt hin))) ++ [.ret _ _ _ c5, tC (eF (nt hin)), tC (eF (nt hin)), .flat _ _ flat_X, tC (nt hin), tC (eF (nt h6)), tC (eF (nt h6)), tC (eF (nt h6)), .ret _ _ _ c7, tC (eF (nt h6)), tC (nt h6), tT, tT, tT, .ret _ _ _ c10, tT, tF, tT, tT, tT, .ret _ _ _ c13, tT, tF, tT, tT, tT, .ret _ _ _ c16, tT, tF] ++ List.replicate 3 (tC (eF (nt (andT (leL (-2147483648) h17) (leC 2147483647 h18))))) ++ [.ret _ _ _ c19, tC (eF (nt (andT (leL (-2147483648) h17) (leC 2147483647 h18)))), tC (nt (andT (leL (-2147483648) h17) (leC 2147483647 h18))), tC (nt (andF (y := decide (imm ≤ (2147483647 : Int))) (leL (-2147483648) h20)))]) (by kernel_rfl)).to (by (try simp only [decide_eq_true_eq, decide_eq_false_iff_not, Bool.not_eq_true, beq_iff_eq, beq_eq_false_iff_ne, D.bool.injEq, wk, wkL, wkO, eqCells, eqCell, mayX, regM, mayS, longM, widthM, jumpM, ccM] at *); (simp [wk, wkL, wkO, eqCells, eqCell, mayX, regM, mayS, longM, widthM, jumpM, ccM, *]; omega))
              · skip
                rcases Bool.eq_false_or_eq_true (decide (imm < (2147483648 : Int))) with h21 | h21
                · skip
                  by_cases h22 : w = 32
                  · subst h22
                    have c23 := @cond_ok (cc)
                    generalize g25 : ccM cc = r24 at c23
                    exact (Ret.of_eval (d := .bool r24) mixed Try.func32 (by kernel_rfl) ([.ret _ _ _ c0] ++ List.replicate 4 (tC (eF (nt hin))) ++ [.ret _ _ _ c5, tC (eF (nt hin)), tC (eF (nt hin)), .flat _ _ flat_X, tC (nt hin), tC (eF (nt h6)), tC (eF (nt h6)), tC (eF (nt h6)), .ret _ _ _ c7, tC (eF (nt h6)), tC (nt h6), tT, tT, tT, .ret _ _ _ c10, tT, tF, tT, tT, tT, .ret _ _ _ c13, tT, tF, tT, tT, tT, .ret _ _ _ c16, tT, tF] ++ List.replicate 3 (tC (eF (nt (andT (leL (-2147483648) h17) (leC 2147483647 h18))))) ++ [.ret _ _ _ c19, tC (eF (nt (andT (leL (-2147483648) h17) (leC 2147483647 h18)))), tC (nt (andT (leL (-2147483648) h17) (leC 2147483647 h18))), tC (nt (andT (leL (-2147483648) h20) (leC 2147483647 h21))), tF, tF, tF, tT, tF, tF, tF, tF, tF, tT, tF, tF, tF, tF, tF, tF, tF, tF, tF, tT, tT, tT, tT, .ret _ _ _ c23, tT]) (by kernel_rfl)).to (by (try simp only [decide_eq_true_eq, decide_eq_false_iff_not, Bool.not_eq_true, beq_iff_eq, beq_eq_false_iff_ne, D.bool.injEq, wk, wkL, wkO, eqCells, eqCell, mayX, regM, mayS, longM, widthM, jumpM, ccM] at *); (rw [Bool.eq_iff_iff]; simp [wk, wkL, wkO, eqCells, eqCell, mayX, regM, mayS, longM, widthM, jumpM, ccM, *]; grind))
                  · skip
                    by_cases h26 : w = 8
                    · subst h26
                      have c27 := @within_ok (imm) ((-128 : Int)) ((127 : Int))
                      rcases Bool.eq_false_or_eq_true (decide (imm < (-128 : Int))) with h28 | h28
                      · skip
                        exact (Ret.of_eval (d := .bool false) mixed Try.func32 (by kernel_rfl) ([.ret _ _ _ c0] ++ List.replicate 4 (tC (eF (nt hin))) ++ [.ret _ _ _ c5, tC (eF (nt hin)), tC (eF (nt hin)), .flat _ _ flat_X, tC (nt hin), tC (eF (nt h6)), tC (eF (nt h6)), tC (eF (nt h6)), .ret _ _ _ c7, tC (eF (nt h6)), tC (nt h6), tT, tT, tT, .ret _ _ _ c10, tT, tF, tT, tT, tT, .ret _ _ _ c13, tT, tF, tT, tT, tT, .ret _ _ _ c16, tT, tF] ++ List.replicate 3 (tC (eF (nt (andT (leL (-2147483648) h17) (leC 2147483647 h18))))) ++ [.ret _ _ _ c19, tC (eF (nt (andT (leL (-2147483648) h17) (leC 2147483647 h18)))), tC (nt (andT (leL (-2147483648) h17) (leC 2147483647 h18))), tC (nt (andT (leL (-2147483648) h20) (leC 2147483647 h21)))] ++ List.replicate 3 (tC (eF (neOf h22))) ++ [tC (neOf h22)] ++ List.replicate 4 (tC (eF (neOf h22))) ++ [tT, tT, tT, .ret _ _ _ c27, tT, tT, tF, tF, tF, tF, tF, tF, tF, tF, tF, tF, tT] ++ List.replicate 3 (tC (eT (andF (y := decide (imm ≤ (127 : Int))) (leL (-128) h28)))) ++ [tC (andF (y := decide (imm ≤ (127 : Int))) (leL (-128) h28))]) (by kernel_rfl)).to (by (try simp only [decide_eq_true_eq, decide_eq_false_iff_not, Bool.not_eq_true, beq_iff_eq, beq_eq_false_iff_ne, D.bool.injEq, wk, wkL, wkO, eqCells, eqCell, mayX, regM, mayS, longM, widthM, jumpM, ccM] at *); (simp [wk, wkL, wkO, eqCells, eqCell, mayX, regM, mayS, longM, widthM, jumpM, ccM, *]; omega))
                      · skip
                        rcases Bool.eq_false_or_eq_true (decide (imm < (128 : Int))) with h29 | h29
                        · skip
                          have c30 := @cond_ok (cc)
                          generalize g32 : ccM cc = r31 at c30
                          exact (Ret.of_eval (d := .bool r31) mixed Try.func32 (by kernel_rfl) ([.ret _ _ _ c0] ++ List.replicate 4 (tC (eF (nt hin))) ++ [.ret _ _ _ c5, tC (eF (nt hin)), tC (eF (nt hin)), .flat _ _ flat_X, tC (nt hin), tC (eF (nt h6)), tC (eF (nt h6)), tC (eF (nt h6)), .ret _ _ _ c7, tC (eF (nt h6)), tC (nt h6), tT, tT, tT, .ret _ _ _ c10, tT, tF, tT, tT, tT, .ret _ _ _ c13, tT, tF, tT, tT, tT, .ret _ _ _ c16, tT, tF] ++ List.replicate 3 (tC (eF (nt (andT (leL (-2147483648) h17) (leC 2147483647 h18))))) ++ [.ret _ _ _ c19, tC (eF (nt (andT (leL (-2147483648) h17) (leC 2147483647 h18)))), tC (nt (andT (leL (-2147483648) h17) (leC 2147483647 h18))), tC (nt (andT (leL (-2147483648) h20) (leC 2147483647 h21)))] ++ List.replicate 3 (tC (eF (neOf h22))) ++ [tC (neOf h22)] ++ List.replicate 4 (tC (eF (neOf h22))) ++ [tT, tT, tT, .ret _ _ _ c27, tT, tT, tF, tF, tF, tF, tF, tF, tF, tF, tF, tF, tT] ++ List.replicate 3 (tC (eT (andT (leL (-128) h28) (leC 127 h29)))) ++ [.ret _ _ _ c30, tC (andT (leL (-128) h28) (leC 127 h29))]) (by kernel_rfl)).to (by (try simp only [decide_eq_true_eq, decide_eq_false_iff_not, Bool.not_eq_true, beq_iff_eq, beq_eq_false_iff_ne, D.bool.injEq, wk, wkL, wkO, eqCells, eqCell, mayX, regM, mayS, longM, widthM, jumpM, ccM] at *); (rw [Bool.eq_iff_iff]; simp [wk, wkL, wkO, eqCells, eqCell, mayX, regM, mayS, longM, widthM, jumpM, ccM, *]; grind))
                        · skip
                          exact (Ret.of_eval (d := .bool false) mixed Try.func32 (by kernel_rfl) ([.ret _ _ _ c0] ++ List.replicate 4 (tC (eF (nt hin))) ++ [.ret _ _ _ c5, tC (eF (nt hin)), tC (eF (nt hin)), .flat _ _ flat_X, tC (nt hin), tC (eF (nt h6)), tC (eF (nt h6)), tC (eF (nt h6)), .ret _ _ _ c7, tC (eF (nt h6)), tC (nt h6), tT, tT, tT, .ret _ _ _ c10, tT, tF, tT, tT, tT, .ret _ _ _ c13, tT, tF, tT, tT, tT, .ret _ _ _ c16, tT, tF] ++ List.replicate 3 (tC (eF (nt (andT (leL (-2147483648) h17) (leC 2147483647 h18))))) ++ [.ret _ _ _ c19, tC (eF (nt (andT (leL (-2147483648) h17) (leC 2147483647 h18)))), tC (nt (andT (leL (-2147483648) h17) (leC 2147483647 h18))), tC (nt (andT (leL (-2147483648) h20) (leC 2147483647 h21)))] ++ List.replicate 3 (tC (eF (neOf h22))) ++ [tC (neOf h22)] ++ List.replicate 4 (tC (eF (neOf h22))) ++ [tT, tT, tT, .ret _ _ _ c27, tT, tT, tF, tF, tF, tF, tF, tF, tF, tF, tF, tF, tT] ++ List.replicate 3 (tC (eT (andT (leL (-128) h28) (leC 127 h29)))) ++ [tC (andT (leL (-128) h28) (leC 127 h29))]) (by kernel_rfl)).to (by (try simp only [decide_eq_true_eq, decide_eq_false_iff_not, Bool.not_eq_true, beq_iff_eq, beq_eq_false_iff_ne, D.bool.injEq, wk, wkL, wkO, eqCells, eqCell, mayX, regM, mayS, longM, widthM, jumpM, ccM] at *); (simp [wk, wkL, wkO, eqCells, eqCell, mayX, regM, mayS, longM, widthM, jumpM, ccM, *]; omega))
                    · skip
                      exact (Ret.of_eval (d := .bool false) mixed Try.func32 (by kernel_rfl) ([.ret _ _ _ c0] ++ List.replicate 4 (tC (eF (nt hin))) ++ [.ret _ _ _ c5, tC (eF (nt hin)), tC (eF (nt hin)), .flat _ _ flat_X, tC (nt hin), tC (eF (nt h6)), tC (eF (nt h6)), tC (eF (nt h6)), .ret _ _ _ c7, tC (eF (nt h6)), tC (nt h6), tT, tT, tT, .ret _ _ _ c10, tT, tF, tT, tT, tT, .ret _ _ _ c13, tT, tF, tT, tT, tT, .ret _ _ _ c16, tT, tF] ++ List.replicate 3 (tC (eF (nt (andT (leL (-2147483648) h17) (leC 2147483647 h18))))) ++ [.ret _ _ _ c19, tC (eF (nt (andT (leL (-2147483648) h17) (leC 2147483647 h18)))), tC (nt (andT (leL (-2147483648) h17) (leC 2147483647 h18))), tC (nt (andT (leL (-2147483648) h20) (leC 2147483647 h21)))] ++ List.replicate 3 (tC (eF (neOf h22))) ++ [tC (neOf h22)] ++ List.replicate 4 (tC (eF (neOf h22))) ++ List.replicate 3 (tC (eT (neOf h26))) ++ [tC (eF (neOf h22)), tC (neOf h26), tC (neOf h22), tF, tF, tF, tF, tF, tF, tF, tF, tF, tT, tF, tF, tF, tF]) (by kernel_rfl)).to (by (try simp only [decide_eq_true_eq, decide_eq_false_iff_not, Bool.not_eq_true, beq_iff_eq, beq_eq_false_iff_ne, D.bool.injEq, wk, wkL, wkO, eqCells, eqCell, mayX, regM, mayS, longM, widthM, jumpM, ccM] at *); (simp [wk, wkL, wkO, eqCells, eqCell, mayX, regM, mayS, longM, widthM, jumpM, ccM, *]; done))
                · skip
                  exact (Ret.of_eval (d := .bool false) mixed Try.func32 (by kernel_rfl) ([.ret _ _ _ c0] ++ List.replicate 4 (tC (eF (nt hin))) ++ [.ret _ _ _ c5, tC (eF (nt hin)), tC (eF (nt hin)), .flat _ _ flat_X, tC (nt hin), tC (eF (nt h6)), tC (eF (nt h6)), tC (eF (nt h6)), .ret _ _ _ c7, tC (eF (nt h6)), tC (nt h6), tT, tT, tT, .ret _ _ _ c10, tT, tF, tT, tT, tT, .ret _ _ _ c13, tT, tF, tT, tT, tT, .ret _ _ _ c16, tT, tF] ++ List.replicate 3 (tC (eF (nt (andT (leL (-2147483648) h17) (leC 2147483647 h18))))) ++ [.ret _ _ _ c19, tC (eF (nt (andT (leL (-2147483648) h17) (leC 2147483647 h18)))), tC (nt (andT (leL (-2147483648) h17) (leC 2147483647 h18))), tC (nt (andT (leL (-2147483648) h20) (leC 2147483647 h21)))]) (by kernel_rfl)).to (by (try simp only [decide_eq_true_eq, decide_eq_false_iff_not, Bool.not_eq_true, beq_iff_eq, beq_eq_false_iff_ne, D.bool.injEq, wk, wkL, wkO, eqCells, eqCell, mayX, regM, mayS, longM, widthM, jumpM, ccM] at *); (simp [wk, wkL, wkO, eqCells, eqCell, mayX, regM, mayS, longM, widthM, jumpM, ccM, *]; omega))
            · skip
              exact (Ret.of_eval (d := .bool false) mixed Try.func32 (by kernel_rfl) ([.ret _ _ _ c0] ++ List.replicate 4 (tC (eF (nt hin))) ++ [.ret _ _ _ c5, tC (eF (nt hin)), tC (eF (nt hin)), .flat _ _ flat_X, tC (nt hin), tC (eF (nt h6)), tC (eF (nt h6)), tC (eF (nt h6)), .ret _ _ _ c7, tC (eF (nt h6)), tC (nt h6), tT, tT, tT, .ret _ _ _ c10, tT, tF, tT, tT, tT, .ret _ _ _ c13, tT, tF, tT, tT, tT, .ret _ _ _ c16, tT, tF] ++ List.replicate 4 (tC (eF (nt (andT (leL (-2147483648) h17) (leC 2147483647 h18))))) ++ [tC (nt (andT (leL (-2147483648) h17) (leC 2147483647 h18))), tT]) (by kernel_rfl)).to (by (try simp only [decide_eq_true_eq, decide_eq_false_iff_not, Bool.not_eq_true, beq_iff_eq, beq_eq_false_iff_ne, D.bool.injEq, wk, wkL, wkO, eqCells, eqCell, mayX, regM, mayS, longM, widthM, jumpM, ccM] at *); (simp [wk, wkL, wkO, eqCells, eqCell, mayX, regM, mayS, longM, widthM, jumpM, ccM, *]; omega))
  · skip
    exact (Ret.of_eval (d := .bool false) mixed Try.func32 (by kernel_rfl) ([.ret _ _ _ c0] ++ List.replicate 4 (tC (eF (nt hin))) ++ [.ret _ _ _ c5, tC (eF (nt hin)), tC (eF (nt hin)), .flat _ _ flat_X, tC (nt hin)] ++ List.replicate 4 (tC (eF (nt h6))) ++ [tC (nt h6), tF, tF, tF, tF, tT, tF, tF, tF, tF, tT, tF, tF, tF, tF, tT, tF, tF, tF, tF, tT, tT]) (by kernel_rfl)).to (by (try simp only [decide_eq_true_eq, decide_eq_false_iff_not, Bool.not_eq_true, beq_iff_eq, beq_eq_false_iff_ne, D.bool.injEq, wk, wkL, wkO, eqCells, eqCell, mayX, regM, mayS, longM, widthM, jumpM, ccM] at *); (rw [Bool.eq_iff_iff]; simp [wk, wkL, wkO, eqCells, eqCell, mayX, regM, mayS, longM, widthM, jumpM, ccM, *]; grind))
theorem mayX_11_ok (op w dst src base disp imm cc : Int) (ho : op ≤ 127) (h : (shapeM op == 11) = true) (hin : decide (0 ≤ op ∧ op ≤ 31) = true) : Ret Try.prog 32 ([xD op w dst src base disp imm cc]) (.bool (mayX op w dst src base disp imm cc)) := by
  have c0 := @of_any_ok (op) ho
  rw [show (shapeM op) = 11 from (eq_of_beq h)] at c0
  generalize g2 : codeM op = r1 at c0
  generalize g4 : numM op = r3 at c0
  have c5 := @bare_11_ok (op) (w) (dst) (src) (base) (disp) (imm) (cc) ((11 : Int)) (rfl : true = true)
  rcases Bool.eq_false_or_eq_true (eqCells [.int .i8 0, .int .i8 w, .int .i8 dst, .int .i8 src, .int .i8 base, .int .i64 disp, .int .i64 imm, .int .i8 cc] [.int .i8 0, .int .i8 0, .int .i8 0, .int .i8 0, .int .i8 0, .int .i64 0, .int .i64 0, .int .i8 0]) with h6 | h6
  · skip
    have c7 := @reg_ok (dst)
    generalize g9 : regM dst = r8 at c7
    cases r8
    · skip
      exact (Ret.of_eval (d := .bool false) mixed Try.func32 (by kernel_rfl) ([.ret _ _ _ c0] ++ List.replicate 4 (tC (eF (nt hin))) ++ [.ret _ _ _ c5, tC (eF (nt hin)), tC (eF (nt hin)), .flat _ _ flat_X, tC (nt hin), tC (eF (nt h6)), tC (eF (nt h6)), tC (eF (nt h6)), .ret _ _ _ c7, tC (eF (nt h6)), tC (nt h6), tF, tF, tF, tF, tT, tF, tF, tF, tF, tT, tF, tF, tF, tF, tT, tF, tF, tF, tF, tT, tT]) (by kernel_rfl)).to (by (try simp only [decide_eq_true_eq, decide_eq_false_iff_not, Bool.not_eq_true, beq_iff_eq, beq_eq_false_iff_ne, D.bool.injEq, wk, wkL, wkO, eqCells, eqCell, mayX, regM, mayS, longM, widthM, jumpM, ccM] at *); (simp [wk, wkL, wkO, eqCells, eqCell, mayX, regM, mayS, longM, widthM, jumpM, ccM, *]; done))
    · skip
      have c10 := @reg_ok (src)
      generalize g12 : regM src = r11 at c10
      cases r11
      · skip
        exact (Ret.of_eval (d := .bool false) mixed Try.func32 (by kernel_rfl) ([.ret _ _ _ c0] ++ List.replicate 4 (tC (eF (nt hin))) ++ [.ret _ _ _ c5, tC (eF (nt hin)), tC (eF (nt hin)), .flat _ _ flat_X, tC (nt hin), tC (eF (nt h6)), tC (eF (nt h6)), tC (eF (nt h6)), .ret _ _ _ c7, tC (eF (nt h6)), tC (nt h6), tT, tT, tT, .ret _ _ _ c10, tT, tF, tF, tF, tF, tF, tT, tF, tF, tF, tF, tT, tF, tF, tF, tF, tT, tT]) (by kernel_rfl)).to (by (try simp only [decide_eq_true_eq, decide_eq_false_iff_not, Bool.not_eq_true, beq_iff_eq, beq_eq_false_iff_ne, D.bool.injEq, wk, wkL, wkO, eqCells, eqCell, mayX, regM, mayS, longM, widthM, jumpM, ccM] at *); (simp [wk, wkL, wkO, eqCells, eqCell, mayX, regM, mayS, longM, widthM, jumpM, ccM, *]; done))
      · skip
        have c13 := @reg_ok (base)
        generalize g15 : regM base = r14 at c13
        cases r14
        · skip
          exact (Ret.of_eval (d := .bool false) mixed Try.func32 (by kernel_rfl) ([.ret _ _ _ c0] ++ List.replicate 4 (tC (eF (nt hin))) ++ [.ret _ _ _ c5, tC (eF (nt hin)), tC (eF (nt hin)), .flat _ _ flat_X, tC (nt hin), tC (eF (nt h6)), tC (eF (nt h6)), tC (eF (nt h6)), .ret _ _ _ c7, tC (eF (nt h6)), tC (nt h6), tT, tT, tT, .ret _ _ _ c10, tT, tF, tT, tT, tT, .ret _ _ _ c13, tT, tF, tF, tF, tF, tF, tT, tF, tF, tF, tF, tT, tT]) (by kernel_rfl)).to (by (try simp only [decide_eq_true_eq, decide_eq_false_iff_not, Bool.not_eq_true, beq_iff_eq, beq_eq_false_iff_ne, D.bool.injEq, wk, wkL, wkO, eqCells, eqCell, mayX, regM, mayS, longM, widthM, jumpM, ccM] at *); (simp [wk, wkL, wkO, eqCells, eqCell, mayX, regM, mayS, longM, widthM, jumpM, ccM, *]; done))
        · skip
          have c16 := @within_ok (disp) ((-2147483648 : Int)) ((2147483647 : Int))
          rcases Bool.eq_false_or_eq_true (decide (disp < (-2147483648 : Int))) with h17 | h17
          · skip
            exact (Ret.of_eval (d := .bool false) mixed Try.func32 (by kernel_rfl) ([.ret _ _ _ c0] ++ List.replicate 4 (tC (eF (nt hin))) ++ [.ret _ _ _ c5, tC (eF (nt hin)), tC (eF (nt hin)), .flat _ _ flat_X, tC (nt hin), tC (eF (nt h6)), tC (eF (nt h6)), tC (eF (nt h6)), .ret _ _ _ c7, tC (eF (nt h6)), tC (nt h6), tT, tT, tT, .ret _ _ _ c10, tT, tF, tT, tT, tT, .ret _ _ _ c13, tT, tF, tT, tT, tT, .ret _ _ _ c16, tT, tF] ++ List.replicate 4 (tC (eF (nt (andF (y := decide (disp ≤ (2147483647 : Int))) (leL (-2147483648) h17))))) ++ [tC (nt (andF (y := decide (disp ≤ (2147483647 : Int))) (leL (-2147483648) h17))), tT]) (by kernel_rfl)).to (by (try simp only [decide_eq_true_eq, decide_eq_false_iff_not, Bool.not_eq_true, beq_iff_eq, beq_eq_false_iff_ne, D.bool.injEq, wk, wkL, wkO, eqCells, eqCell, mayX, regM, mayS, longM, widthM, jumpM, ccM] at *); (simp [wk, wkL, wkO, eqCells, eqCell, mayX, regM, mayS, longM, widthM, jumpM, ccM, *]; omega))
          · skip
            rcases Bool.eq_false_or_eq_true (decide (disp < (2147483648 : Int))) with h18 | h18
            · skip
              have c19 := @within_ok (imm) ((-2147483648 : Int)) ((2147483647 : Int))
              rcases Bool.eq_false_or_eq_true (decide (imm < (-2147483648 : Int))) with h20 | h20
              · skip
                exact (Ret.of_eval (d := .bool false) mixed Try.func32 (by kernel_rfl) ([.ret _ _ _ c0] ++ List.replicate 4 (tC (eF (nt hin))) ++ [.ret _ _ _ c5, tC (eF (nt hin)), tC (eF (nt hin)), .flat _ _ flat_X, tC (nt hin), tC (eF (nt h6)), tC (eF (nt h6)), tC (eF (nt h6)), .ret _ _ _ c7, tC (eF (nt h6)), tC (nt h6), tT, tT, tT, .ret _ _ _ c10, tT, tF, tT, tT, tT, .ret _ _ _ c13, tT, tF, tT, tT, tT, .ret _ _ _ c16, tT, tF] ++ List.replicate 3 (tC (eF (nt (andT (leL (-2147483648) h17) (leC 2147483647 h18))))) ++ [.ret _ _ _ c19, tC (eF (nt (andT (leL (-2147483648) h17) (leC 2147483647 h18)))), tC (nt (andT (leL (-2147483648) h17) (leC 2147483647 h18))), tC (nt (andF (y := decide (imm ≤ (2147483647 : Int))) (leL (-2147483648) h20)))]) (by kernel_rfl)).to (by (try simp only [decide_eq_true_eq, decide_eq_false_iff_not, Bool.not_eq_true, beq_iff_eq, beq_eq_false_iff_ne, D.bool.injEq, wk, wkL, wkO, eqCells, eqCell, mayX, regM, mayS, longM, widthM, jumpM, ccM] at *); (simp [wk, wkL, wkO, eqCells, eqCell, mayX, regM, mayS, longM, widthM, jumpM, ccM, *]; omega))
              · skip
                rcases Bool.eq_false_or_eq_true (decide (imm < (2147483648 : Int))) with h21 | h21
                · skip
                  by_cases h22 : w = 32
                  · subst h22
                    exact (Ret.of_eval (d := .bool true) mixed Try.func32 (by kernel_rfl) ([.ret _ _ _ c0] ++ List.replicate 4 (tC (eF (nt hin))) ++ [.ret _ _ _ c5, tC (eF (nt hin)), tC (eF (nt hin)), .flat _ _ flat_X, tC (nt hin), tC (eF (nt h6)), tC (eF (nt h6)), tC (eF (nt h6)), .ret _ _ _ c7, tC (eF (nt h6)), tC (nt h6), tT, tT, tT, .ret _ _ _ c10, tT, tF, tT, tT, tT, .ret _ _ _ c13, tT, tF, tT, tT, tT, .ret _ _ _ c16, tT, tF] ++ List.replicate 3 (tC (eF (nt (andT (leL (-2147483648) h17) (leC 2147483647 h18))))) ++ [.ret _ _ _ c19, tC (eF (nt (andT (leL (-2147483648) h17) (leC 2147483647 h18)))), tC (nt (andT (leL (-2147483648) h17) (leC 2147483647 h18))), tC (nt (andT (leL (-2147483648) h20) (leC 2147483647 h21))), tF, tF, tF, tT, tF, tF, tF, tF, tF, tT, tF, tF, tF, tF, tF, tF, tF, tF, tF, tF]) (by kernel_rfl)).to (by (try simp only [decide_eq_true_eq, decide_eq_false_iff_not, Bool.not_eq_true, beq_iff_eq, beq_eq_false_iff_ne, D.bool.injEq, wk, wkL, wkO, eqCells, eqCell, mayX, regM, mayS, longM, widthM, jumpM, ccM] at *); (rw [Bool.eq_iff_iff]; simp [wk, wkL, wkO, eqCells, eqCell, mayX, regM, mayS, longM, widthM, jumpM, ccM, *]; grind))
                  · skip
                    by_cases h23 : w = 8
                    · subst h23
                      have c24 := @within_ok (imm) ((-128 : Int)) ((127 : Int))
                      exact (Ret.of_eval (d := .bool true) mixed Try.func32 (by kernel_rfl) ([.ret _ _ _ c0] ++ List.replicate 4 (tC (eF (nt hin))) ++ [.ret _ _ _ c5, tC (eF (nt hin)), tC (eF (nt hin)), .flat _ _ flat_X, tC (nt hin), tC (eF (nt h6)), tC (eF (nt h6)), tC (eF (nt h6)), .ret _ _ _ c7, tC (eF (nt h6)), tC (nt h6), tT, tT, tT, .ret _ _ _ c10, tT, tF, tT, tT, tT, .ret _ _ _ c13, tT, tF, tT, tT, tT, .ret _ _ _ c16, tT, tF] ++ List.replicate 3 (tC (eF (nt (andT (leL (-2147483648) h17) (leC 2147483647 h18))))) ++ [.ret _ _ _ c19, tC (eF (nt (andT (leL (-2147483648) h17) (leC 2147483647 h18)))), tC (nt (andT (leL (-2147483648) h17) (leC 2147483647 h18))), tC (nt (andT (leL (-2147483648) h20) (leC 2147483647 h21)))] ++ List.replicate 3 (tC (eF (neOf h22))) ++ [tC (neOf h22)] ++ List.replicate 4 (tC (eF (neOf h22))) ++ [tT, tT, tT, .ret _ _ _ c24, tT, tT, tF, tF, tF, tF, tF, tF, tF, tF, tF, tF, tF]) (by kernel_rfl)).to (by (try simp only [decide_eq_true_eq, decide_eq_false_iff_not, Bool.not_eq_true, beq_iff_eq, beq_eq_false_iff_ne, D.bool.injEq, wk, wkL, wkO, eqCells, eqCell, mayX, regM, mayS, longM, widthM, jumpM, ccM] at *); (rw [Bool.eq_iff_iff]; simp [wk, wkL, wkO, eqCells, eqCell, mayX, regM, mayS, longM, widthM, jumpM, ccM, *]; grind))
                    · skip
                      exact (Ret.of_eval (d := .bool true) mixed Try.func32 (by kernel_rfl) ([.ret _ _ _ c0] ++ List.replicate 4 (tC (eF (nt hin))) ++ [.ret _ _ _ c5, tC (eF (nt hin)), tC (eF (nt hin)), .flat _ _ flat_X, tC (nt hin), tC (eF (nt h6)), tC (eF (nt h6)), tC (eF (nt h6)), .ret _ _ _ c7, tC (eF (nt h6)), tC (nt h6), tT, tT, tT, .ret _ _ _ c10, tT, tF, tT, tT, tT, .ret _ _ _ c13, tT, tF, tT, tT, tT, .ret _ _ _ c16, tT, tF] ++ List.replicate 3 (tC (eF (nt (andT (leL (-2147483648) h17) (leC 2147483647 h18))))) ++ [.ret _ _ _ c19, tC (eF (nt (andT (leL (-2147483648) h17) (leC 2147483647 h18)))), tC (nt (andT (leL (-2147483648) h17) (leC 2147483647 h18))), tC (nt (andT (leL (-2147483648) h20) (leC 2147483647 h21)))] ++ List.replicate 3 (tC (eF (neOf h22))) ++ [tC (neOf h22)] ++ List.replicate 4 (tC (eF (neOf h22))) ++ List.replicate 3 (tC (eT (neOf h23))) ++ [tC (eF (neOf h22)), tC (neOf h23), tC (neOf h22), tF, tF, tF, tF, tF, tF, tF, tF, tF, tF]) (by kernel_rfl)).to (by (try simp only [decide_eq_true_eq, decide_eq_false_iff_not, Bool.not_eq_true, beq_iff_eq, beq_eq_false_iff_ne, D.bool.injEq, wk, wkL, wkO, eqCells, eqCell, mayX, regM, mayS, longM, widthM, jumpM, ccM] at *); (rw [Bool.eq_iff_iff]; simp [wk, wkL, wkO, eqCells, eqCell, mayX, regM, mayS, longM, widthM, jumpM, ccM, *]; grind))
                · skip
                  exact (Ret.of_eval (d := .bool false) mixed Try.func32 (by kernel_rfl) ([.ret _ _ _ c0] ++ List.replicate 4 (tC (eF (nt hin))) ++ [.ret _ _ _ c5, tC (eF (nt hin)), tC (eF (nt hin)), .flat _ _ flat_X, tC (nt hin), tC (eF (nt h6)), tC (eF (nt h6)), tC (eF (nt h6)), .ret _ _ _ c7, tC (eF (nt h6)), tC (nt h6), tT, tT, tT, .ret _ _ _ c10, tT, tF, tT, tT, tT, .ret _ _ _ c13, tT, tF, tT, tT, tT, .ret _ _ _ c16, tT, tF] ++ List.replicate 3 (tC (eF (nt (andT (leL (-2147483648) h17) (leC 2147483647 h18))))) ++ [.ret _ _ _ c19, tC (eF (nt (andT (leL (-2147483648) h17) (leC 2147483647 h18)))), tC (nt (andT (leL (-2147483648) h17) (leC 2147483647 h18))), tC (nt (andT (leL (-2147483648) h20) (leC 2147483647 h21)))]) (by kernel_rfl)).to (by (try simp only [decide_eq_true_eq, decide_eq_false_iff_not, Bool.not_eq_true, beq_iff_eq, beq_eq_false_iff_ne, D.bool.injEq, wk, wkL, wkO, eqCells, eqCell, mayX, regM, mayS, longM, widthM, jumpM, ccM] at *); (simp [wk, wkL, wkO, eqCells, eqCell, mayX, regM, mayS, longM, widthM, jumpM, ccM, *]; omega))
            · skip
              exact (Ret.of_eval (d := .bool false) mixed Try.func32 (by kernel_rfl) ([.ret _ _ _ c0] ++ List.replicate 4 (tC (eF (nt hin))) ++ [.ret _ _ _ c5, tC (eF (nt hin)), tC (eF (nt hin)), .flat _ _ flat_X, tC (nt hin), tC (eF (nt h6)), tC (eF (nt h6)), tC (eF (nt h6)), .ret _ _ _ c7, tC (eF (nt h6)), tC (nt h6), tT, tT, tT, .ret _ _ _ c10, tT, tF, tT, tT, tT, .ret _ _ _ c13, tT, tF, tT, tT, tT, .ret _ _ _ c16, tT, tF] ++ List.replicate 4 (tC (eF (nt (andT (leL (-2147483648) h17) (leC 2147483647 h18))))) ++ [tC (nt (andT (leL (-2147483648) h17) (leC 2147483647 h18))), tT]) (by kernel_rfl)).to (by (try simp only [decide_eq_true_eq, decide_eq_false_iff_not, Bool.not_eq_true, beq_iff_eq, beq_eq_false_iff_ne, D.bool.injEq, wk, wkL, wkO, eqCells, eqCell, mayX, regM, mayS, longM, widthM, jumpM, ccM] at *); (simp [wk, wkL, wkO, eqCells, eqCell, mayX, regM, mayS, longM, widthM, jumpM, ccM, *]; omega))
  · skip
    exact (Ret.of_eval (d := .bool false) mixed Try.func32 (by kernel_rfl) ([.ret _ _ _ c0] ++ List.replicate 4 (tC (eF (nt hin))) ++ [.ret _ _ _ c5, tC (eF (nt hin)), tC (eF (nt hin)), .flat _ _ flat_X, tC (nt hin)] ++ List.replicate 4 (tC (eF (nt h6))) ++ [tC (nt h6), tF, tF, tF, tF, tT, tF, tF, tF, tF, tT, tF, tF, tF, tF, tT, tF, tF, tF, tF, tT, tT]) (by kernel_rfl)).to (by (try simp only [decide_eq_true_eq, decide_eq_false_iff_not, Bool.not_eq_true, beq_iff_eq, beq_eq_false_iff_ne, D.bool.injEq, wk, wkL, wkO, eqCells, eqCell, mayX, regM, mayS, longM, widthM, jumpM, ccM] at *); (rw [Bool.eq_iff_iff]; simp [wk, wkL, wkO, eqCells, eqCell, mayX, regM, mayS, longM, widthM, jumpM, ccM, *]; grind))
end Go.Proofs.Ytojgmjfcfpclbaa

namespace Go.Proofs.Ytojgmjfcfpclbaa
open Go Go.Ev
theorem shape_range : ∀ n : Fin 32, shapeM (n.val : Int) = 1 ∨ shapeM (n.val : Int) = 2 ∨ shapeM (n.val : Int) = 3 ∨ shapeM (n.val : Int) = 4 ∨ shapeM (n.val : Int) = 5 ∨ shapeM (n.val : Int) = 6 ∨ shapeM (n.val : Int) = 7 ∨ shapeM (n.val : Int) = 8 ∨ shapeM (n.val : Int) = 9 ∨ shapeM (n.val : Int) = 10 ∨ shapeM (n.val : Int) = 11 := by decide +kernel
theorem mayX_ok (op w dst src base disp imm cc : Int) (ho : op ≤ 127) : Ret Try.prog 32 [xD op w dst src base disp imm cc] (.bool (mayX op w dst src base disp imm cc)) := by
  by_cases hin : 0 ≤ op ∧ op ≤ 31
  · have e : op = (((⟨op.toNat, by omega⟩ : Fin 32).val : Nat) : Int) := by simp; omega
    have hr := shape_range ⟨op.toNat, by omega⟩
    rw [← e] at hr
    have hin' : decide (0 ≤ op ∧ op ≤ 31) = true := decide_eq_true hin
    rcases hr with h | h | h | h | h | h | h | h | h | h | h
    · exact mayX_1_ok _ _ _ _ _ _ _ _ ho (by rw [h]; rfl) hin'
    · exact mayX_2_ok _ _ _ _ _ _ _ _ ho (by rw [h]; rfl) hin'
    · exact mayX_3_ok _ _ _ _ _ _ _ _ ho (by rw [h]; rfl) hin'
    · exact mayX_4_ok _ _ _ _ _ _ _ _ ho (by rw [h]; rfl) hin'
    · exact mayX_5_ok _ _ _ _ _ _ _ _ ho (by rw [h]; rfl) hin'
    · exact mayX_6_ok _ _ _ _ _ _ _ _ ho (by rw [h]; rfl) hin'
    · exact mayX_7_ok _ _ _ _ _ _ _ _ ho (by rw [h]; rfl) hin'
    · exact mayX_8_ok _ _ _ _ _ _ _ _ ho (by rw [h]; rfl) hin'
    · exact mayX_9_ok _ _ _ _ _ _ _ _ ho (by rw [h]; rfl) hin'
    · exact mayX_10_ok _ _ _ _ _ _ _ _ ho (by rw [h]; rfl) hin'
    · exact mayX_11_ok _ _ _ _ _ _ _ _ ho (by rw [h]; rfl) hin'
  · exact mayX_0_ok _ _ _ _ _ _ _ _ ho (by rw [(shape_none (op := op) (by omega)).1]; rfl) (decide_eq_false hin)
end Go.Proofs.Ytojgmjfcfpclbaa

namespace Go.Proofs.Ytojgmjfcfpclbaa
open Go Go.Ev
set_option maxRecDepth 100000
set_option maxHeartbeats 8000000
end Go.Proofs.Ytojgmjfcfpclbaa

namespace Go.Proofs.Ytojgmjfcfpclbaa
open Go Go.RowKit Go.Ev
set_option maxRecDepth 100000
end Go.Proofs.Ytojgmjfcfpclbaa

namespace Go.Proofs.Ytojgmjfcfpclbaa
open Go Go.Ev
set_option maxRecDepth 100000
set_option maxHeartbeats 8000000
end Go.Proofs.Ytojgmjfcfpclbaa

namespace Go.Proofs.Ytojgmjfcfpclbaa
open Go Go.Ev
set_option maxRecDepth 100000
set_option maxHeartbeats 8000000
end Go.Proofs.Ytojgmjfcfpclbaa

namespace Go.Proofs.Ytojgmjfcfpclbaa
open Go Go.Ev
set_option maxRecDepth 100000
set_option maxHeartbeats 8000000
end Go.Proofs.Ytojgmjfcfpclbaa

namespace Go.Proofs.Ytojgmjfcfpclbaa
open Go Go.Ev
set_option maxRecDepth 100000
set_option maxHeartbeats 8000000
end Go.Proofs.Ytojgmjfcfpclbaa

namespace Go.Proofs.Ytojgmjfcfpclbaa
open Go Go.Ev
set_option maxRecDepth 100000
set_option maxHeartbeats 8000000
end Go.Proofs.Ytojgmjfcfpclbaa

namespace Go.Proofs.Ytojgmjfcfpclbaa
open Go Go.Ev
set_option maxRecDepth 100000
set_option maxHeartbeats 8000000
end Go.Proofs.Ytojgmjfcfpclbaa

namespace Go.Proofs.Ytojgmjfcfpclbaa
open Go Go.Ev
end Go.Proofs.Ytojgmjfcfpclbaa

namespace Go.Proofs.Ytojgmjfcfpclbaa
open Go Go.Ev
set_option maxRecDepth 100000
set_option maxHeartbeats 8000000
end Go.Proofs.Ytojgmjfcfpclbaa

namespace Go.Proofs.Ytojgmjfcfpclbaa
open Go Go.Ev
end Go.Proofs.Ytojgmjfcfpclbaa

namespace Go.Proofs.Ytojgmjfcfpclbaa
open Go Go.Ev
set_option maxRecDepth 100000
set_option maxHeartbeats 8000000
theorem set1_ok (a : Int) (a0 : 0 ≤ a) (a1 : a ≤ 15) : Ret Try.prog 114 ([.lst .tight 1 [.int .i8 a]]) (.int .i64 (sh8 a)) := by
  exact (Ret.of_eval (d := D.int IntKind.i64 (IntKind.wrap IntKind.i64 (↑(BitVec.toNat (BitVec.ofInt (64 : Nat) (0 : Int) ||| BitVec.ofInt (64 : Nat) (IntKind.wrap IntKind.i64 ((1 : Int) * (2 : Int) ^ min (Int.toNat a) (64 : Nat))))) : Int))) mixed Try.func114 (by kernel_rfl) [.go 64, tT, tT, .get ([D.int IntKind.i8 a]) 0 (D.int IntKind.i8 a) rfl, tC (v := true) (leL 0 (decide_eq_false (Int.not_lt.2 a0))), tF] (by kernel_rfl)).to (by simp only [wk, D.int.injEq, true_and]; obtain ⟨n_a, rfl⟩ := fin16 a0 a1; clear a0 a1; revert n_a; decide +kernel)
theorem set2_ok (a : Int) (a0 : 0 ≤ a) (a1 : a ≤ 15) (b : Int) (b0 : 0 ≤ b) (b1 : b ≤ 15) : Ret Try.prog 114 ([.lst .tight 1 [.int .i8 a, .int .i8 b]]) (.int .i64 (or64 (sh8 a) (sh8 b))) := by
  exact (Ret.of_eval (d := D.int IntKind.i64 (IntKind.wrap IntKind.i64 (↑(BitVec.toNat (BitVec.ofInt (64 : Nat) (IntKind.wrap IntKind.i64 (↑(BitVec.toNat (BitVec.ofInt (64 : Nat) (0 : Int) ||| BitVec.ofInt (64 : Nat) (IntKind.wrap IntKind.i64 ((1 : Int) * (2 : Int) ^ min (Int.toNat a) (64 : Nat))))) : Int)) ||| BitVec.ofInt (64 : Nat) (IntKind.wrap IntKind.i64 ((1 : Int) * (2 : Int) ^ min (Int.toNat b) (64 : Nat))))) : Int))) mixed Try.func114 (by kernel_rfl) [.go 64, tT, tT, .get ([D.int IntKind.i8 a, D.int IntKind.i8 b]) 0 (D.int IntKind.i8 a) rfl, tC (v := true) (leL 0 (decide_eq_false (Int.not_lt.2 a0))), tT, tT, .get ([D.int IntKind.i8 a, D.int IntKind.i8 b]) 1 (D.int IntKind.i8 b) rfl, tC (v := true) (leL 0 (decide_eq_false (Int.not_lt.2 b0))), tF] (by kernel_rfl)).to (by simp only [wk, D.int.injEq, true_and]; obtain ⟨n_a, rfl⟩ := fin16 a0 a1; obtain ⟨n_b, rfl⟩ := fin16 b0 b1; clear a0 a1 b0 b1; revert n_a n_b; decide +kernel)
theorem set3_ok (a : Int) (a0 : 0 ≤ a) (a1 : a ≤ 15) : Ret Try.prog 114 ([.lst .tight 1 [.int .i8 a, .int .i8 0, .int .i8 2]]) (.int .i64 (or64 (or64 (sh8 a) (sh8 0)) (sh8 2))) := by
  exact (Ret.of_eval (d := D.int IntKind.i64 (IntKind.wrap IntKind.i64 (↑(BitVec.toNat (BitVec.ofInt (64 : Nat) (IntKind.wrap IntKind.i64 (↑(BitVec.toNat (BitVec.ofInt (64 : Nat) (IntKind.wrap IntKind.i64 (↑(BitVec.toNat (BitVec.ofInt (64 : Nat) (0 : Int) ||| BitVec.ofInt (64 : Nat) (IntKind.wrap IntKind.i64 ((1 : Int) * (2 : Int) ^ min (Int.toNat a) (64 : Nat))))) : Int)) ||| BitVec.ofInt (64 : Nat) (1 : Int))) : Int)) ||| BitVec.ofInt (64 : Nat) (4 : Int))) : Int))) mixed Try.func114 (by kernel_rfl) [.go 64, tT, tT, .get ([D.int IntKind.i8 a, D.int IntKind.i8 0, D.int IntKind.i8 2]) 0 (D.int IntKind.i8 a) rfl, tC (v := true) (leL 0 (decide_eq_false (Int.not_lt.2 a0))), tT, tT, .get ([D.int IntKind.i8 a, D.int IntKind.i8 0, D.int IntKind.i8 2]) 1 (D.int IntKind.i8 0) rfl, tT, tT, tT, .get ([D.int IntKind.i8 a, D.int IntKind.i8 0, D.int IntKind.i8 2]) 2 (D.int IntKind.i8 2) rfl, tT, tF] (by kernel_rfl)).to (by simp only [wk, D.int.injEq, true_and]; obtain ⟨n_a, rfl⟩ := fin16 a0 a1; clear a0 a1; revert n_a; decide +kernel)
end Go.Proofs.Ytojgmjfcfpclbaa

namespace Go.Proofs.Ytojgmjfcfpclbaa
open Go Go.Ev
set_option maxRecDepth 100000
set_option maxHeartbeats 8000000
theorem reads_0_ok (w dst src base disp imm cc : Int) (d0 : 0 ≤ dst) (d1 : dst ≤ 15) (s0 : 0 ≤ src) (s1 : src ≤ 15) (b0 : 0 ≤ base) (b1 : base ≤ 15) (hm : mayX 0 w dst src base disp imm cc = true) : Ret Try.prog 68 ([xD 0 w dst src base disp imm cc]) (.int .i64 (readsX 0 dst src base)) := by
  have c0 := @Proofs.Ytojgmjfcfpclbaa.mayX_ok ((0 : Int)) (w) (dst) (src) (base) (disp) (imm) (cc) (by first | rfl | decide)
  rw [show (mayX (0 : Int) w dst src base disp imm cc) = true from hm] at c0
  have c1 := @Proofs.Ytojgmjfcfpclbaa.of_any_ok ((0 : Int)) (by first | rfl | decide)
  have c2 := @Proofs.Ytojgmjfcfpclbaa.set1_ok (src) s0 s1
  exact (Ret.of_eval (d := D.int IntKind.i64 (sh8 src)) mixed Try.func68 (by kernel_rfl) [.ret _ _ _ c0, tF, .ret _ _ _ c1, tT, tT, tT, .ret _ _ _ c2] (by kernel_rfl)).to (by rfl)
theorem reads_1_ok (w dst src base disp imm cc : Int) (d0 : 0 ≤ dst) (d1 : dst ≤ 15) (s0 : 0 ≤ src) (s1 : src ≤ 15) (b0 : 0 ≤ base) (b1 : base ≤ 15) (hm : mayX 1 w dst src base disp imm cc = true) : Ret Try.prog 68 ([xD 1 w dst src base disp imm cc]) (.int .i64 (readsX 1 dst src base)) := by
  have c0 := @Proofs.Ytojgmjfcfpclbaa.mayX_ok ((1 : Int)) (w) (dst) (src) (base) (disp) (imm) (cc) (by first | rfl | decide)
  rw [show (mayX (1 : Int) w dst src base disp imm cc) = true from hm] at c0
  have c1 := @Proofs.Ytojgmjfcfpclbaa.of_any_ok ((1 : Int)) (by first | rfl | decide)
  exact (Ret.of_eval (d := D.int IntKind.i64 0) mixed Try.func68 (by kernel_rfl) [.ret _ _ _ c0, tF, .ret _ _ _ c1, tF, tF, tF, tT, tT, tT] (by kernel_rfl)).to (by rfl)
theorem reads_2_ok (w dst src base disp imm cc : Int) (d0 : 0 ≤ dst) (d1 : dst ≤ 15) (s0 : 0 ≤ src) (s1 : src ≤ 15) (b0 : 0 ≤ base) (b1 : base ≤ 15) (hm : mayX 2 w dst src base disp imm cc = true) : Ret Try.prog 68 ([xD 2 w dst src base disp imm cc]) (.int .i64 (readsX 2 dst src base)) := by
  have c0 := @Proofs.Ytojgmjfcfpclbaa.mayX_ok ((2 : Int)) (w) (dst) (src) (base) (disp) (imm) (cc) (by first | rfl | decide)
  rw [show (mayX (2 : Int) w dst src base disp imm cc) = true from hm] at c0
  have c1 := @Proofs.Ytojgmjfcfpclbaa.of_any_ok ((2 : Int)) (by first | rfl | decide)
  have c2 := @Proofs.Ytojgmjfcfpclbaa.set2_ok (dst) d0 d1 (src) s0 s1
  exact (Ret.of_eval (d := D.int IntKind.i64 (or64 (sh8 dst) (sh8 src))) mixed Try.func68 (by kernel_rfl) [.ret _ _ _ c0, tF, .ret _ _ _ c1, tT, tT, tF, .ret _ _ _ c2] (by kernel_rfl)).to (by rfl)
theorem reads_3_ok (w dst src base disp imm cc : Int) (d0 : 0 ≤ dst) (d1 : dst ≤ 15) (s0 : 0 ≤ src) (s1 : src ≤ 15) (b0 : 0 ≤ base) (b1 : base ≤ 15) (hm : mayX 3 w dst src base disp imm cc = true) : Ret Try.prog 68 ([xD 3 w dst src base disp imm cc]) (.int .i64 (readsX 3 dst src base)) := by
  have c0 := @Proofs.Ytojgmjfcfpclbaa.mayX_ok ((3 : Int)) (w) (dst) (src) (base) (disp) (imm) (cc) (by first | rfl | decide)
  rw [show (mayX (3 : Int) w dst src base disp imm cc) = true from hm] at c0
  have c1 := @Proofs.Ytojgmjfcfpclbaa.of_any_ok ((3 : Int)) (by first | rfl | decide)
  have c2 := @Proofs.Ytojgmjfcfpclbaa.set2_ok (dst) d0 d1 (src) s0 s1
  exact (Ret.of_eval (d := D.int IntKind.i64 (or64 (sh8 dst) (sh8 src))) mixed Try.func68 (by kernel_rfl) [.ret _ _ _ c0, tF, .ret _ _ _ c1, tT, tT, tF, .ret _ _ _ c2] (by kernel_rfl)).to (by rfl)
theorem reads_4_ok (w dst src base disp imm cc : Int) (d0 : 0 ≤ dst) (d1 : dst ≤ 15) (s0 : 0 ≤ src) (s1 : src ≤ 15) (b0 : 0 ≤ base) (b1 : base ≤ 15) (hm : mayX 4 w dst src base disp imm cc = true) : Ret Try.prog 68 ([xD 4 w dst src base disp imm cc]) (.int .i64 (readsX 4 dst src base)) := by
  have c0 := @Proofs.Ytojgmjfcfpclbaa.mayX_ok ((4 : Int)) (w) (dst) (src) (base) (disp) (imm) (cc) (by first | rfl | decide)
  rw [show (mayX (4 : Int) w dst src base disp imm cc) = true from hm] at c0
  have c1 := @Proofs.Ytojgmjfcfpclbaa.of_any_ok ((4 : Int)) (by first | rfl | decide)
  have c2 := @Proofs.Ytojgmjfcfpclbaa.set2_ok (dst) d0 d1 (src) s0 s1
  exact (Ret.of_eval (d := D.int IntKind.i64 (or64 (sh8 dst) (sh8 src))) mixed Try.func68 (by kernel_rfl) [.ret _ _ _ c0, tF, .ret _ _ _ c1, tT, tT, tF, .ret _ _ _ c2] (by kernel_rfl)).to (by rfl)
theorem reads_5_ok (w dst src base disp imm cc : Int) (d0 : 0 ≤ dst) (d1 : dst ≤ 15) (s0 : 0 ≤ src) (s1 : src ≤ 15) (b0 : 0 ≤ base) (b1 : base ≤ 15) (hm : mayX 5 w dst src base disp imm cc = true) : Ret Try.prog 68 ([xD 5 w dst src base disp imm cc]) (.int .i64 (readsX 5 dst src base)) := by
  have c0 := @Proofs.Ytojgmjfcfpclbaa.mayX_ok ((5 : Int)) (w) (dst) (src) (base) (disp) (imm) (cc) (by first | rfl | decide)
  rw [show (mayX (5 : Int) w dst src base disp imm cc) = true from hm] at c0
  have c1 := @Proofs.Ytojgmjfcfpclbaa.of_any_ok ((5 : Int)) (by first | rfl | decide)
  have c2 := @Proofs.Ytojgmjfcfpclbaa.set2_ok (dst) d0 d1 (src) s0 s1
  exact (Ret.of_eval (d := D.int IntKind.i64 (or64 (sh8 dst) (sh8 src))) mixed Try.func68 (by kernel_rfl) [.ret _ _ _ c0, tF, .ret _ _ _ c1, tT, tT, tF, .ret _ _ _ c2] (by kernel_rfl)).to (by rfl)
theorem reads_6_ok (w dst src base disp imm cc : Int) (d0 : 0 ≤ dst) (d1 : dst ≤ 15) (s0 : 0 ≤ src) (s1 : src ≤ 15) (b0 : 0 ≤ base) (b1 : base ≤ 15) (hm : mayX 6 w dst src base disp imm cc = true) : Ret Try.prog 68 ([xD 6 w dst src base disp imm cc]) (.int .i64 (readsX 6 dst src base)) := by
  have c0 := @Proofs.Ytojgmjfcfpclbaa.mayX_ok ((6 : Int)) (w) (dst) (src) (base) (disp) (imm) (cc) (by first | rfl | decide)
  rw [show (mayX (6 : Int) w dst src base disp imm cc) = true from hm] at c0
  have c1 := @Proofs.Ytojgmjfcfpclbaa.of_any_ok ((6 : Int)) (by first | rfl | decide)
  have c2 := @Proofs.Ytojgmjfcfpclbaa.set2_ok (dst) d0 d1 (src) s0 s1
  exact (Ret.of_eval (d := D.int IntKind.i64 (or64 (sh8 dst) (sh8 src))) mixed Try.func68 (by kernel_rfl) [.ret _ _ _ c0, tF, .ret _ _ _ c1, tT, tT, tF, .ret _ _ _ c2] (by kernel_rfl)).to (by rfl)
theorem reads_7_ok (w dst src base disp imm cc : Int) (d0 : 0 ≤ dst) (d1 : dst ≤ 15) (s0 : 0 ≤ src) (s1 : src ≤ 15) (b0 : 0 ≤ base) (b1 : base ≤ 15) (hm : mayX 7 w dst src base disp imm cc = true) : Ret Try.prog 68 ([xD 7 w dst src base disp imm cc]) (.int .i64 (readsX 7 dst src base)) := by
  have c0 := @Proofs.Ytojgmjfcfpclbaa.mayX_ok ((7 : Int)) (w) (dst) (src) (base) (disp) (imm) (cc) (by first | rfl | decide)
  rw [show (mayX (7 : Int) w dst src base disp imm cc) = true from hm] at c0
  have c1 := @Proofs.Ytojgmjfcfpclbaa.of_any_ok ((7 : Int)) (by first | rfl | decide)
  have c2 := @Proofs.Ytojgmjfcfpclbaa.set2_ok (dst) d0 d1 (src) s0 s1
  exact (Ret.of_eval (d := D.int IntKind.i64 (or64 (sh8 dst) (sh8 src))) mixed Try.func68 (by kernel_rfl) [.ret _ _ _ c0, tF, .ret _ _ _ c1, tT, tT, tF, .ret _ _ _ c2] (by kernel_rfl)).to (by rfl)
theorem reads_8_ok (w dst src base disp imm cc : Int) (d0 : 0 ≤ dst) (d1 : dst ≤ 15) (s0 : 0 ≤ src) (s1 : src ≤ 15) (b0 : 0 ≤ base) (b1 : base ≤ 15) (hm : mayX 8 w dst src base disp imm cc = true) : Ret Try.prog 68 ([xD 8 w dst src base disp imm cc]) (.int .i64 (readsX 8 dst src base)) := by
  have c0 := @Proofs.Ytojgmjfcfpclbaa.mayX_ok ((8 : Int)) (w) (dst) (src) (base) (disp) (imm) (cc) (by first | rfl | decide)
  rw [show (mayX (8 : Int) w dst src base disp imm cc) = true from hm] at c0
  have c1 := @Proofs.Ytojgmjfcfpclbaa.of_any_ok ((8 : Int)) (by first | rfl | decide)
  have c2 := @Proofs.Ytojgmjfcfpclbaa.set2_ok (dst) d0 d1 (src) s0 s1
  exact (Ret.of_eval (d := D.int IntKind.i64 (or64 (sh8 dst) (sh8 src))) mixed Try.func68 (by kernel_rfl) [.ret _ _ _ c0, tF, .ret _ _ _ c1, tT, tT, tF, .ret _ _ _ c2] (by kernel_rfl)).to (by rfl)
theorem reads_9_ok (w dst src base disp imm cc : Int) (d0 : 0 ≤ dst) (d1 : dst ≤ 15) (s0 : 0 ≤ src) (s1 : src ≤ 15) (b0 : 0 ≤ base) (b1 : base ≤ 15) (hm : mayX 9 w dst src base disp imm cc = true) : Ret Try.prog 68 ([xD 9 w dst src base disp imm cc]) (.int .i64 (readsX 9 dst src base)) := by
  have c0 := @Proofs.Ytojgmjfcfpclbaa.mayX_ok ((9 : Int)) (w) (dst) (src) (base) (disp) (imm) (cc) (by first | rfl | decide)
  rw [show (mayX (9 : Int) w dst src base disp imm cc) = true from hm] at c0
  have c1 := @Proofs.Ytojgmjfcfpclbaa.of_any_ok ((9 : Int)) (by first | rfl | decide)
  have c2 := @Proofs.Ytojgmjfcfpclbaa.set1_ok (dst) d0 d1
  exact (Ret.of_eval (d := D.int IntKind.i64 (sh8 dst)) mixed Try.func68 (by kernel_rfl) [.ret _ _ _ c0, tF, .ret _ _ _ c1, tF, tF, tF, tT, tT, tF, .ret _ _ _ c2] (by kernel_rfl)).to (by rfl)
theorem reads_10_ok (w dst src base disp imm cc : Int) (d0 : 0 ≤ dst) (d1 : dst ≤ 15) (s0 : 0 ≤ src) (s1 : src ≤ 15) (b0 : 0 ≤ base) (b1 : base ≤ 15) (hm : mayX 10 w dst src base disp imm cc = true) : Ret Try.prog 68 ([xD 10 w dst src base disp imm cc]) (.int .i64 (readsX 10 dst src base)) := by
  have c0 := @Proofs.Ytojgmjfcfpclbaa.mayX_ok ((10 : Int)) (w) (dst) (src) (base) (disp) (imm) (cc) (by first | rfl | decide)
  rw [show (mayX (10 : Int) w dst src base disp imm cc) = true from hm] at c0
  have c1 := @Proofs.Ytojgmjfcfpclbaa.of_any_ok ((10 : Int)) (by first | rfl | decide)
  have c2 := @Proofs.Ytojgmjfcfpclbaa.set1_ok (dst) d0 d1
  exact (Ret.of_eval (d := D.int IntKind.i64 (sh8 dst)) mixed Try.func68 (by kernel_rfl) [.ret _ _ _ c0, tF, .ret _ _ _ c1, tF, tF, tF, tT, tT, tF, .ret _ _ _ c2] (by kernel_rfl)).to (by rfl)
theorem reads_11_ok (w dst src base disp imm cc : Int) (d0 : 0 ≤ dst) (d1 : dst ≤ 15) (s0 : 0 ≤ src) (s1 : src ≤ 15) (b0 : 0 ≤ base) (b1 : base ≤ 15) (hm : mayX 11 w dst src base disp imm cc = true) : Ret Try.prog 68 ([xD 11 w dst src base disp imm cc]) (.int .i64 (readsX 11 dst src base)) := by
  have c0 := @Proofs.Ytojgmjfcfpclbaa.mayX_ok ((11 : Int)) (w) (dst) (src) (base) (disp) (imm) (cc) (by first | rfl | decide)
  rw [show (mayX (11 : Int) w dst src base disp imm cc) = true from hm] at c0
  have c1 := @Proofs.Ytojgmjfcfpclbaa.of_any_ok ((11 : Int)) (by first | rfl | decide)
  have c2 := @Proofs.Ytojgmjfcfpclbaa.set1_ok (dst) d0 d1
  exact (Ret.of_eval (d := D.int IntKind.i64 (sh8 dst)) mixed Try.func68 (by kernel_rfl) [.ret _ _ _ c0, tF, .ret _ _ _ c1, tF, tF, tF, tT, tT, tF, .ret _ _ _ c2] (by kernel_rfl)).to (by rfl)
theorem reads_12_ok (w dst src base disp imm cc : Int) (d0 : 0 ≤ dst) (d1 : dst ≤ 15) (s0 : 0 ≤ src) (s1 : src ≤ 15) (b0 : 0 ≤ base) (b1 : base ≤ 15) (hm : mayX 12 w dst src base disp imm cc = true) : Ret Try.prog 68 ([xD 12 w dst src base disp imm cc]) (.int .i64 (readsX 12 dst src base)) := by
  have c0 := @Proofs.Ytojgmjfcfpclbaa.mayX_ok ((12 : Int)) (w) (dst) (src) (base) (disp) (imm) (cc) (by first | rfl | decide)
  rw [show (mayX (12 : Int) w dst src base disp imm cc) = true from hm] at c0
  have c1 := @Proofs.Ytojgmjfcfpclbaa.of_any_ok ((12 : Int)) (by first | rfl | decide)
  have c2 := @Proofs.Ytojgmjfcfpclbaa.set1_ok (dst) d0 d1
  exact (Ret.of_eval (d := D.int IntKind.i64 (sh8 dst)) mixed Try.func68 (by kernel_rfl) [.ret _ _ _ c0, tF, .ret _ _ _ c1, tF, tF, tF, tT, tT, tF, .ret _ _ _ c2] (by kernel_rfl)).to (by rfl)
theorem reads_13_ok (w dst src base disp imm cc : Int) (d0 : 0 ≤ dst) (d1 : dst ≤ 15) (s0 : 0 ≤ src) (s1 : src ≤ 15) (b0 : 0 ≤ base) (b1 : base ≤ 15) (hm : mayX 13 w dst src base disp imm cc = true) : Ret Try.prog 68 ([xD 13 w dst src base disp imm cc]) (.int .i64 (readsX 13 dst src base)) := by
  have c0 := @Proofs.Ytojgmjfcfpclbaa.mayX_ok ((13 : Int)) (w) (dst) (src) (base) (disp) (imm) (cc) (by first | rfl | decide)
  rw [show (mayX (13 : Int) w dst src base disp imm cc) = true from hm] at c0
  have c1 := @Proofs.Ytojgmjfcfpclbaa.of_any_ok ((13 : Int)) (by first | rfl | decide)
  have c2 := @Proofs.Ytojgmjfcfpclbaa.set1_ok (dst) d0 d1
  exact (Ret.of_eval (d := D.int IntKind.i64 (sh8 dst)) mixed Try.func68 (by kernel_rfl) [.ret _ _ _ c0, tF, .ret _ _ _ c1, tF, tF, tF, tT, tT, tF, .ret _ _ _ c2] (by kernel_rfl)).to (by rfl)
theorem reads_14_ok (w dst src base disp imm cc : Int) (d0 : 0 ≤ dst) (d1 : dst ≤ 15) (s0 : 0 ≤ src) (s1 : src ≤ 15) (b0 : 0 ≤ base) (b1 : base ≤ 15) (hm : mayX 14 w dst src base disp imm cc = true) : Ret Try.prog 68 ([xD 14 w dst src base disp imm cc]) (.int .i64 (readsX 14 dst src base)) := by
  have c0 := @Proofs.Ytojgmjfcfpclbaa.mayX_ok ((14 : Int)) (w) (dst) (src) (base) (disp) (imm) (cc) (by first | rfl | decide)
  rw [show (mayX (14 : Int) w dst src base disp imm cc) = true from hm] at c0
  have c1 := @Proofs.Ytojgmjfcfpclbaa.of_any_ok ((14 : Int)) (by first | rfl | decide)
  have c2 := @Proofs.Ytojgmjfcfpclbaa.set1_ok (dst) d0 d1
  exact (Ret.of_eval (d := D.int IntKind.i64 (sh8 dst)) mixed Try.func68 (by kernel_rfl) [.ret _ _ _ c0, tF, .ret _ _ _ c1, tF, tF, tF, tT, tT, tF, .ret _ _ _ c2] (by kernel_rfl)).to (by rfl)
theorem reads_15_ok (w dst src base disp imm cc : Int) (d0 : 0 ≤ dst) (d1 : dst ≤ 15) (s0 : 0 ≤ src) (s1 : src ≤ 15) (b0 : 0 ≤ base) (b1 : base ≤ 15) (hm : mayX 15 w dst src base disp imm cc = true) : Ret Try.prog 68 ([xD 15 w dst src base disp imm cc]) (.int .i64 (readsX 15 dst src base)) := by
  have c0 := @Proofs.Ytojgmjfcfpclbaa.mayX_ok ((15 : Int)) (w) (dst) (src) (base) (disp) (imm) (cc) (by first | rfl | decide)
  rw [show (mayX (15 : Int) w dst src base disp imm cc) = true from hm] at c0
  have c1 := @Proofs.Ytojgmjfcfpclbaa.of_any_ok ((15 : Int)) (by first | rfl | decide)
  have c2 := @Proofs.Ytojgmjfcfpclbaa.set1_ok (dst) d0 d1
  exact (Ret.of_eval (d := D.int IntKind.i64 (sh8 dst)) mixed Try.func68 (by kernel_rfl) [.ret _ _ _ c0, tF, .ret _ _ _ c1, tF, tF, tF, tT, tT, tF, .ret _ _ _ c2] (by kernel_rfl)).to (by rfl)
theorem reads_16_ok (w dst src base disp imm cc : Int) (d0 : 0 ≤ dst) (d1 : dst ≤ 15) (s0 : 0 ≤ src) (s1 : src ≤ 15) (b0 : 0 ≤ base) (b1 : base ≤ 15) (hm : mayX 16 w dst src base disp imm cc = true) : Ret Try.prog 68 ([xD 16 w dst src base disp imm cc]) (.int .i64 (readsX 16 dst src base)) := by
  have c0 := @Proofs.Ytojgmjfcfpclbaa.mayX_ok ((16 : Int)) (w) (dst) (src) (base) (disp) (imm) (cc) (by first | rfl | decide)
  rw [show (mayX (16 : Int) w dst src base disp imm cc) = true from hm] at c0
  have c1 := @Proofs.Ytojgmjfcfpclbaa.of_any_ok ((16 : Int)) (by first | rfl | decide)
  have c2 := @Proofs.Ytojgmjfcfpclbaa.set2_ok (dst) d0 d1 (src) s0 s1
  exact (Ret.of_eval (d := D.int IntKind.i64 (or64 (sh8 dst) (sh8 src))) mixed Try.func68 (by kernel_rfl) [.ret _ _ _ c0, tF, .ret _ _ _ c1, tF, tT, tT, tF, .ret _ _ _ c2] (by kernel_rfl)).to (by rfl)
theorem reads_17_ok (w dst src base disp imm cc : Int) (d0 : 0 ≤ dst) (d1 : dst ≤ 15) (s0 : 0 ≤ src) (s1 : src ≤ 15) (b0 : 0 ≤ base) (b1 : base ≤ 15) (hm : mayX 17 w dst src base disp imm cc = true) : Ret Try.prog 68 ([xD 17 w dst src base disp imm cc]) (.int .i64 (readsX 17 dst src base)) := by
  have c0 := @Proofs.Ytojgmjfcfpclbaa.mayX_ok ((17 : Int)) (w) (dst) (src) (base) (disp) (imm) (cc) (by first | rfl | decide)
  rw [show (mayX (17 : Int) w dst src base disp imm cc) = true from hm] at c0
  have c1 := @Proofs.Ytojgmjfcfpclbaa.of_any_ok ((17 : Int)) (by first | rfl | decide)
  have c2 := @Proofs.Ytojgmjfcfpclbaa.set1_ok (dst) d0 d1
  exact (Ret.of_eval (d := D.int IntKind.i64 (sh8 dst)) mixed Try.func68 (by kernel_rfl) [.ret _ _ _ c0, tF, .ret _ _ _ c1, tF, tF, tF, tF, tT, tF, .ret _ _ _ c2] (by kernel_rfl)).to (by rfl)
theorem reads_18_ok (w dst src base disp imm cc : Int) (d0 : 0 ≤ dst) (d1 : dst ≤ 15) (s0 : 0 ≤ src) (s1 : src ≤ 15) (b0 : 0 ≤ base) (b1 : base ≤ 15) (hm : mayX 18 w dst src base disp imm cc = true) : Ret Try.prog 68 ([xD 18 w dst src base disp imm cc]) (.int .i64 (readsX 18 dst src base)) := by
  have c0 := @Proofs.Ytojgmjfcfpclbaa.mayX_ok ((18 : Int)) (w) (dst) (src) (base) (disp) (imm) (cc) (by first | rfl | decide)
  rw [show (mayX (18 : Int) w dst src base disp imm cc) = true from hm] at c0
  have c1 := @Proofs.Ytojgmjfcfpclbaa.of_any_ok ((18 : Int)) (by first | rfl | decide)
  have c2 := @Proofs.Ytojgmjfcfpclbaa.set1_ok (dst) d0 d1
  exact (Ret.of_eval (d := D.int IntKind.i64 (sh8 dst)) mixed Try.func68 (by kernel_rfl) [.ret _ _ _ c0, tF, .ret _ _ _ c1, tF, tF, tF, tF, tT, tF, .ret _ _ _ c2] (by kernel_rfl)).to (by rfl)
theorem reads_19_ok (w dst src base disp imm cc : Int) (d0 : 0 ≤ dst) (d1 : dst ≤ 15) (s0 : 0 ≤ src) (s1 : src ≤ 15) (b0 : 0 ≤ base) (b1 : base ≤ 15) (hm : mayX 19 w dst src base disp imm cc = true) : Ret Try.prog 68 ([xD 19 w dst src base disp imm cc]) (.int .i64 (readsX 19 dst src base)) := by
  have c0 := @Proofs.Ytojgmjfcfpclbaa.mayX_ok ((19 : Int)) (w) (dst) (src) (base) (disp) (imm) (cc) (by first | rfl | decide)
  rw [show (mayX (19 : Int) w dst src base disp imm cc) = true from hm] at c0
  have c1 := @Proofs.Ytojgmjfcfpclbaa.of_any_ok ((19 : Int)) (by first | rfl | decide)
  have c2 := @Proofs.Ytojgmjfcfpclbaa.set1_ok (dst) d0 d1
  exact (Ret.of_eval (d := D.int IntKind.i64 (sh8 dst)) mixed Try.func68 (by kernel_rfl) [.ret _ _ _ c0, tF, .ret _ _ _ c1, tF, tF, tF, tF, tT, tF, .ret _ _ _ c2] (by kernel_rfl)).to (by rfl)
theorem reads_20_ok (w dst src base disp imm cc : Int) (d0 : 0 ≤ dst) (d1 : dst ≤ 15) (s0 : 0 ≤ src) (s1 : src ≤ 15) (b0 : 0 ≤ base) (b1 : base ≤ 15) (hm : mayX 20 w dst src base disp imm cc = true) : Ret Try.prog 68 ([xD 20 w dst src base disp imm cc]) (.int .i64 (readsX 20 dst src base)) := by
  have c0 := @Proofs.Ytojgmjfcfpclbaa.mayX_ok ((20 : Int)) (w) (dst) (src) (base) (disp) (imm) (cc) (by first | rfl | decide)
  rw [show (mayX (20 : Int) w dst src base disp imm cc) = true from hm] at c0
  have c1 := @Proofs.Ytojgmjfcfpclbaa.of_any_ok ((20 : Int)) (by first | rfl | decide)
  have c2 := @Proofs.Ytojgmjfcfpclbaa.set2_ok (dst) d0 d1 ((1 : Int)) (by first | rfl | decide) (by first | rfl | decide)
  exact (Ret.of_eval (d := D.int IntKind.i64 (or64 (sh8 dst) (2 : Int))) mixed Try.func68 (by kernel_rfl) [.ret _ _ _ c0, tF, .ret _ _ _ c1, tF, tF, tF, tF, tF, tT, tF, tF, .ret _ _ _ c2] (by kernel_rfl)).to (by rfl)
theorem reads_21_ok (w dst src base disp imm cc : Int) (d0 : 0 ≤ dst) (d1 : dst ≤ 15) (s0 : 0 ≤ src) (s1 : src ≤ 15) (b0 : 0 ≤ base) (b1 : base ≤ 15) (hm : mayX 21 w dst src base disp imm cc = true) : Ret Try.prog 68 ([xD 21 w dst src base disp imm cc]) (.int .i64 (readsX 21 dst src base)) := by
  have c0 := @Proofs.Ytojgmjfcfpclbaa.mayX_ok ((21 : Int)) (w) (dst) (src) (base) (disp) (imm) (cc) (by first | rfl | decide)
  rw [show (mayX (21 : Int) w dst src base disp imm cc) = true from hm] at c0
  have c1 := @Proofs.Ytojgmjfcfpclbaa.of_any_ok ((21 : Int)) (by first | rfl | decide)
  have c2 := @Proofs.Ytojgmjfcfpclbaa.set2_ok (dst) d0 d1 ((1 : Int)) (by first | rfl | decide) (by first | rfl | decide)
  exact (Ret.of_eval (d := D.int IntKind.i64 (or64 (sh8 dst) (2 : Int))) mixed Try.func68 (by kernel_rfl) [.ret _ _ _ c0, tF, .ret _ _ _ c1, tF, tF, tF, tF, tF, tT, tF, tF, .ret _ _ _ c2] (by kernel_rfl)).to (by rfl)
theorem reads_22_ok (w dst src base disp imm cc : Int) (d0 : 0 ≤ dst) (d1 : dst ≤ 15) (s0 : 0 ≤ src) (s1 : src ≤ 15) (b0 : 0 ≤ base) (b1 : base ≤ 15) (hm : mayX 22 w dst src base disp imm cc = true) : Ret Try.prog 68 ([xD 22 w dst src base disp imm cc]) (.int .i64 (readsX 22 dst src base)) := by
  have c0 := @Proofs.Ytojgmjfcfpclbaa.mayX_ok ((22 : Int)) (w) (dst) (src) (base) (disp) (imm) (cc) (by first | rfl | decide)
  rw [show (mayX (22 : Int) w dst src base disp imm cc) = true from hm] at c0
  have c1 := @Proofs.Ytojgmjfcfpclbaa.of_any_ok ((22 : Int)) (by first | rfl | decide)
  have c2 := @Proofs.Ytojgmjfcfpclbaa.set2_ok (dst) d0 d1 ((1 : Int)) (by first | rfl | decide) (by first | rfl | decide)
  exact (Ret.of_eval (d := D.int IntKind.i64 (or64 (sh8 dst) (2 : Int))) mixed Try.func68 (by kernel_rfl) [.ret _ _ _ c0, tF, .ret _ _ _ c1, tF, tF, tF, tF, tF, tT, tF, tF, .ret _ _ _ c2] (by kernel_rfl)).to (by rfl)
theorem reads_23_ok (w dst src base disp imm cc : Int) (d0 : 0 ≤ dst) (d1 : dst ≤ 15) (s0 : 0 ≤ src) (s1 : src ≤ 15) (b0 : 0 ≤ base) (b1 : base ≤ 15) (hm : mayX 23 w dst src base disp imm cc = true) : Ret Try.prog 68 ([xD 23 w dst src base disp imm cc]) (.int .i64 (readsX 23 dst src base)) := by
  have c0 := @Proofs.Ytojgmjfcfpclbaa.mayX_ok ((23 : Int)) (w) (dst) (src) (base) (disp) (imm) (cc) (by first | rfl | decide)
  rw [show (mayX (23 : Int) w dst src base disp imm cc) = true from hm] at c0
  have c1 := @Proofs.Ytojgmjfcfpclbaa.of_any_ok ((23 : Int)) (by first | rfl | decide)
  have c2 := @Proofs.Ytojgmjfcfpclbaa.set1_ok (dst) d0 d1
  exact (Ret.of_eval (d := D.int IntKind.i64 (sh8 dst)) mixed Try.func68 (by kernel_rfl) [.ret _ _ _ c0, tF, .ret _ _ _ c1, tF, tF, tF, tF, tF, tT, tT, .ret _ _ _ c2] (by kernel_rfl)).to (by rfl)
theorem reads_24_ok (w dst src base disp imm cc : Int) (d0 : 0 ≤ dst) (d1 : dst ≤ 15) (s0 : 0 ≤ src) (s1 : src ≤ 15) (b0 : 0 ≤ base) (b1 : base ≤ 15) (hm : mayX 24 w dst src base disp imm cc = true) : Ret Try.prog 68 ([xD 24 w dst src base disp imm cc]) (.int .i64 (readsX 24 dst src base)) := by
  have c0 := @Proofs.Ytojgmjfcfpclbaa.mayX_ok ((24 : Int)) (w) (dst) (src) (base) (disp) (imm) (cc) (by first | rfl | decide)
  rw [show (mayX (24 : Int) w dst src base disp imm cc) = true from hm] at c0
  have c1 := @Proofs.Ytojgmjfcfpclbaa.of_any_ok ((24 : Int)) (by first | rfl | decide)
  have c2 := @Proofs.Ytojgmjfcfpclbaa.set3_ok (dst) d0 d1
  exact (Ret.of_eval (d := D.int IntKind.i64 (or64 (or64 (sh8 dst) (1 : Int)) (4 : Int))) mixed Try.func68 (by kernel_rfl) [.ret _ _ _ c0, tF, .ret _ _ _ c1, tF, tF, tF, tF, tF, tT, tF, tT, .ret _ _ _ c2] (by kernel_rfl)).to (by rfl)
theorem reads_25_ok (w dst src base disp imm cc : Int) (d0 : 0 ≤ dst) (d1 : dst ≤ 15) (s0 : 0 ≤ src) (s1 : src ≤ 15) (b0 : 0 ≤ base) (b1 : base ≤ 15) (hm : mayX 25 w dst src base disp imm cc = true) : Ret Try.prog 68 ([xD 25 w dst src base disp imm cc]) (.int .i64 (readsX 25 dst src base)) := by
  have c0 := @Proofs.Ytojgmjfcfpclbaa.mayX_ok ((25 : Int)) (w) (dst) (src) (base) (disp) (imm) (cc) (by first | rfl | decide)
  rw [show (mayX (25 : Int) w dst src base disp imm cc) = true from hm] at c0
  have c1 := @Proofs.Ytojgmjfcfpclbaa.of_any_ok ((25 : Int)) (by first | rfl | decide)
  have c2 := @Proofs.Ytojgmjfcfpclbaa.set2_ok (dst) d0 d1 (src) s0 s1
  exact (Ret.of_eval (d := D.int IntKind.i64 (or64 (sh8 dst) (sh8 src))) mixed Try.func68 (by kernel_rfl) [.ret _ _ _ c0, tF, .ret _ _ _ c1, tF, tF, tT, tF, .ret _ _ _ c2] (by kernel_rfl)).to (by rfl)
theorem reads_26_ok (w dst src base disp imm cc : Int) (d0 : 0 ≤ dst) (d1 : dst ≤ 15) (s0 : 0 ≤ src) (s1 : src ≤ 15) (b0 : 0 ≤ base) (b1 : base ≤ 15) (hm : mayX 26 w dst src base disp imm cc = true) : Ret Try.prog 68 ([xD 26 w dst src base disp imm cc]) (.int .i64 (readsX 26 dst src base)) := by
  have c0 := @Proofs.Ytojgmjfcfpclbaa.mayX_ok ((26 : Int)) (w) (dst) (src) (base) (disp) (imm) (cc) (by first | rfl | decide)
  rw [show (mayX (26 : Int) w dst src base disp imm cc) = true from hm] at c0
  have c1 := @Proofs.Ytojgmjfcfpclbaa.of_any_ok ((26 : Int)) (by first | rfl | decide)
  have c2 := @Proofs.Ytojgmjfcfpclbaa.set1_ok (base) b0 b1
  exact (Ret.of_eval (d := D.int IntKind.i64 (sh8 base)) mixed Try.func68 (by kernel_rfl) [.ret _ _ _ c0, tF, .ret _ _ _ c1, tF, tF, tF, tF, tF, tF, tT, .ret _ _ _ c2] (by kernel_rfl)).to (by rfl)
theorem reads_27_ok (w dst src base disp imm cc : Int) (d0 : 0 ≤ dst) (d1 : dst ≤ 15) (s0 : 0 ≤ src) (s1 : src ≤ 15) (b0 : 0 ≤ base) (b1 : base ≤ 15) (hm : mayX 27 w dst src base disp imm cc = true) : Ret Try.prog 68 ([xD 27 w dst src base disp imm cc]) (.int .i64 (readsX 27 dst src base)) := by
  have c0 := @Proofs.Ytojgmjfcfpclbaa.mayX_ok ((27 : Int)) (w) (dst) (src) (base) (disp) (imm) (cc) (by first | rfl | decide)
  rw [show (mayX (27 : Int) w dst src base disp imm cc) = true from hm] at c0
  have c1 := @Proofs.Ytojgmjfcfpclbaa.of_any_ok ((27 : Int)) (by first | rfl | decide)
  have c2 := @Proofs.Ytojgmjfcfpclbaa.set2_ok (base) b0 b1 (src) s0 s1
  exact (Ret.of_eval (d := D.int IntKind.i64 (or64 (sh8 base) (sh8 src))) mixed Try.func68 (by kernel_rfl) [.ret _ _ _ c0, tF, .ret _ _ _ c1, tF, tF, tF, tF, tF, tF, tF, tT, .ret _ _ _ c2] (by kernel_rfl)).to (by rfl)
theorem reads_28_ok (w dst src base disp imm cc : Int) (d0 : 0 ≤ dst) (d1 : dst ≤ 15) (s0 : 0 ≤ src) (s1 : src ≤ 15) (b0 : 0 ≤ base) (b1 : base ≤ 15) (hm : mayX 28 w dst src base disp imm cc = true) : Ret Try.prog 68 ([xD 28 w dst src base disp imm cc]) (.int .i64 (readsX 28 dst src base)) := by
  have c0 := @Proofs.Ytojgmjfcfpclbaa.mayX_ok ((28 : Int)) (w) (dst) (src) (base) (disp) (imm) (cc) (by first | rfl | decide)
  rw [show (mayX (28 : Int) w dst src base disp imm cc) = true from hm] at c0
  have c1 := @Proofs.Ytojgmjfcfpclbaa.of_any_ok ((28 : Int)) (by first | rfl | decide)
  exact (Ret.of_eval (d := D.int IntKind.i64 0) mixed Try.func68 (by kernel_rfl) [.ret _ _ _ c0, tF, .ret _ _ _ c1, tF, tF, tF, tF, tF, tF, tF, tF, tF] (by kernel_rfl)).to (by rfl)
theorem reads_29_ok (w dst src base disp imm cc : Int) (d0 : 0 ≤ dst) (d1 : dst ≤ 15) (s0 : 0 ≤ src) (s1 : src ≤ 15) (b0 : 0 ≤ base) (b1 : base ≤ 15) (hm : mayX 29 w dst src base disp imm cc = true) : Ret Try.prog 68 ([xD 29 w dst src base disp imm cc]) (.int .i64 (readsX 29 dst src base)) := by
  have c0 := @Proofs.Ytojgmjfcfpclbaa.mayX_ok ((29 : Int)) (w) (dst) (src) (base) (disp) (imm) (cc) (by first | rfl | decide)
  rw [show (mayX (29 : Int) w dst src base disp imm cc) = true from hm] at c0
  have c1 := @Proofs.Ytojgmjfcfpclbaa.of_any_ok ((29 : Int)) (by first | rfl | decide)
  exact (Ret.of_eval (d := D.int IntKind.i64 0) mixed Try.func68 (by kernel_rfl) [.ret _ _ _ c0, tF, .ret _ _ _ c1, tF, tF, tF, tF, tF, tF, tF, tF, tF] (by kernel_rfl)).to (by rfl)
theorem reads_30_ok (w dst src base disp imm cc : Int) (d0 : 0 ≤ dst) (d1 : dst ≤ 15) (s0 : 0 ≤ src) (s1 : src ≤ 15) (b0 : 0 ≤ base) (b1 : base ≤ 15) (hm : mayX 30 w dst src base disp imm cc = true) : Ret Try.prog 68 ([xD 30 w dst src base disp imm cc]) (.int .i64 (readsX 30 dst src base)) := by
  have c0 := @Proofs.Ytojgmjfcfpclbaa.mayX_ok ((30 : Int)) (w) (dst) (src) (base) (disp) (imm) (cc) (by first | rfl | decide)
  rw [show (mayX (30 : Int) w dst src base disp imm cc) = true from hm] at c0
  have c1 := @Proofs.Ytojgmjfcfpclbaa.of_any_ok ((30 : Int)) (by first | rfl | decide)
  have c2 := @Proofs.Ytojgmjfcfpclbaa.set2_ok ((4 : Int)) (by first | rfl | decide) (by first | rfl | decide) ((0 : Int)) (by first | rfl | decide) (by first | rfl | decide)
  exact (Ret.of_eval (d := D.int IntKind.i64 17) mixed Try.func68 (by kernel_rfl) [.ret _ _ _ c0, tF, .ret _ _ _ c1, tF, tF, tF, tF, tF, tF, tF, tF, tT, tT, .ret _ _ _ c2] (by kernel_rfl)).to (by rfl)
theorem reads_31_ok (w dst src base disp imm cc : Int) (d0 : 0 ≤ dst) (d1 : dst ≤ 15) (s0 : 0 ≤ src) (s1 : src ≤ 15) (b0 : 0 ≤ base) (b1 : base ≤ 15) (hm : mayX 31 w dst src base disp imm cc = true) : Ret Try.prog 68 ([xD 31 w dst src base disp imm cc]) (.int .i64 (readsX 31 dst src base)) := by
  have c0 := @Proofs.Ytojgmjfcfpclbaa.mayX_ok ((31 : Int)) (w) (dst) (src) (base) (disp) (imm) (cc) (by first | rfl | decide)
  rw [show (mayX (31 : Int) w dst src base disp imm cc) = true from hm] at c0
  have c1 := @Proofs.Ytojgmjfcfpclbaa.of_any_ok ((31 : Int)) (by first | rfl | decide)
  exact (Ret.of_eval (d := D.int IntKind.i64 1477) mixed Try.func68 (by kernel_rfl) ([.ret _ _ _ c0, tF, .ret _ _ _ c1, tF, tF, tF, tF, tF, tF, tF, tF, tT, tF, .inl, .go 64, tT] ++ [tT, .get ([D.int IntKind.i8 0, D.int IntKind.i8 7, D.int IntKind.i8 6, D.int IntKind.i8 2, D.int IntKind.i8 10, D.int IntKind.i8 8]) 0 (D.int IntKind.i8 0) rfl, tT, tT, tT, .get ([D.int IntKind.i8 0, D.int IntKind.i8 7, D.int IntKind.i8 6, D.int IntKind.i8 2, D.int IntKind.i8 10, D.int IntKind.i8 8]) 1 (D.int IntKind.i8 7) rfl, tT, tT, tT, .get ([D.int IntKind.i8 0, D.int IntKind.i8 7, D.int IntKind.i8 6, D.int IntKind.i8 2, D.int IntKind.i8 10, D.int IntKind.i8 8]) 2 (D.int IntKind.i8 6) rfl, tT, tT, tT, .get ([D.int IntKind.i8 0, D.int IntKind.i8 7, D.int IntKind.i8 6, D.int IntKind.i8 2, D.int IntKind.i8 10, D.int IntKind.i8 8]) 3 (D.int IntKind.i8 2) rfl, tT, tT] ++ [tT, .get ([D.int IntKind.i8 0, D.int IntKind.i8 7, D.int IntKind.i8 6, D.int IntKind.i8 2, D.int IntKind.i8 10, D.int IntKind.i8 8]) 4 (D.int IntKind.i8 10) rfl, tT, tT, tT, .get ([D.int IntKind.i8 0, D.int IntKind.i8 7, D.int IntKind.i8 6, D.int IntKind.i8 2, D.int IntKind.i8 10, D.int IntKind.i8 8]) 5 (D.int IntKind.i8 8) rfl, tT, tF]) (by kernel_rfl)).to (by rfl)
theorem reads_no_ok (op w dst src base disp imm cc : Int) (ho : op ≤ 127) (hm : mayX op w dst src base disp imm cc = false) : Ret Try.prog 68 ([xD op w dst src base disp imm cc]) (.int .i64 0) := by
  have c0 := @Proofs.Ytojgmjfcfpclbaa.mayX_ok (op) (w) (dst) (src) (base) (disp) (imm) (cc) ho
  rw [show (mayX op w dst src base disp imm cc) = false from hm] at c0
  exact (Ret.of_eval (d := D.int IntKind.i64 0) mixed Try.func68 (by kernel_rfl) [.ret _ _ _ c0, tT] (by kernel_rfl)).to (by simp [wk])
theorem writes_0_ok (w dst src base disp imm cc : Int) (d0 : 0 ≤ dst) (d1 : dst ≤ 15) (s0 : 0 ≤ src) (s1 : src ≤ 15) (b0 : 0 ≤ base) (b1 : base ≤ 15) (hm : mayX 0 w dst src base disp imm cc = true) : Ret Try.prog 69 ([xD 0 w dst src base disp imm cc]) (.int .i64 (writesX 0 dst)) := by
  have c0 := @Proofs.Ytojgmjfcfpclbaa.mayX_ok ((0 : Int)) (w) (dst) (src) (base) (disp) (imm) (cc) (by first | rfl | decide)
  rw [show (mayX (0 : Int) w dst src base disp imm cc) = true from hm] at c0
  have c1 := @Proofs.Ytojgmjfcfpclbaa.set1_ok (dst) d0 d1
  exact (Ret.of_eval (d := D.int IntKind.i64 (sh8 dst)) mixed Try.func69 (by kernel_rfl) [.ret _ _ _ c0, tF, tF, tF, tF, tF, tF, tF, tF, tF, tF, tF, .ret _ _ _ c1] (by kernel_rfl)).to (by rfl)
theorem writes_1_ok (w dst src base disp imm cc : Int) (d0 : 0 ≤ dst) (d1 : dst ≤ 15) (s0 : 0 ≤ src) (s1 : src ≤ 15) (b0 : 0 ≤ base) (b1 : base ≤ 15) (hm : mayX 1 w dst src base disp imm cc = true) : Ret Try.prog 69 ([xD 1 w dst src base disp imm cc]) (.int .i64 (writesX 1 dst)) := by
  have c0 := @Proofs.Ytojgmjfcfpclbaa.mayX_ok ((1 : Int)) (w) (dst) (src) (base) (disp) (imm) (cc) (by first | rfl | decide)
  rw [show (mayX (1 : Int) w dst src base disp imm cc) = true from hm] at c0
  have c1 := @Proofs.Ytojgmjfcfpclbaa.set1_ok (dst) d0 d1
  exact (Ret.of_eval (d := D.int IntKind.i64 (sh8 dst)) mixed Try.func69 (by kernel_rfl) [.ret _ _ _ c0, tF, tF, tF, tF, tF, tF, tF, tF, tF, tF, tF, .ret _ _ _ c1] (by kernel_rfl)).to (by rfl)
theorem writes_2_ok (w dst src base disp imm cc : Int) (d0 : 0 ≤ dst) (d1 : dst ≤ 15) (s0 : 0 ≤ src) (s1 : src ≤ 15) (b0 : 0 ≤ base) (b1 : base ≤ 15) (hm : mayX 2 w dst src base disp imm cc = true) : Ret Try.prog 69 ([xD 2 w dst src base disp imm cc]) (.int .i64 (writesX 2 dst)) := by
  have c0 := @Proofs.Ytojgmjfcfpclbaa.mayX_ok ((2 : Int)) (w) (dst) (src) (base) (disp) (imm) (cc) (by first | rfl | decide)
  rw [show (mayX (2 : Int) w dst src base disp imm cc) = true from hm] at c0
  have c1 := @Proofs.Ytojgmjfcfpclbaa.set1_ok (dst) d0 d1
  exact (Ret.of_eval (d := D.int IntKind.i64 (sh8 dst)) mixed Try.func69 (by kernel_rfl) [.ret _ _ _ c0, tF, tF, tF, tF, tF, tF, tF, tF, tF, tF, tF, .ret _ _ _ c1] (by kernel_rfl)).to (by rfl)
theorem writes_3_ok (w dst src base disp imm cc : Int) (d0 : 0 ≤ dst) (d1 : dst ≤ 15) (s0 : 0 ≤ src) (s1 : src ≤ 15) (b0 : 0 ≤ base) (b1 : base ≤ 15) (hm : mayX 3 w dst src base disp imm cc = true) : Ret Try.prog 69 ([xD 3 w dst src base disp imm cc]) (.int .i64 (writesX 3 dst)) := by
  have c0 := @Proofs.Ytojgmjfcfpclbaa.mayX_ok ((3 : Int)) (w) (dst) (src) (base) (disp) (imm) (cc) (by first | rfl | decide)
  rw [show (mayX (3 : Int) w dst src base disp imm cc) = true from hm] at c0
  have c1 := @Proofs.Ytojgmjfcfpclbaa.set1_ok (dst) d0 d1
  exact (Ret.of_eval (d := D.int IntKind.i64 (sh8 dst)) mixed Try.func69 (by kernel_rfl) [.ret _ _ _ c0, tF, tF, tF, tF, tF, tF, tF, tF, tF, tF, tF, .ret _ _ _ c1] (by kernel_rfl)).to (by rfl)
theorem writes_4_ok (w dst src base disp imm cc : Int) (d0 : 0 ≤ dst) (d1 : dst ≤ 15) (s0 : 0 ≤ src) (s1 : src ≤ 15) (b0 : 0 ≤ base) (b1 : base ≤ 15) (hm : mayX 4 w dst src base disp imm cc = true) : Ret Try.prog 69 ([xD 4 w dst src base disp imm cc]) (.int .i64 (writesX 4 dst)) := by
  have c0 := @Proofs.Ytojgmjfcfpclbaa.mayX_ok ((4 : Int)) (w) (dst) (src) (base) (disp) (imm) (cc) (by first | rfl | decide)
  rw [show (mayX (4 : Int) w dst src base disp imm cc) = true from hm] at c0
  have c1 := @Proofs.Ytojgmjfcfpclbaa.set1_ok (dst) d0 d1
  exact (Ret.of_eval (d := D.int IntKind.i64 (sh8 dst)) mixed Try.func69 (by kernel_rfl) [.ret _ _ _ c0, tF, tF, tF, tF, tF, tF, tF, tF, tF, tF, tF, .ret _ _ _ c1] (by kernel_rfl)).to (by rfl)
theorem writes_5_ok (w dst src base disp imm cc : Int) (d0 : 0 ≤ dst) (d1 : dst ≤ 15) (s0 : 0 ≤ src) (s1 : src ≤ 15) (b0 : 0 ≤ base) (b1 : base ≤ 15) (hm : mayX 5 w dst src base disp imm cc = true) : Ret Try.prog 69 ([xD 5 w dst src base disp imm cc]) (.int .i64 (writesX 5 dst)) := by
  have c0 := @Proofs.Ytojgmjfcfpclbaa.mayX_ok ((5 : Int)) (w) (dst) (src) (base) (disp) (imm) (cc) (by first | rfl | decide)
  rw [show (mayX (5 : Int) w dst src base disp imm cc) = true from hm] at c0
  have c1 := @Proofs.Ytojgmjfcfpclbaa.set1_ok (dst) d0 d1
  exact (Ret.of_eval (d := D.int IntKind.i64 (sh8 dst)) mixed Try.func69 (by kernel_rfl) [.ret _ _ _ c0, tF, tF, tF, tF, tF, tF, tF, tF, tF, tF, tF, .ret _ _ _ c1] (by kernel_rfl)).to (by rfl)
theorem writes_6_ok (w dst src base disp imm cc : Int) (d0 : 0 ≤ dst) (d1 : dst ≤ 15) (s0 : 0 ≤ src) (s1 : src ≤ 15) (b0 : 0 ≤ base) (b1 : base ≤ 15) (hm : mayX 6 w dst src base disp imm cc = true) : Ret Try.prog 69 ([xD 6 w dst src base disp imm cc]) (.int .i64 (writesX 6 dst)) := by
  have c0 := @Proofs.Ytojgmjfcfpclbaa.mayX_ok ((6 : Int)) (w) (dst) (src) (base) (disp) (imm) (cc) (by first | rfl | decide)
  rw [show (mayX (6 : Int) w dst src base disp imm cc) = true from hm] at c0
  have c1 := @Proofs.Ytojgmjfcfpclbaa.set1_ok (dst) d0 d1
  exact (Ret.of_eval (d := D.int IntKind.i64 (sh8 dst)) mixed Try.func69 (by kernel_rfl) [.ret _ _ _ c0, tF, tF, tF, tF, tF, tF, tF, tF, tF, tF, tF, .ret _ _ _ c1] (by kernel_rfl)).to (by rfl)
theorem writes_7_ok (w dst src base disp imm cc : Int) (d0 : 0 ≤ dst) (d1 : dst ≤ 15) (s0 : 0 ≤ src) (s1 : src ≤ 15) (b0 : 0 ≤ base) (b1 : base ≤ 15) (hm : mayX 7 w dst src base disp imm cc = true) : Ret Try.prog 69 ([xD 7 w dst src base disp imm cc]) (.int .i64 (writesX 7 dst)) := by
  have c0 := @Proofs.Ytojgmjfcfpclbaa.mayX_ok ((7 : Int)) (w) (dst) (src) (base) (disp) (imm) (cc) (by first | rfl | decide)
  rw [show (mayX (7 : Int) w dst src base disp imm cc) = true from hm] at c0
  exact (Ret.of_eval (d := D.int IntKind.i64 0) mixed Try.func69 (by kernel_rfl) [.ret _ _ _ c0, tF, tT, tT] (by kernel_rfl)).to (by rfl)
theorem writes_8_ok (w dst src base disp imm cc : Int) (d0 : 0 ≤ dst) (d1 : dst ≤ 15) (s0 : 0 ≤ src) (s1 : src ≤ 15) (b0 : 0 ≤ base) (b1 : base ≤ 15) (hm : mayX 8 w dst src base disp imm cc = true) : Ret Try.prog 69 ([xD 8 w dst src base disp imm cc]) (.int .i64 (writesX 8 dst)) := by
  have c0 := @Proofs.Ytojgmjfcfpclbaa.mayX_ok ((8 : Int)) (w) (dst) (src) (base) (disp) (imm) (cc) (by first | rfl | decide)
  rw [show (mayX (8 : Int) w dst src base disp imm cc) = true from hm] at c0
  exact (Ret.of_eval (d := D.int IntKind.i64 0) mixed Try.func69 (by kernel_rfl) [.ret _ _ _ c0, tF, tF, tT, tT] (by kernel_rfl)).to (by rfl)
theorem writes_9_ok (w dst src base disp imm cc : Int) (d0 : 0 ≤ dst) (d1 : dst ≤ 15) (s0 : 0 ≤ src) (s1 : src ≤ 15) (b0 : 0 ≤ base) (b1 : base ≤ 15) (hm : mayX 9 w dst src base disp imm cc = true) : Ret Try.prog 69 ([xD 9 w dst src base disp imm cc]) (.int .i64 (writesX 9 dst)) := by
  have c0 := @Proofs.Ytojgmjfcfpclbaa.mayX_ok ((9 : Int)) (w) (dst) (src) (base) (disp) (imm) (cc) (by first | rfl | decide)
  rw [show (mayX (9 : Int) w dst src base disp imm cc) = true from hm] at c0
  have c1 := @Proofs.Ytojgmjfcfpclbaa.set1_ok (dst) d0 d1
  exact (Ret.of_eval (d := D.int IntKind.i64 (sh8 dst)) mixed Try.func69 (by kernel_rfl) [.ret _ _ _ c0, tF, tF, tF, tF, tF, tF, tF, tF, tF, tF, tF, .ret _ _ _ c1] (by kernel_rfl)).to (by rfl)
theorem writes_10_ok (w dst src base disp imm cc : Int) (d0 : 0 ≤ dst) (d1 : dst ≤ 15) (s0 : 0 ≤ src) (s1 : src ≤ 15) (b0 : 0 ≤ base) (b1 : base ≤ 15) (hm : mayX 10 w dst src base disp imm cc = true) : Ret Try.prog 69 ([xD 10 w dst src base disp imm cc]) (.int .i64 (writesX 10 dst)) := by
  have c0 := @Proofs.Ytojgmjfcfpclbaa.mayX_ok ((10 : Int)) (w) (dst) (src) (base) (disp) (imm) (cc) (by first | rfl | decide)
  rw [show (mayX (10 : Int) w dst src base disp imm cc) = true from hm] at c0
  have c1 := @Proofs.Ytojgmjfcfpclbaa.set1_ok (dst) d0 d1
  exact (Ret.of_eval (d := D.int IntKind.i64 (sh8 dst)) mixed Try.func69 (by kernel_rfl) [.ret _ _ _ c0, tF, tF, tF, tF, tF, tF, tF, tF, tF, tF, tF, .ret _ _ _ c1] (by kernel_rfl)).to (by rfl)
theorem writes_11_ok (w dst src base disp imm cc : Int) (d0 : 0 ≤ dst) (d1 : dst ≤ 15) (s0 : 0 ≤ src) (s1 : src ≤ 15) (b0 : 0 ≤ base) (b1 : base ≤ 15) (hm : mayX 11 w dst src base disp imm cc = true) : Ret Try.prog 69 ([xD 11 w dst src base disp imm cc]) (.int .i64 (writesX 11 dst)) := by
  have c0 := @Proofs.Ytojgmjfcfpclbaa.mayX_ok ((11 : Int)) (w) (dst) (src) (base) (disp) (imm) (cc) (by first | rfl | decide)
  rw [show (mayX (11 : Int) w dst src base disp imm cc) = true from hm] at c0
  have c1 := @Proofs.Ytojgmjfcfpclbaa.set1_ok (dst) d0 d1
  exact (Ret.of_eval (d := D.int IntKind.i64 (sh8 dst)) mixed Try.func69 (by kernel_rfl) [.ret _ _ _ c0, tF, tF, tF, tF, tF, tF, tF, tF, tF, tF, tF, .ret _ _ _ c1] (by kernel_rfl)).to (by rfl)
theorem writes_12_ok (w dst src base disp imm cc : Int) (d0 : 0 ≤ dst) (d1 : dst ≤ 15) (s0 : 0 ≤ src) (s1 : src ≤ 15) (b0 : 0 ≤ base) (b1 : base ≤ 15) (hm : mayX 12 w dst src base disp imm cc = true) : Ret Try.prog 69 ([xD 12 w dst src base disp imm cc]) (.int .i64 (writesX 12 dst)) := by
  have c0 := @Proofs.Ytojgmjfcfpclbaa.mayX_ok ((12 : Int)) (w) (dst) (src) (base) (disp) (imm) (cc) (by first | rfl | decide)
  rw [show (mayX (12 : Int) w dst src base disp imm cc) = true from hm] at c0
  have c1 := @Proofs.Ytojgmjfcfpclbaa.set1_ok (dst) d0 d1
  exact (Ret.of_eval (d := D.int IntKind.i64 (sh8 dst)) mixed Try.func69 (by kernel_rfl) [.ret _ _ _ c0, tF, tF, tF, tF, tF, tF, tF, tF, tF, tF, tF, .ret _ _ _ c1] (by kernel_rfl)).to (by rfl)
theorem writes_13_ok (w dst src base disp imm cc : Int) (d0 : 0 ≤ dst) (d1 : dst ≤ 15) (s0 : 0 ≤ src) (s1 : src ≤ 15) (b0 : 0 ≤ base) (b1 : base ≤ 15) (hm : mayX 13 w dst src base disp imm cc = true) : Ret Try.prog 69 ([xD 13 w dst src base disp imm cc]) (.int .i64 (writesX 13 dst)) := by
  have c0 := @Proofs.Ytojgmjfcfpclbaa.mayX_ok ((13 : Int)) (w) (dst) (src) (base) (disp) (imm) (cc) (by first | rfl | decide)
  rw [show (mayX (13 : Int) w dst src base disp imm cc) = true from hm] at c0
  have c1 := @Proofs.Ytojgmjfcfpclbaa.set1_ok (dst) d0 d1
  exact (Ret.of_eval (d := D.int IntKind.i64 (sh8 dst)) mixed Try.func69 (by kernel_rfl) [.ret _ _ _ c0, tF, tF, tF, tF, tF, tF, tF, tF, tF, tF, tF, .ret _ _ _ c1] (by kernel_rfl)).to (by rfl)
theorem writes_14_ok (w dst src base disp imm cc : Int) (d0 : 0 ≤ dst) (d1 : dst ≤ 15) (s0 : 0 ≤ src) (s1 : src ≤ 15) (b0 : 0 ≤ base) (b1 : base ≤ 15) (hm : mayX 14 w dst src base disp imm cc = true) : Ret Try.prog 69 ([xD 14 w dst src base disp imm cc]) (.int .i64 (writesX 14 dst)) := by
  have c0 := @Proofs.Ytojgmjfcfpclbaa.mayX_ok ((14 : Int)) (w) (dst) (src) (base) (disp) (imm) (cc) (by first | rfl | decide)
  rw [show (mayX (14 : Int) w dst src base disp imm cc) = true from hm] at c0
  exact (Ret.of_eval (d := D.int IntKind.i64 0) mixed Try.func69 (by kernel_rfl) [.ret _ _ _ c0, tF, tF, tF, tT, tT] (by kernel_rfl)).to (by rfl)
theorem writes_15_ok (w dst src base disp imm cc : Int) (d0 : 0 ≤ dst) (d1 : dst ≤ 15) (s0 : 0 ≤ src) (s1 : src ≤ 15) (b0 : 0 ≤ base) (b1 : base ≤ 15) (hm : mayX 15 w dst src base disp imm cc = true) : Ret Try.prog 69 ([xD 15 w dst src base disp imm cc]) (.int .i64 (writesX 15 dst)) := by
  have c0 := @Proofs.Ytojgmjfcfpclbaa.mayX_ok ((15 : Int)) (w) (dst) (src) (base) (disp) (imm) (cc) (by first | rfl | decide)
  rw [show (mayX (15 : Int) w dst src base disp imm cc) = true from hm] at c0
  exact (Ret.of_eval (d := D.int IntKind.i64 0) mixed Try.func69 (by kernel_rfl) [.ret _ _ _ c0, tF, tF, tF, tF, tT, tT] (by kernel_rfl)).to (by rfl)
theorem writes_16_ok (w dst src base disp imm cc : Int) (d0 : 0 ≤ dst) (d1 : dst ≤ 15) (s0 : 0 ≤ src) (s1 : src ≤ 15) (b0 : 0 ≤ base) (b1 : base ≤ 15) (hm : mayX 16 w dst src base disp imm cc = true) : Ret Try.prog 69 ([xD 16 w dst src base disp imm cc]) (.int .i64 (writesX 16 dst)) := by
  have c0 := @Proofs.Ytojgmjfcfpclbaa.mayX_ok ((16 : Int)) (w) (dst) (src) (base) (disp) (imm) (cc) (by first | rfl | decide)
  rw [show (mayX (16 : Int) w dst src base disp imm cc) = true from hm] at c0
  have c1 := @Proofs.Ytojgmjfcfpclbaa.set1_ok (dst) d0 d1
  exact (Ret.of_eval (d := D.int IntKind.i64 (sh8 dst)) mixed Try.func69 (by kernel_rfl) [.ret _ _ _ c0, tF, tF, tF, tF, tF, tF, tF, tF, tF, tF, tF, .ret _ _ _ c1] (by kernel_rfl)).to (by rfl)
theorem writes_17_ok (w dst src base disp imm cc : Int) (d0 : 0 ≤ dst) (d1 : dst ≤ 15) (s0 : 0 ≤ src) (s1 : src ≤ 15) (b0 : 0 ≤ base) (b1 : base ≤ 15) (hm : mayX 17 w dst src base disp imm cc = true) : Ret Try.prog 69 ([xD 17 w dst src base disp imm cc]) (.int .i64 (writesX 17 dst)) := by
  have c0 := @Proofs.Ytojgmjfcfpclbaa.mayX_ok ((17 : Int)) (w) (dst) (src) (base) (disp) (imm) (cc) (by first | rfl | decide)
  rw [show (mayX (17 : Int) w dst src base disp imm cc) = true from hm] at c0
  have c1 := @Proofs.Ytojgmjfcfpclbaa.set1_ok (dst) d0 d1
  exact (Ret.of_eval (d := D.int IntKind.i64 (sh8 dst)) mixed Try.func69 (by kernel_rfl) [.ret _ _ _ c0, tF, tF, tF, tF, tF, tF, tF, tF, tF, tF, tF, .ret _ _ _ c1] (by kernel_rfl)).to (by rfl)
theorem writes_18_ok (w dst src base disp imm cc : Int) (d0 : 0 ≤ dst) (d1 : dst ≤ 15) (s0 : 0 ≤ src) (s1 : src ≤ 15) (b0 : 0 ≤ base) (b1 : base ≤ 15) (hm : mayX 18 w dst src base disp imm cc = true) : Ret Try.prog 69 ([xD 18 w dst src base disp imm cc]) (.int .i64 (writesX 18 dst)) := by
  have c0 := @Proofs.Ytojgmjfcfpclbaa.mayX_ok ((18 : Int)) (w) (dst) (src) (base) (disp) (imm) (cc) (by first | rfl | decide)
  rw [show (mayX (18 : Int) w dst src base disp imm cc) = true from hm] at c0
  have c1 := @Proofs.Ytojgmjfcfpclbaa.set1_ok (dst) d0 d1
  exact (Ret.of_eval (d := D.int IntKind.i64 (sh8 dst)) mixed Try.func69 (by kernel_rfl) [.ret _ _ _ c0, tF, tF, tF, tF, tF, tF, tF, tF, tF, tF, tF, .ret _ _ _ c1] (by kernel_rfl)).to (by rfl)
theorem writes_19_ok (w dst src base disp imm cc : Int) (d0 : 0 ≤ dst) (d1 : dst ≤ 15) (s0 : 0 ≤ src) (s1 : src ≤ 15) (b0 : 0 ≤ base) (b1 : base ≤ 15) (hm : mayX 19 w dst src base disp imm cc = true) : Ret Try.prog 69 ([xD 19 w dst src base disp imm cc]) (.int .i64 (writesX 19 dst)) := by
  have c0 := @Proofs.Ytojgmjfcfpclbaa.mayX_ok ((19 : Int)) (w) (dst) (src) (base) (disp) (imm) (cc) (by first | rfl | decide)
  rw [show (mayX (19 : Int) w dst src base disp imm cc) = true from hm] at c0
  have c1 := @Proofs.Ytojgmjfcfpclbaa.set1_ok (dst) d0 d1
  exact (Ret.of_eval (d := D.int IntKind.i64 (sh8 dst)) mixed Try.func69 (by kernel_rfl) [.ret _ _ _ c0, tF, tF, tF, tF, tF, tF, tF, tF, tF, tF, tF, .ret _ _ _ c1] (by kernel_rfl)).to (by rfl)
theorem writes_20_ok (w dst src base disp imm cc : Int) (d0 : 0 ≤ dst) (d1 : dst ≤ 15) (s0 : 0 ≤ src) (s1 : src ≤ 15) (b0 : 0 ≤ base) (b1 : base ≤ 15) (hm : mayX 20 w dst src base disp imm cc = true) : Ret Try.prog 69 ([xD 20 w dst src base disp imm cc]) (.int .i64 (writesX 20 dst)) := by
  have c0 := @Proofs.Ytojgmjfcfpclbaa.mayX_ok ((20 : Int)) (w) (dst) (src) (base) (disp) (imm) (cc) (by first | rfl | decide)
  rw [show (mayX (20 : Int) w dst src base disp imm cc) = true from hm] at c0
  have c1 := @Proofs.Ytojgmjfcfpclbaa.set1_ok (dst) d0 d1
  exact (Ret.of_eval (d := D.int IntKind.i64 (sh8 dst)) mixed Try.func69 (by kernel_rfl) [.ret _ _ _ c0, tF, tF, tF, tF, tF, tF, tF, tF, tF, tF, tF, .ret _ _ _ c1] (by kernel_rfl)).to (by rfl)
theorem writes_21_ok (w dst src base disp imm cc : Int) (d0 : 0 ≤ dst) (d1 : dst ≤ 15) (s0 : 0 ≤ src) (s1 : src ≤ 15) (b0 : 0 ≤ base) (b1 : base ≤ 15) (hm : mayX 21 w dst src base disp imm cc = true) : Ret Try.prog 69 ([xD 21 w dst src base disp imm cc]) (.int .i64 (writesX 21 dst)) := by
  have c0 := @Proofs.Ytojgmjfcfpclbaa.mayX_ok ((21 : Int)) (w) (dst) (src) (base) (disp) (imm) (cc) (by first | rfl | decide)
  rw [show (mayX (21 : Int) w dst src base disp imm cc) = true from hm] at c0
  have c1 := @Proofs.Ytojgmjfcfpclbaa.set1_ok (dst) d0 d1
  exact (Ret.of_eval (d := D.int IntKind.i64 (sh8 dst)) mixed Try.func69 (by kernel_rfl) [.ret _ _ _ c0, tF, tF, tF, tF, tF, tF, tF, tF, tF, tF, tF, .ret _ _ _ c1] (by kernel_rfl)).to (by rfl)
theorem writes_22_ok (w dst src base disp imm cc : Int) (d0 : 0 ≤ dst) (d1 : dst ≤ 15) (s0 : 0 ≤ src) (s1 : src ≤ 15) (b0 : 0 ≤ base) (b1 : base ≤ 15) (hm : mayX 22 w dst src base disp imm cc = true) : Ret Try.prog 69 ([xD 22 w dst src base disp imm cc]) (.int .i64 (writesX 22 dst)) := by
  have c0 := @Proofs.Ytojgmjfcfpclbaa.mayX_ok ((22 : Int)) (w) (dst) (src) (base) (disp) (imm) (cc) (by first | rfl | decide)
  rw [show (mayX (22 : Int) w dst src base disp imm cc) = true from hm] at c0
  have c1 := @Proofs.Ytojgmjfcfpclbaa.set1_ok (dst) d0 d1
  exact (Ret.of_eval (d := D.int IntKind.i64 (sh8 dst)) mixed Try.func69 (by kernel_rfl) [.ret _ _ _ c0, tF, tF, tF, tF, tF, tF, tF, tF, tF, tF, tF, .ret _ _ _ c1] (by kernel_rfl)).to (by rfl)
theorem writes_23_ok (w dst src base disp imm cc : Int) (d0 : 0 ≤ dst) (d1 : dst ≤ 15) (s0 : 0 ≤ src) (s1 : src ≤ 15) (b0 : 0 ≤ base) (b1 : base ≤ 15) (hm : mayX 23 w dst src base disp imm cc = true) : Ret Try.prog 69 ([xD 23 w dst src base disp imm cc]) (.int .i64 (writesX 23 dst)) := by
  have c0 := @Proofs.Ytojgmjfcfpclbaa.mayX_ok ((23 : Int)) (w) (dst) (src) (base) (disp) (imm) (cc) (by first | rfl | decide)
  rw [show (mayX (23 : Int) w dst src base disp imm cc) = true from hm] at c0
  have c1 := @Proofs.Ytojgmjfcfpclbaa.set1_ok (dst) d0 d1
  exact (Ret.of_eval (d := D.int IntKind.i64 (sh8 dst)) mixed Try.func69 (by kernel_rfl) [.ret _ _ _ c0, tF, tF, tF, tF, tF, tF, tF, tF, tF, tF, tF, .ret _ _ _ c1] (by kernel_rfl)).to (by rfl)
theorem writes_24_ok (w dst src base disp imm cc : Int) (d0 : 0 ≤ dst) (d1 : dst ≤ 15) (s0 : 0 ≤ src) (s1 : src ≤ 15) (b0 : 0 ≤ base) (b1 : base ≤ 15) (hm : mayX 24 w dst src base disp imm cc = true) : Ret Try.prog 69 ([xD 24 w dst src base disp imm cc]) (.int .i64 (writesX 24 dst)) := by
  have c0 := @Proofs.Ytojgmjfcfpclbaa.mayX_ok ((24 : Int)) (w) (dst) (src) (base) (disp) (imm) (cc) (by first | rfl | decide)
  rw [show (mayX (24 : Int) w dst src base disp imm cc) = true from hm] at c0
  have c1 := @Proofs.Ytojgmjfcfpclbaa.set2_ok ((0 : Int)) (by first | rfl | decide) (by first | rfl | decide) ((2 : Int)) (by first | rfl | decide) (by first | rfl | decide)
  exact (Ret.of_eval (d := D.int IntKind.i64 5) mixed Try.func69 (by kernel_rfl) [.ret _ _ _ c0, tF, tF, tF, tF, tF, tF, tF, tF, tT, .ret _ _ _ c1] (by kernel_rfl)).to (by rfl)
theorem writes_25_ok (w dst src base disp imm cc : Int) (d0 : 0 ≤ dst) (d1 : dst ≤ 15) (s0 : 0 ≤ src) (s1 : src ≤ 15) (b0 : 0 ≤ base) (b1 : base ≤ 15) (hm : mayX 25 w dst src base disp imm cc = true) : Ret Try.prog 69 ([xD 25 w dst src base disp imm cc]) (.int .i64 (writesX 25 dst)) := by
  have c0 := @Proofs.Ytojgmjfcfpclbaa.mayX_ok ((25 : Int)) (w) (dst) (src) (base) (disp) (imm) (cc) (by first | rfl | decide)
  rw [show (mayX (25 : Int) w dst src base disp imm cc) = true from hm] at c0
  have c1 := @Proofs.Ytojgmjfcfpclbaa.set1_ok (dst) d0 d1
  exact (Ret.of_eval (d := D.int IntKind.i64 (sh8 dst)) mixed Try.func69 (by kernel_rfl) [.ret _ _ _ c0, tF, tF, tF, tF, tF, tF, tF, tF, tF, tF, tF, .ret _ _ _ c1] (by kernel_rfl)).to (by rfl)
theorem writes_26_ok (w dst src base disp imm cc : Int) (d0 : 0 ≤ dst) (d1 : dst ≤ 15) (s0 : 0 ≤ src) (s1 : src ≤ 15) (b0 : 0 ≤ base) (b1 : base ≤ 15) (hm : mayX 26 w dst src base disp imm cc = true) : Ret Try.prog 69 ([xD 26 w dst src base disp imm cc]) (.int .i64 (writesX 26 dst)) := by
  have c0 := @Proofs.Ytojgmjfcfpclbaa.mayX_ok ((26 : Int)) (w) (dst) (src) (base) (disp) (imm) (cc) (by first | rfl | decide)
  rw [show (mayX (26 : Int) w dst src base disp imm cc) = true from hm] at c0
  have c1 := @Proofs.Ytojgmjfcfpclbaa.set1_ok (dst) d0 d1
  exact (Ret.of_eval (d := D.int IntKind.i64 (sh8 dst)) mixed Try.func69 (by kernel_rfl) [.ret _ _ _ c0, tF, tF, tF, tF, tF, tF, tF, tF, tF, tF, tF, .ret _ _ _ c1] (by kernel_rfl)).to (by rfl)
theorem writes_27_ok (w dst src base disp imm cc : Int) (d0 : 0 ≤ dst) (d1 : dst ≤ 15) (s0 : 0 ≤ src) (s1 : src ≤ 15) (b0 : 0 ≤ base) (b1 : base ≤ 15) (hm : mayX 27 w dst src base disp imm cc = true) : Ret Try.prog 69 ([xD 27 w dst src base disp imm cc]) (.int .i64 (writesX 27 dst)) := by
  have c0 := @Proofs.Ytojgmjfcfpclbaa.mayX_ok ((27 : Int)) (w) (dst) (src) (base) (disp) (imm) (cc) (by first | rfl | decide)
  rw [show (mayX (27 : Int) w dst src base disp imm cc) = true from hm] at c0
  exact (Ret.of_eval (d := D.int IntKind.i64 0) mixed Try.func69 (by kernel_rfl) [.ret _ _ _ c0, tF, tF, tF, tF, tF, tT, tT] (by kernel_rfl)).to (by rfl)
theorem writes_28_ok (w dst src base disp imm cc : Int) (d0 : 0 ≤ dst) (d1 : dst ≤ 15) (s0 : 0 ≤ src) (s1 : src ≤ 15) (b0 : 0 ≤ base) (b1 : base ≤ 15) (hm : mayX 28 w dst src base disp imm cc = true) : Ret Try.prog 69 ([xD 28 w dst src base disp imm cc]) (.int .i64 (writesX 28 dst)) := by
  have c0 := @Proofs.Ytojgmjfcfpclbaa.mayX_ok ((28 : Int)) (w) (dst) (src) (base) (disp) (imm) (cc) (by first | rfl | decide)
  rw [show (mayX (28 : Int) w dst src base disp imm cc) = true from hm] at c0
  exact (Ret.of_eval (d := D.int IntKind.i64 0) mixed Try.func69 (by kernel_rfl) [.ret _ _ _ c0, tF, tF, tF, tF, tF, tF, tT, tT] (by kernel_rfl)).to (by rfl)
theorem writes_29_ok (w dst src base disp imm cc : Int) (d0 : 0 ≤ dst) (d1 : dst ≤ 15) (s0 : 0 ≤ src) (s1 : src ≤ 15) (b0 : 0 ≤ base) (b1 : base ≤ 15) (hm : mayX 29 w dst src base disp imm cc = true) : Ret Try.prog 69 ([xD 29 w dst src base disp imm cc]) (.int .i64 (writesX 29 dst)) := by
  have c0 := @Proofs.Ytojgmjfcfpclbaa.mayX_ok ((29 : Int)) (w) (dst) (src) (base) (disp) (imm) (cc) (by first | rfl | decide)
  rw [show (mayX (29 : Int) w dst src base disp imm cc) = true from hm] at c0
  exact (Ret.of_eval (d := D.int IntKind.i64 0) mixed Try.func69 (by kernel_rfl) [.ret _ _ _ c0, tF, tF, tF, tF, tF, tF, tF, tT] (by kernel_rfl)).to (by rfl)
theorem writes_30_ok (w dst src base disp imm cc : Int) (d0 : 0 ≤ dst) (d1 : dst ≤ 15) (s0 : 0 ≤ src) (s1 : src ≤ 15) (b0 : 0 ≤ base) (b1 : base ≤ 15) (hm : mayX 30 w dst src base disp imm cc = true) : Ret Try.prog 69 ([xD 30 w dst src base disp imm cc]) (.int .i64 (writesX 30 dst)) := by
  have c0 := @Proofs.Ytojgmjfcfpclbaa.mayX_ok ((30 : Int)) (w) (dst) (src) (base) (disp) (imm) (cc) (by first | rfl | decide)
  rw [show (mayX (30 : Int) w dst src base disp imm cc) = true from hm] at c0
  have c1 := @Proofs.Ytojgmjfcfpclbaa.set1_ok ((4 : Int)) (by first | rfl | decide) (by first | rfl | decide)
  exact (Ret.of_eval (d := D.int IntKind.i64 16) mixed Try.func69 (by kernel_rfl) [.ret _ _ _ c0, tF, tF, tF, tF, tF, tF, tF, tF, tF, tT, .ret _ _ _ c1] (by kernel_rfl)).to (by rfl)
theorem writes_31_ok (w dst src base disp imm cc : Int) (d0 : 0 ≤ dst) (d1 : dst ≤ 15) (s0 : 0 ≤ src) (s1 : src ≤ 15) (b0 : 0 ≤ base) (b1 : base ≤ 15) (hm : mayX 31 w dst src base disp imm cc = true) : Ret Try.prog 69 ([xD 31 w dst src base disp imm cc]) (.int .i64 (writesX 31 dst)) := by
  have c0 := @Proofs.Ytojgmjfcfpclbaa.mayX_ok ((31 : Int)) (w) (dst) (src) (base) (disp) (imm) (cc) (by first | rfl | decide)
  rw [show (mayX (31 : Int) w dst src base disp imm cc) = true from hm] at c0
  exact (Ret.of_eval (d := D.int IntKind.i64 2051) mixed Try.func69 (by kernel_rfl) ([.ret _ _ _ c0, tF, tF, tF, tF, tF, tF, tF, tF, tF, tF, tT, .inl, .go 64, tT, tT] ++ [.get ([D.int IntKind.i8 0, D.int IntKind.i8 1, D.int IntKind.i8 11]) 0 (D.int IntKind.i8 0) rfl, tT, tT, tT, .get ([D.int IntKind.i8 0, D.int IntKind.i8 1, D.int IntKind.i8 11]) 1 (D.int IntKind.i8 1) rfl, tT, tT, tT, .get ([D.int IntKind.i8 0, D.int IntKind.i8 1, D.int IntKind.i8 11]) 2 (D.int IntKind.i8 11) rfl, tT, tF]) (by kernel_rfl)).to (by rfl)
theorem writes_no_ok (op w dst src base disp imm cc : Int) (ho : op ≤ 127) (hm : mayX op w dst src base disp imm cc = false) : Ret Try.prog 69 ([xD op w dst src base disp imm cc]) (.int .i64 0) := by
  have c0 := @Proofs.Ytojgmjfcfpclbaa.mayX_ok (op) (w) (dst) (src) (base) (disp) (imm) (cc) ho
  rw [show (mayX op w dst src base disp imm cc) = false from hm] at c0
  exact (Ret.of_eval (d := D.int IntKind.i64 0) mixed Try.func69 (by kernel_rfl) [.ret _ _ _ c0, tT] (by kernel_rfl)).to (by simp [wk])
end Go.Proofs.Ytojgmjfcfpclbaa

namespace Go.Proofs.Ytojgmjfcfpclbaa
open Go Go.Ev
theorem mayX_sh {op w dst src base disp imm cc : Int} (h : mayX op w dst src base disp imm cc = true) : shapeM op ≠ 0 := by
  have hs := (mayX_parts h).2
  intro e
  rw [e] at hs
  simp [mayS] at hs
theorem reads_any_ok (op w dst src base disp imm cc : Int) (ho : op ≤ 127) : Ret Try.prog 68 [xD op w dst src base disp imm cc] (.int .i64 (readsXX op w dst src base disp imm cc)) := by
  unfold readsXX
  cases h : mayX op w dst src base disp imm cc
  · simp only [Bool.false_eq_true, if_false]
    exact reads_no_ok op w dst src base disp imm cc ho h
  · simp only [if_true]
    obtain ⟨⟨d0, d1, s0, s1, b0, b1, p0, p1, i0, i1⟩, hs⟩ := mayX_parts h
    have hsh := mayX_sh h
    clear hs
    rcases shape_ops hsh with rfl | rfl | rfl | rfl | rfl | rfl | rfl | rfl | rfl | rfl | rfl | rfl | rfl | rfl | rfl | rfl | rfl | rfl | rfl | rfl | rfl | rfl | rfl | rfl | rfl | rfl | rfl | rfl | rfl | rfl | rfl | rfl
    · exact reads_0_ok _ _ _ _ _ _ _ d0 d1 s0 s1 b0 b1 h
    · exact reads_1_ok _ _ _ _ _ _ _ d0 d1 s0 s1 b0 b1 h
    · exact reads_2_ok _ _ _ _ _ _ _ d0 d1 s0 s1 b0 b1 h
    · exact reads_3_ok _ _ _ _ _ _ _ d0 d1 s0 s1 b0 b1 h
    · exact reads_4_ok _ _ _ _ _ _ _ d0 d1 s0 s1 b0 b1 h
    · exact reads_5_ok _ _ _ _ _ _ _ d0 d1 s0 s1 b0 b1 h
    · exact reads_6_ok _ _ _ _ _ _ _ d0 d1 s0 s1 b0 b1 h
    · exact reads_7_ok _ _ _ _ _ _ _ d0 d1 s0 s1 b0 b1 h
    · exact reads_8_ok _ _ _ _ _ _ _ d0 d1 s0 s1 b0 b1 h
    · exact reads_9_ok _ _ _ _ _ _ _ d0 d1 s0 s1 b0 b1 h
    · exact reads_10_ok _ _ _ _ _ _ _ d0 d1 s0 s1 b0 b1 h
    · exact reads_11_ok _ _ _ _ _ _ _ d0 d1 s0 s1 b0 b1 h
    · exact reads_12_ok _ _ _ _ _ _ _ d0 d1 s0 s1 b0 b1 h
    · exact reads_13_ok _ _ _ _ _ _ _ d0 d1 s0 s1 b0 b1 h
    · exact reads_14_ok _ _ _ _ _ _ _ d0 d1 s0 s1 b0 b1 h
    · exact reads_15_ok _ _ _ _ _ _ _ d0 d1 s0 s1 b0 b1 h
    · exact reads_16_ok _ _ _ _ _ _ _ d0 d1 s0 s1 b0 b1 h
    · exact reads_17_ok _ _ _ _ _ _ _ d0 d1 s0 s1 b0 b1 h
    · exact reads_18_ok _ _ _ _ _ _ _ d0 d1 s0 s1 b0 b1 h
    · exact reads_19_ok _ _ _ _ _ _ _ d0 d1 s0 s1 b0 b1 h
    · exact reads_20_ok _ _ _ _ _ _ _ d0 d1 s0 s1 b0 b1 h
    · exact reads_21_ok _ _ _ _ _ _ _ d0 d1 s0 s1 b0 b1 h
    · exact reads_22_ok _ _ _ _ _ _ _ d0 d1 s0 s1 b0 b1 h
    · exact reads_23_ok _ _ _ _ _ _ _ d0 d1 s0 s1 b0 b1 h
    · exact reads_24_ok _ _ _ _ _ _ _ d0 d1 s0 s1 b0 b1 h
    · exact reads_25_ok _ _ _ _ _ _ _ d0 d1 s0 s1 b0 b1 h
    · exact reads_26_ok _ _ _ _ _ _ _ d0 d1 s0 s1 b0 b1 h
    · exact reads_27_ok _ _ _ _ _ _ _ d0 d1 s0 s1 b0 b1 h
    · exact reads_28_ok _ _ _ _ _ _ _ d0 d1 s0 s1 b0 b1 h
    · exact reads_29_ok _ _ _ _ _ _ _ d0 d1 s0 s1 b0 b1 h
    · exact reads_30_ok _ _ _ _ _ _ _ d0 d1 s0 s1 b0 b1 h
    · exact reads_31_ok _ _ _ _ _ _ _ d0 d1 s0 s1 b0 b1 h
theorem writes_any_ok (op w dst src base disp imm cc : Int) (ho : op ≤ 127) : Ret Try.prog 69 [xD op w dst src base disp imm cc] (.int .i64 (writesXX op w dst src base disp imm cc)) := by
  unfold writesXX
  cases h : mayX op w dst src base disp imm cc
  · simp only [Bool.false_eq_true, if_false]
    exact writes_no_ok op w dst src base disp imm cc ho h
  · simp only [if_true]
    obtain ⟨⟨d0, d1, s0, s1, b0, b1, p0, p1, i0, i1⟩, hs⟩ := mayX_parts h
    have hsh := mayX_sh h
    clear hs
    rcases shape_ops hsh with rfl | rfl | rfl | rfl | rfl | rfl | rfl | rfl | rfl | rfl | rfl | rfl | rfl | rfl | rfl | rfl | rfl | rfl | rfl | rfl | rfl | rfl | rfl | rfl | rfl | rfl | rfl | rfl | rfl | rfl | rfl | rfl
    · exact writes_0_ok _ _ _ _ _ _ _ d0 d1 s0 s1 b0 b1 h
    · exact writes_1_ok _ _ _ _ _ _ _ d0 d1 s0 s1 b0 b1 h
    · exact writes_2_ok _ _ _ _ _ _ _ d0 d1 s0 s1 b0 b1 h
    · exact writes_3_ok _ _ _ _ _ _ _ d0 d1 s0 s1 b0 b1 h
    · exact writes_4_ok _ _ _ _ _ _ _ d0 d1 s0 s1 b0 b1 h
    · exact writes_5_ok _ _ _ _ _ _ _ d0 d1 s0 s1 b0 b1 h
    · exact writes_6_ok _ _ _ _ _ _ _ d0 d1 s0 s1 b0 b1 h
    · exact writes_7_ok _ _ _ _ _ _ _ d0 d1 s0 s1 b0 b1 h
    · exact writes_8_ok _ _ _ _ _ _ _ d0 d1 s0 s1 b0 b1 h
    · exact writes_9_ok _ _ _ _ _ _ _ d0 d1 s0 s1 b0 b1 h
    · exact writes_10_ok _ _ _ _ _ _ _ d0 d1 s0 s1 b0 b1 h
    · exact writes_11_ok _ _ _ _ _ _ _ d0 d1 s0 s1 b0 b1 h
    · exact writes_12_ok _ _ _ _ _ _ _ d0 d1 s0 s1 b0 b1 h
    · exact writes_13_ok _ _ _ _ _ _ _ d0 d1 s0 s1 b0 b1 h
    · exact writes_14_ok _ _ _ _ _ _ _ d0 d1 s0 s1 b0 b1 h
    · exact writes_15_ok _ _ _ _ _ _ _ d0 d1 s0 s1 b0 b1 h
    · exact writes_16_ok _ _ _ _ _ _ _ d0 d1 s0 s1 b0 b1 h
    · exact writes_17_ok _ _ _ _ _ _ _ d0 d1 s0 s1 b0 b1 h
    · exact writes_18_ok _ _ _ _ _ _ _ d0 d1 s0 s1 b0 b1 h
    · exact writes_19_ok _ _ _ _ _ _ _ d0 d1 s0 s1 b0 b1 h
    · exact writes_20_ok _ _ _ _ _ _ _ d0 d1 s0 s1 b0 b1 h
    · exact writes_21_ok _ _ _ _ _ _ _ d0 d1 s0 s1 b0 b1 h
    · exact writes_22_ok _ _ _ _ _ _ _ d0 d1 s0 s1 b0 b1 h
    · exact writes_23_ok _ _ _ _ _ _ _ d0 d1 s0 s1 b0 b1 h
    · exact writes_24_ok _ _ _ _ _ _ _ d0 d1 s0 s1 b0 b1 h
    · exact writes_25_ok _ _ _ _ _ _ _ d0 d1 s0 s1 b0 b1 h
    · exact writes_26_ok _ _ _ _ _ _ _ d0 d1 s0 s1 b0 b1 h
    · exact writes_27_ok _ _ _ _ _ _ _ d0 d1 s0 s1 b0 b1 h
    · exact writes_28_ok _ _ _ _ _ _ _ d0 d1 s0 s1 b0 b1 h
    · exact writes_29_ok _ _ _ _ _ _ _ d0 d1 s0 s1 b0 b1 h
    · exact writes_30_ok _ _ _ _ _ _ _ d0 d1 s0 s1 b0 b1 h
    · exact writes_31_ok _ _ _ _ _ _ _ d0 d1 s0 s1 b0 b1 h
end Go.Proofs.Ytojgmjfcfpclbaa

namespace Go.Ev
open Go
def inU (n : Int) : Prop := 0 ≤ n ∧ n ≤ 18446744073709551615
theorem cut_cut (v w : Int) : cutM (cutM v w) w = cutM v w := by
  unfold cutM
  split
  · omega
  · split
    · omega
    · split
      · omega
      · rfl
def bitOf (w k : Int) : Int := IntKind.i64.wrap ((BitVec.ofInt 64 (w.fdiv (2 ^ (min k.toNat 64))) &&& BitVec.ofInt 64 1).toNat : Int)
theorem succ16 {k : Int} (h0 : 0 ≤ k) (h1 : k ≤ 15) : IntKind.i64.wrap (k + 1) = k + 1 := by rw [w_i64]; omega
def mayP (w dst src : Int) : Bool := longM w && regM dst && regM src
end Go.Ev

namespace Go.Ev
open Go
end Go.Ev
