/- Contracts and plain laws that a statement's proof leans on (texts merged: XMay1, XMay2, XMay3, XMayA, XB0, NumA, XB1, XB2a). -/
import Derived.WalkKit
import Derived.IntWalk
import Derived.KernelRfl
import Derived.LoopN
import Derived.Test.YtglcgdnaanhddaaGreatN05
import Derived.Test.YtglcgdnaanhddaaGreatN06
import Derived.Test.YtglcgdnaanhddaaGreatN07
set_option linter.unusedVariables false
set_option linter.unusedSimpArgs false
set_option maxRecDepth 100000
set_option maxHeartbeats 8000000
namespace Go.Proofs.YtglcgdnaanhddaaGreat
open Go Go.Ev
def SpXMay10 (k0_ : Int) : Prop := ∀ (op w dst src base disp imm cc : Int) (ho : op ≤ 127) (h : (shapeM op == k0_) = true) (hin : decide (0 ≤ op ∧ op ≤ 31) = true), Ret Tryz.prog 29 ([xD op w dst src base disp imm cc]) (.bool (mayX op w dst src base disp imm cc))
theorem mayX_3_ok : SpXMay10 3 := by
 intro op w dst src base disp imm cc ho h hin
 have c0 := @of_any_ok op ho
 rw [eq_of_beq h] at c0
 generalize g2 : codeM op = r1 at c0
 generalize g4 : numM op = r3 at c0
 have c5 := @bare_3_ok op w dst src base disp imm cc 3 (rfl : true = true)
 let E1 : EL := ([.ret _ _ _ c0] ++ List.replicate 4 (tC (eF (nt hin))) ++ [.ret _ _ _ c5, tC (eF (nt hin)), tC (eF (nt hin)), .flat _ _ flat_X, tC (nt hin)])
 rcases bft (eqCells [.int .i8 0, .int .i8 0, .int .i8 0, .int .i8 src, .int .i8 base, .int .i64 disp, .int .i64 0, .int .i8 cc] [.int .i8 0, .int .i8 0, .int .i8 0, .int .i8 0, .int .i8 0, .int .i64 0, .int .i64 0, .int .i8 0]) with h6 | h6
 ·have c7 := @reg_ok dst
  generalize g9 : regM dst = r8 at c7
  let E2 : EL := E1 ++ List.replicate 3 (tC (eF (nt h6))) ++ [.ret _ _ _ c7, tC (eF (nt h6)), tC (nt h6)]
  cases r8
  ·exact (o29 (d := .bool false) (E2 ++ [tF, tF, tF, tF, tT, tF, tF, tF, tF, tT, tF, tF, tF, tF, tT, tF, tF, tF, tF, tT, tT]) (by kernel_rfl)).to (by clear E1 E2; (try simp only [sl0, wk, wkL, wkO, eqCells, eqCell, mayX, regM, mayS, longM, widthM, jumpM, ccM] at *); (simp [wk, wkL, wkO, eqCells, eqCell, mayX, regM, mayS, longM, widthM, jumpM, ccM, *]; done))
  have c10 := @reg_ok src
  generalize g12 : regM src = r11 at c10
  let E3 : EL := E2 ++ [tT, tT, tT, .ret _ _ _ c10, tT, tF]
  cases r11
  ·exact (o29 (d := .bool false) (E3 ++ [tF, tF, tF, tF, tT, tF, tF, tF, tF, tT, tF, tF, tF, tF, tT, tT]) (by kernel_rfl)).to (by clear E1 E2 E3; (try simp only [sl0, wk, wkL, wkO, eqCells, eqCell, mayX, regM, mayS, longM, widthM, jumpM, ccM] at *); (simp [wk, wkL, wkO, eqCells, eqCell, mayX, regM, mayS, longM, widthM, jumpM, ccM, *]; done))
  have c13 := @reg_ok base
  generalize g15 : regM base = r14 at c13
  let E4 : EL := E3 ++ [tT, tT, tT, .ret _ _ _ c13, tT, tF]
  cases r14
  ·exact (o29 (d := .bool false) (E4 ++ [tF, tF, tF, tF, tT, tF, tF, tF, tF, tT, tT]) (by kernel_rfl)).to (by clear E1 E2 E3 E4; (try simp only [sl0, wk, wkL, wkO, eqCells, eqCell, mayX, regM, mayS, longM, widthM, jumpM, ccM] at *); (simp [wk, wkL, wkO, eqCells, eqCell, mayX, regM, mayS, longM, widthM, jumpM, ccM, *]; done))
  have c16 := @within_ok disp (-2147483648) 2147483647
  let E5 : EL := E4 ++ [tT, tT, tT, .ret _ _ _ c16, tT, tF]
  rcases bft (decide (disp < (-2147483648))) with h17 | h17
  ·exact (o29 (d := .bool false) (E5 ++ List.replicate 4 (tC (eF (nt (andF (y := decide (disp ≤ 2147483647)) (leL (-2147483648) h17))))) ++ [tC (nt (andF (y := decide (disp ≤ 2147483647)) (leL (-2147483648) h17))), tT]) (by kernel_rfl)).to (by clear E1 E2 E3 E4 E5; (try simp only [sl0, wk, wkL, wkO, eqCells, eqCell, mayX, regM, mayS, longM, widthM, jumpM, ccM] at *); (simp [wk, wkL, wkO, eqCells, eqCell, mayX, regM, mayS, longM, widthM, jumpM, ccM, *]; omega))
  rcases bft (decide (disp < 2147483648)) with h18 | h18
  ·have c19 := @within_ok imm (-2147483648) 2147483647
   let E6 : EL := E5 ++ List.replicate 3 (tC (eF (nt (andT (leL (-2147483648) h17) (leC 2147483647 h18))))) ++ [.ret _ _ _ c19, tC (eF (nt (andT (leL (-2147483648) h17) (leC 2147483647 h18)))), tC (nt (andT (leL (-2147483648) h17) (leC 2147483647 h18)))]
   rcases bft (decide (imm < (-2147483648))) with h20 | h20
   ·exact (o29 (d := .bool false) (E6 ++ [tC (nt (andF (y := decide (imm ≤ 2147483647)) (leL (-2147483648) h20)))]) (by kernel_rfl)).to (by clear E1 E2 E3 E4 E5 E6; (try simp only [sl0, wk, wkL, wkO, eqCells, eqCell, mayX, regM, mayS, longM, widthM, jumpM, ccM] at *); (simp [wk, wkL, wkO, eqCells, eqCell, mayX, regM, mayS, longM, widthM, jumpM, ccM, *]; omega))
   rcases bft (decide (imm < 2147483648)) with h21 | h21
   ·let E7 : EL := E6 ++ [tC (nt (andT (leL (-2147483648) h20) (leC 2147483647 h21)))]
    by_cases h22 : w = 32
    ·subst h22
     exact (o29 (d := .bool true) (E7 ++ [tF, tF, tF, tT, tF, tF, tF, tF, tF, tT, tF, tF, tT, tT]) (by kernel_rfl)).to (by clear E1 E2 E3 E4 E5 E6 E7; (try simp only [sl0, wk, wkL, wkO, eqCells, eqCell, mayX, regM, mayS, longM, widthM, jumpM, ccM] at *); (rw [Bool.eq_iff_iff]; simp [wk, wkL, wkO, eqCells, eqCell, mayX, regM, mayS, longM, widthM, jumpM, ccM, *]; grind))
    let E8 : EL := E7 ++ List.replicate 3 (tC (eF (neOf h22))) ++ [tC (neOf h22)] ++ List.replicate 4 (tC (eF (neOf h22)))
    by_cases h23 : w = 8
    ·subst h23
     have c24 := @within_ok imm (-128) 127
     exact (o29 (d := .bool false) (E8 ++ [tT, tT, tT, .ret _ _ _ c24, tT, tT, tF, tF, tF, tT, tT]) (by kernel_rfl)).to (by clear E1 E2 E3 E4 E5 E6 E7 E8; (try simp only [sl0, wk, wkL, wkO, eqCells, eqCell, mayX, regM, mayS, longM, widthM, jumpM, ccM] at *); (simp [wk, wkL, wkO, eqCells, eqCell, mayX, regM, mayS, longM, widthM, jumpM, ccM, *]; done))
    exact (o29 (d := .bool (w == 64)) (E8 ++ List.replicate 3 (tC (eT (neOf h23))) ++ [tC (eF (neOf h22)), tC (neOf h23), tC (neOf h22), tF, tF, tT, tT]) (by kernel_rfl)).to (by clear E1 E2 E3 E4 E5 E6 E7 E8; (try simp only [sl0, wk, wkL, wkO, eqCells, eqCell, mayX, regM, mayS, longM, widthM, jumpM, ccM] at *); (rw [Bool.eq_iff_iff]; simp [wk, wkL, wkO, eqCells, eqCell, mayX, regM, mayS, longM, widthM, jumpM, ccM, *]; grind))
   exact (o29 (d := .bool false) (E6 ++ [tC (nt (andT (leL (-2147483648) h20) (leC 2147483647 h21)))]) (by kernel_rfl)).to (by clear E1 E2 E3 E4 E5 E6; (try simp only [sl0, wk, wkL, wkO, eqCells, eqCell, mayX, regM, mayS, longM, widthM, jumpM, ccM] at *); (simp [wk, wkL, wkO, eqCells, eqCell, mayX, regM, mayS, longM, widthM, jumpM, ccM, *]; omega))
  exact (o29 (d := .bool false) (E5 ++ List.replicate 4 (tC (eF (nt (andT (leL (-2147483648) h17) (leC 2147483647 h18))))) ++ [tC (nt (andT (leL (-2147483648) h17) (leC 2147483647 h18))), tT]) (by kernel_rfl)).to (by clear E1 E2 E3 E4 E5; (try simp only [sl0, wk, wkL, wkO, eqCells, eqCell, mayX, regM, mayS, longM, widthM, jumpM, ccM] at *); (simp [wk, wkL, wkO, eqCells, eqCell, mayX, regM, mayS, longM, widthM, jumpM, ccM, *]; omega))
 exact (o29 (d := .bool false) (E1 ++ List.replicate 4 (tC (eF (nt h6))) ++ [tC (nt h6), tF, tF, tF, tF, tT, tF, tF, tF, tF, tT, tF, tF, tF, tF, tT, tF, tF, tF, tF, tT, tT]) (by kernel_rfl)).to (by clear E1; (try simp only [sl0, wk, wkL, wkO, eqCells, eqCell, mayX, regM, mayS, longM, widthM, jumpM, ccM] at *); (rw [Bool.eq_iff_iff]; simp [wk, wkL, wkO, eqCells, eqCell, mayX, regM, mayS, longM, widthM, jumpM, ccM, *]; grind))
theorem mayX_4_ok : SpXMay10 4 := by
 intro op w dst src base disp imm cc ho h hin
 have c0 := @of_any_ok op ho
 rw [eq_of_beq h] at c0
 generalize g2 : codeM op = r1 at c0
 generalize g4 : numM op = r3 at c0
 have c5 := @bare_4_ok op w dst src base disp imm cc 4 (rfl : true = true)
 let E1 : EL := ([.ret _ _ _ c0] ++ List.replicate 4 (tC (eF (nt hin))) ++ [.ret _ _ _ c5, tC (eF (nt hin)), tC (eF (nt hin)), .flat _ _ flat_X, tC (nt hin)])
 rcases bft (eqCells [.int .i8 0, .int .i8 0, .int .i8 0, .int .i8 src, .int .i8 base, .int .i64 disp, .int .i64 0, .int .i8 cc] [.int .i8 0, .int .i8 0, .int .i8 0, .int .i8 0, .int .i8 0, .int .i64 0, .int .i64 0, .int .i8 0]) with h6 | h6
 ·have c7 := @reg_ok dst
  generalize g9 : regM dst = r8 at c7
  let E2 : EL := E1 ++ List.replicate 3 (tC (eF (nt h6))) ++ [.ret _ _ _ c7, tC (eF (nt h6)), tC (nt h6)]
  cases r8
  ·exact (o29 (d := .bool false) (E2 ++ [tF, tF, tF, tF, tT, tF, tF, tF, tF, tT, tF, tF, tF, tF, tT, tF, tF, tF, tF, tT, tT]) (by kernel_rfl)).to (by clear E1 E2; (try simp only [sl0, wk, wkL, wkO, eqCells, eqCell, mayX, regM, mayS, longM, widthM, jumpM, ccM] at *); (simp [wk, wkL, wkO, eqCells, eqCell, mayX, regM, mayS, longM, widthM, jumpM, ccM, *]; done))
  have c10 := @reg_ok src
  generalize g12 : regM src = r11 at c10
  let E3 : EL := E2 ++ [tT, tT, tT, .ret _ _ _ c10, tT, tF]
  cases r11
  ·exact (o29 (d := .bool false) (E3 ++ [tF, tF, tF, tF, tT, tF, tF, tF, tF, tT, tF, tF, tF, tF, tT, tT]) (by kernel_rfl)).to (by clear E1 E2 E3; (try simp only [sl0, wk, wkL, wkO, eqCells, eqCell, mayX, regM, mayS, longM, widthM, jumpM, ccM] at *); (simp [wk, wkL, wkO, eqCells, eqCell, mayX, regM, mayS, longM, widthM, jumpM, ccM, *]; done))
  have c13 := @reg_ok base
  generalize g15 : regM base = r14 at c13
  let E4 : EL := E3 ++ [tT, tT, tT, .ret _ _ _ c13, tT, tF]
  cases r14
  ·exact (o29 (d := .bool false) (E4 ++ [tF, tF, tF, tF, tT, tF, tF, tF, tF, tT, tT]) (by kernel_rfl)).to (by clear E1 E2 E3 E4; (try simp only [sl0, wk, wkL, wkO, eqCells, eqCell, mayX, regM, mayS, longM, widthM, jumpM, ccM] at *); (simp [wk, wkL, wkO, eqCells, eqCell, mayX, regM, mayS, longM, widthM, jumpM, ccM, *]; done))
  have c16 := @within_ok disp (-2147483648) 2147483647
  let E5 : EL := E4 ++ [tT, tT, tT, .ret _ _ _ c16, tT, tF]
  rcases bft (decide (disp < (-2147483648))) with h17 | h17
  ·exact (o29 (d := .bool false) (E5 ++ List.replicate 4 (tC (eF (nt (andF (y := decide (disp ≤ 2147483647)) (leL (-2147483648) h17))))) ++ [tC (nt (andF (y := decide (disp ≤ 2147483647)) (leL (-2147483648) h17))), tT]) (by kernel_rfl)).to (by clear E1 E2 E3 E4 E5; (try simp only [sl0, wk, wkL, wkO, eqCells, eqCell, mayX, regM, mayS, longM, widthM, jumpM, ccM] at *); (simp [wk, wkL, wkO, eqCells, eqCell, mayX, regM, mayS, longM, widthM, jumpM, ccM, *]; omega))
  rcases bft (decide (disp < 2147483648)) with h18 | h18
  ·have c19 := @within_ok imm (-2147483648) 2147483647
   let E6 : EL := E5 ++ List.replicate 3 (tC (eF (nt (andT (leL (-2147483648) h17) (leC 2147483647 h18))))) ++ [.ret _ _ _ c19, tC (eF (nt (andT (leL (-2147483648) h17) (leC 2147483647 h18)))), tC (nt (andT (leL (-2147483648) h17) (leC 2147483647 h18)))]
   rcases bft (decide (imm < (-2147483648))) with h20 | h20
   ·exact (o29 (d := .bool false) (E6 ++ [tC (nt (andF (y := decide (imm ≤ 2147483647)) (leL (-2147483648) h20)))]) (by kernel_rfl)).to (by clear E1 E2 E3 E4 E5 E6; (try simp only [sl0, wk, wkL, wkO, eqCells, eqCell, mayX, regM, mayS, longM, widthM, jumpM, ccM] at *); (simp [wk, wkL, wkO, eqCells, eqCell, mayX, regM, mayS, longM, widthM, jumpM, ccM, *]; omega))
   rcases bft (decide (imm < 2147483648)) with h21 | h21
   ·let E7 : EL := E6 ++ [tC (nt (andT (leL (-2147483648) h20) (leC 2147483647 h21)))]
    by_cases h22 : w = 32
    ·subst h22
     have c23 := @within_ok imm 0 31
     exact (o29 (d := .bool (decide (0 ≤ imm) && decide (imm ≤ 31))) (E7 ++ [tF, tF, tF, tT, tF, tF, tF, tF, tF, tT, tF, tF, tF, tF] ++ List.replicate 8 tT ++ [.ret _ _ _ c23, tT]) (by kernel_rfl)).to (by clear E1 E2 E3 E4 E5 E6 E7; (try simp only [sl0, wk, wkL, wkO, eqCells, eqCell, mayX, regM, mayS, longM, widthM, jumpM, ccM] at *); (rw [Bool.eq_iff_iff]; simp [wk, wkL, wkO, eqCells, eqCell, mayX, regM, mayS, longM, widthM, jumpM, ccM, *]; grind))
    let E8 : EL := E7 ++ List.replicate 3 (tC (eF (neOf h22))) ++ [tC (neOf h22)] ++ List.replicate 4 (tC (eF (neOf h22)))
    by_cases h24 : w = 8
    ·subst h24
     have c25 := @within_ok imm (-128) 127
     exact (o29 (d := .bool false) (E8 ++ [tT, tT, tT, .ret _ _ _ c25, tT, tT, tF, tF, tF, tF, tF, tT] ++ List.replicate 8 tF) (by kernel_rfl)).to (by clear E1 E2 E3 E4 E5 E6 E7 E8; (try simp only [sl0, wk, wkL, wkO, eqCells, eqCell, mayX, regM, mayS, longM, widthM, jumpM, ccM] at *); (simp [wk, wkL, wkO, eqCells, eqCell, mayX, regM, mayS, longM, widthM, jumpM, ccM, *]; done))
    let E9 : EL := E8 ++ List.replicate 3 (tC (eT (neOf h24))) ++ [tC (eF (neOf h22)), tC (neOf h24), tC (neOf h22), tF, tF, tF, tF, tT]
    by_cases h26 : w = 64
    ·subst h26
     have c27 := @within_ok imm 0 63
     exact (o29 (d := .bool (decide (0 ≤ imm) && decide (imm ≤ 63))) (E9 ++ [tT, tT, tT, tT, tT, tT, tT, .ret _ _ _ c27, tT]) (by kernel_rfl)).to (by clear E1 E2 E3 E4 E5 E6 E7 E8 E9; (try simp only [sl0, wk, wkL, wkO, eqCells, eqCell, mayX, regM, mayS, longM, widthM, jumpM, ccM] at *); (rw [Bool.eq_iff_iff]; simp [wk, wkL, wkO, eqCells, eqCell, mayX, regM, mayS, longM, widthM, jumpM, ccM, *]; grind))
    exact (o29 (d := .bool false) (E9 ++ List.replicate 7 (tC (eT (neOf h26))) ++ [tC (neOf h26)]) (by kernel_rfl)).to (by clear E1 E2 E3 E4 E5 E6 E7 E8 E9; (try simp only [sl0, wk, wkL, wkO, eqCells, eqCell, mayX, regM, mayS, longM, widthM, jumpM, ccM] at *); (simp [wk, wkL, wkO, eqCells, eqCell, mayX, regM, mayS, longM, widthM, jumpM, ccM, *]; done))
   exact (o29 (d := .bool false) (E6 ++ [tC (nt (andT (leL (-2147483648) h20) (leC 2147483647 h21)))]) (by kernel_rfl)).to (by clear E1 E2 E3 E4 E5 E6; (try simp only [sl0, wk, wkL, wkO, eqCells, eqCell, mayX, regM, mayS, longM, widthM, jumpM, ccM] at *); (simp [wk, wkL, wkO, eqCells, eqCell, mayX, regM, mayS, longM, widthM, jumpM, ccM, *]; omega))
  exact (o29 (d := .bool false) (E5 ++ List.replicate 4 (tC (eF (nt (andT (leL (-2147483648) h17) (leC 2147483647 h18))))) ++ [tC (nt (andT (leL (-2147483648) h17) (leC 2147483647 h18))), tT]) (by kernel_rfl)).to (by clear E1 E2 E3 E4 E5; (try simp only [sl0, wk, wkL, wkO, eqCells, eqCell, mayX, regM, mayS, longM, widthM, jumpM, ccM] at *); (simp [wk, wkL, wkO, eqCells, eqCell, mayX, regM, mayS, longM, widthM, jumpM, ccM, *]; omega))
 exact (o29 (d := .bool false) (E1 ++ List.replicate 4 (tC (eF (nt h6))) ++ [tC (nt h6), tF, tF, tF, tF, tT, tF, tF, tF, tF, tT, tF, tF, tF, tF, tT, tF, tF, tF, tF, tT, tT]) (by kernel_rfl)).to (by clear E1; (try simp only [sl0, wk, wkL, wkO, eqCells, eqCell, mayX, regM, mayS, longM, widthM, jumpM, ccM] at *); (rw [Bool.eq_iff_iff]; simp [wk, wkL, wkO, eqCells, eqCell, mayX, regM, mayS, longM, widthM, jumpM, ccM, *]; grind))
theorem mayX_5_ok : SpXMay10 5 := by
 intro op w dst src base disp imm cc ho h hin
 have c0 := @of_any_ok op ho
 rw [eq_of_beq h] at c0
 generalize g2 : codeM op = r1 at c0
 generalize g4 : numM op = r3 at c0
 have c5 := @bare_5_ok op w dst src base disp imm cc 5 (rfl : true = true)
 let E1 : EL := ([.ret _ _ _ c0] ++ List.replicate 4 (tC (eF (nt hin))) ++ [.ret _ _ _ c5, tC (eF (nt hin)), tC (eF (nt hin)), .flat _ _ flat_X, tC (nt hin)])
 rcases bft (eqCells [.int .i8 0, .int .i8 0, .int .i8 0, .int .i8 src, .int .i8 base, .int .i64 disp, .int .i64 imm, .int .i8 cc] [.int .i8 0, .int .i8 0, .int .i8 0, .int .i8 0, .int .i8 0, .int .i64 0, .int .i64 0, .int .i8 0]) with h6 | h6
 ·have c7 := @reg_ok dst
  generalize g9 : regM dst = r8 at c7
  let E2 : EL := E1 ++ List.replicate 3 (tC (eF (nt h6))) ++ [.ret _ _ _ c7, tC (eF (nt h6)), tC (nt h6)]
  cases r8
  ·exact (o29 (d := .bool false) (E2 ++ [tF, tF, tF, tF, tT, tF, tF, tF, tF, tT, tF, tF, tF, tF, tT, tF, tF, tF, tF, tT, tT]) (by kernel_rfl)).to (by clear E1 E2; (try simp only [sl0, wk, wkL, wkO, eqCells, eqCell, mayX, regM, mayS, longM, widthM, jumpM, ccM] at *); (simp [wk, wkL, wkO, eqCells, eqCell, mayX, regM, mayS, longM, widthM, jumpM, ccM, *]; done))
  have c10 := @reg_ok src
  generalize g12 : regM src = r11 at c10
  let E3 : EL := E2 ++ [tT, tT, tT, .ret _ _ _ c10, tT, tF]
  cases r11
  ·exact (o29 (d := .bool false) (E3 ++ [tF, tF, tF, tF, tT, tF, tF, tF, tF, tT, tF, tF, tF, tF, tT, tT]) (by kernel_rfl)).to (by clear E1 E2 E3; (try simp only [sl0, wk, wkL, wkO, eqCells, eqCell, mayX, regM, mayS, longM, widthM, jumpM, ccM] at *); (simp [wk, wkL, wkO, eqCells, eqCell, mayX, regM, mayS, longM, widthM, jumpM, ccM, *]; done))
  have c13 := @reg_ok base
  generalize g15 : regM base = r14 at c13
  let E4 : EL := E3 ++ [tT, tT, tT, .ret _ _ _ c13, tT, tF]
  cases r14
  ·exact (o29 (d := .bool false) (E4 ++ [tF, tF, tF, tF, tT, tF, tF, tF, tF, tT, tT]) (by kernel_rfl)).to (by clear E1 E2 E3 E4; (try simp only [sl0, wk, wkL, wkO, eqCells, eqCell, mayX, regM, mayS, longM, widthM, jumpM, ccM] at *); (simp [wk, wkL, wkO, eqCells, eqCell, mayX, regM, mayS, longM, widthM, jumpM, ccM, *]; done))
  have c16 := @within_ok disp (-2147483648) 2147483647
  let E5 : EL := E4 ++ [tT, tT, tT, .ret _ _ _ c16, tT, tF]
  rcases bft (decide (disp < (-2147483648))) with h17 | h17
  ·exact (o29 (d := .bool false) (E5 ++ List.replicate 4 (tC (eF (nt (andF (y := decide (disp ≤ 2147483647)) (leL (-2147483648) h17))))) ++ [tC (nt (andF (y := decide (disp ≤ 2147483647)) (leL (-2147483648) h17))), tT]) (by kernel_rfl)).to (by clear E1 E2 E3 E4 E5; (try simp only [sl0, wk, wkL, wkO, eqCells, eqCell, mayX, regM, mayS, longM, widthM, jumpM, ccM] at *); (simp [wk, wkL, wkO, eqCells, eqCell, mayX, regM, mayS, longM, widthM, jumpM, ccM, *]; omega))
  rcases bft (decide (disp < 2147483648)) with h18 | h18
  ·have c19 := @within_ok imm (-2147483648) 2147483647
   let E6 : EL := E5 ++ List.replicate 3 (tC (eF (nt (andT (leL (-2147483648) h17) (leC 2147483647 h18))))) ++ [.ret _ _ _ c19, tC (eF (nt (andT (leL (-2147483648) h17) (leC 2147483647 h18)))), tC (nt (andT (leL (-2147483648) h17) (leC 2147483647 h18)))]
   rcases bft (decide (imm < (-2147483648))) with h20 | h20
   ·exact (o29 (d := .bool false) (E6 ++ [tC (nt (andF (y := decide (imm ≤ 2147483647)) (leL (-2147483648) h20)))]) (by kernel_rfl)).to (by clear E1 E2 E3 E4 E5 E6; (try simp only [sl0, wk, wkL, wkO, eqCells, eqCell, mayX, regM, mayS, longM, widthM, jumpM, ccM] at *); (simp [wk, wkL, wkO, eqCells, eqCell, mayX, regM, mayS, longM, widthM, jumpM, ccM, *]; omega))
   rcases bft (decide (imm < 2147483648)) with h21 | h21
   ·let E7 : EL := E6 ++ [tC (nt (andT (leL (-2147483648) h20) (leC 2147483647 h21)))]
    by_cases h22 : w = 32
    ·subst h22
     exact (o29 (d := .bool true) (E7 ++ [tF, tF, tF, tT, tF, tF, tF, tF, tF, tT, tF, tF, tF, tT]) (by kernel_rfl)).to (by clear E1 E2 E3 E4 E5 E6 E7; (try simp only [sl0, wk, wkL, wkO, eqCells, eqCell, mayX, regM, mayS, longM, widthM, jumpM, ccM] at *); (rw [Bool.eq_iff_iff]; simp [wk, wkL, wkO, eqCells, eqCell, mayX, regM, mayS, longM, widthM, jumpM, ccM, *]; grind))
    let E8 : EL := E7 ++ List.replicate 3 (tC (eF (neOf h22))) ++ [tC (neOf h22)] ++ List.replicate 4 (tC (eF (neOf h22)))
    by_cases h23 : w = 8
    ·subst h23
     have c24 := @within_ok imm (-128) 127
     exact (o29 (d := .bool false) (E8 ++ [tT, tT, tT, .ret _ _ _ c24, tT, tT, tF, tF, tF, tF, tT]) (by kernel_rfl)).to (by clear E1 E2 E3 E4 E5 E6 E7 E8; (try simp only [sl0, wk, wkL, wkO, eqCells, eqCell, mayX, regM, mayS, longM, widthM, jumpM, ccM] at *); (simp [wk, wkL, wkO, eqCells, eqCell, mayX, regM, mayS, longM, widthM, jumpM, ccM, *]; done))
    exact (o29 (d := .bool (w == 64)) (E8 ++ List.replicate 3 (tC (eT (neOf h23))) ++ [tC (eF (neOf h22)), tC (neOf h23), tC (neOf h22), tF, tF, tF, tT]) (by kernel_rfl)).to (by clear E1 E2 E3 E4 E5 E6 E7 E8; (try simp only [sl0, wk, wkL, wkO, eqCells, eqCell, mayX, regM, mayS, longM, widthM, jumpM, ccM] at *); (rw [Bool.eq_iff_iff]; simp [wk, wkL, wkO, eqCells, eqCell, mayX, regM, mayS, longM, widthM, jumpM, ccM, *]; grind))
   exact (o29 (d := .bool false) (E6 ++ [tC (nt (andT (leL (-2147483648) h20) (leC 2147483647 h21)))]) (by kernel_rfl)).to (by clear E1 E2 E3 E4 E5 E6; (try simp only [sl0, wk, wkL, wkO, eqCells, eqCell, mayX, regM, mayS, longM, widthM, jumpM, ccM] at *); (simp [wk, wkL, wkO, eqCells, eqCell, mayX, regM, mayS, longM, widthM, jumpM, ccM, *]; omega))
  exact (o29 (d := .bool false) (E5 ++ List.replicate 4 (tC (eF (nt (andT (leL (-2147483648) h17) (leC 2147483647 h18))))) ++ [tC (nt (andT (leL (-2147483648) h17) (leC 2147483647 h18))), tT]) (by kernel_rfl)).to (by clear E1 E2 E3 E4 E5; (try simp only [sl0, wk, wkL, wkO, eqCells, eqCell, mayX, regM, mayS, longM, widthM, jumpM, ccM] at *); (simp [wk, wkL, wkO, eqCells, eqCell, mayX, regM, mayS, longM, widthM, jumpM, ccM, *]; omega))
 exact (o29 (d := .bool false) (E1 ++ List.replicate 4 (tC (eF (nt h6))) ++ [tC (nt h6), tF, tF, tF, tF, tT, tF, tF, tF, tF, tT, tF, tF, tF, tF, tT, tF, tF, tF, tF, tT, tT]) (by kernel_rfl)).to (by clear E1; (try simp only [sl0, wk, wkL, wkO, eqCells, eqCell, mayX, regM, mayS, longM, widthM, jumpM, ccM] at *); (rw [Bool.eq_iff_iff]; simp [wk, wkL, wkO, eqCells, eqCell, mayX, regM, mayS, longM, widthM, jumpM, ccM, *]; grind))
def SpXMay20 (k0_ : Int) : Prop := ∀ (op w dst src base disp imm cc : Int) (ho : op ≤ 127) (h : (shapeM op == k0_) = true) (hin : decide (0 ≤ op ∧ op ≤ 31) = true), Ret Tryz.prog 29 ([xD op w dst src base disp imm cc]) (.bool (mayX op w dst src base disp imm cc))
theorem mayX_6_ok : SpXMay20 6 := by
 intro op w dst src base disp imm cc ho h hin
 have c0 := @of_any_ok op ho
 rw [eq_of_beq h] at c0
 generalize g2 : codeM op = r1 at c0
 generalize g4 : numM op = r3 at c0
 have c5 := @bare_6_ok op w dst src base disp imm cc 6 (rfl : true = true)
 let E1 : EL := ([.ret _ _ _ c0] ++ List.replicate 4 (tC (eF (nt hin))) ++ [.ret _ _ _ c5, tC (eF (nt hin)), tC (eF (nt hin)), .flat _ _ flat_X, tC (nt hin)])
 rcases bft (eqCells [.int .i8 0, .int .i8 0, .int .i8 0, .int .i8 0, .int .i8 base, .int .i64 disp, .int .i64 imm, .int .i8 0] [.int .i8 0, .int .i8 0, .int .i8 0, .int .i8 0, .int .i8 0, .int .i64 0, .int .i64 0, .int .i8 0]) with h6 | h6
 ·have c7 := @reg_ok dst
  generalize g9 : regM dst = r8 at c7
  let E2 : EL := E1 ++ List.replicate 3 (tC (eF (nt h6))) ++ [.ret _ _ _ c7, tC (eF (nt h6)), tC (nt h6)]
  cases r8
  ·exact (o29 (d := .bool false) (E2 ++ [tF, tF, tF, tF, tT, tF, tF, tF, tF, tT, tF, tF, tF, tF, tT, tF, tF, tF, tF, tT, tT]) (by kernel_rfl)).to (by clear E1 E2; (try simp only [sl0, wk, wkL, wkO, eqCells, eqCell, mayX, regM, mayS, longM, widthM, jumpM, ccM] at *); (simp [wk, wkL, wkO, eqCells, eqCell, mayX, regM, mayS, longM, widthM, jumpM, ccM, *]; done))
  have c10 := @reg_ok src
  generalize g12 : regM src = r11 at c10
  let E3 : EL := E2 ++ [tT, tT, tT, .ret _ _ _ c10, tT, tF]
  cases r11
  ·exact (o29 (d := .bool false) (E3 ++ [tF, tF, tF, tF, tT, tF, tF, tF, tF, tT, tF, tF, tF, tF, tT, tT]) (by kernel_rfl)).to (by clear E1 E2 E3; (try simp only [sl0, wk, wkL, wkO, eqCells, eqCell, mayX, regM, mayS, longM, widthM, jumpM, ccM] at *); (simp [wk, wkL, wkO, eqCells, eqCell, mayX, regM, mayS, longM, widthM, jumpM, ccM, *]; done))
  have c13 := @reg_ok base
  generalize g15 : regM base = r14 at c13
  let E4 : EL := E3 ++ [tT, tT, tT, .ret _ _ _ c13, tT, tF]
  cases r14
  ·exact (o29 (d := .bool false) (E4 ++ [tF, tF, tF, tF, tT, tF, tF, tF, tF, tT, tT]) (by kernel_rfl)).to (by clear E1 E2 E3 E4; (try simp only [sl0, wk, wkL, wkO, eqCells, eqCell, mayX, regM, mayS, longM, widthM, jumpM, ccM] at *); (simp [wk, wkL, wkO, eqCells, eqCell, mayX, regM, mayS, longM, widthM, jumpM, ccM, *]; done))
  have c16 := @within_ok disp (-2147483648) 2147483647
  let E5 : EL := E4 ++ [tT, tT, tT, .ret _ _ _ c16, tT, tF]
  rcases bft (decide (disp < (-2147483648))) with h17 | h17
  ·exact (o29 (d := .bool false) (E5 ++ List.replicate 4 (tC (eF (nt (andF (y := decide (disp ≤ 2147483647)) (leL (-2147483648) h17))))) ++ [tC (nt (andF (y := decide (disp ≤ 2147483647)) (leL (-2147483648) h17))), tT]) (by kernel_rfl)).to (by clear E1 E2 E3 E4 E5; (try simp only [sl0, wk, wkL, wkO, eqCells, eqCell, mayX, regM, mayS, longM, widthM, jumpM, ccM] at *); (simp [wk, wkL, wkO, eqCells, eqCell, mayX, regM, mayS, longM, widthM, jumpM, ccM, *]; omega))
  rcases bft (decide (disp < 2147483648)) with h18 | h18
  ·have c19 := @within_ok imm (-2147483648) 2147483647
   let E6 : EL := E5 ++ List.replicate 3 (tC (eF (nt (andT (leL (-2147483648) h17) (leC 2147483647 h18))))) ++ [.ret _ _ _ c19, tC (eF (nt (andT (leL (-2147483648) h17) (leC 2147483647 h18)))), tC (nt (andT (leL (-2147483648) h17) (leC 2147483647 h18)))]
   rcases bft (decide (imm < (-2147483648))) with h20 | h20
   ·exact (o29 (d := .bool false) (E6 ++ [tC (nt (andF (y := decide (imm ≤ 2147483647)) (leL (-2147483648) h20)))]) (by kernel_rfl)).to (by clear E1 E2 E3 E4 E5 E6; (try simp only [sl0, wk, wkL, wkO, eqCells, eqCell, mayX, regM, mayS, longM, widthM, jumpM, ccM] at *); (simp [wk, wkL, wkO, eqCells, eqCell, mayX, regM, mayS, longM, widthM, jumpM, ccM, *]; omega))
   rcases bft (decide (imm < 2147483648)) with h21 | h21
   ·let E7 : EL := E6 ++ [tC (nt (andT (leL (-2147483648) h20) (leC 2147483647 h21)))]
    by_cases h22 : w = 32
    ·subst h22
     have c23 := @cond_ok cc
     generalize g25 : ccM cc = r24 at c23
     exact (o29 (d := .bool r24) (E7 ++ [tF, tF, tF, tT, tF, tF, tF, tF, tF, tT, tF, tF, tF, tF, tF, tT, tT, tT, tT, .ret _ _ _ c23, tT]) (by kernel_rfl)).to (by clear E1 E2 E3 E4 E5 E6 E7; (try simp only [sl0, wk, wkL, wkO, eqCells, eqCell, mayX, regM, mayS, longM, widthM, jumpM, ccM] at *); (rw [Bool.eq_iff_iff]; simp [wk, wkL, wkO, eqCells, eqCell, mayX, regM, mayS, longM, widthM, jumpM, ccM, *]; grind))
    let E8 : EL := E7 ++ List.replicate 3 (tC (eF (neOf h22))) ++ [tC (neOf h22)] ++ List.replicate 4 (tC (eF (neOf h22)))
    by_cases h26 : w = 8
    ·subst h26
     have c27 := @within_ok imm (-128) 127
     exact (o29 (d := .bool false) (E8 ++ [tT, tT, tT, .ret _ _ _ c27, tT, tT, tF, tF, tF, tF, tF, tF, tT, tF, tF, tF, tF]) (by kernel_rfl)).to (by clear E1 E2 E3 E4 E5 E6 E7 E8; (try simp only [sl0, wk, wkL, wkO, eqCells, eqCell, mayX, regM, mayS, longM, widthM, jumpM, ccM] at *); (simp [wk, wkL, wkO, eqCells, eqCell, mayX, regM, mayS, longM, widthM, jumpM, ccM, *]; done))
    let E9 : EL := E8 ++ List.replicate 3 (tC (eT (neOf h26))) ++ [tC (eF (neOf h22)), tC (neOf h26), tC (neOf h22), tF, tF, tF, tF, tF, tT]
    by_cases h28 : w = 64
    ·subst h28
     have c29 := @cond_ok cc
     generalize g31 : ccM cc = r30 at c29
     exact (o29 (d := .bool r30) (E9 ++ [tT, tT, tT, .ret _ _ _ c29, tT]) (by kernel_rfl)).to (by clear E1 E2 E3 E4 E5 E6 E7 E8 E9; (try simp only [sl0, wk, wkL, wkO, eqCells, eqCell, mayX, regM, mayS, longM, widthM, jumpM, ccM] at *); (rw [Bool.eq_iff_iff]; simp [wk, wkL, wkO, eqCells, eqCell, mayX, regM, mayS, longM, widthM, jumpM, ccM, *]; grind))
    exact (o29 (d := .bool false) (E9 ++ List.replicate 3 (tC (eT (neOf h28))) ++ [tC (neOf h28)]) (by kernel_rfl)).to (by clear E1 E2 E3 E4 E5 E6 E7 E8 E9; (try simp only [sl0, wk, wkL, wkO, eqCells, eqCell, mayX, regM, mayS, longM, widthM, jumpM, ccM] at *); (simp [wk, wkL, wkO, eqCells, eqCell, mayX, regM, mayS, longM, widthM, jumpM, ccM, *]; done))
   exact (o29 (d := .bool false) (E6 ++ [tC (nt (andT (leL (-2147483648) h20) (leC 2147483647 h21)))]) (by kernel_rfl)).to (by clear E1 E2 E3 E4 E5 E6; (try simp only [sl0, wk, wkL, wkO, eqCells, eqCell, mayX, regM, mayS, longM, widthM, jumpM, ccM] at *); (simp [wk, wkL, wkO, eqCells, eqCell, mayX, regM, mayS, longM, widthM, jumpM, ccM, *]; omega))
  exact (o29 (d := .bool false) (E5 ++ List.replicate 4 (tC (eF (nt (andT (leL (-2147483648) h17) (leC 2147483647 h18))))) ++ [tC (nt (andT (leL (-2147483648) h17) (leC 2147483647 h18))), tT]) (by kernel_rfl)).to (by clear E1 E2 E3 E4 E5; (try simp only [sl0, wk, wkL, wkO, eqCells, eqCell, mayX, regM, mayS, longM, widthM, jumpM, ccM] at *); (simp [wk, wkL, wkO, eqCells, eqCell, mayX, regM, mayS, longM, widthM, jumpM, ccM, *]; omega))
 exact (o29 (d := .bool false) (E1 ++ List.replicate 4 (tC (eF (nt h6))) ++ [tC (nt h6), tF, tF, tF, tF, tT, tF, tF, tF, tF, tT, tF, tF, tF, tF, tT, tF, tF, tF, tF, tT, tT]) (by kernel_rfl)).to (by clear E1; (try simp only [sl0, wk, wkL, wkO, eqCells, eqCell, mayX, regM, mayS, longM, widthM, jumpM, ccM] at *); (rw [Bool.eq_iff_iff]; simp [wk, wkL, wkO, eqCells, eqCell, mayX, regM, mayS, longM, widthM, jumpM, ccM, *]; grind))
theorem mayX_7_ok : SpXMay20 7 := by
 intro op w dst src base disp imm cc ho h hin
 have c0 := @of_any_ok op ho
 rw [eq_of_beq h] at c0
 generalize g2 : codeM op = r1 at c0
 generalize g4 : numM op = r3 at c0
 have c5 := @bare_7_ok op w dst src base disp imm cc 7 (rfl : true = true)
 let E1 : EL := ([.ret _ _ _ c0] ++ List.replicate 4 (tC (eF (nt hin))) ++ [.ret _ _ _ c5, tC (eF (nt hin)), tC (eF (nt hin)), .flat _ _ flat_X, tC (nt hin)])
 rcases bft (eqCells [.int .i8 0, .int .i8 0, .int .i8 0, .int .i8 src, .int .i8 0, .int .i64 0, .int .i64 imm, .int .i8 cc] [.int .i8 0, .int .i8 0, .int .i8 0, .int .i8 0, .int .i8 0, .int .i64 0, .int .i64 0, .int .i8 0]) with h6 | h6
 ·have c7 := @reg_ok dst
  generalize g9 : regM dst = r8 at c7
  let E2 : EL := E1 ++ List.replicate 3 (tC (eF (nt h6))) ++ [.ret _ _ _ c7, tC (eF (nt h6)), tC (nt h6)]
  cases r8
  ·exact (o29 (d := .bool false) (E2 ++ [tF, tF, tF, tF, tT, tF, tF, tF, tF, tT, tF, tF, tF, tF, tT, tF, tF, tF, tF, tT, tT]) (by kernel_rfl)).to (by clear E1 E2; (try simp only [sl0, wk, wkL, wkO, eqCells, eqCell, mayX, regM, mayS, longM, widthM, jumpM, ccM] at *); (simp [wk, wkL, wkO, eqCells, eqCell, mayX, regM, mayS, longM, widthM, jumpM, ccM, *]; done))
  have c10 := @reg_ok src
  generalize g12 : regM src = r11 at c10
  let E3 : EL := E2 ++ [tT, tT, tT, .ret _ _ _ c10, tT, tF]
  cases r11
  ·exact (o29 (d := .bool false) (E3 ++ [tF, tF, tF, tF, tT, tF, tF, tF, tF, tT, tF, tF, tF, tF, tT, tT]) (by kernel_rfl)).to (by clear E1 E2 E3; (try simp only [sl0, wk, wkL, wkO, eqCells, eqCell, mayX, regM, mayS, longM, widthM, jumpM, ccM] at *); (simp [wk, wkL, wkO, eqCells, eqCell, mayX, regM, mayS, longM, widthM, jumpM, ccM, *]; done))
  have c13 := @reg_ok base
  generalize g15 : regM base = r14 at c13
  let E4 : EL := E3 ++ [tT, tT, tT, .ret _ _ _ c13, tT, tF]
  cases r14
  ·exact (o29 (d := .bool false) (E4 ++ [tF, tF, tF, tF, tT, tF, tF, tF, tF, tT, tT]) (by kernel_rfl)).to (by clear E1 E2 E3 E4; (try simp only [sl0, wk, wkL, wkO, eqCells, eqCell, mayX, regM, mayS, longM, widthM, jumpM, ccM] at *); (simp [wk, wkL, wkO, eqCells, eqCell, mayX, regM, mayS, longM, widthM, jumpM, ccM, *]; done))
  have c16 := @within_ok disp (-2147483648) 2147483647
  let E5 : EL := E4 ++ [tT, tT, tT, .ret _ _ _ c16, tT, tF]
  rcases bft (decide (disp < (-2147483648))) with h17 | h17
  ·exact (o29 (d := .bool false) (E5 ++ List.replicate 4 (tC (eF (nt (andF (y := decide (disp ≤ 2147483647)) (leL (-2147483648) h17))))) ++ [tC (nt (andF (y := decide (disp ≤ 2147483647)) (leL (-2147483648) h17))), tT]) (by kernel_rfl)).to (by clear E1 E2 E3 E4 E5; (try simp only [sl0, wk, wkL, wkO, eqCells, eqCell, mayX, regM, mayS, longM, widthM, jumpM, ccM] at *); (simp [wk, wkL, wkO, eqCells, eqCell, mayX, regM, mayS, longM, widthM, jumpM, ccM, *]; omega))
  rcases bft (decide (disp < 2147483648)) with h18 | h18
  ·have c19 := @within_ok imm (-2147483648) 2147483647
   let E6 : EL := E5 ++ List.replicate 3 (tC (eF (nt (andT (leL (-2147483648) h17) (leC 2147483647 h18))))) ++ [.ret _ _ _ c19, tC (eF (nt (andT (leL (-2147483648) h17) (leC 2147483647 h18)))), tC (nt (andT (leL (-2147483648) h17) (leC 2147483647 h18)))]
   rcases bft (decide (imm < (-2147483648))) with h20 | h20
   ·exact (o29 (d := .bool false) (E6 ++ [tC (nt (andF (y := decide (imm ≤ 2147483647)) (leL (-2147483648) h20)))]) (by kernel_rfl)).to (by clear E1 E2 E3 E4 E5 E6; (try simp only [sl0, wk, wkL, wkO, eqCells, eqCell, mayX, regM, mayS, longM, widthM, jumpM, ccM] at *); (simp [wk, wkL, wkO, eqCells, eqCell, mayX, regM, mayS, longM, widthM, jumpM, ccM, *]; omega))
   rcases bft (decide (imm < 2147483648)) with h21 | h21
   ·let E7 : EL := E6 ++ [tC (nt (andT (leL (-2147483648) h20) (leC 2147483647 h21)))]
    by_cases h22 : w = 32
    ·subst h22
     have c23 := @width_ok 32
     exact (o29 (d := .bool true) (E7 ++ [tF, tF, tF, tT, tF, tF, tF, tF, tF, tT, tF, tF, tF, tF, tF, tF, tT, tT, .ret _ _ _ c23]) (by kernel_rfl)).to (by clear E1 E2 E3 E4 E5 E6 E7; (try simp only [sl0, wk, wkL, wkO, eqCells, eqCell, mayX, regM, mayS, longM, widthM, jumpM, ccM] at *); (rw [Bool.eq_iff_iff]; simp [wk, wkL, wkO, eqCells, eqCell, mayX, regM, mayS, longM, widthM, jumpM, ccM, *]; grind))
    let E8 : EL := E7 ++ List.replicate 3 (tC (eF (neOf h22))) ++ [tC (neOf h22)] ++ List.replicate 4 (tC (eF (neOf h22)))
    by_cases h24 : w = 8
    ·subst h24
     have c25 := @within_ok imm (-128) 127
     have c26 := @width_ok 8
     exact (o29 (d := .bool true) (E8 ++ [tT, tT, tT, .ret _ _ _ c25, tT, tT, tF, tF, tF, tF, tF, tF, tF, tT, tT, .ret _ _ _ c26]) (by kernel_rfl)).to (by clear E1 E2 E3 E4 E5 E6 E7 E8; (try simp only [sl0, wk, wkL, wkO, eqCells, eqCell, mayX, regM, mayS, longM, widthM, jumpM, ccM] at *); (rw [Bool.eq_iff_iff]; simp [wk, wkL, wkO, eqCells, eqCell, mayX, regM, mayS, longM, widthM, jumpM, ccM, *]; grind))
    have c27 := @width_ok w
    generalize g29 : widthM w = r28 at c27
    exact (o29 (d := .bool r28) (E8 ++ List.replicate 3 (tC (eT (neOf h24))) ++ [tC (eF (neOf h22)), tC (neOf h24), tC (neOf h22), tF, tF, tF, tF, tF, tF, tT, tT, .ret _ _ _ c27]) (by kernel_rfl)).to (by clear E1 E2 E3 E4 E5 E6 E7 E8; (try simp only [sl0, wk, wkL, wkO, eqCells, eqCell, mayX, regM, mayS, longM, widthM, jumpM, ccM] at *); (rw [Bool.eq_iff_iff]; simp [wk, wkL, wkO, eqCells, eqCell, mayX, regM, mayS, longM, widthM, jumpM, ccM, *]; grind))
   exact (o29 (d := .bool false) (E6 ++ [tC (nt (andT (leL (-2147483648) h20) (leC 2147483647 h21)))]) (by kernel_rfl)).to (by clear E1 E2 E3 E4 E5 E6; (try simp only [sl0, wk, wkL, wkO, eqCells, eqCell, mayX, regM, mayS, longM, widthM, jumpM, ccM] at *); (simp [wk, wkL, wkO, eqCells, eqCell, mayX, regM, mayS, longM, widthM, jumpM, ccM, *]; omega))
  exact (o29 (d := .bool false) (E5 ++ List.replicate 4 (tC (eF (nt (andT (leL (-2147483648) h17) (leC 2147483647 h18))))) ++ [tC (nt (andT (leL (-2147483648) h17) (leC 2147483647 h18))), tT]) (by kernel_rfl)).to (by clear E1 E2 E3 E4 E5; (try simp only [sl0, wk, wkL, wkO, eqCells, eqCell, mayX, regM, mayS, longM, widthM, jumpM, ccM] at *); (simp [wk, wkL, wkO, eqCells, eqCell, mayX, regM, mayS, longM, widthM, jumpM, ccM, *]; omega))
 exact (o29 (d := .bool false) (E1 ++ List.replicate 4 (tC (eF (nt h6))) ++ [tC (nt h6), tF, tF, tF, tF, tT, tF, tF, tF, tF, tT, tF, tF, tF, tF, tT, tF, tF, tF, tF, tT, tT]) (by kernel_rfl)).to (by clear E1; (try simp only [sl0, wk, wkL, wkO, eqCells, eqCell, mayX, regM, mayS, longM, widthM, jumpM, ccM] at *); (rw [Bool.eq_iff_iff]; simp [wk, wkL, wkO, eqCells, eqCell, mayX, regM, mayS, longM, widthM, jumpM, ccM, *]; grind))
theorem mayX_8_ok : SpXMay20 8 := by
 intro op w dst src base disp imm cc ho h hin
 have c0 := @of_any_ok op ho
 rw [eq_of_beq h] at c0
 generalize g2 : codeM op = r1 at c0
 generalize g4 : numM op = r3 at c0
 have c5 := @bare_8_ok op w dst src base disp imm cc 8 (rfl : true = true)
 let E1 : EL := ([.ret _ _ _ c0] ++ List.replicate 4 (tC (eF (nt hin))) ++ [.ret _ _ _ c5, tC (eF (nt hin)), tC (eF (nt hin)), .flat _ _ flat_X, tC (nt hin)])
 rcases bft (eqCells [.int .i8 0, .int .i8 0, .int .i8 dst, .int .i8 0, .int .i8 0, .int .i64 0, .int .i64 imm, .int .i8 cc] [.int .i8 0, .int .i8 0, .int .i8 0, .int .i8 0, .int .i8 0, .int .i64 0, .int .i64 0, .int .i8 0]) with h6 | h6
 ·have c7 := @reg_ok dst
  generalize g9 : regM dst = r8 at c7
  let E2 : EL := E1 ++ List.replicate 3 (tC (eF (nt h6))) ++ [.ret _ _ _ c7, tC (eF (nt h6)), tC (nt h6)]
  cases r8
  ·exact (o29 (d := .bool false) (E2 ++ [tF, tF, tF, tF, tT, tF, tF, tF, tF, tT, tF, tF, tF, tF, tT, tF, tF, tF, tF, tT, tT]) (by kernel_rfl)).to (by clear E1 E2; (try simp only [sl0, wk, wkL, wkO, eqCells, eqCell, mayX, regM, mayS, longM, widthM, jumpM, ccM] at *); (simp [wk, wkL, wkO, eqCells, eqCell, mayX, regM, mayS, longM, widthM, jumpM, ccM, *]; done))
  have c10 := @reg_ok src
  generalize g12 : regM src = r11 at c10
  let E3 : EL := E2 ++ [tT, tT, tT, .ret _ _ _ c10, tT, tF]
  cases r11
  ·exact (o29 (d := .bool false) (E3 ++ [tF, tF, tF, tF, tT, tF, tF, tF, tF, tT, tF, tF, tF, tF, tT, tT]) (by kernel_rfl)).to (by clear E1 E2 E3; (try simp only [sl0, wk, wkL, wkO, eqCells, eqCell, mayX, regM, mayS, longM, widthM, jumpM, ccM] at *); (simp [wk, wkL, wkO, eqCells, eqCell, mayX, regM, mayS, longM, widthM, jumpM, ccM, *]; done))
  have c13 := @reg_ok base
  generalize g15 : regM base = r14 at c13
  let E4 : EL := E3 ++ [tT, tT, tT, .ret _ _ _ c13, tT, tF]
  cases r14
  ·exact (o29 (d := .bool false) (E4 ++ [tF, tF, tF, tF, tT, tF, tF, tF, tF, tT, tT]) (by kernel_rfl)).to (by clear E1 E2 E3 E4; (try simp only [sl0, wk, wkL, wkO, eqCells, eqCell, mayX, regM, mayS, longM, widthM, jumpM, ccM] at *); (simp [wk, wkL, wkO, eqCells, eqCell, mayX, regM, mayS, longM, widthM, jumpM, ccM, *]; done))
  have c16 := @within_ok disp (-2147483648) 2147483647
  let E5 : EL := E4 ++ [tT, tT, tT, .ret _ _ _ c16, tT, tF]
  rcases bft (decide (disp < (-2147483648))) with h17 | h17
  ·exact (o29 (d := .bool false) (E5 ++ List.replicate 4 (tC (eF (nt (andF (y := decide (disp ≤ 2147483647)) (leL (-2147483648) h17))))) ++ [tC (nt (andF (y := decide (disp ≤ 2147483647)) (leL (-2147483648) h17))), tT]) (by kernel_rfl)).to (by clear E1 E2 E3 E4 E5; (try simp only [sl0, wk, wkL, wkO, eqCells, eqCell, mayX, regM, mayS, longM, widthM, jumpM, ccM] at *); (simp [wk, wkL, wkO, eqCells, eqCell, mayX, regM, mayS, longM, widthM, jumpM, ccM, *]; omega))
  rcases bft (decide (disp < 2147483648)) with h18 | h18
  ·have c19 := @within_ok imm (-2147483648) 2147483647
   let E6 : EL := E5 ++ List.replicate 3 (tC (eF (nt (andT (leL (-2147483648) h17) (leC 2147483647 h18))))) ++ [.ret _ _ _ c19, tC (eF (nt (andT (leL (-2147483648) h17) (leC 2147483647 h18)))), tC (nt (andT (leL (-2147483648) h17) (leC 2147483647 h18)))]
   rcases bft (decide (imm < (-2147483648))) with h20 | h20
   ·exact (o29 (d := .bool false) (E6 ++ [tC (nt (andF (y := decide (imm ≤ 2147483647)) (leL (-2147483648) h20)))]) (by kernel_rfl)).to (by clear E1 E2 E3 E4 E5 E6; (try simp only [sl0, wk, wkL, wkO, eqCells, eqCell, mayX, regM, mayS, longM, widthM, jumpM, ccM] at *); (simp [wk, wkL, wkO, eqCells, eqCell, mayX, regM, mayS, longM, widthM, jumpM, ccM, *]; omega))
   rcases bft (decide (imm < 2147483648)) with h21 | h21
   ·let E7 : EL := E6 ++ [tC (nt (andT (leL (-2147483648) h20) (leC 2147483647 h21)))]
    by_cases h22 : w = 32
    ·subst h22
     have c23 := @width_ok 32
     exact (o29 (d := .bool true) (E7 ++ [tF, tF, tF, tT, tF, tF, tF, tF, tF, tT, tF, tF, tF, tF, tF, tF, tF, tT, .ret _ _ _ c23]) (by kernel_rfl)).to (by clear E1 E2 E3 E4 E5 E6 E7; (try simp only [sl0, wk, wkL, wkO, eqCells, eqCell, mayX, regM, mayS, longM, widthM, jumpM, ccM] at *); (rw [Bool.eq_iff_iff]; simp [wk, wkL, wkO, eqCells, eqCell, mayX, regM, mayS, longM, widthM, jumpM, ccM, *]; grind))
    let E8 : EL := E7 ++ List.replicate 3 (tC (eF (neOf h22))) ++ [tC (neOf h22)] ++ List.replicate 4 (tC (eF (neOf h22)))
    by_cases h24 : w = 8
    ·subst h24
     have c25 := @within_ok imm (-128) 127
     have c26 := @width_ok 8
     exact (o29 (d := .bool true) (E8 ++ [tT, tT, tT, .ret _ _ _ c25, tT, tT] ++ List.replicate 8 tF ++ [tT, .ret _ _ _ c26]) (by kernel_rfl)).to (by clear E1 E2 E3 E4 E5 E6 E7 E8; (try simp only [sl0, wk, wkL, wkO, eqCells, eqCell, mayX, regM, mayS, longM, widthM, jumpM, ccM] at *); (rw [Bool.eq_iff_iff]; simp [wk, wkL, wkO, eqCells, eqCell, mayX, regM, mayS, longM, widthM, jumpM, ccM, *]; grind))
    have c27 := @width_ok w
    generalize g29 : widthM w = r28 at c27
    exact (o29 (d := .bool r28) (E8 ++ List.replicate 3 (tC (eT (neOf h24))) ++ [tC (eF (neOf h22)), tC (neOf h24), tC (neOf h22), tF, tF, tF, tF, tF, tF, tF, tT, .ret _ _ _ c27]) (by kernel_rfl)).to (by clear E1 E2 E3 E4 E5 E6 E7 E8; (try simp only [sl0, wk, wkL, wkO, eqCells, eqCell, mayX, regM, mayS, longM, widthM, jumpM, ccM] at *); (rw [Bool.eq_iff_iff]; simp [wk, wkL, wkO, eqCells, eqCell, mayX, regM, mayS, longM, widthM, jumpM, ccM, *]; grind))
   exact (o29 (d := .bool false) (E6 ++ [tC (nt (andT (leL (-2147483648) h20) (leC 2147483647 h21)))]) (by kernel_rfl)).to (by clear E1 E2 E3 E4 E5 E6; (try simp only [sl0, wk, wkL, wkO, eqCells, eqCell, mayX, regM, mayS, longM, widthM, jumpM, ccM] at *); (simp [wk, wkL, wkO, eqCells, eqCell, mayX, regM, mayS, longM, widthM, jumpM, ccM, *]; omega))
  exact (o29 (d := .bool false) (E5 ++ List.replicate 4 (tC (eF (nt (andT (leL (-2147483648) h17) (leC 2147483647 h18))))) ++ [tC (nt (andT (leL (-2147483648) h17) (leC 2147483647 h18))), tT]) (by kernel_rfl)).to (by clear E1 E2 E3 E4 E5; (try simp only [sl0, wk, wkL, wkO, eqCells, eqCell, mayX, regM, mayS, longM, widthM, jumpM, ccM] at *); (simp [wk, wkL, wkO, eqCells, eqCell, mayX, regM, mayS, longM, widthM, jumpM, ccM, *]; omega))
 exact (o29 (d := .bool false) (E1 ++ List.replicate 4 (tC (eF (nt h6))) ++ [tC (nt h6), tF, tF, tF, tF, tT, tF, tF, tF, tF, tT, tF, tF, tF, tF, tT, tF, tF, tF, tF, tT, tT]) (by kernel_rfl)).to (by clear E1; (try simp only [sl0, wk, wkL, wkO, eqCells, eqCell, mayX, regM, mayS, longM, widthM, jumpM, ccM] at *); (rw [Bool.eq_iff_iff]; simp [wk, wkL, wkO, eqCells, eqCell, mayX, regM, mayS, longM, widthM, jumpM, ccM, *]; grind))
def SpXMay30 (k0_ : Int) : Prop := ∀ (op w dst src base disp imm cc : Int) (ho : op ≤ 127) (h : (shapeM op == k0_) = true) (hin : decide (0 ≤ op ∧ op ≤ 31) = true), Ret Tryz.prog 29 ([xD op w dst src base disp imm cc]) (.bool (mayX op w dst src base disp imm cc))
theorem mayX_9_ok : SpXMay30 9 := by
 intro op w dst src base disp imm cc ho h hin
 have c0 := @of_any_ok op ho
 rw [eq_of_beq h] at c0
 generalize g2 : codeM op = r1 at c0
 generalize g4 : numM op = r3 at c0
 have c5 := @bare_9_ok op w dst src base disp imm cc 9 (rfl : true = true)
 let E1 : EL := ([.ret _ _ _ c0] ++ List.replicate 4 (tC (eF (nt hin))) ++ [.ret _ _ _ c5, tC (eF (nt hin)), tC (eF (nt hin)), .flat _ _ flat_X, tC (nt hin)])
 rcases bft (eqCells [.int .i8 0, .int .i8 0, .int .i8 dst, .int .i8 src, .int .i8 base, .int .i64 disp, .int .i64 0, .int .i8 cc] [.int .i8 0, .int .i8 0, .int .i8 0, .int .i8 0, .int .i8 0, .int .i64 0, .int .i64 0, .int .i8 0]) with h6 | h6
 ·have c7 := @reg_ok dst
  generalize g9 : regM dst = r8 at c7
  let E2 : EL := E1 ++ List.replicate 3 (tC (eF (nt h6))) ++ [.ret _ _ _ c7, tC (eF (nt h6)), tC (nt h6)]
  cases r8
  ·exact (o29 (d := .bool false) (E2 ++ [tF, tF, tF, tF, tT, tF, tF, tF, tF, tT, tF, tF, tF, tF, tT, tF, tF, tF, tF, tT, tT]) (by kernel_rfl)).to (by clear E1 E2; (try simp only [sl0, wk, wkL, wkO, eqCells, eqCell, mayX, regM, mayS, longM, widthM, jumpM, ccM] at *); (simp [wk, wkL, wkO, eqCells, eqCell, mayX, regM, mayS, longM, widthM, jumpM, ccM, *]; done))
  have c10 := @reg_ok src
  generalize g12 : regM src = r11 at c10
  let E3 : EL := E2 ++ [tT, tT, tT, .ret _ _ _ c10, tT, tF]
  cases r11
  ·exact (o29 (d := .bool false) (E3 ++ [tF, tF, tF, tF, tT, tF, tF, tF, tF, tT, tF, tF, tF, tF, tT, tT]) (by kernel_rfl)).to (by clear E1 E2 E3; (try simp only [sl0, wk, wkL, wkO, eqCells, eqCell, mayX, regM, mayS, longM, widthM, jumpM, ccM] at *); (simp [wk, wkL, wkO, eqCells, eqCell, mayX, regM, mayS, longM, widthM, jumpM, ccM, *]; done))
  have c13 := @reg_ok base
  generalize g15 : regM base = r14 at c13
  let E4 : EL := E3 ++ [tT, tT, tT, .ret _ _ _ c13, tT, tF]
  cases r14
  ·exact (o29 (d := .bool false) (E4 ++ [tF, tF, tF, tF, tT, tF, tF, tF, tF, tT, tT]) (by kernel_rfl)).to (by clear E1 E2 E3 E4; (try simp only [sl0, wk, wkL, wkO, eqCells, eqCell, mayX, regM, mayS, longM, widthM, jumpM, ccM] at *); (simp [wk, wkL, wkO, eqCells, eqCell, mayX, regM, mayS, longM, widthM, jumpM, ccM, *]; done))
  have c16 := @within_ok disp (-2147483648) 2147483647
  let E5 : EL := E4 ++ [tT, tT, tT, .ret _ _ _ c16, tT, tF]
  rcases bft (decide (disp < (-2147483648))) with h17 | h17
  ·exact (o29 (d := .bool false) (E5 ++ List.replicate 4 (tC (eF (nt (andF (y := decide (disp ≤ 2147483647)) (leL (-2147483648) h17))))) ++ [tC (nt (andF (y := decide (disp ≤ 2147483647)) (leL (-2147483648) h17))), tT]) (by kernel_rfl)).to (by clear E1 E2 E3 E4 E5; (try simp only [sl0, wk, wkL, wkO, eqCells, eqCell, mayX, regM, mayS, longM, widthM, jumpM, ccM] at *); (simp [wk, wkL, wkO, eqCells, eqCell, mayX, regM, mayS, longM, widthM, jumpM, ccM, *]; omega))
  rcases bft (decide (disp < 2147483648)) with h18 | h18
  ·have c19 := @within_ok imm (-2147483648) 2147483647
   let E6 : EL := E5 ++ List.replicate 3 (tC (eF (nt (andT (leL (-2147483648) h17) (leC 2147483647 h18))))) ++ [.ret _ _ _ c19, tC (eF (nt (andT (leL (-2147483648) h17) (leC 2147483647 h18)))), tC (nt (andT (leL (-2147483648) h17) (leC 2147483647 h18)))]
   rcases bft (decide (imm < (-2147483648))) with h20 | h20
   ·exact (o29 (d := .bool false) (E6 ++ [tC (nt (andF (y := decide (imm ≤ 2147483647)) (leL (-2147483648) h20)))]) (by kernel_rfl)).to (by clear E1 E2 E3 E4 E5 E6; (try simp only [sl0, wk, wkL, wkO, eqCells, eqCell, mayX, regM, mayS, longM, widthM, jumpM, ccM] at *); (simp [wk, wkL, wkO, eqCells, eqCell, mayX, regM, mayS, longM, widthM, jumpM, ccM, *]; omega))
   rcases bft (decide (imm < 2147483648)) with h21 | h21
   ·let E7 : EL := E6 ++ [tC (nt (andT (leL (-2147483648) h20) (leC 2147483647 h21)))]
    by_cases h22 : w = 32
    ·subst h22
     exact (o29 (d := .bool true) (E7 ++ [tF, tF, tF, tT, tF, tF, tF, tF, tF, tT] ++ List.replicate 8 tF ++ [tT]) (by kernel_rfl)).to (by clear E1 E2 E3 E4 E5 E6 E7; (try simp only [sl0, wk, wkL, wkO, eqCells, eqCell, mayX, regM, mayS, longM, widthM, jumpM, ccM] at *); (rw [Bool.eq_iff_iff]; simp [wk, wkL, wkO, eqCells, eqCell, mayX, regM, mayS, longM, widthM, jumpM, ccM, *]; grind))
    let E8 : EL := E7 ++ List.replicate 3 (tC (eF (neOf h22))) ++ [tC (neOf h22)] ++ List.replicate 4 (tC (eF (neOf h22)))
    by_cases h23 : w = 8
    ·subst h23
     have c24 := @within_ok imm (-128) 127
     exact (o29 (d := .bool (decide ((-128) ≤ imm) && decide (imm ≤ 127))) (E8 ++ [tT, tT, tT, .ret _ _ _ c24, tT, tT] ++ List.replicate 9 tF ++ [tT]) (by kernel_rfl)).to (by clear E1 E2 E3 E4 E5 E6 E7 E8; (try simp only [sl0, wk, wkL, wkO, eqCells, eqCell, mayX, regM, mayS, longM, widthM, jumpM, ccM] at *); (rw [Bool.eq_iff_iff]; simp [wk, wkL, wkO, eqCells, eqCell, mayX, regM, mayS, longM, widthM, jumpM, ccM, *]; grind))
    exact (o29 (d := .bool false) (E8 ++ List.replicate 3 (tC (eT (neOf h23))) ++ [tC (eF (neOf h22)), tC (neOf h23), tC (neOf h22)] ++ List.replicate 8 tF ++ [tT]) (by kernel_rfl)).to (by clear E1 E2 E3 E4 E5 E6 E7 E8; (try simp only [sl0, wk, wkL, wkO, eqCells, eqCell, mayX, regM, mayS, longM, widthM, jumpM, ccM] at *); (simp [wk, wkL, wkO, eqCells, eqCell, mayX, regM, mayS, longM, widthM, jumpM, ccM, *]; done))
   exact (o29 (d := .bool false) (E6 ++ [tC (nt (andT (leL (-2147483648) h20) (leC 2147483647 h21)))]) (by kernel_rfl)).to (by clear E1 E2 E3 E4 E5 E6; (try simp only [sl0, wk, wkL, wkO, eqCells, eqCell, mayX, regM, mayS, longM, widthM, jumpM, ccM] at *); (simp [wk, wkL, wkO, eqCells, eqCell, mayX, regM, mayS, longM, widthM, jumpM, ccM, *]; omega))
  exact (o29 (d := .bool false) (E5 ++ List.replicate 4 (tC (eF (nt (andT (leL (-2147483648) h17) (leC 2147483647 h18))))) ++ [tC (nt (andT (leL (-2147483648) h17) (leC 2147483647 h18))), tT]) (by kernel_rfl)).to (by clear E1 E2 E3 E4 E5; (try simp only [sl0, wk, wkL, wkO, eqCells, eqCell, mayX, regM, mayS, longM, widthM, jumpM, ccM] at *); (simp [wk, wkL, wkO, eqCells, eqCell, mayX, regM, mayS, longM, widthM, jumpM, ccM, *]; omega))
 exact (o29 (d := .bool false) (E1 ++ List.replicate 4 (tC (eF (nt h6))) ++ [tC (nt h6), tF, tF, tF, tF, tT, tF, tF, tF, tF, tT, tF, tF, tF, tF, tT, tF, tF, tF, tF, tT, tT]) (by kernel_rfl)).to (by clear E1; (try simp only [sl0, wk, wkL, wkO, eqCells, eqCell, mayX, regM, mayS, longM, widthM, jumpM, ccM] at *); (rw [Bool.eq_iff_iff]; simp [wk, wkL, wkO, eqCells, eqCell, mayX, regM, mayS, longM, widthM, jumpM, ccM, *]; grind))
theorem mayX_10_ok : SpXMay30 10 := by
 intro op w dst src base disp imm cc ho h hin
 have c0 := @of_any_ok op ho
 rw [eq_of_beq h] at c0
 generalize g2 : codeM op = r1 at c0
 generalize g4 : numM op = r3 at c0
 have c5 := @bare_10_ok op w dst src base disp imm cc 10 (rfl : true = true)
 let E1 : EL := ([.ret _ _ _ c0] ++ List.replicate 4 (tC (eF (nt hin))) ++ [.ret _ _ _ c5, tC (eF (nt hin)), tC (eF (nt hin)), .flat _ _ flat_X, tC (nt hin)])
 rcases bft (eqCells [.int .i8 0, .int .i8 0, .int .i8 dst, .int .i8 src, .int .i8 base, .int .i64 disp, .int .i64 0, .int .i8 0] [.int .i8 0, .int .i8 0, .int .i8 0, .int .i8 0, .int .i8 0, .int .i64 0, .int .i64 0, .int .i8 0]) with h6 | h6
 ·have c7 := @reg_ok dst
  generalize g9 : regM dst = r8 at c7
  let E2 : EL := E1 ++ List.replicate 3 (tC (eF (nt h6))) ++ [.ret _ _ _ c7, tC (eF (nt h6)), tC (nt h6)]
  cases r8
  ·exact (o29 (d := .bool false) (E2 ++ [tF, tF, tF, tF, tT, tF, tF, tF, tF, tT, tF, tF, tF, tF, tT, tF, tF, tF, tF, tT, tT]) (by kernel_rfl)).to (by clear E1 E2; (try simp only [sl0, wk, wkL, wkO, eqCells, eqCell, mayX, regM, mayS, longM, widthM, jumpM, ccM] at *); (simp [wk, wkL, wkO, eqCells, eqCell, mayX, regM, mayS, longM, widthM, jumpM, ccM, *]; done))
  have c10 := @reg_ok src
  generalize g12 : regM src = r11 at c10
  let E3 : EL := E2 ++ [tT, tT, tT, .ret _ _ _ c10, tT, tF]
  cases r11
  ·exact (o29 (d := .bool false) (E3 ++ [tF, tF, tF, tF, tT, tF, tF, tF, tF, tT, tF, tF, tF, tF, tT, tT]) (by kernel_rfl)).to (by clear E1 E2 E3; (try simp only [sl0, wk, wkL, wkO, eqCells, eqCell, mayX, regM, mayS, longM, widthM, jumpM, ccM] at *); (simp [wk, wkL, wkO, eqCells, eqCell, mayX, regM, mayS, longM, widthM, jumpM, ccM, *]; done))
  have c13 := @reg_ok base
  generalize g15 : regM base = r14 at c13
  let E4 : EL := E3 ++ [tT, tT, tT, .ret _ _ _ c13, tT, tF]
  cases r14
  ·exact (o29 (d := .bool false) (E4 ++ [tF, tF, tF, tF, tT, tF, tF, tF, tF, tT, tT]) (by kernel_rfl)).to (by clear E1 E2 E3 E4; (try simp only [sl0, wk, wkL, wkO, eqCells, eqCell, mayX, regM, mayS, longM, widthM, jumpM, ccM] at *); (simp [wk, wkL, wkO, eqCells, eqCell, mayX, regM, mayS, longM, widthM, jumpM, ccM, *]; done))
  have c16 := @within_ok disp (-2147483648) 2147483647
  let E5 : EL := E4 ++ [tT, tT, tT, .ret _ _ _ c16, tT, tF]
  rcases bft (decide (disp < (-2147483648))) with h17 | h17
  ·exact (o29 (d := .bool false) (E5 ++ List.replicate 4 (tC (eF (nt (andF (y := decide (disp ≤ 2147483647)) (leL (-2147483648) h17))))) ++ [tC (nt (andF (y := decide (disp ≤ 2147483647)) (leL (-2147483648) h17))), tT]) (by kernel_rfl)).to (by clear E1 E2 E3 E4 E5; (try simp only [sl0, wk, wkL, wkO, eqCells, eqCell, mayX, regM, mayS, longM, widthM, jumpM, ccM] at *); (simp [wk, wkL, wkO, eqCells, eqCell, mayX, regM, mayS, longM, widthM, jumpM, ccM, *]; omega))
  rcases bft (decide (disp < 2147483648)) with h18 | h18
  ·have c19 := @within_ok imm (-2147483648) 2147483647
   let E6 : EL := E5 ++ List.replicate 3 (tC (eF (nt (andT (leL (-2147483648) h17) (leC 2147483647 h18))))) ++ [.ret _ _ _ c19, tC (eF (nt (andT (leL (-2147483648) h17) (leC 2147483647 h18)))), tC (nt (andT (leL (-2147483648) h17) (leC 2147483647 h18)))]
   rcases bft (decide (imm < (-2147483648))) with h20 | h20
   ·exact (o29 (d := .bool false) (E6 ++ [tC (nt (andF (y := decide (imm ≤ 2147483647)) (leL (-2147483648) h20)))]) (by kernel_rfl)).to (by clear E1 E2 E3 E4 E5 E6; (try simp only [sl0, wk, wkL, wkO, eqCells, eqCell, mayX, regM, mayS, longM, widthM, jumpM, ccM] at *); (simp [wk, wkL, wkO, eqCells, eqCell, mayX, regM, mayS, longM, widthM, jumpM, ccM, *]; omega))
   rcases bft (decide (imm < 2147483648)) with h21 | h21
   ·let E7 : EL := E6 ++ [tC (nt (andT (leL (-2147483648) h20) (leC 2147483647 h21)))]
    by_cases h22 : w = 32
    ·subst h22
     have c23 := @cond_ok cc
     generalize g25 : ccM cc = r24 at c23
     exact (o29 (d := .bool r24) (E7 ++ [tF, tF, tF, tT, tF, tF, tF, tF, tF, tT] ++ List.replicate 9 tF ++ [tT, tT, tT, tT, .ret _ _ _ c23, tT]) (by kernel_rfl)).to (by clear E1 E2 E3 E4 E5 E6 E7; (try simp only [sl0, wk, wkL, wkO, eqCells, eqCell, mayX, regM, mayS, longM, widthM, jumpM, ccM] at *); (rw [Bool.eq_iff_iff]; simp [wk, wkL, wkO, eqCells, eqCell, mayX, regM, mayS, longM, widthM, jumpM, ccM, *]; grind))
    let E8 : EL := E7 ++ List.replicate 3 (tC (eF (neOf h22))) ++ [tC (neOf h22)] ++ List.replicate 4 (tC (eF (neOf h22)))
    by_cases h26 : w = 8
    ·subst h26
     have c27 := @within_ok imm (-128) 127
     let E9 : EL := E8 ++ [tT, tT, tT, .ret _ _ _ c27, tT, tT] ++ List.replicate 10 tF ++ [tT]
     rcases bft (decide (imm < (-128))) with h28 | h28
     ·exact (o29 (d := .bool false) (E9 ++ List.replicate 3 (tC (eT (andF (y := decide (imm ≤ 127)) (leL (-128) h28)))) ++ [tC (andF (y := decide (imm ≤ 127)) (leL (-128) h28))]) (by kernel_rfl)).to (by clear E1 E2 E3 E4 E5 E6 E7 E8 E9; (try simp only [sl0, wk, wkL, wkO, eqCells, eqCell, mayX, regM, mayS, longM, widthM, jumpM, ccM] at *); (simp [wk, wkL, wkO, eqCells, eqCell, mayX, regM, mayS, longM, widthM, jumpM, ccM, *]; omega))
     rcases bft (decide (imm < 128)) with h29 | h29
     ·have c30 := @cond_ok cc
      generalize g32 : ccM cc = r31 at c30
      exact (o29 (d := .bool r31) (E9 ++ List.replicate 3 (tC (eT (andT (leL (-128) h28) (leC 127 h29)))) ++ [.ret _ _ _ c30, tC (andT (leL (-128) h28) (leC 127 h29))]) (by kernel_rfl)).to (by clear E1 E2 E3 E4 E5 E6 E7 E8 E9; (try simp only [sl0, wk, wkL, wkO, eqCells, eqCell, mayX, regM, mayS, longM, widthM, jumpM, ccM] at *); (rw [Bool.eq_iff_iff]; simp [wk, wkL, wkO, eqCells, eqCell, mayX, regM, mayS, longM, widthM, jumpM, ccM, *]; grind))
     exact (o29 (d := .bool false) (E9 ++ List.replicate 3 (tC (eT (andT (leL (-128) h28) (leC 127 h29)))) ++ [tC (andT (leL (-128) h28) (leC 127 h29))]) (by kernel_rfl)).to (by clear E1 E2 E3 E4 E5 E6 E7 E8 E9; (try simp only [sl0, wk, wkL, wkO, eqCells, eqCell, mayX, regM, mayS, longM, widthM, jumpM, ccM] at *); (simp [wk, wkL, wkO, eqCells, eqCell, mayX, regM, mayS, longM, widthM, jumpM, ccM, *]; omega))
    exact (o29 (d := .bool false) (E8 ++ List.replicate 3 (tC (eT (neOf h26))) ++ [tC (eF (neOf h22)), tC (neOf h26), tC (neOf h22)] ++ List.replicate 9 tF ++ [tT, tF, tF, tF, tF]) (by kernel_rfl)).to (by clear E1 E2 E3 E4 E5 E6 E7 E8; (try simp only [sl0, wk, wkL, wkO, eqCells, eqCell, mayX, regM, mayS, longM, widthM, jumpM, ccM] at *); (simp [wk, wkL, wkO, eqCells, eqCell, mayX, regM, mayS, longM, widthM, jumpM, ccM, *]; done))
   exact (o29 (d := .bool false) (E6 ++ [tC (nt (andT (leL (-2147483648) h20) (leC 2147483647 h21)))]) (by kernel_rfl)).to (by clear E1 E2 E3 E4 E5 E6; (try simp only [sl0, wk, wkL, wkO, eqCells, eqCell, mayX, regM, mayS, longM, widthM, jumpM, ccM] at *); (simp [wk, wkL, wkO, eqCells, eqCell, mayX, regM, mayS, longM, widthM, jumpM, ccM, *]; omega))
  exact (o29 (d := .bool false) (E5 ++ List.replicate 4 (tC (eF (nt (andT (leL (-2147483648) h17) (leC 2147483647 h18))))) ++ [tC (nt (andT (leL (-2147483648) h17) (leC 2147483647 h18))), tT]) (by kernel_rfl)).to (by clear E1 E2 E3 E4 E5; (try simp only [sl0, wk, wkL, wkO, eqCells, eqCell, mayX, regM, mayS, longM, widthM, jumpM, ccM] at *); (simp [wk, wkL, wkO, eqCells, eqCell, mayX, regM, mayS, longM, widthM, jumpM, ccM, *]; omega))
 exact (o29 (d := .bool false) (E1 ++ List.replicate 4 (tC (eF (nt h6))) ++ [tC (nt h6), tF, tF, tF, tF, tT, tF, tF, tF, tF, tT, tF, tF, tF, tF, tT, tF, tF, tF, tF, tT, tT]) (by kernel_rfl)).to (by clear E1; (try simp only [sl0, wk, wkL, wkO, eqCells, eqCell, mayX, regM, mayS, longM, widthM, jumpM, ccM] at *); (rw [Bool.eq_iff_iff]; simp [wk, wkL, wkO, eqCells, eqCell, mayX, regM, mayS, longM, widthM, jumpM, ccM, *]; grind))
theorem mayX_11_ok : SpXMay30 11 := by
 intro op w dst src base disp imm cc ho h hin
 have c0 := @of_any_ok op ho
 rw [eq_of_beq h] at c0
 generalize g2 : codeM op = r1 at c0
 generalize g4 : numM op = r3 at c0
 have c5 := @bare_11_ok op w dst src base disp imm cc 11 (rfl : true = true)
 let E1 : EL := ([.ret _ _ _ c0] ++ List.replicate 4 (tC (eF (nt hin))) ++ [.ret _ _ _ c5, tC (eF (nt hin)), tC (eF (nt hin)), .flat _ _ flat_X, tC (nt hin)])
 rcases bft (eqCells [.int .i8 0, .int .i8 w, .int .i8 dst, .int .i8 src, .int .i8 base, .int .i64 disp, .int .i64 imm, .int .i8 cc] [.int .i8 0, .int .i8 0, .int .i8 0, .int .i8 0, .int .i8 0, .int .i64 0, .int .i64 0, .int .i8 0]) with h6 | h6
 ·have c7 := @reg_ok dst
  generalize g9 : regM dst = r8 at c7
  let E2 : EL := E1 ++ List.replicate 3 (tC (eF (nt h6))) ++ [.ret _ _ _ c7, tC (eF (nt h6)), tC (nt h6)]
  cases r8
  ·exact (o29 (d := .bool false) (E2 ++ [tF, tF, tF, tF, tT, tF, tF, tF, tF, tT, tF, tF, tF, tF, tT, tF, tF, tF, tF, tT, tT]) (by kernel_rfl)).to (by clear E1 E2; (try simp only [sl0, wk, wkL, wkO, eqCells, eqCell, mayX, regM, mayS, longM, widthM, jumpM, ccM] at *); (simp [wk, wkL, wkO, eqCells, eqCell, mayX, regM, mayS, longM, widthM, jumpM, ccM, *]; done))
  have c10 := @reg_ok src
  generalize g12 : regM src = r11 at c10
  let E3 : EL := E2 ++ [tT, tT, tT, .ret _ _ _ c10, tT, tF]
  cases r11
  ·exact (o29 (d := .bool false) (E3 ++ [tF, tF, tF, tF, tT, tF, tF, tF, tF, tT, tF, tF, tF, tF, tT, tT]) (by kernel_rfl)).to (by clear E1 E2 E3; (try simp only [sl0, wk, wkL, wkO, eqCells, eqCell, mayX, regM, mayS, longM, widthM, jumpM, ccM] at *); (simp [wk, wkL, wkO, eqCells, eqCell, mayX, regM, mayS, longM, widthM, jumpM, ccM, *]; done))
  have c13 := @reg_ok base
  generalize g15 : regM base = r14 at c13
  let E4 : EL := E3 ++ [tT, tT, tT, .ret _ _ _ c13, tT, tF]
  cases r14
  ·exact (o29 (d := .bool false) (E4 ++ [tF, tF, tF, tF, tT, tF, tF, tF, tF, tT, tT]) (by kernel_rfl)).to (by clear E1 E2 E3 E4; (try simp only [sl0, wk, wkL, wkO, eqCells, eqCell, mayX, regM, mayS, longM, widthM, jumpM, ccM] at *); (simp [wk, wkL, wkO, eqCells, eqCell, mayX, regM, mayS, longM, widthM, jumpM, ccM, *]; done))
  have c16 := @within_ok disp (-2147483648) 2147483647
  let E5 : EL := E4 ++ [tT, tT, tT, .ret _ _ _ c16, tT, tF]
  rcases bft (decide (disp < (-2147483648))) with h17 | h17
  ·exact (o29 (d := .bool false) (E5 ++ List.replicate 4 (tC (eF (nt (andF (y := decide (disp ≤ 2147483647)) (leL (-2147483648) h17))))) ++ [tC (nt (andF (y := decide (disp ≤ 2147483647)) (leL (-2147483648) h17))), tT]) (by kernel_rfl)).to (by clear E1 E2 E3 E4 E5; (try simp only [sl0, wk, wkL, wkO, eqCells, eqCell, mayX, regM, mayS, longM, widthM, jumpM, ccM] at *); (simp [wk, wkL, wkO, eqCells, eqCell, mayX, regM, mayS, longM, widthM, jumpM, ccM, *]; omega))
  rcases bft (decide (disp < 2147483648)) with h18 | h18
  ·have c19 := @within_ok imm (-2147483648) 2147483647
   let E6 : EL := E5 ++ List.replicate 3 (tC (eF (nt (andT (leL (-2147483648) h17) (leC 2147483647 h18))))) ++ [.ret _ _ _ c19, tC (eF (nt (andT (leL (-2147483648) h17) (leC 2147483647 h18)))), tC (nt (andT (leL (-2147483648) h17) (leC 2147483647 h18)))]
   rcases bft (decide (imm < (-2147483648))) with h20 | h20
   ·exact (o29 (d := .bool false) (E6 ++ [tC (nt (andF (y := decide (imm ≤ 2147483647)) (leL (-2147483648) h20)))]) (by kernel_rfl)).to (by clear E1 E2 E3 E4 E5 E6; (try simp only [sl0, wk, wkL, wkO, eqCells, eqCell, mayX, regM, mayS, longM, widthM, jumpM, ccM] at *); (simp [wk, wkL, wkO, eqCells, eqCell, mayX, regM, mayS, longM, widthM, jumpM, ccM, *]; omega))
   rcases bft (decide (imm < 2147483648)) with h21 | h21
   ·let E7 : EL := E6 ++ [tC (nt (andT (leL (-2147483648) h20) (leC 2147483647 h21)))]
    by_cases h22 : w = 32
    ·subst h22
     exact (o29 (d := .bool true) (E7 ++ [tF, tF, tF, tT, tF, tF, tF, tF, tF, tT] ++ List.replicate 10 tF) (by kernel_rfl)).to (by clear E1 E2 E3 E4 E5 E6 E7; (try simp only [sl0, wk, wkL, wkO, eqCells, eqCell, mayX, regM, mayS, longM, widthM, jumpM, ccM] at *); (rw [Bool.eq_iff_iff]; simp [wk, wkL, wkO, eqCells, eqCell, mayX, regM, mayS, longM, widthM, jumpM, ccM, *]; grind))
    let E8 : EL := E7 ++ List.replicate 3 (tC (eF (neOf h22))) ++ [tC (neOf h22)] ++ List.replicate 4 (tC (eF (neOf h22)))
    by_cases h23 : w = 8
    ·subst h23
     have c24 := @within_ok imm (-128) 127
     exact (o29 (d := .bool true) (E8 ++ [tT, tT, tT, .ret _ _ _ c24, tT, tT] ++ List.replicate 11 tF) (by kernel_rfl)).to (by clear E1 E2 E3 E4 E5 E6 E7 E8; (try simp only [sl0, wk, wkL, wkO, eqCells, eqCell, mayX, regM, mayS, longM, widthM, jumpM, ccM] at *); (rw [Bool.eq_iff_iff]; simp [wk, wkL, wkO, eqCells, eqCell, mayX, regM, mayS, longM, widthM, jumpM, ccM, *]; grind))
    exact (o29 (d := .bool true) (E8 ++ List.replicate 3 (tC (eT (neOf h23))) ++ [tC (eF (neOf h22)), tC (neOf h23), tC (neOf h22)] ++ List.replicate 10 tF) (by kernel_rfl)).to (by clear E1 E2 E3 E4 E5 E6 E7 E8; (try simp only [sl0, wk, wkL, wkO, eqCells, eqCell, mayX, regM, mayS, longM, widthM, jumpM, ccM] at *); (rw [Bool.eq_iff_iff]; simp [wk, wkL, wkO, eqCells, eqCell, mayX, regM, mayS, longM, widthM, jumpM, ccM, *]; grind))
   exact (o29 (d := .bool false) (E6 ++ [tC (nt (andT (leL (-2147483648) h20) (leC 2147483647 h21)))]) (by kernel_rfl)).to (by clear E1 E2 E3 E4 E5 E6; (try simp only [sl0, wk, wkL, wkO, eqCells, eqCell, mayX, regM, mayS, longM, widthM, jumpM, ccM] at *); (simp [wk, wkL, wkO, eqCells, eqCell, mayX, regM, mayS, longM, widthM, jumpM, ccM, *]; omega))
  exact (o29 (d := .bool false) (E5 ++ List.replicate 4 (tC (eF (nt (andT (leL (-2147483648) h17) (leC 2147483647 h18))))) ++ [tC (nt (andT (leL (-2147483648) h17) (leC 2147483647 h18))), tT]) (by kernel_rfl)).to (by clear E1 E2 E3 E4 E5; (try simp only [sl0, wk, wkL, wkO, eqCells, eqCell, mayX, regM, mayS, longM, widthM, jumpM, ccM] at *); (simp [wk, wkL, wkO, eqCells, eqCell, mayX, regM, mayS, longM, widthM, jumpM, ccM, *]; omega))
 exact (o29 (d := .bool false) (E1 ++ List.replicate 4 (tC (eF (nt h6))) ++ [tC (nt h6), tF, tF, tF, tF, tT, tF, tF, tF, tF, tT, tF, tF, tF, tF, tT, tF, tF, tF, tF, tT, tT]) (by kernel_rfl)).to (by clear E1; (try simp only [sl0, wk, wkL, wkO, eqCells, eqCell, mayX, regM, mayS, longM, widthM, jumpM, ccM] at *); (rw [Bool.eq_iff_iff]; simp [wk, wkL, wkO, eqCells, eqCell, mayX, regM, mayS, longM, widthM, jumpM, ccM, *]; grind))
theorem shape_range : ∀ n : Fin 32, shapeM (n.val : Int) = 1 ∨ shapeM (n.val : Int) = 2 ∨ shapeM (n.val : Int) = 3 ∨ shapeM (n.val : Int) = 4 ∨ shapeM (n.val : Int) = 5 ∨ shapeM (n.val : Int) = 6 ∨ shapeM (n.val : Int) = 7 ∨ shapeM (n.val : Int) = 8 ∨ shapeM (n.val : Int) = 9 ∨ shapeM (n.val : Int) = 10 ∨ shapeM (n.val : Int) = 11 := by decide +kernel
theorem mayX_ok (op w dst src base disp imm cc : Int) (ho : op ≤ 127) : Ret Tryz.prog 29 [xD op w dst src base disp imm cc] (.bool (mayX op w dst src base disp imm cc)) := by
 by_cases hin : 0 ≤ op ∧ op ≤ 31
 ·have e : op = (((⟨op.toNat, by omega⟩ : Fin 32).val : Nat) : Int) := by simp; omega
  have hr := shape_range ⟨op.toNat, by omega⟩
  rw [← e] at hr
  have hin' : decide (0 ≤ op ∧ op ≤ 31) = true := decide_eq_true hin
  rcases hr with h | h | h | h | h | h | h | h | h | h | h
  ·exact mayX_1_ok _ _ _ _ _ _ _ _ ho (by rw [h]; rfl) hin'
  ·exact mayX_2_ok _ _ _ _ _ _ _ _ ho (by rw [h]; rfl) hin'
  ·exact mayX_3_ok _ _ _ _ _ _ _ _ ho (by rw [h]; rfl) hin'
  ·exact mayX_4_ok _ _ _ _ _ _ _ _ ho (by rw [h]; rfl) hin'
  ·exact mayX_5_ok _ _ _ _ _ _ _ _ ho (by rw [h]; rfl) hin'
  ·exact mayX_6_ok _ _ _ _ _ _ _ _ ho (by rw [h]; rfl) hin'
  ·exact mayX_7_ok _ _ _ _ _ _ _ _ ho (by rw [h]; rfl) hin'
  ·exact mayX_8_ok _ _ _ _ _ _ _ _ ho (by rw [h]; rfl) hin'
  ·exact mayX_9_ok _ _ _ _ _ _ _ _ ho (by rw [h]; rfl) hin'
  ·exact mayX_10_ok _ _ _ _ _ _ _ _ ho (by rw [h]; rfl) hin'
  ·exact mayX_11_ok _ _ _ _ _ _ _ _ ho (by rw [h]; rfl) hin'
 ·exact mayX_0_ok _ _ _ _ _ _ _ _ ho (by rw [(shape_none (op := op) (by omega)).1]; rfl) (decide_eq_false hin)
theorem mregister_ok (r : Int) : Ret Tryz.prog 101 ([.int .i8 r]) (.bool (regM r)) := by
 rcases bft (decide (r < 0)) with h0 | h0
 ·exact (o101 (d := .bool false) [tC (eT (leL 0 h0)), tC (eT (leL 0 h0)), tC (leL 0 h0)] (by kernel_rfl)).to (by (try simp only [sl0, wk, wkL, wkO, eqCells, eqCell, regM] at *); first | (simp [wk, wkL, wkO, eqCells, eqCell, regM, *]; done) | (simp [wk, wkL, wkO, eqCells, eqCell, regM, *]; omega) | (rw [Bool.eq_iff_iff]; simp [wk, wkL, wkO, eqCells, eqCell, regM, *]; done) | (rw [Bool.eq_iff_iff]; simp [wk, wkL, wkO, eqCells, eqCell, regM, *]; omega) | (rw [Bool.eq_iff_iff]; simp [wk, wkL, wkO, eqCells, eqCell, regM, *]; grind) | (subst_vars; rw [Bool.eq_iff_iff]; simp; grind))
 exact (o101 (d := .bool (decide (r < 16))) [tC (eT (leL 0 h0)), tC (eT (leL 0 h0)), tC (leL 0 h0)] (by kernel_rfl)).to (by (try simp only [sl0, wk, wkL, wkO, eqCells, eqCell, regM] at *); first | (simp [wk, wkL, wkO, eqCells, eqCell, regM, *]; done) | (simp [wk, wkL, wkO, eqCells, eqCell, regM, *]; omega) | (rw [Bool.eq_iff_iff]; simp [wk, wkL, wkO, eqCells, eqCell, regM, *]; done) | (rw [Bool.eq_iff_iff]; simp [wk, wkL, wkO, eqCells, eqCell, regM, *]; omega) | (rw [Bool.eq_iff_iff]; simp [wk, wkL, wkO, eqCells, eqCell, regM, *]; grind) | (subst_vars; rw [Bool.eq_iff_iff]; simp; grind))
theorem mhigh0_ok (r : Int) (r0 : 0 ≤ r) (r1 : r ≤ 15) : Ret Tryz.prog 102 ([.int .i8 r, .int .u64 0]) (.int .u8 (r / 8)) := by
 exact (o102 (d := .int .u8 (IntKind.wrap IntKind.u8 (IntKind.wrap IntKind.u8 (↑(BitVec.toNat (BitVec.ofInt (8 : Nat) (Int.fdiv (IntKind.wrap IntKind.u8 r) 8) &&& BitVec.ofInt (8 : Nat) 1)) : Int) * 1))) [tT] (by kernel_rfl)).to (by simp only [wk, D.int.injEq, true_and]; obtain ⟨n, rfl⟩ := fin16 r0 r1; clear r0 r1; revert n; decide +kernel)
theorem mhigh2_ok (r : Int) (r0 : 0 ≤ r) (r1 : r ≤ 15) : Ret Tryz.prog 102 ([.int .i8 r, .int .u64 2]) (.int .u8 (4 * (r / 8))) := by
 exact (o102 (d := .int .u8 (IntKind.wrap IntKind.u8 (IntKind.wrap IntKind.u8 (↑(BitVec.toNat (BitVec.ofInt (8 : Nat) (Int.fdiv (IntKind.wrap IntKind.u8 r) 8) &&& BitVec.ofInt (8 : Nat) 1)) : Int) * 4))) [tT] (by kernel_rfl)).to (by simp only [wk, D.int.injEq, true_and]; obtain ⟨n, rfl⟩ := fin16 r0 r1; clear r0 r1; revert n; decide +kernel)
theorem mlow192_ok (r m : Int) (r0 : 0 ≤ r) (r1 : r ≤ 15) (m0 : 0 ≤ m) (m1 : m ≤ 15) : Ret Tryz.prog 103 ([.int .u8 192, .int .i8 r, .int .i8 m]) (.int .u8 (regsM r m)) := by
 exact (o103 (d := .int .u8 (IntKind.wrap IntKind.u8 (↑(BitVec.toNat (BitVec.ofInt (8 : Nat) (IntKind.wrap IntKind.u8 (↑(BitVec.toNat (BitVec.ofInt (8 : Nat) 192 ||| BitVec.ofInt (8 : Nat) (IntKind.wrap IntKind.u8 (IntKind.wrap IntKind.u8 (↑(BitVec.toNat (BitVec.ofInt (8 : Nat) (IntKind.wrap IntKind.u8 r) &&& BitVec.ofInt (8 : Nat) 7)) : Int) * 8)))) : Int)) ||| BitVec.ofInt (8 : Nat) (IntKind.wrap IntKind.u8 (↑(BitVec.toNat (BitVec.ofInt (8 : Nat) (IntKind.wrap IntKind.u8 m) &&& BitVec.ofInt (8 : Nat) 7)) : Int)))) : Int))) [] (by kernel_rfl)).to (by simp only [wk, D.int.injEq, true_and]; obtain ⟨n, rfl⟩ := fin16 r0 r1; obtain ⟨k, rfl⟩ := fin16 m0 m1; clear r0 r1 m0 m1; revert n k; decide +kernel)
theorem mlow128_ok (r m : Int) (r0 : 0 ≤ r) (r1 : r ≤ 15) (m0 : 0 ≤ m) (m1 : m ≤ 15) : Ret Tryz.prog 103 ([.int .u8 128, .int .i8 r, .int .i8 m]) (.int .u8 (128 + 8 * (r % 8) + m % 8)) := by
 exact (o103 (d := .int .u8 (IntKind.wrap IntKind.u8 (↑(BitVec.toNat (BitVec.ofInt (8 : Nat) (IntKind.wrap IntKind.u8 (↑(BitVec.toNat (BitVec.ofInt (8 : Nat) 128 ||| BitVec.ofInt (8 : Nat) (IntKind.wrap IntKind.u8 (IntKind.wrap IntKind.u8 (↑(BitVec.toNat (BitVec.ofInt (8 : Nat) (IntKind.wrap IntKind.u8 r) &&& BitVec.ofInt (8 : Nat) 7)) : Int) * 8)))) : Int)) ||| BitVec.ofInt (8 : Nat) (IntKind.wrap IntKind.u8 (↑(BitVec.toNat (BitVec.ofInt (8 : Nat) (IntKind.wrap IntKind.u8 m) &&& BitVec.ofInt (8 : Nat) 7)) : Int)))) : Int))) [] (by kernel_rfl)).to (by simp only [wk, D.int.injEq, true_and]; obtain ⟨n, rfl⟩ := fin16 r0 r1; obtain ⟨k, rfl⟩ := fin16 m0 m1; clear r0 r1 m0 m1; revert n k; decide +kernel)
theorem mneeds_t_ok (r m : Int) (r0 : 0 ≤ r) (r1 : r ≤ 15) (m0 : 0 ≤ m) (m1 : m ≤ 15) (hn : decide (8 ≤ r ∨ 8 ≤ m) = true) : Ret Tryz.prog 69 ([.int .i8 r, .int .i8 m]) (.bool true) := by
 have c0 := @mregister_ok r
 rw [show (regM r) = true from (@reg_yes r r0 r1)] at c0
 have c1 := @mregister_ok m
 rw [show (regM m) = true from (@reg_yes m m0 m1)] at c1
 exact (o69 (d := .bool (IntKind.wrap IntKind.i8 (↑(BitVec.toNat (BitVec.ofInt (8 : Nat) (IntKind.wrap IntKind.i8 (↑(BitVec.toNat (BitVec.ofInt (8 : Nat) r ||| BitVec.ofInt (8 : Nat) m)) : Int)) &&& BitVec.ofInt (8 : Nat) 8)) : Int) != 0)) [.ret _ _ _ c0, tT, tT, .ret _ _ _ c1, tT, tT, tT, tT, tT, tT, tT] (by kernel_rfl)).to (by simp only [wk, D.bool.injEq]; rw [need_or r0 r1 m0 m1]; exact hn)
theorem mneeds_f_ok (r m : Int) (r0 : 0 ≤ r) (r1 : r ≤ 15) (m0 : 0 ≤ m) (m1 : m ≤ 15) (hn : decide (8 ≤ r ∨ 8 ≤ m) = false) : Ret Tryz.prog 69 ([.int .i8 r, .int .i8 m]) (.bool false) := by
 have c0 := @mregister_ok r
 rw [show (regM r) = true from (@reg_yes r r0 r1)] at c0
 have c1 := @mregister_ok m
 rw [show (regM m) = true from (@reg_yes m m0 m1)] at c1
 exact (o69 (d := .bool (IntKind.wrap IntKind.i8 (↑(BitVec.toNat (BitVec.ofInt (8 : Nat) (IntKind.wrap IntKind.i8 (↑(BitVec.toNat (BitVec.ofInt (8 : Nat) r ||| BitVec.ofInt (8 : Nat) m)) : Int)) &&& BitVec.ofInt (8 : Nat) 8)) : Int) != 0)) [.ret _ _ _ c0, tT, tT, .ret _ _ _ c1, tT, tT, tT, tT, tT, tT, tT] (by kernel_rfl)).to (by simp only [wk, D.bool.injEq]; rw [need_or r0 r1 m0 m1]; exact hn)
open Go Go.RowKit Go.Ev
set_option maxHeartbeats 4000000 in
theorem num4_walk (v : Int) (h0 : -2147483648 ≤ v) (h1 : v ≤ 2147483647) (w : World) :
  Calls Tryz.prog 104 #[.int .i64 v, .int .i64 4] w fun e w' => e = .returned (.tuple #[.slice (some ⟨w.heap.size, 0, none⟩) 4 4, .int .i64 0]) ∧
   w' = w.alloc (.cells #[.int .u8 (v % 256), .int .u8 (v / 256 % 256), .int .u8 (v / 65536 % 256), .int .u8 (v / 16777216 % 256)] 5) := by
 have hmk : ∀ w, (Instr.makeSlice 22 (.int .i64 4) (.int .i64 4)).run Tryz.prog w = .ok (.slice (some ⟨w.heap.size, 0, none⟩) 4 4) (w.alloc (.cells #[.int .u8 0, .int .u8 0, .int .u8 0, .int .u8 0] 5)) := fun _ => by kernel_rfl
 go_enter Tryz.func104, Tryz.ntmps104
 go_wp2
 refine wp_loop_rounds 5 ?_
 rw [rounds_succ]; go_wp2
 rw [rounds_succ]; go_wp2
 rw [rounds_succ]; go_wp2
 rw [rounds_succ]; go_wp2
 rw [rounds_succ]; go_wp2
 go_ret2
 exact ⟨rfl, rfl⟩
theorem ext_alloc {C : Nat → Nat → Option Value} {w : World} (hC : ∀ b o v, C b o = some v → w.cell? ⟨b, o, none⟩ = some v) (cells : Array Value) (ty : TypeId) :
  Ext (bareOf C) w (bareOf fun b o => if b = w.heap.size then cells[o]? else C b o) (w.alloc (.cells cells ty)) := by
 have hlt : ∀ b o v, C b o = some v → b < w.heap.size := fun b o v h => World.block_lt_of_cell? w _ (hC b o v h)
 refine ⟨(Below.refl _ _).alloc (Nat.le_refl _) _, ?_, ?_, ?_⟩
 ·intro b o v h
  have := hlt b o v h
  show (if b = w.heap.size then cells[o]? else C b o) = some v
  rw [if_neg (by omega)]
  exact h
 ·intro b o v h hb
  have h' : (if b = w.heap.size then cells[o]? else C b o) = some v := h
  rw [if_neg (by omega)] at h'
  exact h'
 ·intro b o v h
  have h' : (if b = w.heap.size then cells[o]? else C b o) = some v := h
  split at h'
  ·rename_i e
   subst e
   have hh : (w.alloc (.cells cells ty)).heap[w.heap.size]? = some (.cells cells ty) := by
    show (w.heap.push _)[w.heap.size]? = _
    simp
   simp only [World.cell?, hh]
   exact h'
  ·have hb := hlt b o v h'
   rw [World.cell?_alloc_lt _ _ _ hb]
   exact hC b o v h'
theorem rep_new {C : Nat → Nat → Option Value} {b : Nat} {k : IntKind} (xs : List Int) (cells : Array Value) (hc : cells = (xs.map fun n => Value.int k n).toArray) :
  Rep (bareOf fun b' o => if b' = b then cells[o]? else C b' o) (.lst .tight 1 (xs.map fun n => .int k n)) (.slice (some ⟨b, 0, none⟩) xs.length xs.length) := by
 subst hc
 have key : ∀ (i : Nat) (x : D) (cs : List D) (j : Nat) (c : D), (xs.map fun n => D.int k n)[i]? = some x → x.cells = some cs → cs[j]? = some c → ∃ n, xs[i]? = some n ∧ c = .int k n ∧ j = 0 := by
  intro i x cs j c h1 h2 h3
  rw [List.getElem?_map, Option.map_eq_some_iff] at h1
  obtain ⟨n, hn, rfl⟩ := h1
  simp only [D.cells, Option.some.injEq] at h2
  subst h2
  cases j with
  | zero => simp at h3; exact ⟨n, hn, h3.symm, rfl⟩
  | succ j => simp at h3
 refine .lst b 0 (fun i _ => .int k (xs.getD i 0)) (by simp) (Nat.le_refl _) (fun _ => rfl) ?_ ?_ ?_ ?_ rfl
 ·intro i x hx
  rw [List.getElem?_map, Option.map_eq_some_iff] at hx
  obtain ⟨n, hn, rfl⟩ := hx
  exact ⟨[.int k n], rfl, rfl⟩
 ·intro i x cs j c h1 h2 h3
  obtain ⟨n, hn, rfl, rfl⟩ := key i x cs j c h1 h2 h3
  simp [bareOf, hn]
 ·intro i x cs j c h1 h2 h3
  obtain ⟨n, hn, rfl, rfl⟩ := key i x cs j c h1 h2 h3
  simp only [List.getD_eq_getElem?_getD, hn, Option.getD_some]
  exact .int k n
 ·intro i x cs c h1 h2 h3
  rw [List.getElem?_map, Option.map_eq_some_iff] at h1
  obtain ⟨n, hn, rfl⟩ := h1
  simp only [D.cells, Option.some.injEq] at h2
  subst h2
  simp at h3
  subst h3
  rfl
theorem num4_ok (v : Int) (h0 : -2147483648 ≤ v) (h1 : v ≤ 2147483647) : Ret Tryz.prog 104 [.int .i64 v, .int .i64 4] (.tup [.lst .tight 1 [.int .u8 (v % 256), .int .u8 (v / 256 % 256), .int .u8 (v / 65536 % 256), .int .u8 (v / 16777216 % 256)], .int .i64 0]) := by
 refine ⟨⟨_, _, Tryz.func104, rfl, by kernel_rfl⟩, fun w C vs hC ha => ?_⟩
 obtain ⟨hl, hr⟩ := ha
 obtain ⟨a, b, rfl⟩ : ∃ a b, vs = #[a, b] := by
  rcases vs with ⟨l⟩
  match l, hl with
  | [a, b], _ => exact ⟨a, b, rfl⟩
 have ra := hr 0 _ a rfl rfl
 have rb := hr 1 _ b rfl rfl
 cases ra
 cases rb
 refine Calls.mono (num4_walk v h0 h1 w) ?_
 rintro e w' ⟨rfl, rfl⟩
 have rl := rep_new (C := C) (b := w.heap.size) (k := .u8) [v % 256, v / 256 % 256, v / 65536 % 256, v / 16777216 % 256] _ rfl
 refine ⟨_, _, rfl, ext_alloc hC _ _, .tup rfl ?_, ?_⟩
 ·intro i d u p q
  match i, p, q with
  | 0, p, q => simp at p q; subst p q; exact rl
  | 1, p, q => simp at p q; subst p q; exact .int _ _
 ·refine ⟨fun sz sz' xs h => (by cases h), ?_⟩
  intro ds vs hd hv i sz sz' xs hi
  simp only [D.tup.injEq] at hd
  subst hd
  match i, hi with
  | 0, hi => simp at hi
  | 1, hi => simp at hi
theorem mRex_f_ok (r m : Int) (r0 : 0 ≤ r) (r1 : r ≤ 15) (m0 : 0 ≤ m) (m1 : m ≤ 15) : Ret Tryz.prog 70 ([.bool false, .int .i8 r, .int .i8 m]) (.tup [.int .u8 (rexB false r m), .int .i64 0]) := by
 have c0 := @mregister_ok r
 rw [show (regM r) = true from (@reg_yes r r0 r1)] at c0
 have c1 := @mregister_ok m
 rw [show (regM m) = true from (@reg_yes m m0 m1)] at c1
 have c2 := @mhigh2_ok r r0 r1
 have c3 := @mhigh0_ok m m0 m1
 exact (o70 (d := .tup [.int .u8 (IntKind.wrap IntKind.u8 (↑(BitVec.toNat (BitVec.ofInt (8 : Nat) (IntKind.wrap IntKind.u8 (↑(BitVec.toNat (BitVec.ofInt (8 : Nat) 64 ||| BitVec.ofInt (8 : Nat) (4 * (r / 8)))) : Int)) ||| BitVec.ofInt (8 : Nat) (m / 8))) : Int)), .int .i64 0]) [.ret _ _ _ c0, tT, tT, .ret _ _ _ c1, tT, tF, tF, .ret _ _ _ c2, .ret _ _ _ c3, tF] (by kernel_rfl)).to (by simp only [wk, wkL, D.int.injEq, true_and, and_true]; exact rex_raw0 r0 r1 m0 m1)
theorem mRex_t_ok (r m : Int) (r0 : 0 ≤ r) (r1 : r ≤ 15) (m0 : 0 ≤ m) (m1 : m ≤ 15) : Ret Tryz.prog 70 ([.bool true, .int .i8 r, .int .i8 m]) (.tup [.int .u8 (rexB true r m), .int .i64 0]) := by
 have c0 := @mregister_ok r
 rw [show (regM r) = true from (@reg_yes r r0 r1)] at c0
 have c1 := @mregister_ok m
 rw [show (regM m) = true from (@reg_yes m m0 m1)] at c1
 have c2 := @mhigh2_ok r r0 r1
 have c3 := @mhigh0_ok m m0 m1
 exact (o70 (d := .tup [.int .u8 (IntKind.wrap IntKind.u8 (↑(BitVec.toNat (BitVec.ofInt (8 : Nat) (IntKind.wrap IntKind.u8 (↑(BitVec.toNat (BitVec.ofInt (8 : Nat) (IntKind.wrap IntKind.u8 (↑(BitVec.toNat (BitVec.ofInt (8 : Nat) 64 ||| BitVec.ofInt (8 : Nat) (4 * (r / 8)))) : Int)) ||| BitVec.ofInt (8 : Nat) (m / 8))) : Int)) ||| BitVec.ofInt (8 : Nat) 8)) : Int)), .int .i64 0]) [.ret _ _ _ c0, tT, tT, .ret _ _ _ c1, tT, tF, tF, .ret _ _ _ c2, .ret _ _ _ c3, tT] (by kernel_rfl)).to (by simp only [wk, wkL, D.int.injEq, true_and, and_true]; exact rex_raw1 r0 r1 m0 m1)
theorem mRegs_ok (r m : Int) (r0 : 0 ≤ r) (r1 : r ≤ 15) (m0 : 0 ≤ m) (m1 : m ≤ 15) : Ret Tryz.prog 71 ([.int .i8 r, .int .i8 m]) (.tup [.lst .tight 1 [.int .u8 (regsM r m)], .int .i64 0]) := by
 have c0 := @mregister_ok r
 rw [show (regM r) = true from (@reg_yes r r0 r1)] at c0
 have c1 := @mregister_ok m
 rw [show (regM m) = true from (@reg_yes m m0 m1)] at c1
 have c2 := @mlow192_ok r m r0 r1 m0 m1
 generalize g4 : regsM r m = r3 at c2
 exact (o71 (d := .tup [.lst .tight 1 [.int .u8 r3], .int .i64 0]) [.ret _ _ _ c0, tT, tT, .ret _ _ _ c1, tT, tF, tF, .ret _ _ _ c2] (by kernel_rfl)).to (by subst_vars; simp [wk, wkL, wkO])
theorem mMem_4_ok (r b disp : Int) (r0 : 0 ≤ r) (r1 : r ≤ 15) (m0 : 0 ≤ b) (m1 : b ≤ 15) (h0 : -2147483648 ≤ disp) (h1 : disp ≤ 2147483647) (hb : decide (b % 8 = 4) = true) : Ret Tryz.prog 73 ([.int .i8 r, .int .i8 b, .int .i64 disp]) (.tup [.lst .no 1 [.int .u8 (128 + 8 * (r % 8) + b % 8), .int .u8 36, .int .u8 (disp % 256), .int .u8 (disp / 256 % 256), .int .u8 (disp / 65536 % 256), .int .u8 (disp / 16777216 % 256)], .int .i64 0]) := by
 have c0 := @num4_ok disp h0 h1
 have c1 := @mregister_ok r
 rw [show (regM r) = true from (@reg_yes r r0 r1)] at c1
 have c2 := @mregister_ok b
 rw [show (regM b) = true from (@reg_yes b m0 m1)] at c2
 have c3 := @mlow128_ok r b r0 r1 m0 m1
 exact (o73 (d := .tup [.lst (.fresh 1) 1 [.int .u8 (128 + 8 * (r % 8) + b % 8), .int .u8 36, .int .u8 (disp % 256), .int .u8 (disp / 256 % 256), .int .u8 (disp / 65536 % 256), .int .u8 (disp / 16777216 % 256)], .int .i64 0]) [.ret _ _ _ c0, tT, tT, .ret _ _ _ c1, tT, tF, tT, tT, .ret _ _ _ c2, tT, tF, tF, tC (eqI 4 true (eq_of_beq (@sib_t b hb))), .ret _ _ _ c3, .inl, .go 64, tT, tT, .get ([.lst .tight 1 [.int .u8 (128 + 8 * (r % 8) + b % 8)], .lst .tight 1 [.int .u8 36], .lst .tight 1 [.int .u8 (disp % 256), .int .u8 (disp / 256 % 256), .int .u8 (disp / 65536 % 256), .int .u8 (disp / 16777216 % 256)]]) 0 (.lst .tight 1 [.int .u8 (128 + 8 * (r % 8) + b % 8)]) rfl, .len 1 2147483648 (by decide), tT, tT, .get ([.lst .tight 1 [.int .u8 (128 + 8 * (r % 8) + b % 8)], .lst .tight 1 [.int .u8 36], .lst .tight 1 [.int .u8 (disp % 256), .int .u8 (disp / 256 % 256), .int .u8 (disp / 65536 % 256), .int .u8 (disp / 16777216 % 256)]]) 1 (.lst .tight 1 [.int .u8 36]) rfl, .len 2 2147483648 (by decide), tT, tT, .get ([.lst .tight 1 [.int .u8 (128 + 8 * (r % 8) + b % 8)], .lst .tight 1 [.int .u8 36], .lst .tight 1 [.int .u8 (disp % 256), .int .u8 (disp / 256 % 256), .int .u8 (disp / 65536 % 256), .int .u8 (disp / 16777216 % 256)]]) 2 (.lst .tight 1 [.int .u8 (disp % 256), .int .u8 (disp / 256 % 256), .int .u8 (disp / 65536 % 256), .int .u8 (disp / 16777216 % 256)]) rfl, .len 6 2147483648 (by decide), tF] (by kernel_rfl)).to (by subst_vars; simp [wk, wkL, wkO])
theorem mMem_n_ok (r b disp : Int) (r0 : 0 ≤ r) (r1 : r ≤ 15) (m0 : 0 ≤ b) (m1 : b ≤ 15) (h0 : -2147483648 ≤ disp) (h1 : disp ≤ 2147483647) (hb : decide (b % 8 = 4) = false) : Ret Tryz.prog 73 ([.int .i8 r, .int .i8 b, .int .i64 disp]) (.tup [.lst .no 1 [.int .u8 (128 + 8 * (r % 8) + b % 8), .int .u8 (disp % 256), .int .u8 (disp / 256 % 256), .int .u8 (disp / 65536 % 256), .int .u8 (disp / 16777216 % 256)], .int .i64 0]) := by
 have c0 := @num4_ok disp h0 h1
 have c1 := @mregister_ok r
 rw [show (regM r) = true from (@reg_yes r r0 r1)] at c1
 have c2 := @mregister_ok b
 rw [show (regM b) = true from (@reg_yes b m0 m1)] at c2
 have c3 := @mlow128_ok r b r0 r1 m0 m1
 exact (o73 (d := .tup [.lst (.fresh 1) 1 [.int .u8 (128 + 8 * (r % 8) + b % 8), .int .u8 (disp % 256), .int .u8 (disp / 256 % 256), .int .u8 (disp / 65536 % 256), .int .u8 (disp / 16777216 % 256)], .int .i64 0]) [.ret _ _ _ c0, tT, tT, .ret _ _ _ c1, tT, tF, tT, tT, .ret _ _ _ c2, tT, tF, tF, tC (@sib_f b hb), .ret _ _ _ c3, .inl, .go 64, tT, tT, .get ([.lst .tight 1 [.int .u8 (128 + 8 * (r % 8) + b % 8)], .lst .tight 0 [], .lst .tight 1 [.int .u8 (disp % 256), .int .u8 (disp / 256 % 256), .int .u8 (disp / 65536 % 256), .int .u8 (disp / 16777216 % 256)]]) 0 (.lst .tight 1 [.int .u8 (128 + 8 * (r % 8) + b % 8)]) rfl, .len 1 2147483648 (by decide), tT, tT, .get ([.lst .tight 1 [.int .u8 (128 + 8 * (r % 8) + b % 8)], .lst .tight 0 [], .lst .tight 1 [.int .u8 (disp % 256), .int .u8 (disp / 256 % 256), .int .u8 (disp / 65536 % 256), .int .u8 (disp / 16777216 % 256)]]) 1 (.lst .tight 0 []) rfl, .len 1 2147483648 (by decide), tT, tT, .get ([.lst .tight 1 [.int .u8 (128 + 8 * (r % 8) + b % 8)], .lst .tight 0 [], .lst .tight 1 [.int .u8 (disp % 256), .int .u8 (disp / 256 % 256), .int .u8 (disp / 65536 % 256), .int .u8 (disp / 16777216 % 256)]]) 2 (.lst .tight 1 [.int .u8 (disp % 256), .int .u8 (disp / 256 % 256), .int .u8 (disp / 65536 % 256), .int .u8 (disp / 16777216 % 256)]) rfl, .len 5 2147483648 (by decide), tF] (by kernel_rfl)).to (by subst_vars; simp [wk, wkL, wkO])
theorem rex_no_ok (r m : Int) (r0 : 0 ≤ r) (r1 : r ≤ 15) (m0 : 0 ≤ m) (m1 : m ≤ 15) (wide al : Bool) (hn : needM wide r m al = false) : Ret Tryz.prog 32 ([.bool wide, .int .i8 r, .int .i8 m, .bool al]) (.lst .tight 1 []) := by
 cases wide
 ·cases al
  ·have c0 := @mneeds_f_ok r m r0 r1 m0 m1 hn
   exact (o32 (d := .lst .tight 0 []) [tT, tT, tT, tT, tT, tT, .ret _ _ _ c0, tT, tT, tT] (by kernel_rfl)).to (by first | (simp [wk, wkL, wkO]; done) | (exfalso; simp [needM] at hn))
  have c1 := @mRex_f_ok r m r0 r1 m0 m1
  generalize g3 : rexB false r m = r2 at c1
  exact (o32 (d := .lst .tight 1 [.int .u8 r2]) [tT, tT, tT, tF, tF, tF, tF, tF, tF, .ret _ _ _ c1] (by kernel_rfl)).to (by first | (simp [wk, wkL, wkO]; done) | (exfalso; simp [needM] at hn))
 have c4 := @mRex_t_ok r m r0 r1 m0 m1
 generalize g6 : rexB true r m = r5 at c4
 exact (o32 (d := .lst .tight 1 [.int .u8 r5]) (List.replicate 9 tF ++ [.ret _ _ _ c4]) (by kernel_rfl)).to (by first | (simp [wk, wkL, wkO]; done) | (exfalso; simp [needM] at hn))
theorem rex_yes_ok (r m : Int) (r0 : 0 ≤ r) (r1 : r ≤ 15) (m0 : 0 ≤ m) (m1 : m ≤ 15) (wide al : Bool) (hn : needM wide r m al = true) : Ret Tryz.prog 32 ([.bool wide, .int .i8 r, .int .i8 m, .bool al]) (.lst .tight 1 [.int .u8 (rexB wide r m)]) := by
 cases wide
 ·cases al
  ·have c0 := @mneeds_t_ok r m r0 r1 m0 m1 hn
   have c1 := @mRex_f_ok r m r0 r1 m0 m1
   generalize g3 : rexB false r m = r2 at c1
   exact (o32 (d := .lst .tight 1 [.int .u8 r2]) [tT, tT, tT, tT, tT, tT, .ret _ _ _ c0, tT, tT, tF, .ret _ _ _ c1] (by kernel_rfl)).to (by subst_vars; first | (simp [wk, wkL, wkO]; done) | (exfalso; simp [needM] at hn; omega))
  have c4 := @mRex_f_ok r m r0 r1 m0 m1
  generalize g6 : rexB false r m = r5 at c4
  exact (o32 (d := .lst .tight 1 [.int .u8 r5]) [tT, tT, tT, tF, tF, tF, tF, tF, tF, .ret _ _ _ c4] (by kernel_rfl)).to (by subst_vars; first | (simp [wk, wkL, wkO]; done) | (exfalso; simp [needM] at hn; omega))
 have c7 := @mRex_t_ok r m r0 r1 m0 m1
 generalize g9 : rexB true r m = r8 at c7
 exact (o32 (d := .lst .tight 1 [.int .u8 r8]) (List.replicate 9 tF ++ [.ret _ _ _ c7]) (by kernel_rfl)).to (by subst_vars; first | (simp [wk, wkL, wkO]; done) | (exfalso; simp [needM] at hn; omega))
theorem two_ok (r m : Int) (r0 : 0 ≤ r) (r1 : r ≤ 15) (m0 : 0 ≤ m) (m1 : m ≤ 15) : Ret Tryz.prog 33 ([.int .i8 r, .int .i8 m]) (.lst .tight 1 [.int .u8 (regsM r m)]) := by
 have c0 := @mRegs_ok r m r0 r1 m0 m1
 generalize g2 : regsM r m = r1 at c0
 exact (o33 (d := .lst .tight 1 [.int .u8 r1]) [.ret _ _ _ c0] (by kernel_rfl)).to (by subst_vars; simp [wk, wkL, wkO])
theorem four_ok (n : Int) : Ret Tryz.prog 34 ([.int .i64 n]) (.lst .no 1 [.int .u8 (n % 256), .int .u8 (n / 256 % 256), .int .u8 (n / 65536 % 256), .int .u8 (n / 16777216 % 256)]) := by
 exact (o34 (d := .lst (.fresh 1) 1 [.int .u8 (IntKind.wrap IntKind.u8 (IntKind.wrap IntKind.u64 n)), .int .u8 (IntKind.wrap IntKind.u8 (Int.fdiv (IntKind.wrap IntKind.u64 n) 256)), .int .u8 (IntKind.wrap IntKind.u8 (Int.fdiv (Int.fdiv (IntKind.wrap IntKind.u64 n) 256) 256)), .int .u8 (IntKind.wrap IntKind.u8 (Int.fdiv (Int.fdiv (Int.fdiv (IntKind.wrap IntKind.u64 n) 256) 256) 256))]) [.inl, .go 64, tT, .len 1 2147483648 (by decide), tT, .len 2 2147483648 (by decide), tT, .len 3 2147483648 (by decide), tT, .len 4 2147483648 (by decide), tF] (by kernel_rfl)).to (by simp only [wk, wkL, wkO, D.int.injEq, D.lst.injEq, List.cons.injEq, true_and, and_true, w_u8, w_u64, true_or, fd1, fd256, fd65536, fd16777216]; first | done | omega | (simp; omega))
theorem bytes_1_ok (op w dst src base disp imm cc : Int) (ho : op ≤ 127) (d0 : 0 ≤ dst) (d1 : dst ≤ 15) (s0 : 0 ≤ src) (s1 : src ≤ 15) (b0 : 0 ≤ base) (b1 : base ≤ 15) (p0 : -2147483648 ≤ disp) (p1 : disp ≤ 2147483647) (i0 : -2147483648 ≤ imm) (i1 : imm ≤ 2147483647) (c0 : 0 ≤ cc) (c1 : cc ≤ 15) (n0 : 0 ≤ numM op) (n1 : numM op ≤ 7) (h : (shapeM op == 1) = true) (hin : decide (0 ≤ op ∧ op ≤ 31) = true) (hm : mayX op w dst src base disp imm cc = true) : Ret Tryz.prog 15 ([xD op w dst src base disp imm cc]) (.tup [.lst .no 1 (bD (bytesM op w dst src base disp imm cc)), .int .i64 0]) := by
 have c0 := @mayX_ok op w dst src base disp imm cc ho
 rw [hm] at c0
 have c1 := @of_any_ok op ho
 rw [eq_of_beq h] at c1
 generalize g3 : codeM op = r2 at c1
 generalize g5 : numM op = r4 at c1
 rcases bft (needM (w == 64) src dst false) with h6 | h6
 ·have c7 := @rex_yes_ok src dst s0 s1 d0 d1 (w == 64) false h6
  generalize g9 : rexB (w == 64) src dst = r8 at c7
  have c10 := @two_ok src dst s0 s1 d0 d1
  generalize g12 : regsM src dst = r11 at c10
  exact (o15 (d := .tup [.lst (.fresh 1) 1 [.int .u8 r8, .int .u8 r2, .int .u8 r11], .int .i64 0]) [.ret _ _ _ c0, tF, .ret _ _ _ c1, tT, .ret _ _ _ c7, .ret _ _ _ c10, .inl, .go 64, tT, tT, .get ([.lst .tight 1 [.int .u8 r8], .lst .tight 1 [.int .u8 r2], .lst .tight 1 [.int .u8 r11]]) 0 (.lst .tight 1 [.int .u8 r8]) rfl, .len 1 2147483648 (by decide), tT, tT, .get ([.lst .tight 1 [.int .u8 r8], .lst .tight 1 [.int .u8 r2], .lst .tight 1 [.int .u8 r11]]) 1 (.lst .tight 1 [.int .u8 r2]) rfl, .len 2 2147483648 (by decide), tT, tT, .get ([.lst .tight 1 [.int .u8 r8], .lst .tight 1 [.int .u8 r2], .lst .tight 1 [.int .u8 r11]]) 2 (.lst .tight 1 [.int .u8 r11]) rfl, .len 3 2147483648 (by decide), tF] (by kernel_rfl)).to (by subst_vars; (try simp only [beq_dec] at *); (try simp only [beq_iff_eq] at h); (try simp only [decide_eq_true_eq, decide_eq_false_iff_not] at *); simp_all [wk, wkL, wkO, bytesM, bD, rexM, memM, fourM, w_u8])
 have c13 := @rex_no_ok src dst s0 s1 d0 d1 (w == 64) false h6
 have c14 := @two_ok src dst s0 s1 d0 d1
 generalize g16 : regsM src dst = r15 at c14
 exact (o15 (d := .tup [.lst (.fresh 1) 1 [.int .u8 r2, .int .u8 r15], .int .i64 0]) [.ret _ _ _ c0, tF, .ret _ _ _ c1, tT, .ret _ _ _ c13, .ret _ _ _ c14, .inl, .go 64, tT, tT, .get ([.lst .tight 1 [], .lst .tight 1 [.int .u8 r2], .lst .tight 1 [.int .u8 r15]]) 0 (.lst .tight 1 []) rfl, .len 0 2147483648 (by decide), tT, tT, .get ([.lst .tight 1 [], .lst .tight 1 [.int .u8 r2], .lst .tight 1 [.int .u8 r15]]) 1 (.lst .tight 1 [.int .u8 r2]) rfl, .len 1 2147483648 (by decide), tT, tT, .get ([.lst .tight 1 [], .lst .tight 1 [.int .u8 r2], .lst .tight 1 [.int .u8 r15]]) 2 (.lst .tight 1 [.int .u8 r15]) rfl, .len 2 2147483648 (by decide), tF] (by kernel_rfl)).to (by subst_vars; (try simp only [beq_dec] at *); (try simp only [beq_iff_eq] at h); (try simp only [decide_eq_true_eq, decide_eq_false_iff_not] at *); simp_all [wk, wkL, wkO, bytesM, bD, rexM, memM, fourM, w_u8])
theorem bytesO_16_ok (w dst src base disp imm cc : Int) (d0 : 0 ≤ dst) (d1 : dst ≤ 15) (s0 : 0 ≤ src) (s1 : src ≤ 15) (b0 : 0 ≤ base) (b1 : base ≤ 15) (p0 : -2147483648 ≤ disp) (p1 : disp ≤ 2147483647) (i0 : -2147483648 ≤ imm) (i1 : imm ≤ 2147483647) (c0 : 0 ≤ cc) (c1 : cc ≤ 15) (hm : mayX 16 w dst src base disp imm cc = true) : Ret Tryz.prog 15 ([xD 16 w dst src base disp imm cc]) (.tup [.lst .no 1 (bD (bytesM 16 w dst src base disp imm cc)), .int .i64 0]) := by
 have c0 := @mayX_ok 16 w dst src base disp imm cc (by decide)
 rw [hm] at c0
 have c1 := @of_any_ok 16 (by decide)
 rcases bft (needM (w == 64) dst src false) with h2 | h2
 ·have c3 := @rex_yes_ok dst src d0 d1 s0 s1 (w == 64) false h2
  generalize g5 : rexB (w == 64) dst src = r4 at c3
  have c6 := @two_ok dst src d0 d1 s0 s1
  generalize g8 : regsM dst src = r7 at c6
  exact (o15 (d := .tup [.lst (.fresh 1) 1 [.int .u8 r4, .int .u8 15, .int .u8 175, .int .u8 r7], .int .i64 0]) [.ret _ _ _ c0, tF, .ret _ _ _ c1, tF, tT, .ret _ _ _ c3, .ret _ _ _ c6, .inl, .go 64, tT, tT, .get ([.lst .tight 1 [.int .u8 r4], .lst .tight 1 [.int .u8 15], .lst .tight 1 [.int .u8 175], .lst .tight 1 [.int .u8 r7]]) 0 (.lst .tight 1 [.int .u8 r4]) rfl, .len 1 2147483648 (by decide), tT, tT, .get ([.lst .tight 1 [.int .u8 r4], .lst .tight 1 [.int .u8 15], .lst .tight 1 [.int .u8 175], .lst .tight 1 [.int .u8 r7]]) 1 (.lst .tight 1 [.int .u8 15]) rfl, .len 2 2147483648 (by decide), tT, tT, .get ([.lst .tight 1 [.int .u8 r4], .lst .tight 1 [.int .u8 15], .lst .tight 1 [.int .u8 175], .lst .tight 1 [.int .u8 r7]]) 2 (.lst .tight 1 [.int .u8 175]) rfl, .len 3 2147483648 (by decide), tT, tT, .get ([.lst .tight 1 [.int .u8 r4], .lst .tight 1 [.int .u8 15], .lst .tight 1 [.int .u8 175], .lst .tight 1 [.int .u8 r7]]) 3 (.lst .tight 1 [.int .u8 r7]) rfl, .len 4 2147483648 (by decide), tF] (by kernel_rfl)).to (by subst_vars; (try simp only [beq_dec] at *); (try simp only [beq_iff_eq] at h); (try simp only [decide_eq_true_eq, decide_eq_false_iff_not] at *); simp_all [wk, wkL, wkO, bytesM, show shapeM 16 = 2 from rfl, codeM, bD, rexM, memM, fourM, w_u8])
 have c9 := @rex_no_ok dst src d0 d1 s0 s1 (w == 64) false h2
 have c10 := @two_ok dst src d0 d1 s0 s1
 generalize g12 : regsM dst src = r11 at c10
 exact (o15 (d := .tup [.lst (.fresh 1) 1 [.int .u8 15, .int .u8 175, .int .u8 r11], .int .i64 0]) [.ret _ _ _ c0, tF, .ret _ _ _ c1, tF, tT, .ret _ _ _ c9, .ret _ _ _ c10, .inl, .go 64, tT, tT, .get ([.lst .tight 1 [], .lst .tight 1 [.int .u8 15], .lst .tight 1 [.int .u8 175], .lst .tight 1 [.int .u8 r11]]) 0 (.lst .tight 1 []) rfl, .len 0 2147483648 (by decide), tT, tT, .get ([.lst .tight 1 [], .lst .tight 1 [.int .u8 15], .lst .tight 1 [.int .u8 175], .lst .tight 1 [.int .u8 r11]]) 1 (.lst .tight 1 [.int .u8 15]) rfl, .len 1 2147483648 (by decide), tT, tT, .get ([.lst .tight 1 [], .lst .tight 1 [.int .u8 15], .lst .tight 1 [.int .u8 175], .lst .tight 1 [.int .u8 r11]]) 2 (.lst .tight 1 [.int .u8 175]) rfl, .len 2 2147483648 (by decide), tT, tT, .get ([.lst .tight 1 [], .lst .tight 1 [.int .u8 15], .lst .tight 1 [.int .u8 175], .lst .tight 1 [.int .u8 r11]]) 3 (.lst .tight 1 [.int .u8 r11]) rfl, .len 3 2147483648 (by decide), tF] (by kernel_rfl)).to (by subst_vars; (try simp only [beq_dec] at *); (try simp only [beq_iff_eq] at h); (try simp only [decide_eq_true_eq, decide_eq_false_iff_not] at *); simp_all [wk, wkL, wkO, bytesM, show shapeM 16 = 2 from rfl, codeM, bD, rexM, memM, fourM, w_u8])
theorem bytes_5_ok (op w dst src base disp imm cc : Int) (ho : op ≤ 127) (d0 : 0 ≤ dst) (d1 : dst ≤ 15) (s0 : 0 ≤ src) (s1 : src ≤ 15) (b0 : 0 ≤ base) (b1 : base ≤ 15) (p0 : -2147483648 ≤ disp) (p1 : disp ≤ 2147483647) (i0 : -2147483648 ≤ imm) (i1 : imm ≤ 2147483647) (c0 : 0 ≤ cc) (c1 : cc ≤ 15) (n0 : 0 ≤ numM op) (n1 : numM op ≤ 7) (h : (shapeM op == 5) = true) (hin : decide (0 ≤ op ∧ op ≤ 31) = true) (hm : mayX op w dst src base disp imm cc = true) : Ret Tryz.prog 15 ([xD op w dst src base disp imm cc]) (.tup [.lst .no 1 (bD (bytesM op w dst src base disp imm cc)), .int .i64 0]) := by
 have c0 := @mayX_ok op w dst src base disp imm cc ho
 rw [hm] at c0
 have c1 := @of_any_ok op ho
 rw [eq_of_beq h] at c1
 generalize g3 : codeM op = r2 at c1
 generalize g5 : numM op = r4 at c1
 rcases bft (needM (w == 64) 0 dst false) with h6 | h6
 ·have c7 := @rex_yes_ok 0 dst (by decide) (by decide) d0 d1 (w == 64) false h6
  generalize g9 : rexB (w == 64) 0 dst = r8 at c7
  have c10 := @two_ok r4 dst (by (simp only [sl2] at *; omega)) (by (simp only [sl2] at *; omega)) d0 d1
  generalize g12 : regsM r4 dst = r11 at c10
  exact (o15 (d := .tup [.lst (.fresh 1) 1 [.int .u8 r8, .int .u8 r2, .int .u8 r11], .int .i64 0]) [.ret _ _ _ c0, tF, .ret _ _ _ c1, tF, tF, tF, tF, tF, tT, .ret _ _ _ c7, .ret _ _ _ c10, .inl, .go 64, tT, tT, .get ([.lst .tight 1 [.int .u8 r8], .lst .tight 1 [.int .u8 r2], .lst .tight 1 [.int .u8 r11]]) 0 (.lst .tight 1 [.int .u8 r8]) rfl, .len 1 2147483648 (by decide), tT, tT, .get ([.lst .tight 1 [.int .u8 r8], .lst .tight 1 [.int .u8 r2], .lst .tight 1 [.int .u8 r11]]) 1 (.lst .tight 1 [.int .u8 r2]) rfl, .len 2 2147483648 (by decide), tT, tT, .get ([.lst .tight 1 [.int .u8 r8], .lst .tight 1 [.int .u8 r2], .lst .tight 1 [.int .u8 r11]]) 2 (.lst .tight 1 [.int .u8 r11]) rfl, .len 3 2147483648 (by decide), tF] (by kernel_rfl)).to (by subst_vars; (try simp only [beq_dec] at *); (try simp only [beq_iff_eq] at h); (try simp only [decide_eq_true_eq, decide_eq_false_iff_not] at *); simp_all [wk, wkL, wkO, bytesM, bD, rexM, memM, fourM, w_u8])
 have c13 := @rex_no_ok 0 dst (by decide) (by decide) d0 d1 (w == 64) false h6
 have c14 := @two_ok r4 dst (by (simp only [sl2] at *; omega)) (by (simp only [sl2] at *; omega)) d0 d1
 generalize g16 : regsM r4 dst = r15 at c14
 exact (o15 (d := .tup [.lst (.fresh 1) 1 [.int .u8 r2, .int .u8 r15], .int .i64 0]) [.ret _ _ _ c0, tF, .ret _ _ _ c1, tF, tF, tF, tF, tF, tT, .ret _ _ _ c13, .ret _ _ _ c14, .inl, .go 64, tT, tT, .get ([.lst .tight 1 [], .lst .tight 1 [.int .u8 r2], .lst .tight 1 [.int .u8 r15]]) 0 (.lst .tight 1 []) rfl, .len 0 2147483648 (by decide), tT, tT, .get ([.lst .tight 1 [], .lst .tight 1 [.int .u8 r2], .lst .tight 1 [.int .u8 r15]]) 1 (.lst .tight 1 [.int .u8 r2]) rfl, .len 1 2147483648 (by decide), tT, tT, .get ([.lst .tight 1 [], .lst .tight 1 [.int .u8 r2], .lst .tight 1 [.int .u8 r15]]) 2 (.lst .tight 1 [.int .u8 r15]) rfl, .len 2 2147483648 (by decide), tF] (by kernel_rfl)).to (by subst_vars; (try simp only [beq_dec] at *); (try simp only [beq_iff_eq] at h); (try simp only [decide_eq_true_eq, decide_eq_false_iff_not] at *); simp_all [wk, wkL, wkO, bytesM, bD, rexM, memM, fourM, w_u8])
end Go.Proofs.YtglcgdnaanhddaaGreat
