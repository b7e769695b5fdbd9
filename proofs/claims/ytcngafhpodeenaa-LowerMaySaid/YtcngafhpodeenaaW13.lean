/- Contracts and plain laws that a statement's proof leans on (texts merged: XMay3, XMayA, XS1, XS2, XRW, MdI, I0, I1H, I1, MdJ, I2, KI3, MdT, MdK, MdR, MdN). -/
import Derived.Test.YtcngafhpodeenaaW04
import Derived.Test.YtcngafhpodeenaaW08
import Derived.Test.YtcngafhpodeenaaW11
import Derived.Test.YtcngafhpodeenaaW12
set_option linter.unusedVariables false
set_option linter.unusedSimpArgs false
namespace Go.Proofs.Ytcngafhpodeenaa
open Go Go.Ev
set_option maxRecDepth 100000
set_option maxHeartbeats 8000000
def SpXMay30 (k0_ : Int) : Prop := ∀ (op w dst src base disp imm cc : Int) (ho : op ≤ 127) (h : (shapeM op == k0_) = true) (hin : decide (0 ≤ op ∧ op ≤ 31) = true), Ret Try.prog 56 ([xD op w dst src base disp imm cc]) (.bool (mayX op w dst src base disp imm cc))
theorem mayX_9_ok : SpXMay30 9 := by
 intro op w dst src base disp imm cc ho h hin
 have c0 := @of_any_ok op ho
 rw [eq_of_beq h] at c0
 generalize g2 : codeM op = r1 at c0
 generalize g4 : numM op = r3 at c0
 have c5 := @bare_9_ok op w dst src base disp imm cc 9 (rfl : true = true)
 let E1 : EL := ([.ret _ _ _ c0] ++ List.replicate 4 (tC (eF (nt hin))) ++ [.ret _ _ _ c5, tC (eF (nt hin)), tC (eF (nt hin)), .flat _ _ flat_X, tC (nt hin)])
 rcases bft (eqCells [.int .i8 0, .int .i8 0, .int .i8 dst, .int .i8 src, .int .i8 base, .int .i64 disp, .int .i64 0, .int .i8 cc] [.int .i8 0, .int .i8 0, .int .i8 0, .int .i8 0, .int .i8 0, .int .i64 0, .int .i64 0, .int .i8 0]) with h6 | h6
 ·have c7 := @reg_ok dst
  generalize g9 : regM dst = r8 at c7
  let E2 : EL := E1 ++ List.replicate 3 (tC (eF (nt h6))) ++ [.ret _ _ _ c7, tC (eF (nt h6)), tC (nt h6)]
  cases r8
  ·exact (o56 (d := .bool false) (E2 ++ [tF, tF, tF, tF, tT, tF, tF, tF, tF, tT, tF, tF, tF, tF, tT, tF, tF, tF, tF, tT, tT]) (by kernel_rfl)).to (by clear E1 E2; (try simp only [sl0, wk, wkL, wkO, eqCells, eqCell, mayX, regM, mayS, longM, widthM, jumpM, ccM] at *); (simp [wk, wkL, wkO, eqCells, eqCell, mayX, regM, mayS, longM, widthM, jumpM, ccM, *]; done))
  have c10 := @reg_ok src
  generalize g12 : regM src = r11 at c10
  let E3 : EL := E2 ++ [tT, tT, tT, .ret _ _ _ c10, tT, tF]
  cases r11
  ·exact (o56 (d := .bool false) (E3 ++ [tF, tF, tF, tF, tT, tF, tF, tF, tF, tT, tF, tF, tF, tF, tT, tT]) (by kernel_rfl)).to (by clear E1 E2 E3; (try simp only [sl0, wk, wkL, wkO, eqCells, eqCell, mayX, regM, mayS, longM, widthM, jumpM, ccM] at *); (simp [wk, wkL, wkO, eqCells, eqCell, mayX, regM, mayS, longM, widthM, jumpM, ccM, *]; done))
  have c13 := @reg_ok base
  generalize g15 : regM base = r14 at c13
  let E4 : EL := E3 ++ [tT, tT, tT, .ret _ _ _ c13, tT, tF]
  cases r14
  ·exact (o56 (d := .bool false) (E4 ++ [tF, tF, tF, tF, tT, tF, tF, tF, tF, tT, tT]) (by kernel_rfl)).to (by clear E1 E2 E3 E4; (try simp only [sl0, wk, wkL, wkO, eqCells, eqCell, mayX, regM, mayS, longM, widthM, jumpM, ccM] at *); (simp [wk, wkL, wkO, eqCells, eqCell, mayX, regM, mayS, longM, widthM, jumpM, ccM, *]; done))
  have c16 := @within_ok disp (-2147483648) 2147483647
  let E5 : EL := E4 ++ [tT, tT, tT, .ret _ _ _ c16, tT, tF]
  rcases bft (decide (disp < (-2147483648))) with h17 | h17
  ·exact (o56 (d := .bool false) (E5 ++ List.replicate 4 (tC (eF (nt (andF (y := decide (disp ≤ 2147483647)) (leL (-2147483648) h17))))) ++ [tC (nt (andF (y := decide (disp ≤ 2147483647)) (leL (-2147483648) h17))), tT]) (by kernel_rfl)).to (by clear E1 E2 E3 E4 E5; (try simp only [sl0, wk, wkL, wkO, eqCells, eqCell, mayX, regM, mayS, longM, widthM, jumpM, ccM] at *); (simp [wk, wkL, wkO, eqCells, eqCell, mayX, regM, mayS, longM, widthM, jumpM, ccM, *]; omega))
  rcases bft (decide (disp < 2147483648)) with h18 | h18
  ·have c19 := @within_ok imm (-2147483648) 2147483647
   let E6 : EL := E5 ++ List.replicate 3 (tC (eF (nt (andT (leL (-2147483648) h17) (leC 2147483647 h18))))) ++ [.ret _ _ _ c19, tC (eF (nt (andT (leL (-2147483648) h17) (leC 2147483647 h18)))), tC (nt (andT (leL (-2147483648) h17) (leC 2147483647 h18)))]
   rcases bft (decide (imm < (-2147483648))) with h20 | h20
   ·exact (o56 (d := .bool false) (E6 ++ [tC (nt (andF (y := decide (imm ≤ 2147483647)) (leL (-2147483648) h20)))]) (by kernel_rfl)).to (by clear E1 E2 E3 E4 E5 E6; (try simp only [sl0, wk, wkL, wkO, eqCells, eqCell, mayX, regM, mayS, longM, widthM, jumpM, ccM] at *); (simp [wk, wkL, wkO, eqCells, eqCell, mayX, regM, mayS, longM, widthM, jumpM, ccM, *]; omega))
   rcases bft (decide (imm < 2147483648)) with h21 | h21
   ·let E7 : EL := E6 ++ [tC (nt (andT (leL (-2147483648) h20) (leC 2147483647 h21)))]
    by_cases h22 : w = 32
    ·subst h22
     exact (o56 (d := .bool true) (E7 ++ [tF, tF, tF, tT, tF, tF, tF, tF, tF, tT] ++ List.replicate 8 tF ++ [tT]) (by kernel_rfl)).to (by clear E1 E2 E3 E4 E5 E6 E7; (try simp only [sl0, wk, wkL, wkO, eqCells, eqCell, mayX, regM, mayS, longM, widthM, jumpM, ccM] at *); (rw [Bool.eq_iff_iff]; simp [wk, wkL, wkO, eqCells, eqCell, mayX, regM, mayS, longM, widthM, jumpM, ccM, *]; grind))
    let E8 : EL := E7 ++ List.replicate 3 (tC (eF (neOf h22))) ++ [tC (neOf h22)] ++ List.replicate 4 (tC (eF (neOf h22)))
    by_cases h23 : w = 8
    ·subst h23
     have c24 := @within_ok imm (-128) 127
     exact (o56 (d := .bool (decide ((-128) ≤ imm) && decide (imm ≤ 127))) (E8 ++ [tT, tT, tT, .ret _ _ _ c24, tT, tT] ++ List.replicate 9 tF ++ [tT]) (by kernel_rfl)).to (by clear E1 E2 E3 E4 E5 E6 E7 E8; (try simp only [sl0, wk, wkL, wkO, eqCells, eqCell, mayX, regM, mayS, longM, widthM, jumpM, ccM] at *); (rw [Bool.eq_iff_iff]; simp [wk, wkL, wkO, eqCells, eqCell, mayX, regM, mayS, longM, widthM, jumpM, ccM, *]; grind))
    exact (o56 (d := .bool false) (E8 ++ List.replicate 3 (tC (eT (neOf h23))) ++ [tC (eF (neOf h22)), tC (neOf h23), tC (neOf h22)] ++ List.replicate 8 tF ++ [tT]) (by kernel_rfl)).to (by clear E1 E2 E3 E4 E5 E6 E7 E8; (try simp only [sl0, wk, wkL, wkO, eqCells, eqCell, mayX, regM, mayS, longM, widthM, jumpM, ccM] at *); (simp [wk, wkL, wkO, eqCells, eqCell, mayX, regM, mayS, longM, widthM, jumpM, ccM, *]; done))
   exact (o56 (d := .bool false) (E6 ++ [tC (nt (andT (leL (-2147483648) h20) (leC 2147483647 h21)))]) (by kernel_rfl)).to (by clear E1 E2 E3 E4 E5 E6; (try simp only [sl0, wk, wkL, wkO, eqCells, eqCell, mayX, regM, mayS, longM, widthM, jumpM, ccM] at *); (simp [wk, wkL, wkO, eqCells, eqCell, mayX, regM, mayS, longM, widthM, jumpM, ccM, *]; omega))
  exact (o56 (d := .bool false) (E5 ++ List.replicate 4 (tC (eF (nt (andT (leL (-2147483648) h17) (leC 2147483647 h18))))) ++ [tC (nt (andT (leL (-2147483648) h17) (leC 2147483647 h18))), tT]) (by kernel_rfl)).to (by clear E1 E2 E3 E4 E5; (try simp only [sl0, wk, wkL, wkO, eqCells, eqCell, mayX, regM, mayS, longM, widthM, jumpM, ccM] at *); (simp [wk, wkL, wkO, eqCells, eqCell, mayX, regM, mayS, longM, widthM, jumpM, ccM, *]; omega))
 exact (o56 (d := .bool false) (E1 ++ List.replicate 4 (tC (eF (nt h6))) ++ [tC (nt h6), tF, tF, tF, tF, tT, tF, tF, tF, tF, tT, tF, tF, tF, tF, tT, tF, tF, tF, tF, tT, tT]) (by kernel_rfl)).to (by clear E1; (try simp only [sl0, wk, wkL, wkO, eqCells, eqCell, mayX, regM, mayS, longM, widthM, jumpM, ccM] at *); (rw [Bool.eq_iff_iff]; simp [wk, wkL, wkO, eqCells, eqCell, mayX, regM, mayS, longM, widthM, jumpM, ccM, *]; grind))
theorem mayX_10_ok : SpXMay30 10 := by
 intro op w dst src base disp imm cc ho h hin
 have c0 := @of_any_ok op ho
 rw [eq_of_beq h] at c0
 generalize g2 : codeM op = r1 at c0
 generalize g4 : numM op = r3 at c0
 have c5 := @bare_10_ok op w dst src base disp imm cc 10 (rfl : true = true)
 let E1 : EL := ([.ret _ _ _ c0] ++ List.replicate 4 (tC (eF (nt hin))) ++ [.ret _ _ _ c5, tC (eF (nt hin)), tC (eF (nt hin)), .flat _ _ flat_X, tC (nt hin)])
 rcases bft (eqCells [.int .i8 0, .int .i8 0, .int .i8 dst, .int .i8 src, .int .i8 base, .int .i64 disp, .int .i64 0, .int .i8 0] [.int .i8 0, .int .i8 0, .int .i8 0, .int .i8 0, .int .i8 0, .int .i64 0, .int .i64 0, .int .i8 0]) with h6 | h6
 ·have c7 := @reg_ok dst
  generalize g9 : regM dst = r8 at c7
  let E2 : EL := E1 ++ List.replicate 3 (tC (eF (nt h6))) ++ [.ret _ _ _ c7, tC (eF (nt h6)), tC (nt h6)]
  cases r8
  ·exact (o56 (d := .bool false) (E2 ++ [tF, tF, tF, tF, tT, tF, tF, tF, tF, tT, tF, tF, tF, tF, tT, tF, tF, tF, tF, tT, tT]) (by kernel_rfl)).to (by clear E1 E2; (try simp only [sl0, wk, wkL, wkO, eqCells, eqCell, mayX, regM, mayS, longM, widthM, jumpM, ccM] at *); (simp [wk, wkL, wkO, eqCells, eqCell, mayX, regM, mayS, longM, widthM, jumpM, ccM, *]; done))
  have c10 := @reg_ok src
  generalize g12 : regM src = r11 at c10
  let E3 : EL := E2 ++ [tT, tT, tT, .ret _ _ _ c10, tT, tF]
  cases r11
  ·exact (o56 (d := .bool false) (E3 ++ [tF, tF, tF, tF, tT, tF, tF, tF, tF, tT, tF, tF, tF, tF, tT, tT]) (by kernel_rfl)).to (by clear E1 E2 E3; (try simp only [sl0, wk, wkL, wkO, eqCells, eqCell, mayX, regM, mayS, longM, widthM, jumpM, ccM] at *); (simp [wk, wkL, wkO, eqCells, eqCell, mayX, regM, mayS, longM, widthM, jumpM, ccM, *]; done))
  have c13 := @reg_ok base
  generalize g15 : regM base = r14 at c13
  let E4 : EL := E3 ++ [tT, tT, tT, .ret _ _ _ c13, tT, tF]
  cases r14
  ·exact (o56 (d := .bool false) (E4 ++ [tF, tF, tF, tF, tT, tF, tF, tF, tF, tT, tT]) (by kernel_rfl)).to (by clear E1 E2 E3 E4; (try simp only [sl0, wk, wkL, wkO, eqCells, eqCell, mayX, regM, mayS, longM, widthM, jumpM, ccM] at *); (simp [wk, wkL, wkO, eqCells, eqCell, mayX, regM, mayS, longM, widthM, jumpM, ccM, *]; done))
  have c16 := @within_ok disp (-2147483648) 2147483647
  let E5 : EL := E4 ++ [tT, tT, tT, .ret _ _ _ c16, tT, tF]
  rcases bft (decide (disp < (-2147483648))) with h17 | h17
  ·exact (o56 (d := .bool false) (E5 ++ List.replicate 4 (tC (eF (nt (andF (y := decide (disp ≤ 2147483647)) (leL (-2147483648) h17))))) ++ [tC (nt (andF (y := decide (disp ≤ 2147483647)) (leL (-2147483648) h17))), tT]) (by kernel_rfl)).to (by clear E1 E2 E3 E4 E5; (try simp only [sl0, wk, wkL, wkO, eqCells, eqCell, mayX, regM, mayS, longM, widthM, jumpM, ccM] at *); (simp [wk, wkL, wkO, eqCells, eqCell, mayX, regM, mayS, longM, widthM, jumpM, ccM, *]; omega))
  rcases bft (decide (disp < 2147483648)) with h18 | h18
  ·have c19 := @within_ok imm (-2147483648) 2147483647
   let E6 : EL := E5 ++ List.replicate 3 (tC (eF (nt (andT (leL (-2147483648) h17) (leC 2147483647 h18))))) ++ [.ret _ _ _ c19, tC (eF (nt (andT (leL (-2147483648) h17) (leC 2147483647 h18)))), tC (nt (andT (leL (-2147483648) h17) (leC 2147483647 h18)))]
   rcases bft (decide (imm < (-2147483648))) with h20 | h20
   ·exact (o56 (d := .bool false) (E6 ++ [tC (nt (andF (y := decide (imm ≤ 2147483647)) (leL (-2147483648) h20)))]) (by kernel_rfl)).to (by clear E1 E2 E3 E4 E5 E6; (try simp only [sl0, wk, wkL, wkO, eqCells, eqCell, mayX, regM, mayS, longM, widthM, jumpM, ccM] at *); (simp [wk, wkL, wkO, eqCells, eqCell, mayX, regM, mayS, longM, widthM, jumpM, ccM, *]; omega))
   rcases bft (decide (imm < 2147483648)) with h21 | h21
   ·let E7 : EL := E6 ++ [tC (nt (andT (leL (-2147483648) h20) (leC 2147483647 h21)))]
    by_cases h22 : w = 32
    ·subst h22
     have c23 := @cond_ok cc
     generalize g25 : ccM cc = r24 at c23
     exact (o56 (d := .bool r24) (E7 ++ [tF, tF, tF, tT, tF, tF, tF, tF, tF, tT] ++ List.replicate 9 tF ++ [tT, tT, tT, tT, .ret _ _ _ c23, tT]) (by kernel_rfl)).to (by clear E1 E2 E3 E4 E5 E6 E7; (try simp only [sl0, wk, wkL, wkO, eqCells, eqCell, mayX, regM, mayS, longM, widthM, jumpM, ccM] at *); (rw [Bool.eq_iff_iff]; simp [wk, wkL, wkO, eqCells, eqCell, mayX, regM, mayS, longM, widthM, jumpM, ccM, *]; grind))
    let E8 : EL := E7 ++ List.replicate 3 (tC (eF (neOf h22))) ++ [tC (neOf h22)] ++ List.replicate 4 (tC (eF (neOf h22)))
    by_cases h26 : w = 8
    ·subst h26
     have c27 := @within_ok imm (-128) 127
     let E9 : EL := E8 ++ [tT, tT, tT, .ret _ _ _ c27, tT, tT] ++ List.replicate 10 tF ++ [tT]
     rcases bft (decide (imm < (-128))) with h28 | h28
     ·exact (o56 (d := .bool false) (E9 ++ List.replicate 3 (tC (eT (andF (y := decide (imm ≤ 127)) (leL (-128) h28)))) ++ [tC (andF (y := decide (imm ≤ 127)) (leL (-128) h28))]) (by kernel_rfl)).to (by clear E1 E2 E3 E4 E5 E6 E7 E8 E9; (try simp only [sl0, wk, wkL, wkO, eqCells, eqCell, mayX, regM, mayS, longM, widthM, jumpM, ccM] at *); (simp [wk, wkL, wkO, eqCells, eqCell, mayX, regM, mayS, longM, widthM, jumpM, ccM, *]; omega))
     rcases bft (decide (imm < 128)) with h29 | h29
     ·have c30 := @cond_ok cc
      generalize g32 : ccM cc = r31 at c30
      exact (o56 (d := .bool r31) (E9 ++ List.replicate 3 (tC (eT (andT (leL (-128) h28) (leC 127 h29)))) ++ [.ret _ _ _ c30, tC (andT (leL (-128) h28) (leC 127 h29))]) (by kernel_rfl)).to (by clear E1 E2 E3 E4 E5 E6 E7 E8 E9; (try simp only [sl0, wk, wkL, wkO, eqCells, eqCell, mayX, regM, mayS, longM, widthM, jumpM, ccM] at *); (rw [Bool.eq_iff_iff]; simp [wk, wkL, wkO, eqCells, eqCell, mayX, regM, mayS, longM, widthM, jumpM, ccM, *]; grind))
     exact (o56 (d := .bool false) (E9 ++ List.replicate 3 (tC (eT (andT (leL (-128) h28) (leC 127 h29)))) ++ [tC (andT (leL (-128) h28) (leC 127 h29))]) (by kernel_rfl)).to (by clear E1 E2 E3 E4 E5 E6 E7 E8 E9; (try simp only [sl0, wk, wkL, wkO, eqCells, eqCell, mayX, regM, mayS, longM, widthM, jumpM, ccM] at *); (simp [wk, wkL, wkO, eqCells, eqCell, mayX, regM, mayS, longM, widthM, jumpM, ccM, *]; omega))
    exact (o56 (d := .bool false) (E8 ++ List.replicate 3 (tC (eT (neOf h26))) ++ [tC (eF (neOf h22)), tC (neOf h26), tC (neOf h22)] ++ List.replicate 9 tF ++ [tT, tF, tF, tF, tF]) (by kernel_rfl)).to (by clear E1 E2 E3 E4 E5 E6 E7 E8; (try simp only [sl0, wk, wkL, wkO, eqCells, eqCell, mayX, regM, mayS, longM, widthM, jumpM, ccM] at *); (simp [wk, wkL, wkO, eqCells, eqCell, mayX, regM, mayS, longM, widthM, jumpM, ccM, *]; done))
   exact (o56 (d := .bool false) (E6 ++ [tC (nt (andT (leL (-2147483648) h20) (leC 2147483647 h21)))]) (by kernel_rfl)).to (by clear E1 E2 E3 E4 E5 E6; (try simp only [sl0, wk, wkL, wkO, eqCells, eqCell, mayX, regM, mayS, longM, widthM, jumpM, ccM] at *); (simp [wk, wkL, wkO, eqCells, eqCell, mayX, regM, mayS, longM, widthM, jumpM, ccM, *]; omega))
  exact (o56 (d := .bool false) (E5 ++ List.replicate 4 (tC (eF (nt (andT (leL (-2147483648) h17) (leC 2147483647 h18))))) ++ [tC (nt (andT (leL (-2147483648) h17) (leC 2147483647 h18))), tT]) (by kernel_rfl)).to (by clear E1 E2 E3 E4 E5; (try simp only [sl0, wk, wkL, wkO, eqCells, eqCell, mayX, regM, mayS, longM, widthM, jumpM, ccM] at *); (simp [wk, wkL, wkO, eqCells, eqCell, mayX, regM, mayS, longM, widthM, jumpM, ccM, *]; omega))
 exact (o56 (d := .bool false) (E1 ++ List.replicate 4 (tC (eF (nt h6))) ++ [tC (nt h6), tF, tF, tF, tF, tT, tF, tF, tF, tF, tT, tF, tF, tF, tF, tT, tF, tF, tF, tF, tT, tT]) (by kernel_rfl)).to (by clear E1; (try simp only [sl0, wk, wkL, wkO, eqCells, eqCell, mayX, regM, mayS, longM, widthM, jumpM, ccM] at *); (rw [Bool.eq_iff_iff]; simp [wk, wkL, wkO, eqCells, eqCell, mayX, regM, mayS, longM, widthM, jumpM, ccM, *]; grind))
theorem mayX_11_ok : SpXMay30 11 := by
 intro op w dst src base disp imm cc ho h hin
 have c0 := @of_any_ok op ho
 rw [eq_of_beq h] at c0
 generalize g2 : codeM op = r1 at c0
 generalize g4 : numM op = r3 at c0
 have c5 := @bare_11_ok op w dst src base disp imm cc 11 (rfl : true = true)
 let E1 : EL := ([.ret _ _ _ c0] ++ List.replicate 4 (tC (eF (nt hin))) ++ [.ret _ _ _ c5, tC (eF (nt hin)), tC (eF (nt hin)), .flat _ _ flat_X, tC (nt hin)])
 rcases bft (eqCells [.int .i8 0, .int .i8 w, .int .i8 dst, .int .i8 src, .int .i8 base, .int .i64 disp, .int .i64 imm, .int .i8 cc] [.int .i8 0, .int .i8 0, .int .i8 0, .int .i8 0, .int .i8 0, .int .i64 0, .int .i64 0, .int .i8 0]) with h6 | h6
 ·have c7 := @reg_ok dst
  generalize g9 : regM dst = r8 at c7
  let E2 : EL := E1 ++ List.replicate 3 (tC (eF (nt h6))) ++ [.ret _ _ _ c7, tC (eF (nt h6)), tC (nt h6)]
  cases r8
  ·exact (o56 (d := .bool false) (E2 ++ [tF, tF, tF, tF, tT, tF, tF, tF, tF, tT, tF, tF, tF, tF, tT, tF, tF, tF, tF, tT, tT]) (by kernel_rfl)).to (by clear E1 E2; (try simp only [sl0, wk, wkL, wkO, eqCells, eqCell, mayX, regM, mayS, longM, widthM, jumpM, ccM] at *); (simp [wk, wkL, wkO, eqCells, eqCell, mayX, regM, mayS, longM, widthM, jumpM, ccM, *]; done))
  have c10 := @reg_ok src
  generalize g12 : regM src = r11 at c10
  let E3 : EL := E2 ++ [tT, tT, tT, .ret _ _ _ c10, tT, tF]
  cases r11
  ·exact (o56 (d := .bool false) (E3 ++ [tF, tF, tF, tF, tT, tF, tF, tF, tF, tT, tF, tF, tF, tF, tT, tT]) (by kernel_rfl)).to (by clear E1 E2 E3; (try simp only [sl0, wk, wkL, wkO, eqCells, eqCell, mayX, regM, mayS, longM, widthM, jumpM, ccM] at *); (simp [wk, wkL, wkO, eqCells, eqCell, mayX, regM, mayS, longM, widthM, jumpM, ccM, *]; done))
  have c13 := @reg_ok base
  generalize g15 : regM base = r14 at c13
  let E4 : EL := E3 ++ [tT, tT, tT, .ret _ _ _ c13, tT, tF]
  cases r14
  ·exact (o56 (d := .bool false) (E4 ++ [tF, tF, tF, tF, tT, tF, tF, tF, tF, tT, tT]) (by kernel_rfl)).to (by clear E1 E2 E3 E4; (try simp only [sl0, wk, wkL, wkO, eqCells, eqCell, mayX, regM, mayS, longM, widthM, jumpM, ccM] at *); (simp [wk, wkL, wkO, eqCells, eqCell, mayX, regM, mayS, longM, widthM, jumpM, ccM, *]; done))
  have c16 := @within_ok disp (-2147483648) 2147483647
  let E5 : EL := E4 ++ [tT, tT, tT, .ret _ _ _ c16, tT, tF]
  rcases bft (decide (disp < (-2147483648))) with h17 | h17
  ·exact (o56 (d := .bool false) (E5 ++ List.replicate 4 (tC (eF (nt (andF (y := decide (disp ≤ 2147483647)) (leL (-2147483648) h17))))) ++ [tC (nt (andF (y := decide (disp ≤ 2147483647)) (leL (-2147483648) h17))), tT]) (by kernel_rfl)).to (by clear E1 E2 E3 E4 E5; (try simp only [sl0, wk, wkL, wkO, eqCells, eqCell, mayX, regM, mayS, longM, widthM, jumpM, ccM] at *); (simp [wk, wkL, wkO, eqCells, eqCell, mayX, regM, mayS, longM, widthM, jumpM, ccM, *]; omega))
  rcases bft (decide (disp < 2147483648)) with h18 | h18
  ·have c19 := @within_ok imm (-2147483648) 2147483647
   let E6 : EL := E5 ++ List.replicate 3 (tC (eF (nt (andT (leL (-2147483648) h17) (leC 2147483647 h18))))) ++ [.ret _ _ _ c19, tC (eF (nt (andT (leL (-2147483648) h17) (leC 2147483647 h18)))), tC (nt (andT (leL (-2147483648) h17) (leC 2147483647 h18)))]
   rcases bft (decide (imm < (-2147483648))) with h20 | h20
   ·exact (o56 (d := .bool false) (E6 ++ [tC (nt (andF (y := decide (imm ≤ 2147483647)) (leL (-2147483648) h20)))]) (by kernel_rfl)).to (by clear E1 E2 E3 E4 E5 E6; (try simp only [sl0, wk, wkL, wkO, eqCells, eqCell, mayX, regM, mayS, longM, widthM, jumpM, ccM] at *); (simp [wk, wkL, wkO, eqCells, eqCell, mayX, regM, mayS, longM, widthM, jumpM, ccM, *]; omega))
   rcases bft (decide (imm < 2147483648)) with h21 | h21
   ·let E7 : EL := E6 ++ [tC (nt (andT (leL (-2147483648) h20) (leC 2147483647 h21)))]
    by_cases h22 : w = 32
    ·subst h22
     exact (o56 (d := .bool true) (E7 ++ [tF, tF, tF, tT, tF, tF, tF, tF, tF, tT] ++ List.replicate 10 tF) (by kernel_rfl)).to (by clear E1 E2 E3 E4 E5 E6 E7; (try simp only [sl0, wk, wkL, wkO, eqCells, eqCell, mayX, regM, mayS, longM, widthM, jumpM, ccM] at *); (rw [Bool.eq_iff_iff]; simp [wk, wkL, wkO, eqCells, eqCell, mayX, regM, mayS, longM, widthM, jumpM, ccM, *]; grind))
    let E8 : EL := E7 ++ List.replicate 3 (tC (eF (neOf h22))) ++ [tC (neOf h22)] ++ List.replicate 4 (tC (eF (neOf h22)))
    by_cases h23 : w = 8
    ·subst h23
     have c24 := @within_ok imm (-128) 127
     exact (o56 (d := .bool true) (E8 ++ [tT, tT, tT, .ret _ _ _ c24, tT, tT] ++ List.replicate 11 tF) (by kernel_rfl)).to (by clear E1 E2 E3 E4 E5 E6 E7 E8; (try simp only [sl0, wk, wkL, wkO, eqCells, eqCell, mayX, regM, mayS, longM, widthM, jumpM, ccM] at *); (rw [Bool.eq_iff_iff]; simp [wk, wkL, wkO, eqCells, eqCell, mayX, regM, mayS, longM, widthM, jumpM, ccM, *]; grind))
    exact (o56 (d := .bool true) (E8 ++ List.replicate 3 (tC (eT (neOf h23))) ++ [tC (eF (neOf h22)), tC (neOf h23), tC (neOf h22)] ++ List.replicate 10 tF) (by kernel_rfl)).to (by clear E1 E2 E3 E4 E5 E6 E7 E8; (try simp only [sl0, wk, wkL, wkO, eqCells, eqCell, mayX, regM, mayS, longM, widthM, jumpM, ccM] at *); (rw [Bool.eq_iff_iff]; simp [wk, wkL, wkO, eqCells, eqCell, mayX, regM, mayS, longM, widthM, jumpM, ccM, *]; grind))
   exact (o56 (d := .bool false) (E6 ++ [tC (nt (andT (leL (-2147483648) h20) (leC 2147483647 h21)))]) (by kernel_rfl)).to (by clear E1 E2 E3 E4 E5 E6; (try simp only [sl0, wk, wkL, wkO, eqCells, eqCell, mayX, regM, mayS, longM, widthM, jumpM, ccM] at *); (simp [wk, wkL, wkO, eqCells, eqCell, mayX, regM, mayS, longM, widthM, jumpM, ccM, *]; omega))
  exact (o56 (d := .bool false) (E5 ++ List.replicate 4 (tC (eF (nt (andT (leL (-2147483648) h17) (leC 2147483647 h18))))) ++ [tC (nt (andT (leL (-2147483648) h17) (leC 2147483647 h18))), tT]) (by kernel_rfl)).to (by clear E1 E2 E3 E4 E5; (try simp only [sl0, wk, wkL, wkO, eqCells, eqCell, mayX, regM, mayS, longM, widthM, jumpM, ccM] at *); (simp [wk, wkL, wkO, eqCells, eqCell, mayX, regM, mayS, longM, widthM, jumpM, ccM, *]; omega))
 exact (o56 (d := .bool false) (E1 ++ List.replicate 4 (tC (eF (nt h6))) ++ [tC (nt h6), tF, tF, tF, tF, tT, tF, tF, tF, tF, tT, tF, tF, tF, tF, tT, tF, tF, tF, tF, tT, tT]) (by kernel_rfl)).to (by clear E1; (try simp only [sl0, wk, wkL, wkO, eqCells, eqCell, mayX, regM, mayS, longM, widthM, jumpM, ccM] at *); (rw [Bool.eq_iff_iff]; simp [wk, wkL, wkO, eqCells, eqCell, mayX, regM, mayS, longM, widthM, jumpM, ccM, *]; grind))
end Go.Proofs.Ytcngafhpodeenaa

namespace Go.Proofs.Ytcngafhpodeenaa
open Go Go.Ev
theorem shape_range : ∀ n : Fin 32, shapeM (n.val : Int) = 1 ∨ shapeM (n.val : Int) = 2 ∨ shapeM (n.val : Int) = 3 ∨ shapeM (n.val : Int) = 4 ∨ shapeM (n.val : Int) = 5 ∨ shapeM (n.val : Int) = 6 ∨ shapeM (n.val : Int) = 7 ∨ shapeM (n.val : Int) = 8 ∨ shapeM (n.val : Int) = 9 ∨ shapeM (n.val : Int) = 10 ∨ shapeM (n.val : Int) = 11 := by decide +kernel
theorem mayX_ok (op w dst src base disp imm cc : Int) (ho : op ≤ 127) : Ret Try.prog 56 [xD op w dst src base disp imm cc] (.bool (mayX op w dst src base disp imm cc)) := by
 by_cases hin : 0 ≤ op ∧ op ≤ 31
 ·have e : op = (((⟨op.toNat, by omega⟩ : Fin 32).val : Nat) : Int) := by simp; omega
  have hr := shape_range ⟨op.toNat, by omega⟩
  rw [← e] at hr
  have hin' : decide (0 ≤ op ∧ op ≤ 31) = true := decide_eq_true hin
  rcases hr with h | h | h | h | h | h | h | h | h | h | h
  ·exact mayX_1_ok _ _ _ _ _ _ _ _ ho (by rw [h]; rfl) hin'
  ·exact mayX_2_ok _ _ _ _ _ _ _ _ ho (by rw [h]; rfl) hin'
  ·exact mayX_3_ok _ _ _ _ _ _ _ _ ho (by rw [h]; rfl) hin'
  ·exact mayX_4_ok _ _ _ _ _ _ _ _ ho (by rw [h]; rfl) hin'
  ·exact mayX_5_ok _ _ _ _ _ _ _ _ ho (by rw [h]; rfl) hin'
  ·exact mayX_6_ok _ _ _ _ _ _ _ _ ho (by rw [h]; rfl) hin'
  ·exact mayX_7_ok _ _ _ _ _ _ _ _ ho (by rw [h]; rfl) hin'
  ·exact mayX_8_ok _ _ _ _ _ _ _ _ ho (by rw [h]; rfl) hin'
  ·exact mayX_9_ok _ _ _ _ _ _ _ _ ho (by rw [h]; rfl) hin'
  ·exact mayX_10_ok _ _ _ _ _ _ _ _ ho (by rw [h]; rfl) hin'
  ·exact mayX_11_ok _ _ _ _ _ _ _ _ ho (by rw [h]; rfl) hin'
 ·exact mayX_0_ok _ _ _ _ _ _ _ _ ho (by rw [(shape_none (op := op) (by omega)).1]; rfl) (decide_eq_false hin)
end Go.Proofs.Ytcngafhpodeenaa

namespace Go.Proofs.Ytcngafhpodeenaa
open Go Go.Ev
set_option maxRecDepth 100000
set_option maxHeartbeats 8000000
theorem set1_ok (a : Int) (a0 : 0 ≤ a) (a1 : a ≤ 15) : Ret Try.prog 188 ([.lst .tight 1 [.int .i8 a]]) (.int .i64 (sh8 a)) := by
 exact (o188 (d := D.int IntKind.i64 (IntKind.wrap IntKind.i64 (↑(BitVec.toNat (BitVec.ofInt (64 : Nat) 0 ||| BitVec.ofInt (64 : Nat) (IntKind.wrap IntKind.i64 (1 * 2 ^ min (Int.toNat a) (64 : Nat))))) : Int))) [.go 64, tT, tT, .get ([D.int IntKind.i8 a]) 0 (D.int IntKind.i8 a) rfl, tC (v := true) (leL 0 (decide_eq_false (Int.not_lt.2 a0))), tF] (by kernel_rfl)).to (by simp only [wk, D.int.injEq, true_and]; obtain ⟨n_a, rfl⟩ := fin16 a0 a1; clear a0 a1; revert n_a; decide +kernel)
theorem set2_ok (a : Int) (a0 : 0 ≤ a) (a1 : a ≤ 15) (b : Int) (b0 : 0 ≤ b) (b1 : b ≤ 15) : Ret Try.prog 188 ([.lst .tight 1 [.int .i8 a, .int .i8 b]]) (.int .i64 (or64 (sh8 a) (sh8 b))) := by
 exact (o188 (d := D.int IntKind.i64 (IntKind.wrap IntKind.i64 (↑(BitVec.toNat (BitVec.ofInt (64 : Nat) (IntKind.wrap IntKind.i64 (↑(BitVec.toNat (BitVec.ofInt (64 : Nat) 0 ||| BitVec.ofInt (64 : Nat) (IntKind.wrap IntKind.i64 (1 * 2 ^ min (Int.toNat a) (64 : Nat))))) : Int)) ||| BitVec.ofInt (64 : Nat) (IntKind.wrap IntKind.i64 (1 * 2 ^ min (Int.toNat b) (64 : Nat))))) : Int))) [.go 64, tT, tT, .get ([D.int IntKind.i8 a, D.int IntKind.i8 b]) 0 (D.int IntKind.i8 a) rfl, tC (v := true) (leL 0 (decide_eq_false (Int.not_lt.2 a0))), tT, tT, .get ([D.int IntKind.i8 a, D.int IntKind.i8 b]) 1 (D.int IntKind.i8 b) rfl, tC (v := true) (leL 0 (decide_eq_false (Int.not_lt.2 b0))), tF] (by kernel_rfl)).to (by simp only [wk, D.int.injEq, true_and]; obtain ⟨n_a, rfl⟩ := fin16 a0 a1; obtain ⟨n_b, rfl⟩ := fin16 b0 b1; clear a0 a1 b0 b1; revert n_a n_b; decide +kernel)
theorem set3_ok (a : Int) (a0 : 0 ≤ a) (a1 : a ≤ 15) : Ret Try.prog 188 ([.lst .tight 1 [.int .i8 a, .int .i8 0, .int .i8 2]]) (.int .i64 (or64 (or64 (sh8 a) (sh8 0)) (sh8 2))) := by
 exact (o188 (d := D.int IntKind.i64 (IntKind.wrap IntKind.i64 (↑(BitVec.toNat (BitVec.ofInt (64 : Nat) (IntKind.wrap IntKind.i64 (↑(BitVec.toNat (BitVec.ofInt (64 : Nat) (IntKind.wrap IntKind.i64 (↑(BitVec.toNat (BitVec.ofInt (64 : Nat) 0 ||| BitVec.ofInt (64 : Nat) (IntKind.wrap IntKind.i64 (1 * 2 ^ min (Int.toNat a) (64 : Nat))))) : Int)) ||| BitVec.ofInt (64 : Nat) 1)) : Int)) ||| BitVec.ofInt (64 : Nat) 4)) : Int))) [.go 64, tT, tT, .get ([D.int IntKind.i8 a, D.int IntKind.i8 0, D.int IntKind.i8 2]) 0 (D.int IntKind.i8 a) rfl, tC (v := true) (leL 0 (decide_eq_false (Int.not_lt.2 a0))), tT, tT, .get ([D.int IntKind.i8 a, D.int IntKind.i8 0, D.int IntKind.i8 2]) 1 (D.int IntKind.i8 0) rfl, tT, tT, tT, .get ([D.int IntKind.i8 a, D.int IntKind.i8 0, D.int IntKind.i8 2]) 2 (D.int IntKind.i8 2) rfl, tT, tF] (by kernel_rfl)).to (by simp only [wk, D.int.injEq, true_and]; obtain ⟨n_a, rfl⟩ := fin16 a0 a1; clear a0 a1; revert n_a; decide +kernel)
end Go.Proofs.Ytcngafhpodeenaa

namespace Go.Proofs.Ytcngafhpodeenaa
open Go Go.Ev
set_option maxRecDepth 100000
set_option maxHeartbeats 8000000
def SpXS20 (k0_ : Int) : Prop := ∀ (w dst src base disp imm cc : Int) (d0 : 0 ≤ dst) (d1 : dst ≤ 15) (s0 : 0 ≤ src) (s1 : src ≤ 15) (b0 : 0 ≤ base) (b1 : base ≤ 15) (hm : mayX k0_ w dst src base disp imm cc = true), Ret Try.prog 165 ([xD k0_ w dst src base disp imm cc]) (.int .i64 (readsX k0_ dst src base))
theorem reads_0_ok : SpXS20 0 := by
 intro w dst src base disp imm cc d0 d1 s0 s1 b0 b1 hm
 have c0 := @mayX_ok 0 w dst src base disp imm cc (by decide)
 rw [hm] at c0
 have c1 := @of_any_ok 0 (by decide)
 have c2 := @set1_ok src s0 s1
 exact (o165 (d := .int .i64 (sh8 src)) [.ret _ _ _ c0, tF, .ret _ _ _ c1, tT, tT, tT, .ret _ _ _ c2] (by kernel_rfl)).to (by rfl)
theorem reads_1_ok : SpXS20 1 := by
 intro w dst src base disp imm cc d0 d1 s0 s1 b0 b1 hm
 have c0 := @mayX_ok 1 w dst src base disp imm cc (by decide)
 rw [hm] at c0
 have c1 := @of_any_ok 1 (by decide)
 exact (o165 (d := .int .i64 0) [.ret _ _ _ c0, tF, .ret _ _ _ c1, tF, tF, tF, tT, tT, tT] (by kernel_rfl)).to (by rfl)
theorem reads_2_ok : SpXS20 2 := by
 intro w dst src base disp imm cc d0 d1 s0 s1 b0 b1 hm
 have c0 := @mayX_ok 2 w dst src base disp imm cc (by decide)
 rw [hm] at c0
 have c1 := @of_any_ok 2 (by decide)
 have c2 := @set2_ok dst d0 d1 src s0 s1
 exact (o165 (d := .int .i64 (or64 (sh8 dst) (sh8 src))) [.ret _ _ _ c0, tF, .ret _ _ _ c1, tT, tT, tF, .ret _ _ _ c2] (by kernel_rfl)).to (by rfl)
theorem reads_3_ok : SpXS20 3 := by
 intro w dst src base disp imm cc d0 d1 s0 s1 b0 b1 hm
 have c0 := @mayX_ok 3 w dst src base disp imm cc (by decide)
 rw [hm] at c0
 have c1 := @of_any_ok 3 (by decide)
 have c2 := @set2_ok dst d0 d1 src s0 s1
 exact (o165 (d := .int .i64 (or64 (sh8 dst) (sh8 src))) [.ret _ _ _ c0, tF, .ret _ _ _ c1, tT, tT, tF, .ret _ _ _ c2] (by kernel_rfl)).to (by rfl)
theorem reads_4_ok : SpXS20 4 := by
 intro w dst src base disp imm cc d0 d1 s0 s1 b0 b1 hm
 have c0 := @mayX_ok 4 w dst src base disp imm cc (by decide)
 rw [hm] at c0
 have c1 := @of_any_ok 4 (by decide)
 have c2 := @set2_ok dst d0 d1 src s0 s1
 exact (o165 (d := .int .i64 (or64 (sh8 dst) (sh8 src))) [.ret _ _ _ c0, tF, .ret _ _ _ c1, tT, tT, tF, .ret _ _ _ c2] (by kernel_rfl)).to (by rfl)
theorem reads_5_ok : SpXS20 5 := by
 intro w dst src base disp imm cc d0 d1 s0 s1 b0 b1 hm
 have c0 := @mayX_ok 5 w dst src base disp imm cc (by decide)
 rw [hm] at c0
 have c1 := @of_any_ok 5 (by decide)
 have c2 := @set2_ok dst d0 d1 src s0 s1
 exact (o165 (d := .int .i64 (or64 (sh8 dst) (sh8 src))) [.ret _ _ _ c0, tF, .ret _ _ _ c1, tT, tT, tF, .ret _ _ _ c2] (by kernel_rfl)).to (by rfl)
theorem reads_6_ok : SpXS20 6 := by
 intro w dst src base disp imm cc d0 d1 s0 s1 b0 b1 hm
 have c0 := @mayX_ok 6 w dst src base disp imm cc (by decide)
 rw [hm] at c0
 have c1 := @of_any_ok 6 (by decide)
 have c2 := @set2_ok dst d0 d1 src s0 s1
 exact (o165 (d := .int .i64 (or64 (sh8 dst) (sh8 src))) [.ret _ _ _ c0, tF, .ret _ _ _ c1, tT, tT, tF, .ret _ _ _ c2] (by kernel_rfl)).to (by rfl)
theorem reads_7_ok : SpXS20 7 := by
 intro w dst src base disp imm cc d0 d1 s0 s1 b0 b1 hm
 have c0 := @mayX_ok 7 w dst src base disp imm cc (by decide)
 rw [hm] at c0
 have c1 := @of_any_ok 7 (by decide)
 have c2 := @set2_ok dst d0 d1 src s0 s1
 exact (o165 (d := .int .i64 (or64 (sh8 dst) (sh8 src))) [.ret _ _ _ c0, tF, .ret _ _ _ c1, tT, tT, tF, .ret _ _ _ c2] (by kernel_rfl)).to (by rfl)
theorem reads_8_ok : SpXS20 8 := by
 intro w dst src base disp imm cc d0 d1 s0 s1 b0 b1 hm
 have c0 := @mayX_ok 8 w dst src base disp imm cc (by decide)
 rw [hm] at c0
 have c1 := @of_any_ok 8 (by decide)
 have c2 := @set2_ok dst d0 d1 src s0 s1
 exact (o165 (d := .int .i64 (or64 (sh8 dst) (sh8 src))) [.ret _ _ _ c0, tF, .ret _ _ _ c1, tT, tT, tF, .ret _ _ _ c2] (by kernel_rfl)).to (by rfl)
theorem reads_9_ok : SpXS20 9 := by
 intro w dst src base disp imm cc d0 d1 s0 s1 b0 b1 hm
 have c0 := @mayX_ok 9 w dst src base disp imm cc (by decide)
 rw [hm] at c0
 have c1 := @of_any_ok 9 (by decide)
 have c2 := @set1_ok dst d0 d1
 exact (o165 (d := .int .i64 (sh8 dst)) [.ret _ _ _ c0, tF, .ret _ _ _ c1, tF, tF, tF, tT, tT, tF, .ret _ _ _ c2] (by kernel_rfl)).to (by rfl)
theorem reads_10_ok : SpXS20 10 := by
 intro w dst src base disp imm cc d0 d1 s0 s1 b0 b1 hm
 have c0 := @mayX_ok 10 w dst src base disp imm cc (by decide)
 rw [hm] at c0
 have c1 := @of_any_ok 10 (by decide)
 have c2 := @set1_ok dst d0 d1
 exact (o165 (d := .int .i64 (sh8 dst)) [.ret _ _ _ c0, tF, .ret _ _ _ c1, tF, tF, tF, tT, tT, tF, .ret _ _ _ c2] (by kernel_rfl)).to (by rfl)
theorem reads_11_ok : SpXS20 11 := by
 intro w dst src base disp imm cc d0 d1 s0 s1 b0 b1 hm
 have c0 := @mayX_ok 11 w dst src base disp imm cc (by decide)
 rw [hm] at c0
 have c1 := @of_any_ok 11 (by decide)
 have c2 := @set1_ok dst d0 d1
 exact (o165 (d := .int .i64 (sh8 dst)) [.ret _ _ _ c0, tF, .ret _ _ _ c1, tF, tF, tF, tT, tT, tF, .ret _ _ _ c2] (by kernel_rfl)).to (by rfl)
theorem reads_12_ok : SpXS20 12 := by
 intro w dst src base disp imm cc d0 d1 s0 s1 b0 b1 hm
 have c0 := @mayX_ok 12 w dst src base disp imm cc (by decide)
 rw [hm] at c0
 have c1 := @of_any_ok 12 (by decide)
 have c2 := @set1_ok dst d0 d1
 exact (o165 (d := .int .i64 (sh8 dst)) [.ret _ _ _ c0, tF, .ret _ _ _ c1, tF, tF, tF, tT, tT, tF, .ret _ _ _ c2] (by kernel_rfl)).to (by rfl)
theorem reads_13_ok : SpXS20 13 := by
 intro w dst src base disp imm cc d0 d1 s0 s1 b0 b1 hm
 have c0 := @mayX_ok 13 w dst src base disp imm cc (by decide)
 rw [hm] at c0
 have c1 := @of_any_ok 13 (by decide)
 have c2 := @set1_ok dst d0 d1
 exact (o165 (d := .int .i64 (sh8 dst)) [.ret _ _ _ c0, tF, .ret _ _ _ c1, tF, tF, tF, tT, tT, tF, .ret _ _ _ c2] (by kernel_rfl)).to (by rfl)
theorem reads_14_ok : SpXS20 14 := by
 intro w dst src base disp imm cc d0 d1 s0 s1 b0 b1 hm
 have c0 := @mayX_ok 14 w dst src base disp imm cc (by decide)
 rw [hm] at c0
 have c1 := @of_any_ok 14 (by decide)
 have c2 := @set1_ok dst d0 d1
 exact (o165 (d := .int .i64 (sh8 dst)) [.ret _ _ _ c0, tF, .ret _ _ _ c1, tF, tF, tF, tT, tT, tF, .ret _ _ _ c2] (by kernel_rfl)).to (by rfl)
theorem reads_15_ok : SpXS20 15 := by
 intro w dst src base disp imm cc d0 d1 s0 s1 b0 b1 hm
 have c0 := @mayX_ok 15 w dst src base disp imm cc (by decide)
 rw [hm] at c0
 have c1 := @of_any_ok 15 (by decide)
 have c2 := @set1_ok dst d0 d1
 exact (o165 (d := .int .i64 (sh8 dst)) [.ret _ _ _ c0, tF, .ret _ _ _ c1, tF, tF, tF, tT, tT, tF, .ret _ _ _ c2] (by kernel_rfl)).to (by rfl)
theorem reads_16_ok : SpXS20 16 := by
 intro w dst src base disp imm cc d0 d1 s0 s1 b0 b1 hm
 have c0 := @mayX_ok 16 w dst src base disp imm cc (by decide)
 rw [hm] at c0
 have c1 := @of_any_ok 16 (by decide)
 have c2 := @set2_ok dst d0 d1 src s0 s1
 exact (o165 (d := .int .i64 (or64 (sh8 dst) (sh8 src))) [.ret _ _ _ c0, tF, .ret _ _ _ c1, tF, tT, tT, tF, .ret _ _ _ c2] (by kernel_rfl)).to (by rfl)
theorem reads_17_ok : SpXS20 17 := by
 intro w dst src base disp imm cc d0 d1 s0 s1 b0 b1 hm
 have c0 := @mayX_ok 17 w dst src base disp imm cc (by decide)
 rw [hm] at c0
 have c1 := @of_any_ok 17 (by decide)
 have c2 := @set1_ok dst d0 d1
 exact (o165 (d := .int .i64 (sh8 dst)) [.ret _ _ _ c0, tF, .ret _ _ _ c1, tF, tF, tF, tF, tT, tF, .ret _ _ _ c2] (by kernel_rfl)).to (by rfl)
theorem reads_18_ok : SpXS20 18 := by
 intro w dst src base disp imm cc d0 d1 s0 s1 b0 b1 hm
 have c0 := @mayX_ok 18 w dst src base disp imm cc (by decide)
 rw [hm] at c0
 have c1 := @of_any_ok 18 (by decide)
 have c2 := @set1_ok dst d0 d1
 exact (o165 (d := .int .i64 (sh8 dst)) [.ret _ _ _ c0, tF, .ret _ _ _ c1, tF, tF, tF, tF, tT, tF, .ret _ _ _ c2] (by kernel_rfl)).to (by rfl)
theorem reads_19_ok : SpXS20 19 := by
 intro w dst src base disp imm cc d0 d1 s0 s1 b0 b1 hm
 have c0 := @mayX_ok 19 w dst src base disp imm cc (by decide)
 rw [hm] at c0
 have c1 := @of_any_ok 19 (by decide)
 have c2 := @set1_ok dst d0 d1
 exact (o165 (d := .int .i64 (sh8 dst)) [.ret _ _ _ c0, tF, .ret _ _ _ c1, tF, tF, tF, tF, tT, tF, .ret _ _ _ c2] (by kernel_rfl)).to (by rfl)
theorem reads_20_ok : SpXS20 20 := by
 intro w dst src base disp imm cc d0 d1 s0 s1 b0 b1 hm
 have c0 := @mayX_ok 20 w dst src base disp imm cc (by decide)
 rw [hm] at c0
 have c1 := @of_any_ok 20 (by decide)
 have c2 := @set2_ok dst d0 d1 1 (by decide) (by decide)
 exact (o165 (d := .int .i64 (or64 (sh8 dst) 2)) [.ret _ _ _ c0, tF, .ret _ _ _ c1, tF, tF, tF, tF, tF, tT, tF, tF, .ret _ _ _ c2] (by kernel_rfl)).to (by rfl)
theorem reads_21_ok : SpXS20 21 := by
 intro w dst src base disp imm cc d0 d1 s0 s1 b0 b1 hm
 have c0 := @mayX_ok 21 w dst src base disp imm cc (by decide)
 rw [hm] at c0
 have c1 := @of_any_ok 21 (by decide)
 have c2 := @set2_ok dst d0 d1 1 (by decide) (by decide)
 exact (o165 (d := .int .i64 (or64 (sh8 dst) 2)) [.ret _ _ _ c0, tF, .ret _ _ _ c1, tF, tF, tF, tF, tF, tT, tF, tF, .ret _ _ _ c2] (by kernel_rfl)).to (by rfl)
theorem reads_22_ok : SpXS20 22 := by
 intro w dst src base disp imm cc d0 d1 s0 s1 b0 b1 hm
 have c0 := @mayX_ok 22 w dst src base disp imm cc (by decide)
 rw [hm] at c0
 have c1 := @of_any_ok 22 (by decide)
 have c2 := @set2_ok dst d0 d1 1 (by decide) (by decide)
 exact (o165 (d := .int .i64 (or64 (sh8 dst) 2)) [.ret _ _ _ c0, tF, .ret _ _ _ c1, tF, tF, tF, tF, tF, tT, tF, tF, .ret _ _ _ c2] (by kernel_rfl)).to (by rfl)
theorem reads_23_ok : SpXS20 23 := by
 intro w dst src base disp imm cc d0 d1 s0 s1 b0 b1 hm
 have c0 := @mayX_ok 23 w dst src base disp imm cc (by decide)
 rw [hm] at c0
 have c1 := @of_any_ok 23 (by decide)
 have c2 := @set1_ok dst d0 d1
 exact (o165 (d := .int .i64 (sh8 dst)) [.ret _ _ _ c0, tF, .ret _ _ _ c1, tF, tF, tF, tF, tF, tT, tT, .ret _ _ _ c2] (by kernel_rfl)).to (by rfl)
theorem reads_24_ok : SpXS20 24 := by
 intro w dst src base disp imm cc d0 d1 s0 s1 b0 b1 hm
 have c0 := @mayX_ok 24 w dst src base disp imm cc (by decide)
 rw [hm] at c0
 have c1 := @of_any_ok 24 (by decide)
 have c2 := @set3_ok dst d0 d1
 exact (o165 (d := .int .i64 (or64 (or64 (sh8 dst) 1) 4)) [.ret _ _ _ c0, tF, .ret _ _ _ c1, tF, tF, tF, tF, tF, tT, tF, tT, .ret _ _ _ c2] (by kernel_rfl)).to (by rfl)
theorem reads_25_ok : SpXS20 25 := by
 intro w dst src base disp imm cc d0 d1 s0 s1 b0 b1 hm
 have c0 := @mayX_ok 25 w dst src base disp imm cc (by decide)
 rw [hm] at c0
 have c1 := @of_any_ok 25 (by decide)
 have c2 := @set2_ok dst d0 d1 src s0 s1
 exact (o165 (d := .int .i64 (or64 (sh8 dst) (sh8 src))) [.ret _ _ _ c0, tF, .ret _ _ _ c1, tF, tF, tT, tF, .ret _ _ _ c2] (by kernel_rfl)).to (by rfl)
theorem reads_26_ok : SpXS20 26 := by
 intro w dst src base disp imm cc d0 d1 s0 s1 b0 b1 hm
 have c0 := @mayX_ok 26 w dst src base disp imm cc (by decide)
 rw [hm] at c0
 have c1 := @of_any_ok 26 (by decide)
 have c2 := @set1_ok base b0 b1
 exact (o165 (d := .int .i64 (sh8 base)) [.ret _ _ _ c0, tF, .ret _ _ _ c1, tF, tF, tF, tF, tF, tF, tT, .ret _ _ _ c2] (by kernel_rfl)).to (by rfl)
theorem reads_27_ok : SpXS20 27 := by
 intro w dst src base disp imm cc d0 d1 s0 s1 b0 b1 hm
 have c0 := @mayX_ok 27 w dst src base disp imm cc (by decide)
 rw [hm] at c0
 have c1 := @of_any_ok 27 (by decide)
 have c2 := @set2_ok base b0 b1 src s0 s1
 exact (o165 (d := .int .i64 (or64 (sh8 base) (sh8 src))) [.ret _ _ _ c0, tF, .ret _ _ _ c1, tF, tF, tF, tF, tF, tF, tF, tT, .ret _ _ _ c2] (by kernel_rfl)).to (by rfl)
theorem reads_28_ok : SpXS20 28 := by
 intro w dst src base disp imm cc d0 d1 s0 s1 b0 b1 hm
 have c0 := @mayX_ok 28 w dst src base disp imm cc (by decide)
 rw [hm] at c0
 have c1 := @of_any_ok 28 (by decide)
 exact (o165 (d := .int .i64 0) ([.ret _ _ _ c0, tF, .ret _ _ _ c1] ++ List.replicate 9 tF) (by kernel_rfl)).to (by rfl)
theorem reads_29_ok : SpXS20 29 := by
 intro w dst src base disp imm cc d0 d1 s0 s1 b0 b1 hm
 have c0 := @mayX_ok 29 w dst src base disp imm cc (by decide)
 rw [hm] at c0
 have c1 := @of_any_ok 29 (by decide)
 exact (o165 (d := .int .i64 0) ([.ret _ _ _ c0, tF, .ret _ _ _ c1] ++ List.replicate 9 tF) (by kernel_rfl)).to (by rfl)
theorem reads_30_ok : SpXS20 30 := by
 intro w dst src base disp imm cc d0 d1 s0 s1 b0 b1 hm
 have c0 := @mayX_ok 30 w dst src base disp imm cc (by decide)
 rw [hm] at c0
 have c1 := @of_any_ok 30 (by decide)
 have c2 := @set2_ok 4 (by decide) (by decide) 0 (by decide) (by decide)
 exact (o165 (d := .int .i64 17) ([.ret _ _ _ c0, tF, .ret _ _ _ c1] ++ List.replicate 8 tF ++ [tT, tT, .ret _ _ _ c2]) (by kernel_rfl)).to (by rfl)
theorem reads_31_ok : SpXS20 31 := by
 intro w dst src base disp imm cc d0 d1 s0 s1 b0 b1 hm
 have c0 := @mayX_ok 31 w dst src base disp imm cc (by decide)
 rw [hm] at c0
 have c1 := @of_any_ok 31 (by decide)
 exact (o165 (d := .int .i64 1477) ([.ret _ _ _ c0, tF, .ret _ _ _ c1] ++ List.replicate 8 tF ++ [tT, tF, .inl, .go 64, tT, tT, .get ([.int .i8 0, .int .i8 7, .int .i8 6, .int .i8 2, .int .i8 10, .int .i8 8]) 0 (.int .i8 0) rfl, tT, tT, tT, .get ([.int .i8 0, .int .i8 7, .int .i8 6, .int .i8 2, .int .i8 10, .int .i8 8]) 1 (.int .i8 7) rfl, tT, tT, tT, .get ([.int .i8 0, .int .i8 7, .int .i8 6, .int .i8 2, .int .i8 10, .int .i8 8]) 2 (.int .i8 6) rfl, tT, tT, tT, .get ([.int .i8 0, .int .i8 7, .int .i8 6, .int .i8 2, .int .i8 10, .int .i8 8]) 3 (.int .i8 2) rfl, tT, tT, tT, .get ([.int .i8 0, .int .i8 7, .int .i8 6, .int .i8 2, .int .i8 10, .int .i8 8]) 4 (.int .i8 10) rfl, tT, tT, tT, .get ([.int .i8 0, .int .i8 7, .int .i8 6, .int .i8 2, .int .i8 10, .int .i8 8]) 5 (.int .i8 8) rfl, tT, tF]) (by kernel_rfl)).to (by rfl)
theorem reads_no_ok (op w dst src base disp imm cc : Int) (ho : op ≤ 127) (hm : mayX op w dst src base disp imm cc = false) : Ret Try.prog 165 ([xD op w dst src base disp imm cc]) (.int .i64 0) := by
 have c0 := @mayX_ok op w dst src base disp imm cc ho
 rw [hm] at c0
 exact (o165 (d := .int .i64 0) [.ret _ _ _ c0, tT] (by kernel_rfl)).to (by simp [wk])
def SpXS21 (k0_ : Int) : Prop := ∀ (w dst src base disp imm cc : Int) (d0 : 0 ≤ dst) (d1 : dst ≤ 15) (s0 : 0 ≤ src) (s1 : src ≤ 15) (b0 : 0 ≤ base) (b1 : base ≤ 15) (hm : mayX k0_ w dst src base disp imm cc = true), Ret Try.prog 166 ([xD k0_ w dst src base disp imm cc]) (.int .i64 (writesX k0_ dst))
theorem writes_0_ok : SpXS21 0 := by
 intro w dst src base disp imm cc d0 d1 s0 s1 b0 b1 hm
 have c0 := @mayX_ok 0 w dst src base disp imm cc (by decide)
 rw [hm] at c0
 have c1 := @set1_ok dst d0 d1
 exact (o166 (d := .int .i64 (sh8 dst)) ([.ret _ _ _ c0] ++ List.replicate 11 tF ++ [.ret _ _ _ c1]) (by kernel_rfl)).to (by rfl)
theorem writes_1_ok : SpXS21 1 := by
 intro w dst src base disp imm cc d0 d1 s0 s1 b0 b1 hm
 have c0 := @mayX_ok 1 w dst src base disp imm cc (by decide)
 rw [hm] at c0
 have c1 := @set1_ok dst d0 d1
 exact (o166 (d := .int .i64 (sh8 dst)) ([.ret _ _ _ c0] ++ List.replicate 11 tF ++ [.ret _ _ _ c1]) (by kernel_rfl)).to (by rfl)
theorem writes_2_ok : SpXS21 2 := by
 intro w dst src base disp imm cc d0 d1 s0 s1 b0 b1 hm
 have c0 := @mayX_ok 2 w dst src base disp imm cc (by decide)
 rw [hm] at c0
 have c1 := @set1_ok dst d0 d1
 exact (o166 (d := .int .i64 (sh8 dst)) ([.ret _ _ _ c0] ++ List.replicate 11 tF ++ [.ret _ _ _ c1]) (by kernel_rfl)).to (by rfl)
theorem writes_3_ok : SpXS21 3 := by
 intro w dst src base disp imm cc d0 d1 s0 s1 b0 b1 hm
 have c0 := @mayX_ok 3 w dst src base disp imm cc (by decide)
 rw [hm] at c0
 have c1 := @set1_ok dst d0 d1
 exact (o166 (d := .int .i64 (sh8 dst)) ([.ret _ _ _ c0] ++ List.replicate 11 tF ++ [.ret _ _ _ c1]) (by kernel_rfl)).to (by rfl)
theorem writes_4_ok : SpXS21 4 := by
 intro w dst src base disp imm cc d0 d1 s0 s1 b0 b1 hm
 have c0 := @mayX_ok 4 w dst src base disp imm cc (by decide)
 rw [hm] at c0
 have c1 := @set1_ok dst d0 d1
 exact (o166 (d := .int .i64 (sh8 dst)) ([.ret _ _ _ c0] ++ List.replicate 11 tF ++ [.ret _ _ _ c1]) (by kernel_rfl)).to (by rfl)
theorem writes_5_ok : SpXS21 5 := by
 intro w dst src base disp imm cc d0 d1 s0 s1 b0 b1 hm
 have c0 := @mayX_ok 5 w dst src base disp imm cc (by decide)
 rw [hm] at c0
 have c1 := @set1_ok dst d0 d1
 exact (o166 (d := .int .i64 (sh8 dst)) ([.ret _ _ _ c0] ++ List.replicate 11 tF ++ [.ret _ _ _ c1]) (by kernel_rfl)).to (by rfl)
theorem writes_6_ok : SpXS21 6 := by
 intro w dst src base disp imm cc d0 d1 s0 s1 b0 b1 hm
 have c0 := @mayX_ok 6 w dst src base disp imm cc (by decide)
 rw [hm] at c0
 have c1 := @set1_ok dst d0 d1
 exact (o166 (d := .int .i64 (sh8 dst)) ([.ret _ _ _ c0] ++ List.replicate 11 tF ++ [.ret _ _ _ c1]) (by kernel_rfl)).to (by rfl)
theorem writes_7_ok : SpXS21 7 := by
 intro w dst src base disp imm cc d0 d1 s0 s1 b0 b1 hm
 have c0 := @mayX_ok 7 w dst src base disp imm cc (by decide)
 rw [hm] at c0
 exact (o166 (d := .int .i64 0) [.ret _ _ _ c0, tF, tT, tT] (by kernel_rfl)).to (by rfl)
theorem writes_8_ok : SpXS21 8 := by
 intro w dst src base disp imm cc d0 d1 s0 s1 b0 b1 hm
 have c0 := @mayX_ok 8 w dst src base disp imm cc (by decide)
 rw [hm] at c0
 exact (o166 (d := .int .i64 0) [.ret _ _ _ c0, tF, tF, tT, tT] (by kernel_rfl)).to (by rfl)
theorem writes_9_ok : SpXS21 9 := by
 intro w dst src base disp imm cc d0 d1 s0 s1 b0 b1 hm
 have c0 := @mayX_ok 9 w dst src base disp imm cc (by decide)
 rw [hm] at c0
 have c1 := @set1_ok dst d0 d1
 exact (o166 (d := .int .i64 (sh8 dst)) ([.ret _ _ _ c0] ++ List.replicate 11 tF ++ [.ret _ _ _ c1]) (by kernel_rfl)).to (by rfl)
theorem writes_10_ok : SpXS21 10 := by
 intro w dst src base disp imm cc d0 d1 s0 s1 b0 b1 hm
 have c0 := @mayX_ok 10 w dst src base disp imm cc (by decide)
 rw [hm] at c0
 have c1 := @set1_ok dst d0 d1
 exact (o166 (d := .int .i64 (sh8 dst)) ([.ret _ _ _ c0] ++ List.replicate 11 tF ++ [.ret _ _ _ c1]) (by kernel_rfl)).to (by rfl)
theorem writes_11_ok : SpXS21 11 := by
 intro w dst src base disp imm cc d0 d1 s0 s1 b0 b1 hm
 have c0 := @mayX_ok 11 w dst src base disp imm cc (by decide)
 rw [hm] at c0
 have c1 := @set1_ok dst d0 d1
 exact (o166 (d := .int .i64 (sh8 dst)) ([.ret _ _ _ c0] ++ List.replicate 11 tF ++ [.ret _ _ _ c1]) (by kernel_rfl)).to (by rfl)
theorem writes_12_ok : SpXS21 12 := by
 intro w dst src base disp imm cc d0 d1 s0 s1 b0 b1 hm
 have c0 := @mayX_ok 12 w dst src base disp imm cc (by decide)
 rw [hm] at c0
 have c1 := @set1_ok dst d0 d1
 exact (o166 (d := .int .i64 (sh8 dst)) ([.ret _ _ _ c0] ++ List.replicate 11 tF ++ [.ret _ _ _ c1]) (by kernel_rfl)).to (by rfl)
theorem writes_13_ok : SpXS21 13 := by
 intro w dst src base disp imm cc d0 d1 s0 s1 b0 b1 hm
 have c0 := @mayX_ok 13 w dst src base disp imm cc (by decide)
 rw [hm] at c0
 have c1 := @set1_ok dst d0 d1
 exact (o166 (d := .int .i64 (sh8 dst)) ([.ret _ _ _ c0] ++ List.replicate 11 tF ++ [.ret _ _ _ c1]) (by kernel_rfl)).to (by rfl)
theorem writes_14_ok : SpXS21 14 := by
 intro w dst src base disp imm cc d0 d1 s0 s1 b0 b1 hm
 have c0 := @mayX_ok 14 w dst src base disp imm cc (by decide)
 rw [hm] at c0
 exact (o166 (d := .int .i64 0) [.ret _ _ _ c0, tF, tF, tF, tT, tT] (by kernel_rfl)).to (by rfl)
theorem writes_15_ok : SpXS21 15 := by
 intro w dst src base disp imm cc d0 d1 s0 s1 b0 b1 hm
 have c0 := @mayX_ok 15 w dst src base disp imm cc (by decide)
 rw [hm] at c0
 exact (o166 (d := .int .i64 0) [.ret _ _ _ c0, tF, tF, tF, tF, tT, tT] (by kernel_rfl)).to (by rfl)
theorem writes_16_ok : SpXS21 16 := by
 intro w dst src base disp imm cc d0 d1 s0 s1 b0 b1 hm
 have c0 := @mayX_ok 16 w dst src base disp imm cc (by decide)
 rw [hm] at c0
 have c1 := @set1_ok dst d0 d1
 exact (o166 (d := .int .i64 (sh8 dst)) ([.ret _ _ _ c0] ++ List.replicate 11 tF ++ [.ret _ _ _ c1]) (by kernel_rfl)).to (by rfl)
theorem writes_17_ok : SpXS21 17 := by
 intro w dst src base disp imm cc d0 d1 s0 s1 b0 b1 hm
 have c0 := @mayX_ok 17 w dst src base disp imm cc (by decide)
 rw [hm] at c0
 have c1 := @set1_ok dst d0 d1
 exact (o166 (d := .int .i64 (sh8 dst)) ([.ret _ _ _ c0] ++ List.replicate 11 tF ++ [.ret _ _ _ c1]) (by kernel_rfl)).to (by rfl)
theorem writes_18_ok : SpXS21 18 := by
 intro w dst src base disp imm cc d0 d1 s0 s1 b0 b1 hm
 have c0 := @mayX_ok 18 w dst src base disp imm cc (by decide)
 rw [hm] at c0
 have c1 := @set1_ok dst d0 d1
 exact (o166 (d := .int .i64 (sh8 dst)) ([.ret _ _ _ c0] ++ List.replicate 11 tF ++ [.ret _ _ _ c1]) (by kernel_rfl)).to (by rfl)
theorem writes_19_ok : SpXS21 19 := by
 intro w dst src base disp imm cc d0 d1 s0 s1 b0 b1 hm
 have c0 := @mayX_ok 19 w dst src base disp imm cc (by decide)
 rw [hm] at c0
 have c1 := @set1_ok dst d0 d1
 exact (o166 (d := .int .i64 (sh8 dst)) ([.ret _ _ _ c0] ++ List.replicate 11 tF ++ [.ret _ _ _ c1]) (by kernel_rfl)).to (by rfl)
theorem writes_20_ok : SpXS21 20 := by
 intro w dst src base disp imm cc d0 d1 s0 s1 b0 b1 hm
 have c0 := @mayX_ok 20 w dst src base disp imm cc (by decide)
 rw [hm] at c0
 have c1 := @set1_ok dst d0 d1
 exact (o166 (d := .int .i64 (sh8 dst)) ([.ret _ _ _ c0] ++ List.replicate 11 tF ++ [.ret _ _ _ c1]) (by kernel_rfl)).to (by rfl)
theorem writes_21_ok : SpXS21 21 := by
 intro w dst src base disp imm cc d0 d1 s0 s1 b0 b1 hm
 have c0 := @mayX_ok 21 w dst src base disp imm cc (by decide)
 rw [hm] at c0
 have c1 := @set1_ok dst d0 d1
 exact (o166 (d := .int .i64 (sh8 dst)) ([.ret _ _ _ c0] ++ List.replicate 11 tF ++ [.ret _ _ _ c1]) (by kernel_rfl)).to (by rfl)
theorem writes_22_ok : SpXS21 22 := by
 intro w dst src base disp imm cc d0 d1 s0 s1 b0 b1 hm
 have c0 := @mayX_ok 22 w dst src base disp imm cc (by decide)
 rw [hm] at c0
 have c1 := @set1_ok dst d0 d1
 exact (o166 (d := .int .i64 (sh8 dst)) ([.ret _ _ _ c0] ++ List.replicate 11 tF ++ [.ret _ _ _ c1]) (by kernel_rfl)).to (by rfl)
theorem writes_23_ok : SpXS21 23 := by
 intro w dst src base disp imm cc d0 d1 s0 s1 b0 b1 hm
 have c0 := @mayX_ok 23 w dst src base disp imm cc (by decide)
 rw [hm] at c0
 have c1 := @set1_ok dst d0 d1
 exact (o166 (d := .int .i64 (sh8 dst)) ([.ret _ _ _ c0] ++ List.replicate 11 tF ++ [.ret _ _ _ c1]) (by kernel_rfl)).to (by rfl)
theorem writes_24_ok : SpXS21 24 := by
 intro w dst src base disp imm cc d0 d1 s0 s1 b0 b1 hm
 have c0 := @mayX_ok 24 w dst src base disp imm cc (by decide)
 rw [hm] at c0
 have c1 := @set2_ok 0 (by decide) (by decide) 2 (by decide) (by decide)
 exact (o166 (d := .int .i64 5) ([.ret _ _ _ c0] ++ List.replicate 8 tF ++ [tT, .ret _ _ _ c1]) (by kernel_rfl)).to (by rfl)
theorem writes_25_ok : SpXS21 25 := by
 intro w dst src base disp imm cc d0 d1 s0 s1 b0 b1 hm
 have c0 := @mayX_ok 25 w dst src base disp imm cc (by decide)
 rw [hm] at c0
 have c1 := @set1_ok dst d0 d1
 exact (o166 (d := .int .i64 (sh8 dst)) ([.ret _ _ _ c0] ++ List.replicate 11 tF ++ [.ret _ _ _ c1]) (by kernel_rfl)).to (by rfl)
theorem writes_26_ok : SpXS21 26 := by
 intro w dst src base disp imm cc d0 d1 s0 s1 b0 b1 hm
 have c0 := @mayX_ok 26 w dst src base disp imm cc (by decide)
 rw [hm] at c0
 have c1 := @set1_ok dst d0 d1
 exact (o166 (d := .int .i64 (sh8 dst)) ([.ret _ _ _ c0] ++ List.replicate 11 tF ++ [.ret _ _ _ c1]) (by kernel_rfl)).to (by rfl)
theorem writes_27_ok : SpXS21 27 := by
 intro w dst src base disp imm cc d0 d1 s0 s1 b0 b1 hm
 have c0 := @mayX_ok 27 w dst src base disp imm cc (by decide)
 rw [hm] at c0
 exact (o166 (d := .int .i64 0) [.ret _ _ _ c0, tF, tF, tF, tF, tF, tT, tT] (by kernel_rfl)).to (by rfl)
theorem writes_28_ok : SpXS21 28 := by
 intro w dst src base disp imm cc d0 d1 s0 s1 b0 b1 hm
 have c0 := @mayX_ok 28 w dst src base disp imm cc (by decide)
 rw [hm] at c0
 exact (o166 (d := .int .i64 0) [.ret _ _ _ c0, tF, tF, tF, tF, tF, tF, tT, tT] (by kernel_rfl)).to (by rfl)
theorem writes_29_ok : SpXS21 29 := by
 intro w dst src base disp imm cc d0 d1 s0 s1 b0 b1 hm
 have c0 := @mayX_ok 29 w dst src base disp imm cc (by decide)
 rw [hm] at c0
 exact (o166 (d := .int .i64 0) [.ret _ _ _ c0, tF, tF, tF, tF, tF, tF, tF, tT] (by kernel_rfl)).to (by rfl)
theorem writes_30_ok : SpXS21 30 := by
 intro w dst src base disp imm cc d0 d1 s0 s1 b0 b1 hm
 have c0 := @mayX_ok 30 w dst src base disp imm cc (by decide)
 rw [hm] at c0
 have c1 := @set1_ok 4 (by decide) (by decide)
 exact (o166 (d := .int .i64 16) ([.ret _ _ _ c0] ++ List.replicate 9 tF ++ [tT, .ret _ _ _ c1]) (by kernel_rfl)).to (by rfl)
theorem writes_31_ok : SpXS21 31 := by
 intro w dst src base disp imm cc d0 d1 s0 s1 b0 b1 hm
 have c0 := @mayX_ok 31 w dst src base disp imm cc (by decide)
 rw [hm] at c0
 exact (o166 (d := .int .i64 2051) ([.ret _ _ _ c0] ++ List.replicate 10 tF ++ [tT, .inl, .go 64, tT, tT, .get ([.int .i8 0, .int .i8 1, .int .i8 11]) 0 (.int .i8 0) rfl, tT, tT, tT, .get ([.int .i8 0, .int .i8 1, .int .i8 11]) 1 (.int .i8 1) rfl, tT, tT, tT, .get ([.int .i8 0, .int .i8 1, .int .i8 11]) 2 (.int .i8 11) rfl, tT, tF]) (by kernel_rfl)).to (by rfl)
theorem writes_no_ok (op w dst src base disp imm cc : Int) (ho : op ≤ 127) (hm : mayX op w dst src base disp imm cc = false) : Ret Try.prog 166 ([xD op w dst src base disp imm cc]) (.int .i64 0) := by
 have c0 := @mayX_ok op w dst src base disp imm cc ho
 rw [hm] at c0
 exact (o166 (d := .int .i64 0) [.ret _ _ _ c0, tT] (by kernel_rfl)).to (by simp [wk])
end Go.Proofs.Ytcngafhpodeenaa

namespace Go.Proofs.Ytcngafhpodeenaa
open Go Go.Ev
theorem mayX_sh {op w dst src base disp imm cc : Int} (h : mayX op w dst src base disp imm cc = true) : shapeM op ≠ 0 := by
 have hs := (mayX_parts h).2
 intro e
 rw [e] at hs
 simp [mayS] at hs
theorem reads_any_ok (op w dst src base disp imm cc : Int) (ho : op ≤ 127) : Ret Try.prog 165 [xD op w dst src base disp imm cc] (.int .i64 (readsXX op w dst src base disp imm cc)) := by
 unfold readsXX
 cases h : mayX op w dst src base disp imm cc
 ·simp only [Bool.false_eq_true, if_false]
  exact reads_no_ok op w dst src base disp imm cc ho h
 ·simp only [if_true]
  obtain ⟨⟨d0, d1, s0, s1, b0, b1, p0, p1, i0, i1⟩, hs⟩ := mayX_parts h
  have hsh := mayX_sh h
  clear hs
  rcases shape_ops hsh with rfl | rfl | rfl | rfl | rfl | rfl | rfl | rfl | rfl | rfl | rfl | rfl | rfl | rfl | rfl | rfl | rfl | rfl | rfl | rfl | rfl | rfl | rfl | rfl | rfl | rfl | rfl | rfl | rfl | rfl | rfl | rfl
  ·exact reads_0_ok _ _ _ _ _ _ _ d0 d1 s0 s1 b0 b1 h
  ·exact reads_1_ok _ _ _ _ _ _ _ d0 d1 s0 s1 b0 b1 h
  ·exact reads_2_ok _ _ _ _ _ _ _ d0 d1 s0 s1 b0 b1 h
  ·exact reads_3_ok _ _ _ _ _ _ _ d0 d1 s0 s1 b0 b1 h
  ·exact reads_4_ok _ _ _ _ _ _ _ d0 d1 s0 s1 b0 b1 h
  ·exact reads_5_ok _ _ _ _ _ _ _ d0 d1 s0 s1 b0 b1 h
  ·exact reads_6_ok _ _ _ _ _ _ _ d0 d1 s0 s1 b0 b1 h
  ·exact reads_7_ok _ _ _ _ _ _ _ d0 d1 s0 s1 b0 b1 h
  ·exact reads_8_ok _ _ _ _ _ _ _ d0 d1 s0 s1 b0 b1 h
  ·exact reads_9_ok _ _ _ _ _ _ _ d0 d1 s0 s1 b0 b1 h
  ·exact reads_10_ok _ _ _ _ _ _ _ d0 d1 s0 s1 b0 b1 h
  ·exact reads_11_ok _ _ _ _ _ _ _ d0 d1 s0 s1 b0 b1 h
  ·exact reads_12_ok _ _ _ _ _ _ _ d0 d1 s0 s1 b0 b1 h
  ·exact reads_13_ok _ _ _ _ _ _ _ d0 d1 s0 s1 b0 b1 h
  ·exact reads_14_ok _ _ _ _ _ _ _ d0 d1 s0 s1 b0 b1 h
  ·exact reads_15_ok _ _ _ _ _ _ _ d0 d1 s0 s1 b0 b1 h
  ·exact reads_16_ok _ _ _ _ _ _ _ d0 d1 s0 s1 b0 b1 h
  ·exact reads_17_ok _ _ _ _ _ _ _ d0 d1 s0 s1 b0 b1 h
  ·exact reads_18_ok _ _ _ _ _ _ _ d0 d1 s0 s1 b0 b1 h
  ·exact reads_19_ok _ _ _ _ _ _ _ d0 d1 s0 s1 b0 b1 h
  ·exact reads_20_ok _ _ _ _ _ _ _ d0 d1 s0 s1 b0 b1 h
  ·exact reads_21_ok _ _ _ _ _ _ _ d0 d1 s0 s1 b0 b1 h
  ·exact reads_22_ok _ _ _ _ _ _ _ d0 d1 s0 s1 b0 b1 h
  ·exact reads_23_ok _ _ _ _ _ _ _ d0 d1 s0 s1 b0 b1 h
  ·exact reads_24_ok _ _ _ _ _ _ _ d0 d1 s0 s1 b0 b1 h
  ·exact reads_25_ok _ _ _ _ _ _ _ d0 d1 s0 s1 b0 b1 h
  ·exact reads_26_ok _ _ _ _ _ _ _ d0 d1 s0 s1 b0 b1 h
  ·exact reads_27_ok _ _ _ _ _ _ _ d0 d1 s0 s1 b0 b1 h
  ·exact reads_28_ok _ _ _ _ _ _ _ d0 d1 s0 s1 b0 b1 h
  ·exact reads_29_ok _ _ _ _ _ _ _ d0 d1 s0 s1 b0 b1 h
  ·exact reads_30_ok _ _ _ _ _ _ _ d0 d1 s0 s1 b0 b1 h
  ·exact reads_31_ok _ _ _ _ _ _ _ d0 d1 s0 s1 b0 b1 h
theorem writes_any_ok (op w dst src base disp imm cc : Int) (ho : op ≤ 127) : Ret Try.prog 166 [xD op w dst src base disp imm cc] (.int .i64 (writesXX op w dst src base disp imm cc)) := by
 unfold writesXX
 cases h : mayX op w dst src base disp imm cc
 ·simp only [Bool.false_eq_true, if_false]
  exact writes_no_ok op w dst src base disp imm cc ho h
 ·simp only [if_true]
  obtain ⟨⟨d0, d1, s0, s1, b0, b1, p0, p1, i0, i1⟩, hs⟩ := mayX_parts h
  have hsh := mayX_sh h
  clear hs
  rcases shape_ops hsh with rfl | rfl | rfl | rfl | rfl | rfl | rfl | rfl | rfl | rfl | rfl | rfl | rfl | rfl | rfl | rfl | rfl | rfl | rfl | rfl | rfl | rfl | rfl | rfl | rfl | rfl | rfl | rfl | rfl | rfl | rfl | rfl
  ·exact writes_0_ok _ _ _ _ _ _ _ d0 d1 s0 s1 b0 b1 h
  ·exact writes_1_ok _ _ _ _ _ _ _ d0 d1 s0 s1 b0 b1 h
  ·exact writes_2_ok _ _ _ _ _ _ _ d0 d1 s0 s1 b0 b1 h
  ·exact writes_3_ok _ _ _ _ _ _ _ d0 d1 s0 s1 b0 b1 h
  ·exact writes_4_ok _ _ _ _ _ _ _ d0 d1 s0 s1 b0 b1 h
  ·exact writes_5_ok _ _ _ _ _ _ _ d0 d1 s0 s1 b0 b1 h
  ·exact writes_6_ok _ _ _ _ _ _ _ d0 d1 s0 s1 b0 b1 h
  ·exact writes_7_ok _ _ _ _ _ _ _ d0 d1 s0 s1 b0 b1 h
  ·exact writes_8_ok _ _ _ _ _ _ _ d0 d1 s0 s1 b0 b1 h
  ·exact writes_9_ok _ _ _ _ _ _ _ d0 d1 s0 s1 b0 b1 h
  ·exact writes_10_ok _ _ _ _ _ _ _ d0 d1 s0 s1 b0 b1 h
  ·exact writes_11_ok _ _ _ _ _ _ _ d0 d1 s0 s1 b0 b1 h
  ·exact writes_12_ok _ _ _ _ _ _ _ d0 d1 s0 s1 b0 b1 h
  ·exact writes_13_ok _ _ _ _ _ _ _ d0 d1 s0 s1 b0 b1 h
  ·exact writes_14_ok _ _ _ _ _ _ _ d0 d1 s0 s1 b0 b1 h
  ·exact writes_15_ok _ _ _ _ _ _ _ d0 d1 s0 s1 b0 b1 h
  ·exact writes_16_ok _ _ _ _ _ _ _ d0 d1 s0 s1 b0 b1 h
  ·exact writes_17_ok _ _ _ _ _ _ _ d0 d1 s0 s1 b0 b1 h
  ·exact writes_18_ok _ _ _ _ _ _ _ d0 d1 s0 s1 b0 b1 h
  ·exact writes_19_ok _ _ _ _ _ _ _ d0 d1 s0 s1 b0 b1 h
  ·exact writes_20_ok _ _ _ _ _ _ _ d0 d1 s0 s1 b0 b1 h
  ·exact writes_21_ok _ _ _ _ _ _ _ d0 d1 s0 s1 b0 b1 h
  ·exact writes_22_ok _ _ _ _ _ _ _ d0 d1 s0 s1 b0 b1 h
  ·exact writes_23_ok _ _ _ _ _ _ _ d0 d1 s0 s1 b0 b1 h
  ·exact writes_24_ok _ _ _ _ _ _ _ d0 d1 s0 s1 b0 b1 h
  ·exact writes_25_ok _ _ _ _ _ _ _ d0 d1 s0 s1 b0 b1 h
  ·exact writes_26_ok _ _ _ _ _ _ _ d0 d1 s0 s1 b0 b1 h
  ·exact writes_27_ok _ _ _ _ _ _ _ d0 d1 s0 s1 b0 b1 h
  ·exact writes_28_ok _ _ _ _ _ _ _ d0 d1 s0 s1 b0 b1 h
  ·exact writes_29_ok _ _ _ _ _ _ _ d0 d1 s0 s1 b0 b1 h
  ·exact writes_30_ok _ _ _ _ _ _ _ d0 d1 s0 s1 b0 b1 h
  ·exact writes_31_ok _ _ _ _ _ _ _ d0 d1 s0 s1 b0 b1 h
end Go.Proofs.Ytcngafhpodeenaa

namespace Go.Ev
open Go
structure RgS where
  (r0 r1 r2 r3 r4 r5 r6 r7 r8 r9 r10 : Int)
deriving DecidableEq
def RgS.c (r : RgS) : List D := [.int .u64 r.r0, .int .u64 r.r1, .int .u64 r.r2, .int .u64 r.r3, .int .u64 r.r4, .int .u64 r.r5, .int .u64 r.r6, .int .u64 r.r7, .int .u64 r.r8, .int .u64 r.r9, .int .u64 r.r10]
def RgS.d (r : RgS) : D := .agg r.c
def RgS.l (r : RgS) : List Int := [r.r0, r.r1, r.r2, r.r3, r.r4, r.r5, r.r6, r.r7, r.r8, r.r9, r.r10]
def RgS.get (r : RgS) (i : Int) : Int := rg r.l i
def RgS.put (r : RgS) (i v : Int) : RgS := ⟨st 0 i v r.r0, st 1 i v r.r1, st 2 i v r.r2, st 3 i v r.r3, st 4 i v r.r4, st 5 i v r.r5, st 6 i v r.r6, st 7 i v r.r7, st 8 i v r.r8, st 9 i v r.r9, st 10 i v r.r10⟩
def RgS.zero : RgS := ⟨0, 0, 0, 0, 0, 0, 0, 0, 0, 0, 0⟩
section
variable {r0 r1 r2 r3 r4 r5 r6 r7 r8 r9 r10 i v : Int} {tl : List D}
end
def MachS.c (m : MachS) : List D := [.int .u64 m.q0, .int .u64 m.q1, .int .u64 m.q2, .int .u64 m.q3, .int .u64 m.q4, .int .u64 m.q5, .int .u64 m.q6, .int .u64 m.q7, .int .u64 m.q8, .int .u64 m.q9, .int .u64 m.q10, .int .u64 m.q11, .int .u64 m.q12, .int .u64 m.q13, .int .u64 m.q14, .int .u64 m.q15, .bool m.fk, .bool m.fc, .bool m.fz, .bool m.fs, .bool m.fo, .int .u64 m.pc]
def IrS.x (s : IrS) : XS := ⟨s.op, s.w, s.dst, s.src, s.base, s.disp, s.imm, s.cc⟩
def scrM (n : Int) : Bool := decide (n = 0 ∨ n = 1 ∨ n = 2 ∨ n = 11)
theorem scr_bit_all : ∀ n : Fin 128, (bitOf 2055 (n.val : Int) == 1) = scrM (n.val : Int) := by decide +kernel
theorem wk_bool {a b : Bool} (h : a = b) : wk (.bool a) (.bool b) := by subst h; simp [wk]
theorem scr_bit_eq {n : Int} (h0 : decide (n < 0) = false) (h1 : n ≤ 127) : (bitOf 2055 n == 1) = scrM n := by
 rw [decide_eq_false_iff_not] at h0
 have := scr_bit_all ⟨n.toNat, by omega⟩
 simp only [Int.toNat_of_nonneg (show 0 ≤ n by omega)] at this
 exact this
theorem scr_neg {n : Int} (h0 : decide (n < 0) = true) : false = scrM n := by
 rw [decide_eq_true_eq] at h0
 exact (decide_eq_false (by omega)).symm
def namesM (op w dst src base disp imm cc : Int) : Int := or64 (readsXX op w dst src base disp imm cc) (writesXX op w dst src base disp imm cc)
def ownM (op w dst src base disp imm cc : Int) : Bool := andNot64 (namesM op w dst src base disp imm cc) 2055 == 0
theorem own_t {op w dst src base disp imm cc : Int} (h : ownM op w dst src base disp imm cc = true) : (IntKind.i64.wrap ((BitVec.ofInt IntKind.i64.bits (IntKind.i64.wrap ((BitVec.ofInt IntKind.i64.bits (readsXX op w dst src base disp imm cc) ||| BitVec.ofInt IntKind.i64.bits (writesXX op w dst src base disp imm cc)).toNat : Int)) &&& ~~~BitVec.ofInt IntKind.i64.bits 2055).toNat : Int) == 0) = true := h
theorem own_f {op w dst src base disp imm cc : Int} (h : ownM op w dst src base disp imm cc = false) : (IntKind.i64.wrap ((BitVec.ofInt IntKind.i64.bits (IntKind.i64.wrap ((BitVec.ofInt IntKind.i64.bits (readsXX op w dst src base disp imm cc) ||| BitVec.ofInt IntKind.i64.bits (writesXX op w dst src base disp imm cc)).toNat : Int)) &&& ~~~BitVec.ofInt IntKind.i64.bits 2055).toNat : Int) == 0) = false := h
def zeroX (op w dst src base disp imm cc : Int) : Bool := decide (op = 0 ∧ w = 0 ∧ dst = 0 ∧ src = 0 ∧ base = 0 ∧ disp = 0 ∧ imm = 0 ∧ cc = 0)
def mayI (kind op w dst src base disp imm cc reg phys num to : Int) : Bool :=
  if kind = 0 then mayX op w dst src base disp imm cc && decide (op < 28) && ownM op w dst src base disp imm cc && decide (reg = 0 ∧ phys = 0 ∧ num = 0 ∧ to = 0)
  else if kind = 1 ∨ kind = 2 then decide (0 ≤ reg ∧ reg ≤ 10) && scrM phys && zeroX op w dst src base disp imm cc && decide (num = 0 ∧ to = 0)
  else if kind = 3 then decide (0 ≤ num ∧ num ≤ 15) && zeroX op w dst src base disp imm cc && decide (reg = 0 ∧ phys = 0 ∧ to = 0)
  else if kind = 4 then ccM cc && zeroX (op - 29) w dst src base disp imm 0 && decide (0 ≤ to ∧ to ≤ 64) && decide (reg = 0 ∧ phys = 0 ∧ num = 0)
  else if kind = 5 then decide (0 ≤ to ∧ to ≤ 64) && zeroX op w dst src base disp imm cc && decide (reg = 0 ∧ phys = 0 ∧ num = 0)
  else if kind = 6 then zeroX op w dst src base disp imm cc && decide (reg = 0 ∧ phys = 0 ∧ num = 0 ∧ to = 0)
  else false
theorem eq_irc (k1 a1 a2 a3 a4 a5 a6 a7 a8 a9 a10 a11 a12 k2 b1 b2 b3 b4 b5 b6 b7 b8 b9 b10 b11 b12 : Int) : eqCells (irC k1 a1 a2 a3 a4 a5 a6 a7 a8 a9 a10 a11 a12) (irC k2 b1 b2 b3 b4 b5 b6 b7 b8 b9 b10 b11 b12) =
  decide (k1 = k2 ∧ a1 = b1 ∧ a2 = b2 ∧ a3 = b3 ∧ a4 = b4 ∧ a5 = b5 ∧ a6 = b6 ∧ a7 = b7 ∧ a8 = b8 ∧ a9 = b9 ∧ a10 = b10 ∧ a11 = b11 ∧ a12 = b12) := by
 rw [Bool.eq_iff_iff]
 simp [eqCells, eqCell]
theorem mayI_0 (op w dst src base disp imm cc reg phys num to : Int) : mayI 0 op w dst src base disp imm cc reg phys num to = (mayX op w dst src base disp imm cc && decide (op < 28) && ownM op w dst src base disp imm cc && decide (reg = 0 ∧ phys = 0 ∧ num = 0 ∧ to = 0)) := rfl
theorem mayI_1 (op w dst src base disp imm cc reg phys num to : Int) : mayI 1 op w dst src base disp imm cc reg phys num to = (decide (0 ≤ reg ∧ reg ≤ 10) && scrM phys && zeroX op w dst src base disp imm cc && decide (num = 0 ∧ to = 0)) := rfl
theorem mayI_2 (op w dst src base disp imm cc reg phys num to : Int) : mayI 2 op w dst src base disp imm cc reg phys num to = (decide (0 ≤ reg ∧ reg ≤ 10) && scrM phys && zeroX op w dst src base disp imm cc && decide (num = 0 ∧ to = 0)) := rfl
theorem mayI_3 (op w dst src base disp imm cc reg phys num to : Int) : mayI 3 op w dst src base disp imm cc reg phys num to = (decide (0 ≤ num ∧ num ≤ 15) && zeroX op w dst src base disp imm cc && decide (reg = 0 ∧ phys = 0 ∧ to = 0)) := rfl
theorem mayI_4 (op w dst src base disp imm cc reg phys num to : Int) : mayI 4 op w dst src base disp imm cc reg phys num to = (ccM cc && zeroX (op - 29) w dst src base disp imm 0 && decide (0 ≤ to ∧ to ≤ 64) && decide (reg = 0 ∧ phys = 0 ∧ num = 0)) := rfl
theorem mayI_5 (op w dst src base disp imm cc reg phys num to : Int) : mayI 5 op w dst src base disp imm cc reg phys num to = (decide (0 ≤ to ∧ to ≤ 64) && zeroX op w dst src base disp imm cc && decide (reg = 0 ∧ phys = 0 ∧ num = 0)) := rfl
theorem mayI_6 (op w dst src base disp imm cc reg phys num to : Int) : mayI 6 op w dst src base disp imm cc reg phys num to = (zeroX op w dst src base disp imm cc && decide (reg = 0 ∧ phys = 0 ∧ num = 0 ∧ to = 0)) := rfl
def stopsI (kind op : Int) : Bool := decide ((3 ≤ kind ∧ kind ≤ 6) ∨ (kind = 0 ∧ (op = 26 ∨ op = 27)))
def IrS.ok (s : IrS) : Prop := -128 ≤ s.kind ∧ s.kind ≤ 127 ∧ s.op ≤ 127 ∧ s.cc ≤ 127 ∧ s.phys ≤ 127 ∧ -128 ≤ s.reg ∧ s.reg ≤ 127
def AllOk (l : List IrS) : Prop := ∀ s ∈ l, s.ok
def IrS.may (s : IrS) : Bool := mayI s.kind s.op s.w s.dst s.src s.base s.disp s.imm s.cc s.reg s.phys s.num s.to
def IrS.stops (s : IrS) : Bool := stopsI s.kind s.op
def badI (l : List IrS) : Option Nat := l.findIdx? (fun s => !s.may)
def chkI (l : List IrS) : Int × Int := match badI l with
  | some k => ((k : Int), 2)
  | none => (0, 0)
def runI : List IrS → RgS → MachS → RgS × MachS × Nat × Int
  | [], r, m => (r, m, 0, 0)
  | s :: t, r, m => match s.stops with
    | true => (r, m, t.length + 1, 0)
    | false => if s.kind = 1 then runI t r (m.put s.phys (r.get s.reg))
      else if s.kind = 2 then runI t (r.put s.reg (rg m.rl s.phys)) m
      else if (execS m s.x 0).2 = 0 then runI t r ((execS m s.x 0).1.at 0)
      else (.zero, .zero, t.length + 1, (execS m s.x 0).2)
def restI (l : List IrS) (r : RgS) (m : MachS) : List IrS := l.drop (l.length - (runI l r m).2.2.1)
def doI (l : List IrS) (r : RgS) : RgS × MachS × Int × Int :=
  if (chkI l).2 = 0 then
    let q := runI l r .zero
    if q.2.2.2 = 0 then (q.1, q.2.1, ((l.length - q.2.2.1 : Nat) : Int), 0) else (.zero, .zero, 0, q.2.2.2)
  else (.zero, .zero, 0, 2)
def namedI (k : Int) (n : Int) : List IrS → Int
  | [] => n
  | s :: t => namedI k (if s.kind = k ∧ 0 ≤ s.reg ∧ s.reg ≤ 10 then or64 n (sh8 s.reg) else n) t
end Go.Ev

namespace Go.Proofs.Ytcngafhpodeenaa
open Go Go.Ev
set_option maxRecDepth 100000
set_option maxHeartbeats 8000000
def tqI00 : List D := [.fn (.func 129) [] [], .fn (.func 126) [] [], .fn (.func 126) [] [], .fn (.func 132) [] [], .fn (.func 133) [] [.ptr false 2 0], .fn (.func 128) [] [], .fn (.func 134) [] []]
theorem those_ok  : Ret Try.prog 167 ([]) (.int .i64 2055) := by
 exact (o167 (d := .int .i64 2055) [.inl, .go 64, tT, tT, .get ([.int .i8 0, .int .i8 1, .int .i8 2, .int .i8 11]) 0 (.int .i8 0) rfl, tT, tT, tT, .get ([.int .i8 0, .int .i8 1, .int .i8 2, .int .i8 11]) 1 (.int .i8 1) rfl, tT, tT, tT, .get ([.int .i8 0, .int .i8 1, .int .i8 2, .int .i8 11]) 2 (.int .i8 2) rfl, tT, tT, tT, .get ([.int .i8 0, .int .i8 1, .int .i8 2, .int .i8 11]) 3 (.int .i8 11) rfl, tT, tF] (by kernel_rfl)).to (by rfl)
theorem phys_ok (n : Int) (hn : n ≤ 127) : Ret Try.prog 162 ([.int .i8 n]) (.bool (scrM n)) := by
 rcases bft (decide (n < 0)) with h0 | h0
 ·exact (o162 (d := .bool false) (List.replicate 5 (tC (eT (leL 0 h0))) ++ [tC (leL 0 h0)]) (by kernel_rfl)).to (by exact wk_bool (scr_neg h0))
 have c1 := @those_ok
 exact (o162 (d := .bool (IntKind.wrap IntKind.i64 (↑(BitVec.toNat (BitVec.ofInt (64 : Nat) (Int.fdiv 2055 (2 ^ min (Int.toNat n) (64 : Nat))) &&& BitVec.ofInt (64 : Nat) 1)) : Int) == 1)) [tC (eT (leL 0 h0)), .ret _ _ _ c1, tC (eT (leL 0 h0)), tC (eT (leL 0 h0)), tC (v := true) (leL 0 h0), tC (eT (leL 0 h0)), tC (eT (leL 0 h0)), tC (leL 0 h0)] (by kernel_rfl)).to (by exact wk_bool (scr_bit_eq h0 hn))
def SpI00 (k0_ : Int) : Prop := ∀ (op w dst src base disp imm cc reg phys num to : Int) (ho : op ≤ 127) (hc : cc ≤ 127) (hp : phys ≤ 127) (g0 : -128 ≤ reg) (g1 : reg ≤ 127), Ret Try.prog 74 ([irD k0_ op w dst src base disp imm cc reg phys num to]) (.bool (mayI k0_ op w dst src base disp imm cc reg phys num to))
theorem imay_0_ok : SpI00 0 := by
 intro op w dst src base disp imm cc reg phys num to ho hc hp g0 g1
 let E1 : EL := ([.inl, .inl] ++ List.replicate 9 tT ++ [.get ([D.fn (Fn.func 164) [] [], D.fn (Fn.func 161) [] [], D.fn (Fn.func 161) [] [], D.fn (Fn.func 168) [] [], D.fn (Fn.func 169) [] [D.ptr false 2 0], D.fn (Fn.func 163) [] [], D.fn (Fn.func 171) [] []]) 0 (D.fn (Fn.func 164) [] []) rfl, tT, .inl])
 rcases bft (mayX op w dst src base disp imm cc) with k0 | k0
 ·rcases bft (decide (op < 28)) with k1 | k1
  ·rcases bft (ownM op w dst src base disp imm cc) with k2 | k2
   ·have c3 := @reads_any_ok op w dst src base disp imm cc ho
    have c4 := @writes_any_ok op w dst src base disp imm cc ho
    have c5 := @mayX_ok op w dst src base disp imm cc ho
    have c6 := @those_ok
    exact (o74 (d := .bool (eqCells [.int .i8 0, .int .i8 0, .int .i8 0, .int .i8 0, .int .i8 0, .int .i8 0, .int .i64 0, .int .i64 0, .int .i8 0, .int .i8 reg, .int .i8 phys, .int .i64 num, .int .i64 to] [.int .i8 0, .int .i8 0, .int .i8 0, .int .i8 0, .int .i8 0, .int .i8 0, .int .i64 0, .int .i64 0, .int .i8 0, .int .i8 0, .int .i8 0, .int .i64 0, .int .i64 0])) (E1 ++ [.ret _ _ _ c3, .ret _ _ _ c4, .ret _ _ _ c5] ++ List.replicate 6 (tC (eT k0)) ++ [tC k0, tC (eT k1), tC (eT k1), .ret _ _ _ c6, tC (eT k1), tC (eT k1), tC k1, tT] ++ List.replicate 5 (tC (eT (eqI 0 true (eq_of_beq (@own_t op w dst src base disp imm cc k2))))) ++ [.flat _ _ flat_Ir, tC (eqI 0 true (eq_of_beq (@own_t op w dst src base disp imm cc k2)))]) (by kernel_rfl)).to (by clear E1; simp only [wk, D.bool.injEq, eq_irc, mayI_0, zeroX, k0, k1, k2, Bool.true_and, Bool.false_and, Bool.and_true, Bool.and_false]; rw [Bool.eq_iff_iff]; simp only [sl1, eq_irc] at *; done)
   have c7 := @reads_any_ok op w dst src base disp imm cc ho
   have c8 := @writes_any_ok op w dst src base disp imm cc ho
   have c9 := @mayX_ok op w dst src base disp imm cc ho
   have c10 := @those_ok
   exact (o74 (d := .bool false) (E1 ++ [.ret _ _ _ c7, .ret _ _ _ c8, .ret _ _ _ c9] ++ List.replicate 6 (tC (eT k0)) ++ [tC k0, tC (eT k1), tC (eT k1), .ret _ _ _ c10, tC (eT k1), tC (eT k1), tC k1, tT] ++ List.replicate 5 (tC (eT (@own_f op w dst src base disp imm cc k2))) ++ [tC (@own_f op w dst src base disp imm cc k2)]) (by kernel_rfl)).to (by simp only [wk, D.bool.injEq, eq_irc, mayI_0, zeroX, k0, k1, k2, Bool.true_and, Bool.false_and, Bool.and_true, Bool.and_false]; done)
  rcases bft (ownM op w dst src base disp imm cc) with k11 | k11
  ·have c12 := @reads_any_ok op w dst src base disp imm cc ho
   have c13 := @writes_any_ok op w dst src base disp imm cc ho
   have c14 := @mayX_ok op w dst src base disp imm cc ho
   exact (o74 (d := .bool false) (E1 ++ [.ret _ _ _ c12, .ret _ _ _ c13, .ret _ _ _ c14] ++ List.replicate 6 (tC (eT k0)) ++ [tC k0] ++ List.replicate 4 (tC (eT k1)) ++ [tC k1, tT, tF, tF, tF, tF, tF, tF]) (by kernel_rfl)).to (by simp only [wk, D.bool.injEq, eq_irc, mayI_0, zeroX, k0, k1, k11, Bool.true_and, Bool.false_and, Bool.and_true, Bool.and_false]; done)
  have c15 := @reads_any_ok op w dst src base disp imm cc ho
  have c16 := @writes_any_ok op w dst src base disp imm cc ho
  have c17 := @mayX_ok op w dst src base disp imm cc ho
  exact (o74 (d := .bool false) (E1 ++ [.ret _ _ _ c15, .ret _ _ _ c16, .ret _ _ _ c17] ++ List.replicate 6 (tC (eT k0)) ++ [tC k0] ++ List.replicate 4 (tC (eT k1)) ++ [tC k1, tT, tF, tF, tF, tF, tF, tF]) (by kernel_rfl)).to (by simp only [wk, D.bool.injEq, eq_irc, mayI_0, zeroX, k0, k1, k11, Bool.true_and, Bool.false_and, Bool.and_true, Bool.and_false]; done)
 rcases bft (decide (op < 28)) with k18 | k18
 ·rcases bft (ownM op w dst src base disp imm cc) with k19 | k19
  ·have c20 := @reads_any_ok op w dst src base disp imm cc ho
   have c21 := @writes_any_ok op w dst src base disp imm cc ho
   have c22 := @mayX_ok op w dst src base disp imm cc ho
   exact (o74 (d := .bool false) (E1 ++ [.ret _ _ _ c20, .ret _ _ _ c21, .ret _ _ _ c22] ++ List.replicate 6 (tC (eT k0)) ++ [tC k0, tF, tF, tF, tF, tF, tT, tF, tF, tF, tF, tF, tF]) (by kernel_rfl)).to (by simp only [wk, D.bool.injEq, eq_irc, mayI_0, zeroX, k0, k18, k19, Bool.true_and, Bool.false_and, Bool.and_true, Bool.and_false]; done)
  have c23 := @reads_any_ok op w dst src base disp imm cc ho
  have c24 := @writes_any_ok op w dst src base disp imm cc ho
  have c25 := @mayX_ok op w dst src base disp imm cc ho
  exact (o74 (d := .bool false) (E1 ++ [.ret _ _ _ c23, .ret _ _ _ c24, .ret _ _ _ c25] ++ List.replicate 6 (tC (eT k0)) ++ [tC k0, tF, tF, tF, tF, tF, tT, tF, tF, tF, tF, tF, tF]) (by kernel_rfl)).to (by simp only [wk, D.bool.injEq, eq_irc, mayI_0, zeroX, k0, k18, k19, Bool.true_and, Bool.false_and, Bool.and_true, Bool.and_false]; done)
 rcases bft (ownM op w dst src base disp imm cc) with k26 | k26
 ·have c27 := @reads_any_ok op w dst src base disp imm cc ho
  have c28 := @writes_any_ok op w dst src base disp imm cc ho
  have c29 := @mayX_ok op w dst src base disp imm cc ho
  exact (o74 (d := .bool false) (E1 ++ [.ret _ _ _ c27, .ret _ _ _ c28, .ret _ _ _ c29] ++ List.replicate 6 (tC (eT k0)) ++ [tC k0, tF, tF, tF, tF, tF, tT, tF, tF, tF, tF, tF, tF]) (by kernel_rfl)).to (by simp only [wk, D.bool.injEq, eq_irc, mayI_0, zeroX, k0, k18, k26, Bool.true_and, Bool.false_and, Bool.and_true, Bool.and_false]; done)
 have c30 := @reads_any_ok op w dst src base disp imm cc ho
 have c31 := @writes_any_ok op w dst src base disp imm cc ho
 have c32 := @mayX_ok op w dst src base disp imm cc ho
 exact (o74 (d := .bool false) (E1 ++ [.ret _ _ _ c30, .ret _ _ _ c31, .ret _ _ _ c32] ++ List.replicate 6 (tC (eT k0)) ++ [tC k0, tF, tF, tF, tF, tF, tT, tF, tF, tF, tF, tF, tF]) (by kernel_rfl)).to (by simp only [wk, D.bool.injEq, eq_irc, mayI_0, zeroX, k0, k18, k26, Bool.true_and, Bool.false_and, Bool.and_true, Bool.and_false]; done)
theorem imay_1_ok : SpI00 1 := by
 intro op w dst src base disp imm cc reg phys num to ho hc hp g0 g1
 let E1 : EL := ([.inl, .inl] ++ List.replicate 9 tT ++ [.get ([D.fn (Fn.func 164) [] [], D.fn (Fn.func 161) [] [], D.fn (Fn.func 161) [] [], D.fn (Fn.func 168) [] [], D.fn (Fn.func 169) [] [D.ptr false 2 0], D.fn (Fn.func 163) [] [], D.fn (Fn.func 171) [] []]) 1 (D.fn (Fn.func 161) [] []) rfl, tT, .inl, .inl])
 rcases bft (scrM phys) with k0 | k0
 ·rcases bft (decide (IntKind.wrap IntKind.i64 reg < 0)) with h1 | h1
  ·exact (o74 (d := .bool false) (E1 ++ List.replicate 3 (tC (eT (leL 0 h1))) ++ [tC (leL 0 h1), tF, tF, tF, tF, tF, tF, tT, tF, tF, tF, tF, tF, tF]) (by kernel_rfl)).to (by clear E1; simp only [wk, D.bool.injEq, eq_irc, mayI_1, zeroX, k0, h1, Bool.true_and, Bool.false_and, Bool.and_true, Bool.and_false]; rw [Bool.eq_iff_iff]; simp only [sl1, eq_irc] at *; omega)
  rcases bft (decide (IntKind.wrap IntKind.i64 reg < 11)) with h2 | h2
  ·have c3 := @phys_ok phys hp
   exact (o74 (d := .bool (eqCells [.int .i8 1, .int .i8 op, .int .i8 w, .int .i8 dst, .int .i8 src, .int .i8 base, .int .i64 disp, .int .i64 imm, .int .i8 cc, .int .i8 0, .int .i8 0, .int .i64 num, .int .i64 to] [.int .i8 1, .int .i8 0, .int .i8 0, .int .i8 0, .int .i8 0, .int .i8 0, .int .i64 0, .int .i64 0, .int .i8 0, .int .i8 0, .int .i8 0, .int .i64 0, .int .i64 0])) (E1 ++ List.replicate 3 (tC (eT (leL 0 h1))) ++ [tC (leL 0 h1)] ++ List.replicate 5 (tC (eT (leC 10 h2))) ++ [.ret _ _ _ c3, tC (leC 10 h2), tT] ++ List.replicate 5 (tC (eT k0)) ++ [.flat _ _ flat_Ir, tC k0]) (by kernel_rfl)).to (by clear E1; simp only [wk, D.bool.injEq, eq_irc, mayI_1, zeroX, k0, h1, h2, Bool.true_and, Bool.false_and, Bool.and_true, Bool.and_false]; rw [Bool.eq_iff_iff]; simp only [sl1, eq_irc] at *; omega)
  exact (o74 (d := .bool false) (E1 ++ List.replicate 3 (tC (eT (leL 0 h1))) ++ [tC (leL 0 h1)] ++ List.replicate 5 (tC (eT (leC 10 h2))) ++ [tC (leC 10 h2), tT, tF, tF, tF, tF, tF, tF]) (by kernel_rfl)).to (by clear E1; simp only [wk, D.bool.injEq, eq_irc, mayI_1, zeroX, k0, h1, h2, Bool.true_and, Bool.false_and, Bool.and_true, Bool.and_false]; rw [Bool.eq_iff_iff]; simp only [sl1, eq_irc] at *; omega)
 rcases bft (decide (IntKind.wrap IntKind.i64 reg < 0)) with h4 | h4
 ·exact (o74 (d := .bool false) (E1 ++ List.replicate 3 (tC (eT (leL 0 h4))) ++ [tC (leL 0 h4), tF, tF, tF, tF, tF, tF, tT, tF, tF, tF, tF, tF, tF]) (by kernel_rfl)).to (by simp only [wk, D.bool.injEq, eq_irc, mayI_1, zeroX, k0, h4, Bool.true_and, Bool.false_and, Bool.and_true, Bool.and_false]; done)
 rcases bft (decide (IntKind.wrap IntKind.i64 reg < 11)) with h5 | h5
 ·have c6 := @phys_ok phys hp
  exact (o74 (d := .bool false) (E1 ++ List.replicate 3 (tC (eT (leL 0 h4))) ++ [tC (leL 0 h4)] ++ List.replicate 5 (tC (eT (leC 10 h5))) ++ [.ret _ _ _ c6, tC (leC 10 h5), tT] ++ List.replicate 5 (tC (eT k0)) ++ [tC k0]) (by kernel_rfl)).to (by simp only [wk, D.bool.injEq, eq_irc, mayI_1, zeroX, k0, h4, h5, Bool.true_and, Bool.false_and, Bool.and_true, Bool.and_false]; done)
 exact (o74 (d := .bool false) (E1 ++ List.replicate 3 (tC (eT (leL 0 h4))) ++ [tC (leL 0 h4)] ++ List.replicate 5 (tC (eT (leC 10 h5))) ++ [tC (leC 10 h5), tT, tF, tF, tF, tF, tF, tF]) (by kernel_rfl)).to (by simp only [wk, D.bool.injEq, eq_irc, mayI_1, zeroX, k0, h4, h5, Bool.true_and, Bool.false_and, Bool.and_true, Bool.and_false]; done)
theorem imay_2_ok : SpI00 2 := by
 intro op w dst src base disp imm cc reg phys num to ho hc hp g0 g1
 let E1 : EL := ([.inl, .inl] ++ List.replicate 9 tT ++ [.get ([D.fn (Fn.func 164) [] [], D.fn (Fn.func 161) [] [], D.fn (Fn.func 161) [] [], D.fn (Fn.func 168) [] [], D.fn (Fn.func 169) [] [D.ptr false 2 0], D.fn (Fn.func 163) [] [], D.fn (Fn.func 171) [] []]) 2 (D.fn (Fn.func 161) [] []) rfl, tT, .inl, .inl])
 rcases bft (scrM phys) with k0 | k0
 ·rcases bft (decide (IntKind.wrap IntKind.i64 reg < 0)) with h1 | h1
  ·exact (o74 (d := .bool false) (E1 ++ List.replicate 3 (tC (eT (leL 0 h1))) ++ [tC (leL 0 h1), tF, tF, tF, tF, tF, tF, tT, tF, tF, tF, tF, tF, tF]) (by kernel_rfl)).to (by clear E1; simp only [wk, D.bool.injEq, eq_irc, mayI_2, zeroX, k0, h1, Bool.true_and, Bool.false_and, Bool.and_true, Bool.and_false]; rw [Bool.eq_iff_iff]; simp only [sl1, eq_irc] at *; omega)
  rcases bft (decide (IntKind.wrap IntKind.i64 reg < 11)) with h2 | h2
  ·have c3 := @phys_ok phys hp
   exact (o74 (d := .bool (eqCells [.int .i8 2, .int .i8 op, .int .i8 w, .int .i8 dst, .int .i8 src, .int .i8 base, .int .i64 disp, .int .i64 imm, .int .i8 cc, .int .i8 0, .int .i8 0, .int .i64 num, .int .i64 to] [.int .i8 2, .int .i8 0, .int .i8 0, .int .i8 0, .int .i8 0, .int .i8 0, .int .i64 0, .int .i64 0, .int .i8 0, .int .i8 0, .int .i8 0, .int .i64 0, .int .i64 0])) (E1 ++ List.replicate 3 (tC (eT (leL 0 h1))) ++ [tC (leL 0 h1)] ++ List.replicate 5 (tC (eT (leC 10 h2))) ++ [.ret _ _ _ c3, tC (leC 10 h2), tT] ++ List.replicate 5 (tC (eT k0)) ++ [.flat _ _ flat_Ir, tC k0]) (by kernel_rfl)).to (by clear E1; simp only [wk, D.bool.injEq, eq_irc, mayI_2, zeroX, k0, h1, h2, Bool.true_and, Bool.false_and, Bool.and_true, Bool.and_false]; rw [Bool.eq_iff_iff]; simp only [sl1, eq_irc] at *; omega)
  exact (o74 (d := .bool false) (E1 ++ List.replicate 3 (tC (eT (leL 0 h1))) ++ [tC (leL 0 h1)] ++ List.replicate 5 (tC (eT (leC 10 h2))) ++ [tC (leC 10 h2), tT, tF, tF, tF, tF, tF, tF]) (by kernel_rfl)).to (by clear E1; simp only [wk, D.bool.injEq, eq_irc, mayI_2, zeroX, k0, h1, h2, Bool.true_and, Bool.false_and, Bool.and_true, Bool.and_false]; rw [Bool.eq_iff_iff]; simp only [sl1, eq_irc] at *; omega)
 rcases bft (decide (IntKind.wrap IntKind.i64 reg < 0)) with h4 | h4
 ·exact (o74 (d := .bool false) (E1 ++ List.replicate 3 (tC (eT (leL 0 h4))) ++ [tC (leL 0 h4), tF, tF, tF, tF, tF, tF, tT, tF, tF, tF, tF, tF, tF]) (by kernel_rfl)).to (by simp only [wk, D.bool.injEq, eq_irc, mayI_2, zeroX, k0, h4, Bool.true_and, Bool.false_and, Bool.and_true, Bool.and_false]; done)
 rcases bft (decide (IntKind.wrap IntKind.i64 reg < 11)) with h5 | h5
 ·have c6 := @phys_ok phys hp
  exact (o74 (d := .bool false) (E1 ++ List.replicate 3 (tC (eT (leL 0 h4))) ++ [tC (leL 0 h4)] ++ List.replicate 5 (tC (eT (leC 10 h5))) ++ [.ret _ _ _ c6, tC (leC 10 h5), tT] ++ List.replicate 5 (tC (eT k0)) ++ [tC k0]) (by kernel_rfl)).to (by simp only [wk, D.bool.injEq, eq_irc, mayI_2, zeroX, k0, h4, h5, Bool.true_and, Bool.false_and, Bool.and_true, Bool.and_false]; done)
 exact (o74 (d := .bool false) (E1 ++ List.replicate 3 (tC (eT (leL 0 h4))) ++ [tC (leL 0 h4)] ++ List.replicate 5 (tC (eT (leC 10 h5))) ++ [tC (leC 10 h5), tT, tF, tF, tF, tF, tF, tF]) (by kernel_rfl)).to (by simp only [wk, D.bool.injEq, eq_irc, mayI_2, zeroX, k0, h4, h5, Bool.true_and, Bool.false_and, Bool.and_true, Bool.and_false]; done)
theorem imay_3_ok : SpI00 3 := by
 intro op w dst src base disp imm cc reg phys num to ho hc hp g0 g1
 let E1 : EL := ([.inl, .inl] ++ List.replicate 9 tT ++ [.get ([D.fn (Fn.func 164) [] [], D.fn (Fn.func 161) [] [], D.fn (Fn.func 161) [] [], D.fn (Fn.func 168) [] [], D.fn (Fn.func 169) [] [D.ptr false 2 0], D.fn (Fn.func 163) [] [], D.fn (Fn.func 171) [] []]) 3 (D.fn (Fn.func 168) [] []) rfl, tT, .inl, .inl])
 rcases bft (decide (num < 0)) with h0 | h0
 ·exact (o74 (d := .bool false) (E1 ++ List.replicate 3 (tC (eT (leL 0 h0))) ++ [tC (leL 0 h0), tT, tF, tF, tF, tF, tF, tF]) (by kernel_rfl)).to (by clear E1; simp only [wk, D.bool.injEq, eq_irc, mayI_3, zeroX, h0, Bool.true_and, Bool.false_and, Bool.and_true, Bool.and_false]; rw [Bool.eq_iff_iff]; simp only [sl1, eq_irc] at *; omega)
 rcases bft (decide (num < 16)) with h1 | h1
 ·exact (o74 (d := .bool (eqCells [.int .i8 3, .int .i8 op, .int .i8 w, .int .i8 dst, .int .i8 src, .int .i8 base, .int .i64 disp, .int .i64 imm, .int .i8 cc, .int .i8 reg, .int .i8 phys, .int .i64 0, .int .i64 to] [.int .i8 3, .int .i8 0, .int .i8 0, .int .i8 0, .int .i8 0, .int .i8 0, .int .i64 0, .int .i64 0, .int .i8 0, .int .i8 0, .int .i8 0, .int .i64 0, .int .i64 0])) (E1 ++ List.replicate 3 (tC (eT (leL 0 h0))) ++ [tC (leL 0 h0), tT] ++ List.replicate 5 (tC (eT (leC 15 h1))) ++ [.flat _ _ flat_Ir, tC (leC 15 h1)]) (by kernel_rfl)).to (by clear E1; simp only [wk, D.bool.injEq, eq_irc, mayI_3, zeroX, h0, h1, Bool.true_and, Bool.false_and, Bool.and_true, Bool.and_false]; rw [Bool.eq_iff_iff]; simp only [sl1, eq_irc] at *; omega)
 exact (o74 (d := .bool false) (E1 ++ List.replicate 3 (tC (eT (leL 0 h0))) ++ [tC (leL 0 h0), tT] ++ List.replicate 5 (tC (eT (leC 15 h1))) ++ [tC (leC 15 h1)]) (by kernel_rfl)).to (by clear E1; simp only [wk, D.bool.injEq, eq_irc, mayI_3, zeroX, h0, h1, Bool.true_and, Bool.false_and, Bool.and_true, Bool.and_false]; rw [Bool.eq_iff_iff]; simp only [sl1, eq_irc] at *; omega)
theorem imay_4_ok : SpI00 4 := by
 intro op w dst src base disp imm cc reg phys num to ho hc hp g0 g1
 let E1 : EL := ([.inl, .inl] ++ List.replicate 9 tT ++ [.get ([D.fn (Fn.func 164) [] [], D.fn (Fn.func 161) [] [], D.fn (Fn.func 161) [] [], D.fn (Fn.func 168) [] [], D.fn (Fn.func 169) [] [D.ptr false 2 0], D.fn (Fn.func 163) [] [], D.fn (Fn.func 171) [] []]) 4 (D.fn (Fn.func 169) [] [D.ptr false 2 0]) rfl, tT, .inl, .flat _ _ flat_X])
 rcases bft (eqCells [.int .i8 op, .int .i8 w, .int .i8 dst, .int .i8 src, .int .i8 base, .int .i64 disp, .int .i64 imm, .int .i8 cc] [.int .i8 29, .int .i8 0, .int .i8 0, .int .i8 0, .int .i8 0, .int .i64 0, .int .i64 0, .int .i8 cc]) with h0 | h0
 ·have c1 := @fmay_any_ok cc
  let E2 : EL := E1 ++ List.replicate 6 (tC (eT h0)) ++ [.ret _ _ _ c1, tC h0, .inl, .inl]
  rcases bft (decide (to < 0)) with h2 | h2
  ·exact (o74 (d := .bool false) (E2 ++ List.replicate 3 (tC (eT (leL 0 h2))) ++ [tC (leL 0 h2), tF, tF, tT, tF, tF, tF, tF, tF, tF]) (by kernel_rfl)).to (by clear E1 E2; simp only [wk, D.bool.injEq, eq_irc, mayI_4, zeroX, h0, h2, Bool.true_and, Bool.false_and, Bool.and_true, Bool.and_false]; first | done | rfl | (rw [Bool.eq_iff_iff]; simp only [sl1, eq_irc, eqCells, eqCell, beq_self_eq_true, Bool.and_eq_false_iff, Bool.and_true] at *; first | done | omega | (intro hh; omega) | (simp; done) | (intro hh; simp at hh; omega) | (constructor <;> intro hh <;> omega)))
  let E3 : EL := E2 ++ List.replicate 3 (tC (eT (leL 0 h2))) ++ [tC (leL 0 h2)]
  rcases bft (decide (to < 65)) with h3 | h3
  ·rcases bft (ccM cc) with h4 | h4
   ·exact (o74 (d := .bool (eqCells [.int .i8 4, .int .i8 0, .int .i8 0, .int .i8 0, .int .i8 0, .int .i8 0, .int .i64 0, .int .i64 0, .int .i8 0, .int .i8 reg, .int .i8 phys, .int .i64 num, .int .i64 0] [.int .i8 4, .int .i8 0, .int .i8 0, .int .i8 0, .int .i8 0, .int .i8 0, .int .i64 0, .int .i64 0, .int .i8 0, .int .i8 0, .int .i8 0, .int .i64 0, .int .i64 0])) (E3 ++ [tC (eT (leC 64 h3)), tC (leC 64 h3), tT] ++ List.replicate 5 (tC (eT h4)) ++ [.flat _ _ flat_Ir, tC h4]) (by kernel_rfl)).to (by clear E1 E2 E3; simp only [wk, D.bool.injEq, eq_irc, mayI_4, zeroX, h0, h2, h3, h4, Bool.true_and, Bool.false_and, Bool.and_true, Bool.and_false]; first | done | rfl | (rw [Bool.eq_iff_iff]; simp only [sl1, eq_irc, eqCells, eqCell, beq_self_eq_true, Bool.and_eq_false_iff, Bool.and_true] at *; first | done | omega | (intro hh; omega) | (simp; done) | (intro hh; simp at hh; omega) | (constructor <;> intro hh <;> omega)))
   exact (o74 (d := .bool false) (E3 ++ [tC (eT (leC 64 h3)), tC (leC 64 h3), tT] ++ List.replicate 5 (tC (eT h4)) ++ [tC h4]) (by kernel_rfl)).to (by clear E1 E2 E3; simp only [wk, D.bool.injEq, eq_irc, mayI_4, zeroX, h0, h2, h3, h4, Bool.true_and, Bool.false_and, Bool.and_true, Bool.and_false]; first | done | rfl | (rw [Bool.eq_iff_iff]; simp only [sl1, eq_irc, eqCells, eqCell, beq_self_eq_true, Bool.and_eq_false_iff, Bool.and_true] at *; first | done | omega | (intro hh; omega) | (simp; done) | (intro hh; simp at hh; omega) | (constructor <;> intro hh <;> omega)))
  exact (o74 (d := .bool false) (E3 ++ [tC (eT (leC 64 h3)), tC (leC 64 h3), tT, tF, tF, tF, tF, tF, tF]) (by kernel_rfl)).to (by clear E1 E2 E3; simp only [wk, D.bool.injEq, eq_irc, mayI_4, zeroX, h0, h2, h3, Bool.true_and, Bool.false_and, Bool.and_true, Bool.and_false]; first | done | rfl | (rw [Bool.eq_iff_iff]; simp only [sl1, eq_irc, eqCells, eqCell, beq_self_eq_true, Bool.and_eq_false_iff, Bool.and_true] at *; first | done | omega | (intro hh; omega) | (simp; done) | (intro hh; simp at hh; omega) | (constructor <;> intro hh <;> omega)))
 let E4 : EL := E1 ++ List.replicate 6 (tC (eT h0)) ++ [tC h0, .inl, .inl]
 rcases bft (decide (to < 0)) with h5 | h5
 ·exact (o74 (d := .bool false) (E4 ++ List.replicate 3 (tC (eT (leL 0 h5))) ++ [tC (leL 0 h5), tF, tF, tT, tF, tF, tF, tF, tF, tF]) (by kernel_rfl)).to (by clear E1 E4; simp only [wk, D.bool.injEq, eq_irc, mayI_4, zeroX, h0, h5, Bool.true_and, Bool.false_and, Bool.and_true, Bool.and_false]; first | done | rfl | (rw [Bool.eq_iff_iff]; simp only [sl1, eq_irc, eqCells, eqCell, beq_self_eq_true, Bool.and_eq_false_iff, Bool.and_true] at *; first | done | omega | (intro hh; omega) | (simp; done) | (intro hh; simp at hh; omega) | (constructor <;> intro hh <;> omega)))
 rcases bft (decide (to < 65)) with h6 | h6
 ·exact (o74 (d := .bool false) (E4 ++ List.replicate 3 (tC (eT (leL 0 h5))) ++ [tC (leL 0 h5), tC (eT (leC 64 h6)), tC (leC 64 h6), tT, tF, tF, tF, tF, tF, tF]) (by kernel_rfl)).to (by clear E1 E4; simp only [wk, D.bool.injEq, eq_irc, mayI_4, zeroX, h0, h5, h6, Bool.true_and, Bool.false_and, Bool.and_true, Bool.and_false]; first | done | rfl | (rw [Bool.eq_iff_iff]; simp only [sl1, eq_irc, eqCells, eqCell, beq_self_eq_true, Bool.and_eq_false_iff, Bool.and_true] at *; first | done | omega | (intro hh; omega) | (simp; done) | (intro hh; simp at hh; omega) | (constructor <;> intro hh <;> omega)))
 exact (o74 (d := .bool false) (E4 ++ List.replicate 3 (tC (eT (leL 0 h5))) ++ [tC (leL 0 h5), tC (eT (leC 64 h6)), tC (leC 64 h6), tT, tF, tF, tF, tF, tF, tF]) (by kernel_rfl)).to (by clear E1 E4; simp only [wk, D.bool.injEq, eq_irc, mayI_4, zeroX, h0, h5, h6, Bool.true_and, Bool.false_and, Bool.and_true, Bool.and_false]; first | done | rfl | (rw [Bool.eq_iff_iff]; simp only [sl1, eq_irc, eqCells, eqCell, beq_self_eq_true, Bool.and_eq_false_iff, Bool.and_true] at *; first | done | omega | (intro hh; omega) | (simp; done) | (intro hh; simp at hh; omega) | (constructor <;> intro hh <;> omega)))
theorem imay_5_ok : SpI00 5 := by
 intro op w dst src base disp imm cc reg phys num to ho hc hp g0 g1
 let E1 : EL := ([.inl, .inl] ++ List.replicate 9 tT ++ [.get ([D.fn (Fn.func 164) [] [], D.fn (Fn.func 161) [] [], D.fn (Fn.func 161) [] [], D.fn (Fn.func 168) [] [], D.fn (Fn.func 169) [] [D.ptr false 2 0], D.fn (Fn.func 163) [] [], D.fn (Fn.func 171) [] []]) 5 (D.fn (Fn.func 163) [] []) rfl, tT, .inl, .inl])
 rcases bft (decide (to < 0)) with h0 | h0
 ·exact (o74 (d := .bool false) (E1 ++ List.replicate 3 (tC (eT (leL 0 h0))) ++ [tC (leL 0 h0), tT, tF, tF, tF, tF, tF, tF]) (by kernel_rfl)).to (by clear E1; simp only [wk, D.bool.injEq, eq_irc, mayI_5, zeroX, h0, Bool.true_and, Bool.false_and, Bool.and_true, Bool.and_false]; rw [Bool.eq_iff_iff]; simp only [sl1, eq_irc] at *; omega)
 rcases bft (decide (to < 65)) with h1 | h1
 ·exact (o74 (d := .bool (eqCells [.int .i8 5, .int .i8 op, .int .i8 w, .int .i8 dst, .int .i8 src, .int .i8 base, .int .i64 disp, .int .i64 imm, .int .i8 cc, .int .i8 reg, .int .i8 phys, .int .i64 num, .int .i64 0] [.int .i8 5, .int .i8 0, .int .i8 0, .int .i8 0, .int .i8 0, .int .i8 0, .int .i64 0, .int .i64 0, .int .i8 0, .int .i8 0, .int .i8 0, .int .i64 0, .int .i64 0])) (E1 ++ List.replicate 3 (tC (eT (leL 0 h0))) ++ [tC (leL 0 h0), tT] ++ List.replicate 5 (tC (eT (leC 64 h1))) ++ [.flat _ _ flat_Ir, tC (leC 64 h1)]) (by kernel_rfl)).to (by clear E1; simp only [wk, D.bool.injEq, eq_irc, mayI_5, zeroX, h0, h1, Bool.true_and, Bool.false_and, Bool.and_true, Bool.and_false]; rw [Bool.eq_iff_iff]; simp only [sl1, eq_irc] at *; omega)
 exact (o74 (d := .bool false) (E1 ++ List.replicate 3 (tC (eT (leL 0 h0))) ++ [tC (leL 0 h0), tT] ++ List.replicate 5 (tC (eT (leC 64 h1))) ++ [tC (leC 64 h1)]) (by kernel_rfl)).to (by clear E1; simp only [wk, D.bool.injEq, eq_irc, mayI_5, zeroX, h0, h1, Bool.true_and, Bool.false_and, Bool.and_true, Bool.and_false]; rw [Bool.eq_iff_iff]; simp only [sl1, eq_irc] at *; omega)
theorem imay_6_ok : SpI00 6 := by
 intro op w dst src base disp imm cc reg phys num to ho hc hp g0 g1
 exact (o74 (d := .bool (eqCells [.int .i8 6, .int .i8 op, .int .i8 w, .int .i8 dst, .int .i8 src, .int .i8 base, .int .i64 disp, .int .i64 imm, .int .i8 cc, .int .i8 reg, .int .i8 phys, .int .i64 num, .int .i64 to] [.int .i8 6, .int .i8 0, .int .i8 0, .int .i8 0, .int .i8 0, .int .i8 0, .int .i64 0, .int .i64 0, .int .i8 0, .int .i8 0, .int .i8 0, .int .i64 0, .int .i64 0])) ([.inl, .inl] ++ List.replicate 9 tT ++ [.get ([D.fn (Fn.func 164) [] [], D.fn (Fn.func 161) [] [], D.fn (Fn.func 161) [] [], D.fn (Fn.func 168) [] [], D.fn (Fn.func 169) [] [D.ptr false 2 0], D.fn (Fn.func 163) [] [], D.fn (Fn.func 171) [] []]) 6 (D.fn (Fn.func 171) [] []) rfl, tT, .inl, tT, tT, tT, tT, tT, tT, .flat _ _ flat_Ir, tT]) (by kernel_rfl)).to (by simp only [wk, D.bool.injEq, eq_irc, mayI_6, zeroX, Bool.true_and, Bool.false_and, Bool.and_true, Bool.and_false]; rw [Bool.eq_iff_iff]; simp only [sl1, eq_irc] at *; omega)
theorem imay_lo_ok (kind op w dst src base disp imm cc reg phys num to : Int) (h : kind < 0) (h2 : -128 ≤ kind) : Ret Try.prog 74 ([irD kind op w dst src base disp imm cc reg phys num to]) (.bool false) := by
 exact (o74 (d := .bool false) ([.inl, .inl] ++ List.replicate 3 (tC (eT (leL 0 (by (simp only [sl2] at *; omega) : (decide (IntKind.wrap IntKind.i64 kind < 0)) = true)))) ++ [tC (leL 0 (by (simp only [sl2] at *; omega) : (decide (IntKind.wrap IntKind.i64 kind < 0)) = true))] ++ List.replicate 12 tF) (by kernel_rfl)).to (by simp [wk])
theorem imay_hi_ok (kind op w dst src base disp imm cc reg phys num to : Int) (h : 7 ≤ kind) (h2 : kind ≤ 127) : Ret Try.prog 74 ([irD kind op w dst src base disp imm cc reg phys num to]) (.bool false) := by
 exact (o74 (d := .bool false) ([.inl, .inl] ++ List.replicate 3 (tC (eT (leL 0 (by (simp only [sl2] at *; omega) : (decide (IntKind.wrap IntKind.i64 kind < 0)) = false)))) ++ [tC (leL 0 (by (simp only [sl2] at *; omega) : (decide (IntKind.wrap IntKind.i64 kind < 0)) = false))] ++ List.replicate 5 (tC (eT (leC 6 (by (simp only [sl2] at *; omega) : (decide (IntKind.wrap IntKind.i64 kind < 7)) = false)))) ++ [tC (leC 6 (by (simp only [sl2] at *; omega) : (decide (IntKind.wrap IntKind.i64 kind < 7)) = false)), tF, tF, tF, tF, tF, tF]) (by kernel_rfl)).to (by simp [wk])
end Go.Proofs.Ytcngafhpodeenaa

namespace Go.Proofs.Ytcngafhpodeenaa
open Go Go.Ev
theorem imay_c_ok (kind op w dst src base disp imm cc reg phys num to : Int) (a0 : -128 ≤ kind) (a1 : kind ≤ 127) (ho : op ≤ 127) (hc : cc ≤ 127) (hp : phys ≤ 127) (g0 : -128 ≤ reg) (g1 : reg ≤ 127) :
  Ret Try.prog 74 [irD kind op w dst src base disp imm cc reg phys num to] (.bool (mayI kind op w dst src base disp imm cc reg phys num to)) := by
 by_cases h : 0 ≤ kind ∧ kind ≤ 6
 ·have hk : kind = 0 ∨ kind = 1 ∨ kind = 2 ∨ kind = 3 ∨ kind = 4 ∨ kind = 5 ∨ kind = 6 := by omega
  rcases hk with rfl | rfl | rfl | rfl | rfl | rfl | rfl
  ·exact imay_0_ok _ _ _ _ _ _ _ _ _ _ _ _ ho hc hp g0 g1
  ·exact imay_1_ok _ _ _ _ _ _ _ _ _ _ _ _ ho hc hp g0 g1
  ·exact imay_2_ok _ _ _ _ _ _ _ _ _ _ _ _ ho hc hp g0 g1
  ·exact imay_3_ok _ _ _ _ _ _ _ _ _ _ _ _ ho hc hp g0 g1
  ·exact imay_4_ok _ _ _ _ _ _ _ _ _ _ _ _ ho hc hp g0 g1
  ·exact imay_5_ok _ _ _ _ _ _ _ _ _ _ _ _ ho hc hp g0 g1
  ·exact imay_6_ok _ _ _ _ _ _ _ _ _ _ _ _ ho hc hp g0 g1
 ·have e : mayI kind op w dst src base disp imm cc reg phys num to = false := by
   unfold mayI
   rw [if_neg (by omega), if_neg (by omega), if_neg (by omega), if_neg (by omega), if_neg (by omega), if_neg (by omega)]
  rw [e]
  by_cases h2 : kind < 0
  ·exact imay_lo_ok _ _ _ _ _ _ _ _ _ _ _ _ _ h2 a0
  ·exact imay_hi_ok _ _ _ _ _ _ _ _ _ _ _ _ _ (by omega) a1
end Go.Proofs.Ytcngafhpodeenaa

namespace Go.Proofs.Ytcngafhpodeenaa
open Go Go.Ev
set_option maxRecDepth 100000
set_option maxHeartbeats 8000000
theorem idx_done (l : List D) (k : Nat) (hb : l.length ≤ 9223372036854775807) (hk : l.length ≤ k) : RoundRun Try.prog (loopB Try.f72 0) ⟨[], [], []⟩ 0 [.lst .no 13 l, D.fn (Fn.func (73 : FuncId)) [] [], uu, uu, uu, uu, uu, .int .i64 (↑(List.length l) : Int), .int .i64 (↑k : Int), uu, uu, uu, uu, uu, uu, uu, uu, uu, uu] [] (Ex.exit (0 : Nat)) [uu, uu, uu, uu, uu, uu, uu, uu, uu, uu, uu, uu, uu, uu, uu, uu, uu, uu, uu] ([]) := by
 exact (RoundRun.of_eval (sp := ⟨[], [], []⟩) (n0 := 0) (ex := Ex.exit (0 : Nat)) (t' := [uu, uu, uu, uu, uu, uu, uu, uu, uu, uu, uu, uu, uu, uu, uu, uu, uu, uu, uu]) (s' := []) mixed [tC (by (simp only [sl2] at *; omega) : (decide ((↑k : Int) < (↑(List.length l) : Int))) = false)] (by kernel_rfl)).cast (by rfl) (by rfl)
theorem idx_ok (l : List D) (k : Nat) (hb : l.length ≤ 9223372036854775807) (hk : k < l.length) (kind op w dst src base disp imm cc reg phys num to : Int) (a0 : -128 ≤ kind) (a1 : kind ≤ 127) (ho : op ≤ 127) (hc : cc ≤ 127) (hp : phys ≤ 127) (g0 : -128 ≤ reg) (g1 : reg ≤ 127) (hx : l[k]? = some (irD kind op w dst src base disp imm cc reg phys num to)) (he : mayI kind op w dst src base disp imm cc reg phys num to = true) : RoundRun Try.prog (loopB Try.f72 0) ⟨[0, 1, 7, 8], [], []⟩ 0 [.lst .no 13 l, D.fn (Fn.func (73 : FuncId)) [] [], uu, uu, uu, uu, uu, .int .i64 (↑(List.length l) : Int), .int .i64 (↑k : Int), uu, uu, uu, uu, uu, uu, uu, uu, uu, uu] [] (Ex.norm) [.lst .no 13 l, D.fn (Fn.func (73 : FuncId)) [] [], uu, uu, uu, uu, uu, .int .i64 (↑(List.length l) : Int), .int .i64 (↑(k + (1 : Nat)) : Int), uu, uu, uu, uu, uu, uu, uu, uu, uu, uu] ([]) := by
 have c0 := @imay_c_ok kind op w dst src base disp imm cc reg phys num to a0 a1 ho hc hp g0 g1
 exact (RoundRun.of_eval (sp := ⟨[0, 1, 7, 8], [], []⟩) (n0 := 0) (ex := Ex.norm) (t' := [.lst .no 13 l, D.fn (Fn.func (73 : FuncId)) [] [], uu, uu, uu, uu, uu, .int .i64 (↑(List.length l) : Int), .int .i64 (IntKind.wrap IntKind.i64 ((↑k : Int) + 1)), uu, uu, uu, uu, uu, uu, uu, uu, uu, uu]) (s' := []) mixed [tC (by (simp only [sl2] at *; omega) : (decide ((↑k : Int) < (↑(List.length l) : Int))) = true), tT, .get _ _ _ hx, .inl, .ret _ _ _ c0, tC (nt he)] (by kernel_rfl)).cast (by first | rfl | (congr; rw [w_i64]; omega)) (by first | rfl | (congr; rw [w_i64]; omega))
end Go.Proofs.Ytcngafhpodeenaa

namespace Go.Ev
open Go
end Go.Ev

namespace Go.Proofs.Ytcngafhpodeenaa
open Go Go.Ev
set_option maxRecDepth 100000
theorem idx_run_n (l : List IrS) (hb : (l.map IrS.d).length ≤ 9223372036854775807) (ho : AllOk l) (hm : badI l = none) :
  LoopRun Try.prog 0 (.loop (loopB Try.f72 0)) [.lst .no 13 (l.map IrS.d), .fn (Fn.func 73) [] [], .undef, .undef, .undef, .undef, .undef, .int .i64 ((l.map IrS.d).length : Int), .int .i64 0, .undef, .undef, .undef, .undef, .undef, .undef, .undef, .undef, .undef, .undef] [] (.exit 0) [.undef, .undef, .undef, .undef, .undef, .undef, .undef, .undef, .undef, .undef, .undef, .undef, .undef, .undef, .undef, .undef, .undef, .undef, .undef] [] := by
 have hall : ∀ s ∈ l, s.may = true := by
  unfold badI at hm
  rw [List.findIdx?_eq_none_iff] at hm
  intro s hs
  simpa using hm s hs
 have key : ∀ (n k : Nat), n + k = l.length → Rounds Try.prog (loopB Try.f72 0) 0 [.lst .no 13 (l.map IrS.d), .fn (Fn.func 73) [] [], .undef, .undef, .undef, .undef, .undef, .int .i64 ((l.map IrS.d).length : Int), .int .i64 (k : Int), .undef, .undef, .undef, .undef, .undef, .undef, .undef, .undef, .undef, .undef] [] (.exit 0) [.undef, .undef, .undef, .undef, .undef, .undef, .undef, .undef, .undef, .undef, .undef, .undef, .undef, .undef, .undef, .undef, .undef, .undef, .undef] [] := by
  intro n
  induction n with
  | zero =>
   intro k hk
   exact Rounds.last (idx_done (l.map IrS.d) k hb (by simp; omega)) (by simp)
  | succ n ih =>
   intro k hk
   have hx : l[k]? = some l[k] := by simp
   obtain ⟨a0, a1, ho', hc, hp, g0, g1⟩ := ho _ (List.getElem_mem (show k < l.length by omega))
   exact Rounds.more (idx_ok (l.map IrS.d) k hb (by simp; omega) _ _ _ _ _ _ _ _ _ _ _ _ _ a0 a1 ho' hc hp g0 g1 (get_map hx) (hall _ (List.getElem_mem (show k < l.length by omega)))) (ih (k + 1) (by omega))
 exact LoopRun.of_rounds (by decide) (key l.length 0 (by omega))
end Go.Proofs.Ytcngafhpodeenaa

namespace Go.Proofs.Ytcngafhpodeenaa
open Go Go.Ev
set_option maxRecDepth 100000
set_option maxHeartbeats 8000000
theorem idxf_n_ok (l : List IrS) (hb : (l.map IrS.d).length ≤ 9223372036854775807) (ho : AllOk l) (hm : badI l = none) : Ret Try.prog 72 ([.lst .no 13 (l.map IrS.d), .fn (Fn.func 73) [] []]) (.int .i64 (-1)) := by
 have c0 := @idx_run_n (l) hb ho hm
 exact (Ret.of_eval (d := .int .i64 (-1 : Int)) mixed Try.func72 (by kernel_rfl) [.head ⟨[0, 1, 7, 8], [], []⟩ _ _ _ _ _ _ _ c0] (by kernel_rfl)).to (by simp [wk])
theorem chk_n_ok (l : List IrS) (hb : (l.map IrS.d).length ≤ 9223372036854775807) (ho : AllOk l) (hm : badI l = none) : Ret Try.prog 31 ([.lst .no 13 (l.map IrS.d)]) (.tup [.int .i64 0, .int .i64 0]) := by
 have c0 := @idxf_n_ok (l) hb ho hm
 exact (Ret.of_eval (d := .tup [.int .i64 0, .int .i64 0]) mixed Try.func31 (by kernel_rfl) [.ret _ _ _ c0, tF] (by kernel_rfl)).to (by simp [wk, wkL])
end Go.Proofs.Ytcngafhpodeenaa

namespace Go.Ev
open Go
def topM (v w : Int) : Bool := IntKind.u64.wrap ((BitVec.ofInt 64 (v.fdiv (2 ^ (min (IntKind.i8.wrap (w - 1)).toNat 64))) &&& BitVec.ofInt 64 1).toNat : Int) == 1
end Go.Ev

namespace Go.Ev
open Go
def EqBut (o : Int) (r r' : RgS) : Prop := ∀ k, 0 ≤ k → k ≤ 10 → k ≠ o → r.get k = r'.get k
end Go.Ev

namespace Go.Ev
open Go
set_option maxRecDepth 10000
abbrev takeS (p r : Int) : IrS := ⟨1, 0, 0, 0, 0, 0, 0, 0, 0, r, p, 0, 0⟩
abbrev giveS (r p : Int) : IrS := ⟨2, 0, 0, 0, 0, 0, 0, 0, 0, r, p, 0, 0⟩
abbrev xS (op w dst src imm cc : Int) : IrS := ⟨0, op, w, dst, src, 0, 0, imm, cc, 0, 0, 0, 0⟩
theorem may_x1 {op w : Int} (hw : w = 32 ∨ w = 64) (ho : op = 2 ∨ op = 3 ∨ op = 4 ∨ op = 5 ∨ op = 6 ∨ op = 8 ∨ op = 16) {a b : Int} (ha : a = 0 ∨ a = 1) (hb : b = 0 ∨ b = 1) : mayX op w a b 0 0 0 0 = true := by
 rcases hw with rfl | rfl <;> rcases ho with rfl | rfl | rfl | rfl | rfl | rfl | rfl <;> rcases ha with rfl | rfl <;> rcases hb with rfl | rfl <;> rfl
theorem may_imm {op w d imm : Int} (hw : w = 32 ∨ w = 64) (ho : op = 1 ∨ op = 9 ∨ op = 10 ∨ op = 11 ∨ op = 12 ∨ op = 13 ∨ op = 14 ∨ op = 15) (hd : d = 0 ∨ d = 1 ∨ d = 2 ∨ d = 11) (i1 : -2147483648 ≤ imm) (i2 : imm ≤ 2147483647) : mayX op w d 0 0 0 imm 0 = true := by
 have hi : decide (-2147483648 ≤ imm ∧ imm ≤ 2147483647) = true := decide_eq_true ⟨i1, i2⟩
 unfold mayX
 rw [hi]
 rcases hw with rfl | rfl <;> rcases ho with rfl | rfl | rfl | rfl | rfl | rfl | rfl | rfl <;> rcases hd with rfl | rfl | rfl | rfl <;> rfl
theorem may_shift {op w imm : Int} (hw : w = 32 ∨ w = 64) (ho : op = 17 ∨ op = 18 ∨ op = 19) : mayX op w 0 0 0 0 (imm % w) 0 = true := by
 have h0 : 0 ≤ imm % w ∧ imm % w < w := by rcases hw with rfl | rfl <;> omega
 have hi : decide (-2147483648 ≤ imm % w ∧ imm % w ≤ 2147483647) = true := decide_eq_true (by rcases hw with rfl | rfl <;> omega)
 unfold mayX
 rw [hi]
 have hj : decide ((0 : Int) = 0 ∧ (0 : Int) = 0 ∧ (0 : Int) = 0 ∧ (0 : Int) = 0 ∧ 0 ≤ imm % w ∧ imm % w < w) = true := decide_eq_true ⟨rfl, rfl, rfl, rfl, h0.1, h0.2⟩
 have hs : mayS 4 w 0 0 0 0 (imm % w) 0 = true := by
  show (longM w && _) = true
  rw [show longM w = true by rcases hw with rfl | rfl <;> rfl]
  exact hj
 rcases ho with rfl | rfl | rfl <;> exact hs
theorem may_one {op w : Int} (hw : w = 32 ∨ w = 64) (ho : op = 20 ∨ op = 21 ∨ op = 22 ∨ op = 23 ∨ op = 24) {a : Int} (ha : a = 0 ∨ a = 1) : mayX op w a 0 0 0 0 0 = true := by
 rcases hw with rfl | rfl <;> rcases ho with rfl | rfl | rfl | rfl | rfl <;> rcases ha with rfl | rfl <;> rfl
theorem may_cmov {w d : Int} (hw : w = 32 ∨ w = 64) (hd : d = 0 ∨ d = 1 ∨ d = 2) : mayX 25 w d 11 0 0 0 4 = true := by
 rcases hw with rfl | rfl <;> rcases hd with rfl | rfl | rfl <;> rfl
theorem may_mov {w : Int} (hw : w = 32 ∨ w = 64) : mayX 0 w 0 0 0 0 0 0 = true := by rcases hw with rfl | rfl <;> rfl
def Gives (l : List IrS) (r : RgS) (d v : Int) : Prop := ∀ m, ∃ m', runI l r m = (r.put d v, m', 0, 0)
theorem and_self {x : Int} (h : inU x) : and64u x x = x := by
 unfold and64u
 rw [BitVec.and_self, toNat_ofInt]
 unfold u64 inU at *
 rw [w_u64]
 rw [show ((2 ^ 64 : Nat) : Int) = 18446744073709551616 from rfl]
 omega
end Go.Ev

namespace Go.Ev
open Go
def Mays (l : List IrS) : Prop := ∀ s ∈ l, s.may = true
theorem mays_nil : Mays [] := fun _ h => by cases h
theorem mays_cons {s : IrS} {t : List IrS} (h : s.may = true) (k : Mays t) : Mays (s :: t) := by
 intro x hx
 rcases List.mem_cons.mp hx with rfl | hx
 ·exact h
 ·exact k x hx
theorem mays_take {p i : Int} {t : List IrS} (i0 : 0 ≤ i) (i1 : i ≤ 10) (k : Mays t) (hp : scrM p = true := by rfl) : Mays (takeS p i :: t) := by
 refine mays_cons ?_ k
 show (decide (0 ≤ i ∧ i ≤ 10) && scrM p && true && true) = true
 rw [hp, decide_eq_true (show 0 ≤ i ∧ i ≤ 10 from ⟨i0, i1⟩)]; rfl
theorem mays_give {p i : Int} {t : List IrS} (i0 : 0 ≤ i) (i1 : i ≤ 10) (k : Mays t) (hp : scrM p = true := by rfl) : Mays (giveS i p :: t) := by
 refine mays_cons ?_ k
 show (decide (0 ≤ i ∧ i ≤ 10) && scrM p && true && true) = true
 rw [hp, decide_eq_true (show 0 ≤ i ∧ i ≤ 10 from ⟨i0, i1⟩)]; rfl
theorem mays_x {op w dst src imm cc : Int} {t : List IrS} (hm : mayX op w dst src 0 0 imm cc = true) (k : Mays t) (ho : decide (op < 28) = true := by rfl) (h : (andNot64 (or64 (readsX op dst src 0) (writesX op dst)) 2055 == 0) = true := by rfl) : Mays (xS op w dst src imm cc :: t) := by
 refine mays_cons ?_ k
 show (mayX op w dst src 0 0 imm cc && decide (op < 28) && ownM op w dst src 0 0 imm cc && true) = true
 unfold ownM namesM
 rw [reads_may hm, writes_may hm, hm, ho, h]; rfl
theorem alu_may {op w dst src imm : Int} {byReg : Bool} (d0 : 0 ≤ dst) (d1 : dst ≤ 10) (s0 : 0 ≤ src) (s1 : src ≤ 10) (hw : w = 32 ∨ w = 64) (h8 : op = 8 → byReg = false)
  (ho : op = 0 ∨ op = 1 ∨ op = 2 ∨ op = 3 ∨ op = 4 ∨ op = 5 ∨ op = 6 ∨ op = 7 ∨ op = 8 ∨ op = 9 ∨ op = 10 ∨ op = 11 ∨ op = 12) (i1 : -2147483648 ≤ imm) (i2 : imm ≤ 2147483647) :
  Mays ((aluM op w byReg dst src imm).map irOf) := by
 have G0 : Mays [giveS dst 0] := mays_give d0 d1 mays_nil
 have G2 : Mays [giveS dst 2] := mays_give d0 d1 mays_nil
 have im : ∀ {op d : Int}, (op = 1 ∨ op = 9 ∨ op = 10 ∨ op = 11 ∨ op = 12 ∨ op = 13 ∨ op = 14 ∨ op = 15) → (d = 0 ∨ d = 1 ∨ d = 2 ∨ d = 11) → mayX op w d 0 0 0 imm 0 = true := fun h k => may_imm hw h k i1 i2
 have on1 : mayX 24 w 1 0 0 0 0 0 = true := may_one hw (by omega) (.inr rfl)
 have ts : mayX 8 w 1 1 0 0 0 0 = true := may_x1 hw (by omega) (.inr rfl) (.inr rfl)
 have cm : ∀ {d : Int}, (d = 0 ∨ d = 1 ∨ d = 2) → mayX 25 w d 11 0 0 0 4 = true := fun h => may_cmov hw h
 have cl : ∀ {op : Int}, (op = 20 ∨ op = 21 ∨ op = 22 ∨ op = 23 ∨ op = 24) → mayX op w 0 0 0 0 0 0 = true := fun h => may_one hw h (.inl rfl)
 have tw : ∀ {op : Int}, (op = 2 ∨ op = 3 ∨ op = 4 ∨ op = 5 ∨ op = 6 ∨ op = 8 ∨ op = 16) → mayX op w 0 1 0 0 0 0 = true := fun h => may_x1 hw h (.inl rfl) (.inr rfl)
 have z1 : ∀ {d imm : Int}, (d = 0 ∨ d = 1 ∨ d = 2 ∨ d = 11) → (-2147483648 ≤ imm) → (imm ≤ 2147483647) → mayX 1 32 d 0 0 0 imm 0 = true := fun h a b => may_imm (.inl rfl) (.inl rfl) h a b
 rcases ho with rfl | rfl | rfl | rfl | rfl | rfl | rfl | rfl | rfl | rfl | rfl | rfl | rfl
 ·cases byReg
  ·exact mays_take d0 d1 (mays_x (im (op := 9) (by omega) (.inl rfl)) G0)
  ·exact mays_take d0 d1 (mays_take s0 s1 (mays_x (tw (op := 2) (by omega)) G0))
 ·cases byReg
  ·exact mays_take d0 d1 (mays_x (im (op := 12) (by omega) (.inl rfl)) G0)
  ·exact mays_take d0 d1 (mays_take s0 s1 (mays_x (tw (op := 5) (by omega)) G0))
 ·cases byReg
  ·exact mays_take d0 d1 (mays_x (im (op := 1) (by omega) (.inr (.inl rfl))) (mays_x (tw (op := 16) (by omega)) G0))
  ·exact mays_take d0 d1 (mays_take s0 s1 (mays_x (tw (op := 16) (by omega)) G0))
 ·cases byReg
  ·cases hz : zeroImm w imm
   ·have e : aluM 3 w false dst src imm = [takeD 0 dst, num 1 w 1 imm, num 1 32 2 0, two 24 w 1 0, giveD dst 0] := by simp [aluM, hz]
    rw [e]
    exact mays_take d0 d1 (mays_x (im (op := 1) (by omega) (.inr (.inl rfl))) (mays_x (z1 (.inr (.inr (.inl rfl))) (by decide) (by decide)) (mays_x on1 G0)))
   ·have e : aluM 3 w false dst src imm = [num 1 w 0 0, giveD dst 0] := by simp [aluM, hz]
    rw [e]
    exact mays_x (may_imm hw (.inl rfl) (.inl rfl) (by decide) (by decide)) G0
  ·exact mays_take d0 d1 (mays_take s0 s1 (mays_x (z1 (.inr (.inr (.inl rfl))) (by decide) (by decide)) (mays_x (z1 (.inr (.inr (.inr rfl))) (by decide) (by decide)) (mays_x ts (mays_x (cm (.inr (.inl rfl))) (mays_x on1 (mays_take s0 s1 (mays_x (z1 (.inr (.inr (.inr rfl))) (by decide) (by decide)) (mays_x ts (mays_x (cm (.inl rfl)) G0))))))))))
 ·cases byReg
  ·exact mays_take d0 d1 (mays_x (im (op := 10) (by omega) (.inl rfl)) G0)
  ·exact mays_take d0 d1 (mays_take s0 s1 (mays_x (tw (op := 3) (by omega)) G0))
 ·cases byReg
  ·exact mays_take d0 d1 (mays_x (im (op := 11) (by omega) (.inl rfl)) G0)
  ·exact mays_take d0 d1 (mays_take s0 s1 (mays_x (tw (op := 4) (by omega)) G0))
 ·cases byReg
  ·exact mays_take d0 d1 (mays_x (may_shift (op := 17) hw (by omega)) G0)
  ·exact mays_take d0 d1 (mays_take s0 s1 (mays_x (cl (op := 20) (by omega)) G0))
 ·cases byReg
  ·exact mays_take d0 d1 (mays_x (may_shift (op := 18) hw (by omega)) G0)
  ·exact mays_take d0 d1 (mays_take s0 s1 (mays_x (cl (op := 21) (by omega)) G0))
 ·rw [h8 rfl]
  exact mays_take d0 d1 (mays_x (cl (op := 23) (by omega)) G0)
 ·cases byReg
  ·cases hz : zeroImm w imm
   ·have e : aluM 9 w false dst src imm = [takeD 0 dst, num 1 w 1 imm, num 1 32 2 0, two 24 w 1 0, giveD dst 2] := by simp [aluM, hz]
    rw [e]
    exact mays_take d0 d1 (mays_x (im (op := 1) (by omega) (.inr (.inl rfl))) (mays_x (z1 (.inr (.inr (.inl rfl))) (by decide) (by decide)) (mays_x on1 G2)))
   ·rcases hw with rfl | rfl
    ·have e : aluM 9 32 false dst src imm = [takeD 0 dst, two 0 32 0 0, giveD dst 0] := by simp [aluM, hz]
     rw [e]
     exact mays_take d0 d1 (mays_x (may_mov (.inl rfl)) G0)
    ·have e : aluM 9 64 false dst src imm = [takeD 0 dst, giveD dst 0] := by simp [aluM, hz]
     rw [e]
     exact mays_take d0 d1 G0
  ·exact mays_take d0 d1 (mays_take s0 s1 (mays_x (z1 (.inr (.inr (.inl rfl))) (by decide) (by decide)) (mays_x (z1 (.inr (.inr (.inr rfl))) (by decide) (by decide)) (mays_x ts (mays_x (cm (.inr (.inl rfl))) (mays_x on1 (mays_take s0 s1 (mays_take d0 d1 (mays_x ts (mays_x (cm (.inr (.inr rfl))) G2))))))))))
 ·cases byReg
  ·exact mays_take d0 d1 (mays_x (im (op := 13) (by omega) (.inl rfl)) G0)
  ·exact mays_take d0 d1 (mays_take s0 s1 (mays_x (tw (op := 6) (by omega)) G0))
 ·cases byReg
  ·exact mays_x (im (op := 1) (by omega) (.inl rfl)) G0
  ·rcases hw with rfl | rfl
   ·exact mays_take s0 s1 (mays_x (may_mov (.inl rfl)) G0)
   ·exact mays_take s0 s1 G0
 ·cases byReg
  ·exact mays_take d0 d1 (mays_x (may_shift (op := 19) hw (by omega)) G0)
  ·exact mays_take d0 d1 (mays_take s0 s1 (mays_x (cl (op := 22) (by omega)) G0))
end Go.Ev
