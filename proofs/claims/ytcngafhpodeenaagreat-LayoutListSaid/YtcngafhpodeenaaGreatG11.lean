/- Contracts and plain laws that a statement's proof leans on (texts merged: XMay2, XMay3, XMayA, XRef0, XRef1, XRef2, XRef3, XRef4, XRefA, XB0). -/
import Derived.Test.YtcngafhpodeenaaGreatG05
import Derived.Test.YtcngafhpodeenaaGreatG06
import Derived.Test.YtcngafhpodeenaaGreatG10
set_option linter.unusedVariables false
set_option linter.unusedSimpArgs false
namespace Go.Proofs.YtcngafhpodeenaaGreat
open Go Go.Ev
set_option maxRecDepth 100000
set_option maxHeartbeats 8000000
def SpXMay20 (k0_ : Int) : Prop := ∀ (op w dst src base disp imm cc : Int) (ho : op ≤ 127) (h : (shapeM op == k0_) = true) (hin : decide (0 ≤ op ∧ op ≤ 31) = true), Ret Tryz.prog 28 ([xD op w dst src base disp imm cc]) (.bool (mayX op w dst src base disp imm cc))
theorem mayX_6_ok : SpXMay20 6 := by
 intro op w dst src base disp imm cc ho h hin
 have c0 := @of_any_ok op ho
 rw [eq_of_beq h] at c0
 generalize g2 : codeM op = r1 at c0
 generalize g4 : numM op = r3 at c0
 have c5 := @bare_6_ok op w dst src base disp imm cc 6 (rfl : true = true)
 let E1 : EL := ([.ret _ _ _ c0] ++ List.replicate 4 (tC (eF (nt hin))) ++ [.ret _ _ _ c5, tC (eF (nt hin)), tC (eF (nt hin)), .flat _ _ flat_X, tC (nt hin)])
 rcases bft (eqCells [.int .i8 0, .int .i8 0, .int .i8 0, .int .i8 0, .int .i8 base, .int .i64 disp, .int .i64 imm, .int .i8 0] [.int .i8 0, .int .i8 0, .int .i8 0, .int .i8 0, .int .i8 0, .int .i64 0, .int .i64 0, .int .i8 0]) with h6 | h6
 ·have c7 := @reg_ok dst
  generalize g9 : regM dst = r8 at c7
  let E2 : EL := E1 ++ List.replicate 3 (tC (eF (nt h6))) ++ [.ret _ _ _ c7, tC (eF (nt h6)), tC (nt h6)]
  cases r8
  ·exact (o28 (d := .bool false) (E2 ++ [tF, tF, tF, tF, tT, tF, tF, tF, tF, tT, tF, tF, tF, tF, tT, tF, tF, tF, tF, tT, tT]) (by kernel_rfl)).to (by clear E1 E2; (try simp only [sl0, wk, wkL, wkO, eqCells, eqCell, mayX, regM, mayS, longM, widthM, jumpM, ccM] at *); (simp [wk, wkL, wkO, eqCells, eqCell, mayX, regM, mayS, longM, widthM, jumpM, ccM, *]; done))
  have c10 := @reg_ok src
  generalize g12 : regM src = r11 at c10
  let E3 : EL := E2 ++ [tT, tT, tT, .ret _ _ _ c10, tT, tF]
  cases r11
  ·exact (o28 (d := .bool false) (E3 ++ [tF, tF, tF, tF, tT, tF, tF, tF, tF, tT, tF, tF, tF, tF, tT, tT]) (by kernel_rfl)).to (by clear E1 E2 E3; (try simp only [sl0, wk, wkL, wkO, eqCells, eqCell, mayX, regM, mayS, longM, widthM, jumpM, ccM] at *); (simp [wk, wkL, wkO, eqCells, eqCell, mayX, regM, mayS, longM, widthM, jumpM, ccM, *]; done))
  have c13 := @reg_ok base
  generalize g15 : regM base = r14 at c13
  let E4 : EL := E3 ++ [tT, tT, tT, .ret _ _ _ c13, tT, tF]
  cases r14
  ·exact (o28 (d := .bool false) (E4 ++ [tF, tF, tF, tF, tT, tF, tF, tF, tF, tT, tT]) (by kernel_rfl)).to (by clear E1 E2 E3 E4; (try simp only [sl0, wk, wkL, wkO, eqCells, eqCell, mayX, regM, mayS, longM, widthM, jumpM, ccM] at *); (simp [wk, wkL, wkO, eqCells, eqCell, mayX, regM, mayS, longM, widthM, jumpM, ccM, *]; done))
  have c16 := @within_ok disp (-2147483648) 2147483647
  let E5 : EL := E4 ++ [tT, tT, tT, .ret _ _ _ c16, tT, tF]
  rcases bft (decide (disp < (-2147483648))) with h17 | h17
  ·exact (o28 (d := .bool false) (E5 ++ List.replicate 4 (tC (eF (nt (andF (y := decide (disp ≤ 2147483647)) (leL (-2147483648) h17))))) ++ [tC (nt (andF (y := decide (disp ≤ 2147483647)) (leL (-2147483648) h17))), tT]) (by kernel_rfl)).to (by clear E1 E2 E3 E4 E5; (try simp only [sl0, wk, wkL, wkO, eqCells, eqCell, mayX, regM, mayS, longM, widthM, jumpM, ccM] at *); (simp [wk, wkL, wkO, eqCells, eqCell, mayX, regM, mayS, longM, widthM, jumpM, ccM, *]; omega))
  rcases bft (decide (disp < 2147483648)) with h18 | h18
  ·have c19 := @within_ok imm (-2147483648) 2147483647
   let E6 : EL := E5 ++ List.replicate 3 (tC (eF (nt (andT (leL (-2147483648) h17) (leC 2147483647 h18))))) ++ [.ret _ _ _ c19, tC (eF (nt (andT (leL (-2147483648) h17) (leC 2147483647 h18)))), tC (nt (andT (leL (-2147483648) h17) (leC 2147483647 h18)))]
   rcases bft (decide (imm < (-2147483648))) with h20 | h20
   ·exact (o28 (d := .bool false) (E6 ++ [tC (nt (andF (y := decide (imm ≤ 2147483647)) (leL (-2147483648) h20)))]) (by kernel_rfl)).to (by clear E1 E2 E3 E4 E5 E6; (try simp only [sl0, wk, wkL, wkO, eqCells, eqCell, mayX, regM, mayS, longM, widthM, jumpM, ccM] at *); (simp [wk, wkL, wkO, eqCells, eqCell, mayX, regM, mayS, longM, widthM, jumpM, ccM, *]; omega))
   rcases bft (decide (imm < 2147483648)) with h21 | h21
   ·let E7 : EL := E6 ++ [tC (nt (andT (leL (-2147483648) h20) (leC 2147483647 h21)))]
    by_cases h22 : w = 32
    ·subst h22
     have c23 := @cond_ok cc
     generalize g25 : ccM cc = r24 at c23
     exact (o28 (d := .bool r24) (E7 ++ [tF, tF, tF, tT, tF, tF, tF, tF, tF, tT, tF, tF, tF, tF, tF, tT, tT, tT, tT, .ret _ _ _ c23, tT]) (by kernel_rfl)).to (by clear E1 E2 E3 E4 E5 E6 E7; (try simp only [sl0, wk, wkL, wkO, eqCells, eqCell, mayX, regM, mayS, longM, widthM, jumpM, ccM] at *); (rw [Bool.eq_iff_iff]; simp [wk, wkL, wkO, eqCells, eqCell, mayX, regM, mayS, longM, widthM, jumpM, ccM, *]; grind))
    let E8 : EL := E7 ++ List.replicate 3 (tC (eF (neOf h22))) ++ [tC (neOf h22)] ++ List.replicate 4 (tC (eF (neOf h22)))
    by_cases h26 : w = 8
    ·subst h26
     have c27 := @within_ok imm (-128) 127
     exact (o28 (d := .bool false) (E8 ++ [tT, tT, tT, .ret _ _ _ c27, tT, tT, tF, tF, tF, tF, tF, tF, tT, tF, tF, tF, tF]) (by kernel_rfl)).to (by clear E1 E2 E3 E4 E5 E6 E7 E8; (try simp only [sl0, wk, wkL, wkO, eqCells, eqCell, mayX, regM, mayS, longM, widthM, jumpM, ccM] at *); (simp [wk, wkL, wkO, eqCells, eqCell, mayX, regM, mayS, longM, widthM, jumpM, ccM, *]; done))
    let E9 : EL := E8 ++ List.replicate 3 (tC (eT (neOf h26))) ++ [tC (eF (neOf h22)), tC (neOf h26), tC (neOf h22), tF, tF, tF, tF, tF, tT]
    by_cases h28 : w = 64
    ·subst h28
     have c29 := @cond_ok cc
     generalize g31 : ccM cc = r30 at c29
     exact (o28 (d := .bool r30) (E9 ++ [tT, tT, tT, .ret _ _ _ c29, tT]) (by kernel_rfl)).to (by clear E1 E2 E3 E4 E5 E6 E7 E8 E9; (try simp only [sl0, wk, wkL, wkO, eqCells, eqCell, mayX, regM, mayS, longM, widthM, jumpM, ccM] at *); (rw [Bool.eq_iff_iff]; simp [wk, wkL, wkO, eqCells, eqCell, mayX, regM, mayS, longM, widthM, jumpM, ccM, *]; grind))
    exact (o28 (d := .bool false) (E9 ++ List.replicate 3 (tC (eT (neOf h28))) ++ [tC (neOf h28)]) (by kernel_rfl)).to (by clear E1 E2 E3 E4 E5 E6 E7 E8 E9; (try simp only [sl0, wk, wkL, wkO, eqCells, eqCell, mayX, regM, mayS, longM, widthM, jumpM, ccM] at *); (simp [wk, wkL, wkO, eqCells, eqCell, mayX, regM, mayS, longM, widthM, jumpM, ccM, *]; done))
   exact (o28 (d := .bool false) (E6 ++ [tC (nt (andT (leL (-2147483648) h20) (leC 2147483647 h21)))]) (by kernel_rfl)).to (by clear E1 E2 E3 E4 E5 E6; (try simp only [sl0, wk, wkL, wkO, eqCells, eqCell, mayX, regM, mayS, longM, widthM, jumpM, ccM] at *); (simp [wk, wkL, wkO, eqCells, eqCell, mayX, regM, mayS, longM, widthM, jumpM, ccM, *]; omega))
  exact (o28 (d := .bool false) (E5 ++ List.replicate 4 (tC (eF (nt (andT (leL (-2147483648) h17) (leC 2147483647 h18))))) ++ [tC (nt (andT (leL (-2147483648) h17) (leC 2147483647 h18))), tT]) (by kernel_rfl)).to (by clear E1 E2 E3 E4 E5; (try simp only [sl0, wk, wkL, wkO, eqCells, eqCell, mayX, regM, mayS, longM, widthM, jumpM, ccM] at *); (simp [wk, wkL, wkO, eqCells, eqCell, mayX, regM, mayS, longM, widthM, jumpM, ccM, *]; omega))
 exact (o28 (d := .bool false) (E1 ++ List.replicate 4 (tC (eF (nt h6))) ++ [tC (nt h6), tF, tF, tF, tF, tT, tF, tF, tF, tF, tT, tF, tF, tF, tF, tT, tF, tF, tF, tF, tT, tT]) (by kernel_rfl)).to (by clear E1; (try simp only [sl0, wk, wkL, wkO, eqCells, eqCell, mayX, regM, mayS, longM, widthM, jumpM, ccM] at *); (rw [Bool.eq_iff_iff]; simp [wk, wkL, wkO, eqCells, eqCell, mayX, regM, mayS, longM, widthM, jumpM, ccM, *]; grind))
theorem mayX_7_ok : SpXMay20 7 := by
 intro op w dst src base disp imm cc ho h hin
 have c0 := @of_any_ok op ho
 rw [eq_of_beq h] at c0
 generalize g2 : codeM op = r1 at c0
 generalize g4 : numM op = r3 at c0
 have c5 := @bare_7_ok op w dst src base disp imm cc 7 (rfl : true = true)
 let E1 : EL := ([.ret _ _ _ c0] ++ List.replicate 4 (tC (eF (nt hin))) ++ [.ret _ _ _ c5, tC (eF (nt hin)), tC (eF (nt hin)), .flat _ _ flat_X, tC (nt hin)])
 rcases bft (eqCells [.int .i8 0, .int .i8 0, .int .i8 0, .int .i8 src, .int .i8 0, .int .i64 0, .int .i64 imm, .int .i8 cc] [.int .i8 0, .int .i8 0, .int .i8 0, .int .i8 0, .int .i8 0, .int .i64 0, .int .i64 0, .int .i8 0]) with h6 | h6
 ·have c7 := @reg_ok dst
  generalize g9 : regM dst = r8 at c7
  let E2 : EL := E1 ++ List.replicate 3 (tC (eF (nt h6))) ++ [.ret _ _ _ c7, tC (eF (nt h6)), tC (nt h6)]
  cases r8
  ·exact (o28 (d := .bool false) (E2 ++ [tF, tF, tF, tF, tT, tF, tF, tF, tF, tT, tF, tF, tF, tF, tT, tF, tF, tF, tF, tT, tT]) (by kernel_rfl)).to (by clear E1 E2; (try simp only [sl0, wk, wkL, wkO, eqCells, eqCell, mayX, regM, mayS, longM, widthM, jumpM, ccM] at *); (simp [wk, wkL, wkO, eqCells, eqCell, mayX, regM, mayS, longM, widthM, jumpM, ccM, *]; done))
  have c10 := @reg_ok src
  generalize g12 : regM src = r11 at c10
  let E3 : EL := E2 ++ [tT, tT, tT, .ret _ _ _ c10, tT, tF]
  cases r11
  ·exact (o28 (d := .bool false) (E3 ++ [tF, tF, tF, tF, tT, tF, tF, tF, tF, tT, tF, tF, tF, tF, tT, tT]) (by kernel_rfl)).to (by clear E1 E2 E3; (try simp only [sl0, wk, wkL, wkO, eqCells, eqCell, mayX, regM, mayS, longM, widthM, jumpM, ccM] at *); (simp [wk, wkL, wkO, eqCells, eqCell, mayX, regM, mayS, longM, widthM, jumpM, ccM, *]; done))
  have c13 := @reg_ok base
  generalize g15 : regM base = r14 at c13
  let E4 : EL := E3 ++ [tT, tT, tT, .ret _ _ _ c13, tT, tF]
  cases r14
  ·exact (o28 (d := .bool false) (E4 ++ [tF, tF, tF, tF, tT, tF, tF, tF, tF, tT, tT]) (by kernel_rfl)).to (by clear E1 E2 E3 E4; (try simp only [sl0, wk, wkL, wkO, eqCells, eqCell, mayX, regM, mayS, longM, widthM, jumpM, ccM] at *); (simp [wk, wkL, wkO, eqCells, eqCell, mayX, regM, mayS, longM, widthM, jumpM, ccM, *]; done))
  have c16 := @within_ok disp (-2147483648) 2147483647
  let E5 : EL := E4 ++ [tT, tT, tT, .ret _ _ _ c16, tT, tF]
  rcases bft (decide (disp < (-2147483648))) with h17 | h17
  ·exact (o28 (d := .bool false) (E5 ++ List.replicate 4 (tC (eF (nt (andF (y := decide (disp ≤ 2147483647)) (leL (-2147483648) h17))))) ++ [tC (nt (andF (y := decide (disp ≤ 2147483647)) (leL (-2147483648) h17))), tT]) (by kernel_rfl)).to (by clear E1 E2 E3 E4 E5; (try simp only [sl0, wk, wkL, wkO, eqCells, eqCell, mayX, regM, mayS, longM, widthM, jumpM, ccM] at *); (simp [wk, wkL, wkO, eqCells, eqCell, mayX, regM, mayS, longM, widthM, jumpM, ccM, *]; omega))
  rcases bft (decide (disp < 2147483648)) with h18 | h18
  ·have c19 := @within_ok imm (-2147483648) 2147483647
   let E6 : EL := E5 ++ List.replicate 3 (tC (eF (nt (andT (leL (-2147483648) h17) (leC 2147483647 h18))))) ++ [.ret _ _ _ c19, tC (eF (nt (andT (leL (-2147483648) h17) (leC 2147483647 h18)))), tC (nt (andT (leL (-2147483648) h17) (leC 2147483647 h18)))]
   rcases bft (decide (imm < (-2147483648))) with h20 | h20
   ·exact (o28 (d := .bool false) (E6 ++ [tC (nt (andF (y := decide (imm ≤ 2147483647)) (leL (-2147483648) h20)))]) (by kernel_rfl)).to (by clear E1 E2 E3 E4 E5 E6; (try simp only [sl0, wk, wkL, wkO, eqCells, eqCell, mayX, regM, mayS, longM, widthM, jumpM, ccM] at *); (simp [wk, wkL, wkO, eqCells, eqCell, mayX, regM, mayS, longM, widthM, jumpM, ccM, *]; omega))
   rcases bft (decide (imm < 2147483648)) with h21 | h21
   ·let E7 : EL := E6 ++ [tC (nt (andT (leL (-2147483648) h20) (leC 2147483647 h21)))]
    by_cases h22 : w = 32
    ·subst h22
     have c23 := @width_ok 32
     exact (o28 (d := .bool true) (E7 ++ [tF, tF, tF, tT, tF, tF, tF, tF, tF, tT, tF, tF, tF, tF, tF, tF, tT, tT, .ret _ _ _ c23]) (by kernel_rfl)).to (by clear E1 E2 E3 E4 E5 E6 E7; (try simp only [sl0, wk, wkL, wkO, eqCells, eqCell, mayX, regM, mayS, longM, widthM, jumpM, ccM] at *); (rw [Bool.eq_iff_iff]; simp [wk, wkL, wkO, eqCells, eqCell, mayX, regM, mayS, longM, widthM, jumpM, ccM, *]; grind))
    let E8 : EL := E7 ++ List.replicate 3 (tC (eF (neOf h22))) ++ [tC (neOf h22)] ++ List.replicate 4 (tC (eF (neOf h22)))
    by_cases h24 : w = 8
    ·subst h24
     have c25 := @within_ok imm (-128) 127
     have c26 := @width_ok 8
     exact (o28 (d := .bool true) (E8 ++ [tT, tT, tT, .ret _ _ _ c25, tT, tT, tF, tF, tF, tF, tF, tF, tF, tT, tT, .ret _ _ _ c26]) (by kernel_rfl)).to (by clear E1 E2 E3 E4 E5 E6 E7 E8; (try simp only [sl0, wk, wkL, wkO, eqCells, eqCell, mayX, regM, mayS, longM, widthM, jumpM, ccM] at *); (rw [Bool.eq_iff_iff]; simp [wk, wkL, wkO, eqCells, eqCell, mayX, regM, mayS, longM, widthM, jumpM, ccM, *]; grind))
    have c27 := @width_ok w
    generalize g29 : widthM w = r28 at c27
    exact (o28 (d := .bool r28) (E8 ++ List.replicate 3 (tC (eT (neOf h24))) ++ [tC (eF (neOf h22)), tC (neOf h24), tC (neOf h22), tF, tF, tF, tF, tF, tF, tT, tT, .ret _ _ _ c27]) (by kernel_rfl)).to (by clear E1 E2 E3 E4 E5 E6 E7 E8; (try simp only [sl0, wk, wkL, wkO, eqCells, eqCell, mayX, regM, mayS, longM, widthM, jumpM, ccM] at *); (rw [Bool.eq_iff_iff]; simp [wk, wkL, wkO, eqCells, eqCell, mayX, regM, mayS, longM, widthM, jumpM, ccM, *]; grind))
   exact (o28 (d := .bool false) (E6 ++ [tC (nt (andT (leL (-2147483648) h20) (leC 2147483647 h21)))]) (by kernel_rfl)).to (by clear E1 E2 E3 E4 E5 E6; (try simp only [sl0, wk, wkL, wkO, eqCells, eqCell, mayX, regM, mayS, longM, widthM, jumpM, ccM] at *); (simp [wk, wkL, wkO, eqCells, eqCell, mayX, regM, mayS, longM, widthM, jumpM, ccM, *]; omega))
  exact (o28 (d := .bool false) (E5 ++ List.replicate 4 (tC (eF (nt (andT (leL (-2147483648) h17) (leC 2147483647 h18))))) ++ [tC (nt (andT (leL (-2147483648) h17) (leC 2147483647 h18))), tT]) (by kernel_rfl)).to (by clear E1 E2 E3 E4 E5; (try simp only [sl0, wk, wkL, wkO, eqCells, eqCell, mayX, regM, mayS, longM, widthM, jumpM, ccM] at *); (simp [wk, wkL, wkO, eqCells, eqCell, mayX, regM, mayS, longM, widthM, jumpM, ccM, *]; omega))
 exact (o28 (d := .bool false) (E1 ++ List.replicate 4 (tC (eF (nt h6))) ++ [tC (nt h6), tF, tF, tF, tF, tT, tF, tF, tF, tF, tT, tF, tF, tF, tF, tT, tF, tF, tF, tF, tT, tT]) (by kernel_rfl)).to (by clear E1; (try simp only [sl0, wk, wkL, wkO, eqCells, eqCell, mayX, regM, mayS, longM, widthM, jumpM, ccM] at *); (rw [Bool.eq_iff_iff]; simp [wk, wkL, wkO, eqCells, eqCell, mayX, regM, mayS, longM, widthM, jumpM, ccM, *]; grind))
theorem mayX_8_ok : SpXMay20 8 := by
 intro op w dst src base disp imm cc ho h hin
 have c0 := @of_any_ok op ho
 rw [eq_of_beq h] at c0
 generalize g2 : codeM op = r1 at c0
 generalize g4 : numM op = r3 at c0
 have c5 := @bare_8_ok op w dst src base disp imm cc 8 (rfl : true = true)
 let E1 : EL := ([.ret _ _ _ c0] ++ List.replicate 4 (tC (eF (nt hin))) ++ [.ret _ _ _ c5, tC (eF (nt hin)), tC (eF (nt hin)), .flat _ _ flat_X, tC (nt hin)])
 rcases bft (eqCells [.int .i8 0, .int .i8 0, .int .i8 dst, .int .i8 0, .int .i8 0, .int .i64 0, .int .i64 imm, .int .i8 cc] [.int .i8 0, .int .i8 0, .int .i8 0, .int .i8 0, .int .i8 0, .int .i64 0, .int .i64 0, .int .i8 0]) with h6 | h6
 ·have c7 := @reg_ok dst
  generalize g9 : regM dst = r8 at c7
  let E2 : EL := E1 ++ List.replicate 3 (tC (eF (nt h6))) ++ [.ret _ _ _ c7, tC (eF (nt h6)), tC (nt h6)]
  cases r8
  ·exact (o28 (d := .bool false) (E2 ++ [tF, tF, tF, tF, tT, tF, tF, tF, tF, tT, tF, tF, tF, tF, tT, tF, tF, tF, tF, tT, tT]) (by kernel_rfl)).to (by clear E1 E2; (try simp only [sl0, wk, wkL, wkO, eqCells, eqCell, mayX, regM, mayS, longM, widthM, jumpM, ccM] at *); (simp [wk, wkL, wkO, eqCells, eqCell, mayX, regM, mayS, longM, widthM, jumpM, ccM, *]; done))
  have c10 := @reg_ok src
  generalize g12 : regM src = r11 at c10
  let E3 : EL := E2 ++ [tT, tT, tT, .ret _ _ _ c10, tT, tF]
  cases r11
  ·exact (o28 (d := .bool false) (E3 ++ [tF, tF, tF, tF, tT, tF, tF, tF, tF, tT, tF, tF, tF, tF, tT, tT]) (by kernel_rfl)).to (by clear E1 E2 E3; (try simp only [sl0, wk, wkL, wkO, eqCells, eqCell, mayX, regM, mayS, longM, widthM, jumpM, ccM] at *); (simp [wk, wkL, wkO, eqCells, eqCell, mayX, regM, mayS, longM, widthM, jumpM, ccM, *]; done))
  have c13 := @reg_ok base
  generalize g15 : regM base = r14 at c13
  let E4 : EL := E3 ++ [tT, tT, tT, .ret _ _ _ c13, tT, tF]
  cases r14
  ·exact (o28 (d := .bool false) (E4 ++ [tF, tF, tF, tF, tT, tF, tF, tF, tF, tT, tT]) (by kernel_rfl)).to (by clear E1 E2 E3 E4; (try simp only [sl0, wk, wkL, wkO, eqCells, eqCell, mayX, regM, mayS, longM, widthM, jumpM, ccM] at *); (simp [wk, wkL, wkO, eqCells, eqCell, mayX, regM, mayS, longM, widthM, jumpM, ccM, *]; done))
  have c16 := @within_ok disp (-2147483648) 2147483647
  let E5 : EL := E4 ++ [tT, tT, tT, .ret _ _ _ c16, tT, tF]
  rcases bft (decide (disp < (-2147483648))) with h17 | h17
  ·exact (o28 (d := .bool false) (E5 ++ List.replicate 4 (tC (eF (nt (andF (y := decide (disp ≤ 2147483647)) (leL (-2147483648) h17))))) ++ [tC (nt (andF (y := decide (disp ≤ 2147483647)) (leL (-2147483648) h17))), tT]) (by kernel_rfl)).to (by clear E1 E2 E3 E4 E5; (try simp only [sl0, wk, wkL, wkO, eqCells, eqCell, mayX, regM, mayS, longM, widthM, jumpM, ccM] at *); (simp [wk, wkL, wkO, eqCells, eqCell, mayX, regM, mayS, longM, widthM, jumpM, ccM, *]; omega))
  rcases bft (decide (disp < 2147483648)) with h18 | h18
  ·have c19 := @within_ok imm (-2147483648) 2147483647
   let E6 : EL := E5 ++ List.replicate 3 (tC (eF (nt (andT (leL (-2147483648) h17) (leC 2147483647 h18))))) ++ [.ret _ _ _ c19, tC (eF (nt (andT (leL (-2147483648) h17) (leC 2147483647 h18)))), tC (nt (andT (leL (-2147483648) h17) (leC 2147483647 h18)))]
   rcases bft (decide (imm < (-2147483648))) with h20 | h20
   ·exact (o28 (d := .bool false) (E6 ++ [tC (nt (andF (y := decide (imm ≤ 2147483647)) (leL (-2147483648) h20)))]) (by kernel_rfl)).to (by clear E1 E2 E3 E4 E5 E6; (try simp only [sl0, wk, wkL, wkO, eqCells, eqCell, mayX, regM, mayS, longM, widthM, jumpM, ccM] at *); (simp [wk, wkL, wkO, eqCells, eqCell, mayX, regM, mayS, longM, widthM, jumpM, ccM, *]; omega))
   rcases bft (decide (imm < 2147483648)) with h21 | h21
   ·let E7 : EL := E6 ++ [tC (nt (andT (leL (-2147483648) h20) (leC 2147483647 h21)))]
    by_cases h22 : w = 32
    ·subst h22
     have c23 := @width_ok 32
     exact (o28 (d := .bool true) (E7 ++ [tF, tF, tF, tT, tF, tF, tF, tF, tF, tT, tF, tF, tF, tF, tF, tF, tF, tT, .ret _ _ _ c23]) (by kernel_rfl)).to (by clear E1 E2 E3 E4 E5 E6 E7; (try simp only [sl0, wk, wkL, wkO, eqCells, eqCell, mayX, regM, mayS, longM, widthM, jumpM, ccM] at *); (rw [Bool.eq_iff_iff]; simp [wk, wkL, wkO, eqCells, eqCell, mayX, regM, mayS, longM, widthM, jumpM, ccM, *]; grind))
    let E8 : EL := E7 ++ List.replicate 3 (tC (eF (neOf h22))) ++ [tC (neOf h22)] ++ List.replicate 4 (tC (eF (neOf h22)))
    by_cases h24 : w = 8
    ·subst h24
     have c25 := @within_ok imm (-128) 127
     have c26 := @width_ok 8
     exact (o28 (d := .bool true) (E8 ++ [tT, tT, tT, .ret _ _ _ c25, tT, tT] ++ List.replicate 8 tF ++ [tT, .ret _ _ _ c26]) (by kernel_rfl)).to (by clear E1 E2 E3 E4 E5 E6 E7 E8; (try simp only [sl0, wk, wkL, wkO, eqCells, eqCell, mayX, regM, mayS, longM, widthM, jumpM, ccM] at *); (rw [Bool.eq_iff_iff]; simp [wk, wkL, wkO, eqCells, eqCell, mayX, regM, mayS, longM, widthM, jumpM, ccM, *]; grind))
    have c27 := @width_ok w
    generalize g29 : widthM w = r28 at c27
    exact (o28 (d := .bool r28) (E8 ++ List.replicate 3 (tC (eT (neOf h24))) ++ [tC (eF (neOf h22)), tC (neOf h24), tC (neOf h22), tF, tF, tF, tF, tF, tF, tF, tT, .ret _ _ _ c27]) (by kernel_rfl)).to (by clear E1 E2 E3 E4 E5 E6 E7 E8; (try simp only [sl0, wk, wkL, wkO, eqCells, eqCell, mayX, regM, mayS, longM, widthM, jumpM, ccM] at *); (rw [Bool.eq_iff_iff]; simp [wk, wkL, wkO, eqCells, eqCell, mayX, regM, mayS, longM, widthM, jumpM, ccM, *]; grind))
   exact (o28 (d := .bool false) (E6 ++ [tC (nt (andT (leL (-2147483648) h20) (leC 2147483647 h21)))]) (by kernel_rfl)).to (by clear E1 E2 E3 E4 E5 E6; (try simp only [sl0, wk, wkL, wkO, eqCells, eqCell, mayX, regM, mayS, longM, widthM, jumpM, ccM] at *); (simp [wk, wkL, wkO, eqCells, eqCell, mayX, regM, mayS, longM, widthM, jumpM, ccM, *]; omega))
  exact (o28 (d := .bool false) (E5 ++ List.replicate 4 (tC (eF (nt (andT (leL (-2147483648) h17) (leC 2147483647 h18))))) ++ [tC (nt (andT (leL (-2147483648) h17) (leC 2147483647 h18))), tT]) (by kernel_rfl)).to (by clear E1 E2 E3 E4 E5; (try simp only [sl0, wk, wkL, wkO, eqCells, eqCell, mayX, regM, mayS, longM, widthM, jumpM, ccM] at *); (simp [wk, wkL, wkO, eqCells, eqCell, mayX, regM, mayS, longM, widthM, jumpM, ccM, *]; omega))
 exact (o28 (d := .bool false) (E1 ++ List.replicate 4 (tC (eF (nt h6))) ++ [tC (nt h6), tF, tF, tF, tF, tT, tF, tF, tF, tF, tT, tF, tF, tF, tF, tT, tF, tF, tF, tF, tT, tT]) (by kernel_rfl)).to (by clear E1; (try simp only [sl0, wk, wkL, wkO, eqCells, eqCell, mayX, regM, mayS, longM, widthM, jumpM, ccM] at *); (rw [Bool.eq_iff_iff]; simp [wk, wkL, wkO, eqCells, eqCell, mayX, regM, mayS, longM, widthM, jumpM, ccM, *]; grind))
end Go.Proofs.YtcngafhpodeenaaGreat

namespace Go.Proofs.YtcngafhpodeenaaGreat
open Go Go.Ev
set_option maxRecDepth 100000
set_option maxHeartbeats 8000000
def SpXMay30 (k0_ : Int) : Prop := ∀ (op w dst src base disp imm cc : Int) (ho : op ≤ 127) (h : (shapeM op == k0_) = true) (hin : decide (0 ≤ op ∧ op ≤ 31) = true), Ret Tryz.prog 28 ([xD op w dst src base disp imm cc]) (.bool (mayX op w dst src base disp imm cc))
theorem mayX_9_ok : SpXMay30 9 := by
 intro op w dst src base disp imm cc ho h hin
 have c0 := @of_any_ok op ho
 rw [eq_of_beq h] at c0
 generalize g2 : codeM op = r1 at c0
 generalize g4 : numM op = r3 at c0
 have c5 := @bare_9_ok op w dst src base disp imm cc 9 (rfl : true = true)
 let E1 : EL := ([.ret _ _ _ c0] ++ List.replicate 4 (tC (eF (nt hin))) ++ [.ret _ _ _ c5, tC (eF (nt hin)), tC (eF (nt hin)), .flat _ _ flat_X, tC (nt hin)])
 rcases bft (eqCells [.int .i8 0, .int .i8 0, .int .i8 dst, .int .i8 src, .int .i8 base, .int .i64 disp, .int .i64 0, .int .i8 cc] [.int .i8 0, .int .i8 0, .int .i8 0, .int .i8 0, .int .i8 0, .int .i64 0, .int .i64 0, .int .i8 0]) with h6 | h6
 ·have c7 := @reg_ok dst
  generalize g9 : regM dst = r8 at c7
  let E2 : EL := E1 ++ List.replicate 3 (tC (eF (nt h6))) ++ [.ret _ _ _ c7, tC (eF (nt h6)), tC (nt h6)]
  cases r8
  ·exact (o28 (d := .bool false) (E2 ++ [tF, tF, tF, tF, tT, tF, tF, tF, tF, tT, tF, tF, tF, tF, tT, tF, tF, tF, tF, tT, tT]) (by kernel_rfl)).to (by clear E1 E2; (try simp only [sl0, wk, wkL, wkO, eqCells, eqCell, mayX, regM, mayS, longM, widthM, jumpM, ccM] at *); (simp [wk, wkL, wkO, eqCells, eqCell, mayX, regM, mayS, longM, widthM, jumpM, ccM, *]; done))
  have c10 := @reg_ok src
  generalize g12 : regM src = r11 at c10
  let E3 : EL := E2 ++ [tT, tT, tT, .ret _ _ _ c10, tT, tF]
  cases r11
  ·exact (o28 (d := .bool false) (E3 ++ [tF, tF, tF, tF, tT, tF, tF, tF, tF, tT, tF, tF, tF, tF, tT, tT]) (by kernel_rfl)).to (by clear E1 E2 E3; (try simp only [sl0, wk, wkL, wkO, eqCells, eqCell, mayX, regM, mayS, longM, widthM, jumpM, ccM] at *); (simp [wk, wkL, wkO, eqCells, eqCell, mayX, regM, mayS, longM, widthM, jumpM, ccM, *]; done))
  have c13 := @reg_ok base
  generalize g15 : regM base = r14 at c13
  let E4 : EL := E3 ++ [tT, tT, tT, .ret _ _ _ c13, tT, tF]
  cases r14
  ·exact (o28 (d := .bool false) (E4 ++ [tF, tF, tF, tF, tT, tF, tF, tF, tF, tT, tT]) (by kernel_rfl)).to (by clear E1 E2 E3 E4; (try simp only [sl0, wk, wkL, wkO, eqCells, eqCell, mayX, regM, mayS, longM, widthM, jumpM, ccM] at *); (simp [wk, wkL, wkO, eqCells, eqCell, mayX, regM, mayS, longM, widthM, jumpM, ccM, *]; done))
  have c16 := @within_ok disp (-2147483648) 2147483647
  let E5 : EL := E4 ++ [tT, tT, tT, .ret _ _ _ c16, tT, tF]
  rcases bft (decide (disp < (-2147483648))) with h17 | h17
  ·exact (o28 (d := .bool false) (E5 ++ List.replicate 4 (tC (eF (nt (andF (y := decide (disp ≤ 2147483647)) (leL (-2147483648) h17))))) ++ [tC (nt (andF (y := decide (disp ≤ 2147483647)) (leL (-2147483648) h17))), tT]) (by kernel_rfl)).to (by clear E1 E2 E3 E4 E5; (try simp only [sl0, wk, wkL, wkO, eqCells, eqCell, mayX, regM, mayS, longM, widthM, jumpM, ccM] at *); (simp [wk, wkL, wkO, eqCells, eqCell, mayX, regM, mayS, longM, widthM, jumpM, ccM, *]; omega))
  rcases bft (decide (disp < 2147483648)) with h18 | h18
  ·have c19 := @within_ok imm (-2147483648) 2147483647
   let E6 : EL := E5 ++ List.replicate 3 (tC (eF (nt (andT (leL (-2147483648) h17) (leC 2147483647 h18))))) ++ [.ret _ _ _ c19, tC (eF (nt (andT (leL (-2147483648) h17) (leC 2147483647 h18)))), tC (nt (andT (leL (-2147483648) h17) (leC 2147483647 h18)))]
   rcases bft (decide (imm < (-2147483648))) with h20 | h20
   ·exact (o28 (d := .bool false) (E6 ++ [tC (nt (andF (y := decide (imm ≤ 2147483647)) (leL (-2147483648) h20)))]) (by kernel_rfl)).to (by clear E1 E2 E3 E4 E5 E6; (try simp only [sl0, wk, wkL, wkO, eqCells, eqCell, mayX, regM, mayS, longM, widthM, jumpM, ccM] at *); (simp [wk, wkL, wkO, eqCells, eqCell, mayX, regM, mayS, longM, widthM, jumpM, ccM, *]; omega))
   rcases bft (decide (imm < 2147483648)) with h21 | h21
   ·let E7 : EL := E6 ++ [tC (nt (andT (leL (-2147483648) h20) (leC 2147483647 h21)))]
    by_cases h22 : w = 32
    ·subst h22
     exact (o28 (d := .bool true) (E7 ++ [tF, tF, tF, tT, tF, tF, tF, tF, tF, tT] ++ List.replicate 8 tF ++ [tT]) (by kernel_rfl)).to (by clear E1 E2 E3 E4 E5 E6 E7; (try simp only [sl0, wk, wkL, wkO, eqCells, eqCell, mayX, regM, mayS, longM, widthM, jumpM, ccM] at *); (rw [Bool.eq_iff_iff]; simp [wk, wkL, wkO, eqCells, eqCell, mayX, regM, mayS, longM, widthM, jumpM, ccM, *]; grind))
    let E8 : EL := E7 ++ List.replicate 3 (tC (eF (neOf h22))) ++ [tC (neOf h22)] ++ List.replicate 4 (tC (eF (neOf h22)))
    by_cases h23 : w = 8
    ·subst h23
     have c24 := @within_ok imm (-128) 127
     exact (o28 (d := .bool (decide ((-128) ≤ imm) && decide (imm ≤ 127))) (E8 ++ [tT, tT, tT, .ret _ _ _ c24, tT, tT] ++ List.replicate 9 tF ++ [tT]) (by kernel_rfl)).to (by clear E1 E2 E3 E4 E5 E6 E7 E8; (try simp only [sl0, wk, wkL, wkO, eqCells, eqCell, mayX, regM, mayS, longM, widthM, jumpM, ccM] at *); (rw [Bool.eq_iff_iff]; simp [wk, wkL, wkO, eqCells, eqCell, mayX, regM, mayS, longM, widthM, jumpM, ccM, *]; grind))
    exact (o28 (d := .bool false) (E8 ++ List.replicate 3 (tC (eT (neOf h23))) ++ [tC (eF (neOf h22)), tC (neOf h23), tC (neOf h22)] ++ List.replicate 8 tF ++ [tT]) (by kernel_rfl)).to (by clear E1 E2 E3 E4 E5 E6 E7 E8; (try simp only [sl0, wk, wkL, wkO, eqCells, eqCell, mayX, regM, mayS, longM, widthM, jumpM, ccM] at *); (simp [wk, wkL, wkO, eqCells, eqCell, mayX, regM, mayS, longM, widthM, jumpM, ccM, *]; done))
   exact (o28 (d := .bool false) (E6 ++ [tC (nt (andT (leL (-2147483648) h20) (leC 2147483647 h21)))]) (by kernel_rfl)).to (by clear E1 E2 E3 E4 E5 E6; (try simp only [sl0, wk, wkL, wkO, eqCells, eqCell, mayX, regM, mayS, longM, widthM, jumpM, ccM] at *); (simp [wk, wkL, wkO, eqCells, eqCell, mayX, regM, mayS, longM, widthM, jumpM, ccM, *]; omega))
  exact (o28 (d := .bool false) (E5 ++ List.replicate 4 (tC (eF (nt (andT (leL (-2147483648) h17) (leC 2147483647 h18))))) ++ [tC (nt (andT (leL (-2147483648) h17) (leC 2147483647 h18))), tT]) (by kernel_rfl)).to (by clear E1 E2 E3 E4 E5; (try simp only [sl0, wk, wkL, wkO, eqCells, eqCell, mayX, regM, mayS, longM, widthM, jumpM, ccM] at *); (simp [wk, wkL, wkO, eqCells, eqCell, mayX, regM, mayS, longM, widthM, jumpM, ccM, *]; omega))
 exact (o28 (d := .bool false) (E1 ++ List.replicate 4 (tC (eF (nt h6))) ++ [tC (nt h6), tF, tF, tF, tF, tT, tF, tF, tF, tF, tT, tF, tF, tF, tF, tT, tF, tF, tF, tF, tT, tT]) (by kernel_rfl)).to (by clear E1; (try simp only [sl0, wk, wkL, wkO, eqCells, eqCell, mayX, regM, mayS, longM, widthM, jumpM, ccM] at *); (rw [Bool.eq_iff_iff]; simp [wk, wkL, wkO, eqCells, eqCell, mayX, regM, mayS, longM, widthM, jumpM, ccM, *]; grind))
theorem mayX_10_ok : SpXMay30 10 := by
 intro op w dst src base disp imm cc ho h hin
 have c0 := @of_any_ok op ho
 rw [eq_of_beq h] at c0
 generalize g2 : codeM op = r1 at c0
 generalize g4 : numM op = r3 at c0
 have c5 := @bare_10_ok op w dst src base disp imm cc 10 (rfl : true = true)
 let E1 : EL := ([.ret _ _ _ c0] ++ List.replicate 4 (tC (eF (nt hin))) ++ [.ret _ _ _ c5, tC (eF (nt hin)), tC (eF (nt hin)), .flat _ _ flat_X, tC (nt hin)])
 rcases bft (eqCells [.int .i8 0, .int .i8 0, .int .i8 dst, .int .i8 src, .int .i8 base, .int .i64 disp, .int .i64 0, .int .i8 0] [.int .i8 0, .int .i8 0, .int .i8 0, .int .i8 0, .int .i8 0, .int .i64 0, .int .i64 0, .int .i8 0]) with h6 | h6
 ·have c7 := @reg_ok dst
  generalize g9 : regM dst = r8 at c7
  let E2 : EL := E1 ++ List.replicate 3 (tC (eF (nt h6))) ++ [.ret _ _ _ c7, tC (eF (nt h6)), tC (nt h6)]
  cases r8
  ·exact (o28 (d := .bool false) (E2 ++ [tF, tF, tF, tF, tT, tF, tF, tF, tF, tT, tF, tF, tF, tF, tT, tF, tF, tF, tF, tT, tT]) (by kernel_rfl)).to (by clear E1 E2; (try simp only [sl0, wk, wkL, wkO, eqCells, eqCell, mayX, regM, mayS, longM, widthM, jumpM, ccM] at *); (simp [wk, wkL, wkO, eqCells, eqCell, mayX, regM, mayS, longM, widthM, jumpM, ccM, *]; done))
  have c10 := @reg_ok src
  generalize g12 : regM src = r11 at c10
  let E3 : EL := E2 ++ [tT, tT, tT, .ret _ _ _ c10, tT, tF]
  cases r11
  ·exact (o28 (d := .bool false) (E3 ++ [tF, tF, tF, tF, tT, tF, tF, tF, tF, tT, tF, tF, tF, tF, tT, tT]) (by kernel_rfl)).to (by clear E1 E2 E3; (try simp only [sl0, wk, wkL, wkO, eqCells, eqCell, mayX, regM, mayS, longM, widthM, jumpM, ccM] at *); (simp [wk, wkL, wkO, eqCells, eqCell, mayX, regM, mayS, longM, widthM, jumpM, ccM, *]; done))
  have c13 := @reg_ok base
  generalize g15 : regM base = r14 at c13
  let E4 : EL := E3 ++ [tT, tT, tT, .ret _ _ _ c13, tT, tF]
  cases r14
  ·exact (o28 (d := .bool false) (E4 ++ [tF, tF, tF, tF, tT, tF, tF, tF, tF, tT, tT]) (by kernel_rfl)).to (by clear E1 E2 E3 E4; (try simp only [sl0, wk, wkL, wkO, eqCells, eqCell, mayX, regM, mayS, longM, widthM, jumpM, ccM] at *); (simp [wk, wkL, wkO, eqCells, eqCell, mayX, regM, mayS, longM, widthM, jumpM, ccM, *]; done))
  have c16 := @within_ok disp (-2147483648) 2147483647
  let E5 : EL := E4 ++ [tT, tT, tT, .ret _ _ _ c16, tT, tF]
  rcases bft (decide (disp < (-2147483648))) with h17 | h17
  ·exact (o28 (d := .bool false) (E5 ++ List.replicate 4 (tC (eF (nt (andF (y := decide (disp ≤ 2147483647)) (leL (-2147483648) h17))))) ++ [tC (nt (andF (y := decide (disp ≤ 2147483647)) (leL (-2147483648) h17))), tT]) (by kernel_rfl)).to (by clear E1 E2 E3 E4 E5; (try simp only [sl0, wk, wkL, wkO, eqCells, eqCell, mayX, regM, mayS, longM, widthM, jumpM, ccM] at *); (simp [wk, wkL, wkO, eqCells, eqCell, mayX, regM, mayS, longM, widthM, jumpM, ccM, *]; omega))
  rcases bft (decide (disp < 2147483648)) with h18 | h18
  ·have c19 := @within_ok imm (-2147483648) 2147483647
   let E6 : EL := E5 ++ List.replicate 3 (tC (eF (nt (andT (leL (-2147483648) h17) (leC 2147483647 h18))))) ++ [.ret _ _ _ c19, tC (eF (nt (andT (leL (-2147483648) h17) (leC 2147483647 h18)))), tC (nt (andT (leL (-2147483648) h17) (leC 2147483647 h18)))]
   rcases bft (decide (imm < (-2147483648))) with h20 | h20
   ·exact (o28 (d := .bool false) (E6 ++ [tC (nt (andF (y := decide (imm ≤ 2147483647)) (leL (-2147483648) h20)))]) (by kernel_rfl)).to (by clear E1 E2 E3 E4 E5 E6; (try simp only [sl0, wk, wkL, wkO, eqCells, eqCell, mayX, regM, mayS, longM, widthM, jumpM, ccM] at *); (simp [wk, wkL, wkO, eqCells, eqCell, mayX, regM, mayS, longM, widthM, jumpM, ccM, *]; omega))
   rcases bft (decide (imm < 2147483648)) with h21 | h21
   ·let E7 : EL := E6 ++ [tC (nt (andT (leL (-2147483648) h20) (leC 2147483647 h21)))]
    by_cases h22 : w = 32
    ·subst h22
     have c23 := @cond_ok cc
     generalize g25 : ccM cc = r24 at c23
     exact (o28 (d := .bool r24) (E7 ++ [tF, tF, tF, tT, tF, tF, tF, tF, tF, tT] ++ List.replicate 9 tF ++ [tT, tT, tT, tT, .ret _ _ _ c23, tT]) (by kernel_rfl)).to (by clear E1 E2 E3 E4 E5 E6 E7; (try simp only [sl0, wk, wkL, wkO, eqCells, eqCell, mayX, regM, mayS, longM, widthM, jumpM, ccM] at *); (rw [Bool.eq_iff_iff]; simp [wk, wkL, wkO, eqCells, eqCell, mayX, regM, mayS, longM, widthM, jumpM, ccM, *]; grind))
    let E8 : EL := E7 ++ List.replicate 3 (tC (eF (neOf h22))) ++ [tC (neOf h22)] ++ List.replicate 4 (tC (eF (neOf h22)))
    by_cases h26 : w = 8
    ·subst h26
     have c27 := @within_ok imm (-128) 127
     let E9 : EL := E8 ++ [tT, tT, tT, .ret _ _ _ c27, tT, tT] ++ List.replicate 10 tF ++ [tT]
     rcases bft (decide (imm < (-128))) with h28 | h28
     ·exact (o28 (d := .bool false) (E9 ++ List.replicate 3 (tC (eT (andF (y := decide (imm ≤ 127)) (leL (-128) h28)))) ++ [tC (andF (y := decide (imm ≤ 127)) (leL (-128) h28))]) (by kernel_rfl)).to (by clear E1 E2 E3 E4 E5 E6 E7 E8 E9; (try simp only [sl0, wk, wkL, wkO, eqCells, eqCell, mayX, regM, mayS, longM, widthM, jumpM, ccM] at *); (simp [wk, wkL, wkO, eqCells, eqCell, mayX, regM, mayS, longM, widthM, jumpM, ccM, *]; omega))
     rcases bft (decide (imm < 128)) with h29 | h29
     ·have c30 := @cond_ok cc
      generalize g32 : ccM cc = r31 at c30
      exact (o28 (d := .bool r31) (E9 ++ List.replicate 3 (tC (eT (andT (leL (-128) h28) (leC 127 h29)))) ++ [.ret _ _ _ c30, tC (andT (leL (-128) h28) (leC 127 h29))]) (by kernel_rfl)).to (by clear E1 E2 E3 E4 E5 E6 E7 E8 E9; (try simp only [sl0, wk, wkL, wkO, eqCells, eqCell, mayX, regM, mayS, longM, widthM, jumpM, ccM] at *); (rw [Bool.eq_iff_iff]; simp [wk, wkL, wkO, eqCells, eqCell, mayX, regM, mayS, longM, widthM, jumpM, ccM, *]; grind))
     exact (o28 (d := .bool false) (E9 ++ List.replicate 3 (tC (eT (andT (leL (-128) h28) (leC 127 h29)))) ++ [tC (andT (leL (-128) h28) (leC 127 h29))]) (by kernel_rfl)).to (by clear E1 E2 E3 E4 E5 E6 E7 E8 E9; (try simp only [sl0, wk, wkL, wkO, eqCells, eqCell, mayX, regM, mayS, longM, widthM, jumpM, ccM] at *); (simp [wk, wkL, wkO, eqCells, eqCell, mayX, regM, mayS, longM, widthM, jumpM, ccM, *]; omega))
    exact (o28 (d := .bool false) (E8 ++ List.replicate 3 (tC (eT (neOf h26))) ++ [tC (eF (neOf h22)), tC (neOf h26), tC (neOf h22)] ++ List.replicate 9 tF ++ [tT, tF, tF, tF, tF]) (by kernel_rfl)).to (by clear E1 E2 E3 E4 E5 E6 E7 E8; (try simp only [sl0, wk, wkL, wkO, eqCells, eqCell, mayX, regM, mayS, longM, widthM, jumpM, ccM] at *); (simp [wk, wkL, wkO, eqCells, eqCell, mayX, regM, mayS, longM, widthM, jumpM, ccM, *]; done))
   exact (o28 (d := .bool false) (E6 ++ [tC (nt (andT (leL (-2147483648) h20) (leC 2147483647 h21)))]) (by kernel_rfl)).to (by clear E1 E2 E3 E4 E5 E6; (try simp only [sl0, wk, wkL, wkO, eqCells, eqCell, mayX, regM, mayS, longM, widthM, jumpM, ccM] at *); (simp [wk, wkL, wkO, eqCells, eqCell, mayX, regM, mayS, longM, widthM, jumpM, ccM, *]; omega))
  exact (o28 (d := .bool false) (E5 ++ List.replicate 4 (tC (eF (nt (andT (leL (-2147483648) h17) (leC 2147483647 h18))))) ++ [tC (nt (andT (leL (-2147483648) h17) (leC 2147483647 h18))), tT]) (by kernel_rfl)).to (by clear E1 E2 E3 E4 E5; (try simp only [sl0, wk, wkL, wkO, eqCells, eqCell, mayX, regM, mayS, longM, widthM, jumpM, ccM] at *); (simp [wk, wkL, wkO, eqCells, eqCell, mayX, regM, mayS, longM, widthM, jumpM, ccM, *]; omega))
 exact (o28 (d := .bool false) (E1 ++ List.replicate 4 (tC (eF (nt h6))) ++ [tC (nt h6), tF, tF, tF, tF, tT, tF, tF, tF, tF, tT, tF, tF, tF, tF, tT, tF, tF, tF, tF, tT, tT]) (by kernel_rfl)).to (by clear E1; (try simp only [sl0, wk, wkL, wkO, eqCells, eqCell, mayX, regM, mayS, longM, widthM, jumpM, ccM] at *); (rw [Bool.eq_iff_iff]; simp [wk, wkL, wkO, eqCells, eqCell, mayX, regM, mayS, longM, widthM, jumpM, ccM, *]; grind))
theorem mayX_11_ok : SpXMay30 11 := by
 intro op w dst src base disp imm cc ho h hin
 have c0 := @of_any_ok op ho
 rw [eq_of_beq h] at c0
 generalize g2 : codeM op = r1 at c0
 generalize g4 : numM op = r3 at c0
 have c5 := @bare_11_ok op w dst src base disp imm cc 11 (rfl : true = true)
 let E1 : EL := ([.ret _ _ _ c0] ++ List.replicate 4 (tC (eF (nt hin))) ++ [.ret _ _ _ c5, tC (eF (nt hin)), tC (eF (nt hin)), .flat _ _ flat_X, tC (nt hin)])
 rcases bft (eqCells [.int .i8 0, .int .i8 w, .int .i8 dst, .int .i8 src, .int .i8 base, .int .i64 disp, .int .i64 imm, .int .i8 cc] [.int .i8 0, .int .i8 0, .int .i8 0, .int .i8 0, .int .i8 0, .int .i64 0, .int .i64 0, .int .i8 0]) with h6 | h6
 ·have c7 := @reg_ok dst
  generalize g9 : regM dst = r8 at c7
  let E2 : EL := E1 ++ List.replicate 3 (tC (eF (nt h6))) ++ [.ret _ _ _ c7, tC (eF (nt h6)), tC (nt h6)]
  cases r8
  ·exact (o28 (d := .bool false) (E2 ++ [tF, tF, tF, tF, tT, tF, tF, tF, tF, tT, tF, tF, tF, tF, tT, tF, tF, tF, tF, tT, tT]) (by kernel_rfl)).to (by clear E1 E2; (try simp only [sl0, wk, wkL, wkO, eqCells, eqCell, mayX, regM, mayS, longM, widthM, jumpM, ccM] at *); (simp [wk, wkL, wkO, eqCells, eqCell, mayX, regM, mayS, longM, widthM, jumpM, ccM, *]; done))
  have c10 := @reg_ok src
  generalize g12 : regM src = r11 at c10
  let E3 : EL := E2 ++ [tT, tT, tT, .ret _ _ _ c10, tT, tF]
  cases r11
  ·exact (o28 (d := .bool false) (E3 ++ [tF, tF, tF, tF, tT, tF, tF, tF, tF, tT, tF, tF, tF, tF, tT, tT]) (by kernel_rfl)).to (by clear E1 E2 E3; (try simp only [sl0, wk, wkL, wkO, eqCells, eqCell, mayX, regM, mayS, longM, widthM, jumpM, ccM] at *); (simp [wk, wkL, wkO, eqCells, eqCell, mayX, regM, mayS, longM, widthM, jumpM, ccM, *]; done))
  have c13 := @reg_ok base
  generalize g15 : regM base = r14 at c13
  let E4 : EL := E3 ++ [tT, tT, tT, .ret _ _ _ c13, tT, tF]
  cases r14
  ·exact (o28 (d := .bool false) (E4 ++ [tF, tF, tF, tF, tT, tF, tF, tF, tF, tT, tT]) (by kernel_rfl)).to (by clear E1 E2 E3 E4; (try simp only [sl0, wk, wkL, wkO, eqCells, eqCell, mayX, regM, mayS, longM, widthM, jumpM, ccM] at *); (simp [wk, wkL, wkO, eqCells, eqCell, mayX, regM, mayS, longM, widthM, jumpM, ccM, *]; done))
  have c16 := @within_ok disp (-2147483648) 2147483647
  let E5 : EL := E4 ++ [tT, tT, tT, .ret _ _ _ c16, tT, tF]
  rcases bft (decide (disp < (-2147483648))) with h17 | h17
  ·exact (o28 (d := .bool false) (E5 ++ List.replicate 4 (tC (eF (nt (andF (y := decide (disp ≤ 2147483647)) (leL (-2147483648) h17))))) ++ [tC (nt (andF (y := decide (disp ≤ 2147483647)) (leL (-2147483648) h17))), tT]) (by kernel_rfl)).to (by clear E1 E2 E3 E4 E5; (try simp only [sl0, wk, wkL, wkO, eqCells, eqCell, mayX, regM, mayS, longM, widthM, jumpM, ccM] at *); (simp [wk, wkL, wkO, eqCells, eqCell, mayX, regM, mayS, longM, widthM, jumpM, ccM, *]; omega))
  rcases bft (decide (disp < 2147483648)) with h18 | h18
  ·have c19 := @within_ok imm (-2147483648) 2147483647
   let E6 : EL := E5 ++ List.replicate 3 (tC (eF (nt (andT (leL (-2147483648) h17) (leC 2147483647 h18))))) ++ [.ret _ _ _ c19, tC (eF (nt (andT (leL (-2147483648) h17) (leC 2147483647 h18)))), tC (nt (andT (leL (-2147483648) h17) (leC 2147483647 h18)))]
   rcases bft (decide (imm < (-2147483648))) with h20 | h20
   ·exact (o28 (d := .bool false) (E6 ++ [tC (nt (andF (y := decide (imm ≤ 2147483647)) (leL (-2147483648) h20)))]) (by kernel_rfl)).to (by clear E1 E2 E3 E4 E5 E6; (try simp only [sl0, wk, wkL, wkO, eqCells, eqCell, mayX, regM, mayS, longM, widthM, jumpM, ccM] at *); (simp [wk, wkL, wkO, eqCells, eqCell, mayX, regM, mayS, longM, widthM, jumpM, ccM, *]; omega))
   rcases bft (decide (imm < 2147483648)) with h21 | h21
   ·let E7 : EL := E6 ++ [tC (nt (andT (leL (-2147483648) h20) (leC 2147483647 h21)))]
    by_cases h22 : w = 32
    ·subst h22
     exact (o28 (d := .bool true) (E7 ++ [tF, tF, tF, tT, tF, tF, tF, tF, tF, tT] ++ List.replicate 10 tF) (by kernel_rfl)).to (by clear E1 E2 E3 E4 E5 E6 E7; (try simp only [sl0, wk, wkL, wkO, eqCells, eqCell, mayX, regM, mayS, longM, widthM, jumpM, ccM] at *); (rw [Bool.eq_iff_iff]; simp [wk, wkL, wkO, eqCells, eqCell, mayX, regM, mayS, longM, widthM, jumpM, ccM, *]; grind))
    let E8 : EL := E7 ++ List.replicate 3 (tC (eF (neOf h22))) ++ [tC (neOf h22)] ++ List.replicate 4 (tC (eF (neOf h22)))
    by_cases h23 : w = 8
    ·subst h23
     have c24 := @within_ok imm (-128) 127
     exact (o28 (d := .bool true) (E8 ++ [tT, tT, tT, .ret _ _ _ c24, tT, tT] ++ List.replicate 11 tF) (by kernel_rfl)).to (by clear E1 E2 E3 E4 E5 E6 E7 E8; (try simp only [sl0, wk, wkL, wkO, eqCells, eqCell, mayX, regM, mayS, longM, widthM, jumpM, ccM] at *); (rw [Bool.eq_iff_iff]; simp [wk, wkL, wkO, eqCells, eqCell, mayX, regM, mayS, longM, widthM, jumpM, ccM, *]; grind))
    exact (o28 (d := .bool true) (E8 ++ List.replicate 3 (tC (eT (neOf h23))) ++ [tC (eF (neOf h22)), tC (neOf h23), tC (neOf h22)] ++ List.replicate 10 tF) (by kernel_rfl)).to (by clear E1 E2 E3 E4 E5 E6 E7 E8; (try simp only [sl0, wk, wkL, wkO, eqCells, eqCell, mayX, regM, mayS, longM, widthM, jumpM, ccM] at *); (rw [Bool.eq_iff_iff]; simp [wk, wkL, wkO, eqCells, eqCell, mayX, regM, mayS, longM, widthM, jumpM, ccM, *]; grind))
   exact (o28 (d := .bool false) (E6 ++ [tC (nt (andT (leL (-2147483648) h20) (leC 2147483647 h21)))]) (by kernel_rfl)).to (by clear E1 E2 E3 E4 E5 E6; (try simp only [sl0, wk, wkL, wkO, eqCells, eqCell, mayX, regM, mayS, longM, widthM, jumpM, ccM] at *); (simp [wk, wkL, wkO, eqCells, eqCell, mayX, regM, mayS, longM, widthM, jumpM, ccM, *]; omega))
  exact (o28 (d := .bool false) (E5 ++ List.replicate 4 (tC (eF (nt (andT (leL (-2147483648) h17) (leC 2147483647 h18))))) ++ [tC (nt (andT (leL (-2147483648) h17) (leC 2147483647 h18))), tT]) (by kernel_rfl)).to (by clear E1 E2 E3 E4 E5; (try simp only [sl0, wk, wkL, wkO, eqCells, eqCell, mayX, regM, mayS, longM, widthM, jumpM, ccM] at *); (simp [wk, wkL, wkO, eqCells, eqCell, mayX, regM, mayS, longM, widthM, jumpM, ccM, *]; omega))
 exact (o28 (d := .bool false) (E1 ++ List.replicate 4 (tC (eF (nt h6))) ++ [tC (nt h6), tF, tF, tF, tF, tT, tF, tF, tF, tF, tT, tF, tF, tF, tF, tT, tF, tF, tF, tF, tT, tT]) (by kernel_rfl)).to (by clear E1; (try simp only [sl0, wk, wkL, wkO, eqCells, eqCell, mayX, regM, mayS, longM, widthM, jumpM, ccM] at *); (rw [Bool.eq_iff_iff]; simp [wk, wkL, wkO, eqCells, eqCell, mayX, regM, mayS, longM, widthM, jumpM, ccM, *]; grind))
end Go.Proofs.YtcngafhpodeenaaGreat

namespace Go.Proofs.YtcngafhpodeenaaGreat
open Go Go.Ev
theorem shape_range : ∀ n : Fin 32, shapeM (n.val : Int) = 1 ∨ shapeM (n.val : Int) = 2 ∨ shapeM (n.val : Int) = 3 ∨ shapeM (n.val : Int) = 4 ∨ shapeM (n.val : Int) = 5 ∨ shapeM (n.val : Int) = 6 ∨ shapeM (n.val : Int) = 7 ∨ shapeM (n.val : Int) = 8 ∨ shapeM (n.val : Int) = 9 ∨ shapeM (n.val : Int) = 10 ∨ shapeM (n.val : Int) = 11 := by decide +kernel
theorem mayX_ok (op w dst src base disp imm cc : Int) (ho : op ≤ 127) : Ret Tryz.prog 28 [xD op w dst src base disp imm cc] (.bool (mayX op w dst src base disp imm cc)) := by
 by_cases hin : 0 ≤ op ∧ op ≤ 31
 ·have e : op = (((⟨op.toNat, by omega⟩ : Fin 32).val : Nat) : Int) := by simp; omega
  have hr := shape_range ⟨op.toNat, by omega⟩
  rw [← e] at hr
  have hin' : decide (0 ≤ op ∧ op ≤ 31) = true := decide_eq_true hin
  rcases hr with h | h | h | h | h | h | h | h | h | h | h
  ·exact mayX_1_ok _ _ _ _ _ _ _ _ ho (by rw [h]; rfl) hin'
  ·exact mayX_2_ok _ _ _ _ _ _ _ _ ho (by rw [h]; rfl) hin'
  ·exact mayX_3_ok _ _ _ _ _ _ _ _ ho (by rw [h]; rfl) hin'
  ·exact mayX_4_ok _ _ _ _ _ _ _ _ ho (by rw [h]; rfl) hin'
  ·exact mayX_5_ok _ _ _ _ _ _ _ _ ho (by rw [h]; rfl) hin'
  ·exact mayX_6_ok _ _ _ _ _ _ _ _ ho (by rw [h]; rfl) hin'
  ·exact mayX_7_ok _ _ _ _ _ _ _ _ ho (by rw [h]; rfl) hin'
  ·exact mayX_8_ok _ _ _ _ _ _ _ _ ho (by rw [h]; rfl) hin'
  ·exact mayX_9_ok _ _ _ _ _ _ _ _ ho (by rw [h]; rfl) hin'
  ·exact mayX_10_ok _ _ _ _ _ _ _ _ ho (by rw [h]; rfl) hin'
  ·exact mayX_11_ok _ _ _ _ _ _ _ _ ho (by rw [h]; rfl) hin'
 ·exact mayX_0_ok _ _ _ _ _ _ _ _ ho (by rw [(shape_none (op := op) (by omega)).1]; rfl) (decide_eq_false hin)
end Go.Proofs.YtcngafhpodeenaaGreat

namespace Go.Proofs.YtcngafhpodeenaaGreat
open Go Go.Ev
set_option maxRecDepth 100000
set_option maxHeartbeats 8000000
theorem rfields_1_ok (op w dst src base disp imm cc : Int) (hc : (classM op == 1) = true) : Ret Tryz.prog 46 ([xD op w dst src base disp imm cc]) (xD op w dst src 0 0 0 0) := by
 have c0 := @class_ok op
 rw [show (classM op) = 1 from (eq_of_beq hc)] at c0
 exact (o46 (d := (xD op w dst src 0 0 0 0)) [.ret _ _ _ c0, tT, tT, tF, tF, tT, tF, tF, tT, tT, tT, tT, tF, tT, tT, tF, tT, tT, tF, tF, tT, tT, tF, tF, tT, tT, tF, tF] (by kernel_rfl)).to (by simp [wk, wkL])
theorem rfields_2_ok (op w dst src base disp imm cc : Int) (hc : (classM op == 2) = true) : Ret Tryz.prog 46 ([xD op w dst src base disp imm cc]) (xD op w dst 0 0 0 imm 0) := by
 have c0 := @class_ok op
 rw [show (classM op) = 2 from (eq_of_beq hc)] at c0
 exact (o46 (d := (xD op w dst 0 0 0 imm 0)) [.ret _ _ _ c0, tT, tT, tT, tT, tF, tT, tT, tF, tF, tF, tF, tT, tF, tF, tT, tF, tF, tT, tT, tT, tT, tF, tF, tT, tT, tF, tF] (by kernel_rfl)).to (by simp [wk, wkL])
theorem rfields_3_ok (op w dst src base disp imm cc : Int) (hc : (classM op == 3) = true) : Ret Tryz.prog 46 ([xD op w dst src base disp imm cc]) (xD op w dst 0 0 0 imm 0) := by
 have c0 := @class_ok op
 rw [show (classM op) = 3 from (eq_of_beq hc)] at c0
 exact (o46 (d := (xD op w dst 0 0 0 imm 0)) [.ret _ _ _ c0, tT, tT, tT, tT, tF, tT, tT, tF, tF, tT, tT, tF, tF, tF, tT, tF, tF, tT, tT, tT, tT, tF, tF, tT, tT, tF, tF] (by kernel_rfl)).to (by simp [wk, wkL])
theorem rfields_4_ok (op w dst src base disp imm cc : Int) (hc : (classM op == 4) = true) : Ret Tryz.prog 46 ([xD op w dst src base disp imm cc]) (xD op w dst 0 0 0 0 0) := by
 have c0 := @class_ok op
 rw [show (classM op) = 4 from (eq_of_beq hc)] at c0
 exact (o46 (d := (xD op w dst 0 0 0 0 0)) [.ret _ _ _ c0, tT, tT, tT, tT, tF, tT, tT, tF, tF, tT, tT, tF, tT, tT, tF, tT, tT, tF, tF, tT, tT, tF, tF, tT, tT, tF, tF] (by kernel_rfl)).to (by simp [wk, wkL])
theorem rfields_5_ok (op w dst src base disp imm cc : Int) (hc : (classM op == 5) = true) : Ret Tryz.prog 46 ([xD op w dst src base disp imm cc]) (xD op w dst src 0 0 0 cc) := by
 have c0 := @class_ok op
 rw [show (classM op) = 5 from (eq_of_beq hc)] at c0
 exact (o46 (d := (xD op w dst src 0 0 0 cc)) [.ret _ _ _ c0, tT, tT, tT, tT, tF, tF, tF, tT, tT, tT, tT, tF, tT, tT, tF, tT, tT, tF, tF, tF, tF, tT, tT, tT, tT, tF, tF] (by kernel_rfl)).to (by simp [wk, wkL])
theorem rfields_6_ok (op w dst src base disp imm cc : Int) (hc : (classM op == 6) = true) : Ret Tryz.prog 46 ([xD op w dst src base disp imm cc]) (xD op w dst 0 base disp 0 0) := by
 have c0 := @class_ok op
 rw [show (classM op) = 6 from (eq_of_beq hc)] at c0
 exact (o46 (d := (xD op w dst 0 base disp 0 0)) [.ret _ _ _ c0, tT, tT, tT, tT, tF, tT, tT, tF, tF, tT, tT, tF, tT, tT, tF, tT, tT, tF, tF, tT, tT, tF, tF, tF, tF, tT, tT] (by kernel_rfl)).to (by simp [wk, wkL])
theorem rfields_7_ok (op w dst src base disp imm cc : Int) (hc : (classM op == 7) = true) : Ret Tryz.prog 46 ([xD op w dst src base disp imm cc]) (xD op w 0 src base disp 0 0) := by
 have c0 := @class_ok op
 rw [show (classM op) = 7 from (eq_of_beq hc)] at c0
 exact (o46 (d := (xD op w 0 src base disp 0 0)) [.ret _ _ _ c0, tT, tF, tT, tT, tF, tT, tT, tF, tT, tT, tT, tF, tT, tT, tF, tT, tT, tF, tF, tT, tT, tF, tF, tT, tT, tF, tT] (by kernel_rfl)).to (by simp [wk, wkL])
theorem rfields_8_ok (op w dst src base disp imm cc : Int) (hc : (classM op == 8) = true) : Ret Tryz.prog 46 ([xD op w dst src base disp imm cc]) (xD op w 0 0 0 0 imm 0) := by
 have c0 := @class_ok op
 rw [show (classM op) = 8 from (eq_of_beq hc)] at c0
 exact (o46 (d := (xD op w 0 0 0 0 imm 0)) [.ret _ _ _ c0, tT, tF, tT, tT, tF, tT, tT, tF, tF, tT, tT, tF, tT, tT, tF, tF, tF, tT, tT, tT, tT, tF, tF, tT, tT, tF, tF] (by kernel_rfl)).to (by simp [wk, wkL])
theorem rfields_9_ok (op w dst src base disp imm cc : Int) (hc : (classM op == 9) = true) : Ret Tryz.prog 46 ([xD op w dst src base disp imm cc]) (xD op w 0 0 0 0 imm cc) := by
 have c0 := @class_ok op
 rw [show (classM op) = 9 from (eq_of_beq hc)] at c0
 exact (o46 (d := (xD op w 0 0 0 0 imm cc)) [.ret _ _ _ c0, tT, tF, tT, tT, tF, tT, tT, tF, tF, tT, tT, tF, tT, tT, tF, tT, tT, tF, tT, tT, tT, tF, tT, tT, tT, tF, tF] (by kernel_rfl)).to (by simp [wk, wkL])
theorem rfields_10_ok (op w dst src base disp imm cc : Int) (hc : (classM op == 10) = true) : Ret Tryz.prog 46 ([xD op w dst src base disp imm cc]) (xD op 0 0 0 0 0 0 0) := by
 have c0 := @class_ok op
 rw [show (classM op) = 10 from (eq_of_beq hc)] at c0
 exact (o46 (d := (xD op 0 0 0 0 0 0 0)) [.ret _ _ _ c0, tF, tF, tT, tT, tF, tT, tT, tF, tF, tT, tT, tF, tT, tT, tF, tT, tT, tF, tF, tT, tT, tF, tF, tT, tT, tF, tF] (by kernel_rfl)).to (by simp [wk, wkL])
end Go.Proofs.YtcngafhpodeenaaGreat

namespace Go.Proofs.YtcngafhpodeenaaGreat
open Go Go.Ev
set_option maxRecDepth 100000
set_option maxHeartbeats 8000000
theorem rmayX_0_ok (op w dst src base disp imm cc : Int) (h : (shapeM op == 0) = true) (hc : (classM op == 0) = true) : Ret Tryz.prog 25 ([xD op w dst src base disp imm cc]) (.bool (mayX op w dst src base disp imm cc)) := by
 have c0 := @class_ok op
 rw [eq_of_beq hc] at c0
 exact (o25 (d := .bool false) [.ret _ _ _ c0, tF, tF, tF, tF, tT, tF, tF, tF, tF, tT, tF, tF, tF, tF, tT, tF, tF, tF, tF, tT, tF, tF, tF, tF, tT, tF, tF, tF, tF, tT, tT] (by kernel_rfl)).to (by (try simp only [sl0, wk, wkL, wkO, eqCells, eqCell, mayX, regM, mayS, longM, widthM, jumpM, ccM] at *); (simp [wk, wkL, wkO, eqCells, eqCell, mayX, regM, mayS, longM, widthM, jumpM, ccM, *]; done))
theorem rmayX_1_ok (op w dst src base disp imm cc : Int) (h : (shapeM op == 1) = true) (hc : (classM op == 1) = true) : Ret Tryz.prog 25 ([xD op w dst src base disp imm cc]) (.bool (mayX op w dst src base disp imm cc)) := by
 have c0 := @class_ok op
 rw [eq_of_beq hc] at c0
 have c1 := @rfields_1_ok op w dst src base disp imm cc (eqI 1 true (eq_of_beq hc))
 let E1 : EL := [.ret _ _ _ c0, tT, tT, tT, .ret _ _ _ c1, tT, .flat _ _ flat_X, tF]
 rcases bft (eqCells [.int .i8 op, .int .i8 w, .int .i8 dst, .int .i8 src, .int .i8 base, .int .i64 disp, .int .i64 imm, .int .i8 cc] [.int .i8 op, .int .i8 w, .int .i8 dst, .int .i8 src, .int .i8 0, .int .i64 0, .int .i64 0, .int .i8 0]) with h2 | h2
 ·have c3 := @rreg_ok dst
  generalize g5 : regM dst = r4 at c3
  let E2 : EL := E1 ++ List.replicate 3 (tC (eF (nt h2))) ++ [.ret _ _ _ c3, tC (eF (nt h2)), tC (nt h2)]
  cases r4
  ·exact (o25 (d := .bool false) (E2 ++ [tF, tF, tF, tF, tT, tF, tF, tF, tF, tT, tF, tF, tF, tF, tT, tF, tF, tF, tF, tT, tT]) (by kernel_rfl)).to (by clear E1 E2; (try simp only [sl0, wk, wkL, wkO, eqCells, eqCell, mayX, regM, mayS, longM, widthM, jumpM, ccM] at *); (simp [wk, wkL, wkO, eqCells, eqCell, mayX, regM, mayS, longM, widthM, jumpM, ccM, *]; done))
  have c6 := @rreg_ok src
  generalize g8 : regM src = r7 at c6
  let E3 : EL := E2 ++ [tT, tT, tT, .ret _ _ _ c6, tT, tF]
  cases r7
  ·exact (o25 (d := .bool false) (E3 ++ [tF, tF, tF, tF, tT, tF, tF, tF, tF, tT, tF, tF, tF, tF, tT, tT]) (by kernel_rfl)).to (by clear E1 E2 E3; (try simp only [sl0, wk, wkL, wkO, eqCells, eqCell, mayX, regM, mayS, longM, widthM, jumpM, ccM] at *); (simp [wk, wkL, wkO, eqCells, eqCell, mayX, regM, mayS, longM, widthM, jumpM, ccM, *]; done))
  have c9 := @rreg_ok base
  generalize g11 : regM base = r10 at c9
  let E4 : EL := E3 ++ [tT, tT, tT, .ret _ _ _ c9, tT, tF]
  cases r10
  ·exact (o25 (d := .bool false) (E4 ++ [tF, tF, tF, tF, tT, tF, tF, tF, tF, tT, tT]) (by kernel_rfl)).to (by clear E1 E2 E3 E4; (try simp only [sl0, wk, wkL, wkO, eqCells, eqCell, mayX, regM, mayS, longM, widthM, jumpM, ccM] at *); (simp [wk, wkL, wkO, eqCells, eqCell, mayX, regM, mayS, longM, widthM, jumpM, ccM, *]; done))
  have c12 := @rfour_ok disp
  rcases bft (decide ((-2147483648) ≤ disp ∧ disp ≤ 2147483647)) with h13 | h13
  ·have c14 := @rfour_ok imm
   let E5 : EL := E4 ++ [tT, tT, tT, .ret _ _ _ c12, tT, tF] ++ List.replicate 3 (tC (eF (nt h13))) ++ [.ret _ _ _ c14, tC (eF (nt h13)), tC (nt h13)]
   rcases bft (decide ((-2147483648) ≤ imm ∧ imm ≤ 2147483647)) with h15 | h15
   ·have c16 := @rlong_ok w
    generalize g18 : longM w = r17 at c16
    exact (o25 (d := .bool r17) (E5 ++ [tC (nt h15), tT, tT, .ret _ _ _ c16]) (by kernel_rfl)).to (by clear E1 E2 E3 E4 E5; (try simp only [sl0, wk, wkL, wkO, eqCells, eqCell, mayX, regM, mayS, longM, widthM, jumpM, ccM] at *); (rw [Bool.eq_iff_iff]; simp [wk, wkL, wkO, eqCells, eqCell, mayX, regM, mayS, longM, widthM, jumpM, ccM, *]; grind))
   exact (o25 (d := .bool false) (E5 ++ [tC (nt h15)]) (by kernel_rfl)).to (by clear E1 E2 E3 E4 E5; (try simp only [sl0, wk, wkL, wkO, eqCells, eqCell, mayX, regM, mayS, longM, widthM, jumpM, ccM] at *); (simp [wk, wkL, wkO, eqCells, eqCell, mayX, regM, mayS, longM, widthM, jumpM, ccM, *]; done))
  exact (o25 (d := .bool false) (E4 ++ [tT, tT, tT, .ret _ _ _ c12, tT, tF] ++ List.replicate 4 (tC (eF (nt h13))) ++ [tC (nt h13), tT]) (by kernel_rfl)).to (by clear E1 E2 E3 E4; (try simp only [sl0, wk, wkL, wkO, eqCells, eqCell, mayX, regM, mayS, longM, widthM, jumpM, ccM] at *); (simp [wk, wkL, wkO, eqCells, eqCell, mayX, regM, mayS, longM, widthM, jumpM, ccM, *]; done))
 exact (o25 (d := .bool false) (E1 ++ List.replicate 4 (tC (eF (nt h2))) ++ [tC (nt h2), tF, tF, tF, tF, tT, tF, tF, tF, tF, tT, tF, tF, tF, tF, tT, tF, tF, tF, tF, tT, tT]) (by kernel_rfl)).to (by clear E1; (try simp only [sl0, wk, wkL, wkO, eqCells, eqCell, mayX, regM, mayS, longM, widthM, jumpM, ccM] at *); (rw [Bool.eq_iff_iff]; simp [wk, wkL, wkO, eqCells, eqCell, mayX, regM, mayS, longM, widthM, jumpM, ccM, *]; grind))
theorem rmayX_2_ok (op w dst src base disp imm cc : Int) (h : (shapeM op == 2) = true) (hc : (classM op == 1) = true) : Ret Tryz.prog 25 ([xD op w dst src base disp imm cc]) (.bool (mayX op w dst src base disp imm cc)) := by
 have c0 := @class_ok op
 rw [eq_of_beq hc] at c0
 have c1 := @rfields_1_ok op w dst src base disp imm cc (eqI 1 true (eq_of_beq hc))
 let E1 : EL := [.ret _ _ _ c0, tT, tT, tT, .ret _ _ _ c1, tT, .flat _ _ flat_X, tF]
 rcases bft (eqCells [.int .i8 op, .int .i8 w, .int .i8 dst, .int .i8 src, .int .i8 base, .int .i64 disp, .int .i64 imm, .int .i8 cc] [.int .i8 op, .int .i8 w, .int .i8 dst, .int .i8 src, .int .i8 0, .int .i64 0, .int .i64 0, .int .i8 0]) with h2 | h2
 ·have c3 := @rreg_ok dst
  generalize g5 : regM dst = r4 at c3
  let E2 : EL := E1 ++ List.replicate 3 (tC (eF (nt h2))) ++ [.ret _ _ _ c3, tC (eF (nt h2)), tC (nt h2)]
  cases r4
  ·exact (o25 (d := .bool false) (E2 ++ [tF, tF, tF, tF, tT, tF, tF, tF, tF, tT, tF, tF, tF, tF, tT, tF, tF, tF, tF, tT, tT]) (by kernel_rfl)).to (by clear E1 E2; (try simp only [sl0, wk, wkL, wkO, eqCells, eqCell, mayX, regM, mayS, longM, widthM, jumpM, ccM] at *); (simp [wk, wkL, wkO, eqCells, eqCell, mayX, regM, mayS, longM, widthM, jumpM, ccM, *]; done))
  have c6 := @rreg_ok src
  generalize g8 : regM src = r7 at c6
  let E3 : EL := E2 ++ [tT, tT, tT, .ret _ _ _ c6, tT, tF]
  cases r7
  ·exact (o25 (d := .bool false) (E3 ++ [tF, tF, tF, tF, tT, tF, tF, tF, tF, tT, tF, tF, tF, tF, tT, tT]) (by kernel_rfl)).to (by clear E1 E2 E3; (try simp only [sl0, wk, wkL, wkO, eqCells, eqCell, mayX, regM, mayS, longM, widthM, jumpM, ccM] at *); (simp [wk, wkL, wkO, eqCells, eqCell, mayX, regM, mayS, longM, widthM, jumpM, ccM, *]; done))
  have c9 := @rreg_ok base
  generalize g11 : regM base = r10 at c9
  let E4 : EL := E3 ++ [tT, tT, tT, .ret _ _ _ c9, tT, tF]
  cases r10
  ·exact (o25 (d := .bool false) (E4 ++ [tF, tF, tF, tF, tT, tF, tF, tF, tF, tT, tT]) (by kernel_rfl)).to (by clear E1 E2 E3 E4; (try simp only [sl0, wk, wkL, wkO, eqCells, eqCell, mayX, regM, mayS, longM, widthM, jumpM, ccM] at *); (simp [wk, wkL, wkO, eqCells, eqCell, mayX, regM, mayS, longM, widthM, jumpM, ccM, *]; done))
  have c12 := @rfour_ok disp
  rcases bft (decide ((-2147483648) ≤ disp ∧ disp ≤ 2147483647)) with h13 | h13
  ·have c14 := @rfour_ok imm
   let E5 : EL := E4 ++ [tT, tT, tT, .ret _ _ _ c12, tT, tF] ++ List.replicate 3 (tC (eF (nt h13))) ++ [.ret _ _ _ c14, tC (eF (nt h13)), tC (nt h13)]
   rcases bft (decide ((-2147483648) ≤ imm ∧ imm ≤ 2147483647)) with h15 | h15
   ·have c16 := @rlong_ok w
    generalize g18 : longM w = r17 at c16
    exact (o25 (d := .bool r17) (E5 ++ [tC (nt h15), tT, tT, .ret _ _ _ c16]) (by kernel_rfl)).to (by clear E1 E2 E3 E4 E5; (try simp only [sl0, wk, wkL, wkO, eqCells, eqCell, mayX, regM, mayS, longM, widthM, jumpM, ccM] at *); (rw [Bool.eq_iff_iff]; simp [wk, wkL, wkO, eqCells, eqCell, mayX, regM, mayS, longM, widthM, jumpM, ccM, *]; grind))
   exact (o25 (d := .bool false) (E5 ++ [tC (nt h15)]) (by kernel_rfl)).to (by clear E1 E2 E3 E4 E5; (try simp only [sl0, wk, wkL, wkO, eqCells, eqCell, mayX, regM, mayS, longM, widthM, jumpM, ccM] at *); (simp [wk, wkL, wkO, eqCells, eqCell, mayX, regM, mayS, longM, widthM, jumpM, ccM, *]; done))
  exact (o25 (d := .bool false) (E4 ++ [tT, tT, tT, .ret _ _ _ c12, tT, tF] ++ List.replicate 4 (tC (eF (nt h13))) ++ [tC (nt h13), tT]) (by kernel_rfl)).to (by clear E1 E2 E3 E4; (try simp only [sl0, wk, wkL, wkO, eqCells, eqCell, mayX, regM, mayS, longM, widthM, jumpM, ccM] at *); (simp [wk, wkL, wkO, eqCells, eqCell, mayX, regM, mayS, longM, widthM, jumpM, ccM, *]; done))
 exact (o25 (d := .bool false) (E1 ++ List.replicate 4 (tC (eF (nt h2))) ++ [tC (nt h2), tF, tF, tF, tF, tT, tF, tF, tF, tF, tT, tF, tF, tF, tF, tT, tF, tF, tF, tF, tT, tT]) (by kernel_rfl)).to (by clear E1; (try simp only [sl0, wk, wkL, wkO, eqCells, eqCell, mayX, regM, mayS, longM, widthM, jumpM, ccM] at *); (rw [Bool.eq_iff_iff]; simp [wk, wkL, wkO, eqCells, eqCell, mayX, regM, mayS, longM, widthM, jumpM, ccM, *]; grind))
end Go.Proofs.YtcngafhpodeenaaGreat

namespace Go.Proofs.YtcngafhpodeenaaGreat
open Go Go.Ev
set_option maxRecDepth 100000
set_option maxHeartbeats 8000000
theorem rmayX_3_ok (op w dst src base disp imm cc : Int) (h : (shapeM op == 3) = true) (hc : (classM op == 2) = true) : Ret Tryz.prog 25 ([xD op w dst src base disp imm cc]) (.bool (mayX op w dst src base disp imm cc)) := by
 have c0 := @class_ok op
 rw [eq_of_beq hc] at c0
 have c1 := @rfields_2_ok op w dst src base disp imm cc (eqI 2 true (eq_of_beq hc))
 let E1 : EL := [.ret _ _ _ c0, tT, tT, tT, .ret _ _ _ c1, tT, .flat _ _ flat_X, tF]
 rcases bft (eqCells [.int .i8 op, .int .i8 w, .int .i8 dst, .int .i8 src, .int .i8 base, .int .i64 disp, .int .i64 imm, .int .i8 cc] [.int .i8 op, .int .i8 w, .int .i8 dst, .int .i8 0, .int .i8 0, .int .i64 0, .int .i64 imm, .int .i8 0]) with h2 | h2
 ·have c3 := @rreg_ok dst
  generalize g5 : regM dst = r4 at c3
  let E2 : EL := E1 ++ List.replicate 3 (tC (eF (nt h2))) ++ [.ret _ _ _ c3, tC (eF (nt h2)), tC (nt h2)]
  cases r4
  ·exact (o25 (d := .bool false) (E2 ++ [tF, tF, tF, tF, tT, tF, tF, tF, tF, tT, tF, tF, tF, tF, tT, tF, tF, tF, tF, tT, tT]) (by kernel_rfl)).to (by clear E1 E2; (try simp only [sl0, wk, wkL, wkO, eqCells, eqCell, mayX, regM, mayS, longM, widthM, jumpM, ccM, w_i64] at *); (simp [wk, wkL, wkO, eqCells, eqCell, mayX, regM, mayS, longM, widthM, jumpM, ccM, w_i64, *]; done))
  have c6 := @rreg_ok src
  generalize g8 : regM src = r7 at c6
  let E3 : EL := E2 ++ [tT, tT, tT, .ret _ _ _ c6, tT, tF]
  cases r7
  ·exact (o25 (d := .bool false) (E3 ++ [tF, tF, tF, tF, tT, tF, tF, tF, tF, tT, tF, tF, tF, tF, tT, tT]) (by kernel_rfl)).to (by clear E1 E2 E3; (try simp only [sl0, wk, wkL, wkO, eqCells, eqCell, mayX, regM, mayS, longM, widthM, jumpM, ccM, w_i64] at *); (simp [wk, wkL, wkO, eqCells, eqCell, mayX, regM, mayS, longM, widthM, jumpM, ccM, w_i64, *]; done))
  have c9 := @rreg_ok base
  generalize g11 : regM base = r10 at c9
  let E4 : EL := E3 ++ [tT, tT, tT, .ret _ _ _ c9, tT, tF]
  cases r10
  ·exact (o25 (d := .bool false) (E4 ++ [tF, tF, tF, tF, tT, tF, tF, tF, tF, tT, tT]) (by kernel_rfl)).to (by clear E1 E2 E3 E4; (try simp only [sl0, wk, wkL, wkO, eqCells, eqCell, mayX, regM, mayS, longM, widthM, jumpM, ccM, w_i64] at *); (simp [wk, wkL, wkO, eqCells, eqCell, mayX, regM, mayS, longM, widthM, jumpM, ccM, w_i64, *]; done))
  have c12 := @rfour_ok disp
  rcases bft (decide ((-2147483648) ≤ disp ∧ disp ≤ 2147483647)) with h13 | h13
  ·have c14 := @rfour_ok imm
   let E5 : EL := E4 ++ [tT, tT, tT, .ret _ _ _ c12, tT, tF] ++ List.replicate 3 (tC (eF (nt h13))) ++ [.ret _ _ _ c14, tC (eF (nt h13)), tC (nt h13)]
   rcases bft (decide ((-2147483648) ≤ imm ∧ imm ≤ 2147483647)) with h15 | h15
   ·have c16 := @rlong_ok w
    generalize g18 : longM w = r17 at c16
    exact (o25 (d := .bool r17) (E5 ++ [tC (nt h15), tF, tT, tT, .ret _ _ _ c16]) (by kernel_rfl)).to (by clear E1 E2 E3 E4 E5; (try simp only [sl0, wk, wkL, wkO, eqCells, eqCell, mayX, regM, mayS, longM, widthM, jumpM, ccM, w_i64] at *); (rw [Bool.eq_iff_iff]; simp [wk, wkL, wkO, eqCells, eqCell, mayX, regM, mayS, longM, widthM, jumpM, ccM, w_i64, *]; grind))
   exact (o25 (d := .bool false) (E5 ++ [tC (nt h15)]) (by kernel_rfl)).to (by clear E1 E2 E3 E4 E5; (try simp only [sl0, wk, wkL, wkO, eqCells, eqCell, mayX, regM, mayS, longM, widthM, jumpM, ccM, w_i64] at *); (simp [wk, wkL, wkO, eqCells, eqCell, mayX, regM, mayS, longM, widthM, jumpM, ccM, w_i64, *]; done))
  exact (o25 (d := .bool false) (E4 ++ [tT, tT, tT, .ret _ _ _ c12, tT, tF] ++ List.replicate 4 (tC (eF (nt h13))) ++ [tC (nt h13), tT]) (by kernel_rfl)).to (by clear E1 E2 E3 E4; (try simp only [sl0, wk, wkL, wkO, eqCells, eqCell, mayX, regM, mayS, longM, widthM, jumpM, ccM, w_i64] at *); (simp [wk, wkL, wkO, eqCells, eqCell, mayX, regM, mayS, longM, widthM, jumpM, ccM, w_i64, *]; done))
 exact (o25 (d := .bool false) (E1 ++ List.replicate 4 (tC (eF (nt h2))) ++ [tC (nt h2), tF, tF, tF, tF, tT, tF, tF, tF, tF, tT, tF, tF, tF, tF, tT, tF, tF, tF, tF, tT, tT]) (by kernel_rfl)).to (by clear E1; (try simp only [sl0, wk, wkL, wkO, eqCells, eqCell, mayX, regM, mayS, longM, widthM, jumpM, ccM, w_i64] at *); (rw [Bool.eq_iff_iff]; simp [wk, wkL, wkO, eqCells, eqCell, mayX, regM, mayS, longM, widthM, jumpM, ccM, w_i64, *]; grind))
theorem rmayX_4_ok (op w dst src base disp imm cc : Int) (h : (shapeM op == 4) = true) (hc : (classM op == 3) = true) : Ret Tryz.prog 25 ([xD op w dst src base disp imm cc]) (.bool (mayX op w dst src base disp imm cc)) := by
 have c0 := @class_ok op
 rw [eq_of_beq hc] at c0
 have c1 := @rfields_3_ok op w dst src base disp imm cc (eqI 3 true (eq_of_beq hc))
 let E1 : EL := [.ret _ _ _ c0, tT, tT, tT, .ret _ _ _ c1, tT, .flat _ _ flat_X, tF]
 rcases bft (eqCells [.int .i8 op, .int .i8 w, .int .i8 dst, .int .i8 src, .int .i8 base, .int .i64 disp, .int .i64 imm, .int .i8 cc] [.int .i8 op, .int .i8 w, .int .i8 dst, .int .i8 0, .int .i8 0, .int .i64 0, .int .i64 imm, .int .i8 0]) with h2 | h2
 ·have c3 := @rreg_ok dst
  generalize g5 : regM dst = r4 at c3
  let E2 : EL := E1 ++ List.replicate 3 (tC (eF (nt h2))) ++ [.ret _ _ _ c3, tC (eF (nt h2)), tC (nt h2)]
  cases r4
  ·exact (o25 (d := .bool false) (E2 ++ [tF, tF, tF, tF, tT, tF, tF, tF, tF, tT, tF, tF, tF, tF, tT, tF, tF, tF, tF, tT, tT]) (by kernel_rfl)).to (by clear E1 E2; (try simp only [sl0, wk, wkL, wkO, eqCells, eqCell, mayX, regM, mayS, longM, widthM, jumpM, ccM, w_i64] at *); (simp [wk, wkL, wkO, eqCells, eqCell, mayX, regM, mayS, longM, widthM, jumpM, ccM, w_i64, *]; done))
  have c6 := @rreg_ok src
  generalize g8 : regM src = r7 at c6
  let E3 : EL := E2 ++ [tT, tT, tT, .ret _ _ _ c6, tT, tF]
  cases r7
  ·exact (o25 (d := .bool false) (E3 ++ [tF, tF, tF, tF, tT, tF, tF, tF, tF, tT, tF, tF, tF, tF, tT, tT]) (by kernel_rfl)).to (by clear E1 E2 E3; (try simp only [sl0, wk, wkL, wkO, eqCells, eqCell, mayX, regM, mayS, longM, widthM, jumpM, ccM, w_i64] at *); (simp [wk, wkL, wkO, eqCells, eqCell, mayX, regM, mayS, longM, widthM, jumpM, ccM, w_i64, *]; done))
  have c9 := @rreg_ok base
  generalize g11 : regM base = r10 at c9
  let E4 : EL := E3 ++ [tT, tT, tT, .ret _ _ _ c9, tT, tF]
  cases r10
  ·exact (o25 (d := .bool false) (E4 ++ [tF, tF, tF, tF, tT, tF, tF, tF, tF, tT, tT]) (by kernel_rfl)).to (by clear E1 E2 E3 E4; (try simp only [sl0, wk, wkL, wkO, eqCells, eqCell, mayX, regM, mayS, longM, widthM, jumpM, ccM, w_i64] at *); (simp [wk, wkL, wkO, eqCells, eqCell, mayX, regM, mayS, longM, widthM, jumpM, ccM, w_i64, *]; done))
  have c12 := @rfour_ok disp
  let E5 : EL := E4 ++ [tT, tT, tT, .ret _ _ _ c12, tT, tF]
  rcases bft (decide ((-2147483648) ≤ disp ∧ disp ≤ 2147483647)) with h13 | h13
  ·have c14 := @rfour_ok imm
   let E6 : EL := E5 ++ List.replicate 3 (tC (eF (nt h13))) ++ [.ret _ _ _ c14, tC (eF (nt h13)), tC (nt h13)]
   rcases bft (decide ((-2147483648) ≤ imm ∧ imm ≤ 2147483647)) with h15 | h15
   ·have c16 := @rlong_ok w
    generalize g18 : longM w = r17 at c16
    let E7 : EL := E6 ++ [tC (nt h15), tF, tF, tF, tT, .ret _ _ _ c16]
    cases r17
    ·exact (o25 (d := .bool false) (E7 ++ List.replicate 11 tF) (by kernel_rfl)).to (by clear E1 E2 E3 E4 E5 E6 E7; (try simp only [sl0, wk, wkL, wkO, eqCells, eqCell, mayX, regM, mayS, longM, widthM, jumpM, ccM, w_i64] at *); (simp [wk, wkL, wkO, eqCells, eqCell, mayX, regM, mayS, longM, widthM, jumpM, ccM, w_i64, *]; done))
    rcases bft (decide (imm < 0)) with h19 | h19
    ·exact (o25 (d := .bool false) (E7 ++ [tT, tT, tT, tT] ++ List.replicate 6 (tC (eT (leL 0 h19))) ++ [tC (leL 0 h19)]) (by kernel_rfl)).to (by clear E1 E2 E3 E4 E5 E6 E7; (try simp only [sl0, wk, wkL, wkO, eqCells, eqCell, mayX, regM, mayS, longM, widthM, jumpM, ccM, w_i64] at *); (simp [wk, wkL, wkO, eqCells, eqCell, mayX, regM, mayS, longM, widthM, jumpM, ccM, w_i64, *]; omega))
    exact (o25 (d := .bool (decide (imm < IntKind.wrap IntKind.i64 w))) (E7 ++ [tT, tT, tT, tT] ++ List.replicate 6 (tC (eT (leL 0 h19))) ++ [tC (leL 0 h19)]) (by kernel_rfl)).to (by clear E1 E2 E3 E4 E5 E6 E7; (try simp only [sl0, wk, wkL, wkO, eqCells, eqCell, mayX, regM, mayS, longM, widthM, jumpM, ccM, w_i64] at *); (rw [Bool.eq_iff_iff]; simp [wk, wkL, wkO, eqCells, eqCell, mayX, regM, mayS, longM, widthM, jumpM, ccM, w_i64, *]; grind))
   exact (o25 (d := .bool false) (E6 ++ [tC (nt h15)]) (by kernel_rfl)).to (by clear E1 E2 E3 E4 E5 E6; (try simp only [sl0, wk, wkL, wkO, eqCells, eqCell, mayX, regM, mayS, longM, widthM, jumpM, ccM, w_i64] at *); (simp [wk, wkL, wkO, eqCells, eqCell, mayX, regM, mayS, longM, widthM, jumpM, ccM, w_i64, *]; done))
  exact (o25 (d := .bool false) (E5 ++ List.replicate 4 (tC (eF (nt h13))) ++ [tC (nt h13), tT]) (by kernel_rfl)).to (by clear E1 E2 E3 E4 E5; (try simp only [sl0, wk, wkL, wkO, eqCells, eqCell, mayX, regM, mayS, longM, widthM, jumpM, ccM, w_i64] at *); (simp [wk, wkL, wkO, eqCells, eqCell, mayX, regM, mayS, longM, widthM, jumpM, ccM, w_i64, *]; done))
 exact (o25 (d := .bool false) (E1 ++ List.replicate 4 (tC (eF (nt h2))) ++ [tC (nt h2), tF, tF, tF, tF, tT, tF, tF, tF, tF, tT, tF, tF, tF, tF, tT, tF, tF, tF, tF, tT, tT]) (by kernel_rfl)).to (by clear E1; (try simp only [sl0, wk, wkL, wkO, eqCells, eqCell, mayX, regM, mayS, longM, widthM, jumpM, ccM, w_i64] at *); (rw [Bool.eq_iff_iff]; simp [wk, wkL, wkO, eqCells, eqCell, mayX, regM, mayS, longM, widthM, jumpM, ccM, w_i64, *]; grind))
theorem rmayX_5_ok (op w dst src base disp imm cc : Int) (h : (shapeM op == 5) = true) (hc : (classM op == 4) = true) : Ret Tryz.prog 25 ([xD op w dst src base disp imm cc]) (.bool (mayX op w dst src base disp imm cc)) := by
 have c0 := @class_ok op
 rw [eq_of_beq hc] at c0
 have c1 := @rfields_4_ok op w dst src base disp imm cc (eqI 4 true (eq_of_beq hc))
 let E1 : EL := [.ret _ _ _ c0, tT, tT, tT, .ret _ _ _ c1, tT, .flat _ _ flat_X, tF]
 rcases bft (eqCells [.int .i8 op, .int .i8 w, .int .i8 dst, .int .i8 src, .int .i8 base, .int .i64 disp, .int .i64 imm, .int .i8 cc] [.int .i8 op, .int .i8 w, .int .i8 dst, .int .i8 0, .int .i8 0, .int .i64 0, .int .i64 0, .int .i8 0]) with h2 | h2
 ·have c3 := @rreg_ok dst
  generalize g5 : regM dst = r4 at c3
  let E2 : EL := E1 ++ List.replicate 3 (tC (eF (nt h2))) ++ [.ret _ _ _ c3, tC (eF (nt h2)), tC (nt h2)]
  cases r4
  ·exact (o25 (d := .bool false) (E2 ++ [tF, tF, tF, tF, tT, tF, tF, tF, tF, tT, tF, tF, tF, tF, tT, tF, tF, tF, tF, tT, tT]) (by kernel_rfl)).to (by clear E1 E2; (try simp only [sl0, wk, wkL, wkO, eqCells, eqCell, mayX, regM, mayS, longM, widthM, jumpM, ccM, w_i64] at *); (simp [wk, wkL, wkO, eqCells, eqCell, mayX, regM, mayS, longM, widthM, jumpM, ccM, w_i64, *]; done))
  have c6 := @rreg_ok src
  generalize g8 : regM src = r7 at c6
  let E3 : EL := E2 ++ [tT, tT, tT, .ret _ _ _ c6, tT, tF]
  cases r7
  ·exact (o25 (d := .bool false) (E3 ++ [tF, tF, tF, tF, tT, tF, tF, tF, tF, tT, tF, tF, tF, tF, tT, tT]) (by kernel_rfl)).to (by clear E1 E2 E3; (try simp only [sl0, wk, wkL, wkO, eqCells, eqCell, mayX, regM, mayS, longM, widthM, jumpM, ccM, w_i64] at *); (simp [wk, wkL, wkO, eqCells, eqCell, mayX, regM, mayS, longM, widthM, jumpM, ccM, w_i64, *]; done))
  have c9 := @rreg_ok base
  generalize g11 : regM base = r10 at c9
  let E4 : EL := E3 ++ [tT, tT, tT, .ret _ _ _ c9, tT, tF]
  cases r10
  ·exact (o25 (d := .bool false) (E4 ++ [tF, tF, tF, tF, tT, tF, tF, tF, tF, tT, tT]) (by kernel_rfl)).to (by clear E1 E2 E3 E4; (try simp only [sl0, wk, wkL, wkO, eqCells, eqCell, mayX, regM, mayS, longM, widthM, jumpM, ccM, w_i64] at *); (simp [wk, wkL, wkO, eqCells, eqCell, mayX, regM, mayS, longM, widthM, jumpM, ccM, w_i64, *]; done))
  have c12 := @rfour_ok disp
  rcases bft (decide ((-2147483648) ≤ disp ∧ disp ≤ 2147483647)) with h13 | h13
  ·have c14 := @rfour_ok imm
   let E5 : EL := E4 ++ [tT, tT, tT, .ret _ _ _ c12, tT, tF] ++ List.replicate 3 (tC (eF (nt h13))) ++ [.ret _ _ _ c14, tC (eF (nt h13)), tC (nt h13)]
   rcases bft (decide ((-2147483648) ≤ imm ∧ imm ≤ 2147483647)) with h15 | h15
   ·have c16 := @rlong_ok w
    generalize g18 : longM w = r17 at c16
    exact (o25 (d := .bool r17) (E5 ++ [tC (nt h15), tF, tF, tT, .ret _ _ _ c16]) (by kernel_rfl)).to (by clear E1 E2 E3 E4 E5; (try simp only [sl0, wk, wkL, wkO, eqCells, eqCell, mayX, regM, mayS, longM, widthM, jumpM, ccM, w_i64] at *); (rw [Bool.eq_iff_iff]; simp [wk, wkL, wkO, eqCells, eqCell, mayX, regM, mayS, longM, widthM, jumpM, ccM, w_i64, *]; grind))
   exact (o25 (d := .bool false) (E5 ++ [tC (nt h15)]) (by kernel_rfl)).to (by clear E1 E2 E3 E4 E5; (try simp only [sl0, wk, wkL, wkO, eqCells, eqCell, mayX, regM, mayS, longM, widthM, jumpM, ccM, w_i64] at *); (simp [wk, wkL, wkO, eqCells, eqCell, mayX, regM, mayS, longM, widthM, jumpM, ccM, w_i64, *]; done))
  exact (o25 (d := .bool false) (E4 ++ [tT, tT, tT, .ret _ _ _ c12, tT, tF] ++ List.replicate 4 (tC (eF (nt h13))) ++ [tC (nt h13), tT]) (by kernel_rfl)).to (by clear E1 E2 E3 E4; (try simp only [sl0, wk, wkL, wkO, eqCells, eqCell, mayX, regM, mayS, longM, widthM, jumpM, ccM, w_i64] at *); (simp [wk, wkL, wkO, eqCells, eqCell, mayX, regM, mayS, longM, widthM, jumpM, ccM, w_i64, *]; done))
 exact (o25 (d := .bool false) (E1 ++ List.replicate 4 (tC (eF (nt h2))) ++ [tC (nt h2), tF, tF, tF, tF, tT, tF, tF, tF, tF, tT, tF, tF, tF, tF, tT, tF, tF, tF, tF, tT, tT]) (by kernel_rfl)).to (by clear E1; (try simp only [sl0, wk, wkL, wkO, eqCells, eqCell, mayX, regM, mayS, longM, widthM, jumpM, ccM, w_i64] at *); (rw [Bool.eq_iff_iff]; simp [wk, wkL, wkO, eqCells, eqCell, mayX, regM, mayS, longM, widthM, jumpM, ccM, w_i64, *]; grind))
end Go.Proofs.YtcngafhpodeenaaGreat

namespace Go.Proofs.YtcngafhpodeenaaGreat
open Go Go.Ev
set_option maxRecDepth 100000
set_option maxHeartbeats 8000000
theorem rmayX_6_ok (op w dst src base disp imm cc : Int) (h : (shapeM op == 6) = true) (hc : (classM op == 5) = true) : Ret Tryz.prog 25 ([xD op w dst src base disp imm cc]) (.bool (mayX op w dst src base disp imm cc)) := by
 have c0 := @class_ok op
 rw [eq_of_beq hc] at c0
 have c1 := @rfields_5_ok op w dst src base disp imm cc (eqI 5 true (eq_of_beq hc))
 let E1 : EL := [.ret _ _ _ c0, tT, tT, tT, .ret _ _ _ c1, tT, .flat _ _ flat_X, tF]
 rcases bft (eqCells [.int .i8 op, .int .i8 w, .int .i8 dst, .int .i8 src, .int .i8 base, .int .i64 disp, .int .i64 imm, .int .i8 cc] [.int .i8 op, .int .i8 w, .int .i8 dst, .int .i8 src, .int .i8 0, .int .i64 0, .int .i64 0, .int .i8 cc]) with h2 | h2
 ·have c3 := @rreg_ok dst
  generalize g5 : regM dst = r4 at c3
  let E2 : EL := E1 ++ List.replicate 3 (tC (eF (nt h2))) ++ [.ret _ _ _ c3, tC (eF (nt h2)), tC (nt h2)]
  cases r4
  ·exact (o25 (d := .bool false) (E2 ++ [tF, tF, tF, tF, tT, tF, tF, tF, tF, tT, tF, tF, tF, tF, tT, tF, tF, tF, tF, tT, tT]) (by kernel_rfl)).to (by clear E1 E2; (try simp only [sl0, wk, wkL, wkO, eqCells, eqCell, mayX, regM, mayS, longM, widthM, jumpM, ccM] at *); (simp [wk, wkL, wkO, eqCells, eqCell, mayX, regM, mayS, longM, widthM, jumpM, ccM, *]; done))
  have c6 := @rreg_ok src
  generalize g8 : regM src = r7 at c6
  let E3 : EL := E2 ++ [tT, tT, tT, .ret _ _ _ c6, tT, tF]
  cases r7
  ·exact (o25 (d := .bool false) (E3 ++ [tF, tF, tF, tF, tT, tF, tF, tF, tF, tT, tF, tF, tF, tF, tT, tT]) (by kernel_rfl)).to (by clear E1 E2 E3; (try simp only [sl0, wk, wkL, wkO, eqCells, eqCell, mayX, regM, mayS, longM, widthM, jumpM, ccM] at *); (simp [wk, wkL, wkO, eqCells, eqCell, mayX, regM, mayS, longM, widthM, jumpM, ccM, *]; done))
  have c9 := @rreg_ok base
  generalize g11 : regM base = r10 at c9
  let E4 : EL := E3 ++ [tT, tT, tT, .ret _ _ _ c9, tT, tF]
  cases r10
  ·exact (o25 (d := .bool false) (E4 ++ [tF, tF, tF, tF, tT, tF, tF, tF, tF, tT, tT]) (by kernel_rfl)).to (by clear E1 E2 E3 E4; (try simp only [sl0, wk, wkL, wkO, eqCells, eqCell, mayX, regM, mayS, longM, widthM, jumpM, ccM] at *); (simp [wk, wkL, wkO, eqCells, eqCell, mayX, regM, mayS, longM, widthM, jumpM, ccM, *]; done))
  have c12 := @rfour_ok disp
  let E5 : EL := E4 ++ [tT, tT, tT, .ret _ _ _ c12, tT, tF]
  rcases bft (decide ((-2147483648) ≤ disp ∧ disp ≤ 2147483647)) with h13 | h13
  ·have c14 := @rfour_ok imm
   let E6 : EL := E5 ++ List.replicate 3 (tC (eF (nt h13))) ++ [.ret _ _ _ c14, tC (eF (nt h13)), tC (nt h13)]
   rcases bft (decide ((-2147483648) ≤ imm ∧ imm ≤ 2147483647)) with h15 | h15
   ·have c16 := @rlong_ok w
    generalize g18 : longM w = r17 at c16
    cases r17
    ·exact (o25 (d := .bool false) (E6 ++ [tC (nt h15), tF, tF, tF, tF, tT, .ret _ _ _ c16, tF, tF, tF, tF]) (by kernel_rfl)).to (by clear E1 E2 E3 E4 E5 E6; (try simp only [sl0, wk, wkL, wkO, eqCells, eqCell, mayX, regM, mayS, longM, widthM, jumpM, ccM] at *); (simp [wk, wkL, wkO, eqCells, eqCell, mayX, regM, mayS, longM, widthM, jumpM, ccM, *]; done))
    have c19 := @rcc_ok cc
    generalize g21 : ccM cc = r20 at c19
    exact (o25 (d := .bool r20) (E6 ++ [tC (nt h15), tF, tF, tF, tF, tT, .ret _ _ _ c16, tT, tT, tT, .ret _ _ _ c19, tT]) (by kernel_rfl)).to (by clear E1 E2 E3 E4 E5 E6; (try simp only [sl0, wk, wkL, wkO, eqCells, eqCell, mayX, regM, mayS, longM, widthM, jumpM, ccM] at *); (rw [Bool.eq_iff_iff]; simp [wk, wkL, wkO, eqCells, eqCell, mayX, regM, mayS, longM, widthM, jumpM, ccM, *]; grind))
   exact (o25 (d := .bool false) (E6 ++ [tC (nt h15)]) (by kernel_rfl)).to (by clear E1 E2 E3 E4 E5 E6; (try simp only [sl0, wk, wkL, wkO, eqCells, eqCell, mayX, regM, mayS, longM, widthM, jumpM, ccM] at *); (simp [wk, wkL, wkO, eqCells, eqCell, mayX, regM, mayS, longM, widthM, jumpM, ccM, *]; done))
  exact (o25 (d := .bool false) (E5 ++ List.replicate 4 (tC (eF (nt h13))) ++ [tC (nt h13), tT]) (by kernel_rfl)).to (by clear E1 E2 E3 E4 E5; (try simp only [sl0, wk, wkL, wkO, eqCells, eqCell, mayX, regM, mayS, longM, widthM, jumpM, ccM] at *); (simp [wk, wkL, wkO, eqCells, eqCell, mayX, regM, mayS, longM, widthM, jumpM, ccM, *]; done))
 exact (o25 (d := .bool false) (E1 ++ List.replicate 4 (tC (eF (nt h2))) ++ [tC (nt h2), tF, tF, tF, tF, tT, tF, tF, tF, tF, tT, tF, tF, tF, tF, tT, tF, tF, tF, tF, tT, tT]) (by kernel_rfl)).to (by clear E1; (try simp only [sl0, wk, wkL, wkO, eqCells, eqCell, mayX, regM, mayS, longM, widthM, jumpM, ccM] at *); (rw [Bool.eq_iff_iff]; simp [wk, wkL, wkO, eqCells, eqCell, mayX, regM, mayS, longM, widthM, jumpM, ccM, *]; grind))
theorem rmayX_7_ok (op w dst src base disp imm cc : Int) (h : (shapeM op == 7) = true) (hc : (classM op == 6) = true) : Ret Tryz.prog 25 ([xD op w dst src base disp imm cc]) (.bool (mayX op w dst src base disp imm cc)) := by
 have c0 := @class_ok op
 rw [eq_of_beq hc] at c0
 have c1 := @rfields_6_ok op w dst src base disp imm cc (eqI 6 true (eq_of_beq hc))
 let E1 : EL := [.ret _ _ _ c0, tT, tT, tT, .ret _ _ _ c1, tT, .flat _ _ flat_X, tF]
 rcases bft (eqCells [.int .i8 op, .int .i8 w, .int .i8 dst, .int .i8 src, .int .i8 base, .int .i64 disp, .int .i64 imm, .int .i8 cc] [.int .i8 op, .int .i8 w, .int .i8 dst, .int .i8 0, .int .i8 base, .int .i64 disp, .int .i64 0, .int .i8 0]) with h2 | h2
 ·have c3 := @rreg_ok dst
  generalize g5 : regM dst = r4 at c3
  let E2 : EL := E1 ++ List.replicate 3 (tC (eF (nt h2))) ++ [.ret _ _ _ c3, tC (eF (nt h2)), tC (nt h2)]
  cases r4
  ·exact (o25 (d := .bool false) (E2 ++ [tF, tF, tF, tF, tT, tF, tF, tF, tF, tT, tF, tF, tF, tF, tT, tF, tF, tF, tF, tT, tT]) (by kernel_rfl)).to (by clear E1 E2; (try simp only [sl0, wk, wkL, wkO, eqCells, eqCell, mayX, regM, mayS, longM, widthM, jumpM, ccM] at *); (simp [wk, wkL, wkO, eqCells, eqCell, mayX, regM, mayS, longM, widthM, jumpM, ccM, *]; done))
  have c6 := @rreg_ok src
  generalize g8 : regM src = r7 at c6
  let E3 : EL := E2 ++ [tT, tT, tT, .ret _ _ _ c6, tT, tF]
  cases r7
  ·exact (o25 (d := .bool false) (E3 ++ [tF, tF, tF, tF, tT, tF, tF, tF, tF, tT, tF, tF, tF, tF, tT, tT]) (by kernel_rfl)).to (by clear E1 E2 E3; (try simp only [sl0, wk, wkL, wkO, eqCells, eqCell, mayX, regM, mayS, longM, widthM, jumpM, ccM] at *); (simp [wk, wkL, wkO, eqCells, eqCell, mayX, regM, mayS, longM, widthM, jumpM, ccM, *]; done))
  have c9 := @rreg_ok base
  generalize g11 : regM base = r10 at c9
  let E4 : EL := E3 ++ [tT, tT, tT, .ret _ _ _ c9, tT, tF]
  cases r10
  ·exact (o25 (d := .bool false) (E4 ++ [tF, tF, tF, tF, tT, tF, tF, tF, tF, tT, tT]) (by kernel_rfl)).to (by clear E1 E2 E3 E4; (try simp only [sl0, wk, wkL, wkO, eqCells, eqCell, mayX, regM, mayS, longM, widthM, jumpM, ccM] at *); (simp [wk, wkL, wkO, eqCells, eqCell, mayX, regM, mayS, longM, widthM, jumpM, ccM, *]; done))
  have c12 := @rfour_ok disp
  rcases bft (decide ((-2147483648) ≤ disp ∧ disp ≤ 2147483647)) with h13 | h13
  ·have c14 := @rfour_ok imm
   let E5 : EL := E4 ++ [tT, tT, tT, .ret _ _ _ c12, tT, tF] ++ List.replicate 3 (tC (eF (nt h13))) ++ [.ret _ _ _ c14, tC (eF (nt h13)), tC (nt h13)]
   rcases bft (decide ((-2147483648) ≤ imm ∧ imm ≤ 2147483647)) with h15 | h15
   ·have c16 := @rwidth_ok w
    generalize g18 : widthM w = r17 at c16
    exact (o25 (d := .bool r17) (E5 ++ [tC (nt h15), tF, tF, tF, tF, tF, tT, tT, .ret _ _ _ c16]) (by kernel_rfl)).to (by clear E1 E2 E3 E4 E5; (try simp only [sl0, wk, wkL, wkO, eqCells, eqCell, mayX, regM, mayS, longM, widthM, jumpM, ccM] at *); (rw [Bool.eq_iff_iff]; simp [wk, wkL, wkO, eqCells, eqCell, mayX, regM, mayS, longM, widthM, jumpM, ccM, *]; grind))
   exact (o25 (d := .bool false) (E5 ++ [tC (nt h15)]) (by kernel_rfl)).to (by clear E1 E2 E3 E4 E5; (try simp only [sl0, wk, wkL, wkO, eqCells, eqCell, mayX, regM, mayS, longM, widthM, jumpM, ccM] at *); (simp [wk, wkL, wkO, eqCells, eqCell, mayX, regM, mayS, longM, widthM, jumpM, ccM, *]; done))
  exact (o25 (d := .bool false) (E4 ++ [tT, tT, tT, .ret _ _ _ c12, tT, tF] ++ List.replicate 4 (tC (eF (nt h13))) ++ [tC (nt h13), tT]) (by kernel_rfl)).to (by clear E1 E2 E3 E4; (try simp only [sl0, wk, wkL, wkO, eqCells, eqCell, mayX, regM, mayS, longM, widthM, jumpM, ccM] at *); (simp [wk, wkL, wkO, eqCells, eqCell, mayX, regM, mayS, longM, widthM, jumpM, ccM, *]; done))
 exact (o25 (d := .bool false) (E1 ++ List.replicate 4 (tC (eF (nt h2))) ++ [tC (nt h2), tF, tF, tF, tF, tT, tF, tF, tF, tF, tT, tF, tF, tF, tF, tT, tF, tF, tF, tF, tT, tT]) (by kernel_rfl)).to (by clear E1; (try simp only [sl0, wk, wkL, wkO, eqCells, eqCell, mayX, regM, mayS, longM, widthM, jumpM, ccM] at *); (rw [Bool.eq_iff_iff]; simp [wk, wkL, wkO, eqCells, eqCell, mayX, regM, mayS, longM, widthM, jumpM, ccM, *]; grind))
theorem rmayX_8_ok (op w dst src base disp imm cc : Int) (h : (shapeM op == 8) = true) (hc : (classM op == 7) = true) : Ret Tryz.prog 25 ([xD op w dst src base disp imm cc]) (.bool (mayX op w dst src base disp imm cc)) := by
 have c0 := @class_ok op
 rw [eq_of_beq hc] at c0
 have c1 := @rfields_7_ok op w dst src base disp imm cc (eqI 7 true (eq_of_beq hc))
 let E1 : EL := [.ret _ _ _ c0, tT, tT, tT, .ret _ _ _ c1, tT, .flat _ _ flat_X, tF]
 rcases bft (eqCells [.int .i8 op, .int .i8 w, .int .i8 dst, .int .i8 src, .int .i8 base, .int .i64 disp, .int .i64 imm, .int .i8 cc] [.int .i8 op, .int .i8 w, .int .i8 0, .int .i8 src, .int .i8 base, .int .i64 disp, .int .i64 0, .int .i8 0]) with h2 | h2
 ·have c3 := @rreg_ok dst
  generalize g5 : regM dst = r4 at c3
  let E2 : EL := E1 ++ List.replicate 3 (tC (eF (nt h2))) ++ [.ret _ _ _ c3, tC (eF (nt h2)), tC (nt h2)]
  cases r4
  ·exact (o25 (d := .bool false) (E2 ++ [tF, tF, tF, tF, tT, tF, tF, tF, tF, tT, tF, tF, tF, tF, tT, tF, tF, tF, tF, tT, tT]) (by kernel_rfl)).to (by clear E1 E2; (try simp only [sl0, wk, wkL, wkO, eqCells, eqCell, mayX, regM, mayS, longM, widthM, jumpM, ccM] at *); (simp [wk, wkL, wkO, eqCells, eqCell, mayX, regM, mayS, longM, widthM, jumpM, ccM, *]; done))
  have c6 := @rreg_ok src
  generalize g8 : regM src = r7 at c6
  let E3 : EL := E2 ++ [tT, tT, tT, .ret _ _ _ c6, tT, tF]
  cases r7
  ·exact (o25 (d := .bool false) (E3 ++ [tF, tF, tF, tF, tT, tF, tF, tF, tF, tT, tF, tF, tF, tF, tT, tT]) (by kernel_rfl)).to (by clear E1 E2 E3; (try simp only [sl0, wk, wkL, wkO, eqCells, eqCell, mayX, regM, mayS, longM, widthM, jumpM, ccM] at *); (simp [wk, wkL, wkO, eqCells, eqCell, mayX, regM, mayS, longM, widthM, jumpM, ccM, *]; done))
  have c9 := @rreg_ok base
  generalize g11 : regM base = r10 at c9
  let E4 : EL := E3 ++ [tT, tT, tT, .ret _ _ _ c9, tT, tF]
  cases r10
  ·exact (o25 (d := .bool false) (E4 ++ [tF, tF, tF, tF, tT, tF, tF, tF, tF, tT, tT]) (by kernel_rfl)).to (by clear E1 E2 E3 E4; (try simp only [sl0, wk, wkL, wkO, eqCells, eqCell, mayX, regM, mayS, longM, widthM, jumpM, ccM] at *); (simp [wk, wkL, wkO, eqCells, eqCell, mayX, regM, mayS, longM, widthM, jumpM, ccM, *]; done))
  have c12 := @rfour_ok disp
  rcases bft (decide ((-2147483648) ≤ disp ∧ disp ≤ 2147483647)) with h13 | h13
  ·have c14 := @rfour_ok imm
   let E5 : EL := E4 ++ [tT, tT, tT, .ret _ _ _ c12, tT, tF] ++ List.replicate 3 (tC (eF (nt h13))) ++ [.ret _ _ _ c14, tC (eF (nt h13)), tC (nt h13)]
   rcases bft (decide ((-2147483648) ≤ imm ∧ imm ≤ 2147483647)) with h15 | h15
   ·have c16 := @rwidth_ok w
    generalize g18 : widthM w = r17 at c16
    exact (o25 (d := .bool r17) (E5 ++ [tC (nt h15), tF, tF, tF, tF, tF, tF, tT, .ret _ _ _ c16]) (by kernel_rfl)).to (by clear E1 E2 E3 E4 E5; (try simp only [sl0, wk, wkL, wkO, eqCells, eqCell, mayX, regM, mayS, longM, widthM, jumpM, ccM] at *); (rw [Bool.eq_iff_iff]; simp [wk, wkL, wkO, eqCells, eqCell, mayX, regM, mayS, longM, widthM, jumpM, ccM, *]; grind))
   exact (o25 (d := .bool false) (E5 ++ [tC (nt h15)]) (by kernel_rfl)).to (by clear E1 E2 E3 E4 E5; (try simp only [sl0, wk, wkL, wkO, eqCells, eqCell, mayX, regM, mayS, longM, widthM, jumpM, ccM] at *); (simp [wk, wkL, wkO, eqCells, eqCell, mayX, regM, mayS, longM, widthM, jumpM, ccM, *]; done))
  exact (o25 (d := .bool false) (E4 ++ [tT, tT, tT, .ret _ _ _ c12, tT, tF] ++ List.replicate 4 (tC (eF (nt h13))) ++ [tC (nt h13), tT]) (by kernel_rfl)).to (by clear E1 E2 E3 E4; (try simp only [sl0, wk, wkL, wkO, eqCells, eqCell, mayX, regM, mayS, longM, widthM, jumpM, ccM] at *); (simp [wk, wkL, wkO, eqCells, eqCell, mayX, regM, mayS, longM, widthM, jumpM, ccM, *]; done))
 exact (o25 (d := .bool false) (E1 ++ List.replicate 4 (tC (eF (nt h2))) ++ [tC (nt h2), tF, tF, tF, tF, tT, tF, tF, tF, tF, tT, tF, tF, tF, tF, tT, tF, tF, tF, tF, tT, tT]) (by kernel_rfl)).to (by clear E1; (try simp only [sl0, wk, wkL, wkO, eqCells, eqCell, mayX, regM, mayS, longM, widthM, jumpM, ccM] at *); (rw [Bool.eq_iff_iff]; simp [wk, wkL, wkO, eqCells, eqCell, mayX, regM, mayS, longM, widthM, jumpM, ccM, *]; grind))
end Go.Proofs.YtcngafhpodeenaaGreat

namespace Go.Proofs.YtcngafhpodeenaaGreat
open Go Go.Ev
set_option maxRecDepth 100000
set_option maxHeartbeats 8000000
theorem rmayX_9_ok (op w dst src base disp imm cc : Int) (h : (shapeM op == 9) = true) (hc : (classM op == 8) = true) : Ret Tryz.prog 25 ([xD op w dst src base disp imm cc]) (.bool (mayX op w dst src base disp imm cc)) := by
 have c0 := @class_ok op
 rw [eq_of_beq hc] at c0
 have c1 := @rfields_8_ok op w dst src base disp imm cc (eqI 8 true (eq_of_beq hc))
 let E1 : EL := [.ret _ _ _ c0, tT, tT, tT, .ret _ _ _ c1, tT, .flat _ _ flat_X, tF]
 rcases bft (eqCells [.int .i8 op, .int .i8 w, .int .i8 dst, .int .i8 src, .int .i8 base, .int .i64 disp, .int .i64 imm, .int .i8 cc] [.int .i8 op, .int .i8 w, .int .i8 0, .int .i8 0, .int .i8 0, .int .i64 0, .int .i64 imm, .int .i8 0]) with h2 | h2
 ·have c3 := @rreg_ok dst
  generalize g5 : regM dst = r4 at c3
  let E2 : EL := E1 ++ List.replicate 3 (tC (eF (nt h2))) ++ [.ret _ _ _ c3, tC (eF (nt h2)), tC (nt h2)]
  cases r4
  ·exact (o25 (d := .bool false) (E2 ++ [tF, tF, tF, tF, tT, tF, tF, tF, tF, tT, tF, tF, tF, tF, tT, tF, tF, tF, tF, tT, tT]) (by kernel_rfl)).to (by clear E1 E2; (try simp only [sl0, wk, wkL, wkO, eqCells, eqCell, mayX, regM, mayS, longM, widthM, jumpM, ccM] at *); (simp [wk, wkL, wkO, eqCells, eqCell, mayX, regM, mayS, longM, widthM, jumpM, ccM, *]; done))
  have c6 := @rreg_ok src
  generalize g8 : regM src = r7 at c6
  let E3 : EL := E2 ++ [tT, tT, tT, .ret _ _ _ c6, tT, tF]
  cases r7
  ·exact (o25 (d := .bool false) (E3 ++ [tF, tF, tF, tF, tT, tF, tF, tF, tF, tT, tF, tF, tF, tF, tT, tT]) (by kernel_rfl)).to (by clear E1 E2 E3; (try simp only [sl0, wk, wkL, wkO, eqCells, eqCell, mayX, regM, mayS, longM, widthM, jumpM, ccM] at *); (simp [wk, wkL, wkO, eqCells, eqCell, mayX, regM, mayS, longM, widthM, jumpM, ccM, *]; done))
  have c9 := @rreg_ok base
  generalize g11 : regM base = r10 at c9
  let E4 : EL := E3 ++ [tT, tT, tT, .ret _ _ _ c9, tT, tF]
  cases r10
  ·exact (o25 (d := .bool false) (E4 ++ [tF, tF, tF, tF, tT, tF, tF, tF, tF, tT, tT]) (by kernel_rfl)).to (by clear E1 E2 E3 E4; (try simp only [sl0, wk, wkL, wkO, eqCells, eqCell, mayX, regM, mayS, longM, widthM, jumpM, ccM] at *); (simp [wk, wkL, wkO, eqCells, eqCell, mayX, regM, mayS, longM, widthM, jumpM, ccM, *]; done))
  have c12 := @rfour_ok disp
  let E5 : EL := E4 ++ [tT, tT, tT, .ret _ _ _ c12, tT, tF]
  rcases bft (decide ((-2147483648) ≤ disp ∧ disp ≤ 2147483647)) with h13 | h13
  ·have c14 := @rfour_ok imm
   let E6 : EL := E5 ++ List.replicate 3 (tC (eF (nt h13))) ++ [.ret _ _ _ c14, tC (eF (nt h13)), tC (nt h13)]
   rcases bft (decide ((-2147483648) ≤ imm ∧ imm ≤ 2147483647)) with h15 | h15
   ·let E7 : EL := E6 ++ [tC (nt h15), tF, tF, tF, tF, tF, tF, tF, tT]
    by_cases h16 : w = 32
    ·subst h16
     exact (o25 (d := .bool true) (E7 ++ [tF, tF, tF, tF, tF, tT]) (by kernel_rfl)).to (by clear E1 E2 E3 E4 E5 E6 E7; (try simp only [sl0, wk, wkL, wkO, eqCells, eqCell, mayX, regM, mayS, longM, widthM, jumpM, ccM] at *); (rw [Bool.eq_iff_iff]; simp [wk, wkL, wkO, eqCells, eqCell, mayX, regM, mayS, longM, widthM, jumpM, ccM, *]; grind))
    by_cases h17 : w = 8
    ·subst h17
     have c18 := @rone_ok imm
     exact (o25 (d := .bool (decide ((-128) ≤ imm ∧ imm ≤ 127))) (E7 ++ List.replicate 4 (tC (eF (neOf h16))) ++ [tT, tT, tT, .ret _ _ _ c18, tT, tT, tF]) (by kernel_rfl)).to (by clear E1 E2 E3 E4 E5 E6 E7; (try simp only [sl0, wk, wkL, wkO, eqCells, eqCell, mayX, regM, mayS, longM, widthM, jumpM, ccM] at *); (rw [Bool.eq_iff_iff]; simp [wk, wkL, wkO, eqCells, eqCell, mayX, regM, mayS, longM, widthM, jumpM, ccM, *]; grind))
    exact (o25 (d := .bool false) (E7 ++ List.replicate 4 (tC (eF (neOf h16))) ++ List.replicate 3 (tC (eT (neOf h17))) ++ [tC (eF (neOf h16)), tC (neOf h17), tC (neOf h16)]) (by kernel_rfl)).to (by clear E1 E2 E3 E4 E5 E6 E7; (try simp only [sl0, wk, wkL, wkO, eqCells, eqCell, mayX, regM, mayS, longM, widthM, jumpM, ccM] at *); (simp [wk, wkL, wkO, eqCells, eqCell, mayX, regM, mayS, longM, widthM, jumpM, ccM, *]; done))
   exact (o25 (d := .bool false) (E6 ++ [tC (nt h15)]) (by kernel_rfl)).to (by clear E1 E2 E3 E4 E5 E6; (try simp only [sl0, wk, wkL, wkO, eqCells, eqCell, mayX, regM, mayS, longM, widthM, jumpM, ccM] at *); (simp [wk, wkL, wkO, eqCells, eqCell, mayX, regM, mayS, longM, widthM, jumpM, ccM, *]; done))
  exact (o25 (d := .bool false) (E5 ++ List.replicate 4 (tC (eF (nt h13))) ++ [tC (nt h13), tT]) (by kernel_rfl)).to (by clear E1 E2 E3 E4 E5; (try simp only [sl0, wk, wkL, wkO, eqCells, eqCell, mayX, regM, mayS, longM, widthM, jumpM, ccM] at *); (simp [wk, wkL, wkO, eqCells, eqCell, mayX, regM, mayS, longM, widthM, jumpM, ccM, *]; done))
 exact (o25 (d := .bool false) (E1 ++ List.replicate 4 (tC (eF (nt h2))) ++ [tC (nt h2), tF, tF, tF, tF, tT, tF, tF, tF, tF, tT, tF, tF, tF, tF, tT, tF, tF, tF, tF, tT, tT]) (by kernel_rfl)).to (by clear E1; (try simp only [sl0, wk, wkL, wkO, eqCells, eqCell, mayX, regM, mayS, longM, widthM, jumpM, ccM] at *); (rw [Bool.eq_iff_iff]; simp [wk, wkL, wkO, eqCells, eqCell, mayX, regM, mayS, longM, widthM, jumpM, ccM, *]; grind))
theorem rmayX_10_ok (op w dst src base disp imm cc : Int) (h : (shapeM op == 10) = true) (hc : (classM op == 9) = true) : Ret Tryz.prog 25 ([xD op w dst src base disp imm cc]) (.bool (mayX op w dst src base disp imm cc)) := by
 have c0 := @class_ok op
 rw [eq_of_beq hc] at c0
 have c1 := @rfields_9_ok op w dst src base disp imm cc (eqI 9 true (eq_of_beq hc))
 let E1 : EL := [.ret _ _ _ c0, tT, tT, tT, .ret _ _ _ c1, tT, .flat _ _ flat_X, tF]
 rcases bft (eqCells [.int .i8 op, .int .i8 w, .int .i8 dst, .int .i8 src, .int .i8 base, .int .i64 disp, .int .i64 imm, .int .i8 cc] [.int .i8 op, .int .i8 w, .int .i8 0, .int .i8 0, .int .i8 0, .int .i64 0, .int .i64 imm, .int .i8 cc]) with h2 | h2
 ·have c3 := @rreg_ok dst
  generalize g5 : regM dst = r4 at c3
  let E2 : EL := E1 ++ List.replicate 3 (tC (eF (nt h2))) ++ [.ret _ _ _ c3, tC (eF (nt h2)), tC (nt h2)]
  cases r4
  ·exact (o25 (d := .bool false) (E2 ++ [tF, tF, tF, tF, tT, tF, tF, tF, tF, tT, tF, tF, tF, tF, tT, tF, tF, tF, tF, tT, tT]) (by kernel_rfl)).to (by clear E1 E2; (try simp only [sl0, wk, wkL, wkO, eqCells, eqCell, mayX, regM, mayS, longM, widthM, jumpM, ccM] at *); (simp [wk, wkL, wkO, eqCells, eqCell, mayX, regM, mayS, longM, widthM, jumpM, ccM, *]; done))
  have c6 := @rreg_ok src
  generalize g8 : regM src = r7 at c6
  let E3 : EL := E2 ++ [tT, tT, tT, .ret _ _ _ c6, tT, tF]
  cases r7
  ·exact (o25 (d := .bool false) (E3 ++ [tF, tF, tF, tF, tT, tF, tF, tF, tF, tT, tF, tF, tF, tF, tT, tT]) (by kernel_rfl)).to (by clear E1 E2 E3; (try simp only [sl0, wk, wkL, wkO, eqCells, eqCell, mayX, regM, mayS, longM, widthM, jumpM, ccM] at *); (simp [wk, wkL, wkO, eqCells, eqCell, mayX, regM, mayS, longM, widthM, jumpM, ccM, *]; done))
  have c9 := @rreg_ok base
  generalize g11 : regM base = r10 at c9
  let E4 : EL := E3 ++ [tT, tT, tT, .ret _ _ _ c9, tT, tF]
  cases r10
  ·exact (o25 (d := .bool false) (E4 ++ [tF, tF, tF, tF, tT, tF, tF, tF, tF, tT, tT]) (by kernel_rfl)).to (by clear E1 E2 E3 E4; (try simp only [sl0, wk, wkL, wkO, eqCells, eqCell, mayX, regM, mayS, longM, widthM, jumpM, ccM] at *); (simp [wk, wkL, wkO, eqCells, eqCell, mayX, regM, mayS, longM, widthM, jumpM, ccM, *]; done))
  have c12 := @rfour_ok disp
  let E5 : EL := E4 ++ [tT, tT, tT, .ret _ _ _ c12, tT, tF]
  rcases bft (decide ((-2147483648) ≤ disp ∧ disp ≤ 2147483647)) with h13 | h13
  ·have c14 := @rfour_ok imm
   let E6 : EL := E5 ++ List.replicate 3 (tC (eF (nt h13))) ++ [.ret _ _ _ c14, tC (eF (nt h13)), tC (nt h13)]
   rcases bft (decide ((-2147483648) ≤ imm ∧ imm ≤ 2147483647)) with h15 | h15
   ·let E7 : EL := E6 ++ [tC (nt h15)] ++ List.replicate 8 tF ++ [tT]
    by_cases h16 : w = 32
    ·subst h16
     have c17 := @rcc_ok cc
     generalize g19 : ccM cc = r18 at c17
     exact (o25 (d := .bool r18) (E7 ++ [tF, tF, tF, tF, tF, tT, tT, tT, tT, .ret _ _ _ c17, tT]) (by kernel_rfl)).to (by clear E1 E2 E3 E4 E5 E6 E7; (try simp only [sl0, wk, wkL, wkO, eqCells, eqCell, mayX, regM, mayS, longM, widthM, jumpM, ccM] at *); (rw [Bool.eq_iff_iff]; simp [wk, wkL, wkO, eqCells, eqCell, mayX, regM, mayS, longM, widthM, jumpM, ccM, *]; grind))
    let E8 : EL := E7 ++ List.replicate 4 (tC (eF (neOf h16)))
    by_cases h20 : w = 8
    ·subst h20
     have c21 := @rone_ok imm
     rcases bft (decide ((-128) ≤ imm ∧ imm ≤ 127)) with h22 | h22
     ·have c23 := @rcc_ok cc
      generalize g25 : ccM cc = r24 at c23
      exact (o25 (d := .bool r24) (E8 ++ [tT, tT, tT, .ret _ _ _ c21, tT, tT, tF, tC (eT h22), tC (eT h22), tC (eT h22), .ret _ _ _ c23, tC h22]) (by kernel_rfl)).to (by clear E1 E2 E3 E4 E5 E6 E7 E8; (try simp only [sl0, wk, wkL, wkO, eqCells, eqCell, mayX, regM, mayS, longM, widthM, jumpM, ccM] at *); (rw [Bool.eq_iff_iff]; simp [wk, wkL, wkO, eqCells, eqCell, mayX, regM, mayS, longM, widthM, jumpM, ccM, *]; grind))
     exact (o25 (d := .bool false) (E8 ++ [tT, tT, tT, .ret _ _ _ c21, tT, tT, tF, tC (eT h22), tC (eT h22), tC (eT h22), tC h22]) (by kernel_rfl)).to (by clear E1 E2 E3 E4 E5 E6 E7 E8; (try simp only [sl0, wk, wkL, wkO, eqCells, eqCell, mayX, regM, mayS, longM, widthM, jumpM, ccM] at *); (simp [wk, wkL, wkO, eqCells, eqCell, mayX, regM, mayS, longM, widthM, jumpM, ccM, *]; done))
    exact (o25 (d := .bool false) (E8 ++ List.replicate 3 (tC (eT (neOf h20))) ++ [tC (eF (neOf h16)), tC (neOf h20), tC (neOf h16), tF, tF, tF, tF]) (by kernel_rfl)).to (by clear E1 E2 E3 E4 E5 E6 E7 E8; (try simp only [sl0, wk, wkL, wkO, eqCells, eqCell, mayX, regM, mayS, longM, widthM, jumpM, ccM] at *); (simp [wk, wkL, wkO, eqCells, eqCell, mayX, regM, mayS, longM, widthM, jumpM, ccM, *]; done))
   exact (o25 (d := .bool false) (E6 ++ [tC (nt h15)]) (by kernel_rfl)).to (by clear E1 E2 E3 E4 E5 E6; (try simp only [sl0, wk, wkL, wkO, eqCells, eqCell, mayX, regM, mayS, longM, widthM, jumpM, ccM] at *); (simp [wk, wkL, wkO, eqCells, eqCell, mayX, regM, mayS, longM, widthM, jumpM, ccM, *]; done))
  exact (o25 (d := .bool false) (E5 ++ List.replicate 4 (tC (eF (nt h13))) ++ [tC (nt h13), tT]) (by kernel_rfl)).to (by clear E1 E2 E3 E4 E5; (try simp only [sl0, wk, wkL, wkO, eqCells, eqCell, mayX, regM, mayS, longM, widthM, jumpM, ccM] at *); (simp [wk, wkL, wkO, eqCells, eqCell, mayX, regM, mayS, longM, widthM, jumpM, ccM, *]; done))
 exact (o25 (d := .bool false) (E1 ++ List.replicate 4 (tC (eF (nt h2))) ++ [tC (nt h2), tF, tF, tF, tF, tT, tF, tF, tF, tF, tT, tF, tF, tF, tF, tT, tF, tF, tF, tF, tT, tT]) (by kernel_rfl)).to (by clear E1; (try simp only [sl0, wk, wkL, wkO, eqCells, eqCell, mayX, regM, mayS, longM, widthM, jumpM, ccM] at *); (rw [Bool.eq_iff_iff]; simp [wk, wkL, wkO, eqCells, eqCell, mayX, regM, mayS, longM, widthM, jumpM, ccM, *]; grind))
theorem rmayX_11_ok (op w dst src base disp imm cc : Int) (h : (shapeM op == 11) = true) (hc : (classM op == 10) = true) : Ret Tryz.prog 25 ([xD op w dst src base disp imm cc]) (.bool (mayX op w dst src base disp imm cc)) := by
 have c0 := @class_ok op
 rw [eq_of_beq hc] at c0
 have c1 := @rfields_10_ok op w dst src base disp imm cc (eqI 10 true (eq_of_beq hc))
 let E1 : EL := [.ret _ _ _ c0, tT, tT, tT, .ret _ _ _ c1, tT, .flat _ _ flat_X, tF]
 rcases bft (eqCells [.int .i8 op, .int .i8 w, .int .i8 dst, .int .i8 src, .int .i8 base, .int .i64 disp, .int .i64 imm, .int .i8 cc] [.int .i8 op, .int .i8 0, .int .i8 0, .int .i8 0, .int .i8 0, .int .i64 0, .int .i64 0, .int .i8 0]) with h2 | h2
 ·have c3 := @rreg_ok dst
  generalize g5 : regM dst = r4 at c3
  let E2 : EL := E1 ++ List.replicate 3 (tC (eF (nt h2))) ++ [.ret _ _ _ c3, tC (eF (nt h2)), tC (nt h2)]
  cases r4
  ·exact (o25 (d := .bool false) (E2 ++ [tF, tF, tF, tF, tT, tF, tF, tF, tF, tT, tF, tF, tF, tF, tT, tF, tF, tF, tF, tT, tT]) (by kernel_rfl)).to (by clear E1 E2; (try simp only [sl0, wk, wkL, wkO, eqCells, eqCell, mayX, regM, mayS, longM, widthM, jumpM, ccM] at *); (simp [wk, wkL, wkO, eqCells, eqCell, mayX, regM, mayS, longM, widthM, jumpM, ccM, *]; done))
  have c6 := @rreg_ok src
  generalize g8 : regM src = r7 at c6
  let E3 : EL := E2 ++ [tT, tT, tT, .ret _ _ _ c6, tT, tF]
  cases r7
  ·exact (o25 (d := .bool false) (E3 ++ [tF, tF, tF, tF, tT, tF, tF, tF, tF, tT, tF, tF, tF, tF, tT, tT]) (by kernel_rfl)).to (by clear E1 E2 E3; (try simp only [sl0, wk, wkL, wkO, eqCells, eqCell, mayX, regM, mayS, longM, widthM, jumpM, ccM] at *); (simp [wk, wkL, wkO, eqCells, eqCell, mayX, regM, mayS, longM, widthM, jumpM, ccM, *]; done))
  have c9 := @rreg_ok base
  generalize g11 : regM base = r10 at c9
  let E4 : EL := E3 ++ [tT, tT, tT, .ret _ _ _ c9, tT, tF]
  cases r10
  ·exact (o25 (d := .bool false) (E4 ++ [tF, tF, tF, tF, tT, tF, tF, tF, tF, tT, tT]) (by kernel_rfl)).to (by clear E1 E2 E3 E4; (try simp only [sl0, wk, wkL, wkO, eqCells, eqCell, mayX, regM, mayS, longM, widthM, jumpM, ccM] at *); (simp [wk, wkL, wkO, eqCells, eqCell, mayX, regM, mayS, longM, widthM, jumpM, ccM, *]; done))
  have c12 := @rfour_ok disp
  rcases bft (decide ((-2147483648) ≤ disp ∧ disp ≤ 2147483647)) with h13 | h13
  ·have c14 := @rfour_ok imm
   let E5 : EL := E4 ++ [tT, tT, tT, .ret _ _ _ c12, tT, tF] ++ List.replicate 3 (tC (eF (nt h13))) ++ [.ret _ _ _ c14, tC (eF (nt h13)), tC (nt h13)]
   rcases bft (decide ((-2147483648) ≤ imm ∧ imm ≤ 2147483647)) with h15 | h15
   ·exact (o25 (d := .bool true) (E5 ++ [tC (nt h15)] ++ List.replicate 9 tF) (by kernel_rfl)).to (by clear E1 E2 E3 E4 E5; (try simp only [sl0, wk, wkL, wkO, eqCells, eqCell, mayX, regM, mayS, longM, widthM, jumpM, ccM] at *); (rw [Bool.eq_iff_iff]; simp [wk, wkL, wkO, eqCells, eqCell, mayX, regM, mayS, longM, widthM, jumpM, ccM, *]; grind))
   exact (o25 (d := .bool false) (E5 ++ [tC (nt h15)]) (by kernel_rfl)).to (by clear E1 E2 E3 E4 E5; (try simp only [sl0, wk, wkL, wkO, eqCells, eqCell, mayX, regM, mayS, longM, widthM, jumpM, ccM] at *); (simp [wk, wkL, wkO, eqCells, eqCell, mayX, regM, mayS, longM, widthM, jumpM, ccM, *]; done))
  exact (o25 (d := .bool false) (E4 ++ [tT, tT, tT, .ret _ _ _ c12, tT, tF] ++ List.replicate 4 (tC (eF (nt h13))) ++ [tC (nt h13), tT]) (by kernel_rfl)).to (by clear E1 E2 E3 E4; (try simp only [sl0, wk, wkL, wkO, eqCells, eqCell, mayX, regM, mayS, longM, widthM, jumpM, ccM] at *); (simp [wk, wkL, wkO, eqCells, eqCell, mayX, regM, mayS, longM, widthM, jumpM, ccM, *]; done))
 exact (o25 (d := .bool false) (E1 ++ List.replicate 4 (tC (eF (nt h2))) ++ [tC (nt h2), tF, tF, tF, tF, tT, tF, tF, tF, tF, tT, tF, tF, tF, tF, tT, tF, tF, tF, tF, tT, tT]) (by kernel_rfl)).to (by clear E1; (try simp only [sl0, wk, wkL, wkO, eqCells, eqCell, mayX, regM, mayS, longM, widthM, jumpM, ccM] at *); (rw [Bool.eq_iff_iff]; simp [wk, wkL, wkO, eqCells, eqCell, mayX, regM, mayS, longM, widthM, jumpM, ccM, *]; grind))
end Go.Proofs.YtcngafhpodeenaaGreat

namespace Go.Proofs.YtcngafhpodeenaaGreat
open Go Go.Ev
theorem rshape_range : ∀ n : Fin 32, shapeM (n.val : Int) = 1 ∨ shapeM (n.val : Int) = 2 ∨ shapeM (n.val : Int) = 3 ∨ shapeM (n.val : Int) = 4 ∨ shapeM (n.val : Int) = 5 ∨ shapeM (n.val : Int) = 6 ∨ shapeM (n.val : Int) = 7 ∨ shapeM (n.val : Int) = 8 ∨ shapeM (n.val : Int) = 9 ∨ shapeM (n.val : Int) = 10 ∨ shapeM (n.val : Int) = 11 := by decide +kernel
theorem rmayX_ok (op w dst src base disp imm cc : Int) : Ret Tryz.prog 25 [xD op w dst src base disp imm cc] (.bool (mayX op w dst src base disp imm cc)) := by
 by_cases hin : 0 ≤ op ∧ op ≤ 31
 ·have e : op = (((⟨op.toNat, by omega⟩ : Fin 32).val : Nat) : Int) := by simp; omega
  have hr := rshape_range ⟨op.toNat, by omega⟩
  rw [← e] at hr
  rcases hr with h | h | h | h | h | h | h | h | h | h | h
  ·exact rmayX_1_ok _ _ _ _ _ _ _ _ (by rw [h]; rfl) (by simp [classM, h])
  ·exact rmayX_2_ok _ _ _ _ _ _ _ _ (by rw [h]; rfl) (by simp [classM, h])
  ·exact rmayX_3_ok _ _ _ _ _ _ _ _ (by rw [h]; rfl) (by simp [classM, h])
  ·exact rmayX_4_ok _ _ _ _ _ _ _ _ (by rw [h]; rfl) (by simp [classM, h])
  ·exact rmayX_5_ok _ _ _ _ _ _ _ _ (by rw [h]; rfl) (by simp [classM, h])
  ·exact rmayX_6_ok _ _ _ _ _ _ _ _ (by rw [h]; rfl) (by simp [classM, h])
  ·exact rmayX_7_ok _ _ _ _ _ _ _ _ (by rw [h]; rfl) (by simp [classM, h])
  ·exact rmayX_8_ok _ _ _ _ _ _ _ _ (by rw [h]; rfl) (by simp [classM, h])
  ·exact rmayX_9_ok _ _ _ _ _ _ _ _ (by rw [h]; rfl) (by simp [classM, h])
  ·exact rmayX_10_ok _ _ _ _ _ _ _ _ (by rw [h]; rfl) (by simp [classM, h])
  ·exact rmayX_11_ok _ _ _ _ _ _ _ _ (by rw [h]; rfl) (by simp [classM, h])
 ·exact rmayX_0_ok _ _ _ _ _ _ _ _ (by rw [(shape_none (op := op) (by omega)).1]; rfl) (by simp [classM, (shape_none (op := op) (by omega)).1])
end Go.Proofs.YtcngafhpodeenaaGreat

namespace Go.Proofs.YtcngafhpodeenaaGreat
open Go Go.Ev
set_option maxRecDepth 100000
set_option maxHeartbeats 8000000
theorem mregister_ok (r : Int) : Ret Tryz.prog 76 ([.int .i8 r]) (.bool (regM r)) := by
 rcases bft (decide (r < 0)) with h0 | h0
 ·exact (o76 (d := .bool false) [tC (eT (leL 0 h0)), tC (eT (leL 0 h0)), tC (leL 0 h0)] (by kernel_rfl)).to (by (try simp only [sl0, wk, wkL, wkO, eqCells, eqCell, regM] at *); first | (simp [wk, wkL, wkO, eqCells, eqCell, regM, *]; done) | (simp [wk, wkL, wkO, eqCells, eqCell, regM, *]; omega) | (rw [Bool.eq_iff_iff]; simp [wk, wkL, wkO, eqCells, eqCell, regM, *]; done) | (rw [Bool.eq_iff_iff]; simp [wk, wkL, wkO, eqCells, eqCell, regM, *]; omega) | (rw [Bool.eq_iff_iff]; simp [wk, wkL, wkO, eqCells, eqCell, regM, *]; grind) | (subst_vars; rw [Bool.eq_iff_iff]; simp; grind))
 exact (o76 (d := .bool (decide (r < 16))) [tC (eT (leL 0 h0)), tC (eT (leL 0 h0)), tC (leL 0 h0)] (by kernel_rfl)).to (by (try simp only [sl0, wk, wkL, wkO, eqCells, eqCell, regM] at *); first | (simp [wk, wkL, wkO, eqCells, eqCell, regM, *]; done) | (simp [wk, wkL, wkO, eqCells, eqCell, regM, *]; omega) | (rw [Bool.eq_iff_iff]; simp [wk, wkL, wkO, eqCells, eqCell, regM, *]; done) | (rw [Bool.eq_iff_iff]; simp [wk, wkL, wkO, eqCells, eqCell, regM, *]; omega) | (rw [Bool.eq_iff_iff]; simp [wk, wkL, wkO, eqCells, eqCell, regM, *]; grind) | (subst_vars; rw [Bool.eq_iff_iff]; simp; grind))
theorem mhigh0_ok (r : Int) (r0 : 0 ≤ r) (r1 : r ≤ 15) : Ret Tryz.prog 77 ([.int .i8 r, .int .u64 0]) (.int .u8 (r / 8)) := by
 exact (o77 (d := .int .u8 (IntKind.wrap IntKind.u8 (IntKind.wrap IntKind.u8 (↑(BitVec.toNat (BitVec.ofInt (8 : Nat) (Int.fdiv (IntKind.wrap IntKind.u8 r) 8) &&& BitVec.ofInt (8 : Nat) 1)) : Int) * 1))) [tT] (by kernel_rfl)).to (by simp only [wk, D.int.injEq, true_and]; obtain ⟨n, rfl⟩ := fin16 r0 r1; clear r0 r1; revert n; decide +kernel)
theorem mhigh2_ok (r : Int) (r0 : 0 ≤ r) (r1 : r ≤ 15) : Ret Tryz.prog 77 ([.int .i8 r, .int .u64 2]) (.int .u8 (4 * (r / 8))) := by
 exact (o77 (d := .int .u8 (IntKind.wrap IntKind.u8 (IntKind.wrap IntKind.u8 (↑(BitVec.toNat (BitVec.ofInt (8 : Nat) (Int.fdiv (IntKind.wrap IntKind.u8 r) 8) &&& BitVec.ofInt (8 : Nat) 1)) : Int) * 4))) [tT] (by kernel_rfl)).to (by simp only [wk, D.int.injEq, true_and]; obtain ⟨n, rfl⟩ := fin16 r0 r1; clear r0 r1; revert n; decide +kernel)
theorem mlow192_ok (r m : Int) (r0 : 0 ≤ r) (r1 : r ≤ 15) (m0 : 0 ≤ m) (m1 : m ≤ 15) : Ret Tryz.prog 78 ([.int .u8 192, .int .i8 r, .int .i8 m]) (.int .u8 (regsM r m)) := by
 exact (o78 (d := .int .u8 (IntKind.wrap IntKind.u8 (↑(BitVec.toNat (BitVec.ofInt (8 : Nat) (IntKind.wrap IntKind.u8 (↑(BitVec.toNat (BitVec.ofInt (8 : Nat) 192 ||| BitVec.ofInt (8 : Nat) (IntKind.wrap IntKind.u8 (IntKind.wrap IntKind.u8 (↑(BitVec.toNat (BitVec.ofInt (8 : Nat) (IntKind.wrap IntKind.u8 r) &&& BitVec.ofInt (8 : Nat) 7)) : Int) * 8)))) : Int)) ||| BitVec.ofInt (8 : Nat) (IntKind.wrap IntKind.u8 (↑(BitVec.toNat (BitVec.ofInt (8 : Nat) (IntKind.wrap IntKind.u8 m) &&& BitVec.ofInt (8 : Nat) 7)) : Int)))) : Int))) [] (by kernel_rfl)).to (by simp only [wk, D.int.injEq, true_and]; obtain ⟨n, rfl⟩ := fin16 r0 r1; obtain ⟨k, rfl⟩ := fin16 m0 m1; clear r0 r1 m0 m1; revert n k; decide +kernel)
theorem mlow128_ok (r m : Int) (r0 : 0 ≤ r) (r1 : r ≤ 15) (m0 : 0 ≤ m) (m1 : m ≤ 15) : Ret Tryz.prog 78 ([.int .u8 128, .int .i8 r, .int .i8 m]) (.int .u8 (128 + 8 * (r % 8) + m % 8)) := by
 exact (o78 (d := .int .u8 (IntKind.wrap IntKind.u8 (↑(BitVec.toNat (BitVec.ofInt (8 : Nat) (IntKind.wrap IntKind.u8 (↑(BitVec.toNat (BitVec.ofInt (8 : Nat) 128 ||| BitVec.ofInt (8 : Nat) (IntKind.wrap IntKind.u8 (IntKind.wrap IntKind.u8 (↑(BitVec.toNat (BitVec.ofInt (8 : Nat) (IntKind.wrap IntKind.u8 r) &&& BitVec.ofInt (8 : Nat) 7)) : Int) * 8)))) : Int)) ||| BitVec.ofInt (8 : Nat) (IntKind.wrap IntKind.u8 (↑(BitVec.toNat (BitVec.ofInt (8 : Nat) (IntKind.wrap IntKind.u8 m) &&& BitVec.ofInt (8 : Nat) 7)) : Int)))) : Int))) [] (by kernel_rfl)).to (by simp only [wk, D.int.injEq, true_and]; obtain ⟨n, rfl⟩ := fin16 r0 r1; obtain ⟨k, rfl⟩ := fin16 m0 m1; clear r0 r1 m0 m1; revert n k; decide +kernel)
theorem rdirect_ok (r m : Int) (r0 : 0 ≤ r) (r1 : r ≤ 15) (m0 : 0 ≤ m) (m1 : m ≤ 15) : Ret Tryz.prog 54 ([.int .i8 r, .int .i8 m]) (.int .u8 (regsM r m)) := by
 exact (o54 (d := .int .u8 (IntKind.wrap IntKind.u8 (IntKind.wrap IntKind.i64 (IntKind.wrap IntKind.i64 (192 + IntKind.wrap IntKind.i64 (8 * IntKind.wrap IntKind.i64 (IntKind.wrap IntKind.i8 (↑(BitVec.toNat (BitVec.ofInt (8 : Nat) r &&& BitVec.ofInt (8 : Nat) 7)) : Int)))) + IntKind.wrap IntKind.i64 (IntKind.wrap IntKind.i8 (↑(BitVec.toNat (BitVec.ofInt (8 : Nat) m &&& BitVec.ofInt (8 : Nat) 7)) : Int)))))) [] (by kernel_rfl)).to (by simp only [wk, D.int.injEq, true_and]; obtain ⟨n, rfl⟩ := fin16 r0 r1; obtain ⟨k, rfl⟩ := fin16 m0 m1; clear r0 r1 m0 m1; revert n k; decide +kernel)
theorem mneeds_t_ok (r m : Int) (r0 : 0 ≤ r) (r1 : r ≤ 15) (m0 : 0 ≤ m) (m1 : m ≤ 15) (hn : decide (8 ≤ r ∨ 8 ≤ m) = true) : Ret Tryz.prog 64 ([.int .i8 r, .int .i8 m]) (.bool true) := by
 have c0 := @mregister_ok r
 rw [show (regM r) = true from (@reg_yes r r0 r1)] at c0
 have c1 := @mregister_ok m
 rw [show (regM m) = true from (@reg_yes m m0 m1)] at c1
 exact (o64 (d := .bool (IntKind.wrap IntKind.i8 (↑(BitVec.toNat (BitVec.ofInt (8 : Nat) (IntKind.wrap IntKind.i8 (↑(BitVec.toNat (BitVec.ofInt (8 : Nat) r ||| BitVec.ofInt (8 : Nat) m)) : Int)) &&& BitVec.ofInt (8 : Nat) 8)) : Int) != 0)) [.ret _ _ _ c0, tT, tT, .ret _ _ _ c1, tT, tT, tT, tT, tT, tT, tT] (by kernel_rfl)).to (by simp only [wk, D.bool.injEq]; rw [need_or r0 r1 m0 m1]; exact hn)
theorem mneeds_f_ok (r m : Int) (r0 : 0 ≤ r) (r1 : r ≤ 15) (m0 : 0 ≤ m) (m1 : m ≤ 15) (hn : decide (8 ≤ r ∨ 8 ≤ m) = false) : Ret Tryz.prog 64 ([.int .i8 r, .int .i8 m]) (.bool false) := by
 have c0 := @mregister_ok r
 rw [show (regM r) = true from (@reg_yes r r0 r1)] at c0
 have c1 := @mregister_ok m
 rw [show (regM m) = true from (@reg_yes m m0 m1)] at c1
 exact (o64 (d := .bool (IntKind.wrap IntKind.i8 (↑(BitVec.toNat (BitVec.ofInt (8 : Nat) (IntKind.wrap IntKind.i8 (↑(BitVec.toNat (BitVec.ofInt (8 : Nat) r ||| BitVec.ofInt (8 : Nat) m)) : Int)) &&& BitVec.ofInt (8 : Nat) 8)) : Int) != 0)) [.ret _ _ _ c0, tT, tT, .ret _ _ _ c1, tT, tT, tT, tT, tT, tT, tT] (by kernel_rfl)).to (by simp only [wk, D.bool.injEq]; rw [need_or r0 r1 m0 m1]; exact hn)
end Go.Proofs.YtcngafhpodeenaaGreat
