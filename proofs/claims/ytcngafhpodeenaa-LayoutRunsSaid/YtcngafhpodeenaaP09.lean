/- Contracts and plain laws that a statement's proof leans on (texts merged: XRef0, XRef1, XRef2, XRef3, XRef4, XRefA, XB0, NumA, XB1, XB2a, XB2b). -/
import Derived.WalkKit
import Derived.IntWalk
import Derived.KernelRfl
import Derived.LoopN
import Derived.Test.YtcngafhpodeenaaP05
import Derived.Test.YtcngafhpodeenaaP06
set_option linter.unusedVariables false
set_option linter.unusedSimpArgs false
set_option maxRecDepth 100000
set_option maxHeartbeats 8000000
namespace Go.Proofs.Ytcngafhpodeenaa
open Go Go.Ev
theorem rfields_1_ok (op w dst src base disp imm cc : Int) (hc : (classM op == 1) = true) : Ret Try.prog 101 ([xD op w dst src base disp imm cc]) (xD op w dst src 0 0 0 0) := by
 have c0 := @class_ok op
 rw [show (classM op) = 1 from (eq_of_beq hc)] at c0
 exact (o101 (d := (xD op w dst src 0 0 0 0)) [.ret _ _ _ c0, tT, tT, tF, tF, tT, tF, tF, tT, tT, tT, tT, tF, tT, tT, tF, tT, tT, tF, tF, tT, tT, tF, tF, tT, tT, tF, tF] (by kernel_rfl)).to (by simp [wk, wkL])
theorem rfields_2_ok (op w dst src base disp imm cc : Int) (hc : (classM op == 2) = true) : Ret Try.prog 101 ([xD op w dst src base disp imm cc]) (xD op w dst 0 0 0 imm 0) := by
 have c0 := @class_ok op
 rw [show (classM op) = 2 from (eq_of_beq hc)] at c0
 exact (o101 (d := (xD op w dst 0 0 0 imm 0)) [.ret _ _ _ c0, tT, tT, tT, tT, tF, tT, tT, tF, tF, tF, tF, tT, tF, tF, tT, tF, tF, tT, tT, tT, tT, tF, tF, tT, tT, tF, tF] (by kernel_rfl)).to (by simp [wk, wkL])
theorem rfields_3_ok (op w dst src base disp imm cc : Int) (hc : (classM op == 3) = true) : Ret Try.prog 101 ([xD op w dst src base disp imm cc]) (xD op w dst 0 0 0 imm 0) := by
 have c0 := @class_ok op
 rw [show (classM op) = 3 from (eq_of_beq hc)] at c0
 exact (o101 (d := (xD op w dst 0 0 0 imm 0)) [.ret _ _ _ c0, tT, tT, tT, tT, tF, tT, tT, tF, tF, tT, tT, tF, tF, tF, tT, tF, tF, tT, tT, tT, tT, tF, tF, tT, tT, tF, tF] (by kernel_rfl)).to (by simp [wk, wkL])
theorem rfields_4_ok (op w dst src base disp imm cc : Int) (hc : (classM op == 4) = true) : Ret Try.prog 101 ([xD op w dst src base disp imm cc]) (xD op w dst 0 0 0 0 0) := by
 have c0 := @class_ok op
 rw [show (classM op) = 4 from (eq_of_beq hc)] at c0
 exact (o101 (d := (xD op w dst 0 0 0 0 0)) [.ret _ _ _ c0, tT, tT, tT, tT, tF, tT, tT, tF, tF, tT, tT, tF, tT, tT, tF, tT, tT, tF, tF, tT, tT, tF, tF, tT, tT, tF, tF] (by kernel_rfl)).to (by simp [wk, wkL])
theorem rfields_5_ok (op w dst src base disp imm cc : Int) (hc : (classM op == 5) = true) : Ret Try.prog 101 ([xD op w dst src base disp imm cc]) (xD op w dst src 0 0 0 cc) := by
 have c0 := @class_ok op
 rw [show (classM op) = 5 from (eq_of_beq hc)] at c0
 exact (o101 (d := (xD op w dst src 0 0 0 cc)) [.ret _ _ _ c0, tT, tT, tT, tT, tF, tF, tF, tT, tT, tT, tT, tF, tT, tT, tF, tT, tT, tF, tF, tF, tF, tT, tT, tT, tT, tF, tF] (by kernel_rfl)).to (by simp [wk, wkL])
theorem rfields_6_ok (op w dst src base disp imm cc : Int) (hc : (classM op == 6) = true) : Ret Try.prog 101 ([xD op w dst src base disp imm cc]) (xD op w dst 0 base disp 0 0) := by
 have c0 := @class_ok op
 rw [show (classM op) = 6 from (eq_of_beq hc)] at c0
 exact (o101 (d := (xD op w dst 0 base disp 0 0)) [.ret _ _ _ c0, tT, tT, tT, tT, tF, tT, tT, tF, tF, tT, tT, tF, tT, tT, tF, tT, tT, tF, tF, tT, tT, tF, tF, tF, tF, tT, tT] (by kernel_rfl)).to (by simp [wk, wkL])
theorem rfields_7_ok (op w dst src base disp imm cc : Int) (hc : (classM op == 7) = true) : Ret Try.prog 101 ([xD op w dst src base disp imm cc]) (xD op w 0 src base disp 0 0) := by
 have c0 := @class_ok op
 rw [show (classM op) = 7 from (eq_of_beq hc)] at c0
 exact (o101 (d := (xD op w 0 src base disp 0 0)) [.ret _ _ _ c0, tT, tF, tT, tT, tF, tT, tT, tF, tT, tT, tT, tF, tT, tT, tF, tT, tT, tF, tF, tT, tT, tF, tF, tT, tT, tF, tT] (by kernel_rfl)).to (by simp [wk, wkL])
theorem rfields_8_ok (op w dst src base disp imm cc : Int) (hc : (classM op == 8) = true) : Ret Try.prog 101 ([xD op w dst src base disp imm cc]) (xD op w 0 0 0 0 imm 0) := by
 have c0 := @class_ok op
 rw [show (classM op) = 8 from (eq_of_beq hc)] at c0
 exact (o101 (d := (xD op w 0 0 0 0 imm 0)) [.ret _ _ _ c0, tT, tF, tT, tT, tF, tT, tT, tF, tF, tT, tT, tF, tT, tT, tF, tF, tF, tT, tT, tT, tT, tF, tF, tT, tT, tF, tF] (by kernel_rfl)).to (by simp [wk, wkL])
theorem rfields_9_ok (op w dst src base disp imm cc : Int) (hc : (classM op == 9) = true) : Ret Try.prog 101 ([xD op w dst src base disp imm cc]) (xD op w 0 0 0 0 imm cc) := by
 have c0 := @class_ok op
 rw [show (classM op) = 9 from (eq_of_beq hc)] at c0
 exact (o101 (d := (xD op w 0 0 0 0 imm cc)) [.ret _ _ _ c0, tT, tF, tT, tT, tF, tT, tT, tF, tF, tT, tT, tF, tT, tT, tF, tT, tT, tF, tT, tT, tT, tF, tT, tT, tT, tF, tF] (by kernel_rfl)).to (by simp [wk, wkL])
theorem rfields_10_ok (op w dst src base disp imm cc : Int) (hc : (classM op == 10) = true) : Ret Try.prog 101 ([xD op w dst src base disp imm cc]) (xD op 0 0 0 0 0 0 0) := by
 have c0 := @class_ok op
 rw [show (classM op) = 10 from (eq_of_beq hc)] at c0
 exact (o101 (d := (xD op 0 0 0 0 0 0 0)) [.ret _ _ _ c0, tF, tF, tT, tT, tF, tT, tT, tF, tF, tT, tT, tF, tT, tT, tF, tT, tT, tF, tF, tT, tT, tF, tF, tT, tT, tF, tF] (by kernel_rfl)).to (by simp [wk, wkL])
theorem rmayX_0_ok (op w dst src base disp imm cc : Int) (h : (shapeM op == 0) = true) (hc : (classM op == 0) = true) : Ret Try.prog 54 ([xD op w dst src base disp imm cc]) (.bool (mayX op w dst src base disp imm cc)) := by
 have c0 := @class_ok op
 rw [eq_of_beq hc] at c0
 exact (o54 (d := .bool false) [.ret _ _ _ c0, tF, tF, tF, tF, tT, tF, tF, tF, tF, tT, tF, tF, tF, tF, tT, tF, tF, tF, tF, tT, tF, tF, tF, tF, tT, tF, tF, tF, tF, tT, tT] (by kernel_rfl)).to (by (try simp only [sl0, wk, wkL, wkO, eqCells, eqCell, mayX, regM, mayS, longM, widthM, jumpM, ccM] at *); (simp [wk, wkL, wkO, eqCells, eqCell, mayX, regM, mayS, longM, widthM, jumpM, ccM, *]; done))
theorem rmayX_1_ok (op w dst src base disp imm cc : Int) (h : (shapeM op == 1) = true) (hc : (classM op == 1) = true) : Ret Try.prog 54 ([xD op w dst src base disp imm cc]) (.bool (mayX op w dst src base disp imm cc)) := by
 have c0 := @class_ok op
 rw [eq_of_beq hc] at c0
 have c1 := @rfields_1_ok op w dst src base disp imm cc (eqI 1 true (eq_of_beq hc))
 let E1 : EL := [.ret _ _ _ c0, tT, tT, tT, .ret _ _ _ c1, tT, .flat _ _ flat_X, tF]
 rcases bft (eqCells [.int .i8 op, .int .i8 w, .int .i8 dst, .int .i8 src, .int .i8 base, .int .i64 disp, .int .i64 imm, .int .i8 cc] [.int .i8 op, .int .i8 w, .int .i8 dst, .int .i8 src, .int .i8 0, .int .i64 0, .int .i64 0, .int .i8 0]) with h2 | h2
 ·have c3 := @rreg_ok dst
  generalize g5 : regM dst = r4 at c3
  let E2 : EL := E1 ++ List.replicate 3 (tC (eF (nt h2))) ++ [.ret _ _ _ c3, tC (eF (nt h2)), tC (nt h2)]
  cases r4
  ·exact (o54 (d := .bool false) (E2 ++ [tF, tF, tF, tF, tT, tF, tF, tF, tF, tT, tF, tF, tF, tF, tT, tF, tF, tF, tF, tT, tT]) (by kernel_rfl)).to (by clear E1 E2; (try simp only [sl0, wk, wkL, wkO, eqCells, eqCell, mayX, regM, mayS, longM, widthM, jumpM, ccM] at *); (simp [wk, wkL, wkO, eqCells, eqCell, mayX, regM, mayS, longM, widthM, jumpM, ccM, *]; done))
  have c6 := @rreg_ok src
  generalize g8 : regM src = r7 at c6
  let E3 : EL := E2 ++ [tT, tT, tT, .ret _ _ _ c6, tT, tF]
  cases r7
  ·exact (o54 (d := .bool false) (E3 ++ [tF, tF, tF, tF, tT, tF, tF, tF, tF, tT, tF, tF, tF, tF, tT, tT]) (by kernel_rfl)).to (by clear E1 E2 E3; (try simp only [sl0, wk, wkL, wkO, eqCells, eqCell, mayX, regM, mayS, longM, widthM, jumpM, ccM] at *); (simp [wk, wkL, wkO, eqCells, eqCell, mayX, regM, mayS, longM, widthM, jumpM, ccM, *]; done))
  have c9 := @rreg_ok base
  generalize g11 : regM base = r10 at c9
  let E4 : EL := E3 ++ [tT, tT, tT, .ret _ _ _ c9, tT, tF]
  cases r10
  ·exact (o54 (d := .bool false) (E4 ++ [tF, tF, tF, tF, tT, tF, tF, tF, tF, tT, tT]) (by kernel_rfl)).to (by clear E1 E2 E3 E4; (try simp only [sl0, wk, wkL, wkO, eqCells, eqCell, mayX, regM, mayS, longM, widthM, jumpM, ccM] at *); (simp [wk, wkL, wkO, eqCells, eqCell, mayX, regM, mayS, longM, widthM, jumpM, ccM, *]; done))
  have c12 := @rfour_ok disp
  rcases bft (decide ((-2147483648) ≤ disp ∧ disp ≤ 2147483647)) with h13 | h13
  ·have c14 := @rfour_ok imm
   let E5 : EL := E4 ++ [tT, tT, tT, .ret _ _ _ c12, tT, tF] ++ List.replicate 3 (tC (eF (nt h13))) ++ [.ret _ _ _ c14, tC (eF (nt h13)), tC (nt h13)]
   rcases bft (decide ((-2147483648) ≤ imm ∧ imm ≤ 2147483647)) with h15 | h15
   ·have c16 := @rlong_ok w
    generalize g18 : longM w = r17 at c16
    exact (o54 (d := .bool r17) (E5 ++ [tC (nt h15), tT, tT, .ret _ _ _ c16]) (by kernel_rfl)).to (by clear E1 E2 E3 E4 E5; (try simp only [sl0, wk, wkL, wkO, eqCells, eqCell, mayX, regM, mayS, longM, widthM, jumpM, ccM] at *); (rw [Bool.eq_iff_iff]; simp [wk, wkL, wkO, eqCells, eqCell, mayX, regM, mayS, longM, widthM, jumpM, ccM, *]; grind))
   exact (o54 (d := .bool false) (E5 ++ [tC (nt h15)]) (by kernel_rfl)).to (by clear E1 E2 E3 E4 E5; (try simp only [sl0, wk, wkL, wkO, eqCells, eqCell, mayX, regM, mayS, longM, widthM, jumpM, ccM] at *); (simp [wk, wkL, wkO, eqCells, eqCell, mayX, regM, mayS, longM, widthM, jumpM, ccM, *]; done))
  exact (o54 (d := .bool false) (E4 ++ [tT, tT, tT, .ret _ _ _ c12, tT, tF] ++ List.replicate 4 (tC (eF (nt h13))) ++ [tC (nt h13), tT]) (by kernel_rfl)).to (by clear E1 E2 E3 E4; (try simp only [sl0, wk, wkL, wkO, eqCells, eqCell, mayX, regM, mayS, longM, widthM, jumpM, ccM] at *); (simp [wk, wkL, wkO, eqCells, eqCell, mayX, regM, mayS, longM, widthM, jumpM, ccM, *]; done))
 exact (o54 (d := .bool false) (E1 ++ List.replicate 4 (tC (eF (nt h2))) ++ [tC (nt h2), tF, tF, tF, tF, tT, tF, tF, tF, tF, tT, tF, tF, tF, tF, tT, tF, tF, tF, tF, tT, tT]) (by kernel_rfl)).to (by clear E1; (try simp only [sl0, wk, wkL, wkO, eqCells, eqCell, mayX, regM, mayS, longM, widthM, jumpM, ccM] at *); (rw [Bool.eq_iff_iff]; simp [wk, wkL, wkO, eqCells, eqCell, mayX, regM, mayS, longM, widthM, jumpM, ccM, *]; grind))
theorem rmayX_2_ok (op w dst src base disp imm cc : Int) (h : (shapeM op == 2) = true) (hc : (classM op == 1) = true) : Ret Try.prog 54 ([xD op w dst src base disp imm cc]) (.bool (mayX op w dst src base disp imm cc)) := by
 have c0 := @class_ok op
 rw [eq_of_beq hc] at c0
 have c1 := @rfields_1_ok op w dst src base disp imm cc (eqI 1 true (eq_of_beq hc))
 let E1 : EL := [.ret _ _ _ c0, tT, tT, tT, .ret _ _ _ c1, tT, .flat _ _ flat_X, tF]
 rcases bft (eqCells [.int .i8 op, .int .i8 w, .int .i8 dst, .int .i8 src, .int .i8 base, .int .i64 disp, .int .i64 imm, .int .i8 cc] [.int .i8 op, .int .i8 w, .int .i8 dst, .int .i8 src, .int .i8 0, .int .i64 0, .int .i64 0, .int .i8 0]) with h2 | h2
 ·have c3 := @rreg_ok dst
  generalize g5 : regM dst = r4 at c3
  let E2 : EL := E1 ++ List.replicate 3 (tC (eF (nt h2))) ++ [.ret _ _ _ c3, tC (eF (nt h2)), tC (nt h2)]
  cases r4
  ·exact (o54 (d := .bool false) (E2 ++ [tF, tF, tF, tF, tT, tF, tF, tF, tF, tT, tF, tF, tF, tF, tT, tF, tF, tF, tF, tT, tT]) (by kernel_rfl)).to (by clear E1 E2; (try simp only [sl0, wk, wkL, wkO, eqCells, eqCell, mayX, regM, mayS, longM, widthM, jumpM, ccM] at *); (simp [wk, wkL, wkO, eqCells, eqCell, mayX, regM, mayS, longM, widthM, jumpM, ccM, *]; done))
  have c6 := @rreg_ok src
  generalize g8 : regM src = r7 at c6
  let E3 : EL := E2 ++ [tT, tT, tT, .ret _ _ _ c6, tT, tF]
  cases r7
  ·exact (o54 (d := .bool false) (E3 ++ [tF, tF, tF, tF, tT, tF, tF, tF, tF, tT, tF, tF, tF, tF, tT, tT]) (by kernel_rfl)).to (by clear E1 E2 E3; (try simp only [sl0, wk, wkL, wkO, eqCells, eqCell, mayX, regM, mayS, longM, widthM, jumpM, ccM] at *); (simp [wk, wkL, wkO, eqCells, eqCell, mayX, regM, mayS, longM, widthM, jumpM, ccM, *]; done))
  have c9 := @rreg_ok base
  generalize g11 : regM base = r10 at c9
  let E4 : EL := E3 ++ [tT, tT, tT, .ret _ _ _ c9, tT, tF]
  cases r10
  ·exact (o54 (d := .bool false) (E4 ++ [tF, tF, tF, tF, tT, tF, tF, tF, tF, tT, tT]) (by kernel_rfl)).to (by clear E1 E2 E3 E4; (try simp only [sl0, wk, wkL, wkO, eqCells, eqCell, mayX, regM, mayS, longM, widthM, jumpM, ccM] at *); (simp [wk, wkL, wkO, eqCells, eqCell, mayX, regM, mayS, longM, widthM, jumpM, ccM, *]; done))
  have c12 := @rfour_ok disp
  rcases bft (decide ((-2147483648) ≤ disp ∧ disp ≤ 2147483647)) with h13 | h13
  ·have c14 := @rfour_ok imm
   let E5 : EL := E4 ++ [tT, tT, tT, .ret _ _ _ c12, tT, tF] ++ List.replicate 3 (tC (eF (nt h13))) ++ [.ret _ _ _ c14, tC (eF (nt h13)), tC (nt h13)]
   rcases bft (decide ((-2147483648) ≤ imm ∧ imm ≤ 2147483647)) with h15 | h15
   ·have c16 := @rlong_ok w
    generalize g18 : longM w = r17 at c16
    exact (o54 (d := .bool r17) (E5 ++ [tC (nt h15), tT, tT, .ret _ _ _ c16]) (by kernel_rfl)).to (by clear E1 E2 E3 E4 E5; (try simp only [sl0, wk, wkL, wkO, eqCells, eqCell, mayX, regM, mayS, longM, widthM, jumpM, ccM] at *); (rw [Bool.eq_iff_iff]; simp [wk, wkL, wkO, eqCells, eqCell, mayX, regM, mayS, longM, widthM, jumpM, ccM, *]; grind))
   exact (o54 (d := .bool false) (E5 ++ [tC (nt h15)]) (by kernel_rfl)).to (by clear E1 E2 E3 E4 E5; (try simp only [sl0, wk, wkL, wkO, eqCells, eqCell, mayX, regM, mayS, longM, widthM, jumpM, ccM] at *); (simp [wk, wkL, wkO, eqCells, eqCell, mayX, regM, mayS, longM, widthM, jumpM, ccM, *]; done))
  exact (o54 (d := .bool false) (E4 ++ [tT, tT, tT, .ret _ _ _ c12, tT, tF] ++ List.replicate 4 (tC (eF (nt h13))) ++ [tC (nt h13), tT]) (by kernel_rfl)).to (by clear E1 E2 E3 E4; (try simp only [sl0, wk, wkL, wkO, eqCells, eqCell, mayX, regM, mayS, longM, widthM, jumpM, ccM] at *); (simp [wk, wkL, wkO, eqCells, eqCell, mayX, regM, mayS, longM, widthM, jumpM, ccM, *]; done))
 exact (o54 (d := .bool false) (E1 ++ List.replicate 4 (tC (eF (nt h2))) ++ [tC (nt h2), tF, tF, tF, tF, tT, tF, tF, tF, tF, tT, tF, tF, tF, tF, tT, tF, tF, tF, tF, tT, tT]) (by kernel_rfl)).to (by clear E1; (try simp only [sl0, wk, wkL, wkO, eqCells, eqCell, mayX, regM, mayS, longM, widthM, jumpM, ccM] at *); (rw [Bool.eq_iff_iff]; simp [wk, wkL, wkO, eqCells, eqCell, mayX, regM, mayS, longM, widthM, jumpM, ccM, *]; grind))
theorem rmayX_3_ok (op w dst src base disp imm cc : Int) (h : (shapeM op == 3) = true) (hc : (classM op == 2) = true) : Ret Try.prog 54 ([xD op w dst src base disp imm cc]) (.bool (mayX op w dst src base disp imm cc)) := by
 have c0 := @class_ok op
 rw [eq_of_beq hc] at c0
 have c1 := @rfields_2_ok op w dst src base disp imm cc (eqI 2 true (eq_of_beq hc))
 let E1 : EL := [.ret _ _ _ c0, tT, tT, tT, .ret _ _ _ c1, tT, .flat _ _ flat_X, tF]
 rcases bft (eqCells [.int .i8 op, .int .i8 w, .int .i8 dst, .int .i8 src, .int .i8 base, .int .i64 disp, .int .i64 imm, .int .i8 cc] [.int .i8 op, .int .i8 w, .int .i8 dst, .int .i8 0, .int .i8 0, .int .i64 0, .int .i64 imm, .int .i8 0]) with h2 | h2
 ·have c3 := @rreg_ok dst
  generalize g5 : regM dst = r4 at c3
  let E2 : EL := E1 ++ List.replicate 3 (tC (eF (nt h2))) ++ [.ret _ _ _ c3, tC (eF (nt h2)), tC (nt h2)]
  cases r4
  ·exact (o54 (d := .bool false) (E2 ++ [tF, tF, tF, tF, tT, tF, tF, tF, tF, tT, tF, tF, tF, tF, tT, tF, tF, tF, tF, tT, tT]) (by kernel_rfl)).to (by clear E1 E2; (try simp only [sl0, wk, wkL, wkO, eqCells, eqCell, mayX, regM, mayS, longM, widthM, jumpM, ccM, w_i64] at *); (simp [wk, wkL, wkO, eqCells, eqCell, mayX, regM, mayS, longM, widthM, jumpM, ccM, w_i64, *]; done))
  have c6 := @rreg_ok src
  generalize g8 : regM src = r7 at c6
  let E3 : EL := E2 ++ [tT, tT, tT, .ret _ _ _ c6, tT, tF]
  cases r7
  ·exact (o54 (d := .bool false) (E3 ++ [tF, tF, tF, tF, tT, tF, tF, tF, tF, tT, tF, tF, tF, tF, tT, tT]) (by kernel_rfl)).to (by clear E1 E2 E3; (try simp only [sl0, wk, wkL, wkO, eqCells, eqCell, mayX, regM, mayS, longM, widthM, jumpM, ccM, w_i64] at *); (simp [wk, wkL, wkO, eqCells, eqCell, mayX, regM, mayS, longM, widthM, jumpM, ccM, w_i64, *]; done))
  have c9 := @rreg_ok base
  generalize g11 : regM base = r10 at c9
  let E4 : EL := E3 ++ [tT, tT, tT, .ret _ _ _ c9, tT, tF]
  cases r10
  ·exact (o54 (d := .bool false) (E4 ++ [tF, tF, tF, tF, tT, tF, tF, tF, tF, tT, tT]) (by kernel_rfl)).to (by clear E1 E2 E3 E4; (try simp only [sl0, wk, wkL, wkO, eqCells, eqCell, mayX, regM, mayS, longM, widthM, jumpM, ccM, w_i64] at *); (simp [wk, wkL, wkO, eqCells, eqCell, mayX, regM, mayS, longM, widthM, jumpM, ccM, w_i64, *]; done))
  have c12 := @rfour_ok disp
  rcases bft (decide ((-2147483648) ≤ disp ∧ disp ≤ 2147483647)) with h13 | h13
  ·have c14 := @rfour_ok imm
   let E5 : EL := E4 ++ [tT, tT, tT, .ret _ _ _ c12, tT, tF] ++ List.replicate 3 (tC (eF (nt h13))) ++ [.ret _ _ _ c14, tC (eF (nt h13)), tC (nt h13)]
   rcases bft (decide ((-2147483648) ≤ imm ∧ imm ≤ 2147483647)) with h15 | h15
   ·have c16 := @rlong_ok w
    generalize g18 : longM w = r17 at c16
    exact (o54 (d := .bool r17) (E5 ++ [tC (nt h15), tF, tT, tT, .ret _ _ _ c16]) (by kernel_rfl)).to (by clear E1 E2 E3 E4 E5; (try simp only [sl0, wk, wkL, wkO, eqCells, eqCell, mayX, regM, mayS, longM, widthM, jumpM, ccM, w_i64] at *); (rw [Bool.eq_iff_iff]; simp [wk, wkL, wkO, eqCells, eqCell, mayX, regM, mayS, longM, widthM, jumpM, ccM, w_i64, *]; grind))
   exact (o54 (d := .bool false) (E5 ++ [tC (nt h15)]) (by kernel_rfl)).to (by clear E1 E2 E3 E4 E5; (try simp only [sl0, wk, wkL, wkO, eqCells, eqCell, mayX, regM, mayS, longM, widthM, jumpM, ccM, w_i64] at *); (simp [wk, wkL, wkO, eqCells, eqCell, mayX, regM, mayS, longM, widthM, jumpM, ccM, w_i64, *]; done))
  exact (o54 (d := .bool false) (E4 ++ [tT, tT, tT, .ret _ _ _ c12, tT, tF] ++ List.replicate 4 (tC (eF (nt h13))) ++ [tC (nt h13), tT]) (by kernel_rfl)).to (by clear E1 E2 E3 E4; (try simp only [sl0, wk, wkL, wkO, eqCells, eqCell, mayX, regM, mayS, longM, widthM, jumpM, ccM, w_i64] at *); (simp [wk, wkL, wkO, eqCells, eqCell, mayX, regM, mayS, longM, widthM, jumpM, ccM, w_i64, *]; done))
 exact (o54 (d := .bool false) (E1 ++ List.replicate 4 (tC (eF (nt h2))) ++ [tC (nt h2), tF, tF, tF, tF, tT, tF, tF, tF, tF, tT, tF, tF, tF, tF, tT, tF, tF, tF, tF, tT, tT]) (by kernel_rfl)).to (by clear E1; (try simp only [sl0, wk, wkL, wkO, eqCells, eqCell, mayX, regM, mayS, longM, widthM, jumpM, ccM, w_i64] at *); (rw [Bool.eq_iff_iff]; simp [wk, wkL, wkO, eqCells, eqCell, mayX, regM, mayS, longM, widthM, jumpM, ccM, w_i64, *]; grind))
theorem rmayX_4_ok (op w dst src base disp imm cc : Int) (h : (shapeM op == 4) = true) (hc : (classM op == 3) = true) : Ret Try.prog 54 ([xD op w dst src base disp imm cc]) (.bool (mayX op w dst src base disp imm cc)) := by
 have c0 := @class_ok op
 rw [eq_of_beq hc] at c0
 have c1 := @rfields_3_ok op w dst src base disp imm cc (eqI 3 true (eq_of_beq hc))
 let E1 : EL := [.ret _ _ _ c0, tT, tT, tT, .ret _ _ _ c1, tT, .flat _ _ flat_X, tF]
 rcases bft (eqCells [.int .i8 op, .int .i8 w, .int .i8 dst, .int .i8 src, .int .i8 base, .int .i64 disp, .int .i64 imm, .int .i8 cc] [.int .i8 op, .int .i8 w, .int .i8 dst, .int .i8 0, .int .i8 0, .int .i64 0, .int .i64 imm, .int .i8 0]) with h2 | h2
 ·have c3 := @rreg_ok dst
  generalize g5 : regM dst = r4 at c3
  let E2 : EL := E1 ++ List.replicate 3 (tC (eF (nt h2))) ++ [.ret _ _ _ c3, tC (eF (nt h2)), tC (nt h2)]
  cases r4
  ·exact (o54 (d := .bool false) (E2 ++ [tF, tF, tF, tF, tT, tF, tF, tF, tF, tT, tF, tF, tF, tF, tT, tF, tF, tF, tF, tT, tT]) (by kernel_rfl)).to (by clear E1 E2; (try simp only [sl0, wk, wkL, wkO, eqCells, eqCell, mayX, regM, mayS, longM, widthM, jumpM, ccM, w_i64] at *); (simp [wk, wkL, wkO, eqCells, eqCell, mayX, regM, mayS, longM, widthM, jumpM, ccM, w_i64, *]; done))
  have c6 := @rreg_ok src
  generalize g8 : regM src = r7 at c6
  let E3 : EL := E2 ++ [tT, tT, tT, .ret _ _ _ c6, tT, tF]
  cases r7
  ·exact (o54 (d := .bool false) (E3 ++ [tF, tF, tF, tF, tT, tF, tF, tF, tF, tT, tF, tF, tF, tF, tT, tT]) (by kernel_rfl)).to (by clear E1 E2 E3; (try simp only [sl0, wk, wkL, wkO, eqCells, eqCell, mayX, regM, mayS, longM, widthM, jumpM, ccM, w_i64] at *); (simp [wk, wkL, wkO, eqCells, eqCell, mayX, regM, mayS, longM, widthM, jumpM, ccM, w_i64, *]; done))
  have c9 := @rreg_ok base
  generalize g11 : regM base = r10 at c9
  let E4 : EL := E3 ++ [tT, tT, tT, .ret _ _ _ c9, tT, tF]
  cases r10
  ·exact (o54 (d := .bool false) (E4 ++ [tF, tF, tF, tF, tT, tF, tF, tF, tF, tT, tT]) (by kernel_rfl)).to (by clear E1 E2 E3 E4; (try simp only [sl0, wk, wkL, wkO, eqCells, eqCell, mayX, regM, mayS, longM, widthM, jumpM, ccM, w_i64] at *); (simp [wk, wkL, wkO, eqCells, eqCell, mayX, regM, mayS, longM, widthM, jumpM, ccM, w_i64, *]; done))
  have c12 := @rfour_ok disp
  let E5 : EL := E4 ++ [tT, tT, tT, .ret _ _ _ c12, tT, tF]
  rcases bft (decide ((-2147483648) ≤ disp ∧ disp ≤ 2147483647)) with h13 | h13
  ·have c14 := @rfour_ok imm
   let E6 : EL := E5 ++ List.replicate 3 (tC (eF (nt h13))) ++ [.ret _ _ _ c14, tC (eF (nt h13)), tC (nt h13)]
   rcases bft (decide ((-2147483648) ≤ imm ∧ imm ≤ 2147483647)) with h15 | h15
   ·have c16 := @rlong_ok w
    generalize g18 : longM w = r17 at c16
    let E7 : EL := E6 ++ [tC (nt h15), tF, tF, tF, tT, .ret _ _ _ c16]
    cases r17
    ·exact (o54 (d := .bool false) (E7 ++ List.replicate 11 tF) (by kernel_rfl)).to (by clear E1 E2 E3 E4 E5 E6 E7; (try simp only [sl0, wk, wkL, wkO, eqCells, eqCell, mayX, regM, mayS, longM, widthM, jumpM, ccM, w_i64] at *); (simp [wk, wkL, wkO, eqCells, eqCell, mayX, regM, mayS, longM, widthM, jumpM, ccM, w_i64, *]; done))
    rcases bft (decide (imm < 0)) with h19 | h19
    ·exact (o54 (d := .bool false) (E7 ++ [tT, tT, tT, tT] ++ List.replicate 6 (tC (eT (leL 0 h19))) ++ [tC (leL 0 h19)]) (by kernel_rfl)).to (by clear E1 E2 E3 E4 E5 E6 E7; (try simp only [sl0, wk, wkL, wkO, eqCells, eqCell, mayX, regM, mayS, longM, widthM, jumpM, ccM, w_i64] at *); (simp [wk, wkL, wkO, eqCells, eqCell, mayX, regM, mayS, longM, widthM, jumpM, ccM, w_i64, *]; omega))
    exact (o54 (d := .bool (decide (imm < IntKind.wrap IntKind.i64 w))) (E7 ++ [tT, tT, tT, tT] ++ List.replicate 6 (tC (eT (leL 0 h19))) ++ [tC (leL 0 h19)]) (by kernel_rfl)).to (by clear E1 E2 E3 E4 E5 E6 E7; (try simp only [sl0, wk, wkL, wkO, eqCells, eqCell, mayX, regM, mayS, longM, widthM, jumpM, ccM, w_i64] at *); (rw [Bool.eq_iff_iff]; simp [wk, wkL, wkO, eqCells, eqCell, mayX, regM, mayS, longM, widthM, jumpM, ccM, w_i64, *]; grind))
   exact (o54 (d := .bool false) (E6 ++ [tC (nt h15)]) (by kernel_rfl)).to (by clear E1 E2 E3 E4 E5 E6; (try simp only [sl0, wk, wkL, wkO, eqCells, eqCell, mayX, regM, mayS, longM, widthM, jumpM, ccM, w_i64] at *); (simp [wk, wkL, wkO, eqCells, eqCell, mayX, regM, mayS, longM, widthM, jumpM, ccM, w_i64, *]; done))
  exact (o54 (d := .bool false) (E5 ++ List.replicate 4 (tC (eF (nt h13))) ++ [tC (nt h13), tT]) (by kernel_rfl)).to (by clear E1 E2 E3 E4 E5; (try simp only [sl0, wk, wkL, wkO, eqCells, eqCell, mayX, regM, mayS, longM, widthM, jumpM, ccM, w_i64] at *); (simp [wk, wkL, wkO, eqCells, eqCell, mayX, regM, mayS, longM, widthM, jumpM, ccM, w_i64, *]; done))
 exact (o54 (d := .bool false) (E1 ++ List.replicate 4 (tC (eF (nt h2))) ++ [tC (nt h2), tF, tF, tF, tF, tT, tF, tF, tF, tF, tT, tF, tF, tF, tF, tT, tF, tF, tF, tF, tT, tT]) (by kernel_rfl)).to (by clear E1; (try simp only [sl0, wk, wkL, wkO, eqCells, eqCell, mayX, regM, mayS, longM, widthM, jumpM, ccM, w_i64] at *); (rw [Bool.eq_iff_iff]; simp [wk, wkL, wkO, eqCells, eqCell, mayX, regM, mayS, longM, widthM, jumpM, ccM, w_i64, *]; grind))
theorem rmayX_5_ok (op w dst src base disp imm cc : Int) (h : (shapeM op == 5) = true) (hc : (classM op == 4) = true) : Ret Try.prog 54 ([xD op w dst src base disp imm cc]) (.bool (mayX op w dst src base disp imm cc)) := by
 have c0 := @class_ok op
 rw [eq_of_beq hc] at c0
 have c1 := @rfields_4_ok op w dst src base disp imm cc (eqI 4 true (eq_of_beq hc))
 let E1 : EL := [.ret _ _ _ c0, tT, tT, tT, .ret _ _ _ c1, tT, .flat _ _ flat_X, tF]
 rcases bft (eqCells [.int .i8 op, .int .i8 w, .int .i8 dst, .int .i8 src, .int .i8 base, .int .i64 disp, .int .i64 imm, .int .i8 cc] [.int .i8 op, .int .i8 w, .int .i8 dst, .int .i8 0, .int .i8 0, .int .i64 0, .int .i64 0, .int .i8 0]) with h2 | h2
 ·have c3 := @rreg_ok dst
  generalize g5 : regM dst = r4 at c3
  let E2 : EL := E1 ++ List.replicate 3 (tC (eF (nt h2))) ++ [.ret _ _ _ c3, tC (eF (nt h2)), tC (nt h2)]
  cases r4
  ·exact (o54 (d := .bool false) (E2 ++ [tF, tF, tF, tF, tT, tF, tF, tF, tF, tT, tF, tF, tF, tF, tT, tF, tF, tF, tF, tT, tT]) (by kernel_rfl)).to (by clear E1 E2; (try simp only [sl0, wk, wkL, wkO, eqCells, eqCell, mayX, regM, mayS, longM, widthM, jumpM, ccM, w_i64] at *); (simp [wk, wkL, wkO, eqCells, eqCell, mayX, regM, mayS, longM, widthM, jumpM, ccM, w_i64, *]; done))
  have c6 := @rreg_ok src
  generalize g8 : regM src = r7 at c6
  let E3 : EL := E2 ++ [tT, tT, tT, .ret _ _ _ c6, tT, tF]
  cases r7
  ·exact (o54 (d := .bool false) (E3 ++ [tF, tF, tF, tF, tT, tF, tF, tF, tF, tT, tF, tF, tF, tF, tT, tT]) (by kernel_rfl)).to (by clear E1 E2 E3; (try simp only [sl0, wk, wkL, wkO, eqCells, eqCell, mayX, regM, mayS, longM, widthM, jumpM, ccM, w_i64] at *); (simp [wk, wkL, wkO, eqCells, eqCell, mayX, regM, mayS, longM, widthM, jumpM, ccM, w_i64, *]; done))
  have c9 := @rreg_ok base
  generalize g11 : regM base = r10 at c9
  let E4 : EL := E3 ++ [tT, tT, tT, .ret _ _ _ c9, tT, tF]
  cases r10
  ·exact (o54 (d := .bool false) (E4 ++ [tF, tF, tF, tF, tT, tF, tF, tF, tF, tT, tT]) (by kernel_rfl)).to (by clear E1 E2 E3 E4; (try simp only [sl0, wk, wkL, wkO, eqCells, eqCell, mayX, regM, mayS, longM, widthM, jumpM, ccM, w_i64] at *); (simp [wk, wkL, wkO, eqCells, eqCell, mayX, regM, mayS, longM, widthM, jumpM, ccM, w_i64, *]; done))
  have c12 := @rfour_ok disp
  rcases bft (decide ((-2147483648) ≤ disp ∧ disp ≤ 2147483647)) with h13 | h13
  ·have c14 := @rfour_ok imm
   let E5 : EL := E4 ++ [tT, tT, tT, .ret _ _ _ c12, tT, tF] ++ List.replicate 3 (tC (eF (nt h13))) ++ [.ret _ _ _ c14, tC (eF (nt h13)), tC (nt h13)]
   rcases bft (decide ((-2147483648) ≤ imm ∧ imm ≤ 2147483647)) with h15 | h15
   ·have c16 := @rlong_ok w
    generalize g18 : longM w = r17 at c16
    exact (o54 (d := .bool r17) (E5 ++ [tC (nt h15), tF, tF, tT, .ret _ _ _ c16]) (by kernel_rfl)).to (by clear E1 E2 E3 E4 E5; (try simp only [sl0, wk, wkL, wkO, eqCells, eqCell, mayX, regM, mayS, longM, widthM, jumpM, ccM, w_i64] at *); (rw [Bool.eq_iff_iff]; simp [wk, wkL, wkO, eqCells, eqCell, mayX, regM, mayS, longM, widthM, jumpM, ccM, w_i64, *]; grind))
   exact (o54 (d := .bool false) (E5 ++ [tC (nt h15)]) (by kernel_rfl)).to (by clear E1 E2 E3 E4 E5; (try simp only [sl0, wk, wkL, wkO, eqCells, eqCell, mayX, regM, mayS, longM, widthM, jumpM, ccM, w_i64] at *); (simp [wk, wkL, wkO, eqCells, eqCell, mayX, regM, mayS, longM, widthM, jumpM, ccM, w_i64, *]; done))
  exact (o54 (d := .bool false) (E4 ++ [tT, tT, tT, .ret _ _ _ c12, tT, tF] ++ List.replicate 4 (tC (eF (nt h13))) ++ [tC (nt h13), tT]) (by kernel_rfl)).to (by clear E1 E2 E3 E4; (try simp only [sl0, wk, wkL, wkO, eqCells, eqCell, mayX, regM, mayS, longM, widthM, jumpM, ccM, w_i64] at *); (simp [wk, wkL, wkO, eqCells, eqCell, mayX, regM, mayS, longM, widthM, jumpM, ccM, w_i64, *]; done))
 exact (o54 (d := .bool false) (E1 ++ List.replicate 4 (tC (eF (nt h2))) ++ [tC (nt h2), tF, tF, tF, tF, tT, tF, tF, tF, tF, tT, tF, tF, tF, tF, tT, tF, tF, tF, tF, tT, tT]) (by kernel_rfl)).to (by clear E1; (try simp only [sl0, wk, wkL, wkO, eqCells, eqCell, mayX, regM, mayS, longM, widthM, jumpM, ccM, w_i64] at *); (rw [Bool.eq_iff_iff]; simp [wk, wkL, wkO, eqCells, eqCell, mayX, regM, mayS, longM, widthM, jumpM, ccM, w_i64, *]; grind))
theorem rmayX_6_ok (op w dst src base disp imm cc : Int) (h : (shapeM op == 6) = true) (hc : (classM op == 5) = true) : Ret Try.prog 54 ([xD op w dst src base disp imm cc]) (.bool (mayX op w dst src base disp imm cc)) := by
 have c0 := @class_ok op
 rw [eq_of_beq hc] at c0
 have c1 := @rfields_5_ok op w dst src base disp imm cc (eqI 5 true (eq_of_beq hc))
 let E1 : EL := [.ret _ _ _ c0, tT, tT, tT, .ret _ _ _ c1, tT, .flat _ _ flat_X, tF]
 rcases bft (eqCells [.int .i8 op, .int .i8 w, .int .i8 dst, .int .i8 src, .int .i8 base, .int .i64 disp, .int .i64 imm, .int .i8 cc] [.int .i8 op, .int .i8 w, .int .i8 dst, .int .i8 src, .int .i8 0, .int .i64 0, .int .i64 0, .int .i8 cc]) with h2 | h2
 ·have c3 := @rreg_ok dst
  generalize g5 : regM dst = r4 at c3
  let E2 : EL := E1 ++ List.replicate 3 (tC (eF (nt h2))) ++ [.ret _ _ _ c3, tC (eF (nt h2)), tC (nt h2)]
  cases r4
  ·exact (o54 (d := .bool false) (E2 ++ [tF, tF, tF, tF, tT, tF, tF, tF, tF, tT, tF, tF, tF, tF, tT, tF, tF, tF, tF, tT, tT]) (by kernel_rfl)).to (by clear E1 E2; (try simp only [sl0, wk, wkL, wkO, eqCells, eqCell, mayX, regM, mayS, longM, widthM, jumpM, ccM] at *); (simp [wk, wkL, wkO, eqCells, eqCell, mayX, regM, mayS, longM, widthM, jumpM, ccM, *]; done))
  have c6 := @rreg_ok src
  generalize g8 : regM src = r7 at c6
  let E3 : EL := E2 ++ [tT, tT, tT, .ret _ _ _ c6, tT, tF]
  cases r7
  ·exact (o54 (d := .bool false) (E3 ++ [tF, tF, tF, tF, tT, tF, tF, tF, tF, tT, tF, tF, tF, tF, tT, tT]) (by kernel_rfl)).to (by clear E1 E2 E3; (try simp only [sl0, wk, wkL, wkO, eqCells, eqCell, mayX, regM, mayS, longM, widthM, jumpM, ccM] at *); (simp [wk, wkL, wkO, eqCells, eqCell, mayX, regM, mayS, longM, widthM, jumpM, ccM, *]; done))
  have c9 := @rreg_ok base
  generalize g11 : regM base = r10 at c9
  let E4 : EL := E3 ++ [tT, tT, tT, .ret _ _ _ c9, tT, tF]
  cases r10
  ·exact (o54 (d := .bool false) (E4 ++ [tF, tF, tF, tF, tT, tF, tF, tF, tF, tT, tT]) (by kernel_rfl)).to (by clear E1 E2 E3 E4; (try simp only [sl0, wk, wkL, wkO, eqCells, eqCell, mayX, regM, mayS, longM, widthM, jumpM, ccM] at *); (simp [wk, wkL, wkO, eqCells, eqCell, mayX, regM, mayS, longM, widthM, jumpM, ccM, *]; done))
  have c12 := @rfour_ok disp
  let E5 : EL := E4 ++ [tT, tT, tT, .ret _ _ _ c12, tT, tF]
  rcases bft (decide ((-2147483648) ≤ disp ∧ disp ≤ 2147483647)) with h13 | h13
  ·have c14 := @rfour_ok imm
   let E6 : EL := E5 ++ List.replicate 3 (tC (eF (nt h13))) ++ [.ret _ _ _ c14, tC (eF (nt h13)), tC (nt h13)]
   rcases bft (decide ((-2147483648) ≤ imm ∧ imm ≤ 2147483647)) with h15 | h15
   ·have c16 := @rlong_ok w
    generalize g18 : longM w = r17 at c16
    cases r17
    ·exact (o54 (d := .bool false) (E6 ++ [tC (nt h15), tF, tF, tF, tF, tT, .ret _ _ _ c16, tF, tF, tF, tF]) (by kernel_rfl)).to (by clear E1 E2 E3 E4 E5 E6; (try simp only [sl0, wk, wkL, wkO, eqCells, eqCell, mayX, regM, mayS, longM, widthM, jumpM, ccM] at *); (simp [wk, wkL, wkO, eqCells, eqCell, mayX, regM, mayS, longM, widthM, jumpM, ccM, *]; done))
    have c19 := @rcc_ok cc
    generalize g21 : ccM cc = r20 at c19
    exact (o54 (d := .bool r20) (E6 ++ [tC (nt h15), tF, tF, tF, tF, tT, .ret _ _ _ c16, tT, tT, tT, .ret _ _ _ c19, tT]) (by kernel_rfl)).to (by clear E1 E2 E3 E4 E5 E6; (try simp only [sl0, wk, wkL, wkO, eqCells, eqCell, mayX, regM, mayS, longM, widthM, jumpM, ccM] at *); (rw [Bool.eq_iff_iff]; simp [wk, wkL, wkO, eqCells, eqCell, mayX, regM, mayS, longM, widthM, jumpM, ccM, *]; grind))
   exact (o54 (d := .bool false) (E6 ++ [tC (nt h15)]) (by kernel_rfl)).to (by clear E1 E2 E3 E4 E5 E6; (try simp only [sl0, wk, wkL, wkO, eqCells, eqCell, mayX, regM, mayS, longM, widthM, jumpM, ccM] at *); (simp [wk, wkL, wkO, eqCells, eqCell, mayX, regM, mayS, longM, widthM, jumpM, ccM, *]; done))
  exact (o54 (d := .bool false) (E5 ++ List.replicate 4 (tC (eF (nt h13))) ++ [tC (nt h13), tT]) (by kernel_rfl)).to (by clear E1 E2 E3 E4 E5; (try simp only [sl0, wk, wkL, wkO, eqCells, eqCell, mayX, regM, mayS, longM, widthM, jumpM, ccM] at *); (simp [wk, wkL, wkO, eqCells, eqCell, mayX, regM, mayS, longM, widthM, jumpM, ccM, *]; done))
 exact (o54 (d := .bool false) (E1 ++ List.replicate 4 (tC (eF (nt h2))) ++ [tC (nt h2), tF, tF, tF, tF, tT, tF, tF, tF, tF, tT, tF, tF, tF, tF, tT, tF, tF, tF, tF, tT, tT]) (by kernel_rfl)).to (by clear E1; (try simp only [sl0, wk, wkL, wkO, eqCells, eqCell, mayX, regM, mayS, longM, widthM, jumpM, ccM] at *); (rw [Bool.eq_iff_iff]; simp [wk, wkL, wkO, eqCells, eqCell, mayX, regM, mayS, longM, widthM, jumpM, ccM, *]; grind))
theorem rmayX_7_ok (op w dst src base disp imm cc : Int) (h : (shapeM op == 7) = true) (hc : (classM op == 6) = true) : Ret Try.prog 54 ([xD op w dst src base disp imm cc]) (.bool (mayX op w dst src base disp imm cc)) := by
 have c0 := @class_ok op
 rw [eq_of_beq hc] at c0
 have c1 := @rfields_6_ok op w dst src base disp imm cc (eqI 6 true (eq_of_beq hc))
 let E1 : EL := [.ret _ _ _ c0, tT, tT, tT, .ret _ _ _ c1, tT, .flat _ _ flat_X, tF]
 rcases bft (eqCells [.int .i8 op, .int .i8 w, .int .i8 dst, .int .i8 src, .int .i8 base, .int .i64 disp, .int .i64 imm, .int .i8 cc] [.int .i8 op, .int .i8 w, .int .i8 dst, .int .i8 0, .int .i8 base, .int .i64 disp, .int .i64 0, .int .i8 0]) with h2 | h2
 ·have c3 := @rreg_ok dst
  generalize g5 : regM dst = r4 at c3
  let E2 : EL := E1 ++ List.replicate 3 (tC (eF (nt h2))) ++ [.ret _ _ _ c3, tC (eF (nt h2)), tC (nt h2)]
  cases r4
  ·exact (o54 (d := .bool false) (E2 ++ [tF, tF, tF, tF, tT, tF, tF, tF, tF, tT, tF, tF, tF, tF, tT, tF, tF, tF, tF, tT, tT]) (by kernel_rfl)).to (by clear E1 E2; (try simp only [sl0, wk, wkL, wkO, eqCells, eqCell, mayX, regM, mayS, longM, widthM, jumpM, ccM] at *); (simp [wk, wkL, wkO, eqCells, eqCell, mayX, regM, mayS, longM, widthM, jumpM, ccM, *]; done))
  have c6 := @rreg_ok src
  generalize g8 : regM src = r7 at c6
  let E3 : EL := E2 ++ [tT, tT, tT, .ret _ _ _ c6, tT, tF]
  cases r7
  ·exact (o54 (d := .bool false) (E3 ++ [tF, tF, tF, tF, tT, tF, tF, tF, tF, tT, tF, tF, tF, tF, tT, tT]) (by kernel_rfl)).to (by clear E1 E2 E3; (try simp only [sl0, wk, wkL, wkO, eqCells, eqCell, mayX, regM, mayS, longM, widthM, jumpM, ccM] at *); (simp [wk, wkL, wkO, eqCells, eqCell, mayX, regM, mayS, longM, widthM, jumpM, ccM, *]; done))
  have c9 := @rreg_ok base
  generalize g11 : regM base = r10 at c9
  let E4 : EL := E3 ++ [tT, tT, tT, .ret _ _ _ c9, tT, tF]
  cases r10
  ·exact (o54 (d := .bool false) (E4 ++ [tF, tF, tF, tF, tT, tF, tF, tF, tF, tT, tT]) (by kernel_rfl)).to (by clear E1 E2 E3 E4; (try simp only [sl0, wk, wkL, wkO, eqCells, eqCell, mayX, regM, mayS, longM, widthM, jumpM, ccM] at *); (simp [wk, wkL, wkO, eqCells, eqCell, mayX, regM, mayS, longM, widthM, jumpM, ccM, *]; done))
  have c12 := @rfour_ok disp
  rcases bft (decide ((-2147483648) ≤ disp ∧ disp ≤ 2147483647)) with h13 | h13
  ·have c14 := @rfour_ok imm
   let E5 : EL := E4 ++ [tT, tT, tT, .ret _ _ _ c12, tT, tF] ++ List.replicate 3 (tC (eF (nt h13))) ++ [.ret _ _ _ c14, tC (eF (nt h13)), tC (nt h13)]
   rcases bft (decide ((-2147483648) ≤ imm ∧ imm ≤ 2147483647)) with h15 | h15
   ·have c16 := @rwidth_ok w
    generalize g18 : widthM w = r17 at c16
    exact (o54 (d := .bool r17) (E5 ++ [tC (nt h15), tF, tF, tF, tF, tF, tT, tT, .ret _ _ _ c16]) (by kernel_rfl)).to (by clear E1 E2 E3 E4 E5; (try simp only [sl0, wk, wkL, wkO, eqCells, eqCell, mayX, regM, mayS, longM, widthM, jumpM, ccM] at *); (rw [Bool.eq_iff_iff]; simp [wk, wkL, wkO, eqCells, eqCell, mayX, regM, mayS, longM, widthM, jumpM, ccM, *]; grind))
   exact (o54 (d := .bool false) (E5 ++ [tC (nt h15)]) (by kernel_rfl)).to (by clear E1 E2 E3 E4 E5; (try simp only [sl0, wk, wkL, wkO, eqCells, eqCell, mayX, regM, mayS, longM, widthM, jumpM, ccM] at *); (simp [wk, wkL, wkO, eqCells, eqCell, mayX, regM, mayS, longM, widthM, jumpM, ccM, *]; done))
  exact (o54 (d := .bool false) (E4 ++ [tT, tT, tT, .ret _ _ _ c12, tT, tF] ++ List.replicate 4 (tC (eF (nt h13))) ++ [tC (nt h13), tT]) (by kernel_rfl)).to (by clear E1 E2 E3 E4; (try simp only [sl0, wk, wkL, wkO, eqCells, eqCell, mayX, regM, mayS, longM, widthM, jumpM, ccM] at *); (simp [wk, wkL, wkO, eqCells, eqCell, mayX, regM, mayS, longM, widthM, jumpM, ccM, *]; done))
 exact (o54 (d := .bool false) (E1 ++ List.replicate 4 (tC (eF (nt h2))) ++ [tC (nt h2), tF, tF, tF, tF, tT, tF, tF, tF, tF, tT, tF, tF, tF, tF, tT, tF, tF, tF, tF, tT, tT]) (by kernel_rfl)).to (by clear E1; (try simp only [sl0, wk, wkL, wkO, eqCells, eqCell, mayX, regM, mayS, longM, widthM, jumpM, ccM] at *); (rw [Bool.eq_iff_iff]; simp [wk, wkL, wkO, eqCells, eqCell, mayX, regM, mayS, longM, widthM, jumpM, ccM, *]; grind))
theorem rmayX_8_ok (op w dst src base disp imm cc : Int) (h : (shapeM op == 8) = true) (hc : (classM op == 7) = true) : Ret Try.prog 54 ([xD op w dst src base disp imm cc]) (.bool (mayX op w dst src base disp imm cc)) := by
 have c0 := @class_ok op
 rw [eq_of_beq hc] at c0
 have c1 := @rfields_7_ok op w dst src base disp imm cc (eqI 7 true (eq_of_beq hc))
 let E1 : EL := [.ret _ _ _ c0, tT, tT, tT, .ret _ _ _ c1, tT, .flat _ _ flat_X, tF]
 rcases bft (eqCells [.int .i8 op, .int .i8 w, .int .i8 dst, .int .i8 src, .int .i8 base, .int .i64 disp, .int .i64 imm, .int .i8 cc] [.int .i8 op, .int .i8 w, .int .i8 0, .int .i8 src, .int .i8 base, .int .i64 disp, .int .i64 0, .int .i8 0]) with h2 | h2
 ·have c3 := @rreg_ok dst
  generalize g5 : regM dst = r4 at c3
  let E2 : EL := E1 ++ List.replicate 3 (tC (eF (nt h2))) ++ [.ret _ _ _ c3, tC (eF (nt h2)), tC (nt h2)]
  cases r4
  ·exact (o54 (d := .bool false) (E2 ++ [tF, tF, tF, tF, tT, tF, tF, tF, tF, tT, tF, tF, tF, tF, tT, tF, tF, tF, tF, tT, tT]) (by kernel_rfl)).to (by clear E1 E2; (try simp only [sl0, wk, wkL, wkO, eqCells, eqCell, mayX, regM, mayS, longM, widthM, jumpM, ccM] at *); (simp [wk, wkL, wkO, eqCells, eqCell, mayX, regM, mayS, longM, widthM, jumpM, ccM, *]; done))
  have c6 := @rreg_ok src
  generalize g8 : regM src = r7 at c6
  let E3 : EL := E2 ++ [tT, tT, tT, .ret _ _ _ c6, tT, tF]
  cases r7
  ·exact (o54 (d := .bool false) (E3 ++ [tF, tF, tF, tF, tT, tF, tF, tF, tF, tT, tF, tF, tF, tF, tT, tT]) (by kernel_rfl)).to (by clear E1 E2 E3; (try simp only [sl0, wk, wkL, wkO, eqCells, eqCell, mayX, regM, mayS, longM, widthM, jumpM, ccM] at *); (simp [wk, wkL, wkO, eqCells, eqCell, mayX, regM, mayS, longM, widthM, jumpM, ccM, *]; done))
  have c9 := @rreg_ok base
  generalize g11 : regM base = r10 at c9
  let E4 : EL := E3 ++ [tT, tT, tT, .ret _ _ _ c9, tT, tF]
  cases r10
  ·exact (o54 (d := .bool false) (E4 ++ [tF, tF, tF, tF, tT, tF, tF, tF, tF, tT, tT]) (by kernel_rfl)).to (by clear E1 E2 E3 E4; (try simp only [sl0, wk, wkL, wkO, eqCells, eqCell, mayX, regM, mayS, longM, widthM, jumpM, ccM] at *); (simp [wk, wkL, wkO, eqCells, eqCell, mayX, regM, mayS, longM, widthM, jumpM, ccM, *]; done))
  have c12 := @rfour_ok disp
  rcases bft (decide ((-2147483648) ≤ disp ∧ disp ≤ 2147483647)) with h13 | h13
  ·have c14 := @rfour_ok imm
   let E5 : EL := E4 ++ [tT, tT, tT, .ret _ _ _ c12, tT, tF] ++ List.replicate 3 (tC (eF (nt h13))) ++ [.ret _ _ _ c14, tC (eF (nt h13)), tC (nt h13)]
   rcases bft (decide ((-2147483648) ≤ imm ∧ imm ≤ 2147483647)) with h15 | h15
   ·have c16 := @rwidth_ok w
    generalize g18 : widthM w = r17 at c16
    exact (o54 (d := .bool r17) (E5 ++ [tC (nt h15), tF, tF, tF, tF, tF, tF, tT, .ret _ _ _ c16]) (by kernel_rfl)).to (by clear E1 E2 E3 E4 E5; (try simp only [sl0, wk, wkL, wkO, eqCells, eqCell, mayX, regM, mayS, longM, widthM, jumpM, ccM] at *); (rw [Bool.eq_iff_iff]; simp [wk, wkL, wkO, eqCells, eqCell, mayX, regM, mayS, longM, widthM, jumpM, ccM, *]; grind))
   exact (o54 (d := .bool false) (E5 ++ [tC (nt h15)]) (by kernel_rfl)).to (by clear E1 E2 E3 E4 E5; (try simp only [sl0, wk, wkL, wkO, eqCells, eqCell, mayX, regM, mayS, longM, widthM, jumpM, ccM] at *); (simp [wk, wkL, wkO, eqCells, eqCell, mayX, regM, mayS, longM, widthM, jumpM, ccM, *]; done))
  exact (o54 (d := .bool false) (E4 ++ [tT, tT, tT, .ret _ _ _ c12, tT, tF] ++ List.replicate 4 (tC (eF (nt h13))) ++ [tC (nt h13), tT]) (by kernel_rfl)).to (by clear E1 E2 E3 E4; (try simp only [sl0, wk, wkL, wkO, eqCells, eqCell, mayX, regM, mayS, longM, widthM, jumpM, ccM] at *); (simp [wk, wkL, wkO, eqCells, eqCell, mayX, regM, mayS, longM, widthM, jumpM, ccM, *]; done))
 exact (o54 (d := .bool false) (E1 ++ List.replicate 4 (tC (eF (nt h2))) ++ [tC (nt h2), tF, tF, tF, tF, tT, tF, tF, tF, tF, tT, tF, tF, tF, tF, tT, tF, tF, tF, tF, tT, tT]) (by kernel_rfl)).to (by clear E1; (try simp only [sl0, wk, wkL, wkO, eqCells, eqCell, mayX, regM, mayS, longM, widthM, jumpM, ccM] at *); (rw [Bool.eq_iff_iff]; simp [wk, wkL, wkO, eqCells, eqCell, mayX, regM, mayS, longM, widthM, jumpM, ccM, *]; grind))
theorem rmayX_9_ok (op w dst src base disp imm cc : Int) (h : (shapeM op == 9) = true) (hc : (classM op == 8) = true) : Ret Try.prog 54 ([xD op w dst src base disp imm cc]) (.bool (mayX op w dst src base disp imm cc)) := by
 have c0 := @class_ok op
 rw [eq_of_beq hc] at c0
 have c1 := @rfields_8_ok op w dst src base disp imm cc (eqI 8 true (eq_of_beq hc))
 let E1 : EL := [.ret _ _ _ c0, tT, tT, tT, .ret _ _ _ c1, tT, .flat _ _ flat_X, tF]
 rcases bft (eqCells [.int .i8 op, .int .i8 w, .int .i8 dst, .int .i8 src, .int .i8 base, .int .i64 disp, .int .i64 imm, .int .i8 cc] [.int .i8 op, .int .i8 w, .int .i8 0, .int .i8 0, .int .i8 0, .int .i64 0, .int .i64 imm, .int .i8 0]) with h2 | h2
 ·have c3 := @rreg_ok dst
  generalize g5 : regM dst = r4 at c3
  let E2 : EL := E1 ++ List.replicate 3 (tC (eF (nt h2))) ++ [.ret _ _ _ c3, tC (eF (nt h2)), tC (nt h2)]
  cases r4
  ·exact (o54 (d := .bool false) (E2 ++ [tF, tF, tF, tF, tT, tF, tF, tF, tF, tT, tF, tF, tF, tF, tT, tF, tF, tF, tF, tT, tT]) (by kernel_rfl)).to (by clear E1 E2; (try simp only [sl0, wk, wkL, wkO, eqCells, eqCell, mayX, regM, mayS, longM, widthM, jumpM, ccM] at *); (simp [wk, wkL, wkO, eqCells, eqCell, mayX, regM, mayS, longM, widthM, jumpM, ccM, *]; done))
  have c6 := @rreg_ok src
  generalize g8 : regM src = r7 at c6
  let E3 : EL := E2 ++ [tT, tT, tT, .ret _ _ _ c6, tT, tF]
  cases r7
  ·exact (o54 (d := .bool false) (E3 ++ [tF, tF, tF, tF, tT, tF, tF, tF, tF, tT, tF, tF, tF, tF, tT, tT]) (by kernel_rfl)).to (by clear E1 E2 E3; (try simp only [sl0, wk, wkL, wkO, eqCells, eqCell, mayX, regM, mayS, longM, widthM, jumpM, ccM] at *); (simp [wk, wkL, wkO, eqCells, eqCell, mayX, regM, mayS, longM, widthM, jumpM, ccM, *]; done))
  have c9 := @rreg_ok base
  generalize g11 : regM base = r10 at c9
  let E4 : EL := E3 ++ [tT, tT, tT, .ret _ _ _ c9, tT, tF]
  cases r10
  ·exact (o54 (d := .bool false) (E4 ++ [tF, tF, tF, tF, tT, tF, tF, tF, tF, tT, tT]) (by kernel_rfl)).to (by clear E1 E2 E3 E4; (try simp only [sl0, wk, wkL, wkO, eqCells, eqCell, mayX, regM, mayS, longM, widthM, jumpM, ccM] at *); (simp [wk, wkL, wkO, eqCells, eqCell, mayX, regM, mayS, longM, widthM, jumpM, ccM, *]; done))
  have c12 := @rfour_ok disp
  let E5 : EL := E4 ++ [tT, tT, tT, .ret _ _ _ c12, tT, tF]
  rcases bft (decide ((-2147483648) ≤ disp ∧ disp ≤ 2147483647)) with h13 | h13
  ·have c14 := @rfour_ok imm
   let E6 : EL := E5 ++ List.replicate 3 (tC (eF (nt h13))) ++ [.ret _ _ _ c14, tC (eF (nt h13)), tC (nt h13)]
   rcases bft (decide ((-2147483648) ≤ imm ∧ imm ≤ 2147483647)) with h15 | h15
   ·let E7 : EL := E6 ++ [tC (nt h15), tF, tF, tF, tF, tF, tF, tF, tT]
    by_cases h16 : w = 32
    ·subst h16
     exact (o54 (d := .bool true) (E7 ++ [tF, tF, tF, tF, tF, tT]) (by kernel_rfl)).to (by clear E1 E2 E3 E4 E5 E6 E7; (try simp only [sl0, wk, wkL, wkO, eqCells, eqCell, mayX, regM, mayS, longM, widthM, jumpM, ccM] at *); (rw [Bool.eq_iff_iff]; simp [wk, wkL, wkO, eqCells, eqCell, mayX, regM, mayS, longM, widthM, jumpM, ccM, *]; grind))
    by_cases h17 : w = 8
    ·subst h17
     have c18 := @rone_ok imm
     exact (o54 (d := .bool (decide ((-128) ≤ imm ∧ imm ≤ 127))) (E7 ++ List.replicate 4 (tC (eF (neOf h16))) ++ [tT, tT, tT, .ret _ _ _ c18, tT, tT, tF]) (by kernel_rfl)).to (by clear E1 E2 E3 E4 E5 E6 E7; (try simp only [sl0, wk, wkL, wkO, eqCells, eqCell, mayX, regM, mayS, longM, widthM, jumpM, ccM] at *); (rw [Bool.eq_iff_iff]; simp [wk, wkL, wkO, eqCells, eqCell, mayX, regM, mayS, longM, widthM, jumpM, ccM, *]; grind))
    exact (o54 (d := .bool false) (E7 ++ List.replicate 4 (tC (eF (neOf h16))) ++ List.replicate 3 (tC (eT (neOf h17))) ++ [tC (eF (neOf h16)), tC (neOf h17), tC (neOf h16)]) (by kernel_rfl)).to (by clear E1 E2 E3 E4 E5 E6 E7; (try simp only [sl0, wk, wkL, wkO, eqCells, eqCell, mayX, regM, mayS, longM, widthM, jumpM, ccM] at *); (simp [wk, wkL, wkO, eqCells, eqCell, mayX, regM, mayS, longM, widthM, jumpM, ccM, *]; done))
   exact (o54 (d := .bool false) (E6 ++ [tC (nt h15)]) (by kernel_rfl)).to (by clear E1 E2 E3 E4 E5 E6; (try simp only [sl0, wk, wkL, wkO, eqCells, eqCell, mayX, regM, mayS, longM, widthM, jumpM, ccM] at *); (simp [wk, wkL, wkO, eqCells, eqCell, mayX, regM, mayS, longM, widthM, jumpM, ccM, *]; done))
  exact (o54 (d := .bool false) (E5 ++ List.replicate 4 (tC (eF (nt h13))) ++ [tC (nt h13), tT]) (by kernel_rfl)).to (by clear E1 E2 E3 E4 E5; (try simp only [sl0, wk, wkL, wkO, eqCells, eqCell, mayX, regM, mayS, longM, widthM, jumpM, ccM] at *); (simp [wk, wkL, wkO, eqCells, eqCell, mayX, regM, mayS, longM, widthM, jumpM, ccM, *]; done))
 exact (o54 (d := .bool false) (E1 ++ List.replicate 4 (tC (eF (nt h2))) ++ [tC (nt h2), tF, tF, tF, tF, tT, tF, tF, tF, tF, tT, tF, tF, tF, tF, tT, tF, tF, tF, tF, tT, tT]) (by kernel_rfl)).to (by clear E1; (try simp only [sl0, wk, wkL, wkO, eqCells, eqCell, mayX, regM, mayS, longM, widthM, jumpM, ccM] at *); (rw [Bool.eq_iff_iff]; simp [wk, wkL, wkO, eqCells, eqCell, mayX, regM, mayS, longM, widthM, jumpM, ccM, *]; grind))
theorem rmayX_10_ok (op w dst src base disp imm cc : Int) (h : (shapeM op == 10) = true) (hc : (classM op == 9) = true) : Ret Try.prog 54 ([xD op w dst src base disp imm cc]) (.bool (mayX op w dst src base disp imm cc)) := by
 have c0 := @class_ok op
 rw [eq_of_beq hc] at c0
 have c1 := @rfields_9_ok op w dst src base disp imm cc (eqI 9 true (eq_of_beq hc))
 let E1 : EL := [.ret _ _ _ c0, tT, tT, tT, .ret _ _ _ c1, tT, .flat _ _ flat_X, tF]
 rcases bft (eqCells [.int .i8 op, .int .i8 w, .int .i8 dst, .int .i8 src, .int .i8 base, .int .i64 disp, .int .i64 imm, .int .i8 cc] [.int .i8 op, .int .i8 w, .int .i8 0, .int .i8 0, .int .i8 0, .int .i64 0, .int .i64 imm, .int .i8 cc]) with h2 | h2
 ·have c3 := @rreg_ok dst
  generalize g5 : regM dst = r4 at c3
  let E2 : EL := E1 ++ List.replicate 3 (tC (eF (nt h2))) ++ [.ret _ _ _ c3, tC (eF (nt h2)), tC (nt h2)]
  cases r4
  ·exact (o54 (d := .bool false) (E2 ++ [tF, tF, tF, tF, tT, tF, tF, tF, tF, tT, tF, tF, tF, tF, tT, tF, tF, tF, tF, tT, tT]) (by kernel_rfl)).to (by clear E1 E2; (try simp only [sl0, wk, wkL, wkO, eqCells, eqCell, mayX, regM, mayS, longM, widthM, jumpM, ccM] at *); (simp [wk, wkL, wkO, eqCells, eqCell, mayX, regM, mayS, longM, widthM, jumpM, ccM, *]; done))
  have c6 := @rreg_ok src
  generalize g8 : regM src = r7 at c6
  let E3 : EL := E2 ++ [tT, tT, tT, .ret _ _ _ c6, tT, tF]
  cases r7
  ·exact (o54 (d := .bool false) (E3 ++ [tF, tF, tF, tF, tT, tF, tF, tF, tF, tT, tF, tF, tF, tF, tT, tT]) (by kernel_rfl)).to (by clear E1 E2 E3; (try simp only [sl0, wk, wkL, wkO, eqCells, eqCell, mayX, regM, mayS, longM, widthM, jumpM, ccM] at *); (simp [wk, wkL, wkO, eqCells, eqCell, mayX, regM, mayS, longM, widthM, jumpM, ccM, *]; done))
  have c9 := @rreg_ok base
  generalize g11 : regM base = r10 at c9
  let E4 : EL := E3 ++ [tT, tT, tT, .ret _ _ _ c9, tT, tF]
  cases r10
  ·exact (o54 (d := .bool false) (E4 ++ [tF, tF, tF, tF, tT, tF, tF, tF, tF, tT, tT]) (by kernel_rfl)).to (by clear E1 E2 E3 E4; (try simp only [sl0, wk, wkL, wkO, eqCells, eqCell, mayX, regM, mayS, longM, widthM, jumpM, ccM] at *); (simp [wk, wkL, wkO, eqCells, eqCell, mayX, regM, mayS, longM, widthM, jumpM, ccM, *]; done))
  have c12 := @rfour_ok disp
  let E5 : EL := E4 ++ [tT, tT, tT, .ret _ _ _ c12, tT, tF]
  rcases bft (decide ((-2147483648) ≤ disp ∧ disp ≤ 2147483647)) with h13 | h13
  ·have c14 := @rfour_ok imm
   let E6 : EL := E5 ++ List.replicate 3 (tC (eF (nt h13))) ++ [.ret _ _ _ c14, tC (eF (nt h13)), tC (nt h13)]
   rcases bft (decide ((-2147483648) ≤ imm ∧ imm ≤ 2147483647)) with h15 | h15
   ·let E7 : EL := E6 ++ [tC (nt h15)] ++ List.replicate 8 tF ++ [tT]
    by_cases h16 : w = 32
    ·subst h16
     have c17 := @rcc_ok cc
     generalize g19 : ccM cc = r18 at c17
     exact (o54 (d := .bool r18) (E7 ++ [tF, tF, tF, tF, tF, tT, tT, tT, tT, .ret _ _ _ c17, tT]) (by kernel_rfl)).to (by clear E1 E2 E3 E4 E5 E6 E7; (try simp only [sl0, wk, wkL, wkO, eqCells, eqCell, mayX, regM, mayS, longM, widthM, jumpM, ccM] at *); (rw [Bool.eq_iff_iff]; simp [wk, wkL, wkO, eqCells, eqCell, mayX, regM, mayS, longM, widthM, jumpM, ccM, *]; grind))
    let E8 : EL := E7 ++ List.replicate 4 (tC (eF (neOf h16)))
    by_cases h20 : w = 8
    ·subst h20
     have c21 := @rone_ok imm
     rcases bft (decide ((-128) ≤ imm ∧ imm ≤ 127)) with h22 | h22
     ·have c23 := @rcc_ok cc
      generalize g25 : ccM cc = r24 at c23
      exact (o54 (d := .bool r24) (E8 ++ [tT, tT, tT, .ret _ _ _ c21, tT, tT, tF, tC (eT h22), tC (eT h22), tC (eT h22), .ret _ _ _ c23, tC h22]) (by kernel_rfl)).to (by clear E1 E2 E3 E4 E5 E6 E7 E8; (try simp only [sl0, wk, wkL, wkO, eqCells, eqCell, mayX, regM, mayS, longM, widthM, jumpM, ccM] at *); (rw [Bool.eq_iff_iff]; simp [wk, wkL, wkO, eqCells, eqCell, mayX, regM, mayS, longM, widthM, jumpM, ccM, *]; grind))
     exact (o54 (d := .bool false) (E8 ++ [tT, tT, tT, .ret _ _ _ c21, tT, tT, tF, tC (eT h22), tC (eT h22), tC (eT h22), tC h22]) (by kernel_rfl)).to (by clear E1 E2 E3 E4 E5 E6 E7 E8; (try simp only [sl0, wk, wkL, wkO, eqCells, eqCell, mayX, regM, mayS, longM, widthM, jumpM, ccM] at *); (simp [wk, wkL, wkO, eqCells, eqCell, mayX, regM, mayS, longM, widthM, jumpM, ccM, *]; done))
    exact (o54 (d := .bool false) (E8 ++ List.replicate 3 (tC (eT (neOf h20))) ++ [tC (eF (neOf h16)), tC (neOf h20), tC (neOf h16), tF, tF, tF, tF]) (by kernel_rfl)).to (by clear E1 E2 E3 E4 E5 E6 E7 E8; (try simp only [sl0, wk, wkL, wkO, eqCells, eqCell, mayX, regM, mayS, longM, widthM, jumpM, ccM] at *); (simp [wk, wkL, wkO, eqCells, eqCell, mayX, regM, mayS, longM, widthM, jumpM, ccM, *]; done))
   exact (o54 (d := .bool false) (E6 ++ [tC (nt h15)]) (by kernel_rfl)).to (by clear E1 E2 E3 E4 E5 E6; (try simp only [sl0, wk, wkL, wkO, eqCells, eqCell, mayX, regM, mayS, longM, widthM, jumpM, ccM] at *); (simp [wk, wkL, wkO, eqCells, eqCell, mayX, regM, mayS, longM, widthM, jumpM, ccM, *]; done))
  exact (o54 (d := .bool false) (E5 ++ List.replicate 4 (tC (eF (nt h13))) ++ [tC (nt h13), tT]) (by kernel_rfl)).to (by clear E1 E2 E3 E4 E5; (try simp only [sl0, wk, wkL, wkO, eqCells, eqCell, mayX, regM, mayS, longM, widthM, jumpM, ccM] at *); (simp [wk, wkL, wkO, eqCells, eqCell, mayX, regM, mayS, longM, widthM, jumpM, ccM, *]; done))
 exact (o54 (d := .bool false) (E1 ++ List.replicate 4 (tC (eF (nt h2))) ++ [tC (nt h2), tF, tF, tF, tF, tT, tF, tF, tF, tF, tT, tF, tF, tF, tF, tT, tF, tF, tF, tF, tT, tT]) (by kernel_rfl)).to (by clear E1; (try simp only [sl0, wk, wkL, wkO, eqCells, eqCell, mayX, regM, mayS, longM, widthM, jumpM, ccM] at *); (rw [Bool.eq_iff_iff]; simp [wk, wkL, wkO, eqCells, eqCell, mayX, regM, mayS, longM, widthM, jumpM, ccM, *]; grind))
theorem rmayX_11_ok (op w dst src base disp imm cc : Int) (h : (shapeM op == 11) = true) (hc : (classM op == 10) = true) : Ret Try.prog 54 ([xD op w dst src base disp imm cc]) (.bool (mayX op w dst src base disp imm cc)) := by
 have c0 := @class_ok op
 rw [eq_of_beq hc] at c0
 have c1 := @rfields_10_ok op w dst src base disp imm cc (eqI 10 true (eq_of_beq hc))
 let E1 : EL := [.ret _ _ _ c0, tT, tT, tT, .ret _ _ _ c1, tT, .flat _ _ flat_X, tF]
 rcases bft (eqCells [.int .i8 op, .int .i8 w, .int .i8 dst, .int .i8 src, .int .i8 base, .int .i64 disp, .int .i64 imm, .int .i8 cc] [.int .i8 op, .int .i8 0, .int .i8 0, .int .i8 0, .int .i8 0, .int .i64 0, .int .i64 0, .int .i8 0]) with h2 | h2
 ·have c3 := @rreg_ok dst
  generalize g5 : regM dst = r4 at c3
  let E2 : EL := E1 ++ List.replicate 3 (tC (eF (nt h2))) ++ [.ret _ _ _ c3, tC (eF (nt h2)), tC (nt h2)]
  cases r4
  ·exact (o54 (d := .bool false) (E2 ++ [tF, tF, tF, tF, tT, tF, tF, tF, tF, tT, tF, tF, tF, tF, tT, tF, tF, tF, tF, tT, tT]) (by kernel_rfl)).to (by clear E1 E2; (try simp only [sl0, wk, wkL, wkO, eqCells, eqCell, mayX, regM, mayS, longM, widthM, jumpM, ccM] at *); (simp [wk, wkL, wkO, eqCells, eqCell, mayX, regM, mayS, longM, widthM, jumpM, ccM, *]; done))
  have c6 := @rreg_ok src
  generalize g8 : regM src = r7 at c6
  let E3 : EL := E2 ++ [tT, tT, tT, .ret _ _ _ c6, tT, tF]
  cases r7
  ·exact (o54 (d := .bool false) (E3 ++ [tF, tF, tF, tF, tT, tF, tF, tF, tF, tT, tF, tF, tF, tF, tT, tT]) (by kernel_rfl)).to (by clear E1 E2 E3; (try simp only [sl0, wk, wkL, wkO, eqCells, eqCell, mayX, regM, mayS, longM, widthM, jumpM, ccM] at *); (simp [wk, wkL, wkO, eqCells, eqCell, mayX, regM, mayS, longM, widthM, jumpM, ccM, *]; done))
  have c9 := @rreg_ok base
  generalize g11 : regM base = r10 at c9
  let E4 : EL := E3 ++ [tT, tT, tT, .ret _ _ _ c9, tT, tF]
  cases r10
  ·exact (o54 (d := .bool false) (E4 ++ [tF, tF, tF, tF, tT, tF, tF, tF, tF, tT, tT]) (by kernel_rfl)).to (by clear E1 E2 E3 E4; (try simp only [sl0, wk, wkL, wkO, eqCells, eqCell, mayX, regM, mayS, longM, widthM, jumpM, ccM] at *); (simp [wk, wkL, wkO, eqCells, eqCell, mayX, regM, mayS, longM, widthM, jumpM, ccM, *]; done))
  have c12 := @rfour_ok disp
  rcases bft (decide ((-2147483648) ≤ disp ∧ disp ≤ 2147483647)) with h13 | h13
  ·have c14 := @rfour_ok imm
   let E5 : EL := E4 ++ [tT, tT, tT, .ret _ _ _ c12, tT, tF] ++ List.replicate 3 (tC (eF (nt h13))) ++ [.ret _ _ _ c14, tC (eF (nt h13)), tC (nt h13)]
   rcases bft (decide ((-2147483648) ≤ imm ∧ imm ≤ 2147483647)) with h15 | h15
   ·exact (o54 (d := .bool true) (E5 ++ [tC (nt h15)] ++ List.replicate 9 tF) (by kernel_rfl)).to (by clear E1 E2 E3 E4 E5; (try simp only [sl0, wk, wkL, wkO, eqCells, eqCell, mayX, regM, mayS, longM, widthM, jumpM, ccM] at *); (rw [Bool.eq_iff_iff]; simp [wk, wkL, wkO, eqCells, eqCell, mayX, regM, mayS, longM, widthM, jumpM, ccM, *]; grind))
   exact (o54 (d := .bool false) (E5 ++ [tC (nt h15)]) (by kernel_rfl)).to (by clear E1 E2 E3 E4 E5; (try simp only [sl0, wk, wkL, wkO, eqCells, eqCell, mayX, regM, mayS, longM, widthM, jumpM, ccM] at *); (simp [wk, wkL, wkO, eqCells, eqCell, mayX, regM, mayS, longM, widthM, jumpM, ccM, *]; done))
  exact (o54 (d := .bool false) (E4 ++ [tT, tT, tT, .ret _ _ _ c12, tT, tF] ++ List.replicate 4 (tC (eF (nt h13))) ++ [tC (nt h13), tT]) (by kernel_rfl)).to (by clear E1 E2 E3 E4; (try simp only [sl0, wk, wkL, wkO, eqCells, eqCell, mayX, regM, mayS, longM, widthM, jumpM, ccM] at *); (simp [wk, wkL, wkO, eqCells, eqCell, mayX, regM, mayS, longM, widthM, jumpM, ccM, *]; done))
 exact (o54 (d := .bool false) (E1 ++ List.replicate 4 (tC (eF (nt h2))) ++ [tC (nt h2), tF, tF, tF, tF, tT, tF, tF, tF, tF, tT, tF, tF, tF, tF, tT, tF, tF, tF, tF, tT, tT]) (by kernel_rfl)).to (by clear E1; (try simp only [sl0, wk, wkL, wkO, eqCells, eqCell, mayX, regM, mayS, longM, widthM, jumpM, ccM] at *); (rw [Bool.eq_iff_iff]; simp [wk, wkL, wkO, eqCells, eqCell, mayX, regM, mayS, longM, widthM, jumpM, ccM, *]; grind))
theorem rshape_range : ∀ n : Fin 32, shapeM (n.val : Int) = 1 ∨ shapeM (n.val : Int) = 2 ∨ shapeM (n.val : Int) = 3 ∨ shapeM (n.val : Int) = 4 ∨ shapeM (n.val : Int) = 5 ∨ shapeM (n.val : Int) = 6 ∨ shapeM (n.val : Int) = 7 ∨ shapeM (n.val : Int) = 8 ∨ shapeM (n.val : Int) = 9 ∨ shapeM (n.val : Int) = 10 ∨ shapeM (n.val : Int) = 11 := by decide +kernel
theorem rmayX_ok (op w dst src base disp imm cc : Int) : Ret Try.prog 54 [xD op w dst src base disp imm cc] (.bool (mayX op w dst src base disp imm cc)) := by
 by_cases hin : 0 ≤ op ∧ op ≤ 31
 ·have e : op = (((⟨op.toNat, by omega⟩ : Fin 32).val : Nat) : Int) := by simp; omega
  have hr := rshape_range ⟨op.toNat, by omega⟩
  rw [← e] at hr
  rcases hr with h | h | h | h | h | h | h | h | h | h | h
  ·exact rmayX_1_ok _ _ _ _ _ _ _ _ (by rw [h]; rfl) (by simp [classM, h])
  ·exact rmayX_2_ok _ _ _ _ _ _ _ _ (by rw [h]; rfl) (by simp [classM, h])
  ·exact rmayX_3_ok _ _ _ _ _ _ _ _ (by rw [h]; rfl) (by simp [classM, h])
  ·exact rmayX_4_ok _ _ _ _ _ _ _ _ (by rw [h]; rfl) (by simp [classM, h])
  ·exact rmayX_5_ok _ _ _ _ _ _ _ _ (by rw [h]; rfl) (by simp [classM, h])
  ·exact rmayX_6_ok _ _ _ _ _ _ _ _ (by rw [h]; rfl) (by simp [classM, h])
  ·exact rmayX_7_ok _ _ _ _ _ _ _ _ (by rw [h]; rfl) (by simp [classM, h])
  ·exact rmayX_8_ok _ _ _ _ _ _ _ _ (by rw [h]; rfl) (by simp [classM, h])
  ·exact rmayX_9_ok _ _ _ _ _ _ _ _ (by rw [h]; rfl) (by simp [classM, h])
  ·exact rmayX_10_ok _ _ _ _ _ _ _ _ (by rw [h]; rfl) (by simp [classM, h])
  ·exact rmayX_11_ok _ _ _ _ _ _ _ _ (by rw [h]; rfl) (by simp [classM, h])
 ·exact rmayX_0_ok _ _ _ _ _ _ _ _ (by rw [(shape_none (op := op) (by omega)).1]; rfl) (by simp [classM, (shape_none (op := op) (by omega)).1])
theorem mregister_ok (r : Int) : Ret Try.prog 154 ([.int .i8 r]) (.bool (regM r)) := by
 rcases bft (decide (r < 0)) with h0 | h0
 ·exact (o154 (d := .bool false) [tC (eT (leL 0 h0)), tC (eT (leL 0 h0)), tC (leL 0 h0)] (by kernel_rfl)).to (by (try simp only [sl0, wk, wkL, wkO, eqCells, eqCell, regM] at *); first | (simp [wk, wkL, wkO, eqCells, eqCell, regM, *]; done) | (simp [wk, wkL, wkO, eqCells, eqCell, regM, *]; omega) | (rw [Bool.eq_iff_iff]; simp [wk, wkL, wkO, eqCells, eqCell, regM, *]; done) | (rw [Bool.eq_iff_iff]; simp [wk, wkL, wkO, eqCells, eqCell, regM, *]; omega) | (rw [Bool.eq_iff_iff]; simp [wk, wkL, wkO, eqCells, eqCell, regM, *]; grind) | (subst_vars; rw [Bool.eq_iff_iff]; simp; grind))
 exact (o154 (d := .bool (decide (r < 16))) [tC (eT (leL 0 h0)), tC (eT (leL 0 h0)), tC (leL 0 h0)] (by kernel_rfl)).to (by (try simp only [sl0, wk, wkL, wkO, eqCells, eqCell, regM] at *); first | (simp [wk, wkL, wkO, eqCells, eqCell, regM, *]; done) | (simp [wk, wkL, wkO, eqCells, eqCell, regM, *]; omega) | (rw [Bool.eq_iff_iff]; simp [wk, wkL, wkO, eqCells, eqCell, regM, *]; done) | (rw [Bool.eq_iff_iff]; simp [wk, wkL, wkO, eqCells, eqCell, regM, *]; omega) | (rw [Bool.eq_iff_iff]; simp [wk, wkL, wkO, eqCells, eqCell, regM, *]; grind) | (subst_vars; rw [Bool.eq_iff_iff]; simp; grind))
theorem mhigh0_ok (r : Int) (r0 : 0 ≤ r) (r1 : r ≤ 15) : Ret Try.prog 155 ([.int .i8 r, .int .u64 0]) (.int .u8 (r / 8)) := by
 exact (o155 (d := .int .u8 (IntKind.wrap IntKind.u8 (IntKind.wrap IntKind.u8 (↑(BitVec.toNat (BitVec.ofInt (8 : Nat) (Int.fdiv (IntKind.wrap IntKind.u8 r) 8) &&& BitVec.ofInt (8 : Nat) 1)) : Int) * 1))) [tT] (by kernel_rfl)).to (by simp only [wk, D.int.injEq, true_and]; obtain ⟨n, rfl⟩ := fin16 r0 r1; clear r0 r1; revert n; decide +kernel)
theorem mhigh2_ok (r : Int) (r0 : 0 ≤ r) (r1 : r ≤ 15) : Ret Try.prog 155 ([.int .i8 r, .int .u64 2]) (.int .u8 (4 * (r / 8))) := by
 exact (o155 (d := .int .u8 (IntKind.wrap IntKind.u8 (IntKind.wrap IntKind.u8 (↑(BitVec.toNat (BitVec.ofInt (8 : Nat) (Int.fdiv (IntKind.wrap IntKind.u8 r) 8) &&& BitVec.ofInt (8 : Nat) 1)) : Int) * 4))) [tT] (by kernel_rfl)).to (by simp only [wk, D.int.injEq, true_and]; obtain ⟨n, rfl⟩ := fin16 r0 r1; clear r0 r1; revert n; decide +kernel)
theorem mlow192_ok (r m : Int) (r0 : 0 ≤ r) (r1 : r ≤ 15) (m0 : 0 ≤ m) (m1 : m ≤ 15) : Ret Try.prog 156 ([.int .u8 192, .int .i8 r, .int .i8 m]) (.int .u8 (regsM r m)) := by
 exact (o156 (d := .int .u8 (IntKind.wrap IntKind.u8 (↑(BitVec.toNat (BitVec.ofInt (8 : Nat) (IntKind.wrap IntKind.u8 (↑(BitVec.toNat (BitVec.ofInt (8 : Nat) 192 ||| BitVec.ofInt (8 : Nat) (IntKind.wrap IntKind.u8 (IntKind.wrap IntKind.u8 (↑(BitVec.toNat (BitVec.ofInt (8 : Nat) (IntKind.wrap IntKind.u8 r) &&& BitVec.ofInt (8 : Nat) 7)) : Int) * 8)))) : Int)) ||| BitVec.ofInt (8 : Nat) (IntKind.wrap IntKind.u8 (↑(BitVec.toNat (BitVec.ofInt (8 : Nat) (IntKind.wrap IntKind.u8 m) &&& BitVec.ofInt (8 : Nat) 7)) : Int)))) : Int))) [] (by kernel_rfl)).to (by simp only [wk, D.int.injEq, true_and]; obtain ⟨n, rfl⟩ := fin16 r0 r1; obtain ⟨k, rfl⟩ := fin16 m0 m1; clear r0 r1 m0 m1; revert n k; decide +kernel)
theorem mlow128_ok (r m : Int) (r0 : 0 ≤ r) (r1 : r ≤ 15) (m0 : 0 ≤ m) (m1 : m ≤ 15) : Ret Try.prog 156 ([.int .u8 128, .int .i8 r, .int .i8 m]) (.int .u8 (128 + 8 * (r % 8) + m % 8)) := by
 exact (o156 (d := .int .u8 (IntKind.wrap IntKind.u8 (↑(BitVec.toNat (BitVec.ofInt (8 : Nat) (IntKind.wrap IntKind.u8 (↑(BitVec.toNat (BitVec.ofInt (8 : Nat) 128 ||| BitVec.ofInt (8 : Nat) (IntKind.wrap IntKind.u8 (IntKind.wrap IntKind.u8 (↑(BitVec.toNat (BitVec.ofInt (8 : Nat) (IntKind.wrap IntKind.u8 r) &&& BitVec.ofInt (8 : Nat) 7)) : Int) * 8)))) : Int)) ||| BitVec.ofInt (8 : Nat) (IntKind.wrap IntKind.u8 (↑(BitVec.toNat (BitVec.ofInt (8 : Nat) (IntKind.wrap IntKind.u8 m) &&& BitVec.ofInt (8 : Nat) 7)) : Int)))) : Int))) [] (by kernel_rfl)).to (by simp only [wk, D.int.injEq, true_and]; obtain ⟨n, rfl⟩ := fin16 r0 r1; obtain ⟨k, rfl⟩ := fin16 m0 m1; clear r0 r1 m0 m1; revert n k; decide +kernel)
theorem rdirect_ok (r m : Int) (r0 : 0 ≤ r) (r1 : r ≤ 15) (m0 : 0 ≤ m) (m1 : m ≤ 15) : Ret Try.prog 109 ([.int .i8 r, .int .i8 m]) (.int .u8 (regsM r m)) := by
 exact (o109 (d := .int .u8 (IntKind.wrap IntKind.u8 (IntKind.i64.wrap (IntKind.i64.wrap (192 + IntKind.i64.wrap (8 * IntKind.i64.wrap (IntKind.wrap IntKind.i8 (↑(BitVec.toNat (BitVec.ofInt (8 : Nat) r &&& BitVec.ofInt (8 : Nat) 7)) : Int)))) + IntKind.i64.wrap (IntKind.wrap IntKind.i8 (↑(BitVec.toNat (BitVec.ofInt (8 : Nat) m &&& BitVec.ofInt (8 : Nat) 7)) : Int)))))) [] (by kernel_rfl)).to (by simp only [wk, D.int.injEq, true_and]; obtain ⟨n, rfl⟩ := fin16 r0 r1; obtain ⟨k, rfl⟩ := fin16 m0 m1; clear r0 r1 m0 m1; revert n k; decide +kernel)
theorem mneeds_t_ok (r m : Int) (r0 : 0 ≤ r) (r1 : r ≤ 15) (m0 : 0 ≤ m) (m1 : m ≤ 15) (hn : decide (8 ≤ r ∨ 8 ≤ m) = true) : Ret Try.prog 118 ([.int .i8 r, .int .i8 m]) (.bool true) := by
 have c0 := @mregister_ok r
 rw [show (regM r) = true from (@reg_yes r r0 r1)] at c0
 have c1 := @mregister_ok m
 rw [show (regM m) = true from (@reg_yes m m0 m1)] at c1
 exact (o118 (d := .bool (IntKind.wrap IntKind.i8 (↑(BitVec.toNat (BitVec.ofInt (8 : Nat) (IntKind.wrap IntKind.i8 (↑(BitVec.toNat (BitVec.ofInt (8 : Nat) r ||| BitVec.ofInt (8 : Nat) m)) : Int)) &&& BitVec.ofInt (8 : Nat) 8)) : Int) != 0)) [.ret _ _ _ c0, tT, tT, .ret _ _ _ c1, tT, tT, tT, tT, tT, tT, tT] (by kernel_rfl)).to (by simp only [wk, D.bool.injEq]; rw [need_or r0 r1 m0 m1]; exact hn)
theorem mneeds_f_ok (r m : Int) (r0 : 0 ≤ r) (r1 : r ≤ 15) (m0 : 0 ≤ m) (m1 : m ≤ 15) (hn : decide (8 ≤ r ∨ 8 ≤ m) = false) : Ret Try.prog 118 ([.int .i8 r, .int .i8 m]) (.bool false) := by
 have c0 := @mregister_ok r
 rw [show (regM r) = true from (@reg_yes r r0 r1)] at c0
 have c1 := @mregister_ok m
 rw [show (regM m) = true from (@reg_yes m m0 m1)] at c1
 exact (o118 (d := .bool (IntKind.wrap IntKind.i8 (↑(BitVec.toNat (BitVec.ofInt (8 : Nat) (IntKind.wrap IntKind.i8 (↑(BitVec.toNat (BitVec.ofInt (8 : Nat) r ||| BitVec.ofInt (8 : Nat) m)) : Int)) &&& BitVec.ofInt (8 : Nat) 8)) : Int) != 0)) [.ret _ _ _ c0, tT, tT, .ret _ _ _ c1, tT, tT, tT, tT, tT, tT, tT] (by kernel_rfl)).to (by simp only [wk, D.bool.injEq]; rw [need_or r0 r1 m0 m1]; exact hn)
open Go Go.RowKit Go.Ev
set_option maxHeartbeats 4000000 in
theorem num4_walk (v : Int) (h0 : -2147483648 ≤ v) (h1 : v ≤ 2147483647) (w : World) :
  Calls Try.prog 157 #[.int .i64 v, .int .i64 4] w fun e w' => e = .returned (.tuple #[.slice (some ⟨w.heap.size, 0, none⟩) 4 4, .int .i64 0]) ∧
   w' = w.alloc (.cells #[.int .u8 (v % 256), .int .u8 (v / 256 % 256), .int .u8 (v / 65536 % 256), .int .u8 (v / 16777216 % 256)] 5) := by
 have hmk : ∀ w, (Instr.makeSlice 34 (.int .i64 4) (.int .i64 4)).run Try.prog w = .ok (.slice (some ⟨w.heap.size, 0, none⟩) 4 4) (w.alloc (.cells #[.int .u8 0, .int .u8 0, .int .u8 0, .int .u8 0] 5)) := fun _ => by kernel_rfl
 go_enter Try.func157, Try.ntmps157
 go_wp2
 refine wp_loop_rounds 5 ?_
 rw [rounds_succ]; go_wp2
 rw [rounds_succ]; go_wp2
 rw [rounds_succ]; go_wp2
 rw [rounds_succ]; go_wp2
 rw [rounds_succ]; go_wp2
 go_ret2
 exact ⟨rfl, rfl⟩
theorem ext_alloc {C : Nat → Nat → Option Value} {w : World} (hC : ∀ b o v, C b o = some v → w.cell? ⟨b, o, none⟩ = some v) (cells : Array Value) (ty : TypeId) :
  Ext (bareOf C) w (bareOf fun b o => if b = w.heap.size then cells[o]? else C b o) (w.alloc (.cells cells ty)) := by
 have hlt : ∀ b o v, C b o = some v → b < w.heap.size := fun b o v h => World.block_lt_of_cell? w _ (hC b o v h)
 refine ⟨(Below.refl _ _).alloc (Nat.le_refl _) _, ?_, ?_, ?_⟩
 ·intro b o v h
  have := hlt b o v h
  show (if b = w.heap.size then cells[o]? else C b o) = some v
  rw [if_neg (by omega)]
  exact h
 ·intro b o v h hb
  have h' : (if b = w.heap.size then cells[o]? else C b o) = some v := h
  rw [if_neg (by omega)] at h'
  exact h'
 ·intro b o v h
  have h' : (if b = w.heap.size then cells[o]? else C b o) = some v := h
  split at h'
  ·rename_i e
   subst e
   have hh : (w.alloc (.cells cells ty)).heap[w.heap.size]? = some (.cells cells ty) := by
    show (w.heap.push _)[w.heap.size]? = _
    simp
   simp only [World.cell?, hh]
   exact h'
  ·have hb := hlt b o v h'
   rw [World.cell?_alloc_lt _ _ _ hb]
   exact hC b o v h'
theorem rep_new {C : Nat → Nat → Option Value} {b : Nat} {k : IntKind} (xs : List Int) (cells : Array Value) (hc : cells = (xs.map fun n => Value.int k n).toArray) :
  Rep (bareOf fun b' o => if b' = b then cells[o]? else C b' o) (.lst .tight 1 (xs.map fun n => .int k n)) (.slice (some ⟨b, 0, none⟩) xs.length xs.length) := by
 subst hc
 have key : ∀ (i : Nat) (x : D) (cs : List D) (j : Nat) (c : D), (xs.map fun n => D.int k n)[i]? = some x → x.cells = some cs → cs[j]? = some c → ∃ n, xs[i]? = some n ∧ c = .int k n ∧ j = 0 := by
  intro i x cs j c h1 h2 h3
  rw [List.getElem?_map, Option.map_eq_some_iff] at h1
  obtain ⟨n, hn, rfl⟩ := h1
  simp only [D.cells, Option.some.injEq] at h2
  subst h2
  cases j with
  | zero => simp at h3; exact ⟨n, hn, h3.symm, rfl⟩
  | succ j => simp at h3
 refine .lst b 0 (fun i _ => .int k (xs.getD i 0)) (by simp) (Nat.le_refl _) (fun _ => rfl) ?_ ?_ ?_ ?_ rfl
 ·intro i x hx
  rw [List.getElem?_map, Option.map_eq_some_iff] at hx
  obtain ⟨n, hn, rfl⟩ := hx
  exact ⟨[.int k n], rfl, rfl⟩
 ·intro i x cs j c h1 h2 h3
  obtain ⟨n, hn, rfl, rfl⟩ := key i x cs j c h1 h2 h3
  simp [bareOf, hn]
 ·intro i x cs j c h1 h2 h3
  obtain ⟨n, hn, rfl, rfl⟩ := key i x cs j c h1 h2 h3
  simp only [List.getD_eq_getElem?_getD, hn, Option.getD_some]
  exact .int k n
 ·intro i x cs c h1 h2 h3
  rw [List.getElem?_map, Option.map_eq_some_iff] at h1
  obtain ⟨n, hn, rfl⟩ := h1
  simp only [D.cells, Option.some.injEq] at h2
  subst h2
  simp at h3
  subst h3
  rfl
theorem num4_ok (v : Int) (h0 : -2147483648 ≤ v) (h1 : v ≤ 2147483647) : Ret Try.prog 157 [.int .i64 v, .int .i64 4] (.tup [.lst .tight 1 [.int .u8 (v % 256), .int .u8 (v / 256 % 256), .int .u8 (v / 65536 % 256), .int .u8 (v / 16777216 % 256)], .int .i64 0]) := by
 refine ⟨⟨_, _, Try.func157, rfl, by kernel_rfl⟩, fun w C vs hC ha => ?_⟩
 obtain ⟨hl, hr⟩ := ha
 obtain ⟨a, b, rfl⟩ : ∃ a b, vs = #[a, b] := by
  rcases vs with ⟨l⟩
  match l, hl with
  | [a, b], _ => exact ⟨a, b, rfl⟩
 have ra := hr 0 _ a rfl rfl
 have rb := hr 1 _ b rfl rfl
 cases ra
 cases rb
 refine Calls.mono (num4_walk v h0 h1 w) ?_
 rintro e w' ⟨rfl, rfl⟩
 have rl := rep_new (C := C) (b := w.heap.size) (k := .u8) [v % 256, v / 256 % 256, v / 65536 % 256, v / 16777216 % 256] _ rfl
 refine ⟨_, _, rfl, ext_alloc hC _ _, .tup rfl ?_, ?_⟩
 ·intro i d u p q
  match i, p, q with
  | 0, p, q => simp at p q; subst p q; exact rl
  | 1, p, q => simp at p q; subst p q; exact .int _ _
 ·refine ⟨fun sz sz' xs h => (by cases h), ?_⟩
  intro ds vs hd hv i sz sz' xs hi
  simp only [D.tup.injEq] at hd
  subst hd
  match i, hi with
  | 0, hi => simp at hi
  | 1, hi => simp at hi
theorem mRex_f_ok (r m : Int) (r0 : 0 ≤ r) (r1 : r ≤ 15) (m0 : 0 ≤ m) (m1 : m ≤ 15) : Ret Try.prog 119 ([.bool false, .int .i8 r, .int .i8 m]) (.tup [.int .u8 (rexB false r m), .int .i64 0]) := by
 have c0 := @mregister_ok r
 rw [show (regM r) = true from (@reg_yes r r0 r1)] at c0
 have c1 := @mregister_ok m
 rw [show (regM m) = true from (@reg_yes m m0 m1)] at c1
 have c2 := @mhigh2_ok r r0 r1
 have c3 := @mhigh0_ok m m0 m1
 exact (o119 (d := .tup [.int .u8 (IntKind.wrap IntKind.u8 (↑(BitVec.toNat (BitVec.ofInt (8 : Nat) (IntKind.wrap IntKind.u8 (↑(BitVec.toNat (BitVec.ofInt (8 : Nat) 64 ||| BitVec.ofInt (8 : Nat) (4 * (r / 8)))) : Int)) ||| BitVec.ofInt (8 : Nat) (m / 8))) : Int)), .int .i64 0]) [.ret _ _ _ c0, tT, tT, .ret _ _ _ c1, tT, tF, tF, .ret _ _ _ c2, .ret _ _ _ c3, tF] (by kernel_rfl)).to (by simp only [wk, wkL, D.int.injEq, true_and, and_true]; exact rex_raw0 r0 r1 m0 m1)
theorem mRex_t_ok (r m : Int) (r0 : 0 ≤ r) (r1 : r ≤ 15) (m0 : 0 ≤ m) (m1 : m ≤ 15) : Ret Try.prog 119 ([.bool true, .int .i8 r, .int .i8 m]) (.tup [.int .u8 (rexB true r m), .int .i64 0]) := by
 have c0 := @mregister_ok r
 rw [show (regM r) = true from (@reg_yes r r0 r1)] at c0
 have c1 := @mregister_ok m
 rw [show (regM m) = true from (@reg_yes m m0 m1)] at c1
 have c2 := @mhigh2_ok r r0 r1
 have c3 := @mhigh0_ok m m0 m1
 exact (o119 (d := .tup [.int .u8 (IntKind.wrap IntKind.u8 (↑(BitVec.toNat (BitVec.ofInt (8 : Nat) (IntKind.wrap IntKind.u8 (↑(BitVec.toNat (BitVec.ofInt (8 : Nat) (IntKind.wrap IntKind.u8 (↑(BitVec.toNat (BitVec.ofInt (8 : Nat) 64 ||| BitVec.ofInt (8 : Nat) (4 * (r / 8)))) : Int)) ||| BitVec.ofInt (8 : Nat) (m / 8))) : Int)) ||| BitVec.ofInt (8 : Nat) 8)) : Int)), .int .i64 0]) [.ret _ _ _ c0, tT, tT, .ret _ _ _ c1, tT, tF, tF, .ret _ _ _ c2, .ret _ _ _ c3, tT] (by kernel_rfl)).to (by simp only [wk, wkL, D.int.injEq, true_and, and_true]; exact rex_raw1 r0 r1 m0 m1)
theorem mRegs_ok (r m : Int) (r0 : 0 ≤ r) (r1 : r ≤ 15) (m0 : 0 ≤ m) (m1 : m ≤ 15) : Ret Try.prog 120 ([.int .i8 r, .int .i8 m]) (.tup [.lst .tight 1 [.int .u8 (regsM r m)], .int .i64 0]) := by
 have c0 := @mregister_ok r
 rw [show (regM r) = true from (@reg_yes r r0 r1)] at c0
 have c1 := @mregister_ok m
 rw [show (regM m) = true from (@reg_yes m m0 m1)] at c1
 have c2 := @mlow192_ok r m r0 r1 m0 m1
 generalize g4 : regsM r m = r3 at c2
 exact (o120 (d := .tup [.lst .tight 1 [.int .u8 r3], .int .i64 0]) [.ret _ _ _ c0, tT, tT, .ret _ _ _ c1, tT, tF, tF, .ret _ _ _ c2] (by kernel_rfl)).to (by subst_vars; simp [wk, wkL, wkO])
theorem mMem_4_ok (r b disp : Int) (r0 : 0 ≤ r) (r1 : r ≤ 15) (m0 : 0 ≤ b) (m1 : b ≤ 15) (h0 : -2147483648 ≤ disp) (h1 : disp ≤ 2147483647) (hb : decide (b % 8 = 4) = true) : Ret Try.prog 122 ([.int .i8 r, .int .i8 b, .int .i64 disp]) (.tup [.lst .no 1 [.int .u8 (128 + 8 * (r % 8) + b % 8), .int .u8 36, .int .u8 (disp % 256), .int .u8 (disp / 256 % 256), .int .u8 (disp / 65536 % 256), .int .u8 (disp / 16777216 % 256)], .int .i64 0]) := by
 have c0 := @num4_ok disp h0 h1
 have c1 := @mregister_ok r
 rw [show (regM r) = true from (@reg_yes r r0 r1)] at c1
 have c2 := @mregister_ok b
 rw [show (regM b) = true from (@reg_yes b m0 m1)] at c2
 have c3 := @mlow128_ok r b r0 r1 m0 m1
 exact (o122 (d := .tup [.lst (.fresh 1) 1 [.int .u8 (128 + 8 * (r % 8) + b % 8), .int .u8 36, .int .u8 (disp % 256), .int .u8 (disp / 256 % 256), .int .u8 (disp / 65536 % 256), .int .u8 (disp / 16777216 % 256)], .int .i64 0]) [.ret _ _ _ c0, tT, tT, .ret _ _ _ c1, tT, tF, tT, tT, .ret _ _ _ c2, tT, tF, tF, tC (eqI 4 true (eq_of_beq (@sib_t b hb))), .ret _ _ _ c3, .inl, .go 64, tT, tT, .get ([.lst .tight 1 [.int .u8 (128 + 8 * (r % 8) + b % 8)], .lst .tight 1 [.int .u8 36], .lst .tight 1 [.int .u8 (disp % 256), .int .u8 (disp / 256 % 256), .int .u8 (disp / 65536 % 256), .int .u8 (disp / 16777216 % 256)]]) 0 (.lst .tight 1 [.int .u8 (128 + 8 * (r % 8) + b % 8)]) rfl, .len 1 2147483648 (by decide), tT, tT, .get ([.lst .tight 1 [.int .u8 (128 + 8 * (r % 8) + b % 8)], .lst .tight 1 [.int .u8 36], .lst .tight 1 [.int .u8 (disp % 256), .int .u8 (disp / 256 % 256), .int .u8 (disp / 65536 % 256), .int .u8 (disp / 16777216 % 256)]]) 1 (.lst .tight 1 [.int .u8 36]) rfl, .len 2 2147483648 (by decide), tT, tT, .get ([.lst .tight 1 [.int .u8 (128 + 8 * (r % 8) + b % 8)], .lst .tight 1 [.int .u8 36], .lst .tight 1 [.int .u8 (disp % 256), .int .u8 (disp / 256 % 256), .int .u8 (disp / 65536 % 256), .int .u8 (disp / 16777216 % 256)]]) 2 (.lst .tight 1 [.int .u8 (disp % 256), .int .u8 (disp / 256 % 256), .int .u8 (disp / 65536 % 256), .int .u8 (disp / 16777216 % 256)]) rfl, .len 6 2147483648 (by decide), tF] (by kernel_rfl)).to (by subst_vars; simp [wk, wkL, wkO])
theorem mMem_n_ok (r b disp : Int) (r0 : 0 ≤ r) (r1 : r ≤ 15) (m0 : 0 ≤ b) (m1 : b ≤ 15) (h0 : -2147483648 ≤ disp) (h1 : disp ≤ 2147483647) (hb : decide (b % 8 = 4) = false) : Ret Try.prog 122 ([.int .i8 r, .int .i8 b, .int .i64 disp]) (.tup [.lst .no 1 [.int .u8 (128 + 8 * (r % 8) + b % 8), .int .u8 (disp % 256), .int .u8 (disp / 256 % 256), .int .u8 (disp / 65536 % 256), .int .u8 (disp / 16777216 % 256)], .int .i64 0]) := by
 have c0 := @num4_ok disp h0 h1
 have c1 := @mregister_ok r
 rw [show (regM r) = true from (@reg_yes r r0 r1)] at c1
 have c2 := @mregister_ok b
 rw [show (regM b) = true from (@reg_yes b m0 m1)] at c2
 have c3 := @mlow128_ok r b r0 r1 m0 m1
 exact (o122 (d := .tup [.lst (.fresh 1) 1 [.int .u8 (128 + 8 * (r % 8) + b % 8), .int .u8 (disp % 256), .int .u8 (disp / 256 % 256), .int .u8 (disp / 65536 % 256), .int .u8 (disp / 16777216 % 256)], .int .i64 0]) [.ret _ _ _ c0, tT, tT, .ret _ _ _ c1, tT, tF, tT, tT, .ret _ _ _ c2, tT, tF, tF, tC (@sib_f b hb), .ret _ _ _ c3, .inl, .go 64, tT, tT, .get ([.lst .tight 1 [.int .u8 (128 + 8 * (r % 8) + b % 8)], .lst .tight 0 [], .lst .tight 1 [.int .u8 (disp % 256), .int .u8 (disp / 256 % 256), .int .u8 (disp / 65536 % 256), .int .u8 (disp / 16777216 % 256)]]) 0 (.lst .tight 1 [.int .u8 (128 + 8 * (r % 8) + b % 8)]) rfl, .len 1 2147483648 (by decide), tT, tT, .get ([.lst .tight 1 [.int .u8 (128 + 8 * (r % 8) + b % 8)], .lst .tight 0 [], .lst .tight 1 [.int .u8 (disp % 256), .int .u8 (disp / 256 % 256), .int .u8 (disp / 65536 % 256), .int .u8 (disp / 16777216 % 256)]]) 1 (.lst .tight 0 []) rfl, .len 1 2147483648 (by decide), tT, tT, .get ([.lst .tight 1 [.int .u8 (128 + 8 * (r % 8) + b % 8)], .lst .tight 0 [], .lst .tight 1 [.int .u8 (disp % 256), .int .u8 (disp / 256 % 256), .int .u8 (disp / 65536 % 256), .int .u8 (disp / 16777216 % 256)]]) 2 (.lst .tight 1 [.int .u8 (disp % 256), .int .u8 (disp / 256 % 256), .int .u8 (disp / 65536 % 256), .int .u8 (disp / 16777216 % 256)]) rfl, .len 5 2147483648 (by decide), tF] (by kernel_rfl)).to (by subst_vars; simp [wk, wkL, wkO])
theorem rex_no_ok (r m : Int) (r0 : 0 ≤ r) (r1 : r ≤ 15) (m0 : 0 ≤ m) (m1 : m ≤ 15) (wide al : Bool) (hn : needM wide r m al = false) : Ret Try.prog 59 ([.bool wide, .int .i8 r, .int .i8 m, .bool al]) (.lst .tight 1 []) := by
 cases wide
 ·cases al
  ·have c0 := @mneeds_f_ok r m r0 r1 m0 m1 hn
   exact (o59 (d := .lst .tight 0 []) [tT, tT, tT, tT, tT, tT, .ret _ _ _ c0, tT, tT, tT] (by kernel_rfl)).to (by first | (simp [wk, wkL, wkO]; done) | (exfalso; simp [needM] at hn))
  have c1 := @mRex_f_ok r m r0 r1 m0 m1
  generalize g3 : rexB false r m = r2 at c1
  exact (o59 (d := .lst .tight 1 [.int .u8 r2]) [tT, tT, tT, tF, tF, tF, tF, tF, tF, .ret _ _ _ c1] (by kernel_rfl)).to (by first | (simp [wk, wkL, wkO]; done) | (exfalso; simp [needM] at hn))
 have c4 := @mRex_t_ok r m r0 r1 m0 m1
 generalize g6 : rexB true r m = r5 at c4
 exact (o59 (d := .lst .tight 1 [.int .u8 r5]) (List.replicate 9 tF ++ [.ret _ _ _ c4]) (by kernel_rfl)).to (by first | (simp [wk, wkL, wkO]; done) | (exfalso; simp [needM] at hn))
theorem rex_yes_ok (r m : Int) (r0 : 0 ≤ r) (r1 : r ≤ 15) (m0 : 0 ≤ m) (m1 : m ≤ 15) (wide al : Bool) (hn : needM wide r m al = true) : Ret Try.prog 59 ([.bool wide, .int .i8 r, .int .i8 m, .bool al]) (.lst .tight 1 [.int .u8 (rexB wide r m)]) := by
 cases wide
 ·cases al
  ·have c0 := @mneeds_t_ok r m r0 r1 m0 m1 hn
   have c1 := @mRex_f_ok r m r0 r1 m0 m1
   generalize g3 : rexB false r m = r2 at c1
   exact (o59 (d := .lst .tight 1 [.int .u8 r2]) [tT, tT, tT, tT, tT, tT, .ret _ _ _ c0, tT, tT, tF, .ret _ _ _ c1] (by kernel_rfl)).to (by subst_vars; first | (simp [wk, wkL, wkO]; done) | (exfalso; simp [needM] at hn; omega))
  have c4 := @mRex_f_ok r m r0 r1 m0 m1
  generalize g6 : rexB false r m = r5 at c4
  exact (o59 (d := .lst .tight 1 [.int .u8 r5]) [tT, tT, tT, tF, tF, tF, tF, tF, tF, .ret _ _ _ c4] (by kernel_rfl)).to (by subst_vars; first | (simp [wk, wkL, wkO]; done) | (exfalso; simp [needM] at hn; omega))
 have c7 := @mRex_t_ok r m r0 r1 m0 m1
 generalize g9 : rexB true r m = r8 at c7
 exact (o59 (d := .lst .tight 1 [.int .u8 r8]) (List.replicate 9 tF ++ [.ret _ _ _ c7]) (by kernel_rfl)).to (by subst_vars; first | (simp [wk, wkL, wkO]; done) | (exfalso; simp [needM] at hn; omega))
theorem two_ok (r m : Int) (r0 : 0 ≤ r) (r1 : r ≤ 15) (m0 : 0 ≤ m) (m1 : m ≤ 15) : Ret Try.prog 60 ([.int .i8 r, .int .i8 m]) (.lst .tight 1 [.int .u8 (regsM r m)]) := by
 have c0 := @mRegs_ok r m r0 r1 m0 m1
 generalize g2 : regsM r m = r1 at c0
 exact (o60 (d := .lst .tight 1 [.int .u8 r1]) [.ret _ _ _ c0] (by kernel_rfl)).to (by subst_vars; simp [wk, wkL, wkO])
theorem four_ok (n : Int) : Ret Try.prog 61 ([.int .i64 n]) (.lst .no 1 [.int .u8 (n % 256), .int .u8 (n / 256 % 256), .int .u8 (n / 65536 % 256), .int .u8 (n / 16777216 % 256)]) := by
 exact (o61 (d := .lst (.fresh 1) 1 [.int .u8 (IntKind.wrap IntKind.u8 (IntKind.wrap IntKind.u64 n)), .int .u8 (IntKind.wrap IntKind.u8 (Int.fdiv (IntKind.wrap IntKind.u64 n) 256)), .int .u8 (IntKind.wrap IntKind.u8 (Int.fdiv (Int.fdiv (IntKind.wrap IntKind.u64 n) 256) 256)), .int .u8 (IntKind.wrap IntKind.u8 (Int.fdiv (Int.fdiv (Int.fdiv (IntKind.wrap IntKind.u64 n) 256) 256) 256))]) [.inl, .go 64, tT, .len 1 2147483648 (by decide), tT, .len 2 2147483648 (by decide), tT, .len 3 2147483648 (by decide), tT, .len 4 2147483648 (by decide), tF] (by kernel_rfl)).to (by simp only [wk, wkL, wkO, D.int.injEq, D.lst.injEq, List.cons.injEq, true_and, and_true, w_u8, w_u64, true_or, fd1, fd256, fd65536, fd16777216]; first | done | omega | (simp; omega))
theorem rdir2_ok (n : Int) : Ret Try.prog 110 ([.int .u64 (n % 18446744073709551616), .int .i64 4]) (.lst .no 1 [.int .u8 (n % 256), .int .u8 (n / 256 % 256), .int .u8 (n / 65536 % 256), .int .u8 (n / 16777216 % 256)]) := by
 exact (o110 (d := .lst (.fresh 1) 1 [.int .u8 (IntKind.wrap IntKind.u8 (Int.fdiv (n % 18446744073709551616) 1)), .int .u8 (IntKind.wrap IntKind.u8 (Int.fdiv (n % 18446744073709551616) 256)), .int .u8 (IntKind.wrap IntKind.u8 (Int.fdiv (n % 18446744073709551616) 65536)), .int .u8 (IntKind.wrap IntKind.u8 (Int.fdiv (n % 18446744073709551616) 16777216))]) [.go 64, tT, tT, .len 1 2147483648 (by decide), tT, tT, .len 2 2147483648 (by decide), tT, tT, .len 3 2147483648 (by decide), tT, tT, .len 4 2147483648 (by decide), tF] (by kernel_rfl)).to (by simp only [wk, wkL, wkO, D.int.injEq, D.lst.injEq, List.cons.injEq, true_and, and_true, w_u8, w_u64, true_or, fd1, fd256, fd65536, fd16777216]; first | done | omega | (simp; omega))
theorem bytes_1_ok (op w dst src base disp imm cc : Int) (ho : op ≤ 127) (d0 : 0 ≤ dst) (d1 : dst ≤ 15) (s0 : 0 ≤ src) (s1 : src ≤ 15) (b0 : 0 ≤ base) (b1 : base ≤ 15) (p0 : -2147483648 ≤ disp) (p1 : disp ≤ 2147483647) (i0 : -2147483648 ≤ imm) (i1 : imm ≤ 2147483647) (c0 : 0 ≤ cc) (c1 : cc ≤ 15) (n0 : 0 ≤ numM op) (n1 : numM op ≤ 7) (h : (shapeM op == 1) = true) (hin : decide (0 ≤ op ∧ op ≤ 31) = true) (hm : mayX op w dst src base disp imm cc = true) : Ret Try.prog 21 ([xD op w dst src base disp imm cc]) (.tup [.lst .no 1 (bD (bytesM op w dst src base disp imm cc)), .int .i64 0]) := by
 have c0 := @mayX_ok op w dst src base disp imm cc ho
 rw [hm] at c0
 have c1 := @of_any_ok op ho
 rw [eq_of_beq h] at c1
 generalize g3 : codeM op = r2 at c1
 generalize g5 : numM op = r4 at c1
 rcases bft (needM (w == 64) src dst false) with h6 | h6
 ·have c7 := @rex_yes_ok src dst s0 s1 d0 d1 (w == 64) false h6
  generalize g9 : rexB (w == 64) src dst = r8 at c7
  have c10 := @two_ok src dst s0 s1 d0 d1
  generalize g12 : regsM src dst = r11 at c10
  exact (o21 (d := .tup [.lst (.fresh 1) 1 [.int .u8 r8, .int .u8 r2, .int .u8 r11], .int .i64 0]) [.ret _ _ _ c0, tF, .ret _ _ _ c1, tT, .ret _ _ _ c7, .ret _ _ _ c10, .inl, .go 64, tT, tT, .get ([.lst .tight 1 [.int .u8 r8], .lst .tight 1 [.int .u8 r2], .lst .tight 1 [.int .u8 r11]]) 0 _ rfl, .len 1 2147483648 (by decide), tT, tT, .get ([.lst .tight 1 [.int .u8 r8], .lst .tight 1 [.int .u8 r2], .lst .tight 1 [.int .u8 r11]]) 1 _ rfl, .len 2 2147483648 (by decide), tT, tT, .get ([.lst .tight 1 [.int .u8 r8], .lst .tight 1 [.int .u8 r2], .lst .tight 1 [.int .u8 r11]]) 2 _ rfl, .len 3 2147483648 (by decide), tF] (by kernel_rfl)).to (by subst_vars; (try simp only [beq_dec] at *); (try simp only [beq_iff_eq] at h); (try simp only [decide_eq_true_eq, decide_eq_false_iff_not] at *); simp_all [wk, wkL, wkO, bytesM, bD, rexM, memM, fourM, w_u8])
 have c13 := @rex_no_ok src dst s0 s1 d0 d1 (w == 64) false h6
 have c14 := @two_ok src dst s0 s1 d0 d1
 generalize g16 : regsM src dst = r15 at c14
 exact (o21 (d := .tup [.lst (.fresh 1) 1 [.int .u8 r2, .int .u8 r15], .int .i64 0]) [.ret _ _ _ c0, tF, .ret _ _ _ c1, tT, .ret _ _ _ c13, .ret _ _ _ c14, .inl, .go 64, tT, tT, .get ([.lst .tight 1 [], .lst .tight 1 [.int .u8 r2], .lst .tight 1 [.int .u8 r15]]) 0 _ rfl, .len 0 2147483648 (by decide), tT, tT, .get ([.lst .tight 1 [], .lst .tight 1 [.int .u8 r2], .lst .tight 1 [.int .u8 r15]]) 1 _ rfl, .len 1 2147483648 (by decide), tT, tT, .get ([.lst .tight 1 [], .lst .tight 1 [.int .u8 r2], .lst .tight 1 [.int .u8 r15]]) 2 _ rfl, .len 2 2147483648 (by decide), tF] (by kernel_rfl)).to (by subst_vars; (try simp only [beq_dec] at *); (try simp only [beq_iff_eq] at h); (try simp only [decide_eq_true_eq, decide_eq_false_iff_not] at *); simp_all [wk, wkL, wkO, bytesM, bD, rexM, memM, fourM, w_u8])
theorem bytesO_16_ok (w dst src base disp imm cc : Int) (d0 : 0 ≤ dst) (d1 : dst ≤ 15) (s0 : 0 ≤ src) (s1 : src ≤ 15) (b0 : 0 ≤ base) (b1 : base ≤ 15) (p0 : -2147483648 ≤ disp) (p1 : disp ≤ 2147483647) (i0 : -2147483648 ≤ imm) (i1 : imm ≤ 2147483647) (c0 : 0 ≤ cc) (c1 : cc ≤ 15) (hm : mayX 16 w dst src base disp imm cc = true) : Ret Try.prog 21 ([xD 16 w dst src base disp imm cc]) (.tup [.lst .no 1 (bD (bytesM 16 w dst src base disp imm cc)), .int .i64 0]) := by
 have c0 := @mayX_ok 16 w dst src base disp imm cc (by decide)
 rw [hm] at c0
 have c1 := @of_any_ok 16 (by decide)
 rcases bft (needM (w == 64) dst src false) with h2 | h2
 ·have c3 := @rex_yes_ok dst src d0 d1 s0 s1 (w == 64) false h2
  generalize g5 : rexB (w == 64) dst src = r4 at c3
  have c6 := @two_ok dst src d0 d1 s0 s1
  generalize g8 : regsM dst src = r7 at c6
  exact (o21 (d := .tup [.lst (.fresh 1) 1 [.int .u8 r4, .int .u8 15, .int .u8 175, .int .u8 r7], .int .i64 0]) [.ret _ _ _ c0, tF, .ret _ _ _ c1, tF, tT, .ret _ _ _ c3, .ret _ _ _ c6, .inl, .go 64, tT, tT, .get ([.lst .tight 1 [.int .u8 r4], .lst .tight 1 [.int .u8 15], .lst .tight 1 [.int .u8 175], .lst .tight 1 [.int .u8 r7]]) 0 _ rfl, .len 1 2147483648 (by decide), tT, tT, .get ([.lst .tight 1 [.int .u8 r4], .lst .tight 1 [.int .u8 15], .lst .tight 1 [.int .u8 175], .lst .tight 1 [.int .u8 r7]]) 1 _ rfl, .len 2 2147483648 (by decide), tT, tT, .get ([.lst .tight 1 [.int .u8 r4], .lst .tight 1 [.int .u8 15], .lst .tight 1 [.int .u8 175], .lst .tight 1 [.int .u8 r7]]) 2 _ rfl, .len 3 2147483648 (by decide), tT, tT, .get ([.lst .tight 1 [.int .u8 r4], .lst .tight 1 [.int .u8 15], .lst .tight 1 [.int .u8 175], .lst .tight 1 [.int .u8 r7]]) 3 _ rfl, .len 4 2147483648 (by decide), tF] (by kernel_rfl)).to (by subst_vars; (try simp only [beq_dec] at *); (try simp only [beq_iff_eq] at h); (try simp only [decide_eq_true_eq, decide_eq_false_iff_not] at *); simp_all [wk, wkL, wkO, bytesM, show shapeM 16 = 2 from rfl, codeM, bD, rexM, memM, fourM, w_u8])
 have c9 := @rex_no_ok dst src d0 d1 s0 s1 (w == 64) false h2
 have c10 := @two_ok dst src d0 d1 s0 s1
 generalize g12 : regsM dst src = r11 at c10
 exact (o21 (d := .tup [.lst (.fresh 1) 1 [.int .u8 15, .int .u8 175, .int .u8 r11], .int .i64 0]) [.ret _ _ _ c0, tF, .ret _ _ _ c1, tF, tT, .ret _ _ _ c9, .ret _ _ _ c10, .inl, .go 64, tT, tT, .get ([.lst .tight 1 [], .lst .tight 1 [.int .u8 15], .lst .tight 1 [.int .u8 175], .lst .tight 1 [.int .u8 r11]]) 0 _ rfl, .len 0 2147483648 (by decide), tT, tT, .get ([.lst .tight 1 [], .lst .tight 1 [.int .u8 15], .lst .tight 1 [.int .u8 175], .lst .tight 1 [.int .u8 r11]]) 1 _ rfl, .len 1 2147483648 (by decide), tT, tT, .get ([.lst .tight 1 [], .lst .tight 1 [.int .u8 15], .lst .tight 1 [.int .u8 175], .lst .tight 1 [.int .u8 r11]]) 2 _ rfl, .len 2 2147483648 (by decide), tT, tT, .get ([.lst .tight 1 [], .lst .tight 1 [.int .u8 15], .lst .tight 1 [.int .u8 175], .lst .tight 1 [.int .u8 r11]]) 3 _ rfl, .len 3 2147483648 (by decide), tF] (by kernel_rfl)).to (by subst_vars; (try simp only [beq_dec] at *); (try simp only [beq_iff_eq] at h); (try simp only [decide_eq_true_eq, decide_eq_false_iff_not] at *); simp_all [wk, wkL, wkO, bytesM, show shapeM 16 = 2 from rfl, codeM, bD, rexM, memM, fourM, w_u8])
theorem bytes_5_ok (op w dst src base disp imm cc : Int) (ho : op ≤ 127) (d0 : 0 ≤ dst) (d1 : dst ≤ 15) (s0 : 0 ≤ src) (s1 : src ≤ 15) (b0 : 0 ≤ base) (b1 : base ≤ 15) (p0 : -2147483648 ≤ disp) (p1 : disp ≤ 2147483647) (i0 : -2147483648 ≤ imm) (i1 : imm ≤ 2147483647) (c0 : 0 ≤ cc) (c1 : cc ≤ 15) (n0 : 0 ≤ numM op) (n1 : numM op ≤ 7) (h : (shapeM op == 5) = true) (hin : decide (0 ≤ op ∧ op ≤ 31) = true) (hm : mayX op w dst src base disp imm cc = true) : Ret Try.prog 21 ([xD op w dst src base disp imm cc]) (.tup [.lst .no 1 (bD (bytesM op w dst src base disp imm cc)), .int .i64 0]) := by
 have c0 := @mayX_ok op w dst src base disp imm cc ho
 rw [hm] at c0
 have c1 := @of_any_ok op ho
 rw [eq_of_beq h] at c1
 generalize g3 : codeM op = r2 at c1
 generalize g5 : numM op = r4 at c1
 rcases bft (needM (w == 64) 0 dst false) with h6 | h6
 ·have c7 := @rex_yes_ok 0 dst (by decide) (by decide) d0 d1 (w == 64) false h6
  generalize g9 : rexB (w == 64) 0 dst = r8 at c7
  have c10 := @two_ok r4 dst (by (simp only [sl2] at *; omega)) (by (simp only [sl2] at *; omega)) d0 d1
  generalize g12 : regsM r4 dst = r11 at c10
  exact (o21 (d := .tup [.lst (.fresh 1) 1 [.int .u8 r8, .int .u8 r2, .int .u8 r11], .int .i64 0]) [.ret _ _ _ c0, tF, .ret _ _ _ c1, tF, tF, tF, tF, tF, tT, .ret _ _ _ c7, .ret _ _ _ c10, .inl, .go 64, tT, tT, .get ([.lst .tight 1 [.int .u8 r8], .lst .tight 1 [.int .u8 r2], .lst .tight 1 [.int .u8 r11]]) 0 _ rfl, .len 1 2147483648 (by decide), tT, tT, .get ([.lst .tight 1 [.int .u8 r8], .lst .tight 1 [.int .u8 r2], .lst .tight 1 [.int .u8 r11]]) 1 _ rfl, .len 2 2147483648 (by decide), tT, tT, .get ([.lst .tight 1 [.int .u8 r8], .lst .tight 1 [.int .u8 r2], .lst .tight 1 [.int .u8 r11]]) 2 _ rfl, .len 3 2147483648 (by decide), tF] (by kernel_rfl)).to (by subst_vars; (try simp only [beq_dec] at *); (try simp only [beq_iff_eq] at h); (try simp only [decide_eq_true_eq, decide_eq_false_iff_not] at *); simp_all [wk, wkL, wkO, bytesM, bD, rexM, memM, fourM, w_u8])
 have c13 := @rex_no_ok 0 dst (by decide) (by decide) d0 d1 (w == 64) false h6
 have c14 := @two_ok r4 dst (by (simp only [sl2] at *; omega)) (by (simp only [sl2] at *; omega)) d0 d1
 generalize g16 : regsM r4 dst = r15 at c14
 exact (o21 (d := .tup [.lst (.fresh 1) 1 [.int .u8 r2, .int .u8 r15], .int .i64 0]) [.ret _ _ _ c0, tF, .ret _ _ _ c1, tF, tF, tF, tF, tF, tT, .ret _ _ _ c13, .ret _ _ _ c14, .inl, .go 64, tT, tT, .get ([.lst .tight 1 [], .lst .tight 1 [.int .u8 r2], .lst .tight 1 [.int .u8 r15]]) 0 _ rfl, .len 0 2147483648 (by decide), tT, tT, .get ([.lst .tight 1 [], .lst .tight 1 [.int .u8 r2], .lst .tight 1 [.int .u8 r15]]) 1 _ rfl, .len 1 2147483648 (by decide), tT, tT, .get ([.lst .tight 1 [], .lst .tight 1 [.int .u8 r2], .lst .tight 1 [.int .u8 r15]]) 2 _ rfl, .len 2 2147483648 (by decide), tF] (by kernel_rfl)).to (by subst_vars; (try simp only [beq_dec] at *); (try simp only [beq_iff_eq] at h); (try simp only [decide_eq_true_eq, decide_eq_false_iff_not] at *); simp_all [wk, wkL, wkO, bytesM, bD, rexM, memM, fourM, w_u8])
theorem bytes_4_ok (op w dst src base disp imm cc : Int) (ho : op ≤ 127) (d0 : 0 ≤ dst) (d1 : dst ≤ 15) (s0 : 0 ≤ src) (s1 : src ≤ 15) (b0 : 0 ≤ base) (b1 : base ≤ 15) (p0 : -2147483648 ≤ disp) (p1 : disp ≤ 2147483647) (i0 : -2147483648 ≤ imm) (i1 : imm ≤ 2147483647) (c0 : 0 ≤ cc) (c1 : cc ≤ 15) (n0 : 0 ≤ numM op) (n1 : numM op ≤ 7) (h : (shapeM op == 4) = true) (hin : decide (0 ≤ op ∧ op ≤ 31) = true) (hm : mayX op w dst src base disp imm cc = true) : Ret Try.prog 21 ([xD op w dst src base disp imm cc]) (.tup [.lst .no 1 (bD (bytesM op w dst src base disp imm cc)), .int .i64 0]) := by
 have c0 := @mayX_ok op w dst src base disp imm cc ho
 rw [hm] at c0
 have c1 := @of_any_ok op ho
 rw [eq_of_beq h] at c1
 generalize g3 : codeM op = r2 at c1
 generalize g5 : numM op = r4 at c1
 rcases bft (needM (w == 64) 0 dst false) with h6 | h6
 ·have c7 := @rex_yes_ok 0 dst (by decide) (by decide) d0 d1 (w == 64) false h6
  generalize g9 : rexB (w == 64) 0 dst = r8 at c7
  have c10 := @two_ok r4 dst (by (simp only [sl2] at *; omega)) (by (simp only [sl2] at *; omega)) d0 d1
  generalize g12 : regsM r4 dst = r11 at c10
  exact (o21 (d := .tup [.lst (.fresh 1) 1 [.int .u8 r8, .int .u8 r2, .int .u8 r11, .int .u8 (IntKind.wrap IntKind.u8 imm)], .int .i64 0]) [.ret _ _ _ c0, tF, .ret _ _ _ c1, tF, tF, tF, tF, tT, .ret _ _ _ c7, .ret _ _ _ c10, .inl, .go 64, tT, tT, .get ([.lst .tight 1 [.int .u8 r8], .lst .tight 1 [.int .u8 r2], .lst .tight 1 [.int .u8 r11], .lst .tight 1 [.int .u8 (IntKind.wrap IntKind.u8 imm)]]) 0 _ rfl, .len 1 2147483648 (by decide), tT, tT, .get ([.lst .tight 1 [.int .u8 r8], .lst .tight 1 [.int .u8 r2], .lst .tight 1 [.int .u8 r11], .lst .tight 1 [.int .u8 (IntKind.wrap IntKind.u8 imm)]]) 1 _ rfl, .len 2 2147483648 (by decide), tT, tT, .get ([.lst .tight 1 [.int .u8 r8], .lst .tight 1 [.int .u8 r2], .lst .tight 1 [.int .u8 r11], .lst .tight 1 [.int .u8 (IntKind.wrap IntKind.u8 imm)]]) 2 _ rfl, .len 3 2147483648 (by decide), tT, tT, .get ([.lst .tight 1 [.int .u8 r8], .lst .tight 1 [.int .u8 r2], .lst .tight 1 [.int .u8 r11], .lst .tight 1 [.int .u8 (IntKind.wrap IntKind.u8 imm)]]) 3 _ rfl, .len 4 2147483648 (by decide), tF] (by kernel_rfl)).to (by (try rw [or184 d0 d1]); (subst_vars; (try simp only [beq_dec] at *); (try simp only [beq_iff_eq] at h); (try simp only [decide_eq_true_eq, decide_eq_false_iff_not] at *); simp_all [wk, wkL, wkO, bytesM, bD, rexM, memM, fourM, w_u8]; done))
 have c13 := @rex_no_ok 0 dst (by decide) (by decide) d0 d1 (w == 64) false h6
 have c14 := @two_ok r4 dst (by (simp only [sl2] at *; omega)) (by (simp only [sl2] at *; omega)) d0 d1
 generalize g16 : regsM r4 dst = r15 at c14
 exact (o21 (d := .tup [.lst (.fresh 1) 1 [.int .u8 r2, .int .u8 r15, .int .u8 (IntKind.wrap IntKind.u8 imm)], .int .i64 0]) [.ret _ _ _ c0, tF, .ret _ _ _ c1, tF, tF, tF, tF, tT, .ret _ _ _ c13, .ret _ _ _ c14, .inl, .go 64, tT, tT, .get ([.lst .tight 1 [], .lst .tight 1 [.int .u8 r2], .lst .tight 1 [.int .u8 r15], .lst .tight 1 [.int .u8 (IntKind.wrap IntKind.u8 imm)]]) 0 _ rfl, .len 0 2147483648 (by decide), tT, tT, .get ([.lst .tight 1 [], .lst .tight 1 [.int .u8 r2], .lst .tight 1 [.int .u8 r15], .lst .tight 1 [.int .u8 (IntKind.wrap IntKind.u8 imm)]]) 1 _ rfl, .len 1 2147483648 (by decide), tT, tT, .get ([.lst .tight 1 [], .lst .tight 1 [.int .u8 r2], .lst .tight 1 [.int .u8 r15], .lst .tight 1 [.int .u8 (IntKind.wrap IntKind.u8 imm)]]) 2 _ rfl, .len 2 2147483648 (by decide), tT, tT, .get ([.lst .tight 1 [], .lst .tight 1 [.int .u8 r2], .lst .tight 1 [.int .u8 r15], .lst .tight 1 [.int .u8 (IntKind.wrap IntKind.u8 imm)]]) 3 _ rfl, .len 3 2147483648 (by decide), tF] (by kernel_rfl)).to (by (try rw [or184 d0 d1]); (subst_vars; (try simp only [beq_dec] at *); (try simp only [beq_iff_eq] at h); (try simp only [decide_eq_true_eq, decide_eq_false_iff_not] at *); simp_all [wk, wkL, wkO, bytesM, bD, rexM, memM, fourM, w_u8]; done))
theorem bytes_3_ok (op w dst src base disp imm cc : Int) (ho : op ≤ 127) (d0 : 0 ≤ dst) (d1 : dst ≤ 15) (s0 : 0 ≤ src) (s1 : src ≤ 15) (b0 : 0 ≤ base) (b1 : base ≤ 15) (p0 : -2147483648 ≤ disp) (p1 : disp ≤ 2147483647) (i0 : -2147483648 ≤ imm) (i1 : imm ≤ 2147483647) (c0 : 0 ≤ cc) (c1 : cc ≤ 15) (n0 : 0 ≤ numM op) (n1 : numM op ≤ 7) (h : (shapeM op == 3) = true) (hin : decide (0 ≤ op ∧ op ≤ 31) = true) (hw : w = 32 ∨ w = 64) (hm : mayX op w dst src base disp imm cc = true) : Ret Try.prog 21 ([xD op w dst src base disp imm cc]) (.tup [.lst .no 1 (bD (bytesM op w dst src base disp imm cc)), .int .i64 0]) := by
 have c0 := @mayX_ok op w dst src base disp imm cc ho
 rw [hm] at c0
 have c1 := @of_any_ok op ho
 rw [eq_of_beq h] at c1
 generalize g3 : codeM op = r2 at c1
 generalize g5 : numM op = r4 at c1
 let E1 : EL := [.ret _ _ _ c0, tF, .ret _ _ _ c1, tF, tF, tF, tT]
 by_cases h6 : op = 1
 ·subst h6
  by_cases h7 : w = 64
  ·subst h7
   have c8 := @rex_yes_ok 0 dst n0 (by decide) d0 d1 true false (rfl : true = true)
   generalize g10 : rexB true 0 dst = r9 at c8
   have c11 := @two_ok r4 dst (by (simp only [sl2] at *; omega)) (by (simp only [sl2] at *; omega)) d0 d1
   generalize g13 : regsM r4 dst = r12 at c11
   have c14 := @four_ok imm
   exact (o21 (d := .tup [.lst (.fresh 1) 1 [.int .u8 r9, .int .u8 r2, .int .u8 r12, .int .u8 (imm % 256), .int .u8 (imm / 256 % 256), .int .u8 (imm / 65536 % 256), .int .u8 (imm / 16777216 % 256)], .int .i64 0]) (E1 ++ [tT, tT, tT, tF, .ret _ _ _ c8, .ret _ _ _ c11, .ret _ _ _ c14, .inl, .go 64, tT, tT, .get ([.lst .tight 1 [.int .u8 r9], .lst .tight 1 [.int .u8 r2], .lst .tight 1 [.int .u8 r12], .lst .no 1 [.int .u8 (imm % 256), .int .u8 (imm / 256 % 256), .int .u8 (imm / 65536 % 256), .int .u8 (imm / 16777216 % 256)]]) 0 _ rfl, .len 1 2147483648 (by decide), tT, tT, .get ([.lst .tight 1 [.int .u8 r9], .lst .tight 1 [.int .u8 r2], .lst .tight 1 [.int .u8 r12], .lst .no 1 [.int .u8 (imm % 256), .int .u8 (imm / 256 % 256), .int .u8 (imm / 65536 % 256), .int .u8 (imm / 16777216 % 256)]]) 1 _ rfl, .len 2 2147483648 (by decide), tT, tT, .get ([.lst .tight 1 [.int .u8 r9], .lst .tight 1 [.int .u8 r2], .lst .tight 1 [.int .u8 r12], .lst .no 1 [.int .u8 (imm % 256), .int .u8 (imm / 256 % 256), .int .u8 (imm / 65536 % 256), .int .u8 (imm / 16777216 % 256)]]) 2 _ rfl, .len 3 2147483648 (by decide), tT, tT, .get ([.lst .tight 1 [.int .u8 r9], .lst .tight 1 [.int .u8 r2], .lst .tight 1 [.int .u8 r12], .lst .no 1 [.int .u8 (imm % 256), .int .u8 (imm / 256 % 256), .int .u8 (imm / 65536 % 256), .int .u8 (imm / 16777216 % 256)]]) 3 _ rfl, .len 7 2147483648 (by decide), tF]) (by kernel_rfl)).to (by clear E1; (try rw [or184 d0 d1]); (subst_vars; (try simp only [beq_dec] at *); (try simp only [beq_iff_eq] at h); (try simp only [decide_eq_true_eq, decide_eq_false_iff_not] at *); simp_all [wk, wkL, wkO, bytesM, bD, rexM, memM, fourM, w_u8, needM]; done))
  rcases bft (needM false 0 dst false) with h15 | h15
  ·have c16 := @rex_yes_ok 0 dst n0 (by decide) d0 d1 false false h15
   generalize g18 : rexB false 0 dst = r17 at c16
   have c19 := @four_ok imm
   exact (o21 (d := .tup [.lst (.fresh 1) 1 [.int .u8 r17, .int .u8 (IntKind.wrap IntKind.u8 (↑(BitVec.toNat (BitVec.ofInt (8 : Nat) 184 ||| BitVec.ofInt (8 : Nat) (IntKind.wrap IntKind.u8 (IntKind.wrap IntKind.i8 (↑(BitVec.toNat (BitVec.ofInt (8 : Nat) dst &&& BitVec.ofInt (8 : Nat) 7)) : Int))))) : Int)), .int .u8 (imm % 256), .int .u8 (imm / 256 % 256), .int .u8 (imm / 65536 % 256), .int .u8 (imm / 16777216 % 256)], .int .i64 0]) (E1 ++ [tT, tT, tT, tC (nt (neOf h7)), .ret _ _ _ c16, .ret _ _ _ c19, .inl, .go 64, tT, tT, .get ([.lst .tight 1 [.int .u8 r17], .lst .tight 1 [.int .u8 (IntKind.wrap IntKind.u8 (↑(BitVec.toNat (BitVec.ofInt (8 : Nat) 184 ||| BitVec.ofInt (8 : Nat) (IntKind.wrap IntKind.u8 (IntKind.wrap IntKind.i8 (↑(BitVec.toNat (BitVec.ofInt (8 : Nat) dst &&& BitVec.ofInt (8 : Nat) 7)) : Int))))) : Int))], .lst .no 1 [.int .u8 (imm % 256), .int .u8 (imm / 256 % 256), .int .u8 (imm / 65536 % 256), .int .u8 (imm / 16777216 % 256)]]) 0 _ rfl, .len 1 2147483648 (by decide), tT, tT, .get ([.lst .tight 1 [.int .u8 r17], .lst .tight 1 [.int .u8 (IntKind.wrap IntKind.u8 (↑(BitVec.toNat (BitVec.ofInt (8 : Nat) 184 ||| BitVec.ofInt (8 : Nat) (IntKind.wrap IntKind.u8 (IntKind.wrap IntKind.i8 (↑(BitVec.toNat (BitVec.ofInt (8 : Nat) dst &&& BitVec.ofInt (8 : Nat) 7)) : Int))))) : Int))], .lst .no 1 [.int .u8 (imm % 256), .int .u8 (imm / 256 % 256), .int .u8 (imm / 65536 % 256), .int .u8 (imm / 16777216 % 256)]]) 1 _ rfl, .len 2 2147483648 (by decide), tT, tT, .get ([.lst .tight 1 [.int .u8 r17], .lst .tight 1 [.int .u8 (IntKind.wrap IntKind.u8 (↑(BitVec.toNat (BitVec.ofInt (8 : Nat) 184 ||| BitVec.ofInt (8 : Nat) (IntKind.wrap IntKind.u8 (IntKind.wrap IntKind.i8 (↑(BitVec.toNat (BitVec.ofInt (8 : Nat) dst &&& BitVec.ofInt (8 : Nat) 7)) : Int))))) : Int))], .lst .no 1 [.int .u8 (imm % 256), .int .u8 (imm / 256 % 256), .int .u8 (imm / 65536 % 256), .int .u8 (imm / 16777216 % 256)]]) 2 _ rfl, .len 6 2147483648 (by decide), tF]) (by kernel_rfl)).to (by clear E1; (try rw [or184 d0 d1]); (subst_vars; (try simp only [beq_dec] at *); (try simp only [beq_iff_eq] at h); (try simp only [decide_eq_true_eq, decide_eq_false_iff_not] at *); simp_all [wk, wkL, wkO, bytesM, bD, rexM, memM, fourM, w_u8]; done))
  have c20 := @rex_no_ok 0 dst n0 (by decide) d0 d1 false false h15
  have c21 := @four_ok imm
  exact (o21 (d := .tup [.lst (.fresh 1) 1 [.int .u8 (IntKind.wrap IntKind.u8 (↑(BitVec.toNat (BitVec.ofInt (8 : Nat) 184 ||| BitVec.ofInt (8 : Nat) (IntKind.wrap IntKind.u8 (IntKind.wrap IntKind.i8 (↑(BitVec.toNat (BitVec.ofInt (8 : Nat) dst &&& BitVec.ofInt (8 : Nat) 7)) : Int))))) : Int)), .int .u8 (imm % 256), .int .u8 (imm / 256 % 256), .int .u8 (imm / 65536 % 256), .int .u8 (imm / 16777216 % 256)], .int .i64 0]) (E1 ++ [tT, tT, tT, tC (nt (neOf h7)), .ret _ _ _ c20, .ret _ _ _ c21, .inl, .go 64, tT, tT, .get ([.lst .tight 1 [], .lst .tight 1 [.int .u8 (IntKind.wrap IntKind.u8 (↑(BitVec.toNat (BitVec.ofInt (8 : Nat) 184 ||| BitVec.ofInt (8 : Nat) (IntKind.wrap IntKind.u8 (IntKind.wrap IntKind.i8 (↑(BitVec.toNat (BitVec.ofInt (8 : Nat) dst &&& BitVec.ofInt (8 : Nat) 7)) : Int))))) : Int))], .lst .no 1 [.int .u8 (imm % 256), .int .u8 (imm / 256 % 256), .int .u8 (imm / 65536 % 256), .int .u8 (imm / 16777216 % 256)]]) 0 _ rfl, .len 0 2147483648 (by decide), tT, tT, .get ([.lst .tight 1 [], .lst .tight 1 [.int .u8 (IntKind.wrap IntKind.u8 (↑(BitVec.toNat (BitVec.ofInt (8 : Nat) 184 ||| BitVec.ofInt (8 : Nat) (IntKind.wrap IntKind.u8 (IntKind.wrap IntKind.i8 (↑(BitVec.toNat (BitVec.ofInt (8 : Nat) dst &&& BitVec.ofInt (8 : Nat) 7)) : Int))))) : Int))], .lst .no 1 [.int .u8 (imm % 256), .int .u8 (imm / 256 % 256), .int .u8 (imm / 65536 % 256), .int .u8 (imm / 16777216 % 256)]]) 1 _ rfl, .len 1 2147483648 (by decide), tT, tT, .get ([.lst .tight 1 [], .lst .tight 1 [.int .u8 (IntKind.wrap IntKind.u8 (↑(BitVec.toNat (BitVec.ofInt (8 : Nat) 184 ||| BitVec.ofInt (8 : Nat) (IntKind.wrap IntKind.u8 (IntKind.wrap IntKind.i8 (↑(BitVec.toNat (BitVec.ofInt (8 : Nat) dst &&& BitVec.ofInt (8 : Nat) 7)) : Int))))) : Int))], .lst .no 1 [.int .u8 (imm % 256), .int .u8 (imm / 256 % 256), .int .u8 (imm / 65536 % 256), .int .u8 (imm / 16777216 % 256)]]) 2 _ rfl, .len 5 2147483648 (by decide), tF]) (by kernel_rfl)).to (by clear E1; (try rw [or184 d0 d1]); (subst_vars; (try simp only [beq_dec] at *); (try simp only [beq_iff_eq] at h); (try simp only [decide_eq_true_eq, decide_eq_false_iff_not] at *); simp_all [wk, wkL, wkO, bytesM, bD, rexM, memM, fourM, w_u8]; done))
 rcases bft (needM (w == 64) 0 dst false) with h22 | h22
 ·have c23 := @rex_yes_ok 0 dst (by decide) (by decide) d0 d1 (w == 64) false h22
  generalize g25 : rexB (w == 64) 0 dst = r24 at c23
  have c26 := @two_ok r4 dst (by (simp only [sl2] at *; omega)) (by (simp only [sl2] at *; omega)) d0 d1
  generalize g28 : regsM r4 dst = r27 at c26
  have c29 := @four_ok imm
  exact (o21 (d := .tup [.lst (.fresh 1) 1 [.int .u8 r24, .int .u8 r2, .int .u8 r27, .int .u8 (imm % 256), .int .u8 (imm / 256 % 256), .int .u8 (imm / 65536 % 256), .int .u8 (imm / 16777216 % 256)], .int .i64 0]) (E1 ++ [tC (eT (neOf h6)), tC (eT (neOf h6)), tC (neOf h6), tF, .ret _ _ _ c23, .ret _ _ _ c26, .ret _ _ _ c29, .inl, .go 64, tT, tT, .get ([.lst .tight 1 [.int .u8 r24], .lst .tight 1 [.int .u8 r2], .lst .tight 1 [.int .u8 r27], .lst .no 1 [.int .u8 (imm % 256), .int .u8 (imm / 256 % 256), .int .u8 (imm / 65536 % 256), .int .u8 (imm / 16777216 % 256)]]) 0 _ rfl, .len 1 2147483648 (by decide), tT, tT, .get ([.lst .tight 1 [.int .u8 r24], .lst .tight 1 [.int .u8 r2], .lst .tight 1 [.int .u8 r27], .lst .no 1 [.int .u8 (imm % 256), .int .u8 (imm / 256 % 256), .int .u8 (imm / 65536 % 256), .int .u8 (imm / 16777216 % 256)]]) 1 _ rfl, .len 2 2147483648 (by decide), tT, tT, .get ([.lst .tight 1 [.int .u8 r24], .lst .tight 1 [.int .u8 r2], .lst .tight 1 [.int .u8 r27], .lst .no 1 [.int .u8 (imm % 256), .int .u8 (imm / 256 % 256), .int .u8 (imm / 65536 % 256), .int .u8 (imm / 16777216 % 256)]]) 2 _ rfl, .len 3 2147483648 (by decide), tT, tT, .get ([.lst .tight 1 [.int .u8 r24], .lst .tight 1 [.int .u8 r2], .lst .tight 1 [.int .u8 r27], .lst .no 1 [.int .u8 (imm % 256), .int .u8 (imm / 256 % 256), .int .u8 (imm / 65536 % 256), .int .u8 (imm / 16777216 % 256)]]) 3 _ rfl, .len 7 2147483648 (by decide), tF]) (by kernel_rfl)).to (by clear E1; (try rw [or184 d0 d1]); (subst_vars; (try simp only [beq_dec] at *); (try simp only [beq_iff_eq] at h); (try simp only [decide_eq_true_eq, decide_eq_false_iff_not] at *); simp_all [wk, wkL, wkO, bytesM, bD, rexM, memM, fourM, w_u8]; done))
 have c30 := @rex_no_ok 0 dst (by decide) (by decide) d0 d1 (w == 64) false h22
 have c31 := @two_ok r4 dst (by (simp only [sl2] at *; omega)) (by (simp only [sl2] at *; omega)) d0 d1
 generalize g33 : regsM r4 dst = r32 at c31
 have c34 := @four_ok imm
 exact (o21 (d := .tup [.lst (.fresh 1) 1 [.int .u8 r2, .int .u8 r32, .int .u8 (imm % 256), .int .u8 (imm / 256 % 256), .int .u8 (imm / 65536 % 256), .int .u8 (imm / 16777216 % 256)], .int .i64 0]) (E1 ++ [tC (eT (neOf h6)), tC (eT (neOf h6)), tC (neOf h6), tF, .ret _ _ _ c30, .ret _ _ _ c31, .ret _ _ _ c34, .inl, .go 64, tT, tT, .get ([.lst .tight 1 [], .lst .tight 1 [.int .u8 r2], .lst .tight 1 [.int .u8 r32], .lst .no 1 [.int .u8 (imm % 256), .int .u8 (imm / 256 % 256), .int .u8 (imm / 65536 % 256), .int .u8 (imm / 16777216 % 256)]]) 0 _ rfl, .len 0 2147483648 (by decide), tT, tT, .get ([.lst .tight 1 [], .lst .tight 1 [.int .u8 r2], .lst .tight 1 [.int .u8 r32], .lst .no 1 [.int .u8 (imm % 256), .int .u8 (imm / 256 % 256), .int .u8 (imm / 65536 % 256), .int .u8 (imm / 16777216 % 256)]]) 1 _ rfl, .len 1 2147483648 (by decide), tT, tT, .get ([.lst .tight 1 [], .lst .tight 1 [.int .u8 r2], .lst .tight 1 [.int .u8 r32], .lst .no 1 [.int .u8 (imm % 256), .int .u8 (imm / 256 % 256), .int .u8 (imm / 65536 % 256), .int .u8 (imm / 16777216 % 256)]]) 2 _ rfl, .len 2 2147483648 (by decide), tT, tT, .get ([.lst .tight 1 [], .lst .tight 1 [.int .u8 r2], .lst .tight 1 [.int .u8 r32], .lst .no 1 [.int .u8 (imm % 256), .int .u8 (imm / 256 % 256), .int .u8 (imm / 65536 % 256), .int .u8 (imm / 16777216 % 256)]]) 3 _ rfl, .len 6 2147483648 (by decide), tF]) (by kernel_rfl)).to (by clear E1; (try rw [or184 d0 d1]); (subst_vars; (try simp only [beq_dec] at *); (try simp only [beq_iff_eq] at h); (try simp only [decide_eq_true_eq, decide_eq_false_iff_not] at *); simp_all [wk, wkL, wkO, bytesM, bD, rexM, memM, fourM, w_u8]; done))
theorem bytesO_25_ok (w dst src base disp imm cc : Int) (d0 : 0 ≤ dst) (d1 : dst ≤ 15) (s0 : 0 ≤ src) (s1 : src ≤ 15) (b0 : 0 ≤ base) (b1 : base ≤ 15) (p0 : -2147483648 ≤ disp) (p1 : disp ≤ 2147483647) (i0 : -2147483648 ≤ imm) (i1 : imm ≤ 2147483647) (c0 : 0 ≤ cc) (c1 : cc ≤ 15) (hm : mayX 25 w dst src base disp imm cc = true) : Ret Try.prog 21 ([xD 25 w dst src base disp imm cc]) (.tup [.lst .no 1 (bD (bytesM 25 w dst src base disp imm cc)), .int .i64 0]) := by
 have c0 := @mayX_ok 25 w dst src base disp imm cc (by decide)
 rw [hm] at c0
 have c1 := @of_any_ok 25 (by decide)
 rcases bft (needM (w == 64) dst src false) with h2 | h2
 ·have c3 := @rex_yes_ok dst src d0 d1 s0 s1 (w == 64) false h2
  generalize g5 : rexB (w == 64) dst src = r4 at c3
  have c6 := @two_ok dst src d0 d1 s0 s1
  generalize g8 : regsM dst src = r7 at c6
  exact (o21 (d := .tup [.lst (.fresh 1) 1 [.int .u8 r4, .int .u8 15, .int .u8 (IntKind.wrap IntKind.u8 (64 + IntKind.wrap IntKind.u8 cc)), .int .u8 r7], .int .i64 0]) [.ret _ _ _ c0, tF, .ret _ _ _ c1, tF, tF, tT, .ret _ _ _ c3, .ret _ _ _ c6, .inl, .go 64, tT, tT, .get ([.lst .tight 1 [.int .u8 r4], .lst .tight 1 [.int .u8 15, .int .u8 (IntKind.wrap IntKind.u8 (64 + IntKind.wrap IntKind.u8 cc))], .lst .tight 1 [.int .u8 r7]]) 0 _ rfl, .len 1 2147483648 (by decide), tT, tT, .get ([.lst .tight 1 [.int .u8 r4], .lst .tight 1 [.int .u8 15, .int .u8 (IntKind.wrap IntKind.u8 (64 + IntKind.wrap IntKind.u8 cc))], .lst .tight 1 [.int .u8 r7]]) 1 _ rfl, .len 3 2147483648 (by decide), tT, tT, .get ([.lst .tight 1 [.int .u8 r4], .lst .tight 1 [.int .u8 15, .int .u8 (IntKind.wrap IntKind.u8 (64 + IntKind.wrap IntKind.u8 cc))], .lst .tight 1 [.int .u8 r7]]) 2 _ rfl, .len 4 2147483648 (by decide), tF] (by kernel_rfl)).to (by (try rw [or184 d0 d1]); (subst_vars; (try simp only [beq_dec] at *); (try simp only [beq_iff_eq] at h); (try simp only [decide_eq_true_eq, decide_eq_false_iff_not] at *); simp_all [wk, wkL, wkO, bytesM, bD, rexM, memM, fourM, w_u8, needM, codeM, numM, shapeM]; omega))
 have c9 := @rex_no_ok dst src d0 d1 s0 s1 (w == 64) false h2
 have c10 := @two_ok dst src d0 d1 s0 s1
 generalize g12 : regsM dst src = r11 at c10
 exact (o21 (d := .tup [.lst (.fresh 1) 1 [.int .u8 15, .int .u8 (IntKind.wrap IntKind.u8 (64 + IntKind.wrap IntKind.u8 cc)), .int .u8 r11], .int .i64 0]) [.ret _ _ _ c0, tF, .ret _ _ _ c1, tF, tF, tT, .ret _ _ _ c9, .ret _ _ _ c10, .inl, .go 64, tT, tT, .get ([.lst .tight 1 [], .lst .tight 1 [.int .u8 15, .int .u8 (IntKind.wrap IntKind.u8 (64 + IntKind.wrap IntKind.u8 cc))], .lst .tight 1 [.int .u8 r11]]) 0 _ rfl, .len 0 2147483648 (by decide), tT, tT, .get ([.lst .tight 1 [], .lst .tight 1 [.int .u8 15, .int .u8 (IntKind.wrap IntKind.u8 (64 + IntKind.wrap IntKind.u8 cc))], .lst .tight 1 [.int .u8 r11]]) 1 _ rfl, .len 2 2147483648 (by decide), tT, tT, .get ([.lst .tight 1 [], .lst .tight 1 [.int .u8 15, .int .u8 (IntKind.wrap IntKind.u8 (64 + IntKind.wrap IntKind.u8 cc))], .lst .tight 1 [.int .u8 r11]]) 2 _ rfl, .len 3 2147483648 (by decide), tF] (by kernel_rfl)).to (by (try rw [or184 d0 d1]); (subst_vars; (try simp only [beq_dec] at *); (try simp only [beq_iff_eq] at h); (try simp only [decide_eq_true_eq, decide_eq_false_iff_not] at *); simp_all [wk, wkL, wkO, bytesM, bD, rexM, memM, fourM, w_u8, codeM, numM, shapeM]; omega))
end Go.Proofs.Ytcngafhpodeenaa
