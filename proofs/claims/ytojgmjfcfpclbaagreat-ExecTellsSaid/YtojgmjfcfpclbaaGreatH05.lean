/- Contracts and plain laws that a statement's proof leans on (texts merged: XOf, ZR0, ZR1, ZR2, ZR3, ZR4, ZR4A, XOfA). -/
import Derived.Test.YtojgmjfcfpclbaaGreatH04
set_option linter.unusedVariables false
set_option linter.unusedSimpArgs false
namespace Go.Proofs.YtojgmjfcfpclbaaGreat
open Go Go.Ev
set_option maxRecDepth 100000
set_option maxHeartbeats 8000000
def tab_XOf_0 : List D := [.int .i8 1, .int .u8 137, .int .i8 0, .int .i8 3, .int .u8 199, .int .i8 0, .int .i8 1, .int .u8 1, .int .i8 0, .int .i8 1, .int .u8 9, .int .i8 0, .int .i8 1, .int .u8 33, .int .i8 0, .int .i8 1, .int .u8 41, .int .i8 0, .int .i8 1, .int .u8 49, .int .i8 0, .int .i8 1, .int .u8 57, .int .i8 0, .int .i8 1, .int .u8 133, .int .i8 0, .int .i8 3, .int .u8 129, .int .i8 0, .int .i8 3, .int .u8 129, .int .i8 1, .int .i8 3, .int .u8 129, .int .i8 4, .int .i8 3, .int .u8 129, .int .i8 5, .int .i8 3, .int .u8 129, .int .i8 6, .int .i8 3, .int .u8 129, .int .i8 7, .int .i8 3, .int .u8 247, .int .i8 0, .int .i8 2, .int .u8 175, .int .i8 0, .int .i8 4, .int .u8 193, .int .i8 4, .int .i8 4, .int .u8 193, .int .i8 5, .int .i8 4, .int .u8 193, .int .i8 7, .int .i8 5, .int .u8 211, .int .i8 4, .int .i8 5, .int .u8 211, .int .i8 5, .int .i8 5, .int .u8 211, .int .i8 7, .int .i8 5, .int .u8 247, .int .i8 3, .int .i8 5, .int .u8 247, .int .i8 6, .int .i8 6, .int .u8 64, .int .i8 0, .int .i8 7, .int .u8 139, .int .i8 0, .int .i8 8, .int .u8 137, .int .i8 0, .int .i8 9, .int .u8 233, .int .i8 0, .int .i8 10, .int .u8 128, .int .i8 0, .int .i8 11, .int .u8 195, .int .i8 0, .int .i8 11, .int .u8 5, .int .i8 0]
theorem of_0_ok  : Ret Tryz.prog 96 ([.int .i8 0]) (.tup [.agg [.int .i8 (shapeM 0), .int .u8 (codeM 0), .int .i8 (numM 0)], .bool true]) := by
 exact (o96 (d := .tup [.agg [.int .i8 1, .int .u8 137, .int .i8 0], .bool true]) [.inl, tT, tT, tT, tF, tF, tT, .getA tab_XOf_0 0 3 ([.int .i8 1, .int .u8 137, .int .i8 0]) ⟨rfl, by decide⟩] (by kernel_rfl)).to (by simp [wk, wkL]; decide)
theorem of_1_ok  : Ret Tryz.prog 96 ([.int .i8 1]) (.tup [.agg [.int .i8 (shapeM 1), .int .u8 (codeM 1), .int .i8 (numM 1)], .bool true]) := by
 exact (o96 (d := .tup [.agg [.int .i8 3, .int .u8 199, .int .i8 0], .bool true]) [.inl, tT, tT, tT, tF, tF, tT, .getA tab_XOf_0 3 3 ([.int .i8 3, .int .u8 199, .int .i8 0]) ⟨rfl, by decide⟩] (by kernel_rfl)).to (by simp [wk, wkL]; decide)
theorem of_2_ok  : Ret Tryz.prog 96 ([.int .i8 2]) (.tup [.agg [.int .i8 (shapeM 2), .int .u8 (codeM 2), .int .i8 (numM 2)], .bool true]) := by
 exact (o96 (d := .tup [.agg [.int .i8 1, .int .u8 1, .int .i8 0], .bool true]) [.inl, tT, tT, tT, tF, tF, tT, .getA tab_XOf_0 6 3 ([.int .i8 1, .int .u8 1, .int .i8 0]) ⟨rfl, by decide⟩] (by kernel_rfl)).to (by simp [wk, wkL]; decide)
theorem of_3_ok  : Ret Tryz.prog 96 ([.int .i8 3]) (.tup [.agg [.int .i8 (shapeM 3), .int .u8 (codeM 3), .int .i8 (numM 3)], .bool true]) := by
 exact (o96 (d := .tup [.agg [.int .i8 1, .int .u8 9, .int .i8 0], .bool true]) [.inl, tT, tT, tT, tF, tF, tT, .getA tab_XOf_0 9 3 ([.int .i8 1, .int .u8 9, .int .i8 0]) ⟨rfl, by decide⟩] (by kernel_rfl)).to (by simp [wk, wkL]; decide)
theorem of_4_ok  : Ret Tryz.prog 96 ([.int .i8 4]) (.tup [.agg [.int .i8 (shapeM 4), .int .u8 (codeM 4), .int .i8 (numM 4)], .bool true]) := by
 exact (o96 (d := .tup [.agg [.int .i8 1, .int .u8 33, .int .i8 0], .bool true]) [.inl, tT, tT, tT, tF, tF, tT, .getA tab_XOf_0 12 3 ([.int .i8 1, .int .u8 33, .int .i8 0]) ⟨rfl, by decide⟩] (by kernel_rfl)).to (by simp [wk, wkL]; decide)
theorem of_5_ok  : Ret Tryz.prog 96 ([.int .i8 5]) (.tup [.agg [.int .i8 (shapeM 5), .int .u8 (codeM 5), .int .i8 (numM 5)], .bool true]) := by
 exact (o96 (d := .tup [.agg [.int .i8 1, .int .u8 41, .int .i8 0], .bool true]) [.inl, tT, tT, tT, tF, tF, tT, .getA tab_XOf_0 15 3 ([.int .i8 1, .int .u8 41, .int .i8 0]) ⟨rfl, by decide⟩] (by kernel_rfl)).to (by simp [wk, wkL]; decide)
theorem of_6_ok  : Ret Tryz.prog 96 ([.int .i8 6]) (.tup [.agg [.int .i8 (shapeM 6), .int .u8 (codeM 6), .int .i8 (numM 6)], .bool true]) := by
 exact (o96 (d := .tup [.agg [.int .i8 1, .int .u8 49, .int .i8 0], .bool true]) [.inl, tT, tT, tT, tF, tF, tT, .getA tab_XOf_0 18 3 ([.int .i8 1, .int .u8 49, .int .i8 0]) ⟨rfl, by decide⟩] (by kernel_rfl)).to (by simp [wk, wkL]; decide)
theorem of_7_ok  : Ret Tryz.prog 96 ([.int .i8 7]) (.tup [.agg [.int .i8 (shapeM 7), .int .u8 (codeM 7), .int .i8 (numM 7)], .bool true]) := by
 exact (o96 (d := .tup [.agg [.int .i8 1, .int .u8 57, .int .i8 0], .bool true]) [.inl, tT, tT, tT, tF, tF, tT, .getA tab_XOf_0 21 3 ([.int .i8 1, .int .u8 57, .int .i8 0]) ⟨rfl, by decide⟩] (by kernel_rfl)).to (by simp [wk, wkL]; decide)
theorem of_8_ok  : Ret Tryz.prog 96 ([.int .i8 8]) (.tup [.agg [.int .i8 (shapeM 8), .int .u8 (codeM 8), .int .i8 (numM 8)], .bool true]) := by
 exact (o96 (d := .tup [.agg [.int .i8 1, .int .u8 133, .int .i8 0], .bool true]) [.inl, tT, tT, tT, tF, tF, tT, .getA tab_XOf_0 24 3 ([.int .i8 1, .int .u8 133, .int .i8 0]) ⟨rfl, by decide⟩] (by kernel_rfl)).to (by simp [wk, wkL]; decide)
theorem of_9_ok  : Ret Tryz.prog 96 ([.int .i8 9]) (.tup [.agg [.int .i8 (shapeM 9), .int .u8 (codeM 9), .int .i8 (numM 9)], .bool true]) := by
 exact (o96 (d := .tup [.agg [.int .i8 3, .int .u8 129, .int .i8 0], .bool true]) [.inl, tT, tT, tT, tF, tF, tT, .getA tab_XOf_0 27 3 ([.int .i8 3, .int .u8 129, .int .i8 0]) ⟨rfl, by decide⟩] (by kernel_rfl)).to (by simp [wk, wkL]; decide)
theorem of_10_ok  : Ret Tryz.prog 96 ([.int .i8 10]) (.tup [.agg [.int .i8 (shapeM 10), .int .u8 (codeM 10), .int .i8 (numM 10)], .bool true]) := by
 exact (o96 (d := .tup [.agg [.int .i8 3, .int .u8 129, .int .i8 1], .bool true]) [.inl, tT, tT, tT, tF, tF, tT, .getA tab_XOf_0 30 3 ([.int .i8 3, .int .u8 129, .int .i8 1]) ⟨rfl, by decide⟩] (by kernel_rfl)).to (by simp [wk, wkL]; decide)
theorem of_11_ok  : Ret Tryz.prog 96 ([.int .i8 11]) (.tup [.agg [.int .i8 (shapeM 11), .int .u8 (codeM 11), .int .i8 (numM 11)], .bool true]) := by
 exact (o96 (d := .tup [.agg [.int .i8 3, .int .u8 129, .int .i8 4], .bool true]) [.inl, tT, tT, tT, tF, tF, tT, .getA tab_XOf_0 33 3 ([.int .i8 3, .int .u8 129, .int .i8 4]) ⟨rfl, by decide⟩] (by kernel_rfl)).to (by simp [wk, wkL]; decide)
theorem of_12_ok  : Ret Tryz.prog 96 ([.int .i8 12]) (.tup [.agg [.int .i8 (shapeM 12), .int .u8 (codeM 12), .int .i8 (numM 12)], .bool true]) := by
 exact (o96 (d := .tup [.agg [.int .i8 3, .int .u8 129, .int .i8 5], .bool true]) [.inl, tT, tT, tT, tF, tF, tT, .getA tab_XOf_0 36 3 ([.int .i8 3, .int .u8 129, .int .i8 5]) ⟨rfl, by decide⟩] (by kernel_rfl)).to (by simp [wk, wkL]; decide)
theorem of_13_ok  : Ret Tryz.prog 96 ([.int .i8 13]) (.tup [.agg [.int .i8 (shapeM 13), .int .u8 (codeM 13), .int .i8 (numM 13)], .bool true]) := by
 exact (o96 (d := .tup [.agg [.int .i8 3, .int .u8 129, .int .i8 6], .bool true]) [.inl, tT, tT, tT, tF, tF, tT, .getA tab_XOf_0 39 3 ([.int .i8 3, .int .u8 129, .int .i8 6]) ⟨rfl, by decide⟩] (by kernel_rfl)).to (by simp [wk, wkL]; decide)
theorem of_14_ok  : Ret Tryz.prog 96 ([.int .i8 14]) (.tup [.agg [.int .i8 (shapeM 14), .int .u8 (codeM 14), .int .i8 (numM 14)], .bool true]) := by
 exact (o96 (d := .tup [.agg [.int .i8 3, .int .u8 129, .int .i8 7], .bool true]) [.inl, tT, tT, tT, tF, tF, tT, .getA tab_XOf_0 42 3 ([.int .i8 3, .int .u8 129, .int .i8 7]) ⟨rfl, by decide⟩] (by kernel_rfl)).to (by simp [wk, wkL]; decide)
theorem of_15_ok  : Ret Tryz.prog 96 ([.int .i8 15]) (.tup [.agg [.int .i8 (shapeM 15), .int .u8 (codeM 15), .int .i8 (numM 15)], .bool true]) := by
 exact (o96 (d := .tup [.agg [.int .i8 3, .int .u8 247, .int .i8 0], .bool true]) [.inl, tT, tT, tT, tF, tF, tT, .getA tab_XOf_0 45 3 ([.int .i8 3, .int .u8 247, .int .i8 0]) ⟨rfl, by decide⟩] (by kernel_rfl)).to (by simp [wk, wkL]; decide)
theorem of_16_ok  : Ret Tryz.prog 96 ([.int .i8 16]) (.tup [.agg [.int .i8 (shapeM 16), .int .u8 (codeM 16), .int .i8 (numM 16)], .bool true]) := by
 exact (o96 (d := .tup [.agg [.int .i8 2, .int .u8 175, .int .i8 0], .bool true]) [.inl, tT, tT, tT, tF, tF, tT, .getA tab_XOf_0 48 3 ([.int .i8 2, .int .u8 175, .int .i8 0]) ⟨rfl, by decide⟩] (by kernel_rfl)).to (by simp [wk, wkL]; decide)
theorem of_17_ok  : Ret Tryz.prog 96 ([.int .i8 17]) (.tup [.agg [.int .i8 (shapeM 17), .int .u8 (codeM 17), .int .i8 (numM 17)], .bool true]) := by
 exact (o96 (d := .tup [.agg [.int .i8 4, .int .u8 193, .int .i8 4], .bool true]) [.inl, tT, tT, tT, tF, tF, tT, .getA tab_XOf_0 51 3 ([.int .i8 4, .int .u8 193, .int .i8 4]) ⟨rfl, by decide⟩] (by kernel_rfl)).to (by simp [wk, wkL]; decide)
theorem of_18_ok  : Ret Tryz.prog 96 ([.int .i8 18]) (.tup [.agg [.int .i8 (shapeM 18), .int .u8 (codeM 18), .int .i8 (numM 18)], .bool true]) := by
 exact (o96 (d := .tup [.agg [.int .i8 4, .int .u8 193, .int .i8 5], .bool true]) [.inl, tT, tT, tT, tF, tF, tT, .getA tab_XOf_0 54 3 ([.int .i8 4, .int .u8 193, .int .i8 5]) ⟨rfl, by decide⟩] (by kernel_rfl)).to (by simp [wk, wkL]; decide)
theorem of_19_ok  : Ret Tryz.prog 96 ([.int .i8 19]) (.tup [.agg [.int .i8 (shapeM 19), .int .u8 (codeM 19), .int .i8 (numM 19)], .bool true]) := by
 exact (o96 (d := .tup [.agg [.int .i8 4, .int .u8 193, .int .i8 7], .bool true]) [.inl, tT, tT, tT, tF, tF, tT, .getA tab_XOf_0 57 3 ([.int .i8 4, .int .u8 193, .int .i8 7]) ⟨rfl, by decide⟩] (by kernel_rfl)).to (by simp [wk, wkL]; decide)
theorem of_20_ok  : Ret Tryz.prog 96 ([.int .i8 20]) (.tup [.agg [.int .i8 (shapeM 20), .int .u8 (codeM 20), .int .i8 (numM 20)], .bool true]) := by
 exact (o96 (d := .tup [.agg [.int .i8 5, .int .u8 211, .int .i8 4], .bool true]) [.inl, tT, tT, tT, tF, tF, tT, .getA tab_XOf_0 60 3 ([.int .i8 5, .int .u8 211, .int .i8 4]) ⟨rfl, by decide⟩] (by kernel_rfl)).to (by simp [wk, wkL]; decide)
theorem of_21_ok  : Ret Tryz.prog 96 ([.int .i8 21]) (.tup [.agg [.int .i8 (shapeM 21), .int .u8 (codeM 21), .int .i8 (numM 21)], .bool true]) := by
 exact (o96 (d := .tup [.agg [.int .i8 5, .int .u8 211, .int .i8 5], .bool true]) [.inl, tT, tT, tT, tF, tF, tT, .getA tab_XOf_0 63 3 ([.int .i8 5, .int .u8 211, .int .i8 5]) ⟨rfl, by decide⟩] (by kernel_rfl)).to (by simp [wk, wkL]; decide)
theorem of_22_ok  : Ret Tryz.prog 96 ([.int .i8 22]) (.tup [.agg [.int .i8 (shapeM 22), .int .u8 (codeM 22), .int .i8 (numM 22)], .bool true]) := by
 exact (o96 (d := .tup [.agg [.int .i8 5, .int .u8 211, .int .i8 7], .bool true]) [.inl, tT, tT, tT, tF, tF, tT, .getA tab_XOf_0 66 3 ([.int .i8 5, .int .u8 211, .int .i8 7]) ⟨rfl, by decide⟩] (by kernel_rfl)).to (by simp [wk, wkL]; decide)
theorem of_23_ok  : Ret Tryz.prog 96 ([.int .i8 23]) (.tup [.agg [.int .i8 (shapeM 23), .int .u8 (codeM 23), .int .i8 (numM 23)], .bool true]) := by
 exact (o96 (d := .tup [.agg [.int .i8 5, .int .u8 247, .int .i8 3], .bool true]) [.inl, tT, tT, tT, tF, tF, tT, .getA tab_XOf_0 69 3 ([.int .i8 5, .int .u8 247, .int .i8 3]) ⟨rfl, by decide⟩] (by kernel_rfl)).to (by simp [wk, wkL]; decide)
theorem of_24_ok  : Ret Tryz.prog 96 ([.int .i8 24]) (.tup [.agg [.int .i8 (shapeM 24), .int .u8 (codeM 24), .int .i8 (numM 24)], .bool true]) := by
 exact (o96 (d := .tup [.agg [.int .i8 5, .int .u8 247, .int .i8 6], .bool true]) [.inl, tT, tT, tT, tF, tF, tT, .getA tab_XOf_0 72 3 ([.int .i8 5, .int .u8 247, .int .i8 6]) ⟨rfl, by decide⟩] (by kernel_rfl)).to (by simp [wk, wkL]; decide)
theorem of_25_ok  : Ret Tryz.prog 96 ([.int .i8 25]) (.tup [.agg [.int .i8 (shapeM 25), .int .u8 (codeM 25), .int .i8 (numM 25)], .bool true]) := by
 exact (o96 (d := .tup [.agg [.int .i8 6, .int .u8 64, .int .i8 0], .bool true]) [.inl, tT, tT, tT, tF, tF, tT, .getA tab_XOf_0 75 3 ([.int .i8 6, .int .u8 64, .int .i8 0]) ⟨rfl, by decide⟩] (by kernel_rfl)).to (by simp [wk, wkL]; decide)
theorem of_26_ok  : Ret Tryz.prog 96 ([.int .i8 26]) (.tup [.agg [.int .i8 (shapeM 26), .int .u8 (codeM 26), .int .i8 (numM 26)], .bool true]) := by
 exact (o96 (d := .tup [.agg [.int .i8 7, .int .u8 139, .int .i8 0], .bool true]) [.inl, tT, tT, tT, tF, tF, tT, .getA tab_XOf_0 78 3 ([.int .i8 7, .int .u8 139, .int .i8 0]) ⟨rfl, by decide⟩] (by kernel_rfl)).to (by simp [wk, wkL]; decide)
theorem of_27_ok  : Ret Tryz.prog 96 ([.int .i8 27]) (.tup [.agg [.int .i8 (shapeM 27), .int .u8 (codeM 27), .int .i8 (numM 27)], .bool true]) := by
 exact (o96 (d := .tup [.agg [.int .i8 8, .int .u8 137, .int .i8 0], .bool true]) [.inl, tT, tT, tT, tF, tF, tT, .getA tab_XOf_0 81 3 ([.int .i8 8, .int .u8 137, .int .i8 0]) ⟨rfl, by decide⟩] (by kernel_rfl)).to (by simp [wk, wkL]; decide)
theorem of_28_ok  : Ret Tryz.prog 96 ([.int .i8 28]) (.tup [.agg [.int .i8 (shapeM 28), .int .u8 (codeM 28), .int .i8 (numM 28)], .bool true]) := by
 exact (o96 (d := .tup [.agg [.int .i8 9, .int .u8 233, .int .i8 0], .bool true]) [.inl, tT, tT, tT, tF, tF, tT, .getA tab_XOf_0 84 3 ([.int .i8 9, .int .u8 233, .int .i8 0]) ⟨rfl, by decide⟩] (by kernel_rfl)).to (by simp [wk, wkL]; decide)
theorem of_29_ok  : Ret Tryz.prog 96 ([.int .i8 29]) (.tup [.agg [.int .i8 (shapeM 29), .int .u8 (codeM 29), .int .i8 (numM 29)], .bool true]) := by
 exact (o96 (d := .tup [.agg [.int .i8 10, .int .u8 128, .int .i8 0], .bool true]) [.inl, tT, tT, tT, tF, tF, tT, .getA tab_XOf_0 87 3 ([.int .i8 10, .int .u8 128, .int .i8 0]) ⟨rfl, by decide⟩] (by kernel_rfl)).to (by simp [wk, wkL]; decide)
theorem of_30_ok  : Ret Tryz.prog 96 ([.int .i8 30]) (.tup [.agg [.int .i8 (shapeM 30), .int .u8 (codeM 30), .int .i8 (numM 30)], .bool true]) := by
 exact (o96 (d := .tup [.agg [.int .i8 11, .int .u8 195, .int .i8 0], .bool true]) [.inl, tT, tT, tT, tF, tF, tT, .getA tab_XOf_0 90 3 ([.int .i8 11, .int .u8 195, .int .i8 0]) ⟨rfl, by decide⟩] (by kernel_rfl)).to (by simp [wk, wkL]; decide)
theorem of_31_ok  : Ret Tryz.prog 96 ([.int .i8 31]) (.tup [.agg [.int .i8 (shapeM 31), .int .u8 (codeM 31), .int .i8 (numM 31)], .bool true]) := by
 exact (o96 (d := .tup [.agg [.int .i8 11, .int .u8 5, .int .i8 0], .bool true]) [.inl, tT, tT, tT, tF, tF, tT, .getA tab_XOf_0 93 3 ([.int .i8 11, .int .u8 5, .int .i8 0]) ⟨rfl, by decide⟩] (by kernel_rfl)).to (by simp [wk, wkL]; decide)
theorem of_low_ok (op : Int) (h : op < 0) : Ret Tryz.prog 96 ([.int .i8 op]) (.tup [.agg [.int .i8 0, .int .u8 0, .int .i8 0], .bool false]) := by
 exact (o96 (d := .tup [.agg [.int .i8 0, .int .u8 0, .int .i8 0], .bool false]) ([.inl] ++ List.replicate 3 (tC (eF (decide_eq_true h))) ++ [tC (decide_eq_true h), tT]) (by kernel_rfl)).to (by simp [wk, wkL])
theorem of_high_ok (op : Int) (h : 32 ≤ op) (ho : op ≤ 127) : Ret Tryz.prog 96 ([.int .i8 op]) (.tup [.agg [.int .i8 0, .int .u8 0, .int .i8 0], .bool false]) := by
 exact (o96 (d := .tup [.agg [.int .i8 0, .int .u8 0, .int .i8 0], .bool false]) ([.inl] ++ List.replicate 3 (tC (eF (ltD 0 (decide_eq_false (Int.not_lt.2 h))))) ++ [tC (ltD 0 (decide_eq_false (Int.not_lt.2 h))), tC (leL 32 (by (simp only [sl2] at *; omega) : (decide (IntKind.wrap IntKind.i64 op < 32)) = false))]) (by kernel_rfl)).to (by simp [wk, wkL])
theorem reg_ok (n : Int) : Ret Tryz.prog 98 ([.int .i8 n]) (.bool (regM n)) := by
 rcases bft (decide (n < 0)) with h0 | h0
 ·exact (o98 (d := .bool false) [tC (eT (leL 0 h0)), tC (eT (leL 0 h0)), tC (leL 0 h0)] (by kernel_rfl)).to (by (try simp only [sl0, wk, wkL, wkO, eqCells, eqCell, regM, ccM, widthM, longM] at *); first | (simp [wk, wkL, wkO, eqCells, eqCell, regM, ccM, widthM, longM, *]; done) | (simp [wk, wkL, wkO, eqCells, eqCell, regM, ccM, widthM, longM, *]; omega) | (rw [Bool.eq_iff_iff]; simp [wk, wkL, wkO, eqCells, eqCell, regM, ccM, widthM, longM, *]; done) | (rw [Bool.eq_iff_iff]; simp [wk, wkL, wkO, eqCells, eqCell, regM, ccM, widthM, longM, *]; omega) | (rw [Bool.eq_iff_iff]; simp [wk, wkL, wkO, eqCells, eqCell, regM, ccM, widthM, longM, *]; grind) | (subst_vars; rw [Bool.eq_iff_iff]; simp; grind))
 exact (o98 (d := .bool (decide (n < 16))) [tC (eT (leL 0 h0)), tC (eT (leL 0 h0)), tC (leL 0 h0)] (by kernel_rfl)).to (by (try simp only [sl0, wk, wkL, wkO, eqCells, eqCell, regM, ccM, widthM, longM] at *); first | (simp [wk, wkL, wkO, eqCells, eqCell, regM, ccM, widthM, longM, *]; done) | (simp [wk, wkL, wkO, eqCells, eqCell, regM, ccM, widthM, longM, *]; omega) | (rw [Bool.eq_iff_iff]; simp [wk, wkL, wkO, eqCells, eqCell, regM, ccM, widthM, longM, *]; done) | (rw [Bool.eq_iff_iff]; simp [wk, wkL, wkO, eqCells, eqCell, regM, ccM, widthM, longM, *]; omega) | (rw [Bool.eq_iff_iff]; simp [wk, wkL, wkO, eqCells, eqCell, regM, ccM, widthM, longM, *]; grind) | (subst_vars; rw [Bool.eq_iff_iff]; simp; grind))
theorem cond_ok (n : Int) : Ret Tryz.prog 100 ([.int .i8 n]) (.bool (ccM n)) := by
 rcases bft (decide (n < 2)) with h0 | h0
 ·exact (o100 (d := .bool false) [tC (eT (leL 2 h0)), tC (eT (leL 2 h0)), tC (leL 2 h0), tT, tT, tT, tC (eT (leL 12 (ltU 12 h0))), tC (eT (leL 12 (ltU 12 h0))), tT, tC (leL 12 (ltU 12 h0)), tF] (by kernel_rfl)).to (by (try simp only [sl0, wk, wkL, wkO, eqCells, eqCell, regM, ccM, widthM, longM] at *); first | (simp [wk, wkL, wkO, eqCells, eqCell, regM, ccM, widthM, longM, *]; done) | (simp [wk, wkL, wkO, eqCells, eqCell, regM, ccM, widthM, longM, *]; omega) | (rw [Bool.eq_iff_iff]; simp [wk, wkL, wkO, eqCells, eqCell, regM, ccM, widthM, longM, *]; done) | (rw [Bool.eq_iff_iff]; simp [wk, wkL, wkO, eqCells, eqCell, regM, ccM, widthM, longM, *]; omega) | (rw [Bool.eq_iff_iff]; simp [wk, wkL, wkO, eqCells, eqCell, regM, ccM, widthM, longM, *]; grind) | (subst_vars; rw [Bool.eq_iff_iff]; simp; grind))
 let E1 : EL := [tC (eT (leL 2 h0)), tC (eT (leL 2 h0)), tC (leL 2 h0)]
 rcases bft (decide (n < 8)) with h1 | h1
 ·exact (o100 (d := .bool true) (E1 ++ List.replicate 4 (tC (eF (leC 7 h1))) ++ [tC (leC 7 h1)]) (by kernel_rfl)).to (by clear E1; (try simp only [sl0, wk, wkL, wkO, eqCells, eqCell, regM, ccM, widthM, longM] at *); first | (simp [wk, wkL, wkO, eqCells, eqCell, regM, ccM, widthM, longM, *]; done) | (simp [wk, wkL, wkO, eqCells, eqCell, regM, ccM, widthM, longM, *]; omega) | (rw [Bool.eq_iff_iff]; simp [wk, wkL, wkO, eqCells, eqCell, regM, ccM, widthM, longM, *]; done) | (rw [Bool.eq_iff_iff]; simp [wk, wkL, wkO, eqCells, eqCell, regM, ccM, widthM, longM, *]; omega) | (rw [Bool.eq_iff_iff]; simp [wk, wkL, wkO, eqCells, eqCell, regM, ccM, widthM, longM, *]; grind) | (subst_vars; rw [Bool.eq_iff_iff]; simp; grind))
 rcases bft (decide (n < 12)) with h2 | h2
 ·exact (o100 (d := .bool false) (E1 ++ List.replicate 3 (tC (eF (leC 7 h1))) ++ [tC (eT (leL 12 h2)), tC (eT (leL 12 h2)), tC (eF (leC 7 h1)), tC (leL 12 h2), tC (leC 7 h1)]) (by kernel_rfl)).to (by clear E1; (try simp only [sl0, wk, wkL, wkO, eqCells, eqCell, regM, ccM, widthM, longM] at *); first | (simp [wk, wkL, wkO, eqCells, eqCell, regM, ccM, widthM, longM, *]; done) | (simp [wk, wkL, wkO, eqCells, eqCell, regM, ccM, widthM, longM, *]; omega) | (rw [Bool.eq_iff_iff]; simp [wk, wkL, wkO, eqCells, eqCell, regM, ccM, widthM, longM, *]; done) | (rw [Bool.eq_iff_iff]; simp [wk, wkL, wkO, eqCells, eqCell, regM, ccM, widthM, longM, *]; omega) | (rw [Bool.eq_iff_iff]; simp [wk, wkL, wkO, eqCells, eqCell, regM, ccM, widthM, longM, *]; grind) | (subst_vars; rw [Bool.eq_iff_iff]; simp; grind))
 exact (o100 (d := .bool (decide (n ≤ 15))) (E1 ++ List.replicate 3 (tC (eF (leC 7 h1))) ++ [tC (eT (leL 12 h2)), tC (eT (leL 12 h2)), tC (eF (leC 7 h1)), tC (leL 12 h2), tC (leC 7 h1)]) (by kernel_rfl)).to (by clear E1; (try simp only [sl0, wk, wkL, wkO, eqCells, eqCell, regM, ccM, widthM, longM] at *); first | (simp [wk, wkL, wkO, eqCells, eqCell, regM, ccM, widthM, longM, *]; done) | (simp [wk, wkL, wkO, eqCells, eqCell, regM, ccM, widthM, longM, *]; omega) | (rw [Bool.eq_iff_iff]; simp [wk, wkL, wkO, eqCells, eqCell, regM, ccM, widthM, longM, *]; done) | (rw [Bool.eq_iff_iff]; simp [wk, wkL, wkO, eqCells, eqCell, regM, ccM, widthM, longM, *]; omega) | (rw [Bool.eq_iff_iff]; simp [wk, wkL, wkO, eqCells, eqCell, regM, ccM, widthM, longM, *]; grind) | (subst_vars; rw [Bool.eq_iff_iff]; simp; grind))
theorem within_ok (n a b : Int) : Ret Tryz.prog 99 ([.int .i64 n, .int .i64 a, .int .i64 b]) (.bool (decide (a ≤ n) && decide (n ≤ b))) := by
 rcases bft (decide (n ≥ a)) with h0 | h0
 ·exact (o99 (d := .bool (decide (n ≤ b))) [tC (eT h0), tC (eT h0), tC (eT h0), tC h0] (by kernel_rfl)).to (by (try simp only [sl0, wk, wkL, wkO, eqCells, eqCell, regM, ccM, widthM, longM] at *); (simp [wk, wkL, wkO, eqCells, eqCell, regM, ccM, widthM, longM, *]; done))
 exact (o99 (d := .bool false) [tC (eT h0), tC (eT h0), tC (eT h0), tC h0] (by kernel_rfl)).to (by (try simp only [sl0, wk, wkL, wkO, eqCells, eqCell, regM, ccM, widthM, longM] at *); (simp [wk, wkL, wkO, eqCells, eqCell, regM, ccM, widthM, longM, *]; done))
theorem width_ok (n : Int) : Ret Tryz.prog 101 ([.int .i8 n]) (.bool (widthM n)) := by
 by_cases h0 : n = 8
 ·subst h0
  exact (o101 (d := .bool true) [tT, tT] (by kernel_rfl)).to (by (try simp only [sl0, wk, wkL, wkO, eqCells, eqCell, regM, ccM, widthM, longM] at *); (simp [wk, wkL, wkO, eqCells, eqCell, regM, ccM, widthM, longM, *]; done))
 by_cases h1 : n = 16
 ·subst h1
  exact (o101 (d := .bool true) [tC (neOf h0), tT, tT] (by kernel_rfl)).to (by (try simp only [sl0, wk, wkL, wkO, eqCells, eqCell, regM, ccM, widthM, longM] at *); (simp [wk, wkL, wkO, eqCells, eqCell, regM, ccM, widthM, longM, *]; done))
 by_cases h2 : n = 32
 ·subst h2
  exact (o101 (d := .bool true) [tC (neOf h0), tC (neOf h1), tT, tT] (by kernel_rfl)).to (by (try simp only [sl0, wk, wkL, wkO, eqCells, eqCell, regM, ccM, widthM, longM] at *); (simp [wk, wkL, wkO, eqCells, eqCell, regM, ccM, widthM, longM, *]; done))
 by_cases h3 : n = 64
 ·subst h3
  exact (o101 (d := .bool true) [tC (neOf h0), tC (neOf h1), tC (neOf h2), tT] (by kernel_rfl)).to (by (try simp only [sl0, wk, wkL, wkO, eqCells, eqCell, regM, ccM, widthM, longM] at *); (simp [wk, wkL, wkO, eqCells, eqCell, regM, ccM, widthM, longM, *]; done))
 exact (o101 (d := .bool false) [tC (neOf h0), tC (neOf h1), tC (neOf h2), tC (neOf h3)] (by kernel_rfl)).to (by (try simp only [sl0, wk, wkL, wkO, eqCells, eqCell, regM, ccM, widthM, longM] at *); (simp [wk, wkL, wkO, eqCells, eqCell, regM, ccM, widthM, longM, *]; done))
theorem rreg_ok (n : Int) : Ret Tryz.prog 113 ([.int .i8 n]) (.bool (regM n)) := by
 rcases bft (decide (n < 0)) with h0 | h0
 ·exact (o113 (d := .bool false) [tC (eT (leL 0 h0)), tC (eT (leL 0 h0)), tC (leL 0 h0)] (by kernel_rfl)).to (by (try simp only [sl0, wk, wkL, wkO, eqCells, eqCell, regM, ccM, widthM, longM] at *); first | (simp [wk, wkL, wkO, eqCells, eqCell, regM, ccM, widthM, longM, *]; done) | (simp [wk, wkL, wkO, eqCells, eqCell, regM, ccM, widthM, longM, *]; omega) | (rw [Bool.eq_iff_iff]; simp [wk, wkL, wkO, eqCells, eqCell, regM, ccM, widthM, longM, *]; done) | (rw [Bool.eq_iff_iff]; simp [wk, wkL, wkO, eqCells, eqCell, regM, ccM, widthM, longM, *]; omega) | (rw [Bool.eq_iff_iff]; simp [wk, wkL, wkO, eqCells, eqCell, regM, ccM, widthM, longM, *]; grind) | (subst_vars; rw [Bool.eq_iff_iff]; simp; grind))
 exact (o113 (d := .bool (decide (n < 16))) [tC (eT (leL 0 h0)), tC (eT (leL 0 h0)), tC (leL 0 h0)] (by kernel_rfl)).to (by (try simp only [sl0, wk, wkL, wkO, eqCells, eqCell, regM, ccM, widthM, longM] at *); first | (simp [wk, wkL, wkO, eqCells, eqCell, regM, ccM, widthM, longM, *]; done) | (simp [wk, wkL, wkO, eqCells, eqCell, regM, ccM, widthM, longM, *]; omega) | (rw [Bool.eq_iff_iff]; simp [wk, wkL, wkO, eqCells, eqCell, regM, ccM, widthM, longM, *]; done) | (rw [Bool.eq_iff_iff]; simp [wk, wkL, wkO, eqCells, eqCell, regM, ccM, widthM, longM, *]; omega) | (rw [Bool.eq_iff_iff]; simp [wk, wkL, wkO, eqCells, eqCell, regM, ccM, widthM, longM, *]; grind) | (subst_vars; rw [Bool.eq_iff_iff]; simp; grind))
theorem rcc_ok (n : Int) : Ret Tryz.prog 116 ([.int .i8 n]) (.bool (ccM n)) := by
 rcases bft (decide (n < 2)) with h0 | h0
 ·exact (o116 (d := .bool false) [tC (eT (leL 2 h0)), tC (eT (leL 2 h0)), tC (leL 2 h0), tT, tT, tT, tC (eT (leL 12 (ltU 12 h0))), tC (eT (leL 12 (ltU 12 h0))), tT, tC (leL 12 (ltU 12 h0)), tF] (by kernel_rfl)).to (by (try simp only [sl0, wk, wkL, wkO, eqCells, eqCell, regM, ccM, widthM, longM] at *); first | (simp [wk, wkL, wkO, eqCells, eqCell, regM, ccM, widthM, longM, *]; done) | (simp [wk, wkL, wkO, eqCells, eqCell, regM, ccM, widthM, longM, *]; omega) | (rw [Bool.eq_iff_iff]; simp [wk, wkL, wkO, eqCells, eqCell, regM, ccM, widthM, longM, *]; done) | (rw [Bool.eq_iff_iff]; simp [wk, wkL, wkO, eqCells, eqCell, regM, ccM, widthM, longM, *]; omega) | (rw [Bool.eq_iff_iff]; simp [wk, wkL, wkO, eqCells, eqCell, regM, ccM, widthM, longM, *]; grind) | (subst_vars; rw [Bool.eq_iff_iff]; simp; grind))
 let E1 : EL := [tC (eT (leL 2 h0)), tC (eT (leL 2 h0)), tC (leL 2 h0)]
 rcases bft (decide (n < 8)) with h1 | h1
 ·exact (o116 (d := .bool true) (E1 ++ List.replicate 4 (tC (eF (leC 7 h1))) ++ [tC (leC 7 h1)]) (by kernel_rfl)).to (by clear E1; (try simp only [sl0, wk, wkL, wkO, eqCells, eqCell, regM, ccM, widthM, longM] at *); first | (simp [wk, wkL, wkO, eqCells, eqCell, regM, ccM, widthM, longM, *]; done) | (simp [wk, wkL, wkO, eqCells, eqCell, regM, ccM, widthM, longM, *]; omega) | (rw [Bool.eq_iff_iff]; simp [wk, wkL, wkO, eqCells, eqCell, regM, ccM, widthM, longM, *]; done) | (rw [Bool.eq_iff_iff]; simp [wk, wkL, wkO, eqCells, eqCell, regM, ccM, widthM, longM, *]; omega) | (rw [Bool.eq_iff_iff]; simp [wk, wkL, wkO, eqCells, eqCell, regM, ccM, widthM, longM, *]; grind) | (subst_vars; rw [Bool.eq_iff_iff]; simp; grind))
 rcases bft (decide (n < 12)) with h2 | h2
 ·exact (o116 (d := .bool false) (E1 ++ List.replicate 3 (tC (eF (leC 7 h1))) ++ [tC (eT (leL 12 h2)), tC (eT (leL 12 h2)), tC (eF (leC 7 h1)), tC (leL 12 h2), tC (leC 7 h1)]) (by kernel_rfl)).to (by clear E1; (try simp only [sl0, wk, wkL, wkO, eqCells, eqCell, regM, ccM, widthM, longM] at *); first | (simp [wk, wkL, wkO, eqCells, eqCell, regM, ccM, widthM, longM, *]; done) | (simp [wk, wkL, wkO, eqCells, eqCell, regM, ccM, widthM, longM, *]; omega) | (rw [Bool.eq_iff_iff]; simp [wk, wkL, wkO, eqCells, eqCell, regM, ccM, widthM, longM, *]; done) | (rw [Bool.eq_iff_iff]; simp [wk, wkL, wkO, eqCells, eqCell, regM, ccM, widthM, longM, *]; omega) | (rw [Bool.eq_iff_iff]; simp [wk, wkL, wkO, eqCells, eqCell, regM, ccM, widthM, longM, *]; grind) | (subst_vars; rw [Bool.eq_iff_iff]; simp; grind))
 exact (o116 (d := .bool (decide (n ≤ 15))) (E1 ++ List.replicate 3 (tC (eF (leC 7 h1))) ++ [tC (eT (leL 12 h2)), tC (eT (leL 12 h2)), tC (eF (leC 7 h1)), tC (leL 12 h2), tC (leC 7 h1)]) (by kernel_rfl)).to (by clear E1; (try simp only [sl0, wk, wkL, wkO, eqCells, eqCell, regM, ccM, widthM, longM] at *); first | (simp [wk, wkL, wkO, eqCells, eqCell, regM, ccM, widthM, longM, *]; done) | (simp [wk, wkL, wkO, eqCells, eqCell, regM, ccM, widthM, longM, *]; omega) | (rw [Bool.eq_iff_iff]; simp [wk, wkL, wkO, eqCells, eqCell, regM, ccM, widthM, longM, *]; done) | (rw [Bool.eq_iff_iff]; simp [wk, wkL, wkO, eqCells, eqCell, regM, ccM, widthM, longM, *]; omega) | (rw [Bool.eq_iff_iff]; simp [wk, wkL, wkO, eqCells, eqCell, regM, ccM, widthM, longM, *]; grind) | (subst_vars; rw [Bool.eq_iff_iff]; simp; grind))
theorem rlong_ok (n : Int) : Ret Tryz.prog 115 ([.int .i8 n]) (.bool (longM n)) := by
 by_cases h0 : n = 32
 ·subst h0
  exact (o115 (d := .bool true) [tF, tF, tT] (by kernel_rfl)).to (by (try simp only [sl0, wk, wkL, wkO, eqCells, eqCell, regM, ccM, widthM, longM] at *); first | (simp [wk, wkL, wkO, eqCells, eqCell, regM, ccM, widthM, longM, *]; done) | (simp [wk, wkL, wkO, eqCells, eqCell, regM, ccM, widthM, longM, *]; omega) | (rw [Bool.eq_iff_iff]; simp [wk, wkL, wkO, eqCells, eqCell, regM, ccM, widthM, longM, *]; done) | (rw [Bool.eq_iff_iff]; simp [wk, wkL, wkO, eqCells, eqCell, regM, ccM, widthM, longM, *]; omega) | (rw [Bool.eq_iff_iff]; simp [wk, wkL, wkO, eqCells, eqCell, regM, ccM, widthM, longM, *]; grind) | (subst_vars; rw [Bool.eq_iff_iff]; simp; grind))
 exact (o115 (d := .bool (n == 64)) [tC (eF (neOf h0)), tC (eF (neOf h0)), tC (neOf h0)] (by kernel_rfl)).to (by (try simp only [sl0, wk, wkL, wkO, eqCells, eqCell, regM, ccM, widthM, longM] at *); first | (simp [wk, wkL, wkO, eqCells, eqCell, regM, ccM, widthM, longM, *]; done) | (simp [wk, wkL, wkO, eqCells, eqCell, regM, ccM, widthM, longM, *]; omega) | (rw [Bool.eq_iff_iff]; simp [wk, wkL, wkO, eqCells, eqCell, regM, ccM, widthM, longM, *]; done) | (rw [Bool.eq_iff_iff]; simp [wk, wkL, wkO, eqCells, eqCell, regM, ccM, widthM, longM, *]; omega) | (rw [Bool.eq_iff_iff]; simp [wk, wkL, wkO, eqCells, eqCell, regM, ccM, widthM, longM, *]; grind) | (subst_vars; rw [Bool.eq_iff_iff]; simp; grind))
theorem rwidth_ok (n : Int) : Ret Tryz.prog 117 ([.int .i8 n]) (.bool (widthM n)) := by
 by_cases h0 : n = 8
 ·subst h0
  exact (o117 (d := .bool true) [tF, tF, tT, tF, tF, tT, tF, tF, tT] (by kernel_rfl)).to (by (try simp only [sl0, wk, wkL, wkO, eqCells, eqCell, regM, ccM, widthM, longM] at *); first | (simp [wk, wkL, wkO, eqCells, eqCell, regM, ccM, widthM, longM, *]; done) | (simp [wk, wkL, wkO, eqCells, eqCell, regM, ccM, widthM, longM, *]; omega) | (rw [Bool.eq_iff_iff]; simp [wk, wkL, wkO, eqCells, eqCell, regM, ccM, widthM, longM, *]; done) | (rw [Bool.eq_iff_iff]; simp [wk, wkL, wkO, eqCells, eqCell, regM, ccM, widthM, longM, *]; omega) | (rw [Bool.eq_iff_iff]; simp [wk, wkL, wkO, eqCells, eqCell, regM, ccM, widthM, longM, *]; grind) | (subst_vars; rw [Bool.eq_iff_iff]; simp; grind))
 let E1 : EL := [tC (eF (neOf h0)), tC (eF (neOf h0)), tC (neOf h0)]
 by_cases h1 : n = 16
 ·subst h1
  exact (o117 (d := .bool true) (E1 ++ [tF, tF, tT, tF, tF, tT]) (by kernel_rfl)).to (by clear E1; (try simp only [sl0, wk, wkL, wkO, eqCells, eqCell, regM, ccM, widthM, longM] at *); first | (simp [wk, wkL, wkO, eqCells, eqCell, regM, ccM, widthM, longM, *]; done) | (simp [wk, wkL, wkO, eqCells, eqCell, regM, ccM, widthM, longM, *]; omega) | (rw [Bool.eq_iff_iff]; simp [wk, wkL, wkO, eqCells, eqCell, regM, ccM, widthM, longM, *]; done) | (rw [Bool.eq_iff_iff]; simp [wk, wkL, wkO, eqCells, eqCell, regM, ccM, widthM, longM, *]; omega) | (rw [Bool.eq_iff_iff]; simp [wk, wkL, wkO, eqCells, eqCell, regM, ccM, widthM, longM, *]; grind) | (subst_vars; rw [Bool.eq_iff_iff]; simp; grind))
 by_cases h2 : n = 32
 ·subst h2
  exact (o117 (d := .bool true) (E1 ++ [tC (eF (neOf h1)), tC (eF (neOf h1)), tC (neOf h1), tF, tF, tT]) (by kernel_rfl)).to (by clear E1; (try simp only [sl0, wk, wkL, wkO, eqCells, eqCell, regM, ccM, widthM, longM] at *); first | (simp [wk, wkL, wkO, eqCells, eqCell, regM, ccM, widthM, longM, *]; done) | (simp [wk, wkL, wkO, eqCells, eqCell, regM, ccM, widthM, longM, *]; omega) | (rw [Bool.eq_iff_iff]; simp [wk, wkL, wkO, eqCells, eqCell, regM, ccM, widthM, longM, *]; done) | (rw [Bool.eq_iff_iff]; simp [wk, wkL, wkO, eqCells, eqCell, regM, ccM, widthM, longM, *]; omega) | (rw [Bool.eq_iff_iff]; simp [wk, wkL, wkO, eqCells, eqCell, regM, ccM, widthM, longM, *]; grind) | (subst_vars; rw [Bool.eq_iff_iff]; simp; grind))
 exact (o117 (d := .bool (n == 64)) (E1 ++ [tC (eF (neOf h1)), tC (eF (neOf h1)), tC (neOf h1), tC (eF (neOf h2)), tC (eF (neOf h2)), tC (neOf h2)]) (by kernel_rfl)).to (by clear E1; (try simp only [sl0, wk, wkL, wkO, eqCells, eqCell, regM, ccM, widthM, longM] at *); first | (simp [wk, wkL, wkO, eqCells, eqCell, regM, ccM, widthM, longM, *]; done) | (simp [wk, wkL, wkO, eqCells, eqCell, regM, ccM, widthM, longM, *]; omega) | (rw [Bool.eq_iff_iff]; simp [wk, wkL, wkO, eqCells, eqCell, regM, ccM, widthM, longM, *]; done) | (rw [Bool.eq_iff_iff]; simp [wk, wkL, wkO, eqCells, eqCell, regM, ccM, widthM, longM, *]; omega) | (rw [Bool.eq_iff_iff]; simp [wk, wkL, wkO, eqCells, eqCell, regM, ccM, widthM, longM, *]; grind) | (subst_vars; rw [Bool.eq_iff_iff]; simp; grind))
theorem rfour_ok (n : Int) : Ret Tryz.prog 114 ([.int .i64 n]) (.bool (decide (-2147483648 ≤ n ∧ n ≤ 2147483647))) := by
 rcases bft (decide (n < (-2147483648))) with h0 | h0
 ·exact (o114 (d := .bool false) [tC (eT (leL (-2147483648) h0)), tC (eT (leL (-2147483648) h0)), tC (leL (-2147483648) h0)] (by kernel_rfl)).to (by (try simp only [sl0, wk, wkL, wkO, eqCells, eqCell, regM, ccM, widthM, longM] at *); first | (simp [wk, wkL, wkO, eqCells, eqCell, regM, ccM, widthM, longM, *]; done) | (simp [wk, wkL, wkO, eqCells, eqCell, regM, ccM, widthM, longM, *]; omega) | (rw [Bool.eq_iff_iff]; simp [wk, wkL, wkO, eqCells, eqCell, regM, ccM, widthM, longM, *]; done) | (rw [Bool.eq_iff_iff]; simp [wk, wkL, wkO, eqCells, eqCell, regM, ccM, widthM, longM, *]; omega) | (rw [Bool.eq_iff_iff]; simp [wk, wkL, wkO, eqCells, eqCell, regM, ccM, widthM, longM, *]; grind) | (subst_vars; rw [Bool.eq_iff_iff]; simp; grind))
 exact (o114 (d := .bool (decide (n < 2147483648))) [tC (eT (leL (-2147483648) h0)), tC (eT (leL (-2147483648) h0)), tC (leL (-2147483648) h0)] (by kernel_rfl)).to (by (try simp only [sl0, wk, wkL, wkO, eqCells, eqCell, regM, ccM, widthM, longM] at *); first | (simp [wk, wkL, wkO, eqCells, eqCell, regM, ccM, widthM, longM, *]; done) | (simp [wk, wkL, wkO, eqCells, eqCell, regM, ccM, widthM, longM, *]; omega) | (rw [Bool.eq_iff_iff]; simp [wk, wkL, wkO, eqCells, eqCell, regM, ccM, widthM, longM, *]; done) | (rw [Bool.eq_iff_iff]; simp [wk, wkL, wkO, eqCells, eqCell, regM, ccM, widthM, longM, *]; omega) | (rw [Bool.eq_iff_iff]; simp [wk, wkL, wkO, eqCells, eqCell, regM, ccM, widthM, longM, *]; grind) | (subst_vars; rw [Bool.eq_iff_iff]; simp; grind))
theorem rone_ok (n : Int) : Ret Tryz.prog 118 ([.int .i64 n]) (.bool (decide (-128 ≤ n ∧ n ≤ 127))) := by
 rcases bft (decide (n < (-128))) with h0 | h0
 ·exact (o118 (d := .bool false) [tC (eT (leL (-128) h0)), tC (eT (leL (-128) h0)), tC (leL (-128) h0)] (by kernel_rfl)).to (by (try simp only [sl0, wk, wkL, wkO, eqCells, eqCell, regM, ccM, widthM, longM] at *); first | (simp [wk, wkL, wkO, eqCells, eqCell, regM, ccM, widthM, longM, *]; done) | (simp [wk, wkL, wkO, eqCells, eqCell, regM, ccM, widthM, longM, *]; omega) | (rw [Bool.eq_iff_iff]; simp [wk, wkL, wkO, eqCells, eqCell, regM, ccM, widthM, longM, *]; done) | (rw [Bool.eq_iff_iff]; simp [wk, wkL, wkO, eqCells, eqCell, regM, ccM, widthM, longM, *]; omega) | (rw [Bool.eq_iff_iff]; simp [wk, wkL, wkO, eqCells, eqCell, regM, ccM, widthM, longM, *]; grind) | (subst_vars; rw [Bool.eq_iff_iff]; simp; grind))
 exact (o118 (d := .bool (decide (n < 128))) [tC (eT (leL (-128) h0)), tC (eT (leL (-128) h0)), tC (leL (-128) h0)] (by kernel_rfl)).to (by (try simp only [sl0, wk, wkL, wkO, eqCells, eqCell, regM, ccM, widthM, longM] at *); first | (simp [wk, wkL, wkO, eqCells, eqCell, regM, ccM, widthM, longM, *]; done) | (simp [wk, wkL, wkO, eqCells, eqCell, regM, ccM, widthM, longM, *]; omega) | (rw [Bool.eq_iff_iff]; simp [wk, wkL, wkO, eqCells, eqCell, regM, ccM, widthM, longM, *]; done) | (rw [Bool.eq_iff_iff]; simp [wk, wkL, wkO, eqCells, eqCell, regM, ccM, widthM, longM, *]; omega) | (rw [Bool.eq_iff_iff]; simp [wk, wkL, wkO, eqCells, eqCell, regM, ccM, widthM, longM, *]; grind) | (subst_vars; rw [Bool.eq_iff_iff]; simp; grind))
theorem class_ok (op : Int) : Ret Tryz.prog 77 ([.int .i8 op]) (.int .i64 (classM op)) := by
 by_cases h0 : op = 0
 ·subst h0
  exact (o77 (d := .int .i64 1) [tT, tT] (by kernel_rfl)).to (by (simp only [wk, D.int.injEq, true_and]; decide))
 let E1 : EL := [tC (neOf h0)]
 by_cases h1 : op = 2
 ·subst h1
  exact (o77 (d := .int .i64 1) (E1 ++ [tT, tT]) (by kernel_rfl)).to (by clear E1; (simp only [wk, D.int.injEq, true_and]; decide))
 let E2 : EL := E1 ++ [tC (neOf h1)]
 by_cases h2 : op = 3
 ·subst h2
  exact (o77 (d := .int .i64 1) (E2 ++ [tT, tT]) (by kernel_rfl)).to (by clear E1 E2; (simp only [wk, D.int.injEq, true_and]; decide))
 let E3 : EL := E2 ++ [tC (neOf h2)]
 by_cases h3 : op = 4
 ·subst h3
  exact (o77 (d := .int .i64 1) (E3 ++ [tT, tT]) (by kernel_rfl)).to (by clear E1 E2 E3; (simp only [wk, D.int.injEq, true_and]; decide))
 let E4 : EL := E3 ++ [tC (neOf h3)]
 by_cases h4 : op = 5
 ·subst h4
  exact (o77 (d := .int .i64 1) (E4 ++ [tT, tT]) (by kernel_rfl)).to (by clear E1 E2 E3 E4; (simp only [wk, D.int.injEq, true_and]; decide))
 let E5 : EL := E4 ++ [tC (neOf h4)]
 by_cases h5 : op = 6
 ·subst h5
  exact (o77 (d := .int .i64 1) (E5 ++ [tT, tT]) (by kernel_rfl)).to (by clear E1 E2 E3 E4 E5; (simp only [wk, D.int.injEq, true_and]; decide))
 let E6 : EL := E5 ++ [tC (neOf h5)]
 by_cases h6 : op = 7
 ·subst h6
  exact (o77 (d := .int .i64 1) (E6 ++ [tT, tT]) (by kernel_rfl)).to (by clear E1 E2 E3 E4 E5 E6; (simp only [wk, D.int.injEq, true_and]; decide))
 let E7 : EL := E6 ++ [tC (neOf h6)]
 by_cases h7 : op = 8
 ·subst h7
  exact (o77 (d := .int .i64 1) (E7 ++ [tT, tT]) (by kernel_rfl)).to (by clear E1 E2 E3 E4 E5 E6 E7; (simp only [wk, D.int.injEq, true_and]; decide))
 let E8 : EL := E7 ++ [tC (neOf h7)]
 by_cases h8 : op = 16
 ·subst h8
  exact (o77 (d := .int .i64 1) (E8 ++ [tT]) (by kernel_rfl)).to (by clear E1 E2 E3 E4 E5 E6 E7 E8; (simp only [wk, D.int.injEq, true_and]; decide))
 let E9 : EL := E8 ++ [tC (neOf h8)]
 by_cases h9 : op = 1
 ·subst h9
  exact (o77 (d := .int .i64 2) (E9 ++ [tT, tT]) (by kernel_rfl)).to (by clear E1 E2 E3 E4 E5 E6 E7 E8 E9; (simp only [wk, D.int.injEq, true_and]; decide))
 let E10 : EL := E9 ++ [tC (neOf h9)]
 by_cases h10 : op = 9
 ·subst h10
  exact (o77 (d := .int .i64 2) (E10 ++ [tT, tT]) (by kernel_rfl)).to (by clear E1 E2 E3 E4 E5 E6 E7 E8 E9 E10; (simp only [wk, D.int.injEq, true_and]; decide))
 let E11 : EL := E10 ++ [tC (neOf h10)]
 by_cases h11 : op = 10
 ·subst h11
  exact (o77 (d := .int .i64 2) (E11 ++ [tT, tT]) (by kernel_rfl)).to (by clear E1 E2 E3 E4 E5 E6 E7 E8 E9 E10 E11; (simp only [wk, D.int.injEq, true_and]; decide))
 let E12 : EL := E11 ++ [tC (neOf h11)]
 by_cases h12 : op = 11
 ·subst h12
  exact (o77 (d := .int .i64 2) (E12 ++ [tT, tT]) (by kernel_rfl)).to (by clear E1 E2 E3 E4 E5 E6 E7 E8 E9 E10 E11 E12; (simp only [wk, D.int.injEq, true_and]; decide))
 let E13 : EL := E12 ++ [tC (neOf h12)]
 by_cases h13 : op = 12
 ·subst h13
  exact (o77 (d := .int .i64 2) (E13 ++ [tT, tT]) (by kernel_rfl)).to (by clear E1 E2 E3 E4 E5 E6 E7 E8 E9 E10 E11 E12 E13; (simp only [wk, D.int.injEq, true_and]; decide))
 let E14 : EL := E13 ++ [tC (neOf h13)]
 by_cases h14 : op = 13
 ·subst h14
  exact (o77 (d := .int .i64 2) (E14 ++ [tT, tT]) (by kernel_rfl)).to (by clear E1 E2 E3 E4 E5 E6 E7 E8 E9 E10 E11 E12 E13 E14; (simp only [wk, D.int.injEq, true_and]; decide))
 let E15 : EL := E14 ++ [tC (neOf h14)]
 by_cases h15 : op = 14
 ·subst h15
  exact (o77 (d := .int .i64 2) (E15 ++ [tT, tT]) (by kernel_rfl)).to (by clear E1 E2 E3 E4 E5 E6 E7 E8 E9 E10 E11 E12 E13 E14 E15; (simp only [wk, D.int.injEq, true_and]; decide))
 let E16 : EL := E15 ++ [tC (neOf h15)]
 by_cases h16 : op = 15
 ·subst h16
  exact (o77 (d := .int .i64 2) (E16 ++ [tT]) (by kernel_rfl)).to (by clear E1 E2 E3 E4 E5 E6 E7 E8 E9 E10 E11 E12 E13 E14 E15 E16; (simp only [wk, D.int.injEq, true_and]; decide))
 let E17 : EL := E16 ++ [tC (neOf h16)]
 by_cases h17 : op = 17
 ·subst h17
  exact (o77 (d := .int .i64 3) (E17 ++ [tT, tT]) (by kernel_rfl)).to (by clear E1 E2 E3 E4 E5 E6 E7 E8 E9 E10 E11 E12 E13 E14 E15 E16 E17; (simp only [wk, D.int.injEq, true_and]; decide))
 let E18 : EL := E17 ++ [tC (neOf h17)]
 by_cases h18 : op = 18
 ·subst h18
  exact (o77 (d := .int .i64 3) (E18 ++ [tT, tT]) (by kernel_rfl)).to (by clear E1 E2 E3 E4 E5 E6 E7 E8 E9 E10 E11 E12 E13 E14 E15 E16 E17 E18; (simp only [wk, D.int.injEq, true_and]; decide))
 let E19 : EL := E18 ++ [tC (neOf h18)]
 by_cases h19 : op = 19
 ·subst h19
  exact (o77 (d := .int .i64 3) (E19 ++ [tT]) (by kernel_rfl)).to (by clear E1 E2 E3 E4 E5 E6 E7 E8 E9 E10 E11 E12 E13 E14 E15 E16 E17 E18 E19; (simp only [wk, D.int.injEq, true_and]; decide))
 let E20 : EL := E19 ++ [tC (neOf h19)]
 by_cases h20 : op = 20
 ·subst h20
  exact (o77 (d := .int .i64 4) (E20 ++ [tT, tT]) (by kernel_rfl)).to (by clear E1 E2 E3 E4 E5 E6 E7 E8 E9 E10 E11 E12 E13 E14 E15 E16 E17 E18 E19 E20; (simp only [wk, D.int.injEq, true_and]; decide))
 let E21 : EL := E20 ++ [tC (neOf h20)]
 by_cases h21 : op = 21
 ·subst h21
  exact (o77 (d := .int .i64 4) (E21 ++ [tT, tT]) (by kernel_rfl)).to (by clear E1 E2 E3 E4 E5 E6 E7 E8 E9 E10 E11 E12 E13 E14 E15 E16 E17 E18 E19 E20 E21; (simp only [wk, D.int.injEq, true_and]; decide))
 let E22 : EL := E21 ++ [tC (neOf h21)]
 by_cases h22 : op = 22
 ·subst h22
  exact (o77 (d := .int .i64 4) (E22 ++ [tT, tT]) (by kernel_rfl)).to (by clear E1 E2 E3 E4 E5 E6 E7 E8 E9 E10 E11 E12 E13 E14 E15 E16 E17 E18 E19 E20 E21 E22; (simp only [wk, D.int.injEq, true_and]; decide))
 let E23 : EL := E22 ++ [tC (neOf h22)]
 by_cases h23 : op = 23
 ·subst h23
  exact (o77 (d := .int .i64 4) (E23 ++ [tT, tT]) (by kernel_rfl)).to (by clear E1 E2 E3 E4 E5 E6 E7 E8 E9 E10 E11 E12 E13 E14 E15 E16 E17 E18 E19 E20 E21 E22 E23; (simp only [wk, D.int.injEq, true_and]; decide))
 let E24 : EL := E23 ++ [tC (neOf h23)]
 by_cases h24 : op = 24
 ·subst h24
  exact (o77 (d := .int .i64 4) (E24 ++ [tT]) (by kernel_rfl)).to (by clear E1 E2 E3 E4 E5 E6 E7 E8 E9 E10 E11 E12 E13 E14 E15 E16 E17 E18 E19 E20 E21 E22 E23 E24; (simp only [wk, D.int.injEq, true_and]; decide))
 let E25 : EL := E24 ++ [tC (neOf h24)]
 by_cases h25 : op = 25
 ·subst h25
  exact (o77 (d := .int .i64 5) (E25 ++ [tT]) (by kernel_rfl)).to (by clear E1 E2 E3 E4 E5 E6 E7 E8 E9 E10 E11 E12 E13 E14 E15 E16 E17 E18 E19 E20 E21 E22 E23 E24 E25; (simp only [wk, D.int.injEq, true_and]; decide))
 let E26 : EL := E25 ++ [tC (neOf h25)]
 by_cases h26 : op = 26
 ·subst h26
  exact (o77 (d := .int .i64 6) (E26 ++ [tT]) (by kernel_rfl)).to (by clear E1 E2 E3 E4 E5 E6 E7 E8 E9 E10 E11 E12 E13 E14 E15 E16 E17 E18 E19 E20 E21 E22 E23 E24 E25 E26; (simp only [wk, D.int.injEq, true_and]; decide))
 let E27 : EL := E26 ++ [tC (neOf h26)]
 by_cases h27 : op = 27
 ·subst h27
  exact (o77 (d := .int .i64 7) (E27 ++ [tT]) (by kernel_rfl)).to (by clear E1 E2 E3 E4 E5 E6 E7 E8 E9 E10 E11 E12 E13 E14 E15 E16 E17 E18 E19 E20 E21 E22 E23 E24 E25 E26 E27; (simp only [wk, D.int.injEq, true_and]; decide))
 by_cases h28 : op = 28
 ·subst h28
  exact (o77 (d := .int .i64 8) (E27 ++ [tC (neOf h27), tT]) (by kernel_rfl)).to (by clear E1 E2 E3 E4 E5 E6 E7 E8 E9 E10 E11 E12 E13 E14 E15 E16 E17 E18 E19 E20 E21 E22 E23 E24 E25 E26 E27; (simp only [wk, D.int.injEq, true_and]; decide))
 let E28 : EL := E27 ++ [tC (neOf h27), tC (neOf h28)]
 by_cases h29 : op = 29
 ·subst h29
  exact (o77 (d := .int .i64 9) (E28 ++ [tT]) (by kernel_rfl)).to (by clear E1 E2 E3 E4 E5 E6 E7 E8 E9 E10 E11 E12 E13 E14 E15 E16 E17 E18 E19 E20 E21 E22 E23 E24 E25 E26 E27 E28; (simp only [wk, D.int.injEq, true_and]; decide))
 by_cases h30 : op = 30
 ·subst h30
  exact (o77 (d := .int .i64 10) (E28 ++ [tC (neOf h29), tT, tT]) (by kernel_rfl)).to (by clear E1 E2 E3 E4 E5 E6 E7 E8 E9 E10 E11 E12 E13 E14 E15 E16 E17 E18 E19 E20 E21 E22 E23 E24 E25 E26 E27 E28; (simp only [wk, D.int.injEq, true_and]; decide))
 by_cases h31 : op = 31
 ·subst h31
  exact (o77 (d := .int .i64 10) (E28 ++ [tC (neOf h29), tC (neOf h30), tT]) (by kernel_rfl)).to (by clear E1 E2 E3 E4 E5 E6 E7 E8 E9 E10 E11 E12 E13 E14 E15 E16 E17 E18 E19 E20 E21 E22 E23 E24 E25 E26 E27 E28; (simp only [wk, D.int.injEq, true_and]; decide))
 exact (o77 (d := .int .i64 0) (E28 ++ [tC (neOf h29), tC (neOf h30), tC (neOf h31)]) (by kernel_rfl)).to (by clear E1 E2 E3 E4 E5 E6 E7 E8 E9 E10 E11 E12 E13 E14 E15 E16 E17 E18 E19 E20 E21 E22 E23 E24 E25 E26 E27 E28; (simp only [wk, D.int.injEq, true_and]; unfold classM shapeM; (repeat split) <;> omega))
theorem bareL_1_ok (op w dst src base disp imm cc : Int) : Ret Tryz.prog 97 ([xD op w dst src base disp imm cc, .int .i8 1]) (xD 0 0 0 0 base disp imm cc) := by
 let E1 : EL := [tT, tT, tT, tT, tF, tF, .flat _ _ flat_X]
 by_cases h0 : base = 0
 ·subst h0
  by_cases h1 : disp = 0
  ·subst h1
   by_cases h2 : imm = 0
   ·subst h2
    by_cases h3 : cc = 0
    ·subst h3
     exact (o97 (d := (xD 0 0 0 0 0 0 0 0)) (E1 ++ [tF]) (by kernel_rfl)).to (by clear E1; (simp [wk, wkL, ]; done))
    exact (o97 (d := (xD 0 0 0 0 0 0 0 cc)) (E1 ++ [tC (nt (andT rfl (andT rfl (andT rfl (andT rfl (andT rfl (andT rfl (andT rfl (andF (y := true) (neOf h3))))))))))]) (by kernel_rfl)).to (by clear E1; (simp [wk, wkL, h3]; done))
   exact (o97 (d := (xD 0 0 0 0 0 0 imm cc)) (E1 ++ [tC (nt (andT rfl (andT rfl (andT rfl (andT rfl (andT rfl (andT rfl (andF (y := eqCells [.int .i8 cc] [.int .i8 0]) (neOf h2)))))))))]) (by kernel_rfl)).to (by clear E1; (simp [wk, wkL, h2]; done))
  exact (o97 (d := (xD 0 0 0 0 0 disp imm cc)) (E1 ++ [tC (nt (andT rfl (andT rfl (andT rfl (andT rfl (andT rfl (andF (y := eqCells [.int .i64 imm, .int .i8 cc] [.int .i64 0, .int .i8 0]) (neOf h1))))))))]) (by kernel_rfl)).to (by clear E1; (simp [wk, wkL, h1]; done))
 exact (o97 (d := (xD 0 0 0 0 base disp imm cc)) (E1 ++ [tC (nt (andT rfl (andT rfl (andT rfl (andT rfl (andF (y := eqCells [.int .i64 disp, .int .i64 imm, .int .i8 cc] [.int .i64 0, .int .i64 0, .int .i8 0]) (neOf h0)))))))]) (by kernel_rfl)).to (by clear E1; (simp [wk, wkL, h0]; done))
theorem bareL_2_ok (op w dst src base disp imm cc : Int) : Ret Tryz.prog 97 ([xD op w dst src base disp imm cc, .int .i8 2]) (xD 0 0 0 0 base disp imm cc) := by
 let E1 : EL := [tF, tT, tT, tT, tT, tF, tF, .flat _ _ flat_X]
 by_cases h0 : base = 0
 ·subst h0
  by_cases h1 : disp = 0
  ·subst h1
   by_cases h2 : imm = 0
   ·subst h2
    by_cases h3 : cc = 0
    ·subst h3
     exact (o97 (d := (xD 0 0 0 0 0 0 0 0)) (E1 ++ [tF]) (by kernel_rfl)).to (by clear E1; (simp [wk, wkL, ]; done))
    exact (o97 (d := (xD 0 0 0 0 0 0 0 cc)) (E1 ++ [tC (nt (andT rfl (andT rfl (andT rfl (andT rfl (andT rfl (andT rfl (andT rfl (andF (y := true) (neOf h3))))))))))]) (by kernel_rfl)).to (by clear E1; (simp [wk, wkL, h3]; done))
   exact (o97 (d := (xD 0 0 0 0 0 0 imm cc)) (E1 ++ [tC (nt (andT rfl (andT rfl (andT rfl (andT rfl (andT rfl (andT rfl (andF (y := eqCells [.int .i8 cc] [.int .i8 0]) (neOf h2)))))))))]) (by kernel_rfl)).to (by clear E1; (simp [wk, wkL, h2]; done))
  exact (o97 (d := (xD 0 0 0 0 0 disp imm cc)) (E1 ++ [tC (nt (andT rfl (andT rfl (andT rfl (andT rfl (andT rfl (andF (y := eqCells [.int .i64 imm, .int .i8 cc] [.int .i64 0, .int .i8 0]) (neOf h1))))))))]) (by kernel_rfl)).to (by clear E1; (simp [wk, wkL, h1]; done))
 exact (o97 (d := (xD 0 0 0 0 base disp imm cc)) (E1 ++ [tC (nt (andT rfl (andT rfl (andT rfl (andT rfl (andF (y := eqCells [.int .i64 disp, .int .i64 imm, .int .i8 cc] [.int .i64 0, .int .i64 0, .int .i8 0]) (neOf h0)))))))]) (by kernel_rfl)).to (by clear E1; (simp [wk, wkL, h0]; done))
theorem bareL_3_ok (op w dst src base disp imm cc : Int) : Ret Tryz.prog 97 ([xD op w dst src base disp imm cc, .int .i8 3]) (xD 0 0 0 src base disp 0 cc) := by
 let E1 : EL := [tF, tF, tF, tT, tT, tT, tT, tF, tF, .flat _ _ flat_X]
 by_cases h0 : src = 0
 ·subst h0
  by_cases h1 : base = 0
  ·subst h1
   by_cases h2 : disp = 0
   ·subst h2
    by_cases h3 : cc = 0
    ·subst h3
     exact (o97 (d := (xD 0 0 0 0 0 0 0 0)) (E1 ++ [tF]) (by kernel_rfl)).to (by clear E1; (simp [wk, wkL, ]; done))
    exact (o97 (d := (xD 0 0 0 0 0 0 0 cc)) (E1 ++ [tC (nt (andT rfl (andT rfl (andT rfl (andT rfl (andT rfl (andT rfl (andT rfl (andF (y := true) (neOf h3))))))))))]) (by kernel_rfl)).to (by clear E1; (simp [wk, wkL, h3]; done))
   exact (o97 (d := (xD 0 0 0 0 0 disp 0 cc)) (E1 ++ [tC (nt (andT rfl (andT rfl (andT rfl (andT rfl (andT rfl (andF (y := eqCells [.int .i64 0, .int .i8 cc] [.int .i64 0, .int .i8 0]) (neOf h2))))))))]) (by kernel_rfl)).to (by clear E1; (simp [wk, wkL, h2]; done))
  exact (o97 (d := (xD 0 0 0 0 base disp 0 cc)) (E1 ++ [tC (nt (andT rfl (andT rfl (andT rfl (andT rfl (andF (y := eqCells [.int .i64 disp, .int .i64 0, .int .i8 cc] [.int .i64 0, .int .i64 0, .int .i8 0]) (neOf h1)))))))]) (by kernel_rfl)).to (by clear E1; (simp [wk, wkL, h1]; done))
 exact (o97 (d := (xD 0 0 0 src base disp 0 cc)) (E1 ++ [tC (nt (andT rfl (andT rfl (andT rfl (andF (y := eqCells [.int .i8 base, .int .i64 disp, .int .i64 0, .int .i8 cc] [.int .i8 0, .int .i64 0, .int .i64 0, .int .i8 0]) (neOf h0))))))]) (by kernel_rfl)).to (by clear E1; (simp [wk, wkL, h0]; done))
theorem bareL_4_ok (op w dst src base disp imm cc : Int) : Ret Tryz.prog 97 ([xD op w dst src base disp imm cc, .int .i8 4]) (xD 0 0 0 src base disp 0 cc) := by
 let E1 : EL := [tF, tF, tF, tF, tT, tT, tT, tF, tF, .flat _ _ flat_X]
 by_cases h0 : src = 0
 ·subst h0
  by_cases h1 : base = 0
  ·subst h1
   by_cases h2 : disp = 0
   ·subst h2
    by_cases h3 : cc = 0
    ·subst h3
     exact (o97 (d := (xD 0 0 0 0 0 0 0 0)) (E1 ++ [tF]) (by kernel_rfl)).to (by clear E1; (simp [wk, wkL, ]; done))
    exact (o97 (d := (xD 0 0 0 0 0 0 0 cc)) (E1 ++ [tC (nt (andT rfl (andT rfl (andT rfl (andT rfl (andT rfl (andT rfl (andT rfl (andF (y := true) (neOf h3))))))))))]) (by kernel_rfl)).to (by clear E1; (simp [wk, wkL, h3]; done))
   exact (o97 (d := (xD 0 0 0 0 0 disp 0 cc)) (E1 ++ [tC (nt (andT rfl (andT rfl (andT rfl (andT rfl (andT rfl (andF (y := eqCells [.int .i64 0, .int .i8 cc] [.int .i64 0, .int .i8 0]) (neOf h2))))))))]) (by kernel_rfl)).to (by clear E1; (simp [wk, wkL, h2]; done))
  exact (o97 (d := (xD 0 0 0 0 base disp 0 cc)) (E1 ++ [tC (nt (andT rfl (andT rfl (andT rfl (andT rfl (andF (y := eqCells [.int .i64 disp, .int .i64 0, .int .i8 cc] [.int .i64 0, .int .i64 0, .int .i8 0]) (neOf h1)))))))]) (by kernel_rfl)).to (by clear E1; (simp [wk, wkL, h1]; done))
 exact (o97 (d := (xD 0 0 0 src base disp 0 cc)) (E1 ++ [tC (nt (andT rfl (andT rfl (andT rfl (andF (y := eqCells [.int .i8 base, .int .i64 disp, .int .i64 0, .int .i8 cc] [.int .i8 0, .int .i64 0, .int .i64 0, .int .i8 0]) (neOf h0))))))]) (by kernel_rfl)).to (by clear E1; (simp [wk, wkL, h0]; done))
theorem bareL_5_ok (op w dst src base disp imm cc : Int) : Ret Tryz.prog 97 ([xD op w dst src base disp imm cc, .int .i8 5]) (xD 0 0 0 src base disp imm cc) := by
 let E1 : EL := [tF, tF, tF, tF, tF, tT, tT, tT, tF, tF, .flat _ _ flat_X]
 by_cases h0 : src = 0
 ·subst h0
  by_cases h1 : base = 0
  ·subst h1
   by_cases h2 : disp = 0
   ·subst h2
    by_cases h3 : imm = 0
    ·subst h3
     by_cases h4 : cc = 0
     ·subst h4
      exact (o97 (d := (xD 0 0 0 0 0 0 0 0)) (E1 ++ [tF]) (by kernel_rfl)).to (by clear E1; (simp [wk, wkL, ]; done))
     exact (o97 (d := (xD 0 0 0 0 0 0 0 cc)) (E1 ++ [tC (nt (andT rfl (andT rfl (andT rfl (andT rfl (andT rfl (andT rfl (andT rfl (andF (y := true) (neOf h4))))))))))]) (by kernel_rfl)).to (by clear E1; (simp [wk, wkL, h4]; done))
    exact (o97 (d := (xD 0 0 0 0 0 0 imm cc)) (E1 ++ [tC (nt (andT rfl (andT rfl (andT rfl (andT rfl (andT rfl (andT rfl (andF (y := eqCells [.int .i8 cc] [.int .i8 0]) (neOf h3)))))))))]) (by kernel_rfl)).to (by clear E1; (simp [wk, wkL, h3]; done))
   exact (o97 (d := (xD 0 0 0 0 0 disp imm cc)) (E1 ++ [tC (nt (andT rfl (andT rfl (andT rfl (andT rfl (andT rfl (andF (y := eqCells [.int .i64 imm, .int .i8 cc] [.int .i64 0, .int .i8 0]) (neOf h2))))))))]) (by kernel_rfl)).to (by clear E1; (simp [wk, wkL, h2]; done))
  exact (o97 (d := (xD 0 0 0 0 base disp imm cc)) (E1 ++ [tC (nt (andT rfl (andT rfl (andT rfl (andT rfl (andF (y := eqCells [.int .i64 disp, .int .i64 imm, .int .i8 cc] [.int .i64 0, .int .i64 0, .int .i8 0]) (neOf h1)))))))]) (by kernel_rfl)).to (by clear E1; (simp [wk, wkL, h1]; done))
 exact (o97 (d := (xD 0 0 0 src base disp imm cc)) (E1 ++ [tC (nt (andT rfl (andT rfl (andT rfl (andF (y := eqCells [.int .i8 base, .int .i64 disp, .int .i64 imm, .int .i8 cc] [.int .i8 0, .int .i64 0, .int .i64 0, .int .i8 0]) (neOf h0))))))]) (by kernel_rfl)).to (by clear E1; (simp [wk, wkL, h0]; done))
theorem bareL_6_ok (op w dst src base disp imm cc : Int) : Ret Tryz.prog 97 ([xD op w dst src base disp imm cc, .int .i8 6]) (xD 0 0 0 0 base disp imm 0) := by
 let E1 : EL := [tF, tF, tT, tF, tF, tT, tT, .flat _ _ flat_X]
 by_cases h0 : base = 0
 ·subst h0
  by_cases h1 : disp = 0
  ·subst h1
   by_cases h2 : imm = 0
   ·subst h2
    exact (o97 (d := (xD 0 0 0 0 0 0 0 0)) (E1 ++ [tF]) (by kernel_rfl)).to (by clear E1; (simp [wk, wkL, ]; done))
   exact (o97 (d := (xD 0 0 0 0 0 0 imm 0)) (E1 ++ [tC (nt (andT rfl (andT rfl (andT rfl (andT rfl (andT rfl (andT rfl (andF (y := true) (neOf h2)))))))))]) (by kernel_rfl)).to (by clear E1; (simp [wk, wkL, h2]; done))
  exact (o97 (d := (xD 0 0 0 0 0 disp imm 0)) (E1 ++ [tC (nt (andT rfl (andT rfl (andT rfl (andT rfl (andT rfl (andF (y := eqCells [.int .i64 imm, .int .i8 0] [.int .i64 0, .int .i8 0]) (neOf h1))))))))]) (by kernel_rfl)).to (by clear E1; (simp [wk, wkL, h1]; done))
 exact (o97 (d := (xD 0 0 0 0 base disp imm 0)) (E1 ++ [tC (nt (andT rfl (andT rfl (andT rfl (andT rfl (andF (y := eqCells [.int .i64 disp, .int .i64 imm, .int .i8 0] [.int .i64 0, .int .i64 0, .int .i8 0]) (neOf h0)))))))]) (by kernel_rfl)).to (by clear E1; (simp [wk, wkL, h0]; done))
theorem bareL_7_ok (op w dst src base disp imm cc : Int) : Ret Tryz.prog 97 ([xD op w dst src base disp imm cc, .int .i8 7]) (xD 0 0 0 src 0 0 imm cc) := by
 let E1 : EL := [tF, tF, tF, tF, tF, tF, tT, tT, tT, tF, tF, .flat _ _ flat_X]
 by_cases h0 : src = 0
 ·subst h0
  by_cases h1 : imm = 0
  ·subst h1
   by_cases h2 : cc = 0
   ·subst h2
    exact (o97 (d := (xD 0 0 0 0 0 0 0 0)) (E1 ++ [tF]) (by kernel_rfl)).to (by clear E1; (simp [wk, wkL, ]; done))
   exact (o97 (d := (xD 0 0 0 0 0 0 0 cc)) (E1 ++ [tC (nt (andT rfl (andT rfl (andT rfl (andT rfl (andT rfl (andT rfl (andT rfl (andF (y := true) (neOf h2))))))))))]) (by kernel_rfl)).to (by clear E1; (simp [wk, wkL, h2]; done))
  exact (o97 (d := (xD 0 0 0 0 0 0 imm cc)) (E1 ++ [tC (nt (andT rfl (andT rfl (andT rfl (andT rfl (andT rfl (andT rfl (andF (y := eqCells [.int .i8 cc] [.int .i8 0]) (neOf h1)))))))))]) (by kernel_rfl)).to (by clear E1; (simp [wk, wkL, h1]; done))
 exact (o97 (d := (xD 0 0 0 src 0 0 imm cc)) (E1 ++ [tC (nt (andT rfl (andT rfl (andT rfl (andF (y := eqCells [.int .i8 0, .int .i64 0, .int .i64 imm, .int .i8 cc] [.int .i8 0, .int .i64 0, .int .i64 0, .int .i8 0]) (neOf h0))))))]) (by kernel_rfl)).to (by clear E1; (simp [wk, wkL, h0]; done))
theorem bareL_8_ok (op w dst src base disp imm cc : Int) : Ret Tryz.prog 97 ([xD op w dst src base disp imm cc, .int .i8 8]) (xD 0 0 dst 0 0 0 imm cc) := by
 let E1 : EL := [tF, tF, tF, tF, tF, tF, tF, tT, tT, tT, tF, tF, .flat _ _ flat_X]
 by_cases h0 : dst = 0
 ·subst h0
  by_cases h1 : imm = 0
  ·subst h1
   by_cases h2 : cc = 0
   ·subst h2
    exact (o97 (d := (xD 0 0 0 0 0 0 0 0)) (E1 ++ [tF]) (by kernel_rfl)).to (by clear E1; (simp [wk, wkL, ]; done))
   exact (o97 (d := (xD 0 0 0 0 0 0 0 cc)) (E1 ++ [tC (nt (andT rfl (andT rfl (andT rfl (andT rfl (andT rfl (andT rfl (andT rfl (andF (y := true) (neOf h2))))))))))]) (by kernel_rfl)).to (by clear E1; (simp [wk, wkL, h2]; done))
  exact (o97 (d := (xD 0 0 0 0 0 0 imm cc)) (E1 ++ [tC (nt (andT rfl (andT rfl (andT rfl (andT rfl (andT rfl (andT rfl (andF (y := eqCells [.int .i8 cc] [.int .i8 0]) (neOf h1)))))))))]) (by kernel_rfl)).to (by clear E1; (simp [wk, wkL, h1]; done))
 exact (o97 (d := (xD 0 0 dst 0 0 0 imm cc)) (E1 ++ [tC (nt (andT rfl (andT rfl (andF (y := eqCells [.int .i8 0, .int .i8 0, .int .i64 0, .int .i64 imm, .int .i8 cc] [.int .i8 0, .int .i8 0, .int .i64 0, .int .i64 0, .int .i8 0]) (neOf h0)))))]) (by kernel_rfl)).to (by clear E1; (simp [wk, wkL, h0]; done))
theorem bareL_9_ok (op w dst src base disp imm cc : Int) : Ret Tryz.prog 97 ([xD op w dst src base disp imm cc, .int .i8 9]) (xD 0 0 dst src base disp 0 cc) := by
 let E1 : EL := (List.replicate 8 tF ++ [tT, tT, tT, tT, tF, tF, .flat _ _ flat_X])
 by_cases h0 : dst = 0
 ·subst h0
  by_cases h1 : src = 0
  ·subst h1
   by_cases h2 : base = 0
   ·subst h2
    by_cases h3 : disp = 0
    ·subst h3
     by_cases h4 : cc = 0
     ·subst h4
      exact (o97 (d := (xD 0 0 0 0 0 0 0 0)) (E1 ++ [tF]) (by kernel_rfl)).to (by clear E1; (simp [wk, wkL, ]; done))
     exact (o97 (d := (xD 0 0 0 0 0 0 0 cc)) (E1 ++ [tC (nt (andT rfl (andT rfl (andT rfl (andT rfl (andT rfl (andT rfl (andT rfl (andF (y := true) (neOf h4))))))))))]) (by kernel_rfl)).to (by clear E1; (simp [wk, wkL, h4]; done))
    exact (o97 (d := (xD 0 0 0 0 0 disp 0 cc)) (E1 ++ [tC (nt (andT rfl (andT rfl (andT rfl (andT rfl (andT rfl (andF (y := eqCells [.int .i64 0, .int .i8 cc] [.int .i64 0, .int .i8 0]) (neOf h3))))))))]) (by kernel_rfl)).to (by clear E1; (simp [wk, wkL, h3]; done))
   exact (o97 (d := (xD 0 0 0 0 base disp 0 cc)) (E1 ++ [tC (nt (andT rfl (andT rfl (andT rfl (andT rfl (andF (y := eqCells [.int .i64 disp, .int .i64 0, .int .i8 cc] [.int .i64 0, .int .i64 0, .int .i8 0]) (neOf h2)))))))]) (by kernel_rfl)).to (by clear E1; (simp [wk, wkL, h2]; done))
  exact (o97 (d := (xD 0 0 0 src base disp 0 cc)) (E1 ++ [tC (nt (andT rfl (andT rfl (andT rfl (andF (y := eqCells [.int .i8 base, .int .i64 disp, .int .i64 0, .int .i8 cc] [.int .i8 0, .int .i64 0, .int .i64 0, .int .i8 0]) (neOf h1))))))]) (by kernel_rfl)).to (by clear E1; (simp [wk, wkL, h1]; done))
 exact (o97 (d := (xD 0 0 dst src base disp 0 cc)) (E1 ++ [tC (nt (andT rfl (andT rfl (andF (y := eqCells [.int .i8 src, .int .i8 base, .int .i64 disp, .int .i64 0, .int .i8 cc] [.int .i8 0, .int .i8 0, .int .i64 0, .int .i64 0, .int .i8 0]) (neOf h0)))))]) (by kernel_rfl)).to (by clear E1; (simp [wk, wkL, h0]; done))
theorem bareL_10_ok (op w dst src base disp imm cc : Int) : Ret Tryz.prog 97 ([xD op w dst src base disp imm cc, .int .i8 10]) (xD 0 0 dst src base disp 0 0) := by
 let E1 : EL := (List.replicate 9 tF ++ [tT, tT, tT, tF, tT, .flat _ _ flat_X])
 by_cases h0 : dst = 0
 ·subst h0
  by_cases h1 : src = 0
  ·subst h1
   by_cases h2 : base = 0
   ·subst h2
    by_cases h3 : disp = 0
    ·subst h3
     exact (o97 (d := (xD 0 0 0 0 0 0 0 0)) (E1 ++ [tF]) (by kernel_rfl)).to (by clear E1; (simp [wk, wkL, ]; done))
    exact (o97 (d := (xD 0 0 0 0 0 disp 0 0)) (E1 ++ [tC (nt (andT rfl (andT rfl (andT rfl (andT rfl (andT rfl (andF (y := true) (neOf h3))))))))]) (by kernel_rfl)).to (by clear E1; (simp [wk, wkL, h3]; done))
   exact (o97 (d := (xD 0 0 0 0 base disp 0 0)) (E1 ++ [tC (nt (andT rfl (andT rfl (andT rfl (andT rfl (andF (y := eqCells [.int .i64 disp, .int .i64 0, .int .i8 0] [.int .i64 0, .int .i64 0, .int .i8 0]) (neOf h2)))))))]) (by kernel_rfl)).to (by clear E1; (simp [wk, wkL, h2]; done))
  exact (o97 (d := (xD 0 0 0 src base disp 0 0)) (E1 ++ [tC (nt (andT rfl (andT rfl (andT rfl (andF (y := eqCells [.int .i8 base, .int .i64 disp, .int .i64 0, .int .i8 0] [.int .i8 0, .int .i64 0, .int .i64 0, .int .i8 0]) (neOf h1))))))]) (by kernel_rfl)).to (by clear E1; (simp [wk, wkL, h1]; done))
 exact (o97 (d := (xD 0 0 dst src base disp 0 0)) (E1 ++ [tC (nt (andT rfl (andT rfl (andF (y := eqCells [.int .i8 src, .int .i8 base, .int .i64 disp, .int .i64 0, .int .i8 0] [.int .i8 0, .int .i8 0, .int .i64 0, .int .i64 0, .int .i8 0]) (neOf h0)))))]) (by kernel_rfl)).to (by clear E1; (simp [wk, wkL, h0]; done))
theorem bareL_11_ok (op w dst src base disp imm cc : Int) : Ret Tryz.prog 97 ([xD op w dst src base disp imm cc, .int .i8 11]) (xD 0 w dst src base disp imm cc) := by
 let E1 : EL := (List.replicate 10 tF ++ [tT, tT, tF, tF, .flat _ _ flat_X])
 by_cases h0 : w = 0
 ·subst h0
  by_cases h1 : dst = 0
  ·subst h1
   by_cases h2 : src = 0
   ·subst h2
    by_cases h3 : base = 0
    ·subst h3
     by_cases h4 : disp = 0
     ·subst h4
      by_cases h5 : imm = 0
      ·subst h5
       by_cases h6 : cc = 0
       ·subst h6
        exact (o97 (d := (xD 0 0 0 0 0 0 0 0)) (E1 ++ [tF]) (by kernel_rfl)).to (by clear E1; (simp [wk, wkL, ]; done))
       exact (o97 (d := (xD 0 0 0 0 0 0 0 cc)) (E1 ++ [tC (nt (andT rfl (andT rfl (andT rfl (andT rfl (andT rfl (andT rfl (andT rfl (andF (y := true) (neOf h6))))))))))]) (by kernel_rfl)).to (by clear E1; (simp [wk, wkL, h6]; done))
      exact (o97 (d := (xD 0 0 0 0 0 0 imm cc)) (E1 ++ [tC (nt (andT rfl (andT rfl (andT rfl (andT rfl (andT rfl (andT rfl (andF (y := eqCells [.int .i8 cc] [.int .i8 0]) (neOf h5)))))))))]) (by kernel_rfl)).to (by clear E1; (simp [wk, wkL, h5]; done))
     exact (o97 (d := (xD 0 0 0 0 0 disp imm cc)) (E1 ++ [tC (nt (andT rfl (andT rfl (andT rfl (andT rfl (andT rfl (andF (y := eqCells [.int .i64 imm, .int .i8 cc] [.int .i64 0, .int .i8 0]) (neOf h4))))))))]) (by kernel_rfl)).to (by clear E1; (simp [wk, wkL, h4]; done))
    exact (o97 (d := (xD 0 0 0 0 base disp imm cc)) (E1 ++ [tC (nt (andT rfl (andT rfl (andT rfl (andT rfl (andF (y := eqCells [.int .i64 disp, .int .i64 imm, .int .i8 cc] [.int .i64 0, .int .i64 0, .int .i8 0]) (neOf h3)))))))]) (by kernel_rfl)).to (by clear E1; (simp [wk, wkL, h3]; done))
   exact (o97 (d := (xD 0 0 0 src base disp imm cc)) (E1 ++ [tC (nt (andT rfl (andT rfl (andT rfl (andF (y := eqCells [.int .i8 base, .int .i64 disp, .int .i64 imm, .int .i8 cc] [.int .i8 0, .int .i64 0, .int .i64 0, .int .i8 0]) (neOf h2))))))]) (by kernel_rfl)).to (by clear E1; (simp [wk, wkL, h2]; done))
  exact (o97 (d := (xD 0 0 dst src base disp imm cc)) (E1 ++ [tC (nt (andT rfl (andT rfl (andF (y := eqCells [.int .i8 src, .int .i8 base, .int .i64 disp, .int .i64 imm, .int .i8 cc] [.int .i8 0, .int .i8 0, .int .i64 0, .int .i64 0, .int .i8 0]) (neOf h1)))))]) (by kernel_rfl)).to (by clear E1; (simp [wk, wkL, h1]; done))
 exact (o97 (d := (xD 0 w dst src base disp imm cc)) (E1 ++ [tC (nt (andT rfl (andF (y := eqCells [.int .i8 dst, .int .i8 src, .int .i8 base, .int .i64 disp, .int .i64 imm, .int .i8 cc] [.int .i8 0, .int .i8 0, .int .i8 0, .int .i64 0, .int .i64 0, .int .i8 0]) (neOf h0))))]) (by kernel_rfl)).to (by clear E1; (simp [wk, wkL, h0]; done))
end Go.Proofs.YtojgmjfcfpclbaaGreat

namespace Go.Proofs.YtojgmjfcfpclbaaGreat
open Go Go.Ev
set_option maxRecDepth 100000
set_option maxHeartbeats 8000000
theorem rlong01_ok (w : Int) : Ret Tryz.prog 88 ([.int .i8 w]) (.bool (longM w)) := by
 by_cases h0 : w = 32
 ·subst h0
  exact (o88 (d := .bool true) [tF, tF, tT] (by kernel_rfl)).to (by simp only [wk, D.bool.injEq, longM]; first | rfl | (rw [Bool.eq_iff_iff]; simp []; try omega))
 exact (o88 (d := .bool (w == 64)) [tC (eF (neOf h0)), tC (eF (neOf h0)), tC (neOf h0)] (by kernel_rfl)).to (by simp only [wk, D.bool.injEq, longM]; first | rfl | (rw [Bool.eq_iff_iff]; simp [h0]; try omega))
theorem rcut_8_ok (v : Int) : Ret Tryz.prog 64 ([.int .u64 v, .int .i8 8]) (.int .u64 (cutM v 8)) := by
 have c0 := @rwidth_ok 8
 exact (o64 (d := .int .u64 (IntKind.wrap IntKind.u64 (↑(BitVec.toNat (BitVec.ofInt (64 : Nat) v &&& BitVec.ofInt (64 : Nat) 255)) : Int))) [.ret _ _ _ c0, tT, tT, tF, tF, tT] (by kernel_rfl)).to (by first | rfl | (simp only [wk, D.int.injEq, true_and, and8u, show cutM v 8 = v % 256 from rfl]; rw [w_u64]; omega))
theorem rcut_16_ok (v : Int) : Ret Tryz.prog 64 ([.int .u64 v, .int .i8 16]) (.int .u64 (cutM v 16)) := by
 have c0 := @rwidth_ok 16
 exact (o64 (d := .int .u64 (IntKind.wrap IntKind.u64 (↑(BitVec.toNat (BitVec.ofInt (64 : Nat) v &&& BitVec.ofInt (64 : Nat) 65535)) : Int))) [.ret _ _ _ c0, tT, tT, tF, tF, tT] (by kernel_rfl)).to (by first | rfl | (simp only [wk, D.int.injEq, true_and, and16u, show cutM v 16 = v % 65536 from rfl]; rw [w_u64]; omega))
theorem rcut_32_ok (v : Int) : Ret Tryz.prog 64 ([.int .u64 v, .int .i8 32]) (.int .u64 (cutM v 32)) := by
 have c0 := @rwidth_ok 32
 exact (o64 (d := .int .u64 (IntKind.wrap IntKind.u64 (↑(BitVec.toNat (BitVec.ofInt (64 : Nat) v &&& BitVec.ofInt (64 : Nat) 4294967295)) : Int))) [.ret _ _ _ c0, tT, tT, tF, tF, tT] (by kernel_rfl)).to (by first | rfl | (simp only [wk, D.int.injEq, true_and, and32, show cutM v 32 = v % 4294967296 from rfl]; rw [w_u64]; omega))
theorem rcut_64_ok (v : Int) : Ret Tryz.prog 64 ([.int .u64 v, .int .i8 64]) (.int .u64 (cutM v 64)) := by
 have c0 := @rwidth_ok 64
 exact (o64 (d := .int .u64 v) [.ret _ _ _ c0, tT, tT, tF, tT] (by kernel_rfl)).to (by rfl)
end Go.Proofs.YtojgmjfcfpclbaaGreat

namespace Go.Proofs.YtojgmjfcfpclbaaGreat
open Go Go.Ev
theorem rcut_ok (v w : Int) (hw : widthM w = true) : Ret Tryz.prog 64 [.int .u64 v, .int .i8 w] (.int .u64 (cutM v w)) := by
  rcases width_cases hw with rfl | rfl | rfl | rfl
  · exact rcut_8_ok v
  · exact rcut_16_ok v
  · exact rcut_32_ok v
  · exact rcut_64_ok v
theorem rcut_l_ok (v w : Int) (hw : longM w = true) : Ret Tryz.prog 64 [.int .u64 v, .int .i8 w] (.int .u64 (cutM v w)) :=
  rcut_ok v w (by rcases long_cases hw with rfl | rfl <;> rfl)
end Go.Proofs.YtojgmjfcfpclbaaGreat

namespace Go.Proofs.YtojgmjfcfpclbaaGreat
open Go Go.Ev
set_option maxRecDepth 100000
set_option maxHeartbeats 8000000
theorem rdo_0_ok (w a b : Int) (hw : longM w = true) : Ret Tryz.prog 42 ([.int .i8 0, .int .i8 w, .int .u64 a, .int .u64 b]) (.tup [.int .u64 (doM 0 w a b), .int .i64 0]) := by
 have c0 := @rlong01_ok w
 rw [show (longM w) = true from hw] at c0
 have c1 := @rcut_l_ok a w hw
 have c2 := @rcut_l_ok b w hw
 have c3 := @rcut_l_ok (IntKind.wrap IntKind.u64 (cutM a w + cutM b w)) w hw
 exact (o42 (d := .tup [.int .u64 (cutM (IntKind.wrap IntKind.u64 (cutM a w + cutM b w)) w), .int .i64 0]) [tT, tT, tF, tT, tT, .ret _ _ _ c0, tT, tF, tF, .ret _ _ _ c1, .ret _ _ _ c2, tT, .ret _ _ _ c3] (by kernel_rfl)).to (by ((simp only [wk, wkL, and_true]; repeat' (first | rfl | exact True.intro | apply And.intro)); done))
theorem rdo_1_ok (w a b : Int) (hw : longM w = true) : Ret Tryz.prog 42 ([.int .i8 1, .int .i8 w, .int .u64 a, .int .u64 b]) (.tup [.int .u64 (doM 1 w a b), .int .i64 0]) := by
 have c0 := @rlong01_ok w
 rw [show (longM w) = true from hw] at c0
 have c1 := @rcut_l_ok a w hw
 have c2 := @rcut_l_ok b w hw
 have c3 := @rcut_l_ok (IntKind.wrap IntKind.u64 (cutM a w - cutM b w)) w hw
 exact (o42 (d := .tup [.int .u64 (cutM (IntKind.wrap IntKind.u64 (cutM a w - cutM b w)) w), .int .i64 0]) [tT, tT, tF, tT, tT, .ret _ _ _ c0, tT, tF, tF, .ret _ _ _ c1, .ret _ _ _ c2, tF, tT, .ret _ _ _ c3] (by kernel_rfl)).to (by ((simp only [wk, wkL, and_true]; repeat' (first | rfl | exact True.intro | apply And.intro)); done))
theorem rdo_2_ok (w a b : Int) (hw : longM w = true) : Ret Tryz.prog 42 ([.int .i8 2, .int .i8 w, .int .u64 a, .int .u64 b]) (.tup [.int .u64 (doM 2 w a b), .int .i64 0]) := by
 have c0 := @rlong01_ok w
 rw [show (longM w) = true from hw] at c0
 have c1 := @rcut_l_ok a w hw
 have c2 := @rcut_l_ok b w hw
 have c3 := @rcut_l_ok (IntKind.wrap IntKind.u64 (cutM a w * cutM b w)) w hw
 exact (o42 (d := .tup [.int .u64 (cutM (IntKind.wrap IntKind.u64 (cutM a w * cutM b w)) w), .int .i64 0]) [tT, tT, tF, tT, tT, .ret _ _ _ c0, tT, tF, tF, .ret _ _ _ c1, .ret _ _ _ c2, tF, tF, tT, .ret _ _ _ c3] (by kernel_rfl)).to (by ((simp only [wk, wkL, and_true]; repeat' (first | rfl | exact True.intro | apply And.intro)); done))
theorem rdo_4_ok (w a b : Int) (hw : longM w = true) : Ret Tryz.prog 42 ([.int .i8 4, .int .i8 w, .int .u64 a, .int .u64 b]) (.tup [.int .u64 (doM 4 w a b), .int .i64 0]) := by
 have c0 := @rlong01_ok w
 rw [show (longM w) = true from hw] at c0
 have c1 := @rcut_l_ok a w hw
 have c2 := @rcut_l_ok b w hw
 have c3 := @rcut_l_ok (IntKind.wrap IntKind.u64 (↑(BitVec.toNat (BitVec.ofInt (64 : Nat) (cutM a w) ||| BitVec.ofInt (64 : Nat) (cutM b w))) : Int)) w hw
 exact (o42 (d := .tup [.int .u64 (cutM (IntKind.wrap IntKind.u64 (↑(BitVec.toNat (BitVec.ofInt (64 : Nat) (cutM a w) ||| BitVec.ofInt (64 : Nat) (cutM b w))) : Int)) w), .int .i64 0]) [tT, tT, tF, tT, tT, .ret _ _ _ c0, tT, tF, tF, .ret _ _ _ c1, .ret _ _ _ c2, tF, tF, tF, tF, tF, tT, .ret _ _ _ c3] (by kernel_rfl)).to (by ((simp only [wk, wkL, and_true]; repeat' (first | rfl | exact True.intro | apply And.intro)); done))
theorem rdo_5_ok (w a b : Int) (hw : longM w = true) : Ret Tryz.prog 42 ([.int .i8 5, .int .i8 w, .int .u64 a, .int .u64 b]) (.tup [.int .u64 (doM 5 w a b), .int .i64 0]) := by
 have c0 := @rlong01_ok w
 rw [show (longM w) = true from hw] at c0
 have c1 := @rcut_l_ok a w hw
 have c2 := @rcut_l_ok b w hw
 have c3 := @rcut_l_ok (IntKind.wrap IntKind.u64 (↑(BitVec.toNat (BitVec.ofInt (64 : Nat) (cutM a w) &&& BitVec.ofInt (64 : Nat) (cutM b w))) : Int)) w hw
 exact (o42 (d := .tup [.int .u64 (cutM (IntKind.wrap IntKind.u64 (↑(BitVec.toNat (BitVec.ofInt (64 : Nat) (cutM a w) &&& BitVec.ofInt (64 : Nat) (cutM b w))) : Int)) w), .int .i64 0]) [tT, tT, tF, tT, tT, .ret _ _ _ c0, tT, tF, tF, .ret _ _ _ c1, .ret _ _ _ c2, tF, tF, tF, tF, tF, tF, tT, .ret _ _ _ c3] (by kernel_rfl)).to (by ((simp only [wk, wkL, and_true]; repeat' (first | rfl | exact True.intro | apply And.intro)); done))
theorem rdo_6_ok (w a b : Int) (hw : longM w = true) : Ret Tryz.prog 42 ([.int .i8 6, .int .i8 w, .int .u64 a, .int .u64 b]) (.tup [.int .u64 (doM 6 w a b), .int .i64 0]) := by
 have c0 := @rlong01_ok w
 rw [show (longM w) = true from hw] at c0
 have c1 := @rcut_l_ok a w hw
 have c2 := @rcut_l_ok b w hw
 have c3 := @rcut_l_ok (IntKind.wrap IntKind.u64 (cutM a w * 2 ^ min (Int.toNat (IntKind.wrap IntKind.u64 (↑(BitVec.toNat (BitVec.ofInt (64 : Nat) (cutM b w) &&& BitVec.ofInt (64 : Nat) (IntKind.wrap IntKind.u64 (IntKind.wrap IntKind.i8 (w - 1))))) : Int))) (64 : Nat))) w hw
 exact (o42 (d := .tup [.int .u64 (cutM (IntKind.wrap IntKind.u64 (cutM a w * 2 ^ min (Int.toNat (IntKind.wrap IntKind.u64 (↑(BitVec.toNat (BitVec.ofInt (64 : Nat) (cutM b w) &&& BitVec.ofInt (64 : Nat) (IntKind.wrap IntKind.u64 (IntKind.wrap IntKind.i8 (w - 1))))) : Int))) (64 : Nat))) w), .int .i64 0]) ([tT, tT, tF, tT, tT, .ret _ _ _ c0, tT, tF, tF, .ret _ _ _ c1, .ret _ _ _ c2] ++ List.replicate 8 tF ++ [tT, tT, .ret _ _ _ c3]) (by kernel_rfl)).to (by ((simp only [wk, wkL, and_true]; repeat' (first | rfl | exact True.intro | apply And.intro)); done))
theorem rdo_7_ok (w a b : Int) (hw : longM w = true) : Ret Tryz.prog 42 ([.int .i8 7, .int .i8 w, .int .u64 a, .int .u64 b]) (.tup [.int .u64 (doM 7 w a b), .int .i64 0]) := by
 have c0 := @rlong01_ok w
 rw [show (longM w) = true from hw] at c0
 have c1 := @rcut_l_ok a w hw
 have c2 := @rcut_l_ok b w hw
 have c3 := @rcut_l_ok (Int.fdiv (cutM a w) (2 ^ min (Int.toNat (IntKind.wrap IntKind.u64 (↑(BitVec.toNat (BitVec.ofInt (64 : Nat) (cutM b w) &&& BitVec.ofInt (64 : Nat) (IntKind.wrap IntKind.u64 (IntKind.wrap IntKind.i8 (w - 1))))) : Int))) (64 : Nat))) w hw
 exact (o42 (d := .tup [.int .u64 (cutM (Int.fdiv (cutM a w) (2 ^ min (Int.toNat (IntKind.wrap IntKind.u64 (↑(BitVec.toNat (BitVec.ofInt (64 : Nat) (cutM b w) &&& BitVec.ofInt (64 : Nat) (IntKind.wrap IntKind.u64 (IntKind.wrap IntKind.i8 (w - 1))))) : Int))) (64 : Nat))) w), .int .i64 0]) ([tT, tT, tF, tT, tT, .ret _ _ _ c0, tT, tF, tF, .ret _ _ _ c1, .ret _ _ _ c2] ++ List.replicate 9 tF ++ [tT, tT, .ret _ _ _ c3]) (by kernel_rfl)).to (by ((simp only [wk, wkL, and_true]; repeat' (first | rfl | exact True.intro | apply And.intro)); done))
theorem rdo_8_ok (w a b : Int) (hw : longM w = true) : Ret Tryz.prog 42 ([.int .i8 8, .int .i8 w, .int .u64 a, .int .u64 b]) (.tup [.int .u64 (doM 8 w a b), .int .i64 0]) := by
 have c0 := @rlong01_ok w
 rw [show (longM w) = true from hw] at c0
 have c1 := @rcut_l_ok a w hw
 have c2 := @rcut_l_ok b w hw
 have c3 := @rcut_l_ok (IntKind.wrap IntKind.u64 (0 - cutM a w)) w hw
 exact (o42 (d := .tup [.int .u64 (cutM (IntKind.wrap IntKind.u64 (0 - cutM a w)) w), .int .i64 0]) ([tT, tT, tF, tT, tT, .ret _ _ _ c0, tT, tF, tF, .ret _ _ _ c1, .ret _ _ _ c2] ++ List.replicate 11 tF ++ [tT, .ret _ _ _ c3]) (by kernel_rfl)).to (by ((simp only [wk, wkL, and_true]; repeat' (first | rfl | exact True.intro | apply And.intro)); done))
theorem rdo_10_ok (w a b : Int) (hw : longM w = true) : Ret Tryz.prog 42 ([.int .i8 10, .int .i8 w, .int .u64 a, .int .u64 b]) (.tup [.int .u64 (doM 10 w a b), .int .i64 0]) := by
 have c0 := @rlong01_ok w
 rw [show (longM w) = true from hw] at c0
 have c1 := @rcut_l_ok a w hw
 have c2 := @rcut_l_ok b w hw
 have c3 := @rcut_l_ok (IntKind.wrap IntKind.u64 (↑(BitVec.toNat (BitVec.ofInt (64 : Nat) (cutM a w) ^^^ BitVec.ofInt (64 : Nat) (cutM b w))) : Int)) w hw
 exact (o42 (d := .tup [.int .u64 (cutM (IntKind.wrap IntKind.u64 (↑(BitVec.toNat (BitVec.ofInt (64 : Nat) (cutM a w) ^^^ BitVec.ofInt (64 : Nat) (cutM b w))) : Int)) w), .int .i64 0]) [tT, tT, tF, tT, tT, .ret _ _ _ c0, tT, tF, tF, .ret _ _ _ c1, .ret _ _ _ c2, tF, tF, tF, tF, tF, tF, tF, tT, .ret _ _ _ c3] (by kernel_rfl)).to (by ((simp only [wk, wkL, and_true]; repeat' (first | rfl | exact True.intro | apply And.intro)); done))
theorem rtop_ok (v w : Int) (hw : longM w = true) : Ret Tryz.prog 124 ([.int .u64 v, .int .i8 w]) (.bool (topM v w)) := by
 exact (o124 (d := .bool (IntKind.wrap IntKind.u64 (↑(BitVec.toNat (BitVec.ofInt (64 : Nat) (Int.fdiv v (2 ^ min (Int.toNat (IntKind.wrap IntKind.i8 (w - 1))) (64 : Nat))) &&& BitVec.ofInt (64 : Nat) 1)) : Int) == 1)) [tC (v := true) (@wm1_nn w hw)] (by kernel_rfl)).to (by ((simp only [wk, wkL, and_true]; repeat' (first | rfl | exact True.intro | apply And.intro)); done))
theorem rwidth14_ok (w : Int) : Ret Tryz.prog 122 ([.int .i8 w]) (.bool (longM w)) := by
 by_cases h0 : w = 32
 ·subst h0
  exact (o122 (d := .bool true) [tF, tF, tT] (by kernel_rfl)).to (by simp only [wk, D.bool.injEq, longM]; rfl)
 exact (o122 (d := .bool (w == 64)) [tC (eF (neOf h0)), tC (eF (neOf h0)), tC (neOf h0)] (by kernel_rfl)).to (by simp only [wk, D.bool.injEq, longM]; (rw [Bool.eq_iff_iff]; simp [h0]; try omega))
theorem rnone_ok  : Ret Tryz.prog 66 ([]) (fD false false false false false) := by
 exact (o66 (d := .agg [.bool false, .bool false, .bool false, .bool false, .bool false]) [] (by kernel_rfl)).to (by ((simp only [wk, wkL, and_true]; repeat' (first | rfl | exact True.intro | apply And.intro)); done))
theorem rmade_ok (w v : Int) (c o : Bool) (hw : longM w = true) : Ret Tryz.prog 123 ([.int .i8 w, .int .u64 v, .bool c, .bool o]) (fD true c (cutM v w == 0) (topM (cutM v w) w) o) := by
 have c0 := @rcut_l_ok v w hw
 have c1 := @rtop_ok (cutM v w) w hw
 exact (o123 (d := .agg [.bool true, .bool c, .bool (cutM v w == 0), .bool (topM (cutM v w) w), .bool o]) [.ret _ _ _ c0, .ret _ _ _ c1] (by kernel_rfl)).to (by ((simp only [wk, wkL, and_true]; repeat' (first | rfl | exact True.intro | apply And.intro)); done))
theorem rof_ok (w v : Int) (hw : longM w = true) : Ret Tryz.prog 121 ([.int .i8 w, .int .u64 v]) (.tup [fD true false (cutM v w == 0) (negM v w) false, .int .i64 0]) := by
 have c0 := @rwidth14_ok w
 rw [show (longM w) = true from hw] at c0
 have c1 := @rmade_ok w v false false hw
 exact (o121 (d := .tup [.agg [.bool true, .bool false, .bool (cutM v w == 0), .bool (topM (cutM v w) w), .bool false], .int .i64 0]) [.ret _ _ _ c0, tF, .ret _ _ _ c1] (by kernel_rfl)).to (by simp only [wk, wkL, and_true, fD]; rw [top_cut hw, ← neg_top hw]; simp [wk, wkL])
end Go.Proofs.YtojgmjfcfpclbaaGreat

namespace Go.Proofs.YtojgmjfcfpclbaaGreat
open Go Go.Ev
set_option maxRecDepth 100000
set_option maxHeartbeats 8000000
theorem radd_ok (w a b : Int) (hw : longM w = true) : Ret Tryz.prog 120 ([.int .i8 w, .int .u64 a, .int .u64 b]) (.tup [fD true (addC w a b) (cutM (u64 (a + b)) w == 0) (negM (u64 (a + b)) w) (addO w a b), .int .i64 0]) := by
 have c0 := @rwidth14_ok w
 rw [show (longM w) = true from hw] at c0
 have c1 := @rcut_l_ok a w hw
 have c2 := @rcut_l_ok b w hw
 have c3 := @rcut_l_ok (IntKind.wrap IntKind.u64 (cutM a w + cutM b w)) w hw
 have c4 := @rtop_ok (cutM a w) w hw
 have c5 := @rtop_ok (cutM b w) w hw
 let E1 : EL := [.ret _ _ _ c0, tF, .ret _ _ _ c1, .ret _ _ _ c2, .ret _ _ _ c3, .ret _ _ _ c4, .ret _ _ _ c5]
 rcases bft (topM (cutM a w) w == topM (cutM b w) w) with h6 | h6
 ·have c7 := @rtop_ok (cutM (IntKind.wrap IntKind.u64 (cutM a w + cutM b w)) w) w hw
  have c8 := @rtop_ok (cutM a w) w hw
  have c9 := @rmade_ok w (cutM (IntKind.wrap IntKind.u64 (cutM a w + cutM b w)) w) (decide (cutM (IntKind.wrap IntKind.u64 (cutM a w + cutM b w)) w < cutM a w)) (!topM (cutM (IntKind.wrap IntKind.u64 (cutM a w + cutM b w)) w) w == topM (cutM a w) w) hw
  exact (o120 (d := .tup [.agg [.bool true, .bool (decide (cutM (IntKind.wrap IntKind.u64 (cutM a w + cutM b w)) w < cutM a w)), .bool (cutM (cutM (IntKind.wrap IntKind.u64 (cutM a w + cutM b w)) w) w == 0), .bool (topM (cutM (cutM (IntKind.wrap IntKind.u64 (cutM a w + cutM b w)) w) w) w), .bool !topM (cutM (IntKind.wrap IntKind.u64 (cutM a w + cutM b w)) w) w == topM (cutM a w) w], .int .i64 0]) (E1 ++ [tC (eT h6), tC (eT h6), tC (eT h6), .ret _ _ _ c7, tC (eT h6), tC (eT h6), tC (eT h6), .ret _ _ _ c8, tC (eT h6), tC h6, .ret _ _ _ c9]) (by kernel_rfl)).to (by clear E1; simp only [wk, wkL, and_true, true_and, fD, D.bool.injEq, addC, addO_top hw]; have e : cutM (IntKind.u64.wrap (cutM a w + cutM b w)) w = cutM (u64 (a + b)) w := cut_add hw; simp only [e, cut_cut, top_cut hw, neg_top hw] at *; clear e; (try clear c0 c1 c2 c3 c4 c5); (try clear c7); (try clear c8); (try clear c9); generalize topM a w = x at *; generalize topM b w = y at *; generalize topM (u64 (a + b)) w = z at *; cases x <;> cases y <;> cases z <;> simp_all)
 have c10 := @rmade_ok w (cutM (IntKind.wrap IntKind.u64 (cutM a w + cutM b w)) w) (decide (cutM (IntKind.wrap IntKind.u64 (cutM a w + cutM b w)) w < cutM a w)) false hw
 exact (o120 (d := .tup [.agg [.bool true, .bool (decide (cutM (IntKind.wrap IntKind.u64 (cutM a w + cutM b w)) w < cutM a w)), .bool (cutM (cutM (IntKind.wrap IntKind.u64 (cutM a w + cutM b w)) w) w == 0), .bool (topM (cutM (cutM (IntKind.wrap IntKind.u64 (cutM a w + cutM b w)) w) w) w), .bool false], .int .i64 0]) (E1 ++ List.replicate 7 (tC (eT h6)) ++ [tC h6, .ret _ _ _ c10]) (by kernel_rfl)).to (by clear E1; simp only [wk, wkL, and_true, true_and, fD, D.bool.injEq, addC, addO_top hw]; have e : cutM (IntKind.u64.wrap (cutM a w + cutM b w)) w = cutM (u64 (a + b)) w := cut_add hw; simp only [e, cut_cut, top_cut hw, neg_top hw] at *; clear e; (try clear c0 c1 c2 c3 c4 c5); (try clear c7); (try clear c8); (try clear c9); generalize topM a w = x at *; generalize topM b w = y at *; generalize topM (u64 (a + b)) w = z at *; cases x <;> cases y <;> cases z <;> simp_all)
theorem rsub_ok (w a b : Int) (hw : longM w = true) : Ret Tryz.prog 65 ([.int .i8 w, .int .u64 a, .int .u64 b]) (.tup [fD true (subC w a b) (cutM (u64 (a - b)) w == 0) (negM (u64 (a - b)) w) (subO w a b), .int .i64 0]) := by
 have c0 := @rwidth14_ok w
 rw [show (longM w) = true from hw] at c0
 have c1 := @rcut_l_ok a w hw
 have c2 := @rcut_l_ok b w hw
 have c3 := @rcut_l_ok (IntKind.wrap IntKind.u64 (cutM a w - cutM b w)) w hw
 have c4 := @rtop_ok (cutM a w) w hw
 have c5 := @rtop_ok (cutM b w) w hw
 let E1 : EL := [.ret _ _ _ c0, tF, .ret _ _ _ c1, .ret _ _ _ c2, .ret _ _ _ c3, .ret _ _ _ c4, .ret _ _ _ c5]
 rcases bft (topM (cutM a w) w == topM (cutM b w) w) with h6 | h6
 ·have c7 := @rmade_ok w (cutM (IntKind.wrap IntKind.u64 (cutM a w - cutM b w)) w) (decide (cutM a w < cutM b w)) false hw
  exact (o65 (d := .tup [.agg [.bool true, .bool (decide (cutM a w < cutM b w)), .bool (cutM (cutM (IntKind.wrap IntKind.u64 (cutM a w - cutM b w)) w) w == 0), .bool (topM (cutM (cutM (IntKind.wrap IntKind.u64 (cutM a w - cutM b w)) w) w) w), .bool false], .int .i64 0]) (E1 ++ List.replicate 7 (tC (eT (nt h6))) ++ [tC (nt h6), .ret _ _ _ c7]) (by kernel_rfl)).to (by clear E1; simp only [wk, wkL, and_true, true_and, fD, D.bool.injEq, subC, subO_top hw]; have e : cutM (IntKind.u64.wrap (cutM a w - cutM b w)) w = cutM (u64 (a - b)) w := cut_sub hw; simp only [e, cut_cut, top_cut hw, neg_top hw] at *; clear e; (try clear c0 c1 c2 c3 c4 c5); (try clear c7); (try clear c8); (try clear c9); generalize topM a w = x at *; generalize topM b w = y at *; generalize topM (u64 (a - b)) w = z at *; cases x <;> cases y <;> cases z <;> simp_all)
 have c8 := @rtop_ok (cutM (IntKind.wrap IntKind.u64 (cutM a w - cutM b w)) w) w hw
 have c9 := @rtop_ok (cutM a w) w hw
 have c10 := @rmade_ok w (cutM (IntKind.wrap IntKind.u64 (cutM a w - cutM b w)) w) (decide (cutM a w < cutM b w)) (!topM (cutM (IntKind.wrap IntKind.u64 (cutM a w - cutM b w)) w) w == topM (cutM a w) w) hw
 exact (o65 (d := .tup [.agg [.bool true, .bool (decide (cutM a w < cutM b w)), .bool (cutM (cutM (IntKind.wrap IntKind.u64 (cutM a w - cutM b w)) w) w == 0), .bool (topM (cutM (cutM (IntKind.wrap IntKind.u64 (cutM a w - cutM b w)) w) w) w), .bool !topM (cutM (IntKind.wrap IntKind.u64 (cutM a w - cutM b w)) w) w == topM (cutM a w) w], .int .i64 0]) (E1 ++ List.replicate 3 (tC (eT (nt h6))) ++ [.ret _ _ _ c8] ++ List.replicate 3 (tC (eT (nt h6))) ++ [.ret _ _ _ c9, tC (eT (nt h6)), tC (nt h6), .ret _ _ _ c10]) (by kernel_rfl)).to (by clear E1; simp only [wk, wkL, and_true, true_and, fD, D.bool.injEq, subC, subO_top hw]; have e : cutM (IntKind.u64.wrap (cutM a w - cutM b w)) w = cutM (u64 (a - b)) w := cut_sub hw; simp only [e, cut_cut, top_cut hw, neg_top hw] at *; clear e; (try clear c0 c1 c2 c3 c4 c5); (try clear c7); (try clear c8); (try clear c9); generalize topM a w = x at *; generalize topM b w = y at *; generalize topM (u64 (a - b)) w = z at *; cases x <;> cases y <;> cases z <;> simp_all)
end Go.Proofs.YtojgmjfcfpclbaaGreat

namespace Go.Proofs.YtojgmjfcfpclbaaGreat
open Go Go.Ev
set_option maxRecDepth 100000
set_option maxHeartbeats 8000000
theorem rsign_32_ok (v : Int) : Ret Tryz.prog 89 ([.int .u64 v, .int .i8 32]) (.int .u64 (signM v 32)) := by
 have c0 := @rwidth_ok 32
 have c1 := @rcut_l_ok v 32 (rfl : true = true)
 by_cases h2 : IntKind.wrap IntKind.u64 (↑(BitVec.toNat (BitVec.ofInt (64 : Nat) (Int.fdiv (cutM v 32) 2147483648) &&& BitVec.ofInt (64 : Nat) 1)) : Int) = 1
 ·exact (o89 (d := .int .u64 (IntKind.wrap IntKind.u64 (cutM v 32 - 4294967296))) [.ret _ _ _ c0, tF, .ret _ _ _ c1, tT, tC (eT (eqI 1 true h2)), tC (eT (eqI 1 true h2)), tC (eqI 1 true h2), tT, tT] (by kernel_rfl)).to (by simp only [wk, D.int.injEq, true_and]; first | rfl | exact sign32_t' h2 | exact sign32_f' h2)
 exact (o89 (d := .int .u64 (cutM v 32)) [.ret _ _ _ c0, tF, .ret _ _ _ c1, tT, tC (eT (neOf h2)), tC (eT (neOf h2)), tC (neOf h2), tF] (by kernel_rfl)).to (by simp only [wk, D.int.injEq, true_and]; first | rfl | exact sign32_t' h2 | exact sign32_f' h2)
theorem rsign_64_ok (v : Int) : Ret Tryz.prog 89 ([.int .u64 v, .int .i8 64]) (.int .u64 (signM v 64)) := by
 have c0 := @rwidth_ok 64
 have c1 := @rcut_l_ok v 64 (rfl : true = true)
 by_cases h2 : IntKind.wrap IntKind.u64 (↑(BitVec.toNat (BitVec.ofInt (64 : Nat) (Int.fdiv (cutM v 64) 9223372036854775808) &&& BitVec.ofInt (64 : Nat) 1)) : Int) = 1
 ·exact (o89 (d := .int .u64 (cutM v 64)) [.ret _ _ _ c0, tF, .ret _ _ _ c1, tT, tC (eT (eqI 1 true h2)), tC (eT (eqI 1 true h2)), tC (eqI 1 true h2), tF] (by kernel_rfl)).to (by simp only [wk, D.int.injEq, true_and]; first | rfl | exact sign32_t' h2 | exact sign32_f' h2)
 exact (o89 (d := .int .u64 (cutM v 64)) [.ret _ _ _ c0, tF, .ret _ _ _ c1, tT, tC (eT (neOf h2)), tC (eT (neOf h2)), tC (neOf h2), tF] (by kernel_rfl)).to (by simp only [wk, D.int.injEq, true_and]; first | rfl | exact sign32_t' h2 | exact sign32_f' h2)
theorem rholds_2_ok (c z s o : Bool) : Ret Tryz.prog 67 ([.int .i8 2, fD true c z s o]) (.tup [.bool (holdM 2 c z s o), .int .i64 0]) := by
 exact (o67 (d := .tup [.bool !c == false, .int .i64 0]) [.inl, tT, tT, tF, tF, tT] (by kernel_rfl)).to (by (try cases c) <;> (try cases z) <;> (try cases s) <;> (try cases o) <;> first | (simp [wk, wkL, holdM]; done) | rfl | exact ⟨rfl, rfl, trivial⟩)
theorem rholds_n2_ok (c z s o : Bool) : Ret Tryz.prog 67 ([.int .i8 2, fD false c z s o]) (.tup [.bool false, .int .i64 20]) := by
 exact (o67 (d := .tup [.bool false, .int .i64 20]) [.inl, tT, tT, tF, tT] (by kernel_rfl)).to (by simp [wk, wkL])
theorem rholds_3_ok (c z s o : Bool) : Ret Tryz.prog 67 ([.int .i8 3, fD true c z s o]) (.tup [.bool (holdM 3 c z s o), .int .i64 0]) := by
 exact (o67 (d := .tup [.bool !c == true, .int .i64 0]) [.inl, tF, tT, tT, tF, tF, tT] (by kernel_rfl)).to (by (try cases c) <;> (try cases z) <;> (try cases s) <;> (try cases o) <;> first | (simp [wk, wkL, holdM]; done) | rfl | exact ⟨rfl, rfl, trivial⟩)
theorem rholds_n3_ok (c z s o : Bool) : Ret Tryz.prog 67 ([.int .i8 3, fD false c z s o]) (.tup [.bool false, .int .i64 20]) := by
 exact (o67 (d := .tup [.bool false, .int .i64 20]) [.inl, tF, tT, tT, tF, tT] (by kernel_rfl)).to (by simp [wk, wkL])
theorem rholds_4_ok (c z s o : Bool) : Ret Tryz.prog 67 ([.int .i8 4, fD true c z s o]) (.tup [.bool (holdM 4 c z s o), .int .i64 0]) := by
 exact (o67 (d := .tup [.bool !z == false, .int .i64 0]) [.inl, tF, tF, tT, tT, tF, tF, tF, tT] (by kernel_rfl)).to (by (try cases c) <;> (try cases z) <;> (try cases s) <;> (try cases o) <;> first | (simp [wk, wkL, holdM]; done) | rfl | exact ⟨rfl, rfl, trivial⟩)
theorem rholds_n4_ok (c z s o : Bool) : Ret Tryz.prog 67 ([.int .i8 4, fD false c z s o]) (.tup [.bool false, .int .i64 20]) := by
 exact (o67 (d := .tup [.bool false, .int .i64 20]) [.inl, tF, tF, tT, tT, tF, tT] (by kernel_rfl)).to (by simp [wk, wkL])
theorem rholds_5_ok (c z s o : Bool) : Ret Tryz.prog 67 ([.int .i8 5, fD true c z s o]) (.tup [.bool (holdM 5 c z s o), .int .i64 0]) := by
 exact (o67 (d := .tup [.bool !z == true, .int .i64 0]) [.inl, tF, tF, tF, tT, tT, tF, tF, tF, tT] (by kernel_rfl)).to (by (try cases c) <;> (try cases z) <;> (try cases s) <;> (try cases o) <;> first | (simp [wk, wkL, holdM]; done) | rfl | exact ⟨rfl, rfl, trivial⟩)
theorem rholds_n5_ok (c z s o : Bool) : Ret Tryz.prog 67 ([.int .i8 5, fD false c z s o]) (.tup [.bool false, .int .i64 20]) := by
 exact (o67 (d := .tup [.bool false, .int .i64 20]) [.inl, tF, tF, tF, tT, tT, tF, tT] (by kernel_rfl)).to (by simp [wk, wkL])
theorem rholds_6_ok (c z s o : Bool) : Ret Tryz.prog 67 ([.int .i8 6, fD true c z s o]) (.tup [.bool (holdM 6 c z s o), .int .i64 0]) := by
 cases c
 ·exact (o67 (d := .tup [.bool !z == false, .int .i64 0]) [.inl, tF, tF, tF, tF, tT, tT, tF, tF, tF, tF, tT, tT, tT, tF] (by kernel_rfl)).to (by (try cases c) <;> (try cases z) <;> (try cases s) <;> (try cases o) <;> first | (simp [wk, wkL, holdM]; done) | rfl | exact ⟨rfl, rfl, trivial⟩)
 exact (o67 (d := .tup [.bool true, .int .i64 0]) [.inl, tF, tF, tF, tF, tT, tT, tF, tF, tF, tF, tT, tF, tF, tT] (by kernel_rfl)).to (by (try cases c) <;> (try cases z) <;> (try cases s) <;> (try cases o) <;> first | (simp [wk, wkL, holdM]; done) | rfl | exact ⟨rfl, rfl, trivial⟩)
theorem rholds_n6_ok (c z s o : Bool) : Ret Tryz.prog 67 ([.int .i8 6, fD false c z s o]) (.tup [.bool false, .int .i64 20]) := by
 exact (o67 (d := .tup [.bool false, .int .i64 20]) [.inl, tF, tF, tF, tF, tT, tT, tF, tT] (by kernel_rfl)).to (by simp [wk, wkL])
theorem rholds_7_ok (c z s o : Bool) : Ret Tryz.prog 67 ([.int .i8 7, fD true c z s o]) (.tup [.bool (holdM 7 c z s o), .int .i64 0]) := by
 cases c
 ·exact (o67 (d := .tup [.bool !z == true, .int .i64 0]) [.inl, tF, tF, tF, tF, tF, tT, tT, tF, tF, tF, tF, tT, tT, tT, tF] (by kernel_rfl)).to (by (try cases c) <;> (try cases z) <;> (try cases s) <;> (try cases o) <;> first | (simp [wk, wkL, holdM]; done) | rfl | exact ⟨rfl, rfl, trivial⟩)
 exact (o67 (d := .tup [.bool false, .int .i64 0]) [.inl, tF, tF, tF, tF, tF, tT, tT, tF, tF, tF, tF, tT, tF, tF, tT] (by kernel_rfl)).to (by (try cases c) <;> (try cases z) <;> (try cases s) <;> (try cases o) <;> first | (simp [wk, wkL, holdM]; done) | rfl | exact ⟨rfl, rfl, trivial⟩)
theorem rholds_n7_ok (c z s o : Bool) : Ret Tryz.prog 67 ([.int .i8 7, fD false c z s o]) (.tup [.bool false, .int .i64 20]) := by
 exact (o67 (d := .tup [.bool false, .int .i64 20]) [.inl, tF, tF, tF, tF, tF, tT, tT, tF, tT] (by kernel_rfl)).to (by simp [wk, wkL])
theorem rholds_12_ok (c z s o : Bool) : Ret Tryz.prog 67 ([.int .i8 12, fD true c z s o]) (.tup [.bool (holdM 12 c z s o), .int .i64 0]) := by
 exact (o67 (d := .tup [.bool !(!s == o) == false, .int .i64 0]) [.inl, tF, tF, tF, tF, tF, tF, tT, tT, tF, tF, tF, tF, tF, tT] (by kernel_rfl)).to (by (try cases c) <;> (try cases z) <;> (try cases s) <;> (try cases o) <;> first | (simp [wk, wkL, holdM]; done) | rfl | exact ⟨rfl, rfl, trivial⟩)
theorem rholds_n12_ok (c z s o : Bool) : Ret Tryz.prog 67 ([.int .i8 12, fD false c z s o]) (.tup [.bool false, .int .i64 20]) := by
 exact (o67 (d := .tup [.bool false, .int .i64 20]) [.inl, tF, tF, tF, tF, tF, tF, tT, tT, tF, tT] (by kernel_rfl)).to (by simp [wk, wkL])
theorem rholds_13_ok (c z s o : Bool) : Ret Tryz.prog 67 ([.int .i8 13, fD true c z s o]) (.tup [.bool (holdM 13 c z s o), .int .i64 0]) := by
 exact (o67 (d := .tup [.bool !(!s == o) == true, .int .i64 0]) [.inl, tF, tF, tF, tF, tF, tF, tF, tT, tT, tF, tF, tF, tF, tF, tT] (by kernel_rfl)).to (by (try cases c) <;> (try cases z) <;> (try cases s) <;> (try cases o) <;> first | (simp [wk, wkL, holdM]; done) | rfl | exact ⟨rfl, rfl, trivial⟩)
theorem rholds_n13_ok (c z s o : Bool) : Ret Tryz.prog 67 ([.int .i8 13, fD false c z s o]) (.tup [.bool false, .int .i64 20]) := by
 exact (o67 (d := .tup [.bool false, .int .i64 20]) [.inl, tF, tF, tF, tF, tF, tF, tF, tT, tT, tF, tT] (by kernel_rfl)).to (by simp [wk, wkL])
theorem rholds_14_ok (c z s o : Bool) : Ret Tryz.prog 67 ([.int .i8 14, fD true c z s o]) (.tup [.bool (holdM 14 c z s o), .int .i64 0]) := by
 cases z
 ·exact (o67 (d := .tup [.bool !(!s == o) == false, .int .i64 0]) ([.inl] ++ List.replicate 8 tF ++ [tT, tT, tF, tF, tF, tF, tF, tF, tT, tT, tT, tT, tT, tF]) (by kernel_rfl)).to (by (try cases c) <;> (try cases z) <;> (try cases s) <;> (try cases o) <;> first | (simp [wk, wkL, holdM]; done) | rfl | exact ⟨rfl, rfl, trivial⟩)
 exact (o67 (d := .tup [.bool true, .int .i64 0]) ([.inl] ++ List.replicate 8 tF ++ [tT, tT] ++ List.replicate 11 tF ++ [tT]) (by kernel_rfl)).to (by (try cases c) <;> (try cases z) <;> (try cases s) <;> (try cases o) <;> first | (simp [wk, wkL, holdM]; done) | rfl | exact ⟨rfl, rfl, trivial⟩)
theorem rholds_n14_ok (c z s o : Bool) : Ret Tryz.prog 67 ([.int .i8 14, fD false c z s o]) (.tup [.bool false, .int .i64 20]) := by
 exact (o67 (d := .tup [.bool false, .int .i64 20]) ([.inl] ++ List.replicate 8 tF ++ [tT, tT, tF, tT]) (by kernel_rfl)).to (by simp [wk, wkL])
theorem rholds_15_ok (c z s o : Bool) : Ret Tryz.prog 67 ([.int .i8 15, fD true c z s o]) (.tup [.bool (holdM 15 c z s o), .int .i64 0]) := by
 cases z
 ·exact (o67 (d := .tup [.bool !(!s == o) == true, .int .i64 0]) ([.inl] ++ List.replicate 9 tF ++ [tT, tF, tF, tF, tF, tF, tF, tT, tT, tT, tT, tT, tF]) (by kernel_rfl)).to (by (try cases c) <;> (try cases z) <;> (try cases s) <;> (try cases o) <;> first | (simp [wk, wkL, holdM]; done) | rfl | exact ⟨rfl, rfl, trivial⟩)
 exact (o67 (d := .tup [.bool false, .int .i64 0]) ([.inl] ++ List.replicate 9 tF ++ [tT] ++ List.replicate 11 tF ++ [tT]) (by kernel_rfl)).to (by (try cases c) <;> (try cases z) <;> (try cases s) <;> (try cases o) <;> first | (simp [wk, wkL, holdM]; done) | rfl | exact ⟨rfl, rfl, trivial⟩)
theorem rholds_n15_ok (c z s o : Bool) : Ret Tryz.prog 67 ([.int .i8 15, fD false c z s o]) (.tup [.bool false, .int .i64 20]) := by
 exact (o67 (d := .tup [.bool false, .int .i64 20]) ([.inl] ++ List.replicate 9 tF ++ [tT, tF, tT]) (by kernel_rfl)).to (by simp [wk, wkL])
end Go.Proofs.YtojgmjfcfpclbaaGreat

namespace Go.Proofs.YtojgmjfcfpclbaaGreat
open Go Go.Ev
theorem rsign_l_ok (v w : Int) (hw : longM w = true) : Ret Tryz.prog 89 [.int .u64 v, .int .i8 w] (.int .u64 (signM v w)) := by
  rcases long_cases hw with rfl | rfl
  · exact rsign_32_ok v
  · exact rsign_64_ok v
theorem cc_cases' {cc : Int} (h : ccM cc = true) : cc = 2 ∨ cc = 3 ∨ cc = 4 ∨ cc = 5 ∨ cc = 6 ∨ cc = 7 ∨ cc = 12 ∨ cc = 13 ∨ cc = 14 ∨ cc = 15 := by
  simp only [ccM, decide_eq_true_eq] at h; omega
theorem rholds_t_ok (cc : Int) (c z s o : Bool) (h : ccM cc = true) : Ret Tryz.prog 67 [.int .i8 cc, fD true c z s o] (.tup [.bool (holdM cc c z s o), .int .i64 0]) := by
  rcases cc_cases' h with rfl | rfl | rfl | rfl | rfl | rfl | rfl | rfl | rfl | rfl
  · exact rholds_2_ok c z s o
  · exact rholds_3_ok c z s o
  · exact rholds_4_ok c z s o
  · exact rholds_5_ok c z s o
  · exact rholds_6_ok c z s o
  · exact rholds_7_ok c z s o
  · exact rholds_12_ok c z s o
  · exact rholds_13_ok c z s o
  · exact rholds_14_ok c z s o
  · exact rholds_15_ok c z s o
theorem rholds_f_ok (cc : Int) (c z s o : Bool) (h : ccM cc = true) : Ret Tryz.prog 67 [.int .i8 cc, fD false c z s o] (.tup [.bool false, .int .i64 20]) := by
  rcases cc_cases' h with rfl | rfl | rfl | rfl | rfl | rfl | rfl | rfl | rfl | rfl
  · exact rholds_n2_ok c z s o
  · exact rholds_n3_ok c z s o
  · exact rholds_n4_ok c z s o
  · exact rholds_n5_ok c z s o
  · exact rholds_n6_ok c z s o
  · exact rholds_n7_ok c z s o
  · exact rholds_n12_ok c z s o
  · exact rholds_n13_ok c z s o
  · exact rholds_n14_ok c z s o
  · exact rholds_n15_ok c z s o
end Go.Proofs.YtojgmjfcfpclbaaGreat

namespace Go.Proofs.YtojgmjfcfpclbaaGreat
open Go Go.Ev
theorem shape_none {op : Int} (h : op < 0 ∨ 32 ≤ op) : shapeM op = 0 ∧ codeM op = 0 ∧ numM op = 0 := by
  refine ⟨?_, ?_, ?_⟩
  · unfold shapeM; repeat (rw [if_neg (by omega)])
  · unfold codeM; repeat (rw [if_neg (by omega)])
  · unfold numM; repeat (rw [if_neg (by omega)])
theorem of_any_ok (op : Int) (ho : op ≤ 127) : Ret Tryz.prog 96 [.int .i8 op] (.tup [.agg [.int .i8 (shapeM op), .int .u8 (codeM op), .int .i8 (numM op)], .bool (decide (0 ≤ op ∧ op ≤ 31))]) := by
  by_cases h1 : op < 0
  · obtain ⟨e1, e2, e3⟩ := shape_none (.inl h1)
    rw [e1, e2, e3, decide_eq_false (by omega)]
    exact of_low_ok op h1
  · by_cases h2 : 32 ≤ op
    · obtain ⟨e1, e2, e3⟩ := shape_none (.inr h2)
      rw [e1, e2, e3, decide_eq_false (by omega)]
      exact of_high_ok op h2 ho
    · rcases (by omega : op = 0 ∨ op = 1 ∨ op = 2 ∨ op = 3 ∨ op = 4 ∨ op = 5 ∨ op = 6 ∨ op = 7 ∨ op = 8 ∨ op = 9 ∨ op = 10 ∨ op = 11 ∨ op = 12 ∨ op = 13 ∨ op = 14 ∨ op = 15 ∨ op = 16 ∨ op = 17 ∨ op = 18 ∨ op = 19 ∨ op = 20 ∨ op = 21 ∨ op = 22 ∨ op = 23 ∨ op = 24 ∨ op = 25 ∨ op = 26 ∨ op = 27 ∨ op = 28 ∨ op = 29 ∨ op = 30 ∨ op = 31) with rfl | rfl | rfl | rfl | rfl | rfl | rfl | rfl | rfl | rfl | rfl | rfl | rfl | rfl | rfl | rfl | rfl | rfl | rfl | rfl | rfl | rfl | rfl | rfl | rfl | rfl | rfl | rfl | rfl | rfl | rfl | rfl
      · exact of_0_ok
      · exact of_1_ok
      · exact of_2_ok
      · exact of_3_ok
      · exact of_4_ok
      · exact of_5_ok
      · exact of_6_ok
      · exact of_7_ok
      · exact of_8_ok
      · exact of_9_ok
      · exact of_10_ok
      · exact of_11_ok
      · exact of_12_ok
      · exact of_13_ok
      · exact of_14_ok
      · exact of_15_ok
      · exact of_16_ok
      · exact of_17_ok
      · exact of_18_ok
      · exact of_19_ok
      · exact of_20_ok
      · exact of_21_ok
      · exact of_22_ok
      · exact of_23_ok
      · exact of_24_ok
      · exact of_25_ok
      · exact of_26_ok
      · exact of_27_ok
      · exact of_28_ok
      · exact of_29_ok
      · exact of_30_ok
      · exact of_31_ok
theorem bare_1_ok (op w dst src base disp imm cc sh : Int) (h : (sh == 1) = true) : Ret Tryz.prog 97 [xD op w dst src base disp imm cc, .int .i8 sh] (xD 0 0 0 0 base disp imm cc) := by
  obtain rfl := eq_of_beq h
  exact bareL_1_ok op w dst src base disp imm cc
theorem bare_2_ok (op w dst src base disp imm cc sh : Int) (h : (sh == 2) = true) : Ret Tryz.prog 97 [xD op w dst src base disp imm cc, .int .i8 sh] (xD 0 0 0 0 base disp imm cc) := by
  obtain rfl := eq_of_beq h
  exact bareL_2_ok op w dst src base disp imm cc
theorem bare_3_ok (op w dst src base disp imm cc sh : Int) (h : (sh == 3) = true) : Ret Tryz.prog 97 [xD op w dst src base disp imm cc, .int .i8 sh] (xD 0 0 0 src base disp 0 cc) := by
  obtain rfl := eq_of_beq h
  exact bareL_3_ok op w dst src base disp imm cc
theorem bare_4_ok (op w dst src base disp imm cc sh : Int) (h : (sh == 4) = true) : Ret Tryz.prog 97 [xD op w dst src base disp imm cc, .int .i8 sh] (xD 0 0 0 src base disp 0 cc) := by
  obtain rfl := eq_of_beq h
  exact bareL_4_ok op w dst src base disp imm cc
theorem bare_5_ok (op w dst src base disp imm cc sh : Int) (h : (sh == 5) = true) : Ret Tryz.prog 97 [xD op w dst src base disp imm cc, .int .i8 sh] (xD 0 0 0 src base disp imm cc) := by
  obtain rfl := eq_of_beq h
  exact bareL_5_ok op w dst src base disp imm cc
theorem bare_6_ok (op w dst src base disp imm cc sh : Int) (h : (sh == 6) = true) : Ret Tryz.prog 97 [xD op w dst src base disp imm cc, .int .i8 sh] (xD 0 0 0 0 base disp imm 0) := by
  obtain rfl := eq_of_beq h
  exact bareL_6_ok op w dst src base disp imm cc
theorem bare_7_ok (op w dst src base disp imm cc sh : Int) (h : (sh == 7) = true) : Ret Tryz.prog 97 [xD op w dst src base disp imm cc, .int .i8 sh] (xD 0 0 0 src 0 0 imm cc) := by
  obtain rfl := eq_of_beq h
  exact bareL_7_ok op w dst src base disp imm cc
theorem bare_8_ok (op w dst src base disp imm cc sh : Int) (h : (sh == 8) = true) : Ret Tryz.prog 97 [xD op w dst src base disp imm cc, .int .i8 sh] (xD 0 0 dst 0 0 0 imm cc) := by
  obtain rfl := eq_of_beq h
  exact bareL_8_ok op w dst src base disp imm cc
theorem bare_9_ok (op w dst src base disp imm cc sh : Int) (h : (sh == 9) = true) : Ret Tryz.prog 97 [xD op w dst src base disp imm cc, .int .i8 sh] (xD 0 0 dst src base disp 0 cc) := by
  obtain rfl := eq_of_beq h
  exact bareL_9_ok op w dst src base disp imm cc
theorem bare_10_ok (op w dst src base disp imm cc sh : Int) (h : (sh == 10) = true) : Ret Tryz.prog 97 [xD op w dst src base disp imm cc, .int .i8 sh] (xD 0 0 dst src base disp 0 0) := by
  obtain rfl := eq_of_beq h
  exact bareL_10_ok op w dst src base disp imm cc
theorem bare_11_ok (op w dst src base disp imm cc sh : Int) (h : (sh == 11) = true) : Ret Tryz.prog 97 [xD op w dst src base disp imm cc, .int .i8 sh] (xD 0 w dst src base disp imm cc) := by
  obtain rfl := eq_of_beq h
  exact bareL_11_ok op w dst src base disp imm cc
end Go.Proofs.YtojgmjfcfpclbaaGreat
