/- Contracts and plain laws that a statement's proof leans on (texts merged: XOf, XOfA, XMay0). -/
import Derived.Test.YtojgmjfcfpclbaaJ04
set_option linter.unusedVariables false
set_option linter.unusedSimpArgs false
namespace Go.Proofs.Ytojgmjfcfpclbaa
open Go Go.Ev
set_option maxRecDepth 100000
set_option maxHeartbeats 8000000
def tab_XOf_0 : List D := [.int .i8 1, .int .u8 137, .int .i8 0, .int .i8 3, .int .u8 199, .int .i8 0, .int .i8 1, .int .u8 1, .int .i8 0, .int .i8 1, .int .u8 9, .int .i8 0, .int .i8 1, .int .u8 33, .int .i8 0, .int .i8 1, .int .u8 41, .int .i8 0, .int .i8 1, .int .u8 49, .int .i8 0, .int .i8 1, .int .u8 57, .int .i8 0, .int .i8 1, .int .u8 133, .int .i8 0, .int .i8 3, .int .u8 129, .int .i8 0, .int .i8 3, .int .u8 129, .int .i8 1, .int .i8 3, .int .u8 129, .int .i8 4, .int .i8 3, .int .u8 129, .int .i8 5, .int .i8 3, .int .u8 129, .int .i8 6, .int .i8 3, .int .u8 129, .int .i8 7, .int .i8 3, .int .u8 247, .int .i8 0, .int .i8 2, .int .u8 175, .int .i8 0, .int .i8 4, .int .u8 193, .int .i8 4, .int .i8 4, .int .u8 193, .int .i8 5, .int .i8 4, .int .u8 193, .int .i8 7, .int .i8 5, .int .u8 211, .int .i8 4, .int .i8 5, .int .u8 211, .int .i8 5, .int .i8 5, .int .u8 211, .int .i8 7, .int .i8 5, .int .u8 247, .int .i8 3, .int .i8 5, .int .u8 247, .int .i8 6, .int .i8 6, .int .u8 64, .int .i8 0, .int .i8 7, .int .u8 139, .int .i8 0, .int .i8 8, .int .u8 137, .int .i8 0, .int .i8 9, .int .u8 233, .int .i8 0, .int .i8 10, .int .u8 128, .int .i8 0, .int .i8 11, .int .u8 195, .int .i8 0, .int .i8 11, .int .u8 5, .int .i8 0]
theorem of_0_ok  : Ret Try.prog 75 ([.int .i8 0]) (.tup [.agg [.int .i8 (shapeM 0), .int .u8 (codeM 0), .int .i8 (numM 0)], .bool true]) := by
  exact (Ret.of_eval (d := .tup [.agg [.int .i8 1, .int .u8 137, .int .i8 0], .bool true]) mixed Try.func75 (by kernel_rfl) [.inl, tT, tT, tT, tF, tF, tT, .getA tab_XOf_0 0 3 ([.int .i8 1, .int .u8 137, .int .i8 0]) ⟨rfl, by decide⟩] (by kernel_rfl)).to (by simp [wk, wkL]; decide)
theorem of_1_ok  : Ret Try.prog 75 ([.int .i8 1]) (.tup [.agg [.int .i8 (shapeM 1), .int .u8 (codeM 1), .int .i8 (numM 1)], .bool true]) := by
  exact (Ret.of_eval (d := .tup [.agg [.int .i8 3, .int .u8 199, .int .i8 0], .bool true]) mixed Try.func75 (by kernel_rfl) [.inl, tT, tT, tT, tF, tF, tT, .getA tab_XOf_0 3 3 ([.int .i8 3, .int .u8 199, .int .i8 0]) ⟨rfl, by decide⟩] (by kernel_rfl)).to (by simp [wk, wkL]; decide)
theorem of_2_ok  : Ret Try.prog 75 ([.int .i8 2]) (.tup [.agg [.int .i8 (shapeM 2), .int .u8 (codeM 2), .int .i8 (numM 2)], .bool true]) := by
  exact (Ret.of_eval (d := .tup [.agg [.int .i8 1, .int .u8 1, .int .i8 0], .bool true]) mixed Try.func75 (by kernel_rfl) [.inl, tT, tT, tT, tF, tF, tT, .getA tab_XOf_0 6 3 ([.int .i8 1, .int .u8 1, .int .i8 0]) ⟨rfl, by decide⟩] (by kernel_rfl)).to (by simp [wk, wkL]; decide)
theorem of_3_ok  : Ret Try.prog 75 ([.int .i8 3]) (.tup [.agg [.int .i8 (shapeM 3), .int .u8 (codeM 3), .int .i8 (numM 3)], .bool true]) := by
  exact (Ret.of_eval (d := .tup [.agg [.int .i8 1, .int .u8 9, .int .i8 0], .bool true]) mixed Try.func75 (by kernel_rfl) [.inl, tT, tT, tT, tF, tF, tT, .getA tab_XOf_0 9 3 ([.int .i8 1, .int .u8 9, .int .i8 0]) ⟨rfl, by decide⟩] (by kernel_rfl)).to (by simp [wk, wkL]; decide)
theorem of_4_ok  : Ret Try.prog 75 ([.int .i8 4]) (.tup [.agg [.int .i8 (shapeM 4), .int .u8 (codeM 4), .int .i8 (numM 4)], .bool true]) := by
  exact (Ret.of_eval (d := .tup [.agg [.int .i8 1, .int .u8 33, .int .i8 0], .bool true]) mixed Try.func75 (by kernel_rfl) [.inl, tT, tT, tT, tF, tF, tT, .getA tab_XOf_0 12 3 ([.int .i8 1, .int .u8 33, .int .i8 0]) ⟨rfl, by decide⟩] (by kernel_rfl)).to (by simp [wk, wkL]; decide)
theorem of_5_ok  : Ret Try.prog 75 ([.int .i8 5]) (.tup [.agg [.int .i8 (shapeM 5), .int .u8 (codeM 5), .int .i8 (numM 5)], .bool true]) := by
  exact (Ret.of_eval (d := .tup [.agg [.int .i8 1, .int .u8 41, .int .i8 0], .bool true]) mixed Try.func75 (by kernel_rfl) [.inl, tT, tT, tT, tF, tF, tT, .getA tab_XOf_0 15 3 ([.int .i8 1, .int .u8 41, .int .i8 0]) ⟨rfl, by decide⟩] (by kernel_rfl)).to (by simp [wk, wkL]; decide)
theorem of_6_ok  : Ret Try.prog 75 ([.int .i8 6]) (.tup [.agg [.int .i8 (shapeM 6), .int .u8 (codeM 6), .int .i8 (numM 6)], .bool true]) := by
  exact (Ret.of_eval (d := .tup [.agg [.int .i8 1, .int .u8 49, .int .i8 0], .bool true]) mixed Try.func75 (by kernel_rfl) [.inl, tT, tT, tT, tF, tF, tT, .getA tab_XOf_0 18 3 ([.int .i8 1, .int .u8 49, .int .i8 0]) ⟨rfl, by decide⟩] (by kernel_rfl)).to (by simp [wk, wkL]; decide)
theorem of_7_ok  : Ret Try.prog 75 ([.int .i8 7]) (.tup [.agg [.int .i8 (shapeM 7), .int .u8 (codeM 7), .int .i8 (numM 7)], .bool true]) := by
  exact (Ret.of_eval (d := .tup [.agg [.int .i8 1, .int .u8 57, .int .i8 0], .bool true]) mixed Try.func75 (by kernel_rfl) [.inl, tT, tT, tT, tF, tF, tT, .getA tab_XOf_0 21 3 ([.int .i8 1, .int .u8 57, .int .i8 0]) ⟨rfl, by decide⟩] (by kernel_rfl)).to (by simp [wk, wkL]; decide)
theorem of_8_ok  : Ret Try.prog 75 ([.int .i8 8]) (.tup [.agg [.int .i8 (shapeM 8), .int .u8 (codeM 8), .int .i8 (numM 8)], .bool true]) := by
  exact (Ret.of_eval (d := .tup [.agg [.int .i8 1, .int .u8 133, .int .i8 0], .bool true]) mixed Try.func75 (by kernel_rfl) [.inl, tT, tT, tT, tF, tF, tT, .getA tab_XOf_0 24 3 ([.int .i8 1, .int .u8 133, .int .i8 0]) ⟨rfl, by decide⟩] (by kernel_rfl)).to (by simp [wk, wkL]; decide)
theorem of_9_ok  : Ret Try.prog 75 ([.int .i8 9]) (.tup [.agg [.int .i8 (shapeM 9), .int .u8 (codeM 9), .int .i8 (numM 9)], .bool true]) := by
  exact (Ret.of_eval (d := .tup [.agg [.int .i8 3, .int .u8 129, .int .i8 0], .bool true]) mixed Try.func75 (by kernel_rfl) [.inl, tT, tT, tT, tF, tF, tT, .getA tab_XOf_0 27 3 ([.int .i8 3, .int .u8 129, .int .i8 0]) ⟨rfl, by decide⟩] (by kernel_rfl)).to (by simp [wk, wkL]; decide)
theorem of_10_ok  : Ret Try.prog 75 ([.int .i8 10]) (.tup [.agg [.int .i8 (shapeM 10), .int .u8 (codeM 10), .int .i8 (numM 10)], .bool true]) := by
  exact (Ret.of_eval (d := .tup [.agg [.int .i8 3, .int .u8 129, .int .i8 1], .bool true]) mixed Try.func75 (by kernel_rfl) [.inl, tT, tT, tT, tF, tF, tT, .getA tab_XOf_0 30 3 ([.int .i8 3, .int .u8 129, .int .i8 1]) ⟨rfl, by decide⟩] (by kernel_rfl)).to (by simp [wk, wkL]; decide)
theorem of_11_ok  : Ret Try.prog 75 ([.int .i8 11]) (.tup [.agg [.int .i8 (shapeM 11), .int .u8 (codeM 11), .int .i8 (numM 11)], .bool true]) := by
  exact (Ret.of_eval (d := .tup [.agg [.int .i8 3, .int .u8 129, .int .i8 4], .bool true]) mixed Try.func75 (by kernel_rfl) [.inl, tT, tT, tT, tF, tF, tT, .getA tab_XOf_0 33 3 ([.int .i8 3, .int .u8 129, .int .i8 4]) ⟨rfl, by decide⟩] (by kernel_rfl)).to (by simp [wk, wkL]; decide)
theorem of_12_ok  : Ret Try.prog 75 ([.int .i8 12]) (.tup [.agg [.int .i8 (shapeM 12), .int .u8 (codeM 12), .int .i8 (numM 12)], .bool true]) := by
  exact (Ret.of_eval (d := .tup [.agg [.int .i8 3, .int .u8 129, .int .i8 5], .bool true]) mixed Try.func75 (by kernel_rfl) [.inl, tT, tT, tT, tF, tF, tT, .getA tab_XOf_0 36 3 ([.int .i8 3, .int .u8 129, .int .i8 5]) ⟨rfl, by decide⟩] (by kernel_rfl)).to (by simp [wk, wkL]; decide)
theorem of_13_ok  : Ret Try.prog 75 ([.int .i8 13]) (.tup [.agg [.int .i8 (shapeM 13), .int .u8 (codeM 13), .int .i8 (numM 13)], .bool true]) := by
  exact (Ret.of_eval (d := .tup [.agg [.int .i8 3, .int .u8 129, .int .i8 6], .bool true]) mixed Try.func75 (by kernel_rfl) [.inl, tT, tT, tT, tF, tF, tT, .getA tab_XOf_0 39 3 ([.int .i8 3, .int .u8 129, .int .i8 6]) ⟨rfl, by decide⟩] (by kernel_rfl)).to (by simp [wk, wkL]; decide)
theorem of_14_ok  : Ret Try.prog 75 ([.int .i8 14]) (.tup [.agg [.int .i8 (shapeM 14), .int .u8 (codeM 14), .int .i8 (numM 14)], .bool true]) := by
  exact (Ret.of_eval (d := .tup [.agg [.int .i8 3, .int .u8 129, .int .i8 7], .bool true]) mixed Try.func75 (by kernel_rfl) [.inl, tT, tT, tT, tF, tF, tT, .getA tab_XOf_0 42 3 ([.int .i8 3, .int .u8 129, .int .i8 7]) ⟨rfl, by decide⟩] (by kernel_rfl)).to (by simp [wk, wkL]; decide)
theorem of_15_ok  : Ret Try.prog 75 ([.int .i8 15]) (.tup [.agg [.int .i8 (shapeM 15), .int .u8 (codeM 15), .int .i8 (numM 15)], .bool true]) := by
  exact (Ret.of_eval (d := .tup [.agg [.int .i8 3, .int .u8 247, .int .i8 0], .bool true]) mixed Try.func75 (by kernel_rfl) [.inl, tT, tT, tT, tF, tF, tT, .getA tab_XOf_0 45 3 ([.int .i8 3, .int .u8 247, .int .i8 0]) ⟨rfl, by decide⟩] (by kernel_rfl)).to (by simp [wk, wkL]; decide)
theorem of_16_ok  : Ret Try.prog 75 ([.int .i8 16]) (.tup [.agg [.int .i8 (shapeM 16), .int .u8 (codeM 16), .int .i8 (numM 16)], .bool true]) := by
  exact (Ret.of_eval (d := .tup [.agg [.int .i8 2, .int .u8 175, .int .i8 0], .bool true]) mixed Try.func75 (by kernel_rfl) [.inl, tT, tT, tT, tF, tF, tT, .getA tab_XOf_0 48 3 ([.int .i8 2, .int .u8 175, .int .i8 0]) ⟨rfl, by decide⟩] (by kernel_rfl)).to (by simp [wk, wkL]; decide)
theorem of_17_ok  : Ret Try.prog 75 ([.int .i8 17]) (.tup [.agg [.int .i8 (shapeM 17), .int .u8 (codeM 17), .int .i8 (numM 17)], .bool true]) := by
  exact (Ret.of_eval (d := .tup [.agg [.int .i8 4, .int .u8 193, .int .i8 4], .bool true]) mixed Try.func75 (by kernel_rfl) [.inl, tT, tT, tT, tF, tF, tT, .getA tab_XOf_0 51 3 ([.int .i8 4, .int .u8 193, .int .i8 4]) ⟨rfl, by decide⟩] (by kernel_rfl)).to (by simp [wk, wkL]; decide)
theorem of_18_ok  : Ret Try.prog 75 ([.int .i8 18]) (.tup [.agg [.int .i8 (shapeM 18), .int .u8 (codeM 18), .int .i8 (numM 18)], .bool true]) := by
  exact (Ret.of_eval (d := .tup [.agg [.int .i8 4, .int .u8 193, .int .i8 5], .bool true]) mixed Try.func75 (by kernel_rfl) [.inl, tT, tT, tT, tF, tF, tT, .getA tab_XOf_0 54 3 ([.int .i8 4, .int .u8 193, .int .i8 5]) ⟨rfl, by decide⟩] (by kernel_rfl)).to (by simp [wk, wkL]; decide)
theorem of_19_ok  : Ret Try.prog 75 ([.int .i8 19]) (.tup [.agg [.int .i8 (shapeM 19), .int .u8 (codeM 19), .int .i8 (numM 19)], .bool true]) := by
  exact (Ret.of_eval (d := .tup [.agg [.int .i8 4, .int .u8 193, .int .i8 7], .bool true]) mixed Try.func75 (by kernel_rfl) [.inl, tT, tT, tT, tF, tF, tT, .getA tab_XOf_0 57 3 ([.int .i8 4, .int .u8 193, .int .i8 7]) ⟨rfl, by decide⟩] (by kernel_rfl)).to (by simp [wk, wkL]; decide)
theorem of_20_ok  : Ret Try.prog 75 ([.int .i8 20]) (.tup [.agg [.int .i8 (shapeM 20), .int .u8 (codeM 20), .int .i8 (numM 20)], .bool true]) := by
  exact (Ret.of_eval (d := .tup [.agg [.int .i8 5, .int .u8 211, .int .i8 4], .bool true]) mixed Try.func75 (by kernel_rfl) [.inl, tT, tT, tT, tF, tF, tT, .getA tab_XOf_0 60 3 ([.int .i8 5, .int .u8 211, .int .i8 4]) ⟨rfl, by decide⟩] (by kernel_rfl)).to (by simp [wk, wkL]; decide)
theorem of_21_ok  : Ret Try.prog 75 ([.int .i8 21]) (.tup [.agg [.int .i8 (shapeM 21), .int .u8 (codeM 21), .int .i8 (numM 21)], .bool true]) := by
  exact (Ret.of_eval (d := .tup [.agg [.int .i8 5, .int .u8 211, .int .i8 5], .bool true]) mixed Try.func75 (by kernel_rfl) [.inl, tT, tT, tT, tF, tF, tT, .getA tab_XOf_0 63 3 ([.int .i8 5, .int .u8 211, .int .i8 5]) ⟨rfl, by decide⟩] (by kernel_rfl)).to (by simp [wk, wkL]; decide)
theorem of_22_ok  : Ret Try.prog 75 ([.int .i8 22]) (.tup [.agg [.int .i8 (shapeM 22), .int .u8 (codeM 22), .int .i8 (numM 22)], .bool true]) := by
  exact (Ret.of_eval (d := .tup [.agg [.int .i8 5, .int .u8 211, .int .i8 7], .bool true]) mixed Try.func75 (by kernel_rfl) [.inl, tT, tT, tT, tF, tF, tT, .getA tab_XOf_0 66 3 ([.int .i8 5, .int .u8 211, .int .i8 7]) ⟨rfl, by decide⟩] (by kernel_rfl)).to (by simp [wk, wkL]; decide)
theorem of_23_ok  : Ret Try.prog 75 ([.int .i8 23]) (.tup [.agg [.int .i8 (shapeM 23), .int .u8 (codeM 23), .int .i8 (numM 23)], .bool true]) := by
  exact (Ret.of_eval (d := .tup [.agg [.int .i8 5, .int .u8 247, .int .i8 3], .bool true]) mixed Try.func75 (by kernel_rfl) [.inl, tT, tT, tT, tF, tF, tT, .getA tab_XOf_0 69 3 ([.int .i8 5, .int .u8 247, .int .i8 3]) ⟨rfl, by decide⟩] (by kernel_rfl)).to (by simp [wk, wkL]; decide)
theorem of_24_ok  : Ret Try.prog 75 ([.int .i8 24]) (.tup [.agg [.int .i8 (shapeM 24), .int .u8 (codeM 24), .int .i8 (numM 24)], .bool true]) := by
  exact (Ret.of_eval (d := .tup [.agg [.int .i8 5, .int .u8 247, .int .i8 6], .bool true]) mixed Try.func75 (by kernel_rfl) [.inl, tT, tT, tT, tF, tF, tT, .getA tab_XOf_0 72 3 ([.int .i8 5, .int .u8 247, .int .i8 6]) ⟨rfl, by decide⟩] (by kernel_rfl)).to (by simp [wk, wkL]; decide)
theorem of_25_ok  : Ret Try.prog 75 ([.int .i8 25]) (.tup [.agg [.int .i8 (shapeM 25), .int .u8 (codeM 25), .int .i8 (numM 25)], .bool true]) := by
  exact (Ret.of_eval (d := .tup [.agg [.int .i8 6, .int .u8 64, .int .i8 0], .bool true]) mixed Try.func75 (by kernel_rfl) [.inl, tT, tT, tT, tF, tF, tT, .getA tab_XOf_0 75 3 ([.int .i8 6, .int .u8 64, .int .i8 0]) ⟨rfl, by decide⟩] (by kernel_rfl)).to (by simp [wk, wkL]; decide)
theorem of_26_ok  : Ret Try.prog 75 ([.int .i8 26]) (.tup [.agg [.int .i8 (shapeM 26), .int .u8 (codeM 26), .int .i8 (numM 26)], .bool true]) := by
  exact (Ret.of_eval (d := .tup [.agg [.int .i8 7, .int .u8 139, .int .i8 0], .bool true]) mixed Try.func75 (by kernel_rfl) [.inl, tT, tT, tT, tF, tF, tT, .getA tab_XOf_0 78 3 ([.int .i8 7, .int .u8 139, .int .i8 0]) ⟨rfl, by decide⟩] (by kernel_rfl)).to (by simp [wk, wkL]; decide)
theorem of_27_ok  : Ret Try.prog 75 ([.int .i8 27]) (.tup [.agg [.int .i8 (shapeM 27), .int .u8 (codeM 27), .int .i8 (numM 27)], .bool true]) := by
  exact (Ret.of_eval (d := .tup [.agg [.int .i8 8, .int .u8 137, .int .i8 0], .bool true]) mixed Try.func75 (by kernel_rfl) [.inl, tT, tT, tT, tF, tF, tT, .getA tab_XOf_0 81 3 ([.int .i8 8, .int .u8 137, .int .i8 0]) ⟨rfl, by decide⟩] (by kernel_rfl)).to (by simp [wk, wkL]; decide)
theorem of_28_ok  : Ret Try.prog 75 ([.int .i8 28]) (.tup [.agg [.int .i8 (shapeM 28), .int .u8 (codeM 28), .int .i8 (numM 28)], .bool true]) := by
  exact (Ret.of_eval (d := .tup [.agg [.int .i8 9, .int .u8 233, .int .i8 0], .bool true]) mixed Try.func75 (by kernel_rfl) [.inl, tT, tT, tT, tF, tF, tT, .getA tab_XOf_0 84 3 ([.int .i8 9, .int .u8 233, .int .i8 0]) ⟨rfl, by decide⟩] (by kernel_rfl)).to (by simp [wk, wkL]; decide)
theorem of_29_ok  : Ret Try.prog 75 ([.int .i8 29]) (.tup [.agg [.int .i8 (shapeM 29), .int .u8 (codeM 29), .int .i8 (numM 29)], .bool true]) := by
  exact (Ret.of_eval (d := .tup [.agg [.int .i8 10, .int .u8 128, .int .i8 0], .bool true]) mixed Try.func75 (by kernel_rfl) [.inl, tT, tT, tT, tF, tF, tT, .getA tab_XOf_0 87 3 ([.int .i8 10, .int .u8 128, .int .i8 0]) ⟨rfl, by decide⟩] (by kernel_rfl)).to (by simp [wk, wkL]; decide)
theorem of_30_ok  : Ret Try.prog 75 ([.int .i8 30]) (.tup [.agg [.int .i8 (shapeM 30), .int .u8 (codeM 30), .int .i8 (numM 30)], .bool true]) := by
  exact (Ret.of_eval (d := .tup [.agg [.int .i8 11, .int .u8 195, .int .i8 0], .bool true]) mixed Try.func75 (by kernel_rfl) [.inl, tT, tT, tT, tF, tF, tT, .getA tab_XOf_0 90 3 ([.int .i8 11, .int .u8 195, .int .i8 0]) ⟨rfl, by decide⟩] (by kernel_rfl)).to (by simp [wk, wkL]; decide)
theorem of_31_ok  : Ret Try.prog 75 ([.int .i8 31]) (.tup [.agg [.int .i8 (shapeM 31), .int .u8 (codeM 31), .int .i8 (numM 31)], .bool true]) := by
  exact (Ret.of_eval (d := .tup [.agg [.int .i8 11, .int .u8 5, .int .i8 0], .bool true]) mixed Try.func75 (by kernel_rfl) [.inl, tT, tT, tT, tF, tF, tT, .getA tab_XOf_0 93 3 ([.int .i8 11, .int .u8 5, .int .i8 0]) ⟨rfl, by decide⟩] (by kernel_rfl)).to (by simp [wk, wkL]; decide)
theorem of_low_ok (op : Int) (h : op < 0) : Ret Try.prog 75 ([.int .i8 op]) (.tup [.agg [.int .i8 0, .int .u8 0, .int .i8 0], .bool false]) := by
  exact (Ret.of_eval (d := .tup [.agg [.int .i8 0, .int .u8 0, .int .i8 0], .bool false]) mixed Try.func75 (by kernel_rfl) ([.inl] ++ List.replicate 3 (tC (eF (decide_eq_true h))) ++ [tC (decide_eq_true h), tT]) (by kernel_rfl)).to (by simp [wk, wkL])
theorem of_high_ok (op : Int) (h : 32 ≤ op) (ho : op ≤ 127) : Ret Try.prog 75 ([.int .i8 op]) (.tup [.agg [.int .i8 0, .int .u8 0, .int .i8 0], .bool false]) := by
  exact (Ret.of_eval (d := .tup [.agg [.int .i8 0, .int .u8 0, .int .i8 0], .bool false]) mixed Try.func75 (by kernel_rfl) ([.inl] ++ List.replicate 3 (tC (eF (ltD 0 (decide_eq_false (Int.not_lt.2 h))))) ++ [tC (ltD 0 (decide_eq_false (Int.not_lt.2 h))), tC (leL 32 (by (simp only [w_i8, w_u8, w_i64, w_u64, decide_eq_true_eq, decide_eq_false_iff_not, beq_iff_eq, bne_iff_ne, beq_eq_false_iff_ne, bne_eq_false_iff_eq, Bool.not_eq_true', Bool.not_eq_false', Bool.and_eq_true, Bool.or_eq_true] at *; omega) : (decide (IntKind.wrap IntKind.i64 op < (32 : Int))) = false))]) (by kernel_rfl)).to (by simp [wk, wkL])
theorem reg_ok (n : Int) : Ret Try.prog 77 ([.int .i8 n]) (.bool (regM n)) := by
  rcases Bool.eq_false_or_eq_true (decide (n < (0 : Int))) with h0 | h0
  · skip
    exact (Ret.of_eval (d := .bool false) mixed Try.func77 (by kernel_rfl) [tC (eT (leL 0 h0)), tC (eT (leL 0 h0)), tC (leL 0 h0)] (by kernel_rfl)).to (by (try simp only [decide_eq_true_eq, decide_eq_false_iff_not, Bool.not_eq_true, beq_iff_eq, beq_eq_false_iff_ne, D.bool.injEq, wk, wkL, wkO, eqCells, eqCell, regM, ccM, widthM, longM] at *); first | (simp [wk, wkL, wkO, eqCells, eqCell, regM, ccM, widthM, longM, *]; done) | (simp [wk, wkL, wkO, eqCells, eqCell, regM, ccM, widthM, longM, *]; omega) | (rw [Bool.eq_iff_iff]; simp [wk, wkL, wkO, eqCells, eqCell, regM, ccM, widthM, longM, *]; done) | (rw [Bool.eq_iff_iff]; simp [wk, wkL, wkO, eqCells, eqCell, regM, ccM, widthM, longM, *]; omega) | (rw [Bool.eq_iff_iff]; simp [wk, wkL, wkO, eqCells, eqCell, regM, ccM, widthM, longM, *]; grind) | (subst_vars; rw [Bool.eq_iff_iff]; simp; grind))
  · skip
    exact (Ret.of_eval (d := .bool (decide (n < (16 : Int)))) mixed Try.func77 (by kernel_rfl) [tC (eT (leL 0 h0)), tC (eT (leL 0 h0)), tC (leL 0 h0)] (by kernel_rfl)).to (by (try simp only [decide_eq_true_eq, decide_eq_false_iff_not, Bool.not_eq_true, beq_iff_eq, beq_eq_false_iff_ne, D.bool.injEq, wk, wkL, wkO, eqCells, eqCell, regM, ccM, widthM, longM] at *); first | (simp [wk, wkL, wkO, eqCells, eqCell, regM, ccM, widthM, longM, *]; done) | (simp [wk, wkL, wkO, eqCells, eqCell, regM, ccM, widthM, longM, *]; omega) | (rw [Bool.eq_iff_iff]; simp [wk, wkL, wkO, eqCells, eqCell, regM, ccM, widthM, longM, *]; done) | (rw [Bool.eq_iff_iff]; simp [wk, wkL, wkO, eqCells, eqCell, regM, ccM, widthM, longM, *]; omega) | (rw [Bool.eq_iff_iff]; simp [wk, wkL, wkO, eqCells, eqCell, regM, ccM, widthM, longM, *]; grind) | (subst_vars; rw [Bool.eq_iff_iff]; simp; grind))
theorem cond_ok (n : Int) : Ret Try.prog 79 ([.int .i8 n]) (.bool (ccM n)) := by
  rcases Bool.eq_false_or_eq_true (decide (n < (2 : Int))) with h0 | h0
  · skip
    exact (Ret.of_eval (d := .bool false) mixed Try.func79 (by kernel_rfl) [tC (eT (leL 2 h0)), tC (eT (leL 2 h0)), tC (leL 2 h0), tT, tT, tT, tC (eT (leL 12 (ltU 12 h0))), tC (eT (leL 12 (ltU 12 h0))), tT, tC (leL 12 (ltU 12 h0)), tF] (by kernel_rfl)).to (by (try simp only [decide_eq_true_eq, decide_eq_false_iff_not, Bool.not_eq_true, beq_iff_eq, beq_eq_false_iff_ne, D.bool.injEq, wk, wkL, wkO, eqCells, eqCell, regM, ccM, widthM, longM] at *); first | (simp [wk, wkL, wkO, eqCells, eqCell, regM, ccM, widthM, longM, *]; done) | (simp [wk, wkL, wkO, eqCells, eqCell, regM, ccM, widthM, longM, *]; omega) | (rw [Bool.eq_iff_iff]; simp [wk, wkL, wkO, eqCells, eqCell, regM, ccM, widthM, longM, *]; done) | (rw [Bool.eq_iff_iff]; simp [wk, wkL, wkO, eqCells, eqCell, regM, ccM, widthM, longM, *]; omega) | (rw [Bool.eq_iff_iff]; simp [wk, wkL, wkO, eqCells, eqCell, regM, ccM, widthM, longM, *]; grind) | (subst_vars; rw [Bool.eq_iff_iff]; simp; grind))
  · skip
    rcases Bool.eq_false_or_eq_true (decide (n < (8 : Int))) with h1 | h1
    · skip
      exact (Ret.of_eval (d := .bool true) mixed Try.func79 (by kernel_rfl) ([tC (eT (leL 2 h0)), tC (eT (leL 2 h0)), tC (leL 2 h0)] ++ List.replicate 4 (tC (eF (leC 7 h1))) ++ [tC (leC 7 h1)]) (by kernel_rfl)).to (by (try simp only [decide_eq_true_eq, decide_eq_false_iff_not, Bool.not_eq_true, beq_iff_eq, beq_eq_false_iff_ne, D.bool.injEq, wk, wkL, wkO, eqCells, eqCell, regM, ccM, widthM, longM] at *); first | (simp [wk, wkL, wkO, eqCells, eqCell, regM, ccM, widthM, longM, *]; done) | (simp [wk, wkL, wkO, eqCells, eqCell, regM, ccM, widthM, longM, *]; omega) | (rw [Bool.eq_iff_iff]; simp [wk, wkL, wkO, eqCells, eqCell, regM, ccM, widthM, longM, *]; done) | (rw [Bool.eq_iff_iff]; simp [wk, wkL, wkO, eqCells, eqCell, regM, ccM, widthM, longM, *]; omega) | (rw [Bool.eq_iff_iff]; simp [wk, wkL, wkO, eqCells, eqCell, regM, ccM, widthM, longM, *]; grind) | (subst_vars; rw [Bool.eq_iff_iff]; simp; grind))
    · skip
      rcases Bool.eq_false_or_eq_true (decide (n < (12 : Int))) with h2 | h2
      · skip
        exact (Ret.of_eval (d := .bool false) mixed Try.func79 (by kernel_rfl) ([tC (eT (leL 2 h0)), tC (eT (leL 2 h0)), tC (leL 2 h0)] ++ List.replicate 3 (tC (eF (leC 7 h1))) ++ [tC (eT (leL 12 h2)), tC (eT (leL 12 h2)), tC (eF (leC 7 h1)), tC (leL 12 h2), tC (leC 7 h1)]) (by kernel_rfl)).to (by (try simp only [decide_eq_true_eq, decide_eq_false_iff_not, Bool.not_eq_true, beq_iff_eq, beq_eq_false_iff_ne, D.bool.injEq, wk, wkL, wkO, eqCells, eqCell, regM, ccM, widthM, longM] at *); first | (simp [wk, wkL, wkO, eqCells, eqCell, regM, ccM, widthM, longM, *]; done) | (simp [wk, wkL, wkO, eqCells, eqCell, regM, ccM, widthM, longM, *]; omega) | (rw [Bool.eq_iff_iff]; simp [wk, wkL, wkO, eqCells, eqCell, regM, ccM, widthM, longM, *]; done) | (rw [Bool.eq_iff_iff]; simp [wk, wkL, wkO, eqCells, eqCell, regM, ccM, widthM, longM, *]; omega) | (rw [Bool.eq_iff_iff]; simp [wk, wkL, wkO, eqCells, eqCell, regM, ccM, widthM, longM, *]; grind) | (subst_vars; rw [Bool.eq_iff_iff]; simp; grind))
      · skip
        exact (Ret.of_eval (d := .bool (decide (n ≤ (15 : Int)))) mixed Try.func79 (by kernel_rfl) ([tC (eT (leL 2 h0)), tC (eT (leL 2 h0)), tC (leL 2 h0)] ++ List.replicate 3 (tC (eF (leC 7 h1))) ++ [tC (eT (leL 12 h2)), tC (eT (leL 12 h2)), tC (eF (leC 7 h1)), tC (leL 12 h2), tC (leC 7 h1)]) (by kernel_rfl)).to (by (try simp only [decide_eq_true_eq, decide_eq_false_iff_not, Bool.not_eq_true, beq_iff_eq, beq_eq_false_iff_ne, D.bool.injEq, wk, wkL, wkO, eqCells, eqCell, regM, ccM, widthM, longM] at *); first | (simp [wk, wkL, wkO, eqCells, eqCell, regM, ccM, widthM, longM, *]; done) | (simp [wk, wkL, wkO, eqCells, eqCell, regM, ccM, widthM, longM, *]; omega) | (rw [Bool.eq_iff_iff]; simp [wk, wkL, wkO, eqCells, eqCell, regM, ccM, widthM, longM, *]; done) | (rw [Bool.eq_iff_iff]; simp [wk, wkL, wkO, eqCells, eqCell, regM, ccM, widthM, longM, *]; omega) | (rw [Bool.eq_iff_iff]; simp [wk, wkL, wkO, eqCells, eqCell, regM, ccM, widthM, longM, *]; grind) | (subst_vars; rw [Bool.eq_iff_iff]; simp; grind))
theorem within_ok (n a b : Int) : Ret Try.prog 78 ([.int .i64 n, .int .i64 a, .int .i64 b]) (.bool (decide (a ≤ n) && decide (n ≤ b))) := by
  rcases Bool.eq_false_or_eq_true (decide (n ≥ a)) with h0 | h0
  · skip
    exact (Ret.of_eval (d := .bool (decide (n ≤ b))) mixed Try.func78 (by kernel_rfl) [tC (eT h0), tC (eT h0), tC (eT h0), tC h0] (by kernel_rfl)).to (by (try simp only [decide_eq_true_eq, decide_eq_false_iff_not, Bool.not_eq_true, beq_iff_eq, beq_eq_false_iff_ne, D.bool.injEq, wk, wkL, wkO, eqCells, eqCell, regM, ccM, widthM, longM] at *); first | (simp [wk, wkL, wkO, eqCells, eqCell, regM, ccM, widthM, longM, *]; done) | (simp [wk, wkL, wkO, eqCells, eqCell, regM, ccM, widthM, longM, *]; omega) | (rw [Bool.eq_iff_iff]; simp [wk, wkL, wkO, eqCells, eqCell, regM, ccM, widthM, longM, *]; done) | (rw [Bool.eq_iff_iff]; simp [wk, wkL, wkO, eqCells, eqCell, regM, ccM, widthM, longM, *]; omega) | (rw [Bool.eq_iff_iff]; simp [wk, wkL, wkO, eqCells, eqCell, regM, ccM, widthM, longM, *]; grind) | (subst_vars; rw [Bool.eq_iff_iff]; simp; grind))
  · skip
    exact (Ret.of_eval (d := .bool false) mixed Try.func78 (by kernel_rfl) [tC (eT h0), tC (eT h0), tC (eT h0), tC h0] (by kernel_rfl)).to (by (try simp only [decide_eq_true_eq, decide_eq_false_iff_not, Bool.not_eq_true, beq_iff_eq, beq_eq_false_iff_ne, D.bool.injEq, wk, wkL, wkO, eqCells, eqCell, regM, ccM, widthM, longM] at *); first | (simp [wk, wkL, wkO, eqCells, eqCell, regM, ccM, widthM, longM, *]; done) | (simp [wk, wkL, wkO, eqCells, eqCell, regM, ccM, widthM, longM, *]; omega) | (rw [Bool.eq_iff_iff]; simp [wk, wkL, wkO, eqCells, eqCell, regM, ccM, widthM, longM, *]; done) | (rw [Bool.eq_iff_iff]; simp [wk, wkL, wkO, eqCells, eqCell, regM, ccM, widthM, longM, *]; omega) | (rw [Bool.eq_iff_iff]; simp [wk, wkL, wkO, eqCells, eqCell, regM, ccM, widthM, longM, *]; grind) | (subst_vars; rw [Bool.eq_iff_iff]; simp; grind))
theorem width_ok (n : Int) : Ret Try.prog 80 ([.int .i8 n]) (.bool (widthM n)) := by
  by_cases h0 : n = 8
  · subst h0
    exact (Ret.of_eval (d := .bool true) mixed Try.func80 (by kernel_rfl) [tT, tT] (by kernel_rfl)).to (by (try simp only [decide_eq_true_eq, decide_eq_false_iff_not, Bool.not_eq_true, beq_iff_eq, beq_eq_false_iff_ne, D.bool.injEq, wk, wkL, wkO, eqCells, eqCell, regM, ccM, widthM, longM] at *); first | (simp [wk, wkL, wkO, eqCells, eqCell, regM, ccM, widthM, longM, *]; done) | (simp [wk, wkL, wkO, eqCells, eqCell, regM, ccM, widthM, longM, *]; omega) | (rw [Bool.eq_iff_iff]; simp [wk, wkL, wkO, eqCells, eqCell, regM, ccM, widthM, longM, *]; done) | (rw [Bool.eq_iff_iff]; simp [wk, wkL, wkO, eqCells, eqCell, regM, ccM, widthM, longM, *]; omega) | (rw [Bool.eq_iff_iff]; simp [wk, wkL, wkO, eqCells, eqCell, regM, ccM, widthM, longM, *]; grind) | (subst_vars; rw [Bool.eq_iff_iff]; simp; grind))
  · skip
    by_cases h1 : n = 16
    · subst h1
      exact (Ret.of_eval (d := .bool true) mixed Try.func80 (by kernel_rfl) [tC (neOf h0), tT, tT] (by kernel_rfl)).to (by (try simp only [decide_eq_true_eq, decide_eq_false_iff_not, Bool.not_eq_true, beq_iff_eq, beq_eq_false_iff_ne, D.bool.injEq, wk, wkL, wkO, eqCells, eqCell, regM, ccM, widthM, longM] at *); first | (simp [wk, wkL, wkO, eqCells, eqCell, regM, ccM, widthM, longM, *]; done) | (simp [wk, wkL, wkO, eqCells, eqCell, regM, ccM, widthM, longM, *]; omega) | (rw [Bool.eq_iff_iff]; simp [wk, wkL, wkO, eqCells, eqCell, regM, ccM, widthM, longM, *]; done) | (rw [Bool.eq_iff_iff]; simp [wk, wkL, wkO, eqCells, eqCell, regM, ccM, widthM, longM, *]; omega) | (rw [Bool.eq_iff_iff]; simp [wk, wkL, wkO, eqCells, eqCell, regM, ccM, widthM, longM, *]; grind) | (subst_vars; rw [Bool.eq_iff_iff]; simp; grind))
    · skip
      by_cases h2 : n = 32
      · subst h2
        exact (Ret.of_eval (d := .bool true) mixed Try.func80 (by kernel_rfl) [tC (neOf h0), tC (neOf h1), tT, tT] (by kernel_rfl)).to (by (try simp only [decide_eq_true_eq, decide_eq_false_iff_not, Bool.not_eq_true, beq_iff_eq, beq_eq_false_iff_ne, D.bool.injEq, wk, wkL, wkO, eqCells, eqCell, regM, ccM, widthM, longM] at *); first | (simp [wk, wkL, wkO, eqCells, eqCell, regM, ccM, widthM, longM, *]; done) | (simp [wk, wkL, wkO, eqCells, eqCell, regM, ccM, widthM, longM, *]; omega) | (rw [Bool.eq_iff_iff]; simp [wk, wkL, wkO, eqCells, eqCell, regM, ccM, widthM, longM, *]; done) | (rw [Bool.eq_iff_iff]; simp [wk, wkL, wkO, eqCells, eqCell, regM, ccM, widthM, longM, *]; omega) | (rw [Bool.eq_iff_iff]; simp [wk, wkL, wkO, eqCells, eqCell, regM, ccM, widthM, longM, *]; grind) | (subst_vars; rw [Bool.eq_iff_iff]; simp; grind))
      · skip
        by_cases h3 : n = 64
        · subst h3
          exact (Ret.of_eval (d := .bool true) mixed Try.func80 (by kernel_rfl) [tC (neOf h0), tC (neOf h1), tC (neOf h2), tT] (by kernel_rfl)).to (by (try simp only [decide_eq_true_eq, decide_eq_false_iff_not, Bool.not_eq_true, beq_iff_eq, beq_eq_false_iff_ne, D.bool.injEq, wk, wkL, wkO, eqCells, eqCell, regM, ccM, widthM, longM] at *); first | (simp [wk, wkL, wkO, eqCells, eqCell, regM, ccM, widthM, longM, *]; done) | (simp [wk, wkL, wkO, eqCells, eqCell, regM, ccM, widthM, longM, *]; omega) | (rw [Bool.eq_iff_iff]; simp [wk, wkL, wkO, eqCells, eqCell, regM, ccM, widthM, longM, *]; done) | (rw [Bool.eq_iff_iff]; simp [wk, wkL, wkO, eqCells, eqCell, regM, ccM, widthM, longM, *]; omega) | (rw [Bool.eq_iff_iff]; simp [wk, wkL, wkO, eqCells, eqCell, regM, ccM, widthM, longM, *]; grind) | (subst_vars; rw [Bool.eq_iff_iff]; simp; grind))
        · skip
          exact (Ret.of_eval (d := .bool false) mixed Try.func80 (by kernel_rfl) [tC (neOf h0), tC (neOf h1), tC (neOf h2), tC (neOf h3)] (by kernel_rfl)).to (by (try simp only [decide_eq_true_eq, decide_eq_false_iff_not, Bool.not_eq_true, beq_iff_eq, beq_eq_false_iff_ne, D.bool.injEq, wk, wkL, wkO, eqCells, eqCell, regM, ccM, widthM, longM] at *); first | (simp [wk, wkL, wkO, eqCells, eqCell, regM, ccM, widthM, longM, *]; done) | (simp [wk, wkL, wkO, eqCells, eqCell, regM, ccM, widthM, longM, *]; omega) | (rw [Bool.eq_iff_iff]; simp [wk, wkL, wkO, eqCells, eqCell, regM, ccM, widthM, longM, *]; done) | (rw [Bool.eq_iff_iff]; simp [wk, wkL, wkO, eqCells, eqCell, regM, ccM, widthM, longM, *]; omega) | (rw [Bool.eq_iff_iff]; simp [wk, wkL, wkO, eqCells, eqCell, regM, ccM, widthM, longM, *]; grind) | (subst_vars; rw [Bool.eq_iff_iff]; simp; grind))
theorem bareL_1_ok (op w dst src base disp imm cc : Int) : Ret Try.prog 76 ([xD op w dst src base disp imm cc, .int .i8 1]) (xD 0 0 0 0 base disp imm cc) := by
  by_cases h0 : base = 0
  · subst h0
    by_cases h1 : disp = 0
    · subst h1
      by_cases h2 : imm = 0
      · subst h2
        by_cases h3 : cc = 0
        · subst h3
          exact (Ret.of_eval (d := (xD 0 0 0 0 0 0 0 0)) mixed Try.func76 (by kernel_rfl) [tT, tT, tT, tT, tF, tF, .flat _ _ flat_X, tF] (by kernel_rfl)).to (by first | (simp [wk, wkL, ]; done) | (simp [wk, wkL, ]; omega))
        · skip
          exact (Ret.of_eval (d := (xD 0 0 0 0 0 0 0 cc)) mixed Try.func76 (by kernel_rfl) [tT, tT, tT, tT, tF, tF, .flat _ _ flat_X, tC (nt (andT rfl (andT rfl (andT rfl (andT rfl (andT rfl (andT rfl (andT rfl (andF (y := true) (neOf h3))))))))))] (by kernel_rfl)).to (by first | (simp [wk, wkL, h3]; done) | (simp [wk, wkL, h3]; omega))
      · skip
        exact (Ret.of_eval (d := (xD 0 0 0 0 0 0 imm cc)) mixed Try.func76 (by kernel_rfl) [tT, tT, tT, tT, tF, tF, .flat _ _ flat_X, tC (nt (andT rfl (andT rfl (andT rfl (andT rfl (andT rfl (andT rfl (andF (y := eqCells [.int .i8 cc] [.int .i8 0]) (neOf h2)))))))))] (by kernel_rfl)).to (by first | (simp [wk, wkL, h2]; done) | (simp [wk, wkL, h2]; omega))
    · skip
      exact (Ret.of_eval (d := (xD 0 0 0 0 0 disp imm cc)) mixed Try.func76 (by kernel_rfl) [tT, tT, tT, tT, tF, tF, .flat _ _ flat_X, tC (nt (andT rfl (andT rfl (andT rfl (andT rfl (andT rfl (andF (y := eqCells [.int .i64 imm, .int .i8 cc] [.int .i64 0, .int .i8 0]) (neOf h1))))))))] (by kernel_rfl)).to (by first | (simp [wk, wkL, h1]; done) | (simp [wk, wkL, h1]; omega))
  · skip
    exact (Ret.of_eval (d := (xD 0 0 0 0 base disp imm cc)) mixed Try.func76 (by kernel_rfl) [tT, tT, tT, tT, tF, tF, .flat _ _ flat_X, tC (nt (andT rfl (andT rfl (andT rfl (andT rfl (andF (y := eqCells [.int .i64 disp, .int .i64 imm, .int .i8 cc] [.int .i64 0, .int .i64 0, .int .i8 0]) (neOf h0)))))))] (by kernel_rfl)).to (by first | (simp [wk, wkL, h0]; done) | (simp [wk, wkL, h0]; omega))
theorem bareL_2_ok (op w dst src base disp imm cc : Int) : Ret Try.prog 76 ([xD op w dst src base disp imm cc, .int .i8 2]) (xD 0 0 0 0 base disp imm cc) := by
  by_cases h0 : base = 0
  · subst h0
    by_cases h1 : disp = 0
    · subst h1
      by_cases h2 : imm = 0
      · subst h2
        by_cases h3 : cc = 0
        · subst h3
          exact (Ret.of_eval (d := (xD 0 0 0 0 0 0 0 0)) mixed Try.func76 (by kernel_rfl) [tF, tT, tT, tT, tT, tF, tF, .flat _ _ flat_X, tF] (by kernel_rfl)).to (by first | (simp [wk, wkL, ]; done) | (simp [wk, wkL, ]; omega))
        · skip
          exact (Ret.of_eval (d := (xD 0 0 0 0 0 0 0 cc)) mixed Try.func76 (by kernel_rfl) [tF, tT, tT, tT, tT, tF, tF, .flat _ _ flat_X, tC (nt (andT rfl (andT rfl (andT rfl (andT rfl (andT rfl (andT rfl (andT rfl (andF (y := true) (neOf h3))))))))))] (by kernel_rfl)).to (by first | (simp [wk, wkL, h3]; done) | (simp [wk, wkL, h3]; omega))
      · skip
        exact (Ret.of_eval (d := (xD 0 0 0 0 0 0 imm cc)) mixed Try.func76 (by kernel_rfl) [tF, tT, tT, tT, tT, tF, tF, .flat _ _ flat_X, tC (nt (andT rfl (andT rfl (andT rfl (andT rfl (andT rfl (andT rfl (andF (y := eqCells [.int .i8 cc] [.int .i8 0]) (neOf h2)))))))))] (by kernel_rfl)).to (by first | (simp [wk, wkL, h2]; done) | (simp [wk, wkL, h2]; omega))
    · skip
      exact (Ret.of_eval (d := (xD 0 0 0 0 0 disp imm cc)) mixed Try.func76 (by kernel_rfl) [tF, tT, tT, tT, tT, tF, tF, .flat _ _ flat_X, tC (nt (andT rfl (andT rfl (andT rfl (andT rfl (andT rfl (andF (y := eqCells [.int .i64 imm, .int .i8 cc] [.int .i64 0, .int .i8 0]) (neOf h1))))))))] (by kernel_rfl)).to (by first | (simp [wk, wkL, h1]; done) | (simp [wk, wkL, h1]; omega))
  · skip
    exact (Ret.of_eval (d := (xD 0 0 0 0 base disp imm cc)) mixed Try.func76 (by kernel_rfl) [tF, tT, tT, tT, tT, tF, tF, .flat _ _ flat_X, tC (nt (andT rfl (andT rfl (andT rfl (andT rfl (andF (y := eqCells [.int .i64 disp, .int .i64 imm, .int .i8 cc] [.int .i64 0, .int .i64 0, .int .i8 0]) (neOf h0)))))))] (by kernel_rfl)).to (by first | (simp [wk, wkL, h0]; done) | (simp [wk, wkL, h0]; omega))
theorem bareL_3_ok (op w dst src base disp imm cc : Int) : Ret Try.prog 76 ([xD op w dst src base disp imm cc, .int .i8 3]) (xD 0 0 0 src base disp 0 cc) := by
  by_cases h0 : src = 0
  · subst h0
    by_cases h1 : base = 0
    · subst h1
      by_cases h2 : disp = 0
      · subst h2
        by_cases h3 : cc = 0
        · subst h3
          exact (Ret.of_eval (d := (xD 0 0 0 0 0 0 0 0)) mixed Try.func76 (by kernel_rfl) [tF, tF, tF, tT, tT, tT, tT, tF, tF, .flat _ _ flat_X, tF] (by kernel_rfl)).to (by first | (simp [wk, wkL, ]; done) | (simp [wk, wkL, ]; omega))
        · skip
          exact (Ret.of_eval (d := (xD 0 0 0 0 0 0 0 cc)) mixed Try.func76 (by kernel_rfl) [tF, tF, tF, tT, tT, tT, tT, tF, tF, .flat _ _ flat_X, tC (nt (andT rfl (andT rfl (andT rfl (andT rfl (andT rfl (andT rfl (andT rfl (andF (y := true) (neOf h3))))))))))] (by kernel_rfl)).to (by first | (simp [wk, wkL, h3]; done) | (simp [wk, wkL, h3]; omega))
      · skip
        exact (Ret.of_eval (d := (xD 0 0 0 0 0 disp 0 cc)) mixed Try.func76 (by kernel_rfl) [tF, tF, tF, tT, tT, tT, tT, tF, tF, .flat _ _ flat_X, tC (nt (andT rfl (andT rfl (andT rfl (andT rfl (andT rfl (andF (y := eqCells [.int .i64 0, .int .i8 cc] [.int .i64 0, .int .i8 0]) (neOf h2))))))))] (by kernel_rfl)).to (by first | (simp [wk, wkL, h2]; done) | (simp [wk, wkL, h2]; omega))
    · skip
      exact (Ret.of_eval (d := (xD 0 0 0 0 base disp 0 cc)) mixed Try.func76 (by kernel_rfl) [tF, tF, tF, tT, tT, tT, tT, tF, tF, .flat _ _ flat_X, tC (nt (andT rfl (andT rfl (andT rfl (andT rfl (andF (y := eqCells [.int .i64 disp, .int .i64 0, .int .i8 cc] [.int .i64 0, .int .i64 0, .int .i8 0]) (neOf h1)))))))] (by kernel_rfl)).to (by first | (simp [wk, wkL, h1]; done) | (simp [wk, wkL, h1]; omega))
  · skip
    exact (Ret.of_eval (d := (xD 0 0 0 src base disp 0 cc)) mixed Try.func76 (by kernel_rfl) [tF, tF, tF, tT, tT, tT, tT, tF, tF, .flat _ _ flat_X, tC (nt (andT rfl (andT rfl (andT rfl (andF (y := eqCells [.int .i8 base, .int .i64 disp, .int .i64 0, .int .i8 cc] [.int .i8 0, .int .i64 0, .int .i64 0, .int .i8 0]) (neOf h0))))))] (by kernel_rfl)).to (by first | (simp [wk, wkL, h0]; done) | (simp [wk, wkL, h0]; omega))
theorem bareL_4_ok (op w dst src base disp imm cc : Int) : Ret Try.prog 76 ([xD op w dst src base disp imm cc, .int .i8 4]) (xD 0 0 0 src base disp 0 cc) := by
  by_cases h0 : src = 0
  · subst h0
    by_cases h1 : base = 0
    · subst h1
      by_cases h2 : disp = 0
      · subst h2
        by_cases h3 : cc = 0
        · subst h3
          exact (Ret.of_eval (d := (xD 0 0 0 0 0 0 0 0)) mixed Try.func76 (by kernel_rfl) [tF, tF, tF, tF, tT, tT, tT, tF, tF, .flat _ _ flat_X, tF] (by kernel_rfl)).to (by first | (simp [wk, wkL, ]; done) | (simp [wk, wkL, ]; omega))
        · skip
          exact (Ret.of_eval (d := (xD 0 0 0 0 0 0 0 cc)) mixed Try.func76 (by kernel_rfl) [tF, tF, tF, tF, tT, tT, tT, tF, tF, .flat _ _ flat_X, tC (nt (andT rfl (andT rfl (andT rfl (andT rfl (andT rfl (andT rfl (andT rfl (andF (y := true) (neOf h3))))))))))] (by kernel_rfl)).to (by first | (simp [wk, wkL, h3]; done) | (simp [wk, wkL, h3]; omega))
      · skip
        exact (Ret.of_eval (d := (xD 0 0 0 0 0 disp 0 cc)) mixed Try.func76 (by kernel_rfl) [tF, tF, tF, tF, tT, tT, tT, tF, tF, .flat _ _ flat_X, tC (nt (andT rfl (andT rfl (andT rfl (andT rfl (andT rfl (andF (y := eqCells [.int .i64 0, .int .i8 cc] [.int .i64 0, .int .i8 0]) (neOf h2))))))))] (by kernel_rfl)).to (by first | (simp [wk, wkL, h2]; done) | (simp [wk, wkL, h2]; omega))
    · skip
      exact (Ret.of_eval (d := (xD 0 0 0 0 base disp 0 cc)) mixed Try.func76 (by kernel_rfl) [tF, tF, tF, tF, tT, tT, tT, tF, tF, .flat _ _ flat_X, tC (nt (andT rfl (andT rfl (andT rfl (andT rfl (andF (y := eqCells [.int .i64 disp, .int .i64 0, .int .i8 cc] [.int .i64 0, .int .i64 0, .int .i8 0]) (neOf h1)))))))] (by kernel_rfl)).to (by first | (simp [wk, wkL, h1]; done) | (simp [wk, wkL, h1]; omega))
  · skip
    exact (Ret.of_eval (d := (xD 0 0 0 src base disp 0 cc)) mixed Try.func76 (by kernel_rfl) [tF, tF, tF, tF, tT, tT, tT, tF, tF, .flat _ _ flat_X, tC (nt (andT rfl (andT rfl (andT rfl (andF (y := eqCells [.int .i8 base, .int .i64 disp, .int .i64 0, .int .i8 cc] [.int .i8 0, .int .i64 0, .int .i64 0, .int .i8 0]) (neOf h0))))))] (by kernel_rfl)).to (by first | (simp [wk, wkL, h0]; done) | (simp [wk, wkL, h0]; omega))
theorem bareL_5_ok (op w dst src base disp imm cc : Int) : Ret Try.prog 76 ([xD op w dst src base disp imm cc, .int .i8 5]) (xD 0 0 0 src base disp imm cc) := by
  by_cases h0 : src = 0
  · subst h0
    by_cases h1 : base = 0
    · subst h1
      by_cases h2 : disp = 0
      · subst h2
        by_cases h3 : imm = 0
        · subst h3
          by_cases h4 : cc = 0
          · subst h4
            exact (Ret.of_eval (d := (xD 0 0 0 0 0 0 0 0)) mixed Try.func76 (by kernel_rfl) [tF, tF, tF, tF, tF, tT, tT, tT, tF, tF, .flat _ _ flat_X, tF] (by kernel_rfl)).to (by first | (simp [wk, wkL, ]; done) | (simp [wk, wkL, ]; omega))
          · skip
            exact (Ret.of_eval (d := (xD 0 0 0 0 0 0 0 cc)) mixed Try.func76 (by kernel_rfl) [tF, tF, tF, tF, tF, tT, tT, tT, tF, tF, .flat _ _ flat_X, tC (nt (andT rfl (andT rfl (andT rfl (andT rfl (andT rfl (andT rfl (andT rfl (andF (y := true) (neOf h4))))))))))] (by kernel_rfl)).to (by first | (simp [wk, wkL, h4]; done) | (simp [wk, wkL, h4]; omega))
        · skip
          exact (Ret.of_eval (d := (xD 0 0 0 0 0 0 imm cc)) mixed Try.func76 (by kernel_rfl) [tF, tF, tF, tF, tF, tT, tT, tT, tF, tF, .flat _ _ flat_X, tC (nt (andT rfl (andT rfl (andT rfl (andT rfl (andT rfl (andT rfl (andF (y := eqCells [.int .i8 cc] [.int .i8 0]) (neOf h3)))))))))] (by kernel_rfl)).to (by first | (simp [wk, wkL, h3]; done) | (simp [wk, wkL, h3]; omega))
      · skip
        exact (Ret.of_eval (d := (xD 0 0 0 0 0 disp imm cc)) mixed Try.func76 (by kernel_rfl) [tF, tF, tF, tF, tF, tT, tT, tT, tF, tF, .flat _ _ flat_X, tC (nt (andT rfl (andT rfl (andT rfl (andT rfl (andT rfl (andF (y := eqCells [.int .i64 imm, .int .i8 cc] [.int .i64 0, .int .i8 0]) (neOf h2))))))))] (by kernel_rfl)).to (by first | (simp [wk, wkL, h2]; done) | (simp [wk, wkL, h2]; omega))
    · skip
      exact (Ret.of_eval (d := (xD 0 0 0 0 base disp imm cc)) mixed Try.func76 (by kernel_rfl) [tF, tF, tF, tF, tF, tT, tT, tT, tF, tF, .flat _ _ flat_X, tC (nt (andT rfl (andT rfl (andT rfl (andT rfl (andF (y := eqCells [.int .i64 disp, .int .i64 imm, .int .i8 cc] [.int .i64 0, .int .i64 0, .int .i8 0]) (neOf h1)))))))] (by kernel_rfl)).to (by first | (simp [wk, wkL, h1]; done) | (simp [wk, wkL, h1]; omega))
  · skip
    exact (Ret.of_eval (d := (xD 0 0 0 src base disp imm cc)) mixed Try.func76 (by kernel_rfl) [tF, tF, tF, tF, tF, tT, tT, tT, tF, tF, .flat _ _ flat_X, tC (nt (andT rfl (andT rfl (andT rfl (andF (y := eqCells [.int .i8 base, .int .i64 disp, .int .i64 imm, .int .i8 cc] [.int .i8 0, .int .i64 0, .int .i64 0, .int .i8 0]) (neOf h0))))))] (by kernel_rfl)).to (by first | (simp [wk, wkL, h0]; done) | (simp [wk, wkL, h0]; omega))
theorem bareL_6_ok (op w dst src base disp imm cc : Int) : Ret Try.prog 76 ([xD op w dst src base disp imm cc, .int .i8 6]) (xD 0 0 0 0 base disp imm 0) := by
  by_cases h0 : base = 0
  · subst h0
    by_cases h1 : disp = 0
    · subst h1
      by_cases h2 : imm = 0
      · subst h2
        exact (Ret.of_eval (d := (xD 0 0 0 0 0 0 0 0)) mixed Try.func76 (by kernel_rfl) [tF, tF, tT, tF, tF, tT, tT, .flat _ _ flat_X, tF] (by kernel_rfl)).to (by first | (simp [wk, wkL, ]; done) | (simp [wk, wkL, ]; omega))
      · skip
        exact (Ret.of_eval (d := (xD 0 0 0 0 0 0 imm 0)) mixed Try.func76 (by kernel_rfl) [tF, tF, tT, tF, tF, tT, tT, .flat _ _ flat_X, tC (nt (andT rfl (andT rfl (andT rfl (andT rfl (andT rfl (andT rfl (andF (y := true) (neOf h2)))))))))] (by kernel_rfl)).to (by first | (simp [wk, wkL, h2]; done) | (simp [wk, wkL, h2]; omega))
    · skip
      exact (Ret.of_eval (d := (xD 0 0 0 0 0 disp imm 0)) mixed Try.func76 (by kernel_rfl) [tF, tF, tT, tF, tF, tT, tT, .flat _ _ flat_X, tC (nt (andT rfl (andT rfl (andT rfl (andT rfl (andT rfl (andF (y := eqCells [.int .i64 imm, .int .i8 0] [.int .i64 0, .int .i8 0]) (neOf h1))))))))] (by kernel_rfl)).to (by first | (simp [wk, wkL, h1]; done) | (simp [wk, wkL, h1]; omega))
  · skip
    exact (Ret.of_eval (d := (xD 0 0 0 0 base disp imm 0)) mixed Try.func76 (by kernel_rfl) [tF, tF, tT, tF, tF, tT, tT, .flat _ _ flat_X, tC (nt (andT rfl (andT rfl (andT rfl (andT rfl (andF (y := eqCells [.int .i64 disp, .int .i64 imm, .int .i8 0] [.int .i64 0, .int .i64 0, .int .i8 0]) (neOf h0)))))))] (by kernel_rfl)).to (by first | (simp [wk, wkL, h0]; done) | (simp [wk, wkL, h0]; omega))
theorem bareL_7_ok (op w dst src base disp imm cc : Int) : Ret Try.prog 76 ([xD op w dst src base disp imm cc, .int .i8 7]) (xD 0 0 0 src 0 0 imm cc) := by
  by_cases h0 : src = 0
  · subst h0
    by_cases h1 : imm = 0
    · subst h1
      by_cases h2 : cc = 0
      · subst h2
        exact (Ret.of_eval (d := (xD 0 0 0 0 0 0 0 0)) mixed Try.func76 (by kernel_rfl) [tF, tF, tF, tF, tF, tF, tT, tT, tT, tF, tF, .flat _ _ flat_X, tF] (by kernel_rfl)).to (by first | (simp [wk, wkL, ]; done) | (simp [wk, wkL, ]; omega))
      · skip
        exact (Ret.of_eval (d := (xD 0 0 0 0 0 0 0 cc)) mixed Try.func76 (by kernel_rfl) [tF, tF, tF, tF, tF, tF, tT, tT, tT, tF, tF, .flat _ _ flat_X, tC (nt (andT rfl (andT rfl (andT rfl (andT rfl (andT rfl (andT rfl (andT rfl (andF (y := true) (neOf h2))))))))))] (by kernel_rfl)).to (by first | (simp [wk, wkL, h2]; done) | (simp [wk, wkL, h2]; omega))
    · skip
      exact (Ret.of_eval (d := (xD 0 0 0 0 0 0 imm cc)) mixed Try.func76 (by kernel_rfl) [tF, tF, tF, tF, tF, tF, tT, tT, tT, tF, tF, .flat _ _ flat_X, tC (nt (andT rfl (andT rfl (andT rfl (andT rfl (andT rfl (andT rfl (andF (y := eqCells [.int .i8 cc] [.int .i8 0]) (neOf h1)))))))))] (by kernel_rfl)).to (by first | (simp [wk, wkL, h1]; done) | (simp [wk, wkL, h1]; omega))
  · skip
    exact (Ret.of_eval (d := (xD 0 0 0 src 0 0 imm cc)) mixed Try.func76 (by kernel_rfl) [tF, tF, tF, tF, tF, tF, tT, tT, tT, tF, tF, .flat _ _ flat_X, tC (nt (andT rfl (andT rfl (andT rfl (andF (y := eqCells [.int .i8 0, .int .i64 0, .int .i64 imm, .int .i8 cc] [.int .i8 0, .int .i64 0, .int .i64 0, .int .i8 0]) (neOf h0))))))] (by kernel_rfl)).to (by first | (simp [wk, wkL, h0]; done) | (simp [wk, wkL, h0]; omega))
theorem bareL_8_ok (op w dst src base disp imm cc : Int) : Ret Try.prog 76 ([xD op w dst src base disp imm cc, .int .i8 8]) (xD 0 0 dst 0 0 0 imm cc) := by
  by_cases h0 : dst = 0
  · subst h0
    by_cases h1 : imm = 0
    · subst h1
      by_cases h2 : cc = 0
      · subst h2
        exact (Ret.of_eval (d := (xD 0 0 0 0 0 0 0 0)) mixed Try.func76 (by kernel_rfl) [tF, tF, tF, tF, tF, tF, tF, tT, tT, tT, tF, tF, .flat _ _ flat_X, tF] (by kernel_rfl)).to (by first | (simp [wk, wkL, ]; done) | (simp [wk, wkL, ]; omega))
      · skip
        exact (Ret.of_eval (d := (xD 0 0 0 0 0 0 0 cc)) mixed Try.func76 (by kernel_rfl) [tF, tF, tF, tF, tF, tF, tF, tT, tT, tT, tF, tF, .flat _ _ flat_X, tC (nt (andT rfl (andT rfl (andT rfl (andT rfl (andT rfl (andT rfl (andT rfl (andF (y := true) (neOf h2))))))))))] (by kernel_rfl)).to (by first | (simp [wk, wkL, h2]; done) | (simp [wk, wkL, h2]; omega))
    · skip
      exact (Ret.of_eval (d := (xD 0 0 0 0 0 0 imm cc)) mixed Try.func76 (by kernel_rfl) [tF, tF, tF, tF, tF, tF, tF, tT, tT, tT, tF, tF, .flat _ _ flat_X, tC (nt (andT rfl (andT rfl (andT rfl (andT rfl (andT rfl (andT rfl (andF (y := eqCells [.int .i8 cc] [.int .i8 0]) (neOf h1)))))))))] (by kernel_rfl)).to (by first | (simp [wk, wkL, h1]; done) | (simp [wk, wkL, h1]; omega))
  · skip
    exact (Ret.of_eval (d := (xD 0 0 dst 0 0 0 imm cc)) mixed Try.func76 (by kernel_rfl) [tF, tF, tF, tF, tF, tF, tF, tT, tT, tT, tF, tF, .flat _ _ flat_X, tC (nt (andT rfl (andT rfl (andF (y := eqCells [.int .i8 0, .int .i8 0, .int .i64 0, .int .i64 imm, .int .i8 cc] [.int .i8 0, .int .i8 0, .int .i64 0, .int .i64 0, .int .i8 0]) (neOf h0)))))] (by kernel_rfl)).to (by first | (simp [wk, wkL, h0]; done) | (simp [wk, wkL, h0]; omega))
theorem bareL_9_ok (op w dst src base disp imm cc : Int) : Ret Try.prog 76 ([xD op w dst src base disp imm cc, .int .i8 9]) (xD 0 0 dst src base disp 0 cc) := by
  by_cases h0 : dst = 0
  · subst h0
    by_cases h1 : src = 0
    · subst h1
      by_cases h2 : base = 0
      · subst h2
        by_cases h3 : disp = 0
        · subst h3
          by_cases h4 : cc = 0
          · subst h4
            exact (Ret.of_eval (d := (xD 0 0 0 0 0 0 0 0)) mixed Try.func76 (by kernel_rfl) [tF, tF, tF, tF, tF, tF, tF, tF, tT, tT, tT, tT, tF, tF, .flat _ _ flat_X, tF] (by kernel_rfl)).to (by first | (simp [wk, wkL, ]; done) | (simp [wk, wkL, ]; omega))
          · skip
            exact (Ret.of_eval (d := (xD 0 0 0 0 0 0 0 cc)) mixed Try.func76 (by kernel_rfl) [tF, tF, tF, tF, tF, tF, tF, tF, tT, tT, tT, tT, tF, tF, .flat _ _ flat_X, tC (nt (andT rfl (andT rfl (andT rfl (andT rfl (andT rfl (andT rfl (andT rfl (andF (y := true) (neOf h4))))))))))] (by kernel_rfl)).to (by first | (simp [wk, wkL, h4]; done) | (simp [wk, wkL, h4]; omega))
        · skip
          exact (Ret.of_eval (d := (xD 0 0 0 0 0 disp 0 cc)) mixed Try.func76 (by kernel_rfl) [tF, tF, tF, tF, tF, tF, tF, tF, tT, tT, tT, tT, tF, tF, .flat _ _ flat_X, tC (nt (andT rfl (andT rfl (andT rfl (andT rfl (andT rfl (andF (y := eqCells [.int .i64 0, .int .i8 cc] [.int .i64 0, .int .i8 0]) (neOf h3))))))))] (by kernel_rfl)).to (by first | (simp [wk, wkL, h3]; done) | (simp [wk, wkL, h3]; omega))
      · skip
        exact (Ret.of_eval (d := (xD 0 0 0 0 base disp 0 cc)) mixed Try.func76 (by kernel_rfl) [tF, tF, tF, tF, tF, tF, tF, tF, tT, tT, tT, tT, tF, tF, .flat _ _ flat_X, tC (nt (andT rfl (andT rfl (andT rfl (andT rfl (andF (y := eqCells [.int .i64 disp, .int .i64 0, .int .i8 cc] [.int .i64 0, .int .i64 0, .int .i8 0]) (neOf h2)))))))] (by kernel_rfl)).to (by first | (simp [wk, wkL, h2]; done) | (simp [wk, wkL, h2]; omega))
    · skip
      exact (Ret.of_eval (d := (xD 0 0 0 src base disp 0 cc)) mixed Try.func76 (by kernel_rfl) [tF, tF, tF, tF, tF, tF, tF, tF, tT, tT, tT, tT, tF, tF, .flat _ _ flat_X, tC (nt (andT rfl (andT rfl (andT rfl (andF (y := eqCells [.int .i8 base, .int .i64 disp, .int .i64 0, .int .i8 cc] [.int .i8 0, .int .i64 0, .int .i64 0, .int .i8 0]) (neOf h1))))))] (by kernel_rfl)).to (by first | (simp [wk, wkL, h1]; done) | (simp [wk, wkL, h1]; omega))
  · skip
    exact (Ret.of_eval (d := (xD 0 0 dst src base disp 0 cc)) mixed Try.func76 (by kernel_rfl) [tF, tF, tF, tF, tF, tF, tF, tF, tT, tT, tT, tT, tF, tF, .flat _ _ flat_X, tC (nt (andT rfl (andT rfl (andF (y := eqCells [.int .i8 src, .int .i8 base, .int .i64 disp, .int .i64 0, .int .i8 cc] [.int .i8 0, .int .i8 0, .int .i64 0, .int .i64 0, .int .i8 0]) (neOf h0)))))] (by kernel_rfl)).to (by first | (simp [wk, wkL, h0]; done) | (simp [wk, wkL, h0]; omega))
theorem bareL_10_ok (op w dst src base disp imm cc : Int) : Ret Try.prog 76 ([xD op w dst src base disp imm cc, .int .i8 10]) (xD 0 0 dst src base disp 0 0) := by
  by_cases h0 : dst = 0
  · subst h0
    by_cases h1 : src = 0
    · subst h1
      by_cases h2 : base = 0
      · subst h2
        by_cases h3 : disp = 0
        · subst h3
          exact (Ret.of_eval (d := (xD 0 0 0 0 0 0 0 0)) mixed Try.func76 (by kernel_rfl) [tF, tF, tF, tF, tF, tF, tF, tF, tF, tT, tT, tT, tF, tT, .flat _ _ flat_X, tF] (by kernel_rfl)).to (by first | (simp [wk, wkL, ]; done) | (simp [wk, wkL, ]; omega))
        · skip
          exact (Ret.of_eval (d := (xD 0 0 0 0 0 disp 0 0)) mixed Try.func76 (by kernel_rfl) [tF, tF, tF, tF, tF, tF, tF, tF, tF, tT, tT, tT, tF, tT, .flat _ _ flat_X, tC (nt (andT rfl (andT rfl (andT rfl (andT rfl (andT rfl (andF (y := true) (neOf h3))))))))] (by kernel_rfl)).to (by first | (simp [wk, wkL, h3]; done) | (simp [wk, wkL, h3]; omega))
      · skip
        exact (Ret.of_eval (d := (xD 0 0 0 0 base disp 0 0)) mixed Try.func76 (by kernel_rfl) [tF, tF, tF, tF, tF, tF, tF, tF, tF, tT, tT, tT, tF, tT, .flat _ _ flat_X, tC (nt (andT rfl (andT rfl (andT rfl (andT rfl (andF (y := eqCells [.int .i64 disp, .int .i64 0, .int .i8 0] [.int .i64 0, .int .i64 0, .int .i8 0]) (neOf h2)))))))] (by kernel_rfl)).to (by first | (simp [wk, wkL, h2]; done) | (simp [wk, wkL, h2]; omega))
    · skip
      exact (Ret.of_eval (d := (xD 0 0 0 src base disp 0 0)) mixed Try.func76 (by kernel_rfl) [tF, tF, tF, tF, tF, tF, tF, tF, tF, tT, tT, tT, tF, tT, .flat _ _ flat_X, tC (nt (andT rfl (andT rfl (andT rfl (andF (y := eqCells [.int .i8 base, .int .i64 disp, .int .i64 0, .int .i8 0] [.int .i8 0, .int .i64 0, .int .i64 0, .int .i8 0]) (neOf h1))))))] (by kernel_rfl)).to (by first | (simp [wk, wkL, h1]; done) | (simp [wk, wkL, h1]; omega))
  · skip
    exact (Ret.of_eval (d := (xD 0 0 dst src base disp 0 0)) mixed Try.func76 (by kernel_rfl) [tF, tF, tF, tF, tF, tF, tF, tF, tF, tT, tT, tT, tF, tT, .flat _ _ flat_X, tC (nt (andT rfl (andT rfl (andF (y := eqCells [.int .i8 src, .int .i8 base, .int .i64 disp, .int .i64 0, .int .i8 0] [.int .i8 0, .int .i8 0, .int .i64 0, .int .i64 0, .int .i8 0]) (neOf h0)))))] (by kernel_rfl)).to (by first | (simp [wk, wkL, h0]; done) | (simp [wk, wkL, h0]; omega))
theorem bareL_11_ok (op w dst src base disp imm cc : Int) : Ret Try.prog 76 ([xD op w dst src base disp imm cc, .int .i8 11]) (xD 0 w dst src base disp imm cc) := by
  by_cases h0 : w = 0
  · subst h0
    by_cases h1 : dst = 0
    · subst h1
      by_cases h2 : src = 0
      · subst h2
        by_cases h3 : base = 0
        · subst h3
          by_cases h4 : disp = 0
          · subst h4
            by_cases h5 : imm = 0
            · subst h5
              by_cases h6 : cc = 0
              · subst h6
                exact (Ret.of_eval (d := (xD 0 0 0 0 0 0 0 0)) mixed Try.func76 (by kernel_rfl) [tF, tF, tF, tF, tF, tF, tF, tF, tF, tF, tT, tT, tF, tF, .flat _ _ flat_X, tF] (by kernel_rfl)).to (by first | (simp [wk, wkL, ]; done) | (simp [wk, wkL, ]; omega))
              · skip
                exact (Ret.of_eval (d := (xD 0 0 0 0 0 0 0 cc)) mixed Try.func76 (by kernel_rfl) [tF, tF, tF, tF, tF, tF, tF, tF, tF, tF, tT, tT, tF, tF, .flat _ _ flat_X, tC (nt (andT rfl (andT rfl (andT rfl (andT rfl (andT rfl (andT rfl (andT rfl (andF (y := true) (neOf h6))))))))))] (by kernel_rfl)).to (by first | (simp [wk, wkL, h6]; done) | (simp [wk, wkL, h6]; omega))
            · skip
              exact (Ret.of_eval (d := (xD 0 0 0 0 0 0 imm cc)) mixed Try.func76 (by kernel_rfl) [tF, tF, tF, tF, tF, tF, tF, tF, tF, tF, tT, tT, tF, tF, .flat _ _ flat_X, tC (nt (andT rfl (andT rfl (andT rfl (andT rfl (andT rfl (andT rfl (andF (y := eqCells [.int .i8 cc] [.int .i8 0]) (neOf h5)))))))))] (by kernel_rfl)).to (by first | (simp [wk, wkL, h5]; done) | (simp [wk, wkL, h5]; omega))
          · skip
            exact (Ret.of_eval (d := (xD 0 0 0 0 0 disp imm cc)) mixed Try.func76 (by kernel_rfl) [tF, tF, tF, tF, tF, tF, tF, tF, tF, tF, tT, tT, tF, tF, .flat _ _ flat_X, tC (nt (andT rfl (andT rfl (andT rfl (andT rfl (andT rfl (andF (y := eqCells [.int .i64 imm, .int .i8 cc] [.int .i64 0, .int .i8 0]) (neOf h4))))))))] (by kernel_rfl)).to (by first | (simp [wk, wkL, h4]; done) | (simp [wk, wkL, h4]; omega))
        · skip
          exact (Ret.of_eval (d := (xD 0 0 0 0 base disp imm cc)) mixed Try.func76 (by kernel_rfl) [tF, tF, tF, tF, tF, tF, tF, tF, tF, tF, tT, tT, tF, tF, .flat _ _ flat_X, tC (nt (andT rfl (andT rfl (andT rfl (andT rfl (andF (y := eqCells [.int .i64 disp, .int .i64 imm, .int .i8 cc] [.int .i64 0, .int .i64 0, .int .i8 0]) (neOf h3)))))))] (by kernel_rfl)).to (by first | (simp [wk, wkL, h3]; done) | (simp [wk, wkL, h3]; omega))
      · skip
        exact (Ret.of_eval (d := (xD 0 0 0 src base disp imm cc)) mixed Try.func76 (by kernel_rfl) [tF, tF, tF, tF, tF, tF, tF, tF, tF, tF, tT, tT, tF, tF, .flat _ _ flat_X, tC (nt (andT rfl (andT rfl (andT rfl (andF (y := eqCells [.int .i8 base, .int .i64 disp, .int .i64 imm, .int .i8 cc] [.int .i8 0, .int .i64 0, .int .i64 0, .int .i8 0]) (neOf h2))))))] (by kernel_rfl)).to (by first | (simp [wk, wkL, h2]; done) | (simp [wk, wkL, h2]; omega))
    · skip
      exact (Ret.of_eval (d := (xD 0 0 dst src base disp imm cc)) mixed Try.func76 (by kernel_rfl) [tF, tF, tF, tF, tF, tF, tF, tF, tF, tF, tT, tT, tF, tF, .flat _ _ flat_X, tC (nt (andT rfl (andT rfl (andF (y := eqCells [.int .i8 src, .int .i8 base, .int .i64 disp, .int .i64 imm, .int .i8 cc] [.int .i8 0, .int .i8 0, .int .i64 0, .int .i64 0, .int .i8 0]) (neOf h1)))))] (by kernel_rfl)).to (by first | (simp [wk, wkL, h1]; done) | (simp [wk, wkL, h1]; omega))
  · skip
    exact (Ret.of_eval (d := (xD 0 w dst src base disp imm cc)) mixed Try.func76 (by kernel_rfl) [tF, tF, tF, tF, tF, tF, tF, tF, tF, tF, tT, tT, tF, tF, .flat _ _ flat_X, tC (nt (andT rfl (andF (y := eqCells [.int .i8 dst, .int .i8 src, .int .i8 base, .int .i64 disp, .int .i64 imm, .int .i8 cc] [.int .i8 0, .int .i8 0, .int .i8 0, .int .i64 0, .int .i64 0, .int .i8 0]) (neOf h0))))] (by kernel_rfl)).to (by first | (simp [wk, wkL, h0]; done) | (simp [wk, wkL, h0]; omega))
end Go.Proofs.Ytojgmjfcfpclbaa

namespace Go.Proofs.Ytojgmjfcfpclbaa
open Go Go.Ev
theorem shape_none {op : Int} (h : op < 0 ∨ 32 ≤ op) : shapeM op = 0 ∧ codeM op = 0 ∧ numM op = 0 := by
  refine ⟨?_, ?_, ?_⟩
  · unfold shapeM; repeat (rw [if_neg (by omega)])
  · unfold codeM; repeat (rw [if_neg (by omega)])
  · unfold numM; repeat (rw [if_neg (by omega)])
theorem of_any_ok (op : Int) (ho : op ≤ 127) : Ret Try.prog 75 [.int .i8 op] (.tup [.agg [.int .i8 (shapeM op), .int .u8 (codeM op), .int .i8 (numM op)], .bool (decide (0 ≤ op ∧ op ≤ 31))]) := by
  by_cases h1 : op < 0
  · obtain ⟨e1, e2, e3⟩ := shape_none (.inl h1)
    rw [e1, e2, e3, decide_eq_false (by omega)]
    exact of_low_ok op h1
  · by_cases h2 : 32 ≤ op
    · obtain ⟨e1, e2, e3⟩ := shape_none (.inr h2)
      rw [e1, e2, e3, decide_eq_false (by omega)]
      exact of_high_ok op h2 ho
    · rcases (by omega : op = 0 ∨ op = 1 ∨ op = 2 ∨ op = 3 ∨ op = 4 ∨ op = 5 ∨ op = 6 ∨ op = 7 ∨ op = 8 ∨ op = 9 ∨ op = 10 ∨ op = 11 ∨ op = 12 ∨ op = 13 ∨ op = 14 ∨ op = 15 ∨ op = 16 ∨ op = 17 ∨ op = 18 ∨ op = 19 ∨ op = 20 ∨ op = 21 ∨ op = 22 ∨ op = 23 ∨ op = 24 ∨ op = 25 ∨ op = 26 ∨ op = 27 ∨ op = 28 ∨ op = 29 ∨ op = 30 ∨ op = 31) with rfl | rfl | rfl | rfl | rfl | rfl | rfl | rfl | rfl | rfl | rfl | rfl | rfl | rfl | rfl | rfl | rfl | rfl | rfl | rfl | rfl | rfl | rfl | rfl | rfl | rfl | rfl | rfl | rfl | rfl | rfl | rfl
      · exact of_0_ok
      · exact of_1_ok
      · exact of_2_ok
      · exact of_3_ok
      · exact of_4_ok
      · exact of_5_ok
      · exact of_6_ok
      · exact of_7_ok
      · exact of_8_ok
      · exact of_9_ok
      · exact of_10_ok
      · exact of_11_ok
      · exact of_12_ok
      · exact of_13_ok
      · exact of_14_ok
      · exact of_15_ok
      · exact of_16_ok
      · exact of_17_ok
      · exact of_18_ok
      · exact of_19_ok
      · exact of_20_ok
      · exact of_21_ok
      · exact of_22_ok
      · exact of_23_ok
      · exact of_24_ok
      · exact of_25_ok
      · exact of_26_ok
      · exact of_27_ok
      · exact of_28_ok
      · exact of_29_ok
      · exact of_30_ok
      · exact of_31_ok
theorem bare_1_ok (op w dst src base disp imm cc sh : Int) (h : (sh == 1) = true) : Ret Try.prog 76 [xD op w dst src base disp imm cc, .int .i8 sh] (xD 0 0 0 0 base disp imm cc) := by
  obtain rfl := eq_of_beq h
  exact bareL_1_ok op w dst src base disp imm cc
theorem bare_2_ok (op w dst src base disp imm cc sh : Int) (h : (sh == 2) = true) : Ret Try.prog 76 [xD op w dst src base disp imm cc, .int .i8 sh] (xD 0 0 0 0 base disp imm cc) := by
  obtain rfl := eq_of_beq h
  exact bareL_2_ok op w dst src base disp imm cc
theorem bare_3_ok (op w dst src base disp imm cc sh : Int) (h : (sh == 3) = true) : Ret Try.prog 76 [xD op w dst src base disp imm cc, .int .i8 sh] (xD 0 0 0 src base disp 0 cc) := by
  obtain rfl := eq_of_beq h
  exact bareL_3_ok op w dst src base disp imm cc
theorem bare_4_ok (op w dst src base disp imm cc sh : Int) (h : (sh == 4) = true) : Ret Try.prog 76 [xD op w dst src base disp imm cc, .int .i8 sh] (xD 0 0 0 src base disp 0 cc) := by
  obtain rfl := eq_of_beq h
  exact bareL_4_ok op w dst src base disp imm cc
theorem bare_5_ok (op w dst src base disp imm cc sh : Int) (h : (sh == 5) = true) : Ret Try.prog 76 [xD op w dst src base disp imm cc, .int .i8 sh] (xD 0 0 0 src base disp imm cc) := by
  obtain rfl := eq_of_beq h
  exact bareL_5_ok op w dst src base disp imm cc
theorem bare_6_ok (op w dst src base disp imm cc sh : Int) (h : (sh == 6) = true) : Ret Try.prog 76 [xD op w dst src base disp imm cc, .int .i8 sh] (xD 0 0 0 0 base disp imm 0) := by
  obtain rfl := eq_of_beq h
  exact bareL_6_ok op w dst src base disp imm cc
theorem bare_7_ok (op w dst src base disp imm cc sh : Int) (h : (sh == 7) = true) : Ret Try.prog 76 [xD op w dst src base disp imm cc, .int .i8 sh] (xD 0 0 0 src 0 0 imm cc) := by
  obtain rfl := eq_of_beq h
  exact bareL_7_ok op w dst src base disp imm cc
theorem bare_8_ok (op w dst src base disp imm cc sh : Int) (h : (sh == 8) = true) : Ret Try.prog 76 [xD op w dst src base disp imm cc, .int .i8 sh] (xD 0 0 dst 0 0 0 imm cc) := by
  obtain rfl := eq_of_beq h
  exact bareL_8_ok op w dst src base disp imm cc
theorem bare_9_ok (op w dst src base disp imm cc sh : Int) (h : (sh == 9) = true) : Ret Try.prog 76 [xD op w dst src base disp imm cc, .int .i8 sh] (xD 0 0 dst src base disp 0 cc) := by
  obtain rfl := eq_of_beq h
  exact bareL_9_ok op w dst src base disp imm cc
theorem bare_10_ok (op w dst src base disp imm cc sh : Int) (h : (sh == 10) = true) : Ret Try.prog 76 [xD op w dst src base disp imm cc, .int .i8 sh] (xD 0 0 dst src base disp 0 0) := by
  obtain rfl := eq_of_beq h
  exact bareL_10_ok op w dst src base disp imm cc
theorem bare_11_ok (op w dst src base disp imm cc sh : Int) (h : (sh == 11) = true) : Ret Try.prog 76 [xD op w dst src base disp imm cc, .int .i8 sh] (xD 0 w dst src base disp imm cc) := by
  obtain rfl := eq_of_beq h
  exact bareL_11_ok op w dst src base disp imm cc
end Go.Proofs.Ytojgmjfcfpclbaa

namespace Go.Proofs.Ytojgmjfcfpclbaa
open Go Go.Ev
set_option maxRecDepth 100000
set_option maxHeartbeats 8000000
theorem mayX_0_ok (op w dst src base disp imm cc : Int) (ho : op ≤ 127) (h : (shapeM op == 0) = true) (hin : decide (0 ≤ op ∧ op ≤ 31) = false) : Ret Try.prog 32 ([xD op w dst src base disp imm cc]) (.bool (mayX op w dst src base disp imm cc)) := by
  have c0 := @of_any_ok (op) ho
  rw [show (shapeM op) = 0 from (eq_of_beq h)] at c0
  generalize g2 : codeM op = r1 at c0
  generalize g4 : numM op = r3 at c0
  exact (Ret.of_eval (d := .bool false) mixed Try.func32 (by kernel_rfl) ([.ret _ _ _ c0] ++ List.replicate 6 (tC (eF (nt hin))) ++ [tC (nt hin), tF, tF, tF, tF, tT, tF, tF, tF, tF, tT, tF, tF, tF, tF, tT, tF, tF, tF, tF, tT, tF, tF, tF, tF, tT, tT]) (by kernel_rfl)).to (by (try simp only [decide_eq_true_eq, decide_eq_false_iff_not, Bool.not_eq_true, beq_iff_eq, beq_eq_false_iff_ne, D.bool.injEq, wk, wkL, wkO, eqCells, eqCell, mayX, regM, mayS, longM, widthM, jumpM, ccM] at *); (simp [wk, wkL, wkO, eqCells, eqCell, mayX, regM, mayS, longM, widthM, jumpM, ccM, *]; done))
theorem mayX_1_ok (op w dst src base disp imm cc : Int) (ho : op ≤ 127) (h : (shapeM op == 1) = true) (hin : decide (0 ≤ op ∧ op ≤ 31) = true) : Ret Try.prog 32 ([xD op w dst src base disp imm cc]) (.bool (mayX op w dst src base disp imm cc)) := by
  have c0 := @of_any_ok (op) ho
  rw [show (shapeM op) = 1 from (eq_of_beq h)] at c0
  generalize g2 : codeM op = r1 at c0
  generalize g4 : numM op = r3 at c0
  have c5 := @bare_1_ok (op) (w) (dst) (src) (base) (disp) (imm) (cc) ((1 : Int)) (rfl : true = true)
  rcases Bool.eq_false_or_eq_true (eqCells [.int .i8 0, .int .i8 0, .int .i8 0, .int .i8 0, .int .i8 base, .int .i64 disp, .int .i64 imm, .int .i8 cc] [.int .i8 0, .int .i8 0, .int .i8 0, .int .i8 0, .int .i8 0, .int .i64 0, .int .i64 0, .int .i8 0]) with h6 | h6
  · skip
    have c7 := @reg_ok (dst)
    generalize g9 : regM dst = r8 at c7
    cases r8
    · skip
      exact (Ret.of_eval (d := .bool false) mixed Try.func32 (by kernel_rfl) ([.ret _ _ _ c0] ++ List.replicate 4 (tC (eF (nt hin))) ++ [.ret _ _ _ c5, tC (eF (nt hin)), tC (eF (nt hin)), .flat _ _ flat_X, tC (nt hin), tC (eF (nt h6)), tC (eF (nt h6)), tC (eF (nt h6)), .ret _ _ _ c7, tC (eF (nt h6)), tC (nt h6), tF, tF, tF, tF, tT, tF, tF, tF, tF, tT, tF, tF, tF, tF, tT, tF, tF, tF, tF, tT, tT]) (by kernel_rfl)).to (by (try simp only [decide_eq_true_eq, decide_eq_false_iff_not, Bool.not_eq_true, beq_iff_eq, beq_eq_false_iff_ne, D.bool.injEq, wk, wkL, wkO, eqCells, eqCell, mayX, regM, mayS, longM, widthM, jumpM, ccM] at *); (simp [wk, wkL, wkO, eqCells, eqCell, mayX, regM, mayS, longM, widthM, jumpM, ccM, *]; done))
    · skip
      have c10 := @reg_ok (src)
      generalize g12 : regM src = r11 at c10
      cases r11
      · skip
        exact (Ret.of_eval (d := .bool false) mixed Try.func32 (by kernel_rfl) ([.ret _ _ _ c0] ++ List.replicate 4 (tC (eF (nt hin))) ++ [.ret _ _ _ c5, tC (eF (nt hin)), tC (eF (nt hin)), .flat _ _ flat_X, tC (nt hin), tC (eF (nt h6)), tC (eF (nt h6)), tC (eF (nt h6)), .ret _ _ _ c7, tC (eF (nt h6)), tC (nt h6), tT, tT, tT, .ret _ _ _ c10, tT, tF, tF, tF, tF, tF, tT, tF, tF, tF, tF, tT, tF, tF, tF, tF, tT, tT]) (by kernel_rfl)).to (by (try simp only [decide_eq_true_eq, decide_eq_false_iff_not, Bool.not_eq_true, beq_iff_eq, beq_eq_false_iff_ne, D.bool.injEq, wk, wkL, wkO, eqCells, eqCell, mayX, regM, mayS, longM, widthM, jumpM, ccM] at *); (simp [wk, wkL, wkO, eqCells, eqCell, mayX, regM, mayS, longM, widthM, jumpM, ccM, *]; done))
      · skip
        have c13 := @reg_ok (base)
        generalize g15 : regM base = r14 at c13
        cases r14
        · skip
          exact (Ret.of_eval (d := .bool false) mixed Try.func32 (by kernel_rfl) ([.ret _ _ _ c0] ++ List.replicate 4 (tC (eF (nt hin))) ++ [.ret _ _ _ c5, tC (eF (nt hin)), tC (eF (nt hin)), .flat _ _ flat_X, tC (nt hin), tC (eF (nt h6)), tC (eF (nt h6)), tC (eF (nt h6)), .ret _ _ _ c7, tC (eF (nt h6)), tC (nt h6), tT, tT, tT, .ret _ _ _ c10, tT, tF, tT, tT, tT, .ret _ _ _ c13, tT, tF, tF, tF, tF, tF, tT, tF, tF, tF, tF, tT, tT]) (by kernel_rfl)).to (by (try simp only [decide_eq_true_eq, decide_eq_false_iff_not, Bool.not_eq_true, beq_iff_eq, beq_eq_false_iff_ne, D.bool.injEq, wk, wkL, wkO, eqCells, eqCell, mayX, regM, mayS, longM, widthM, jumpM, ccM] at *); (simp [wk, wkL, wkO, eqCells, eqCell, mayX, regM, mayS, longM, widthM, jumpM, ccM, *]; done))
        · skip
          have c16 := @within_ok (disp) ((-2147483648 : Int)) ((2147483647 : Int))
          rcases Bool.eq_false_or_eq_true (decide (disp < (-2147483648 : Int))) with h17 | h17
          · skip
            exact (Ret.of_eval (d := .bool false) mixed Try.func32 (by kernel_rfl) ([.ret _ _ _ c0] ++ List.replicate 4 (tC (eF (nt hin))) ++ [.ret _ _ _ c5, tC (eF (nt hin)), tC (eF (nt hin)), .flat _ _ flat_X, tC (nt hin), tC (eF (nt h6)), tC (eF (nt h6)), tC (eF (nt h6)), .ret _ _ _ c7, tC (eF (nt h6)), tC (nt h6), tT, tT, tT, .ret _ _ _ c10, tT, tF, tT, tT, tT, .ret _ _ _ c13, tT, tF, tT, tT, tT, .ret _ _ _ c16, tT, tF] ++ List.replicate 4 (tC (eF (nt (andF (y := decide (disp ≤ (2147483647 : Int))) (leL (-2147483648) h17))))) ++ [tC (nt (andF (y := decide (disp ≤ (2147483647 : Int))) (leL (-2147483648) h17))), tT]) (by kernel_rfl)).to (by (try simp only [decide_eq_true_eq, decide_eq_false_iff_not, Bool.not_eq_true, beq_iff_eq, beq_eq_false_iff_ne, D.bool.injEq, wk, wkL, wkO, eqCells, eqCell, mayX, regM, mayS, longM, widthM, jumpM, ccM] at *); (simp [wk, wkL, wkO, eqCells, eqCell, mayX, regM, mayS, longM, widthM, jumpM, ccM, *]; omega))
          · skip
            rcases Bool.eq_false_or_eq_true (decide (disp < (2147483648 : Int))) with h18 | h18
            · skip
              have c19 := @within_ok (imm) ((-2147483648 : Int)) ((2147483647 : Int))
              rcases Bool.eq_false_or_eq_true (decide (imm < (-2147483648 : Int))) with h20 | h20
              · skip
                exact (Ret.of_eval (d := .bool false) mixed Try.func32 (by kernel_rfl) ([.ret _ _ _ c0] ++ List.replicate 4 (tC (eF (nt hin))) ++ [.ret _ _ _ c5, tC (eF (nt hin)), tC (eF (nt hin)), .flat _ _ flat_X, tC (nt hin), tC (eF (nt h6)), tC (eF (nt h6)), tC (eF (nt h6)), .ret _ _ _ c7, tC (eF (nt h6)), tC (nt h6), tT, tT, tT, .ret _ _ _ c10, tT, tF, tT, tT, tT, .ret _ _ _ c13, tT, tF, tT, tT, tT, .ret _ _ _ c16, tT, tF] ++ List.replicate 3 (tC (eF (nt (andT (leL (-2147483648) h17) (leC 2147483647 h18))))) ++ [.ret _ _ _ c19, tC (eF (nt (andT (leL (-2147483648) h17) (leC 2147483647 h18)))), tC (nt (andT (leL (-2147483648) h17) (leC 2147483647 h18))), tC (nt (andF (y := decide (imm ≤ (2147483647 : Int))) (leL (-2147483648) h20)))]) (by kernel_rfl)).to (by (try simp only [decide_eq_true_eq, decide_eq_false_iff_not, Bool.not_eq_true, beq_iff_eq, beq_eq_false_iff_ne, D.bool.injEq, wk, wkL, wkO, eqCells, eqCell, mayX, regM, mayS, longM, widthM, jumpM, ccM] at *); (simp [wk, wkL, wkO, eqCells, eqCell, mayX, regM, mayS, longM, widthM, jumpM, ccM, *]; omega))
              · skip
                rcases Bool.eq_false_or_eq_true (decide (imm < (2147483648 : Int))) with h21 | h21
                · skip
                  by_cases h22 : w = 32
                  · subst h22
                    exact (Ret.of_eval (d := .bool true) mixed Try.func32 (by kernel_rfl) ([.ret _ _ _ c0] ++ List.replicate 4 (tC (eF (nt hin))) ++ [.ret _ _ _ c5, tC (eF (nt hin)), tC (eF (nt hin)), .flat _ _ flat_X, tC (nt hin), tC (eF (nt h6)), tC (eF (nt h6)), tC (eF (nt h6)), .ret _ _ _ c7, tC (eF (nt h6)), tC (nt h6), tT, tT, tT, .ret _ _ _ c10, tT, tF, tT, tT, tT, .ret _ _ _ c13, tT, tF, tT, tT, tT, .ret _ _ _ c16, tT, tF] ++ List.replicate 3 (tC (eF (nt (andT (leL (-2147483648) h17) (leC 2147483647 h18))))) ++ [.ret _ _ _ c19, tC (eF (nt (andT (leL (-2147483648) h17) (leC 2147483647 h18)))), tC (nt (andT (leL (-2147483648) h17) (leC 2147483647 h18))), tC (nt (andT (leL (-2147483648) h20) (leC 2147483647 h21))), tF, tF, tF, tT, tF, tF, tF, tF, tF, tT, tT, tT]) (by kernel_rfl)).to (by (try simp only [decide_eq_true_eq, decide_eq_false_iff_not, Bool.not_eq_true, beq_iff_eq, beq_eq_false_iff_ne, D.bool.injEq, wk, wkL, wkO, eqCells, eqCell, mayX, regM, mayS, longM, widthM, jumpM, ccM] at *); (rw [Bool.eq_iff_iff]; simp [wk, wkL, wkO, eqCells, eqCell, mayX, regM, mayS, longM, widthM, jumpM, ccM, *]; grind))
                  · skip
                    by_cases h23 : w = 8
                    · subst h23
                      have c24 := @within_ok (imm) ((-128 : Int)) ((127 : Int))
                      exact (Ret.of_eval (d := .bool false) mixed Try.func32 (by kernel_rfl) ([.ret _ _ _ c0] ++ List.replicate 4 (tC (eF (nt hin))) ++ [.ret _ _ _ c5, tC (eF (nt hin)), tC (eF (nt hin)), .flat _ _ flat_X, tC (nt hin), tC (eF (nt h6)), tC (eF (nt h6)), tC (eF (nt h6)), .ret _ _ _ c7, tC (eF (nt h6)), tC (nt h6), tT, tT, tT, .ret _ _ _ c10, tT, tF, tT, tT, tT, .ret _ _ _ c13, tT, tF, tT, tT, tT, .ret _ _ _ c16, tT, tF] ++ List.replicate 3 (tC (eF (nt (andT (leL (-2147483648) h17) (leC 2147483647 h18))))) ++ [.ret _ _ _ c19, tC (eF (nt (andT (leL (-2147483648) h17) (leC 2147483647 h18)))), tC (nt (andT (leL (-2147483648) h17) (leC 2147483647 h18))), tC (nt (andT (leL (-2147483648) h20) (leC 2147483647 h21)))] ++ List.replicate 3 (tC (eF (neOf h22))) ++ [tC (neOf h22)] ++ List.replicate 4 (tC (eF (neOf h22))) ++ [tT, tT, tT, .ret _ _ _ c24, tT, tT, tF, tT, tT]) (by kernel_rfl)).to (by (try simp only [decide_eq_true_eq, decide_eq_false_iff_not, Bool.not_eq_true, beq_iff_eq, beq_eq_false_iff_ne, D.bool.injEq, wk, wkL, wkO, eqCells, eqCell, mayX, regM, mayS, longM, widthM, jumpM, ccM] at *); (simp [wk, wkL, wkO, eqCells, eqCell, mayX, regM, mayS, longM, widthM, jumpM, ccM, *]; done))
                    · skip
                      exact (Ret.of_eval (d := .bool (w == (64 : Int))) mixed Try.func32 (by kernel_rfl) ([.ret _ _ _ c0] ++ List.replicate 4 (tC (eF (nt hin))) ++ [.ret _ _ _ c5, tC (eF (nt hin)), tC (eF (nt hin)), .flat _ _ flat_X, tC (nt hin), tC (eF (nt h6)), tC (eF (nt h6)), tC (eF (nt h6)), .ret _ _ _ c7, tC (eF (nt h6)), tC (nt h6), tT, tT, tT, .ret _ _ _ c10, tT, tF, tT, tT, tT, .ret _ _ _ c13, tT, tF, tT, tT, tT, .ret _ _ _ c16, tT, tF] ++ List.replicate 3 (tC (eF (nt (andT (leL (-2147483648) h17) (leC 2147483647 h18))))) ++ [.ret _ _ _ c19, tC (eF (nt (andT (leL (-2147483648) h17) (leC 2147483647 h18)))), tC (nt (andT (leL (-2147483648) h17) (leC 2147483647 h18))), tC (nt (andT (leL (-2147483648) h20) (leC 2147483647 h21)))] ++ List.replicate 3 (tC (eF (neOf h22))) ++ [tC (neOf h22)] ++ List.replicate 4 (tC (eF (neOf h22))) ++ List.replicate 3 (tC (eT (neOf h23))) ++ [tC (eF (neOf h22)), tC (neOf h23), tC (neOf h22), tT, tT]) (by kernel_rfl)).to (by (try simp only [decide_eq_true_eq, decide_eq_false_iff_not, Bool.not_eq_true, beq_iff_eq, beq_eq_false_iff_ne, D.bool.injEq, wk, wkL, wkO, eqCells, eqCell, mayX, regM, mayS, longM, widthM, jumpM, ccM] at *); (rw [Bool.eq_iff_iff]; simp [wk, wkL, wkO, eqCells, eqCell, mayX, regM, mayS, longM, widthM, jumpM, ccM, *]; grind))
                · skip
                  exact (Ret.of_eval (d := .bool false) mixed Try.func32 (by kernel_rfl) ([.ret _ _ _ c0] ++ List.replicate 4 (tC (eF (nt hin))) ++ [.ret _ _ _ c5, tC (eF (nt hin)), tC (eF (nt hin)), .flat _ _ flat_X, tC (nt hin), tC (eF (nt h6)), tC (eF (nt h6)), tC (eF (nt h6)), .ret _ _ _ c7, tC (eF (nt h6)), tC (nt h6), tT, tT, tT, .ret _ _ _ c10, tT, tF, tT, tT, tT, .ret _ _ _ c13, tT, tF, tT, tT, tT, .ret _ _ _ c16, tT, tF] ++ List.replicate 3 (tC (eF (nt (andT (leL (-2147483648) h17) (leC 2147483647 h18))))) ++ [.ret _ _ _ c19, tC (eF (nt (andT (leL (-2147483648) h17) (leC 2147483647 h18)))), tC (nt (andT (leL (-2147483648) h17) (leC 2147483647 h18))), tC (nt (andT (leL (-2147483648) h20) (leC 2147483647 h21)))]) (by kernel_rfl)).to (by (try simp only [decide_eq_true_eq, decide_eq_false_iff_not, Bool.not_eq_true, beq_iff_eq, beq_eq_false_iff_ne, D.bool.injEq, wk, wkL, wkO, eqCells, eqCell, mayX, regM, mayS, longM, widthM, jumpM, ccM] at *); (simp [wk, wkL, wkO, eqCells, eqCell, mayX, regM, mayS, longM, widthM, jumpM, ccM, *]; omega))
            · skip
              exact (Ret.of_eval (d := .bool false) mixed Try.func32 (by kernel_rfl) ([.ret _ _ _ c0] ++ List.replicate 4 (tC (eF (nt hin))) ++ [.ret _ _ _ c5, tC (eF (nt hin)), tC (eF (nt hin)), .flat _ _ flat_X, tC (nt hin), tC (eF (nt h6)), tC (eF (nt h6)), tC (eF (nt h6)), .ret _ _ _ c7, tC (eF (nt h6)), tC (nt h6), tT, tT, tT, .ret _ _ _ c10, tT, tF, tT, tT, tT, .ret _ _ _ c13, tT, tF, tT, tT, tT, .ret _ _ _ c16, tT, tF] ++ List.replicate 4 (tC (eF (nt (andT (leL (-2147483648) h17) (leC 2147483647 h18))))) ++ [tC (nt (andT (leL (-2147483648) h17) (leC 2147483647 h18))), tT]) (by kernel_rfl)).to (by (try simp only [decide_eq_true_eq, decide_eq_false_iff_not, Bool.not_eq_true, beq_iff_eq, beq_eq_false_iff_ne, D.bool.injEq, wk, wkL, wkO, eqCells, eqCell, mayX, regM, mayS, longM, widthM, jumpM, ccM] at *); (simp [wk, wkL, wkO, eqCells, eqCell, mayX, regM, mayS, longM, widthM, jumpM, ccM, *]; omega))
  · skip
    exact (Ret.of_eval (d := .bool false) mixed Try.func32 (by kernel_rfl) ([.ret _ _ _ c0] ++ List.replicate 4 (tC (eF (nt hin))) ++ [.ret _ _ _ c5, tC (eF (nt hin)), tC (eF (nt hin)), .flat _ _ flat_X, tC (nt hin)] ++ List.replicate 4 (tC (eF (nt h6))) ++ [tC (nt h6), tF, tF, tF, tF, tT, tF, tF, tF, tF, tT, tF, tF, tF, tF, tT, tF, tF, tF, tF, tT, tT]) (by kernel_rfl)).to (by (try simp only [decide_eq_true_eq, decide_eq_false_iff_not, Bool.not_eq_true, beq_iff_eq, beq_eq_false_iff_ne, D.bool.injEq, wk, wkL, wkO, eqCells, eqCell, mayX, regM, mayS, longM, widthM, jumpM, ccM] at *); (rw [Bool.eq_iff_iff]; simp [wk, wkL, wkO, eqCells, eqCell, mayX, regM, mayS, longM, widthM, jumpM, ccM, *]; grind))
theorem mayX_2_ok (op w dst src base disp imm cc : Int) (ho : op ≤ 127) (h : (shapeM op == 2) = true) (hin : decide (0 ≤ op ∧ op ≤ 31) = true) : Ret Try.prog 32 ([xD op w dst src base disp imm cc]) (.bool (mayX op w dst src base disp imm cc)) := by
  have c0 := @of_any_ok (op) ho
  rw [show (shapeM op) = 2 from (eq_of_beq h)] at c0
  generalize g2 : codeM op = r1 at c0
  generalize g4 : numM op = r3 at c0
  have c5 := @bare_2_ok (op) (w) (dst) (src) (base) (disp) (imm) (cc) ((2 : Int)) (rfl : true = true)
  rcases Bool.eq_false_or_eq_true (eqCells [.int .i8 0, .int .i8 0, .int .i8 0, .int .i8 0, .int .i8 base, .int .i64 disp, .int .i64 imm, .int .i8 cc] [.int .i8 0, .int .i8 0, .int .i8 0, .int .i8 0, .int .i8 0, .int .i64 0, .int .i64 0, .int .i8 0]) with h6 | h6
  · skip
    have c7 := @reg_ok (dst)
    generalize g9 : regM dst = r8 at c7
    cases r8
    · skip
      exact (Ret.of_eval (d := .bool false) mixed Try.func32 (by kernel_rfl) ([.ret _ _ _ c0] ++ List.replicate 4 (tC (eF (nt hin))) ++ [.ret _ _ _ c5, tC (eF (nt hin)), tC (eF (nt hin)), .flat _ _ flat_X, tC (nt hin), tC (eF (nt h6)), tC (eF (nt h6)), tC (eF (nt h6)), .ret _ _ _ c7, tC (eF (nt h6)), tC (nt h6), tF, tF, tF, tF, tT, tF, tF, tF, tF, tT, tF, tF, tF, tF, tT, tF, tF, tF, tF, tT, tT]) (by kernel_rfl)).to (by (try simp only [decide_eq_true_eq, decide_eq_false_iff_not, Bool.not_eq_true, beq_iff_eq, beq_eq_false_iff_ne, D.bool.injEq, wk, wkL, wkO, eqCells, eqCell, mayX, regM, mayS, longM, widthM, jumpM, ccM] at *); (simp [wk, wkL, wkO, eqCells, eqCell, mayX, regM, mayS, longM, widthM, jumpM, ccM, *]; done))
    · skip
      have c10 := @reg_ok (src)
      generalize g12 : regM src = r11 at c10
      cases r11
      · skip
        exact (Ret.of_eval (d := .bool false) mixed Try.func32 (by kernel_rfl) ([.ret _ _ _ c0] ++ List.replicate 4 (tC (eF (nt hin))) ++ [.ret _ _ _ c5, tC (eF (nt hin)), tC (eF (nt hin)), .flat _ _ flat_X, tC (nt hin), tC (eF (nt h6)), tC (eF (nt h6)), tC (eF (nt h6)), .ret _ _ _ c7, tC (eF (nt h6)), tC (nt h6), tT, tT, tT, .ret _ _ _ c10, tT, tF, tF, tF, tF, tF, tT, tF, tF, tF, tF, tT, tF, tF, tF, tF, tT, tT]) (by kernel_rfl)).to (by (try simp only [decide_eq_true_eq, decide_eq_false_iff_not, Bool.not_eq_true, beq_iff_eq, beq_eq_false_iff_ne, D.bool.injEq, wk, wkL, wkO, eqCells, eqCell, mayX, regM, mayS, longM, widthM, jumpM, ccM] at *); (simp [wk, wkL, wkO, eqCells, eqCell, mayX, regM, mayS, longM, widthM, jumpM, ccM, *]; done))
      · skip
        have c13 := @reg_ok (base)
        generalize g15 : regM base = r14 at c13
        cases r14
        · skip
          exact (Ret.of_eval (d := .bool false) mixed Try.func32 (by kernel_rfl) ([.ret _ _ _ c0] ++ List.replicate 4 (tC (eF (nt hin))) ++ [.ret _ _ _ c5, tC (eF (nt hin)), tC (eF (nt hin)), .flat _ _ flat_X, tC (nt hin), tC (eF (nt h6)), tC (eF (nt h6)), tC (eF (nt h6)), .ret _ _ _ c7, tC (eF (nt h6)), tC (nt h6), tT, tT, tT, .ret _ _ _ c10, tT, tF, tT, tT, tT, .ret _ _ _ c13, tT, tF, tF, tF, tF, tF, tT, tF, tF, tF, tF, tT, tT]) (by kernel_rfl)).to (by (try simp only [decide_eq_true_eq, decide_eq_false_iff_not, Bool.not_eq_true, beq_iff_eq, beq_eq_false_iff_ne, D.bool.injEq, wk, wkL, wkO, eqCells, eqCell, mayX, regM, mayS, longM, widthM, jumpM, ccM] at *); (simp [wk, wkL, wkO, eqCells, eqCell, mayX, regM, mayS, longM, widthM, jumpM, ccM, *]; done))
        · skip
          have c16 := @within_ok (disp) ((-2147483648 : Int)) ((2147483647 : Int))
          rcases Bool.eq_false_or_eq_true (decide (disp < (-2147483648 : Int))) with h17 | h17
          · skip
            exact (Ret.of_eval (d := .bool false) mixed Try.func32 (by kernel_rfl) ([.ret _ _ _ c0] ++ List.replicate 4 (tC (eF (nt hin))) ++ [.ret _ _ _ c5, tC (eF (nt hin)), tC (eF (nt hin)), .flat _ _ flat_X, tC (nt hin), tC (eF (nt h6)), tC (eF (nt h6)), tC (eF (nt h6)), .ret _ _ _ c7, tC (eF (nt h6)), tC (nt h6), tT, tT, tT, .ret _ _ _ c10, tT, tF, tT, tT, tT, .ret _ _ _ c13, tT, tF, tT, tT, tT, .ret _ _ _ c16, tT, tF] ++ List.replicate 4 (tC (eF (nt (andF (y := decide (disp ≤ (2147483647 : Int))) (leL (-2147483648) h17))))) ++ [tC (nt (andF (y := decide (disp ≤ (2147483647 : Int))) (leL (-2147483648) h17))), tT]) (by kernel_rfl)).to (by (try simp only [decide_eq_true_eq, decide_eq_false_iff_not, Bool.not_eq_true, beq_iff_eq, beq_eq_false_iff_ne, D.bool.injEq, wk, wkL, wkO, eqCells, eqCell, mayX, regM, mayS, longM, widthM, jumpM, ccM] at *); (simp [wk, wkL, wkO, eqCells, eqCell, mayX, regM, mayS, longM, widthM, jumpM, ccM, *]; omega))
          · skip
            rcases Bool.eq_false_or_eq_true (decide (disp < (2147483648 : Int))) with h18 | h18
            · skip
              have c19 := @within_ok (imm) ((-2147483648 : Int)) ((2147483647 : Int))
              rcases Bool.eq_false_or_eq_true (decide (imm < (-2147483648 : Int))) with h20 | h20
              · skip
                exact (Ret.of_eval (d := .bool false) mixed Try.func32 (by kernel_rfl) ([.ret _ _ _ c0] ++ List.replicate 4 (tC (eF (nt hin))) ++ [.ret _ _ _ c5, tC (eF (nt hin)), tC (eF (nt hin)), .flat _ _ flat_X, tC (nt hin), tC (eF (nt h6)), tC (eF (nt h6)), tC (eF (nt h6)), .ret _ _ _ c7, tC (eF (nt h6)), tC (nt h6), tT, tT, tT, .ret _ _ _ c10, tT, tF, tT, tT, tT, .ret _ _ _ c13, tT, tF, tT, tT, tT, .ret _ _ _ c16, tT, tF] ++ List.replicate 3 (tC (eF (nt (andT (leL (-2147483648) h17) (leC 2147483647 h18))))) ++ [.ret _ _ _ c19, tC (eF (nt (andT (leL (-2147483648) h17) (leC 2147483647 h18)))), tC (nt (andT (leL (-2147483648) h17) (leC 2147483647 h18))), tC (nt (andF (y := decide (imm ≤ (2147483647 : Int))) (leL (-2147483648) h20)))]) (by kernel_rfl)).to (by (try simp only [decide_eq_true_eq, decide_eq_false_iff_not, Bool.not_eq_true, beq_iff_eq, beq_eq_false_iff_ne, D.bool.injEq, wk, wkL, wkO, eqCells, eqCell, mayX, regM, mayS, longM, widthM, jumpM, ccM] at *); (simp [wk, wkL, wkO, eqCells, eqCell, mayX, regM, mayS, longM, widthM, jumpM, ccM, *]; omega))
              · skip
                rcases Bool.eq_false_or_eq_true (decide (imm < (2147483648 : Int))) with h21 | h21
                · skip
                  by_cases h22 : w = 32
                  · subst h22
                    exact (Ret.of_eval (d := .bool true) mixed Try.func32 (by kernel_rfl) ([.ret _ _ _ c0] ++ List.replicate 4 (tC (eF (nt hin))) ++ [.ret _ _ _ c5, tC (eF (nt hin)), tC (eF (nt hin)), .flat _ _ flat_X, tC (nt hin), tC (eF (nt h6)), tC (eF (nt h6)), tC (eF (nt h6)), .ret _ _ _ c7, tC (eF (nt h6)), tC (nt h6), tT, tT, tT, .ret _ _ _ c10, tT, tF, tT, tT, tT, .ret _ _ _ c13, tT, tF, tT, tT, tT, .ret _ _ _ c16, tT, tF] ++ List.replicate 3 (tC (eF (nt (andT (leL (-2147483648) h17) (leC 2147483647 h18))))) ++ [.ret _ _ _ c19, tC (eF (nt (andT (leL (-2147483648) h17) (leC 2147483647 h18)))), tC (nt (andT (leL (-2147483648) h17) (leC 2147483647 h18))), tC (nt (andT (leL (-2147483648) h20) (leC 2147483647 h21))), tF, tF, tF, tT, tF, tF, tF, tF, tF, tT, tF, tT, tT]) (by kernel_rfl)).to (by (try simp only [decide_eq_true_eq, decide_eq_false_iff_not, Bool.not_eq_true, beq_iff_eq, beq_eq_false_iff_ne, D.bool.injEq, wk, wkL, wkO, eqCells, eqCell, mayX, regM, mayS, longM, widthM, jumpM, ccM] at *); (rw [Bool.eq_iff_iff]; simp [wk, wkL, wkO, eqCells, eqCell, mayX, regM, mayS, longM, widthM, jumpM, ccM, *]; grind))
                  · skip
                    by_cases h23 : w = 8
                    · subst h23
                      have c24 := @within_ok (imm) ((-128 : Int)) ((127 : Int))
                      exact (Ret.of_eval (d := .bool false) mixed Try.func32 (by kernel_rfl) ([.ret _ _ _ c0] ++ List.replicate 4 (tC (eF (nt hin))) ++ [.ret _ _ _ c5, tC (eF (nt hin)), tC (eF (nt hin)), .flat _ _ flat_X, tC (nt hin), tC (eF (nt h6)), tC (eF (nt h6)), tC (eF (nt h6)), .ret _ _ _ c7, tC (eF (nt h6)), tC (nt h6), tT, tT, tT, .ret _ _ _ c10, tT, tF, tT, tT, tT, .ret _ _ _ c13, tT, tF, tT, tT, tT, .ret _ _ _ c16, tT, tF] ++ List.replicate 3 (tC (eF (nt (andT (leL (-2147483648) h17) (leC 2147483647 h18))))) ++ [.ret _ _ _ c19, tC (eF (nt (andT (leL (-2147483648) h17) (leC 2147483647 h18)))), tC (nt (andT (leL (-2147483648) h17) (leC 2147483647 h18))), tC (nt (andT (leL (-2147483648) h20) (leC 2147483647 h21)))] ++ List.replicate 3 (tC (eF (neOf h22))) ++ [tC (neOf h22)] ++ List.replicate 4 (tC (eF (neOf h22))) ++ [tT, tT, tT, .ret _ _ _ c24, tT, tT, tF, tF, tT, tT]) (by kernel_rfl)).to (by (try simp only [decide_eq_true_eq, decide_eq_false_iff_not, Bool.not_eq_true, beq_iff_eq, beq_eq_false_iff_ne, D.bool.injEq, wk, wkL, wkO, eqCells, eqCell, mayX, regM, mayS, longM, widthM, jumpM, ccM] at *); (simp [wk, wkL, wkO, eqCells, eqCell, mayX, regM, mayS, longM, widthM, jumpM, ccM, *]; done))
                    · skip
                      exact (Ret.of_eval (d := .bool (w == (64 : Int))) mixed Try.func32 (by kernel_rfl) ([.ret _ _ _ c0] ++ List.replicate 4 (tC (eF (nt hin))) ++ [.ret _ _ _ c5, tC (eF (nt hin)), tC (eF (nt hin)), .flat _ _ flat_X, tC (nt hin), tC (eF (nt h6)), tC (eF (nt h6)), tC (eF (nt h6)), .ret _ _ _ c7, tC (eF (nt h6)), tC (nt h6), tT, tT, tT, .ret _ _ _ c10, tT, tF, tT, tT, tT, .ret _ _ _ c13, tT, tF, tT, tT, tT, .ret _ _ _ c16, tT, tF] ++ List.replicate 3 (tC (eF (nt (andT (leL (-2147483648) h17) (leC 2147483647 h18))))) ++ [.ret _ _ _ c19, tC (eF (nt (andT (leL (-2147483648) h17) (leC 2147483647 h18)))), tC (nt (andT (leL (-2147483648) h17) (leC 2147483647 h18))), tC (nt (andT (leL (-2147483648) h20) (leC 2147483647 h21)))] ++ List.replicate 3 (tC (eF (neOf h22))) ++ [tC (neOf h22)] ++ List.replicate 4 (tC (eF (neOf h22))) ++ List.replicate 3 (tC (eT (neOf h23))) ++ [tC (eF (neOf h22)), tC (neOf h23), tC (neOf h22), tF, tT, tT]) (by kernel_rfl)).to (by (try simp only [decide_eq_true_eq, decide_eq_false_iff_not, Bool.not_eq_true, beq_iff_eq, beq_eq_false_iff_ne, D.bool.injEq, wk, wkL, wkO, eqCells, eqCell, mayX, regM, mayS, longM, widthM, jumpM, ccM] at *); (rw [Bool.eq_iff_iff]; simp [wk, wkL, wkO, eqCells, eqCell, mayX, regM, mayS, longM, widthM, jumpM, ccM, *]; grind))
                · skip
                  exact (Ret.of_eval (d := .bool false) mixed Try.func32 (by kernel_rfl) ([.ret _ _ _ c0] ++ List.replicate 4 (tC (eF (nt hin))) ++ [.ret _ _ _ c5, tC (eF (nt hin)), tC (eF (nt hin)), .flat _ _ flat_X, tC (nt hin), tC (eF (nt h6)), tC (eF (nt h6)), tC (eF (nt h6)), .ret _ _ _ c7, tC (eF (nt h6)), tC (nt h6), tT, tT, tT, .ret _ _ _ c10, tT, tF, tT, tT, tT, .ret _ _ _ c13, tT, tF, tT, tT, tT, .ret _ _ _ c16, tT, tF] ++ List.replicate 3 (tC (eF (nt (andT (leL (-2147483648) h17) (leC 2147483647 h18))))) ++ [.ret _ _ _ c19, tC (eF (nt (andT (leL (-2147483648) h17) (leC 2147483647 h18)))), tC (nt (andT (leL (-2147483648) h17) (leC 2147483647 h18))), tC (nt (andT (leL (-2147483648) h20) (leC 2147483647 h21)))]) (by kernel_rfl)).to (by (try simp only [decide_eq_true_eq, decide_eq_false_iff_not, Bool.not_eq_true, beq_iff_eq, beq_eq_false_iff_ne, D.bool.injEq, wk, wkL, wkO, eqCells, eqCell, mayX, regM, mayS, longM, widthM, jumpM, ccM] at *); (simp [wk, wkL, wkO, eqCells, eqCell, mayX, regM, mayS, longM, widthM, jumpM, ccM, *]; omega))
            · skip
              exact (Ret.of_eval (d := .bool false) mixed Try.func32 (by kernel_rfl) ([.ret _ _ _ c0] ++ List.replicate 4 (tC (eF (nt hin))) ++ [.ret _ _ _ c5, tC (eF (nt hin)), tC (eF (nt hin)), .flat _ _ flat_X, tC (nt hin), tC (eF (nt h6)), tC (eF (nt h6)), tC (eF (nt h6)), .ret _ _ _ c7, tC (eF (nt h6)), tC (nt h6), tT, tT, tT, .ret _ _ _ c10, tT, tF, tT, tT, tT, .ret _ _ _ c13, tT, tF, tT, tT, tT, .ret _ _ _ c16, tT, tF] ++ List.replicate 4 (tC (eF (nt (andT (leL (-2147483648) h17) (leC 2147483647 h18))))) ++ [tC (nt (andT (leL (-2147483648) h17) (leC 2147483647 h18))), tT]) (by kernel_rfl)).to (by (try simp only [decide_eq_true_eq, decide_eq_false_iff_not, Bool.not_eq_true, beq_iff_eq, beq_eq_false_iff_ne, D.bool.injEq, wk, wkL, wkO, eqCells, eqCell, mayX, regM, mayS, longM, widthM, jumpM, ccM] at *); (simp [wk, wkL, wkO, eqCells, eqCell, mayX, regM, mayS, longM, widthM, jumpM, ccM, *]; omega))
  · skip
    exact (Ret.of_eval (d := .bool false) mixed Try.func32 (by kernel_rfl) ([.ret _ _ _ c0] ++ List.replicate 4 (tC (eF (nt hin))) ++ [.ret _ _ _ c5, tC (eF (nt hin)), tC (eF (nt hin)), .flat _ _ flat_X, tC (nt hin)] ++ List.replicate 4 (tC (eF (nt h6))) ++ [tC (nt h6), tF, tF, tF, tF, tT, tF, tF, tF, tF, tT, tF, tF, tF, tF, tT, tF, tF, tF, tF, tT, tT]) (by kernel_rfl)).to (by (try simp only [decide_eq_true_eq, decide_eq_false_iff_not, Bool.not_eq_true, beq_iff_eq, beq_eq_false_iff_ne, D.bool.injEq, wk, wkL, wkO, eqCells, eqCell, mayX, regM, mayS, longM, widthM, jumpM, ccM] at *); (rw [Bool.eq_iff_iff]; simp [wk, wkL, wkO, eqCells, eqCell, mayX, regM, mayS, longM, widthM, jumpM, ccM, *]; grind))
end Go.Proofs.Ytojgmjfcfpclbaa
