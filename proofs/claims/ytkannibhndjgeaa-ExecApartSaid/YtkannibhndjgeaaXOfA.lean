/- An operation's form, whatever it is; an instruction without what its shape names. -/
import Derived.Test.YtkannibhndjgeaaXOf
import Derived.Test.YtkannibhndjgeaaMdZ
namespace Go.Proofs.Ytkannibhndjgeaa
open Go Go.Ev
set_option linter.unusedVariables false
set_option linter.unusedSimpArgs false

theorem shape_none {op : Int} (h : op < 0 ∨ 32 ≤ op) : shapeM op = 0 ∧ codeM op = 0 ∧ numM op = 0 := by
  refine ⟨?_, ?_, ?_⟩
  · unfold shapeM; repeat (rw [if_neg (by omega)])
  · unfold codeM; repeat (rw [if_neg (by omega)])
  · unfold numM; repeat (rw [if_neg (by omega)])
theorem of_any_ok (op : Int) (ho : op ≤ 127) : Ret Try.prog 28 [.int .i8 op] (.tup [.agg [.int .i8 (shapeM op), .int .u8 (codeM op), .int .i8 (numM op)], .bool (decide (0 ≤ op ∧ op ≤ 31))]) := by
  by_cases h1 : op < 0
  · obtain ⟨e1, e2, e3⟩ := shape_none (.inl h1)
    rw [e1, e2, e3, decide_eq_false (by omega)]
    exact of_low_ok op h1
  · by_cases h2 : 32 ≤ op
    · obtain ⟨e1, e2, e3⟩ := shape_none (.inr h2)
      rw [e1, e2, e3, decide_eq_false (by omega)]
      exact of_high_ok op h2 ho
    · rcases (by omega : op = 0 ∨ op = 1 ∨ op = 2 ∨ op = 3 ∨ op = 4 ∨ op = 5 ∨ op = 6 ∨ op = 7 ∨ op = 8 ∨ op = 9 ∨ op = 10 ∨ op = 11 ∨ op = 12 ∨ op = 13 ∨ op = 14 ∨ op = 15 ∨ op = 16 ∨ op = 17 ∨ op = 18 ∨ op = 19 ∨ op = 20 ∨ op = 21 ∨ op = 22 ∨ op = 23 ∨ op = 24 ∨ op = 25 ∨ op = 26 ∨ op = 27 ∨ op = 28 ∨ op = 29 ∨ op = 30 ∨ op = 31) with rfl | rfl | rfl | rfl | rfl | rfl | rfl | rfl | rfl | rfl | rfl | rfl | rfl | rfl | rfl | rfl | rfl | rfl | rfl | rfl | rfl | rfl | rfl | rfl | rfl | rfl | rfl | rfl | rfl | rfl | rfl | rfl
      · exact of_0_ok
      · exact of_1_ok
      · exact of_2_ok
      · exact of_3_ok
      · exact of_4_ok
      · exact of_5_ok
      · exact of_6_ok
      · exact of_7_ok
      · exact of_8_ok
      · exact of_9_ok
      · exact of_10_ok
      · exact of_11_ok
      · exact of_12_ok
      · exact of_13_ok
      · exact of_14_ok
      · exact of_15_ok
      · exact of_16_ok
      · exact of_17_ok
      · exact of_18_ok
      · exact of_19_ok
      · exact of_20_ok
      · exact of_21_ok
      · exact of_22_ok
      · exact of_23_ok
      · exact of_24_ok
      · exact of_25_ok
      · exact of_26_ok
      · exact of_27_ok
      · exact of_28_ok
      · exact of_29_ok
      · exact of_30_ok
      · exact of_31_ok
theorem bare_0_ok (op w dst src base disp imm cc sh : Int) (h : (sh == 0) = true) : Ret Try.prog 29 [xD op w dst src base disp imm cc, .int .i8 sh] (xD 0 w dst src base disp imm cc) := by
  obtain rfl := eq_of_beq h
  exact bareL_0_ok op w dst src base disp imm cc
theorem bare_1_ok (op w dst src base disp imm cc sh : Int) (h : (sh == 1) = true) : Ret Try.prog 29 [xD op w dst src base disp imm cc, .int .i8 sh] (xD 0 0 0 0 base disp imm cc) := by
  obtain rfl := eq_of_beq h
  exact bareL_1_ok op w dst src base disp imm cc
theorem bare_2_ok (op w dst src base disp imm cc sh : Int) (h : (sh == 2) = true) : Ret Try.prog 29 [xD op w dst src base disp imm cc, .int .i8 sh] (xD 0 0 0 0 base disp imm cc) := by
  obtain rfl := eq_of_beq h
  exact bareL_2_ok op w dst src base disp imm cc
theorem bare_3_ok (op w dst src base disp imm cc sh : Int) (h : (sh == 3) = true) : Ret Try.prog 29 [xD op w dst src base disp imm cc, .int .i8 sh] (xD 0 0 0 src base disp 0 cc) := by
  obtain rfl := eq_of_beq h
  exact bareL_3_ok op w dst src base disp imm cc
theorem bare_4_ok (op w dst src base disp imm cc sh : Int) (h : (sh == 4) = true) : Ret Try.prog 29 [xD op w dst src base disp imm cc, .int .i8 sh] (xD 0 0 0 src base disp 0 cc) := by
  obtain rfl := eq_of_beq h
  exact bareL_4_ok op w dst src base disp imm cc
theorem bare_5_ok (op w dst src base disp imm cc sh : Int) (h : (sh == 5) = true) : Ret Try.prog 29 [xD op w dst src base disp imm cc, .int .i8 sh] (xD 0 0 0 src base disp imm cc) := by
  obtain rfl := eq_of_beq h
  exact bareL_5_ok op w dst src base disp imm cc
theorem bare_6_ok (op w dst src base disp imm cc sh : Int) (h : (sh == 6) = true) : Ret Try.prog 29 [xD op w dst src base disp imm cc, .int .i8 sh] (xD 0 0 0 0 base disp imm 0) := by
  obtain rfl := eq_of_beq h
  exact bareL_6_ok op w dst src base disp imm cc
theorem bare_7_ok (op w dst src base disp imm cc sh : Int) (h : (sh == 7) = true) : Ret Try.prog 29 [xD op w dst src base disp imm cc, .int .i8 sh] (xD 0 0 0 src 0 0 imm cc) := by
  obtain rfl := eq_of_beq h
  exact bareL_7_ok op w dst src base disp imm cc
theorem bare_8_ok (op w dst src base disp imm cc sh : Int) (h : (sh == 8) = true) : Ret Try.prog 29 [xD op w dst src base disp imm cc, .int .i8 sh] (xD 0 0 dst 0 0 0 imm cc) := by
  obtain rfl := eq_of_beq h
  exact bareL_8_ok op w dst src base disp imm cc
theorem bare_9_ok (op w dst src base disp imm cc sh : Int) (h : (sh == 9) = true) : Ret Try.prog 29 [xD op w dst src base disp imm cc, .int .i8 sh] (xD 0 0 dst src base disp 0 cc) := by
  obtain rfl := eq_of_beq h
  exact bareL_9_ok op w dst src base disp imm cc
theorem bare_10_ok (op w dst src base disp imm cc sh : Int) (h : (sh == 10) = true) : Ret Try.prog 29 [xD op w dst src base disp imm cc, .int .i8 sh] (xD 0 0 dst src base disp 0 0) := by
  obtain rfl := eq_of_beq h
  exact bareL_10_ok op w dst src base disp imm cc
theorem bare_11_ok (op w dst src base disp imm cc sh : Int) (h : (sh == 11) = true) : Ret Try.prog 29 [xD op w dst src base disp imm cc, .int .i8 sh] (xD 0 w dst src base disp imm cc) := by
  obtain rfl := eq_of_beq h
  exact bareL_11_ok op w dst src base disp imm cc
end Go.Proofs.Ytkannibhndjgeaa
