/- The registers read and written, of any instruction. -/
import Derived.Test.YtkannibhndjgeaaXS2
namespace Go.Proofs.Ytkannibhndjgeaa
open Go Go.Ev
set_option linter.unusedVariables false
set_option linter.unusedSimpArgs false

theorem mayX_sh {op w dst src base disp imm cc : Int} (h : mayX op w dst src base disp imm cc = true) : shapeM op ≠ 0 := by
  have hs := (mayX_parts h).2
  intro e
  rw [e] at hs
  simp [mayS] at hs
theorem reads_any_ok (op w dst src base disp imm cc : Int) (ho : op ≤ 127) : Ret Try.prog 15 [xD op w dst src base disp imm cc] (.int .i64 (readsXX op w dst src base disp imm cc)) := by
  unfold readsXX
  cases h : mayX op w dst src base disp imm cc
  · simp only [Bool.false_eq_true, if_false]
    exact reads_no_ok op w dst src base disp imm cc ho h
  · simp only [if_true]
    obtain ⟨⟨d0, d1, s0, s1, b0, b1, p0, p1, i0, i1⟩, hs⟩ := mayX_parts h
    have hsh := mayX_sh h
    clear hs
    rcases shape_ops hsh with rfl | rfl | rfl | rfl | rfl | rfl | rfl | rfl | rfl | rfl | rfl | rfl | rfl | rfl | rfl | rfl | rfl | rfl | rfl | rfl | rfl | rfl | rfl | rfl | rfl | rfl | rfl | rfl | rfl | rfl | rfl | rfl
    · exact reads_0_ok _ _ _ _ _ _ _ d0 d1 s0 s1 b0 b1 h
    · exact reads_1_ok _ _ _ _ _ _ _ d0 d1 s0 s1 b0 b1 h
    · exact reads_2_ok _ _ _ _ _ _ _ d0 d1 s0 s1 b0 b1 h
    · exact reads_3_ok _ _ _ _ _ _ _ d0 d1 s0 s1 b0 b1 h
    · exact reads_4_ok _ _ _ _ _ _ _ d0 d1 s0 s1 b0 b1 h
    · exact reads_5_ok _ _ _ _ _ _ _ d0 d1 s0 s1 b0 b1 h
    · exact reads_6_ok _ _ _ _ _ _ _ d0 d1 s0 s1 b0 b1 h
    · exact reads_7_ok _ _ _ _ _ _ _ d0 d1 s0 s1 b0 b1 h
    · exact reads_8_ok _ _ _ _ _ _ _ d0 d1 s0 s1 b0 b1 h
    · exact reads_9_ok _ _ _ _ _ _ _ d0 d1 s0 s1 b0 b1 h
    · exact reads_10_ok _ _ _ _ _ _ _ d0 d1 s0 s1 b0 b1 h
    · exact reads_11_ok _ _ _ _ _ _ _ d0 d1 s0 s1 b0 b1 h
    · exact reads_12_ok _ _ _ _ _ _ _ d0 d1 s0 s1 b0 b1 h
    · exact reads_13_ok _ _ _ _ _ _ _ d0 d1 s0 s1 b0 b1 h
    · exact reads_14_ok _ _ _ _ _ _ _ d0 d1 s0 s1 b0 b1 h
    · exact reads_15_ok _ _ _ _ _ _ _ d0 d1 s0 s1 b0 b1 h
    · exact reads_16_ok _ _ _ _ _ _ _ d0 d1 s0 s1 b0 b1 h
    · exact reads_17_ok _ _ _ _ _ _ _ d0 d1 s0 s1 b0 b1 h
    · exact reads_18_ok _ _ _ _ _ _ _ d0 d1 s0 s1 b0 b1 h
    · exact reads_19_ok _ _ _ _ _ _ _ d0 d1 s0 s1 b0 b1 h
    · exact reads_20_ok _ _ _ _ _ _ _ d0 d1 s0 s1 b0 b1 h
    · exact reads_21_ok _ _ _ _ _ _ _ d0 d1 s0 s1 b0 b1 h
    · exact reads_22_ok _ _ _ _ _ _ _ d0 d1 s0 s1 b0 b1 h
    · exact reads_23_ok _ _ _ _ _ _ _ d0 d1 s0 s1 b0 b1 h
    · exact reads_24_ok _ _ _ _ _ _ _ d0 d1 s0 s1 b0 b1 h
    · exact reads_25_ok _ _ _ _ _ _ _ d0 d1 s0 s1 b0 b1 h
    · exact reads_26_ok _ _ _ _ _ _ _ d0 d1 s0 s1 b0 b1 h
    · exact reads_27_ok _ _ _ _ _ _ _ d0 d1 s0 s1 b0 b1 h
    · exact reads_28_ok _ _ _ _ _ _ _ d0 d1 s0 s1 b0 b1 h
    · exact reads_29_ok _ _ _ _ _ _ _ d0 d1 s0 s1 b0 b1 h
    · exact reads_30_ok _ _ _ _ _ _ _ d0 d1 s0 s1 b0 b1 h
    · exact reads_31_ok _ _ _ _ _ _ _ d0 d1 s0 s1 b0 b1 h
theorem writes_any_ok (op w dst src base disp imm cc : Int) (ho : op ≤ 127) : Ret Try.prog 14 [xD op w dst src base disp imm cc] (.int .i64 (writesXX op w dst src base disp imm cc)) := by
  unfold writesXX
  cases h : mayX op w dst src base disp imm cc
  · simp only [Bool.false_eq_true, if_false]
    exact writes_no_ok op w dst src base disp imm cc ho h
  · simp only [if_true]
    obtain ⟨⟨d0, d1, s0, s1, b0, b1, p0, p1, i0, i1⟩, hs⟩ := mayX_parts h
    have hsh := mayX_sh h
    clear hs
    rcases shape_ops hsh with rfl | rfl | rfl | rfl | rfl | rfl | rfl | rfl | rfl | rfl | rfl | rfl | rfl | rfl | rfl | rfl | rfl | rfl | rfl | rfl | rfl | rfl | rfl | rfl | rfl | rfl | rfl | rfl | rfl | rfl | rfl | rfl
    · exact writes_0_ok _ _ _ _ _ _ _ d0 d1 s0 s1 b0 b1 h
    · exact writes_1_ok _ _ _ _ _ _ _ d0 d1 s0 s1 b0 b1 h
    · exact writes_2_ok _ _ _ _ _ _ _ d0 d1 s0 s1 b0 b1 h
    · exact writes_3_ok _ _ _ _ _ _ _ d0 d1 s0 s1 b0 b1 h
    · exact writes_4_ok _ _ _ _ _ _ _ d0 d1 s0 s1 b0 b1 h
    · exact writes_5_ok _ _ _ _ _ _ _ d0 d1 s0 s1 b0 b1 h
    · exact writes_6_ok _ _ _ _ _ _ _ d0 d1 s0 s1 b0 b1 h
    · exact writes_7_ok _ _ _ _ _ _ _ d0 d1 s0 s1 b0 b1 h
    · exact writes_8_ok _ _ _ _ _ _ _ d0 d1 s0 s1 b0 b1 h
    · exact writes_9_ok _ _ _ _ _ _ _ d0 d1 s0 s1 b0 b1 h
    · exact writes_10_ok _ _ _ _ _ _ _ d0 d1 s0 s1 b0 b1 h
    · exact writes_11_ok _ _ _ _ _ _ _ d0 d1 s0 s1 b0 b1 h
    · exact writes_12_ok _ _ _ _ _ _ _ d0 d1 s0 s1 b0 b1 h
    · exact writes_13_ok _ _ _ _ _ _ _ d0 d1 s0 s1 b0 b1 h
    · exact writes_14_ok _ _ _ _ _ _ _ d0 d1 s0 s1 b0 b1 h
    · exact writes_15_ok _ _ _ _ _ _ _ d0 d1 s0 s1 b0 b1 h
    · exact writes_16_ok _ _ _ _ _ _ _ d0 d1 s0 s1 b0 b1 h
    · exact writes_17_ok _ _ _ _ _ _ _ d0 d1 s0 s1 b0 b1 h
    · exact writes_18_ok _ _ _ _ _ _ _ d0 d1 s0 s1 b0 b1 h
    · exact writes_19_ok _ _ _ _ _ _ _ d0 d1 s0 s1 b0 b1 h
    · exact writes_20_ok _ _ _ _ _ _ _ d0 d1 s0 s1 b0 b1 h
    · exact writes_21_ok _ _ _ _ _ _ _ d0 d1 s0 s1 b0 b1 h
    · exact writes_22_ok _ _ _ _ _ _ _ d0 d1 s0 s1 b0 b1 h
    · exact writes_23_ok _ _ _ _ _ _ _ d0 d1 s0 s1 b0 b1 h
    · exact writes_24_ok _ _ _ _ _ _ _ d0 d1 s0 s1 b0 b1 h
    · exact writes_25_ok _ _ _ _ _ _ _ d0 d1 s0 s1 b0 b1 h
    · exact writes_26_ok _ _ _ _ _ _ _ d0 d1 s0 s1 b0 b1 h
    · exact writes_27_ok _ _ _ _ _ _ _ d0 d1 s0 s1 b0 b1 h
    · exact writes_28_ok _ _ _ _ _ _ _ d0 d1 s0 s1 b0 b1 h
    · exact writes_29_ok _ _ _ _ _ _ _ d0 d1 s0 s1 b0 b1 h
    · exact writes_30_ok _ _ _ _ _ _ _ d0 d1 s0 s1 b0 b1 h
    · exact writes_31_ok _ _ _ _ _ _ _ d0 d1 s0 s1 b0 b1 h
end Go.Proofs.Ytkannibhndjgeaa
