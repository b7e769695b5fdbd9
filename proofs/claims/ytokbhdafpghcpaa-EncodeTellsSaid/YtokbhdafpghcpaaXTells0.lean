/- The document's bytes; the registers read and written: of any instruction. -/
import Derived.Test.YtokbhdafpghcpaaXR2a
import Derived.Test.YtokbhdafpghcpaaXR2b
import Derived.Test.YtokbhdafpghcpaaXR2c
import Derived.Test.YtokbhdafpghcpaaXR2d
import Derived.Test.YtokbhdafpghcpaaXR2e
import Derived.Test.YtokbhdafpghcpaaXR2f
import Derived.Test.YtokbhdafpghcpaaXS2
import Derived.Test.YtokbhdafpghcpaaXRB
namespace Go.Proofs.Ytokbhdafpghcpaa
open Go Go.Ev
set_option linter.unusedVariables false
set_option linter.unusedSimpArgs false

theorem mayX_sh {op w dst src base disp imm cc : Int} (h : mayX op w dst src base disp imm cc = true) : shapeM op ≠ 0 := by
  have hs := (mayX_parts h).2
  intro e
  rw [e] at hs
  simp [mayS] at hs
theorem mov_w {w dst src base disp imm cc : Int} (h : mayX 1 w dst src base disp imm cc = true) : w = 32 ∨ w = 64 := by
  have hs := (mayX_parts h).2
  rw [show shapeM 1 = 3 from rfl] at hs
  exact long_cases (by simp [mayS] at hs; exact hs.1)
theorem rbytes_may_ok (op w dst src base disp imm cc : Int) (hm : mayX op w dst src base disp imm cc = true) :
    Ret Try.prog 13 [xD op w dst src base disp imm cc] (.tup [.lst .no 1 (bD (bytesM op w dst src base disp imm cc)), .int .i64 0]) := by
  obtain ⟨⟨d0, d1, s0, s1, b0, b1, p0, p1, i0, i1⟩, hs⟩ := mayX_parts hm
  obtain ⟨c0, c1⟩ := mayS_cc hs
  rcases shape_ops (mayX_sh hm) with rfl | rfl | rfl | rfl | rfl | rfl | rfl | rfl | rfl | rfl | rfl | rfl | rfl | rfl | rfl | rfl | rfl | rfl | rfl | rfl | rfl | rfl | rfl | rfl | rfl | rfl | rfl | rfl | rfl | rfl | rfl | rfl
  · exact rbytes_0_ok _ _ _ _ _ _ _ d0 d1 s0 s1 b0 b1 p0 p1 i0 i1 c0 c1 hm
  · exact rbytes_1_ok _ _ _ _ _ _ _ d0 d1 s0 s1 b0 b1 p0 p1 i0 i1 c0 c1 (mov_w hm) hm
  · exact rbytes_2_ok _ _ _ _ _ _ _ d0 d1 s0 s1 b0 b1 p0 p1 i0 i1 c0 c1 hm
  · exact rbytes_3_ok _ _ _ _ _ _ _ d0 d1 s0 s1 b0 b1 p0 p1 i0 i1 c0 c1 hm
  · exact rbytes_4_ok _ _ _ _ _ _ _ d0 d1 s0 s1 b0 b1 p0 p1 i0 i1 c0 c1 hm
  · exact rbytes_5_ok _ _ _ _ _ _ _ d0 d1 s0 s1 b0 b1 p0 p1 i0 i1 c0 c1 hm
  · exact rbytes_6_ok _ _ _ _ _ _ _ d0 d1 s0 s1 b0 b1 p0 p1 i0 i1 c0 c1 hm
  · exact rbytes_7_ok _ _ _ _ _ _ _ d0 d1 s0 s1 b0 b1 p0 p1 i0 i1 c0 c1 hm
  · exact rbytes_8_ok _ _ _ _ _ _ _ d0 d1 s0 s1 b0 b1 p0 p1 i0 i1 c0 c1 hm
  · exact rbytes_9_ok _ _ _ _ _ _ _ d0 d1 s0 s1 b0 b1 p0 p1 i0 i1 c0 c1 hm
  · exact rbytes_10_ok _ _ _ _ _ _ _ d0 d1 s0 s1 b0 b1 p0 p1 i0 i1 c0 c1 hm
  · exact rbytes_11_ok _ _ _ _ _ _ _ d0 d1 s0 s1 b0 b1 p0 p1 i0 i1 c0 c1 hm
  · exact rbytes_12_ok _ _ _ _ _ _ _ d0 d1 s0 s1 b0 b1 p0 p1 i0 i1 c0 c1 hm
  · exact rbytes_13_ok _ _ _ _ _ _ _ d0 d1 s0 s1 b0 b1 p0 p1 i0 i1 c0 c1 hm
  · exact rbytes_14_ok _ _ _ _ _ _ _ d0 d1 s0 s1 b0 b1 p0 p1 i0 i1 c0 c1 hm
  · exact rbytes_15_ok _ _ _ _ _ _ _ d0 d1 s0 s1 b0 b1 p0 p1 i0 i1 c0 c1 hm
  · exact rbytes_16_ok _ _ _ _ _ _ _ d0 d1 s0 s1 b0 b1 p0 p1 i0 i1 c0 c1 hm
  · exact rbytes_17_ok _ _ _ _ _ _ _ d0 d1 s0 s1 b0 b1 p0 p1 i0 i1 c0 c1 hm
  · exact rbytes_18_ok _ _ _ _ _ _ _ d0 d1 s0 s1 b0 b1 p0 p1 i0 i1 c0 c1 hm
  · exact rbytes_19_ok _ _ _ _ _ _ _ d0 d1 s0 s1 b0 b1 p0 p1 i0 i1 c0 c1 hm
  · exact rbytes_20_ok _ _ _ _ _ _ _ d0 d1 s0 s1 b0 b1 p0 p1 i0 i1 c0 c1 hm
  · exact rbytes_21_ok _ _ _ _ _ _ _ d0 d1 s0 s1 b0 b1 p0 p1 i0 i1 c0 c1 hm
  · exact rbytes_22_ok _ _ _ _ _ _ _ d0 d1 s0 s1 b0 b1 p0 p1 i0 i1 c0 c1 hm
  · exact rbytes_23_ok _ _ _ _ _ _ _ d0 d1 s0 s1 b0 b1 p0 p1 i0 i1 c0 c1 hm
  · exact rbytes_24_ok _ _ _ _ _ _ _ d0 d1 s0 s1 b0 b1 p0 p1 i0 i1 c0 c1 hm
  · exact rbytes_25_ok _ _ _ _ _ _ _ d0 d1 s0 s1 b0 b1 p0 p1 i0 i1 c0 c1 hm
  · exact rbytes_26_ok _ _ _ _ _ _ _ d0 d1 s0 s1 b0 b1 p0 p1 i0 i1 c0 c1 hm
  · exact rbytes_27_ok _ _ _ _ _ _ _ d0 d1 s0 s1 b0 b1 p0 p1 i0 i1 c0 c1 hm
  · exact rbytes_28_ok _ _ _ _ _ _ _ d0 d1 s0 s1 b0 b1 p0 p1 i0 i1 c0 c1 hm
  · exact rbytes_29_ok _ _ _ _ _ _ _ d0 d1 s0 s1 b0 b1 p0 p1 i0 i1 c0 c1 hm
  · exact rbytes_30_ok _ _ _ _ _ _ _ d0 d1 s0 s1 b0 b1 p0 p1 i0 i1 c0 c1 hm
  · exact rbytes_31_ok _ _ _ _ _ _ _ d0 d1 s0 s1 b0 b1 p0 p1 i0 i1 c0 c1 hm
theorem rbytes_any_ok (op w dst src base disp imm cc : Int) (ho : op ≤ 127) : Ret Try.prog 13 [xD op w dst src base disp imm cc] (.tup [.lst .no 1 (bytesL op w dst src base disp imm cc), .int .i64 (bytesE op w dst src base disp imm cc)]) := by
  unfold bytesL bytesE
  cases h : mayX op w dst src base disp imm cc
  · simp only [Bool.false_eq_true, if_false]
    exact rbytes_no_ok op w dst src base disp imm cc ho h
  · simp only [if_true]
    exact rbytes_may_ok op w dst src base disp imm cc h
theorem reads_any_ok (op w dst src base disp imm cc : Int) (ho : op ≤ 127) : Ret Try.prog 16 [xD op w dst src base disp imm cc] (.int .i64 (readsXX op w dst src base disp imm cc)) := by
  unfold readsXX
  cases h : mayX op w dst src base disp imm cc
  · simp only [Bool.false_eq_true, if_false]
    exact reads_no_ok op w dst src base disp imm cc ho h
  · simp only [if_true]
    obtain ⟨⟨d0, d1, s0, s1, b0, b1, p0, p1, i0, i1⟩, hs⟩ := mayX_parts h
    have hsh := mayX_sh h
    clear hs
    rcases shape_ops hsh with rfl | rfl | rfl | rfl | rfl | rfl | rfl | rfl | rfl | rfl | rfl | rfl | rfl | rfl | rfl | rfl | rfl | rfl | rfl | rfl | rfl | rfl | rfl | rfl | rfl | rfl | rfl | rfl | rfl | rfl | rfl | rfl
    · exact reads_0_ok _ _ _ _ _ _ _ d0 d1 s0 s1 b0 b1 h
    · exact reads_1_ok _ _ _ _ _ _ _ d0 d1 s0 s1 b0 b1 h
    · exact reads_2_ok _ _ _ _ _ _ _ d0 d1 s0 s1 b0 b1 h
    · exact reads_3_ok _ _ _ _ _ _ _ d0 d1 s0 s1 b0 b1 h
    · exact reads_4_ok _ _ _ _ _ _ _ d0 d1 s0 s1 b0 b1 h
    · exact reads_5_ok _ _ _ _ _ _ _ d0 d1 s0 s1 b0 b1 h
    · exact reads_6_ok _ _ _ _ _ _ _ d0 d1 s0 s1 b0 b1 h
    · exact reads_7_ok _ _ _ _ _ _ _ d0 d1 s0 s1 b0 b1 h
    · exact reads_8_ok _ _ _ _ _ _ _ d0 d1 s0 s1 b0 b1 h
    · exact reads_9_ok _ _ _ _ _ _ _ d0 d1 s0 s1 b0 b1 h
    · exact reads_10_ok _ _ _ _ _ _ _ d0 d1 s0 s1 b0 b1 h
    · exact reads_11_ok _ _ _ _ _ _ _ d0 d1 s0 s1 b0 b1 h
    · exact reads_12_ok _ _ _ _ _ _ _ d0 d1 s0 s1 b0 b1 h
    · exact reads_13_ok _ _ _ _ _ _ _ d0 d1 s0 s1 b0 b1 h
    · exact reads_14_ok _ _ _ _ _ _ _ d0 d1 s0 s1 b0 b1 h
    · exact reads_15_ok _ _ _ _ _ _ _ d0 d1 s0 s1 b0 b1 h
    · exact reads_16_ok _ _ _ _ _ _ _ d0 d1 s0 s1 b0 b1 h
    · exact reads_17_ok _ _ _ _ _ _ _ d0 d1 s0 s1 b0 b1 h
    · exact reads_18_ok _ _ _ _ _ _ _ d0 d1 s0 s1 b0 b1 h
    · exact reads_19_ok _ _ _ _ _ _ _ d0 d1 s0 s1 b0 b1 h
    · exact reads_20_ok _ _ _ _ _ _ _ d0 d1 s0 s1 b0 b1 h
    · exact reads_21_ok _ _ _ _ _ _ _ d0 d1 s0 s1 b0 b1 h
    · exact reads_22_ok _ _ _ _ _ _ _ d0 d1 s0 s1 b0 b1 h
    · exact reads_23_ok _ _ _ _ _ _ _ d0 d1 s0 s1 b0 b1 h
    · exact reads_24_ok _ _ _ _ _ _ _ d0 d1 s0 s1 b0 b1 h
    · exact reads_25_ok _ _ _ _ _ _ _ d0 d1 s0 s1 b0 b1 h
    · exact reads_26_ok _ _ _ _ _ _ _ d0 d1 s0 s1 b0 b1 h
    · exact reads_27_ok _ _ _ _ _ _ _ d0 d1 s0 s1 b0 b1 h
    · exact reads_28_ok _ _ _ _ _ _ _ d0 d1 s0 s1 b0 b1 h
    · exact reads_29_ok _ _ _ _ _ _ _ d0 d1 s0 s1 b0 b1 h
    · exact reads_30_ok _ _ _ _ _ _ _ d0 d1 s0 s1 b0 b1 h
    · exact reads_31_ok _ _ _ _ _ _ _ d0 d1 s0 s1 b0 b1 h
theorem writes_any_ok (op w dst src base disp imm cc : Int) (ho : op ≤ 127) : Ret Try.prog 18 [xD op w dst src base disp imm cc] (.int .i64 (writesXX op w dst src base disp imm cc)) := by
  unfold writesXX
  cases h : mayX op w dst src base disp imm cc
  · simp only [Bool.false_eq_true, if_false]
    exact writes_no_ok op w dst src base disp imm cc ho h
  · simp only [if_true]
    obtain ⟨⟨d0, d1, s0, s1, b0, b1, p0, p1, i0, i1⟩, hs⟩ := mayX_parts h
    have hsh := mayX_sh h
    clear hs
    rcases shape_ops hsh with rfl | rfl | rfl | rfl | rfl | rfl | rfl | rfl | rfl | rfl | rfl | rfl | rfl | rfl | rfl | rfl | rfl | rfl | rfl | rfl | rfl | rfl | rfl | rfl | rfl | rfl | rfl | rfl | rfl | rfl | rfl | rfl
    · exact writes_0_ok _ _ _ _ _ _ _ d0 d1 s0 s1 b0 b1 h
    · exact writes_1_ok _ _ _ _ _ _ _ d0 d1 s0 s1 b0 b1 h
    · exact writes_2_ok _ _ _ _ _ _ _ d0 d1 s0 s1 b0 b1 h
    · exact writes_3_ok _ _ _ _ _ _ _ d0 d1 s0 s1 b0 b1 h
    · exact writes_4_ok _ _ _ _ _ _ _ d0 d1 s0 s1 b0 b1 h
    · exact writes_5_ok _ _ _ _ _ _ _ d0 d1 s0 s1 b0 b1 h
    · exact writes_6_ok _ _ _ _ _ _ _ d0 d1 s0 s1 b0 b1 h
    · exact writes_7_ok _ _ _ _ _ _ _ d0 d1 s0 s1 b0 b1 h
    · exact writes_8_ok _ _ _ _ _ _ _ d0 d1 s0 s1 b0 b1 h
    · exact writes_9_ok _ _ _ _ _ _ _ d0 d1 s0 s1 b0 b1 h
    · exact writes_10_ok _ _ _ _ _ _ _ d0 d1 s0 s1 b0 b1 h
    · exact writes_11_ok _ _ _ _ _ _ _ d0 d1 s0 s1 b0 b1 h
    · exact writes_12_ok _ _ _ _ _ _ _ d0 d1 s0 s1 b0 b1 h
    · exact writes_13_ok _ _ _ _ _ _ _ d0 d1 s0 s1 b0 b1 h
    · exact writes_14_ok _ _ _ _ _ _ _ d0 d1 s0 s1 b0 b1 h
    · exact writes_15_ok _ _ _ _ _ _ _ d0 d1 s0 s1 b0 b1 h
    · exact writes_16_ok _ _ _ _ _ _ _ d0 d1 s0 s1 b0 b1 h
    · exact writes_17_ok _ _ _ _ _ _ _ d0 d1 s0 s1 b0 b1 h
    · exact writes_18_ok _ _ _ _ _ _ _ d0 d1 s0 s1 b0 b1 h
    · exact writes_19_ok _ _ _ _ _ _ _ d0 d1 s0 s1 b0 b1 h
    · exact writes_20_ok _ _ _ _ _ _ _ d0 d1 s0 s1 b0 b1 h
    · exact writes_21_ok _ _ _ _ _ _ _ d0 d1 s0 s1 b0 b1 h
    · exact writes_22_ok _ _ _ _ _ _ _ d0 d1 s0 s1 b0 b1 h
    · exact writes_23_ok _ _ _ _ _ _ _ d0 d1 s0 s1 b0 b1 h
    · exact writes_24_ok _ _ _ _ _ _ _ d0 d1 s0 s1 b0 b1 h
    · exact writes_25_ok _ _ _ _ _ _ _ d0 d1 s0 s1 b0 b1 h
    · exact writes_26_ok _ _ _ _ _ _ _ d0 d1 s0 s1 b0 b1 h
    · exact writes_27_ok _ _ _ _ _ _ _ d0 d1 s0 s1 b0 b1 h
    · exact writes_28_ok _ _ _ _ _ _ _ d0 d1 s0 s1 b0 b1 h
    · exact writes_29_ok _ _ _ _ _ _ _ d0 d1 s0 s1 b0 b1 h
    · exact writes_30_ok _ _ _ _ _ _ _ d0 d1 s0 s1 b0 b1 h
    · exact writes_31_ok _ _ _ _ _ _ _ d0 d1 s0 s1 b0 b1 h
theorem rreads_any_ok (op w dst src base disp imm cc : Int) (ho : op ≤ 127) : Ret Try.prog 17 [xD op w dst src base disp imm cc] (.int .i64 (readsXX op w dst src base disp imm cc)) := by
  unfold readsXX
  cases h : mayX op w dst src base disp imm cc
  · simp only [Bool.false_eq_true, if_false]
    exact rreads_no_ok op w dst src base disp imm cc ho h
  · simp only [if_true]
    obtain ⟨⟨d0, d1, s0, s1, b0, b1, p0, p1, i0, i1⟩, hs⟩ := mayX_parts h
    have hsh := mayX_sh h
    clear hs
    rcases shape_ops hsh with rfl | rfl | rfl | rfl | rfl | rfl | rfl | rfl | rfl | rfl | rfl | rfl | rfl | rfl | rfl | rfl | rfl | rfl | rfl | rfl | rfl | rfl | rfl | rfl | rfl | rfl | rfl | rfl | rfl | rfl | rfl | rfl
    · exact rreads_0_ok _ _ _ _ _ _ _ d0 d1 s0 s1 b0 b1 h
    · exact rreads_1_ok _ _ _ _ _ _ _ d0 d1 s0 s1 b0 b1 h
    · exact rreads_2_ok _ _ _ _ _ _ _ d0 d1 s0 s1 b0 b1 h
    · exact rreads_3_ok _ _ _ _ _ _ _ d0 d1 s0 s1 b0 b1 h
    · exact rreads_4_ok _ _ _ _ _ _ _ d0 d1 s0 s1 b0 b1 h
    · exact rreads_5_ok _ _ _ _ _ _ _ d0 d1 s0 s1 b0 b1 h
    · exact rreads_6_ok _ _ _ _ _ _ _ d0 d1 s0 s1 b0 b1 h
    · exact rreads_7_ok _ _ _ _ _ _ _ d0 d1 s0 s1 b0 b1 h
    · exact rreads_8_ok _ _ _ _ _ _ _ d0 d1 s0 s1 b0 b1 h
    · exact rreads_9_ok _ _ _ _ _ _ _ d0 d1 s0 s1 b0 b1 h
    · exact rreads_10_ok _ _ _ _ _ _ _ d0 d1 s0 s1 b0 b1 h
    · exact rreads_11_ok _ _ _ _ _ _ _ d0 d1 s0 s1 b0 b1 h
    · exact rreads_12_ok _ _ _ _ _ _ _ d0 d1 s0 s1 b0 b1 h
    · exact rreads_13_ok _ _ _ _ _ _ _ d0 d1 s0 s1 b0 b1 h
    · exact rreads_14_ok _ _ _ _ _ _ _ d0 d1 s0 s1 b0 b1 h
    · exact rreads_15_ok _ _ _ _ _ _ _ d0 d1 s0 s1 b0 b1 h
    · exact rreads_16_ok _ _ _ _ _ _ _ d0 d1 s0 s1 b0 b1 h
    · exact rreads_17_ok _ _ _ _ _ _ _ d0 d1 s0 s1 b0 b1 h
    · exact rreads_18_ok _ _ _ _ _ _ _ d0 d1 s0 s1 b0 b1 h
    · exact rreads_19_ok _ _ _ _ _ _ _ d0 d1 s0 s1 b0 b1 h
    · exact rreads_20_ok _ _ _ _ _ _ _ d0 d1 s0 s1 b0 b1 h
    · exact rreads_21_ok _ _ _ _ _ _ _ d0 d1 s0 s1 b0 b1 h
    · exact rreads_22_ok _ _ _ _ _ _ _ d0 d1 s0 s1 b0 b1 h
    · exact rreads_23_ok _ _ _ _ _ _ _ d0 d1 s0 s1 b0 b1 h
    · exact rreads_24_ok _ _ _ _ _ _ _ d0 d1 s0 s1 b0 b1 h
    · exact rreads_25_ok _ _ _ _ _ _ _ d0 d1 s0 s1 b0 b1 h
    · exact rreads_26_ok _ _ _ _ _ _ _ d0 d1 s0 s1 b0 b1 h
    · exact rreads_27_ok _ _ _ _ _ _ _ d0 d1 s0 s1 b0 b1 h
    · exact rreads_28_ok _ _ _ _ _ _ _ d0 d1 s0 s1 b0 b1 h
    · exact rreads_29_ok _ _ _ _ _ _ _ d0 d1 s0 s1 b0 b1 h
    · exact rreads_30_ok _ _ _ _ _ _ _ d0 d1 s0 s1 b0 b1 h
    · exact rreads_31_ok _ _ _ _ _ _ _ d0 d1 s0 s1 b0 b1 h
theorem rwrites_any_ok (op w dst src base disp imm cc : Int) (ho : op ≤ 127) : Ret Try.prog 19 [xD op w dst src base disp imm cc] (.int .i64 (writesXX op w dst src base disp imm cc)) := by
  unfold writesXX
  cases h : mayX op w dst src base disp imm cc
  · simp only [Bool.false_eq_true, if_false]
    exact rwrites_no_ok op w dst src base disp imm cc ho h
  · simp only [if_true]
    obtain ⟨⟨d0, d1, s0, s1, b0, b1, p0, p1, i0, i1⟩, hs⟩ := mayX_parts h
    have hsh := mayX_sh h
    clear hs
    rcases shape_ops hsh with rfl | rfl | rfl | rfl | rfl | rfl | rfl | rfl | rfl | rfl | rfl | rfl | rfl | rfl | rfl | rfl | rfl | rfl | rfl | rfl | rfl | rfl | rfl | rfl | rfl | rfl | rfl | rfl | rfl | rfl | rfl | rfl
    · exact rwrites_0_ok _ _ _ _ _ _ _ d0 d1 s0 s1 b0 b1 h
    · exact rwrites_1_ok _ _ _ _ _ _ _ d0 d1 s0 s1 b0 b1 h
    · exact rwrites_2_ok _ _ _ _ _ _ _ d0 d1 s0 s1 b0 b1 h
    · exact rwrites_3_ok _ _ _ _ _ _ _ d0 d1 s0 s1 b0 b1 h
    · exact rwrites_4_ok _ _ _ _ _ _ _ d0 d1 s0 s1 b0 b1 h
    · exact rwrites_5_ok _ _ _ _ _ _ _ d0 d1 s0 s1 b0 b1 h
    · exact rwrites_6_ok _ _ _ _ _ _ _ d0 d1 s0 s1 b0 b1 h
    · exact rwrites_7_ok _ _ _ _ _ _ _ d0 d1 s0 s1 b0 b1 h
    · exact rwrites_8_ok _ _ _ _ _ _ _ d0 d1 s0 s1 b0 b1 h
    · exact rwrites_9_ok _ _ _ _ _ _ _ d0 d1 s0 s1 b0 b1 h
    · exact rwrites_10_ok _ _ _ _ _ _ _ d0 d1 s0 s1 b0 b1 h
    · exact rwrites_11_ok _ _ _ _ _ _ _ d0 d1 s0 s1 b0 b1 h
    · exact rwrites_12_ok _ _ _ _ _ _ _ d0 d1 s0 s1 b0 b1 h
    · exact rwrites_13_ok _ _ _ _ _ _ _ d0 d1 s0 s1 b0 b1 h
    · exact rwrites_14_ok _ _ _ _ _ _ _ d0 d1 s0 s1 b0 b1 h
    · exact rwrites_15_ok _ _ _ _ _ _ _ d0 d1 s0 s1 b0 b1 h
    · exact rwrites_16_ok _ _ _ _ _ _ _ d0 d1 s0 s1 b0 b1 h
    · exact rwrites_17_ok _ _ _ _ _ _ _ d0 d1 s0 s1 b0 b1 h
    · exact rwrites_18_ok _ _ _ _ _ _ _ d0 d1 s0 s1 b0 b1 h
    · exact rwrites_19_ok _ _ _ _ _ _ _ d0 d1 s0 s1 b0 b1 h
    · exact rwrites_20_ok _ _ _ _ _ _ _ d0 d1 s0 s1 b0 b1 h
    · exact rwrites_21_ok _ _ _ _ _ _ _ d0 d1 s0 s1 b0 b1 h
    · exact rwrites_22_ok _ _ _ _ _ _ _ d0 d1 s0 s1 b0 b1 h
    · exact rwrites_23_ok _ _ _ _ _ _ _ d0 d1 s0 s1 b0 b1 h
    · exact rwrites_24_ok _ _ _ _ _ _ _ d0 d1 s0 s1 b0 b1 h
    · exact rwrites_25_ok _ _ _ _ _ _ _ d0 d1 s0 s1 b0 b1 h
    · exact rwrites_26_ok _ _ _ _ _ _ _ d0 d1 s0 s1 b0 b1 h
    · exact rwrites_27_ok _ _ _ _ _ _ _ d0 d1 s0 s1 b0 b1 h
    · exact rwrites_28_ok _ _ _ _ _ _ _ d0 d1 s0 s1 b0 b1 h
    · exact rwrites_29_ok _ _ _ _ _ _ _ d0 d1 s0 s1 b0 b1 h
    · exact rwrites_30_ok _ _ _ _ _ _ _ d0 d1 s0 s1 b0 b1 h
    · exact rwrites_31_ok _ _ _ _ _ _ _ d0 d1 s0 s1 b0 b1 h
end Go.Proofs.Ytokbhdafpghcpaa
