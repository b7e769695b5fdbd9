/- An instruction's bytes, if it may be. -/
import Derived.Test.YtkannibhndjgeaaXB2a
import Derived.Test.YtkannibhndjgeaaXB2b
import Derived.Test.YtkannibhndjgeaaXB2c
import Derived.Test.YtkannibhndjgeaaXB2d
import Derived.Test.YtkannibhndjgeaaXB2e
namespace Go.Proofs.Ytkannibhndjgeaa
open Go Go.Ev
set_option linter.unusedVariables false
set_option linter.unusedSimpArgs false

theorem num_range (op : Int) : 0 ≤ numM op ∧ numM op ≤ 7 := by
  unfold numM
  repeat' split
  all_goals omega
theorem mayX_cc {op w dst src base disp imm cc : Int} (h : mayX op w dst src base disp imm cc = true) : 0 ≤ cc ∧ cc ≤ 15 := by
  have hs := (mayX_parts h).2
  unfold mayS at hs
  repeat' split at hs
  all_goals first | (cases hs; done) | (simp only [ccM, Bool.and_eq_true, decide_eq_true_eq] at hs; omega)
theorem bytes_may_ok (op w dst src base disp imm cc : Int) (ho : op ≤ 127) (hm : mayX op w dst src base disp imm cc = true) :
    Ret Try.prog 37 [xD op w dst src base disp imm cc] (.tup [.lst .no 1 (bD (bytesM op w dst src base disp imm cc)), .int .i64 0]) := by
  obtain ⟨⟨d0, d1, s0, s1, b0, b1, p0, p1, i0, i1⟩, hs⟩ := mayX_parts hm
  obtain ⟨c0, c1⟩ := mayX_cc hm
  obtain ⟨n0, n1⟩ := num_range op
  have hsh : shapeM op ≠ 0 := by
    intro e
    rw [e] at hs
    simp [mayS] at hs
  obtain ⟨k, e⟩ := op_fin hsh
  have hin : decide (0 ≤ op ∧ op ≤ 31) = true := by rw [e]; simp; omega
  have hr := shape_range k
  rw [← e] at hr
  rcases hr with h | h | h | h | h | h | h | h | h | h | h
  · exact bytes_1_ok _ _ _ _ _ _ _ _ ho d0 d1 s0 s1 b0 b1 p0 p1 i0 i1 c0 c1 n0 n1 (by rw [h]; rfl) hin hm
  · have e2 : op = 16 := by
      rw [e] at h ⊢
      revert h
      exact (by decide +kernel : ∀ n : Fin 32, shapeM (n.val : Int) = 2 → (n.val : Int) = 16) k
    subst e2
    exact bytesO_16_ok _ _ _ _ _ _ _ d0 d1 s0 s1 b0 b1 p0 p1 i0 i1 c0 c1 hm
  · exact bytes_3_ok _ _ _ _ _ _ _ _ ho d0 d1 s0 s1 b0 b1 p0 p1 i0 i1 c0 c1 n0 n1 (by rw [h]; rfl) hin (long_cases (by rw [h] at hs; simp [mayS] at hs; exact hs.1)) hm
  · exact bytes_4_ok _ _ _ _ _ _ _ _ ho d0 d1 s0 s1 b0 b1 p0 p1 i0 i1 c0 c1 n0 n1 (by rw [h]; rfl) hin hm
  · exact bytes_5_ok _ _ _ _ _ _ _ _ ho d0 d1 s0 s1 b0 b1 p0 p1 i0 i1 c0 c1 n0 n1 (by rw [h]; rfl) hin hm
  · have e2 : op = 25 := by rw [e] at h ⊢; exact shape_6 k h
    subst e2
    exact bytesO_25_ok _ _ _ _ _ _ _ d0 d1 s0 s1 b0 b1 p0 p1 i0 i1 c0 c1 hm
  · have e2 : op = 26 := by rw [e] at h ⊢; exact shape_7 k h
    subst e2
    exact bytesO_26_ok _ _ _ _ _ _ _ d0 d1 s0 s1 b0 b1 p0 p1 i0 i1 c0 c1 hm
  · have e2 : op = 27 := by rw [e] at h ⊢; exact shape_8 k h
    subst e2
    exact bytesO_27_ok _ _ _ _ _ _ _ d0 d1 s0 s1 b0 b1 p0 p1 i0 i1 c0 c1 hm
  · have e2 : op = 28 := by rw [e] at h ⊢; exact shape_9 k h
    subst e2
    exact bytesO_28_ok _ _ _ _ _ _ _ d0 d1 s0 s1 b0 b1 p0 p1 i0 i1 c0 c1 hm
  · have e2 : op = 29 := by rw [e] at h ⊢; exact shape_10 k h
    subst e2
    exact bytesO_29_ok _ _ _ _ _ _ _ d0 d1 s0 s1 b0 b1 p0 p1 i0 i1 c0 c1 hm
  · rcases shape_11 k (by rw [e] at h; exact h) with e2 | e2
    · rw [← e] at e2; subst e2
      exact bytesO_30_ok _ _ _ _ _ _ _ d0 d1 s0 s1 b0 b1 p0 p1 i0 i1 c0 c1 hm
    · rw [← e] at e2; subst e2
      exact bytesO_31_ok _ _ _ _ _ _ _ d0 d1 s0 s1 b0 b1 p0 p1 i0 i1 c0 c1 hm
end Go.Proofs.Ytkannibhndjgeaa
