/- Which instructions of the target may be, of whatever shape. -/
import Derived.Test.YtkannibhndjgeaaXMay0
import Derived.Test.YtkannibhndjgeaaXMay1
import Derived.Test.YtkannibhndjgeaaXMay2
import Derived.Test.YtkannibhndjgeaaXMay3
namespace Go.Proofs.Ytkannibhndjgeaa
open Go Go.Ev
set_option linter.unusedVariables false
set_option linter.unusedSimpArgs false

theorem shape_range : ∀ n : Fin 32, shapeM (n.val : Int) = 1 ∨ shapeM (n.val : Int) = 2 ∨ shapeM (n.val : Int) = 3 ∨ shapeM (n.val : Int) = 4 ∨ shapeM (n.val : Int) = 5 ∨ shapeM (n.val : Int) = 6 ∨ shapeM (n.val : Int) = 7 ∨ shapeM (n.val : Int) = 8 ∨ shapeM (n.val : Int) = 9 ∨ shapeM (n.val : Int) = 10 ∨ shapeM (n.val : Int) = 11 := by decide +kernel
theorem mayX_ok (op w dst src base disp imm cc : Int) (ho : op ≤ 127) : Ret Try.prog 9 [xD op w dst src base disp imm cc] (.bool (mayX op w dst src base disp imm cc)) := by
  by_cases hin : 0 ≤ op ∧ op ≤ 31
  · have e : op = (((⟨op.toNat, by omega⟩ : Fin 32).val : Nat) : Int) := by simp; omega
    have hr := shape_range ⟨op.toNat, by omega⟩
    rw [← e] at hr
    have hin' : decide (0 ≤ op ∧ op ≤ 31) = true := decide_eq_true hin
    rcases hr with h | h | h | h | h | h | h | h | h | h | h
    · exact mayX_1_ok _ _ _ _ _ _ _ _ ho (by rw [h]; rfl) hin'
    · exact mayX_2_ok _ _ _ _ _ _ _ _ ho (by rw [h]; rfl) hin'
    · exact mayX_3_ok _ _ _ _ _ _ _ _ ho (by rw [h]; rfl) hin'
    · exact mayX_4_ok _ _ _ _ _ _ _ _ ho (by rw [h]; rfl) hin'
    · exact mayX_5_ok _ _ _ _ _ _ _ _ ho (by rw [h]; rfl) hin'
    · exact mayX_6_ok _ _ _ _ _ _ _ _ ho (by rw [h]; rfl) hin'
    · exact mayX_7_ok _ _ _ _ _ _ _ _ ho (by rw [h]; rfl) hin'
    · exact mayX_8_ok _ _ _ _ _ _ _ _ ho (by rw [h]; rfl) hin'
    · exact mayX_9_ok _ _ _ _ _ _ _ _ ho (by rw [h]; rfl) hin'
    · exact mayX_10_ok _ _ _ _ _ _ _ _ ho (by rw [h]; rfl) hin'
    · exact mayX_11_ok _ _ _ _ _ _ _ _ ho (by rw [h]; rfl) hin'
  · exact mayX_0_ok _ _ _ _ _ _ _ _ ho (by rw [(shape_none (op := op) (by omega)).1]; rfl) (decide_eq_false hin)
end Go.Proofs.Ytkannibhndjgeaa
