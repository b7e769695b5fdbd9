/- Which instructions of the target may be, of whatever shape (the document). -/
import Derived.Test.YtokbhdafpghcpaaXRef1
import Derived.Test.YtokbhdafpghcpaaXRef2
import Derived.Test.YtokbhdafpghcpaaXRef3
import Derived.Test.YtokbhdafpghcpaaXRef4
namespace Go.Proofs.Ytokbhdafpghcpaa
open Go Go.Ev
set_option linter.unusedVariables false
set_option linter.unusedSimpArgs false

theorem rshape_range : ∀ n : Fin 32, shapeM (n.val : Int) = 1 ∨ shapeM (n.val : Int) = 2 ∨ shapeM (n.val : Int) = 3 ∨ shapeM (n.val : Int) = 4 ∨ shapeM (n.val : Int) = 5 ∨ shapeM (n.val : Int) = 6 ∨ shapeM (n.val : Int) = 7 ∨ shapeM (n.val : Int) = 8 ∨ shapeM (n.val : Int) = 9 ∨ shapeM (n.val : Int) = 10 ∨ shapeM (n.val : Int) = 11 := by decide +kernel
theorem rmayX_ok (op w dst src base disp imm cc : Int) : Ret Try.prog 14 [xD op w dst src base disp imm cc] (.bool (mayX op w dst src base disp imm cc)) := by
  by_cases hin : 0 ≤ op ∧ op ≤ 31
  · have e : op = (((⟨op.toNat, by omega⟩ : Fin 32).val : Nat) : Int) := by simp; omega
    have hr := rshape_range ⟨op.toNat, by omega⟩
    rw [← e] at hr
    rcases hr with h | h | h | h | h | h | h | h | h | h | h
    · exact rmayX_1_ok _ _ _ _ _ _ _ _ (by rw [h]; rfl) (by simp [classM, h])
    · exact rmayX_2_ok _ _ _ _ _ _ _ _ (by rw [h]; rfl) (by simp [classM, h])
    · exact rmayX_3_ok _ _ _ _ _ _ _ _ (by rw [h]; rfl) (by simp [classM, h])
    · exact rmayX_4_ok _ _ _ _ _ _ _ _ (by rw [h]; rfl) (by simp [classM, h])
    · exact rmayX_5_ok _ _ _ _ _ _ _ _ (by rw [h]; rfl) (by simp [classM, h])
    · exact rmayX_6_ok _ _ _ _ _ _ _ _ (by rw [h]; rfl) (by simp [classM, h])
    · exact rmayX_7_ok _ _ _ _ _ _ _ _ (by rw [h]; rfl) (by simp [classM, h])
    · exact rmayX_8_ok _ _ _ _ _ _ _ _ (by rw [h]; rfl) (by simp [classM, h])
    · exact rmayX_9_ok _ _ _ _ _ _ _ _ (by rw [h]; rfl) (by simp [classM, h])
    · exact rmayX_10_ok _ _ _ _ _ _ _ _ (by rw [h]; rfl) (by simp [classM, h])
    · exact rmayX_11_ok _ _ _ _ _ _ _ _ (by rw [h]; rfl) (by simp [classM, h])
  · exact rmayX_0_ok _ _ _ _ _ _ _ _ (by rw [(shape_none (op := op) (by omega)).1]; rfl) (by simp [classM, (shape_none (op := op) (by omega)).1])
end Go.Proofs.Ytokbhdafpghcpaa
