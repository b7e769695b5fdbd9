/- Contracts: an instruction with just what its operation names (the document). -/
import Derived.Test.YtokbhdafpghcpaaXOfA
namespace Go.Proofs.Ytokbhdafpghcpaa
open Go Go.Ev
set_option maxRecDepth 100000
set_option maxHeartbeats 8000000
set_option linter.unusedVariables false
set_option linter.unusedSimpArgs false
theorem rfields_0_ok (op w dst src base disp imm cc : Int) (hc : (classM op == 0) = true) : Ret Try.prog 41 ([xD op w dst src base disp imm cc]) (xD op w dst 0 0 0 0 0) := by
  have c0 := @class_ok (op)
  rw [show (classM op) = 0 from (eq_of_beq hc)] at c0
  exact (Ret.of_eval (d := (xD op w dst 0 0 0 0 0)) mixed Try.func41 (by kernel_rfl) [.ret _ _ _ c0, tT, tT, tT, tT, tF, tT, tT, tF, tF, tT, tT, tF, tT, tT, tF, tT, tT, tF, tF, tT, tT, tF, tF, tT, tT, tF, tF] (by kernel_rfl)).to (by simp [wk, wkL])

theorem rfields_1_ok (op w dst src base disp imm cc : Int) (hc : (classM op == 1) = true) : Ret Try.prog 41 ([xD op w dst src base disp imm cc]) (xD op w dst src 0 0 0 0) := by
  have c0 := @class_ok (op)
  rw [show (classM op) = 1 from (eq_of_beq hc)] at c0
  exact (Ret.of_eval (d := (xD op w dst src 0 0 0 0)) mixed Try.func41 (by kernel_rfl) [.ret _ _ _ c0, tT, tT, tF, tF, tT, tF, tF, tT, tT, tT, tT, tF, tT, tT, tF, tT, tT, tF, tF, tT, tT, tF, tF, tT, tT, tF, tF] (by kernel_rfl)).to (by simp [wk, wkL])

theorem rfields_2_ok (op w dst src base disp imm cc : Int) (hc : (classM op == 2) = true) : Ret Try.prog 41 ([xD op w dst src base disp imm cc]) (xD op w dst 0 0 0 imm 0) := by
  have c0 := @class_ok (op)
  rw [show (classM op) = 2 from (eq_of_beq hc)] at c0
  exact (Ret.of_eval (d := (xD op w dst 0 0 0 imm 0)) mixed Try.func41 (by kernel_rfl) [.ret _ _ _ c0, tT, tT, tT, tT, tF, tT, tT, tF, tF, tF, tF, tT, tF, tF, tT, tF, tF, tT, tT, tT, tT, tF, tF, tT, tT, tF, tF] (by kernel_rfl)).to (by simp [wk, wkL])

theorem rfields_3_ok (op w dst src base disp imm cc : Int) (hc : (classM op == 3) = true) : Ret Try.prog 41 ([xD op w dst src base disp imm cc]) (xD op w dst 0 0 0 imm 0) := by
  have c0 := @class_ok (op)
  rw [show (classM op) = 3 from (eq_of_beq hc)] at c0
  exact (Ret.of_eval (d := (xD op w dst 0 0 0 imm 0)) mixed Try.func41 (by kernel_rfl) [.ret _ _ _ c0, tT, tT, tT, tT, tF, tT, tT, tF, tF, tT, tT, tF, tF, tF, tT, tF, tF, tT, tT, tT, tT, tF, tF, tT, tT, tF, tF] (by kernel_rfl)).to (by simp [wk, wkL])

theorem rfields_4_ok (op w dst src base disp imm cc : Int) (hc : (classM op == 4) = true) : Ret Try.prog 41 ([xD op w dst src base disp imm cc]) (xD op w dst 0 0 0 0 0) := by
  have c0 := @class_ok (op)
  rw [show (classM op) = 4 from (eq_of_beq hc)] at c0
  exact (Ret.of_eval (d := (xD op w dst 0 0 0 0 0)) mixed Try.func41 (by kernel_rfl) [.ret _ _ _ c0, tT, tT, tT, tT, tF, tT, tT, tF, tF, tT, tT, tF, tT, tT, tF, tT, tT, tF, tF, tT, tT, tF, tF, tT, tT, tF, tF] (by kernel_rfl)).to (by simp [wk, wkL])

theorem rfields_5_ok (op w dst src base disp imm cc : Int) (hc : (classM op == 5) = true) : Ret Try.prog 41 ([xD op w dst src base disp imm cc]) (xD op w dst src 0 0 0 cc) := by
  have c0 := @class_ok (op)
  rw [show (classM op) = 5 from (eq_of_beq hc)] at c0
  exact (Ret.of_eval (d := (xD op w dst src 0 0 0 cc)) mixed Try.func41 (by kernel_rfl) [.ret _ _ _ c0, tT, tT, tT, tT, tF, tF, tF, tT, tT, tT, tT, tF, tT, tT, tF, tT, tT, tF, tF, tF, tF, tT, tT, tT, tT, tF, tF] (by kernel_rfl)).to (by simp [wk, wkL])

theorem rfields_6_ok (op w dst src base disp imm cc : Int) (hc : (classM op == 6) = true) : Ret Try.prog 41 ([xD op w dst src base disp imm cc]) (xD op w dst 0 base disp 0 0) := by
  have c0 := @class_ok (op)
  rw [show (classM op) = 6 from (eq_of_beq hc)] at c0
  exact (Ret.of_eval (d := (xD op w dst 0 base disp 0 0)) mixed Try.func41 (by kernel_rfl) [.ret _ _ _ c0, tT, tT, tT, tT, tF, tT, tT, tF, tF, tT, tT, tF, tT, tT, tF, tT, tT, tF, tF, tT, tT, tF, tF, tF, tF, tT, tT] (by kernel_rfl)).to (by simp [wk, wkL])

theorem rfields_7_ok (op w dst src base disp imm cc : Int) (hc : (classM op == 7) = true) : Ret Try.prog 41 ([xD op w dst src base disp imm cc]) (xD op w 0 src base disp 0 0) := by
  have c0 := @class_ok (op)
  rw [show (classM op) = 7 from (eq_of_beq hc)] at c0
  exact (Ret.of_eval (d := (xD op w 0 src base disp 0 0)) mixed Try.func41 (by kernel_rfl) [.ret _ _ _ c0, tT, tF, tT, tT, tF, tT, tT, tF, tT, tT, tT, tF, tT, tT, tF, tT, tT, tF, tF, tT, tT, tF, tF, tT, tT, tF, tT] (by kernel_rfl)).to (by simp [wk, wkL])

theorem rfields_8_ok (op w dst src base disp imm cc : Int) (hc : (classM op == 8) = true) : Ret Try.prog 41 ([xD op w dst src base disp imm cc]) (xD op w 0 0 0 0 imm 0) := by
  have c0 := @class_ok (op)
  rw [show (classM op) = 8 from (eq_of_beq hc)] at c0
  exact (Ret.of_eval (d := (xD op w 0 0 0 0 imm 0)) mixed Try.func41 (by kernel_rfl) [.ret _ _ _ c0, tT, tF, tT, tT, tF, tT, tT, tF, tF, tT, tT, tF, tT, tT, tF, tF, tF, tT, tT, tT, tT, tF, tF, tT, tT, tF, tF] (by kernel_rfl)).to (by simp [wk, wkL])

theorem rfields_9_ok (op w dst src base disp imm cc : Int) (hc : (classM op == 9) = true) : Ret Try.prog 41 ([xD op w dst src base disp imm cc]) (xD op w 0 0 0 0 imm cc) := by
  have c0 := @class_ok (op)
  rw [show (classM op) = 9 from (eq_of_beq hc)] at c0
  exact (Ret.of_eval (d := (xD op w 0 0 0 0 imm cc)) mixed Try.func41 (by kernel_rfl) [.ret _ _ _ c0, tT, tF, tT, tT, tF, tT, tT, tF, tF, tT, tT, tF, tT, tT, tF, tT, tT, tF, tT, tT, tT, tF, tT, tT, tT, tF, tF] (by kernel_rfl)).to (by simp [wk, wkL])

theorem rfields_10_ok (op w dst src base disp imm cc : Int) (hc : (classM op == 10) = true) : Ret Try.prog 41 ([xD op w dst src base disp imm cc]) (xD op 0 0 0 0 0 0 0) := by
  have c0 := @class_ok (op)
  rw [show (classM op) = 10 from (eq_of_beq hc)] at c0
  exact (Ret.of_eval (d := (xD op 0 0 0 0 0 0 0)) mixed Try.func41 (by kernel_rfl) [.ret _ _ _ c0, tF, tF, tT, tT, tF, tT, tT, tF, tF, tT, tT, tF, tT, tT, tF, tT, tT, tF, tF, tT, tT, tF, tF, tT, tT, tF, tF] (by kernel_rfl)).to (by simp [wk, wkL])

end Go.Proofs.Ytokbhdafpghcpaa
