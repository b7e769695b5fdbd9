/- How long jumps are. -/
import Derived.Test.YtokbhdafpghcpaaXLen
namespace Go.Proofs.Ytokbhdafpghcpaa
open Go Go.Ev
set_option linter.unusedVariables false
set_option linter.unusedSimpArgs false

theorem lenX_no {op w dst src base disp imm cc : Int} (h : mayX op w dst src base disp imm cc = false) : lenX op w dst src base disp imm cc = 0 := by
  simp [lenX, bytesL, h]
theorem lenX_yes {op w dst src base disp imm cc : Int} {n : Nat} (h : mayX op w dst src base disp imm cc = true) (k : (bytesM op w dst src base disp imm cc).length = n) : lenX op w dst src base disp imm cc = n := by
  simp [lenX, bytesL, h, bD, k]
theorem may_jmp8 {n : Int} : mayX 28 8 0 0 0 0 n 0 = decide (-128 ≤ n ∧ n ≤ 127) := by
  simp only [mayX, show shapeM 28 = 9 from rfl, mayS, regM, jumpM]
  rw [Bool.eq_iff_iff]; simp; omega
theorem may_jmp32 {n : Int} : mayX 28 32 0 0 0 0 n 0 = decide (-2147483648 ≤ n ∧ n ≤ 2147483647) := by
  simp only [mayX, show shapeM 28 = 9 from rfl, mayS, regM, jumpM]
  rw [Bool.eq_iff_iff]; simp
theorem may_jcc8 {n c : Int} : mayX 29 8 0 0 0 0 n c = (decide (-128 ≤ n ∧ n ≤ 127) && ccM c) := by
  simp only [mayX, show shapeM 29 = 10 from rfl, mayS, regM, jumpM]
  rw [Bool.eq_iff_iff]; simp; omega
theorem may_jcc32 {n c : Int} : mayX 29 32 0 0 0 0 n c = (decide (-2147483648 ≤ n ∧ n ≤ 2147483647) && ccM c) := by
  simp only [mayX, show shapeM 29 = 10 from rfl, mayS, regM, jumpM]
  rw [Bool.eq_iff_iff]; simp

theorem jlen8_in_ok (n : Int) (h : decide (-128 ≤ n ∧ n ≤ 127) = true) : Ret Try.prog 11 [xD 28 8 0 0 0 0 n 0] (.int .i64 2) :=
  (xlen_ok 28 8 0 0 0 0 n 0 (by decide)).cast rfl (by rw [lenX_yes (n := 2) (by rw [may_jmp8, h]) (by rfl)]; rfl)
theorem jlen8_out_ok (n : Int) (h : decide (-128 ≤ n ∧ n ≤ 127) = false) : Ret Try.prog 11 [xD 28 8 0 0 0 0 n 0] (.int .i64 0) :=
  (xlen_ok 28 8 0 0 0 0 n 0 (by decide)).cast rfl (by rw [lenX_no (by rw [may_jmp8, h])])
theorem jlen32_in_ok (n : Int) (h : decide (-2147483648 ≤ n ∧ n ≤ 2147483647) = true) : Ret Try.prog 11 [xD 28 32 0 0 0 0 n 0] (.int .i64 5) :=
  (xlen_ok 28 32 0 0 0 0 n 0 (by decide)).cast rfl (by rw [lenX_yes (n := 5) (by rw [may_jmp32, h]) (by rfl)]; rfl)
theorem jlen32_out_ok (n : Int) (h : decide (-2147483648 ≤ n ∧ n ≤ 2147483647) = false) : Ret Try.prog 11 [xD 28 32 0 0 0 0 n 0] (.int .i64 0) :=
  (xlen_ok 28 32 0 0 0 0 n 0 (by decide)).cast rfl (by rw [lenX_no (by rw [may_jmp32, h])])
theorem clen_cc_ok (w n c : Int) (h : ccM c = false) (hw : w = 8 ∨ w = 32) : Ret Try.prog 11 [xD 29 w 0 0 0 0 n c] (.int .i64 0) :=
  (xlen_ok 29 w 0 0 0 0 n c (by decide)).cast rfl (by rcases hw with rfl | rfl; (· rw [lenX_no (by rw [may_jcc8, h, Bool.and_false])]); (· rw [lenX_no (by rw [may_jcc32, h, Bool.and_false])]))
theorem clen8_in_ok (n c : Int) (h : decide (-128 ≤ n ∧ n ≤ 127) = true) (hc : ccM c = true) : Ret Try.prog 11 [xD 29 8 0 0 0 0 n c] (.int .i64 2) :=
  (xlen_ok 29 8 0 0 0 0 n c (by decide)).cast rfl (by rw [lenX_yes (n := 2) (by rw [may_jcc8, h, hc]; rfl) (by rfl)]; rfl)
theorem clen8_out_ok (n c : Int) (h : decide (-128 ≤ n ∧ n ≤ 127) = false) : Ret Try.prog 11 [xD 29 8 0 0 0 0 n c] (.int .i64 0) :=
  (xlen_ok 29 8 0 0 0 0 n c (by decide)).cast rfl (by rw [lenX_no (by rw [may_jcc8, h, Bool.false_and])])
theorem clen32_in_ok (n c : Int) (h : decide (-2147483648 ≤ n ∧ n ≤ 2147483647) = true) (hc : ccM c = true) : Ret Try.prog 11 [xD 29 32 0 0 0 0 n c] (.int .i64 6) :=
  (xlen_ok 29 32 0 0 0 0 n c (by decide)).cast rfl (by rw [lenX_yes (n := 6) (by rw [may_jcc32, h, hc]; rfl) (by rfl)]; rfl)
theorem clen32_out_ok (n c : Int) (h : decide (-2147483648 ≤ n ∧ n ≤ 2147483647) = false) : Ret Try.prog 11 [xD 29 32 0 0 0 0 n c] (.int .i64 0) :=
  (xlen_ok 29 32 0 0 0 0 n c (by decide)).cast rfl (by rw [lenX_no (by rw [may_jcc32, h, Bool.false_and])])
theorem jmay32_out_ok (n : Int) (h : decide (-2147483648 ≤ n ∧ n ≤ 2147483647) = false) : Ret Try.prog 12 [xD 28 32 0 0 0 0 n 0] (.bool false) :=
  (mayX_ok 28 32 0 0 0 0 n 0 (by decide)).cast rfl (by rw [may_jmp32, h])
theorem cmay32_out_ok (n c : Int) (h : decide (-2147483648 ≤ n ∧ n ≤ 2147483647) = false) : Ret Try.prog 12 [xD 29 32 0 0 0 0 n c] (.bool false) :=
  (mayX_ok 29 32 0 0 0 0 n c (by decide)).cast rfl (by rw [may_jcc32, h, Bool.false_and])
theorem cmay32_cc_ok (n c : Int) (h : ccM c = false) : Ret Try.prog 12 [xD 29 32 0 0 0 0 n c] (.bool false) :=
  (mayX_ok 29 32 0 0 0 0 n c (by decide)).cast rfl (by rw [may_jcc32, h, Bool.and_false])
end Go.Proofs.Ytokbhdafpghcpaa
