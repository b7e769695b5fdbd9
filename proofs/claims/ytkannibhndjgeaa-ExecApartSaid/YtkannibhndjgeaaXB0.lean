/- Contracts: the parts of an instruction's bytes. -/
import Derived.Test.YtkannibhndjgeaaXMayA
import Derived.Test.YtkannibhndjgeaaMdZ
namespace Go.Proofs.Ytkannibhndjgeaa
open Go Go.Ev
set_option maxRecDepth 100000
set_option maxHeartbeats 8000000
set_option linter.unusedVariables false
set_option linter.unusedSimpArgs false
theorem mregister_ok (r : Int) : Ret Try.prog 75 ([.int .i8 r]) (.bool (regM r)) := by
  rcases Bool.eq_false_or_eq_true (decide (r < (0 : Int))) with h0 | h0
  · skip
    exact (Ret.of_eval (d := .bool false) mixed Try.func75 (by kernel_rfl) [tC (eT (leL 0 h0)), tC (eT (leL 0 h0)), tC (leL 0 h0)] (by kernel_rfl)).to (by (try simp only [decide_eq_true_eq, decide_eq_false_iff_not, Bool.not_eq_true, beq_iff_eq, beq_eq_false_iff_ne, D.bool.injEq, wk, wkL, wkO, eqCells, eqCell, regM] at *); first | (simp [wk, wkL, wkO, eqCells, eqCell, regM, *]; done) | (simp [wk, wkL, wkO, eqCells, eqCell, regM, *]; omega) | (rw [Bool.eq_iff_iff]; simp [wk, wkL, wkO, eqCells, eqCell, regM, *]; done) | (rw [Bool.eq_iff_iff]; simp [wk, wkL, wkO, eqCells, eqCell, regM, *]; omega) | (rw [Bool.eq_iff_iff]; simp [wk, wkL, wkO, eqCells, eqCell, regM, *]; grind) | (subst_vars; rw [Bool.eq_iff_iff]; simp; grind))
  · skip
    exact (Ret.of_eval (d := .bool (decide (r < (16 : Int)))) mixed Try.func75 (by kernel_rfl) [tC (eT (leL 0 h0)), tC (eT (leL 0 h0)), tC (leL 0 h0)] (by kernel_rfl)).to (by (try simp only [decide_eq_true_eq, decide_eq_false_iff_not, Bool.not_eq_true, beq_iff_eq, beq_eq_false_iff_ne, D.bool.injEq, wk, wkL, wkO, eqCells, eqCell, regM] at *); first | (simp [wk, wkL, wkO, eqCells, eqCell, regM, *]; done) | (simp [wk, wkL, wkO, eqCells, eqCell, regM, *]; omega) | (rw [Bool.eq_iff_iff]; simp [wk, wkL, wkO, eqCells, eqCell, regM, *]; done) | (rw [Bool.eq_iff_iff]; simp [wk, wkL, wkO, eqCells, eqCell, regM, *]; omega) | (rw [Bool.eq_iff_iff]; simp [wk, wkL, wkO, eqCells, eqCell, regM, *]; grind) | (subst_vars; rw [Bool.eq_iff_iff]; simp; grind))

theorem mhigh0_ok (r : Int) (r0 : 0 ≤ r) (r1 : r ≤ 15) : Ret Try.prog 76 ([.int .i8 r, .int .u64 0]) (.int .u8 (r / 8)) := by
  exact (Ret.of_eval (d := .int .u8 (IntKind.wrap IntKind.u8 (IntKind.wrap IntKind.u8 (↑(BitVec.toNat (BitVec.ofInt (8 : Nat) (Int.fdiv (IntKind.wrap IntKind.u8 r) (8 : Int)) &&& BitVec.ofInt (8 : Nat) (1 : Int))) : Int) * (1 : Int)))) mixed Try.func76 (by kernel_rfl) [tT] (by kernel_rfl)).to (by simp only [wk, D.int.injEq, true_and]; obtain ⟨n, rfl⟩ := fin16 r0 r1; clear r0 r1; revert n; decide +kernel)

theorem mhigh2_ok (r : Int) (r0 : 0 ≤ r) (r1 : r ≤ 15) : Ret Try.prog 76 ([.int .i8 r, .int .u64 2]) (.int .u8 (4 * (r / 8))) := by
  exact (Ret.of_eval (d := .int .u8 (IntKind.wrap IntKind.u8 (IntKind.wrap IntKind.u8 (↑(BitVec.toNat (BitVec.ofInt (8 : Nat) (Int.fdiv (IntKind.wrap IntKind.u8 r) (8 : Int)) &&& BitVec.ofInt (8 : Nat) (1 : Int))) : Int) * (4 : Int)))) mixed Try.func76 (by kernel_rfl) [tT] (by kernel_rfl)).to (by simp only [wk, D.int.injEq, true_and]; obtain ⟨n, rfl⟩ := fin16 r0 r1; clear r0 r1; revert n; decide +kernel)

theorem mlow192_ok (r m : Int) (r0 : 0 ≤ r) (r1 : r ≤ 15) (m0 : 0 ≤ m) (m1 : m ≤ 15) : Ret Try.prog 77 ([.int .u8 192, .int .i8 r, .int .i8 m]) (.int .u8 (regsM r m)) := by
  exact (Ret.of_eval (d := .int .u8 (IntKind.wrap IntKind.u8 (↑(BitVec.toNat (BitVec.ofInt (8 : Nat) (IntKind.wrap IntKind.u8 (↑(BitVec.toNat (BitVec.ofInt (8 : Nat) (192 : Int) ||| BitVec.ofInt (8 : Nat) (IntKind.wrap IntKind.u8 (IntKind.wrap IntKind.u8 (↑(BitVec.toNat (BitVec.ofInt (8 : Nat) (IntKind.wrap IntKind.u8 r) &&& BitVec.ofInt (8 : Nat) (7 : Int))) : Int) * (8 : Int))))) : Int)) ||| BitVec.ofInt (8 : Nat) (IntKind.wrap IntKind.u8 (↑(BitVec.toNat (BitVec.ofInt (8 : Nat) (IntKind.wrap IntKind.u8 m) &&& BitVec.ofInt (8 : Nat) (7 : Int))) : Int)))) : Int))) mixed Try.func77 (by kernel_rfl) [] (by kernel_rfl)).to (by simp only [wk, D.int.injEq, true_and]; obtain ⟨n, rfl⟩ := fin16 r0 r1; obtain ⟨k, rfl⟩ := fin16 m0 m1; clear r0 r1 m0 m1; revert n k; decide +kernel)

theorem mlow128_ok (r m : Int) (r0 : 0 ≤ r) (r1 : r ≤ 15) (m0 : 0 ≤ m) (m1 : m ≤ 15) : Ret Try.prog 77 ([.int .u8 128, .int .i8 r, .int .i8 m]) (.int .u8 (128 + 8 * (r % 8) + m % 8)) := by
  exact (Ret.of_eval (d := .int .u8 (IntKind.wrap IntKind.u8 (↑(BitVec.toNat (BitVec.ofInt (8 : Nat) (IntKind.wrap IntKind.u8 (↑(BitVec.toNat (BitVec.ofInt (8 : Nat) (128 : Int) ||| BitVec.ofInt (8 : Nat) (IntKind.wrap IntKind.u8 (IntKind.wrap IntKind.u8 (↑(BitVec.toNat (BitVec.ofInt (8 : Nat) (IntKind.wrap IntKind.u8 r) &&& BitVec.ofInt (8 : Nat) (7 : Int))) : Int) * (8 : Int))))) : Int)) ||| BitVec.ofInt (8 : Nat) (IntKind.wrap IntKind.u8 (↑(BitVec.toNat (BitVec.ofInt (8 : Nat) (IntKind.wrap IntKind.u8 m) &&& BitVec.ofInt (8 : Nat) (7 : Int))) : Int)))) : Int))) mixed Try.func77 (by kernel_rfl) [] (by kernel_rfl)).to (by simp only [wk, D.int.injEq, true_and]; obtain ⟨n, rfl⟩ := fin16 r0 r1; obtain ⟨k, rfl⟩ := fin16 m0 m1; clear r0 r1 m0 m1; revert n k; decide +kernel)

theorem mneeds_t_ok (r m : Int) (r0 : 0 ≤ r) (r1 : r ≤ 15) (m0 : 0 ≤ m) (m1 : m ≤ 15) (hn : decide (8 ≤ r ∨ 8 ≤ m) = true) : Ret Try.prog 68 ([.int .i8 r, .int .i8 m]) (.bool true) := by
  have c0 := @mregister_ok (r)
  rw [show (regM r) = true from (@reg_yes (r) r0 r1)] at c0
  have c1 := @mregister_ok (m)
  rw [show (regM m) = true from (@reg_yes (m) m0 m1)] at c1
  exact (Ret.of_eval (d := .bool (IntKind.wrap IntKind.i8 (↑(BitVec.toNat (BitVec.ofInt (8 : Nat) (IntKind.wrap IntKind.i8 (↑(BitVec.toNat (BitVec.ofInt (8 : Nat) r ||| BitVec.ofInt (8 : Nat) m)) : Int)) &&& BitVec.ofInt (8 : Nat) (8 : Int))) : Int) != (0 : Int))) mixed Try.func68 (by kernel_rfl) [.ret _ _ _ c0, tT, tT, .ret _ _ _ c1, tT, tT, tT, tT, tT, tT, tT] (by kernel_rfl)).to (by simp only [wk, D.bool.injEq]; rw [need_or r0 r1 m0 m1]; exact hn)

theorem mneeds_f_ok (r m : Int) (r0 : 0 ≤ r) (r1 : r ≤ 15) (m0 : 0 ≤ m) (m1 : m ≤ 15) (hn : decide (8 ≤ r ∨ 8 ≤ m) = false) : Ret Try.prog 68 ([.int .i8 r, .int .i8 m]) (.bool false) := by
  have c0 := @mregister_ok (r)
  rw [show (regM r) = true from (@reg_yes (r) r0 r1)] at c0
  have c1 := @mregister_ok (m)
  rw [show (regM m) = true from (@reg_yes (m) m0 m1)] at c1
  exact (Ret.of_eval (d := .bool (IntKind.wrap IntKind.i8 (↑(BitVec.toNat (BitVec.ofInt (8 : Nat) (IntKind.wrap IntKind.i8 (↑(BitVec.toNat (BitVec.ofInt (8 : Nat) r ||| BitVec.ofInt (8 : Nat) m)) : Int)) &&& BitVec.ofInt (8 : Nat) (8 : Int))) : Int) != (0 : Int))) mixed Try.func68 (by kernel_rfl) [.ret _ _ _ c0, tT, tT, .ret _ _ _ c1, tT, tT, tT, tT, tT, tT, tT] (by kernel_rfl)).to (by simp only [wk, D.bool.injEq]; rw [need_or r0 r1 m0 m1]; exact hn)

end Go.Proofs.Ytkannibhndjgeaa
