/- Contracts: rows of registers as bits. -/
import Derived.Test.YtkannibhndjgeaaXBytes2
import Derived.Test.YtkannibhndjgeaaMdW
namespace Go.Proofs.Ytkannibhndjgeaa
open Go Go.Ev
set_option maxRecDepth 100000
set_option maxHeartbeats 8000000
set_option linter.unusedVariables false
set_option linter.unusedSimpArgs false
theorem set1_ok (a : Int) (a0 : 0 ≤ a) (a1 : a ≤ 15) : Ret Try.prog 36 ([.lst .tight 1 [.int .i8 a]]) (.int .i64 (sh8 a)) := by
  exact (Ret.of_eval (d := D.int IntKind.i64 (IntKind.wrap IntKind.i64 (↑(BitVec.toNat (BitVec.ofInt (64 : Nat) (0 : Int) ||| BitVec.ofInt (64 : Nat) (IntKind.wrap IntKind.i64 ((1 : Int) * (2 : Int) ^ min (Int.toNat a) (64 : Nat))))) : Int))) mixed Try.func36 (by kernel_rfl) [.go 64, tT, tT, .get ([D.int IntKind.i8 a]) 0 (D.int IntKind.i8 a) rfl, tC (v := true) (leL 0 (decide_eq_false (Int.not_lt.2 a0))), tF] (by kernel_rfl)).to (by simp only [wk, D.int.injEq, true_and]; obtain ⟨n_a, rfl⟩ := fin16 a0 a1; clear a0 a1; revert n_a; decide +kernel)

theorem set2_ok (a : Int) (a0 : 0 ≤ a) (a1 : a ≤ 15) (b : Int) (b0 : 0 ≤ b) (b1 : b ≤ 15) : Ret Try.prog 36 ([.lst .tight 1 [.int .i8 a, .int .i8 b]]) (.int .i64 (or64 (sh8 a) (sh8 b))) := by
  exact (Ret.of_eval (d := D.int IntKind.i64 (IntKind.wrap IntKind.i64 (↑(BitVec.toNat (BitVec.ofInt (64 : Nat) (IntKind.wrap IntKind.i64 (↑(BitVec.toNat (BitVec.ofInt (64 : Nat) (0 : Int) ||| BitVec.ofInt (64 : Nat) (IntKind.wrap IntKind.i64 ((1 : Int) * (2 : Int) ^ min (Int.toNat a) (64 : Nat))))) : Int)) ||| BitVec.ofInt (64 : Nat) (IntKind.wrap IntKind.i64 ((1 : Int) * (2 : Int) ^ min (Int.toNat b) (64 : Nat))))) : Int))) mixed Try.func36 (by kernel_rfl) [.go 64, tT, tT, .get ([D.int IntKind.i8 a, D.int IntKind.i8 b]) 0 (D.int IntKind.i8 a) rfl, tC (v := true) (leL 0 (decide_eq_false (Int.not_lt.2 a0))), tT, tT, .get ([D.int IntKind.i8 a, D.int IntKind.i8 b]) 1 (D.int IntKind.i8 b) rfl, tC (v := true) (leL 0 (decide_eq_false (Int.not_lt.2 b0))), tF] (by kernel_rfl)).to (by simp only [wk, D.int.injEq, true_and]; obtain ⟨n_a, rfl⟩ := fin16 a0 a1; obtain ⟨n_b, rfl⟩ := fin16 b0 b1; clear a0 a1 b0 b1; revert n_a n_b; decide +kernel)

theorem set3_ok (a : Int) (a0 : 0 ≤ a) (a1 : a ≤ 15) : Ret Try.prog 36 ([.lst .tight 1 [.int .i8 a, .int .i8 0, .int .i8 2]]) (.int .i64 (or64 (or64 (sh8 a) (sh8 0)) (sh8 2))) := by
  exact (Ret.of_eval (d := D.int IntKind.i64 (IntKind.wrap IntKind.i64 (↑(BitVec.toNat (BitVec.ofInt (64 : Nat) (IntKind.wrap IntKind.i64 (↑(BitVec.toNat (BitVec.ofInt (64 : Nat) (IntKind.wrap IntKind.i64 (↑(BitVec.toNat (BitVec.ofInt (64 : Nat) (0 : Int) ||| BitVec.ofInt (64 : Nat) (IntKind.wrap IntKind.i64 ((1 : Int) * (2 : Int) ^ min (Int.toNat a) (64 : Nat))))) : Int)) ||| BitVec.ofInt (64 : Nat) (1 : Int))) : Int)) ||| BitVec.ofInt (64 : Nat) (4 : Int))) : Int))) mixed Try.func36 (by kernel_rfl) [.go 64, tT, tT, .get ([D.int IntKind.i8 a, D.int IntKind.i8 (0 : Int), D.int IntKind.i8 (2 : Int)]) 0 (D.int IntKind.i8 a) rfl, tC (v := true) (leL 0 (decide_eq_false (Int.not_lt.2 a0))), tT, tT, .get ([D.int IntKind.i8 a, D.int IntKind.i8 (0 : Int), D.int IntKind.i8 (2 : Int)]) 1 (D.int IntKind.i8 (0 : Int)) rfl, tT, tT, tT, .get ([D.int IntKind.i8 a, D.int IntKind.i8 (0 : Int), D.int IntKind.i8 (2 : Int)]) 2 (D.int IntKind.i8 (2 : Int)) rfl, tT, tF] (by kernel_rfl)).to (by simp only [wk, D.int.injEq, true_and]; obtain ⟨n_a, rfl⟩ := fin16 a0 a1; clear a0 a1; revert n_a; decide +kernel)

end Go.Proofs.Ytkannibhndjgeaa
