/- Contracts: conditions, one by one. -/
import Derived.Test.YtkannibhndjgeaaE0
namespace Go.Proofs.Ytkannibhndjgeaa
open Go Go.Ev
set_option maxRecDepth 100000
set_option maxHeartbeats 8000000
set_option linter.unusedVariables false
set_option linter.unusedSimpArgs false
theorem fmay_0_ok  : Ret Try.prog 73 ([.int .i8 0]) (.bool false) := by
  exact (Ret.of_eval (d := .bool false) mixed Try.func73 (by kernel_rfl) ([tT, tT, tT, tT, .inl, .inl, .inl, .inl, .inl, .inl, .inl, .inl, .inl, .inl, tT, tT] ++ [tT, .get ([D.nilf, D.nilf, D.fn (Fn.func (80 : Nat)) [] [], D.fn (Fn.func (86 : Nat)) [] [D.ptr false (1 : Nat) (0 : Nat)], D.fn (Fn.func (81 : Nat)) [] [], D.fn (Fn.func (86 : Nat)) [] [D.ptr false (2 : Nat) (0 : Nat)], D.fn (Fn.func (84 : Nat)) [] [D.ptr false (3 : Nat) (0 : Nat), D.ptr false (4 : Nat) (0 : Nat)], D.fn (Fn.func (86 : Nat)) [] [D.ptr false (7 : Nat) (0 : Nat)], D.nilf, D.nilf, D.nilf, D.nilf, D.fn (Fn.func (82 : Nat)) [] [], D.fn (Fn.func (86 : Nat)) [] [D.ptr false (8 : Nat) (0 : Nat)], D.fn (Fn.func (84 : Nat)) [] [D.ptr false (9 : Nat) (0 : Nat), D.ptr false (10 : Nat) (0 : Nat)], D.fn (Fn.func (86 : Nat)) [] [D.ptr false (13 : Nat) (0 : Nat)]]) 0 (D.nilf) rfl, tT, tT]) (by kernel_rfl)).to (by ((simp only [wk, wkL, and_true]; repeat' (first | rfl | exact True.intro | apply And.intro)); done))

theorem fmay_1_ok  : Ret Try.prog 73 ([.int .i8 1]) (.bool false) := by
  exact (Ret.of_eval (d := .bool false) mixed Try.func73 (by kernel_rfl) ([tT, tT, tT, tT, .inl, .inl, .inl, .inl, .inl, .inl, .inl, .inl, .inl, .inl, tT, tT] ++ [tT, .get ([D.nilf, D.nilf, D.fn (Fn.func (80 : Nat)) [] [], D.fn (Fn.func (86 : Nat)) [] [D.ptr false (1 : Nat) (0 : Nat)], D.fn (Fn.func (81 : Nat)) [] [], D.fn (Fn.func (86 : Nat)) [] [D.ptr false (2 : Nat) (0 : Nat)], D.fn (Fn.func (84 : Nat)) [] [D.ptr false (3 : Nat) (0 : Nat), D.ptr false (4 : Nat) (0 : Nat)], D.fn (Fn.func (86 : Nat)) [] [D.ptr false (7 : Nat) (0 : Nat)], D.nilf, D.nilf, D.nilf, D.nilf, D.fn (Fn.func (82 : Nat)) [] [], D.fn (Fn.func (86 : Nat)) [] [D.ptr false (8 : Nat) (0 : Nat)], D.fn (Fn.func (84 : Nat)) [] [D.ptr false (9 : Nat) (0 : Nat), D.ptr false (10 : Nat) (0 : Nat)], D.fn (Fn.func (86 : Nat)) [] [D.ptr false (13 : Nat) (0 : Nat)]]) 1 (D.nilf) rfl, tT, tT]) (by kernel_rfl)).to (by ((simp only [wk, wkL, and_true]; repeat' (first | rfl | exact True.intro | apply And.intro)); done))

theorem fmay_2_ok  : Ret Try.prog 73 ([.int .i8 2]) (.bool true) := by
  exact (Ret.of_eval (d := .bool true) mixed Try.func73 (by kernel_rfl) ([tT, tT, tT, tT, .inl, .inl, .inl, .inl, .inl, .inl, .inl, .inl, .inl, .inl, tT, tT] ++ [tT, .get ([D.nilf, D.nilf, D.fn (Fn.func (80 : Nat)) [] [], D.fn (Fn.func (86 : Nat)) [] [D.ptr false (1 : Nat) (0 : Nat)], D.fn (Fn.func (81 : Nat)) [] [], D.fn (Fn.func (86 : Nat)) [] [D.ptr false (2 : Nat) (0 : Nat)], D.fn (Fn.func (84 : Nat)) [] [D.ptr false (3 : Nat) (0 : Nat), D.ptr false (4 : Nat) (0 : Nat)], D.fn (Fn.func (86 : Nat)) [] [D.ptr false (7 : Nat) (0 : Nat)], D.nilf, D.nilf, D.nilf, D.nilf, D.fn (Fn.func (82 : Nat)) [] [], D.fn (Fn.func (86 : Nat)) [] [D.ptr false (8 : Nat) (0 : Nat)], D.fn (Fn.func (84 : Nat)) [] [D.ptr false (9 : Nat) (0 : Nat), D.ptr false (10 : Nat) (0 : Nat)], D.fn (Fn.func (86 : Nat)) [] [D.ptr false (13 : Nat) (0 : Nat)]]) 2 (D.fn (Fn.func (80 : Nat)) [] []) rfl, tT, tT]) (by kernel_rfl)).to (by ((simp only [wk, wkL, and_true]; repeat' (first | rfl | exact True.intro | apply And.intro)); done))

theorem fmay_3_ok  : Ret Try.prog 73 ([.int .i8 3]) (.bool true) := by
  exact (Ret.of_eval (d := .bool true) mixed Try.func73 (by kernel_rfl) ([tT, tT, tT, tT, .inl, .inl, .inl, .inl, .inl, .inl, .inl, .inl, .inl, .inl, tT, tT] ++ [tT, .get ([D.nilf, D.nilf, D.fn (Fn.func (80 : Nat)) [] [], D.fn (Fn.func (86 : Nat)) [] [D.ptr false (1 : Nat) (0 : Nat)], D.fn (Fn.func (81 : Nat)) [] [], D.fn (Fn.func (86 : Nat)) [] [D.ptr false (2 : Nat) (0 : Nat)], D.fn (Fn.func (84 : Nat)) [] [D.ptr false (3 : Nat) (0 : Nat), D.ptr false (4 : Nat) (0 : Nat)], D.fn (Fn.func (86 : Nat)) [] [D.ptr false (7 : Nat) (0 : Nat)], D.nilf, D.nilf, D.nilf, D.nilf, D.fn (Fn.func (82 : Nat)) [] [], D.fn (Fn.func (86 : Nat)) [] [D.ptr false (8 : Nat) (0 : Nat)], D.fn (Fn.func (84 : Nat)) [] [D.ptr false (9 : Nat) (0 : Nat), D.ptr false (10 : Nat) (0 : Nat)], D.fn (Fn.func (86 : Nat)) [] [D.ptr false (13 : Nat) (0 : Nat)]]) 3 (D.fn (Fn.func (86 : Nat)) [] [D.ptr false (1 : Nat) (0 : Nat)]) rfl, tT, tT]) (by kernel_rfl)).to (by ((simp only [wk, wkL, and_true]; repeat' (first | rfl | exact True.intro | apply And.intro)); done))

theorem fmay_4_ok  : Ret Try.prog 73 ([.int .i8 4]) (.bool true) := by
  exact (Ret.of_eval (d := .bool true) mixed Try.func73 (by kernel_rfl) ([tT, tT, tT, tT, .inl, .inl, .inl, .inl, .inl, .inl, .inl, .inl, .inl, .inl, tT, tT] ++ [tT, .get ([D.nilf, D.nilf, D.fn (Fn.func (80 : Nat)) [] [], D.fn (Fn.func (86 : Nat)) [] [D.ptr false (1 : Nat) (0 : Nat)], D.fn (Fn.func (81 : Nat)) [] [], D.fn (Fn.func (86 : Nat)) [] [D.ptr false (2 : Nat) (0 : Nat)], D.fn (Fn.func (84 : Nat)) [] [D.ptr false (3 : Nat) (0 : Nat), D.ptr false (4 : Nat) (0 : Nat)], D.fn (Fn.func (86 : Nat)) [] [D.ptr false (7 : Nat) (0 : Nat)], D.nilf, D.nilf, D.nilf, D.nilf, D.fn (Fn.func (82 : Nat)) [] [], D.fn (Fn.func (86 : Nat)) [] [D.ptr false (8 : Nat) (0 : Nat)], D.fn (Fn.func (84 : Nat)) [] [D.ptr false (9 : Nat) (0 : Nat), D.ptr false (10 : Nat) (0 : Nat)], D.fn (Fn.func (86 : Nat)) [] [D.ptr false (13 : Nat) (0 : Nat)]]) 4 (D.fn (Fn.func (81 : Nat)) [] []) rfl, tT, tT]) (by kernel_rfl)).to (by ((simp only [wk, wkL, and_true]; repeat' (first | rfl | exact True.intro | apply And.intro)); done))

theorem fmay_5_ok  : Ret Try.prog 73 ([.int .i8 5]) (.bool true) := by
  exact (Ret.of_eval (d := .bool true) mixed Try.func73 (by kernel_rfl) ([tT, tT, tT, tT, .inl, .inl, .inl, .inl, .inl, .inl, .inl, .inl, .inl, .inl, tT, tT] ++ [tT, .get ([D.nilf, D.nilf, D.fn (Fn.func (80 : Nat)) [] [], D.fn (Fn.func (86 : Nat)) [] [D.ptr false (1 : Nat) (0 : Nat)], D.fn (Fn.func (81 : Nat)) [] [], D.fn (Fn.func (86 : Nat)) [] [D.ptr false (2 : Nat) (0 : Nat)], D.fn (Fn.func (84 : Nat)) [] [D.ptr false (3 : Nat) (0 : Nat), D.ptr false (4 : Nat) (0 : Nat)], D.fn (Fn.func (86 : Nat)) [] [D.ptr false (7 : Nat) (0 : Nat)], D.nilf, D.nilf, D.nilf, D.nilf, D.fn (Fn.func (82 : Nat)) [] [], D.fn (Fn.func (86 : Nat)) [] [D.ptr false (8 : Nat) (0 : Nat)], D.fn (Fn.func (84 : Nat)) [] [D.ptr false (9 : Nat) (0 : Nat), D.ptr false (10 : Nat) (0 : Nat)], D.fn (Fn.func (86 : Nat)) [] [D.ptr false (13 : Nat) (0 : Nat)]]) 5 (D.fn (Fn.func (86 : Nat)) [] [D.ptr false (2 : Nat) (0 : Nat)]) rfl, tT, tT]) (by kernel_rfl)).to (by ((simp only [wk, wkL, and_true]; repeat' (first | rfl | exact True.intro | apply And.intro)); done))

theorem fmay_6_ok  : Ret Try.prog 73 ([.int .i8 6]) (.bool true) := by
  exact (Ret.of_eval (d := .bool true) mixed Try.func73 (by kernel_rfl) ([tT, tT, tT, tT, .inl, .inl, .inl, .inl, .inl, .inl, .inl, .inl, .inl, .inl, tT, tT] ++ [tT, .get ([D.nilf, D.nilf, D.fn (Fn.func (80 : Nat)) [] [], D.fn (Fn.func (86 : Nat)) [] [D.ptr false (1 : Nat) (0 : Nat)], D.fn (Fn.func (81 : Nat)) [] [], D.fn (Fn.func (86 : Nat)) [] [D.ptr false (2 : Nat) (0 : Nat)], D.fn (Fn.func (84 : Nat)) [] [D.ptr false (3 : Nat) (0 : Nat), D.ptr false (4 : Nat) (0 : Nat)], D.fn (Fn.func (86 : Nat)) [] [D.ptr false (7 : Nat) (0 : Nat)], D.nilf, D.nilf, D.nilf, D.nilf, D.fn (Fn.func (82 : Nat)) [] [], D.fn (Fn.func (86 : Nat)) [] [D.ptr false (8 : Nat) (0 : Nat)], D.fn (Fn.func (84 : Nat)) [] [D.ptr false (9 : Nat) (0 : Nat), D.ptr false (10 : Nat) (0 : Nat)], D.fn (Fn.func (86 : Nat)) [] [D.ptr false (13 : Nat) (0 : Nat)]]) 6 (D.fn (Fn.func (84 : Nat)) [] [D.ptr false (3 : Nat) (0 : Nat), D.ptr false (4 : Nat) (0 : Nat)]) rfl, tT, tT]) (by kernel_rfl)).to (by ((simp only [wk, wkL, and_true]; repeat' (first | rfl | exact True.intro | apply And.intro)); done))

theorem fmay_7_ok  : Ret Try.prog 73 ([.int .i8 7]) (.bool true) := by
  exact (Ret.of_eval (d := .bool true) mixed Try.func73 (by kernel_rfl) ([tT, tT, tT, tT, .inl, .inl, .inl, .inl, .inl, .inl, .inl, .inl, .inl, .inl, tT, tT] ++ [tT, .get ([D.nilf, D.nilf, D.fn (Fn.func (80 : Nat)) [] [], D.fn (Fn.func (86 : Nat)) [] [D.ptr false (1 : Nat) (0 : Nat)], D.fn (Fn.func (81 : Nat)) [] [], D.fn (Fn.func (86 : Nat)) [] [D.ptr false (2 : Nat) (0 : Nat)], D.fn (Fn.func (84 : Nat)) [] [D.ptr false (3 : Nat) (0 : Nat), D.ptr false (4 : Nat) (0 : Nat)], D.fn (Fn.func (86 : Nat)) [] [D.ptr false (7 : Nat) (0 : Nat)], D.nilf, D.nilf, D.nilf, D.nilf, D.fn (Fn.func (82 : Nat)) [] [], D.fn (Fn.func (86 : Nat)) [] [D.ptr false (8 : Nat) (0 : Nat)], D.fn (Fn.func (84 : Nat)) [] [D.ptr false (9 : Nat) (0 : Nat), D.ptr false (10 : Nat) (0 : Nat)], D.fn (Fn.func (86 : Nat)) [] [D.ptr false (13 : Nat) (0 : Nat)]]) 7 (D.fn (Fn.func (86 : Nat)) [] [D.ptr false (7 : Nat) (0 : Nat)]) rfl, tT, tT]) (by kernel_rfl)).to (by ((simp only [wk, wkL, and_true]; repeat' (first | rfl | exact True.intro | apply And.intro)); done))

theorem fmay_8_ok  : Ret Try.prog 73 ([.int .i8 8]) (.bool false) := by
  exact (Ret.of_eval (d := .bool false) mixed Try.func73 (by kernel_rfl) ([tT, tT, tT, tT, .inl, .inl, .inl, .inl, .inl, .inl, .inl, .inl, .inl, .inl, tT, tT] ++ [tT, .get ([D.nilf, D.nilf, D.fn (Fn.func (80 : Nat)) [] [], D.fn (Fn.func (86 : Nat)) [] [D.ptr false (1 : Nat) (0 : Nat)], D.fn (Fn.func (81 : Nat)) [] [], D.fn (Fn.func (86 : Nat)) [] [D.ptr false (2 : Nat) (0 : Nat)], D.fn (Fn.func (84 : Nat)) [] [D.ptr false (3 : Nat) (0 : Nat), D.ptr false (4 : Nat) (0 : Nat)], D.fn (Fn.func (86 : Nat)) [] [D.ptr false (7 : Nat) (0 : Nat)], D.nilf, D.nilf, D.nilf, D.nilf, D.fn (Fn.func (82 : Nat)) [] [], D.fn (Fn.func (86 : Nat)) [] [D.ptr false (8 : Nat) (0 : Nat)], D.fn (Fn.func (84 : Nat)) [] [D.ptr false (9 : Nat) (0 : Nat), D.ptr false (10 : Nat) (0 : Nat)], D.fn (Fn.func (86 : Nat)) [] [D.ptr false (13 : Nat) (0 : Nat)]]) 8 (D.nilf) rfl, tT, tT]) (by kernel_rfl)).to (by ((simp only [wk, wkL, and_true]; repeat' (first | rfl | exact True.intro | apply And.intro)); done))

theorem fmay_9_ok  : Ret Try.prog 73 ([.int .i8 9]) (.bool false) := by
  exact (Ret.of_eval (d := .bool false) mixed Try.func73 (by kernel_rfl) ([tT, tT, tT, tT, .inl, .inl, .inl, .inl, .inl, .inl, .inl, .inl, .inl, .inl, tT, tT] ++ [tT, .get ([D.nilf, D.nilf, D.fn (Fn.func (80 : Nat)) [] [], D.fn (Fn.func (86 : Nat)) [] [D.ptr false (1 : Nat) (0 : Nat)], D.fn (Fn.func (81 : Nat)) [] [], D.fn (Fn.func (86 : Nat)) [] [D.ptr false (2 : Nat) (0 : Nat)], D.fn (Fn.func (84 : Nat)) [] [D.ptr false (3 : Nat) (0 : Nat), D.ptr false (4 : Nat) (0 : Nat)], D.fn (Fn.func (86 : Nat)) [] [D.ptr false (7 : Nat) (0 : Nat)], D.nilf, D.nilf, D.nilf, D.nilf, D.fn (Fn.func (82 : Nat)) [] [], D.fn (Fn.func (86 : Nat)) [] [D.ptr false (8 : Nat) (0 : Nat)], D.fn (Fn.func (84 : Nat)) [] [D.ptr false (9 : Nat) (0 : Nat), D.ptr false (10 : Nat) (0 : Nat)], D.fn (Fn.func (86 : Nat)) [] [D.ptr false (13 : Nat) (0 : Nat)]]) 9 (D.nilf) rfl, tT, tT]) (by kernel_rfl)).to (by ((simp only [wk, wkL, and_true]; repeat' (first | rfl | exact True.intro | apply And.intro)); done))

theorem fmay_10_ok  : Ret Try.prog 73 ([.int .i8 10]) (.bool false) := by
  exact (Ret.of_eval (d := .bool false) mixed Try.func73 (by kernel_rfl) ([tT, tT, tT, tT, .inl, .inl, .inl, .inl, .inl, .inl, .inl, .inl, .inl, .inl, tT, tT] ++ [tT, .get ([D.nilf, D.nilf, D.fn (Fn.func (80 : Nat)) [] [], D.fn (Fn.func (86 : Nat)) [] [D.ptr false (1 : Nat) (0 : Nat)], D.fn (Fn.func (81 : Nat)) [] [], D.fn (Fn.func (86 : Nat)) [] [D.ptr false (2 : Nat) (0 : Nat)], D.fn (Fn.func (84 : Nat)) [] [D.ptr false (3 : Nat) (0 : Nat), D.ptr false (4 : Nat) (0 : Nat)], D.fn (Fn.func (86 : Nat)) [] [D.ptr false (7 : Nat) (0 : Nat)], D.nilf, D.nilf, D.nilf, D.nilf, D.fn (Fn.func (82 : Nat)) [] [], D.fn (Fn.func (86 : Nat)) [] [D.ptr false (8 : Nat) (0 : Nat)], D.fn (Fn.func (84 : Nat)) [] [D.ptr false (9 : Nat) (0 : Nat), D.ptr false (10 : Nat) (0 : Nat)], D.fn (Fn.func (86 : Nat)) [] [D.ptr false (13 : Nat) (0 : Nat)]]) 10 (D.nilf) rfl, tT, tT]) (by kernel_rfl)).to (by ((simp only [wk, wkL, and_true]; repeat' (first | rfl | exact True.intro | apply And.intro)); done))

theorem fmay_11_ok  : Ret Try.prog 73 ([.int .i8 11]) (.bool false) := by
  exact (Ret.of_eval (d := .bool false) mixed Try.func73 (by kernel_rfl) ([tT, tT, tT, tT, .inl, .inl, .inl, .inl, .inl, .inl, .inl, .inl, .inl, .inl, tT, tT] ++ [tT, .get ([D.nilf, D.nilf, D.fn (Fn.func (80 : Nat)) [] [], D.fn (Fn.func (86 : Nat)) [] [D.ptr false (1 : Nat) (0 : Nat)], D.fn (Fn.func (81 : Nat)) [] [], D.fn (Fn.func (86 : Nat)) [] [D.ptr false (2 : Nat) (0 : Nat)], D.fn (Fn.func (84 : Nat)) [] [D.ptr false (3 : Nat) (0 : Nat), D.ptr false (4 : Nat) (0 : Nat)], D.fn (Fn.func (86 : Nat)) [] [D.ptr false (7 : Nat) (0 : Nat)], D.nilf, D.nilf, D.nilf, D.nilf, D.fn (Fn.func (82 : Nat)) [] [], D.fn (Fn.func (86 : Nat)) [] [D.ptr false (8 : Nat) (0 : Nat)], D.fn (Fn.func (84 : Nat)) [] [D.ptr false (9 : Nat) (0 : Nat), D.ptr false (10 : Nat) (0 : Nat)], D.fn (Fn.func (86 : Nat)) [] [D.ptr false (13 : Nat) (0 : Nat)]]) 11 (D.nilf) rfl, tT, tT]) (by kernel_rfl)).to (by ((simp only [wk, wkL, and_true]; repeat' (first | rfl | exact True.intro | apply And.intro)); done))

theorem fmay_12_ok  : Ret Try.prog 73 ([.int .i8 12]) (.bool true) := by
  exact (Ret.of_eval (d := .bool true) mixed Try.func73 (by kernel_rfl) ([tT, tT, tT, tT, .inl, .inl, .inl, .inl, .inl, .inl, .inl, .inl, .inl, .inl, tT, tT] ++ [tT, .get ([D.nilf, D.nilf, D.fn (Fn.func (80 : Nat)) [] [], D.fn (Fn.func (86 : Nat)) [] [D.ptr false (1 : Nat) (0 : Nat)], D.fn (Fn.func (81 : Nat)) [] [], D.fn (Fn.func (86 : Nat)) [] [D.ptr false (2 : Nat) (0 : Nat)], D.fn (Fn.func (84 : Nat)) [] [D.ptr false (3 : Nat) (0 : Nat), D.ptr false (4 : Nat) (0 : Nat)], D.fn (Fn.func (86 : Nat)) [] [D.ptr false (7 : Nat) (0 : Nat)], D.nilf, D.nilf, D.nilf, D.nilf, D.fn (Fn.func (82 : Nat)) [] [], D.fn (Fn.func (86 : Nat)) [] [D.ptr false (8 : Nat) (0 : Nat)], D.fn (Fn.func (84 : Nat)) [] [D.ptr false (9 : Nat) (0 : Nat), D.ptr false (10 : Nat) (0 : Nat)], D.fn (Fn.func (86 : Nat)) [] [D.ptr false (13 : Nat) (0 : Nat)]]) 12 (D.fn (Fn.func (82 : Nat)) [] []) rfl, tT, tT]) (by kernel_rfl)).to (by ((simp only [wk, wkL, and_true]; repeat' (first | rfl | exact True.intro | apply And.intro)); done))

theorem fmay_13_ok  : Ret Try.prog 73 ([.int .i8 13]) (.bool true) := by
  exact (Ret.of_eval (d := .bool true) mixed Try.func73 (by kernel_rfl) ([tT, tT, tT, tT, .inl, .inl, .inl, .inl, .inl, .inl, .inl, .inl, .inl, .inl, tT, tT] ++ [tT, .get ([D.nilf, D.nilf, D.fn (Fn.func (80 : Nat)) [] [], D.fn (Fn.func (86 : Nat)) [] [D.ptr false (1 : Nat) (0 : Nat)], D.fn (Fn.func (81 : Nat)) [] [], D.fn (Fn.func (86 : Nat)) [] [D.ptr false (2 : Nat) (0 : Nat)], D.fn (Fn.func (84 : Nat)) [] [D.ptr false (3 : Nat) (0 : Nat), D.ptr false (4 : Nat) (0 : Nat)], D.fn (Fn.func (86 : Nat)) [] [D.ptr false (7 : Nat) (0 : Nat)], D.nilf, D.nilf, D.nilf, D.nilf, D.fn (Fn.func (82 : Nat)) [] [], D.fn (Fn.func (86 : Nat)) [] [D.ptr false (8 : Nat) (0 : Nat)], D.fn (Fn.func (84 : Nat)) [] [D.ptr false (9 : Nat) (0 : Nat), D.ptr false (10 : Nat) (0 : Nat)], D.fn (Fn.func (86 : Nat)) [] [D.ptr false (13 : Nat) (0 : Nat)]]) 13 (D.fn (Fn.func (86 : Nat)) [] [D.ptr false (8 : Nat) (0 : Nat)]) rfl, tT, tT]) (by kernel_rfl)).to (by ((simp only [wk, wkL, and_true]; repeat' (first | rfl | exact True.intro | apply And.intro)); done))

theorem fmay_14_ok  : Ret Try.prog 73 ([.int .i8 14]) (.bool true) := by
  exact (Ret.of_eval (d := .bool true) mixed Try.func73 (by kernel_rfl) ([tT, tT, tT, tT, .inl, .inl, .inl, .inl, .inl, .inl, .inl, .inl, .inl, .inl, tT, tT] ++ [tT, .get ([D.nilf, D.nilf, D.fn (Fn.func (80 : Nat)) [] [], D.fn (Fn.func (86 : Nat)) [] [D.ptr false (1 : Nat) (0 : Nat)], D.fn (Fn.func (81 : Nat)) [] [], D.fn (Fn.func (86 : Nat)) [] [D.ptr false (2 : Nat) (0 : Nat)], D.fn (Fn.func (84 : Nat)) [] [D.ptr false (3 : Nat) (0 : Nat), D.ptr false (4 : Nat) (0 : Nat)], D.fn (Fn.func (86 : Nat)) [] [D.ptr false (7 : Nat) (0 : Nat)], D.nilf, D.nilf, D.nilf, D.nilf, D.fn (Fn.func (82 : Nat)) [] [], D.fn (Fn.func (86 : Nat)) [] [D.ptr false (8 : Nat) (0 : Nat)], D.fn (Fn.func (84 : Nat)) [] [D.ptr false (9 : Nat) (0 : Nat), D.ptr false (10 : Nat) (0 : Nat)], D.fn (Fn.func (86 : Nat)) [] [D.ptr false (13 : Nat) (0 : Nat)]]) 14 (D.fn (Fn.func (84 : Nat)) [] [D.ptr false (9 : Nat) (0 : Nat), D.ptr false (10 : Nat) (0 : Nat)]) rfl, tT, tT]) (by kernel_rfl)).to (by ((simp only [wk, wkL, and_true]; repeat' (first | rfl | exact True.intro | apply And.intro)); done))

theorem fmay_15_ok  : Ret Try.prog 73 ([.int .i8 15]) (.bool true) := by
  exact (Ret.of_eval (d := .bool true) mixed Try.func73 (by kernel_rfl) ([tT, tT, tT, tT, .inl, .inl, .inl, .inl, .inl, .inl, .inl, .inl, .inl, .inl, tT, tT] ++ [tT, .get ([D.nilf, D.nilf, D.fn (Fn.func (80 : Nat)) [] [], D.fn (Fn.func (86 : Nat)) [] [D.ptr false (1 : Nat) (0 : Nat)], D.fn (Fn.func (81 : Nat)) [] [], D.fn (Fn.func (86 : Nat)) [] [D.ptr false (2 : Nat) (0 : Nat)], D.fn (Fn.func (84 : Nat)) [] [D.ptr false (3 : Nat) (0 : Nat), D.ptr false (4 : Nat) (0 : Nat)], D.fn (Fn.func (86 : Nat)) [] [D.ptr false (7 : Nat) (0 : Nat)], D.nilf, D.nilf, D.nilf, D.nilf, D.fn (Fn.func (82 : Nat)) [] [], D.fn (Fn.func (86 : Nat)) [] [D.ptr false (8 : Nat) (0 : Nat)], D.fn (Fn.func (84 : Nat)) [] [D.ptr false (9 : Nat) (0 : Nat), D.ptr false (10 : Nat) (0 : Nat)], D.fn (Fn.func (86 : Nat)) [] [D.ptr false (13 : Nat) (0 : Nat)]]) 15 (D.fn (Fn.func (86 : Nat)) [] [D.ptr false (13 : Nat) (0 : Nat)]) rfl, tT, tT]) (by kernel_rfl)).to (by ((simp only [wk, wkL, and_true]; repeat' (first | rfl | exact True.intro | apply And.intro)); done))

theorem fmay_out_ok (cc : Int) (h : decide (0 ≤ cc ∧ cc ≤ 15) = false) : Ret Try.prog 73 ([.int .i8 cc]) (.bool false) := by
  rcases Bool.eq_false_or_eq_true (decide (cc < (0 : Int))) with h0 | h0
  · skip
    exact (Ret.of_eval (d := .bool false) mixed Try.func73 (by kernel_rfl) [tC (eT (leL 0 h0)), tC (eT (leL 0 h0)), tC (leL 0 h0), tF, tF, tF, tF, tF] (by kernel_rfl)).to (by simp [wk])
  · skip
    exact (Ret.of_eval (d := .bool false) mixed Try.func73 (by kernel_rfl) [tC (eT (leL 0 h0)), tC (eT (leL 0 h0)), tC (leL 0 h0), tC (eT (by (simp only [w_i8, w_u8, w_i64, w_u64, decide_eq_true_eq, decide_eq_false_iff_not, beq_iff_eq, bne_iff_ne, beq_eq_false_iff_ne, bne_eq_false_iff_eq, Bool.not_eq_true', Bool.not_eq_false', Bool.and_eq_true, Bool.or_eq_true] at *; omega) : (decide (cc < (16 : Int))) = false)), tC (eT (by (simp only [w_i8, w_u8, w_i64, w_u64, decide_eq_true_eq, decide_eq_false_iff_not, beq_iff_eq, bne_iff_ne, beq_eq_false_iff_ne, bne_eq_false_iff_eq, Bool.not_eq_true', Bool.not_eq_false', Bool.and_eq_true, Bool.or_eq_true] at *; omega) : (decide (cc < (16 : Int))) = false)), tC (eT (by (simp only [w_i8, w_u8, w_i64, w_u64, decide_eq_true_eq, decide_eq_false_iff_not, beq_iff_eq, bne_iff_ne, beq_eq_false_iff_ne, bne_eq_false_iff_eq, Bool.not_eq_true', Bool.not_eq_false', Bool.and_eq_true, Bool.or_eq_true] at *; omega) : (decide (cc < (16 : Int))) = false)), tC (eT (by (simp only [w_i8, w_u8, w_i64, w_u64, decide_eq_true_eq, decide_eq_false_iff_not, beq_iff_eq, bne_iff_ne, beq_eq_false_iff_ne, bne_eq_false_iff_eq, Bool.not_eq_true', Bool.not_eq_false', Bool.and_eq_true, Bool.or_eq_true] at *; omega) : (decide (cc < (16 : Int))) = false)), tC (by (simp only [w_i8, w_u8, w_i64, w_u64, decide_eq_true_eq, decide_eq_false_iff_not, beq_iff_eq, bne_iff_ne, beq_eq_false_iff_ne, bne_eq_false_iff_eq, Bool.not_eq_true', Bool.not_eq_false', Bool.and_eq_true, Bool.or_eq_true] at *; omega) : (decide (cc < (16 : Int))) = false)] (by kernel_rfl)).to (by simp [wk])

theorem fholds_2_ok (c z s o : Bool) : Ret Try.prog 66 ([.int .i8 2, fD true c z s o]) (.tup [.bool (holdM 2 c z s o), .int .i64 0]) := by
  have c0 := @fmay_2_ok
  have c1 := @fnone_ok
  exact (Ret.of_eval (d := .tup [.bool c, .int .i64 0]) mixed Try.func66 (by kernel_rfl) ([.ret _ _ _ c0, tF, .ret _ _ _ c1, .flat _ _ flat_Flags, tT, tT, tT, tF, tF, .inl, .inl, .inl, .inl, .inl, .inl, .inl] ++ [.inl, .inl, .inl, .keep [], .keep [(0, Ob.box [.bool true, .bool c, .bool z, .bool s, .bool o])], tT, .get ([D.nilf, D.nilf, D.fn (Fn.func (80 : Nat)) [] [], D.fn (Fn.func (86 : Nat)) [] [D.ptr false (4 : Nat) (0 : Nat)], D.fn (Fn.func (81 : Nat)) [] [], D.fn (Fn.func (86 : Nat)) [] [D.ptr false (5 : Nat) (0 : Nat)], D.fn (Fn.func (84 : Nat)) [] [D.ptr false (6 : Nat) (0 : Nat), D.ptr false (7 : Nat) (0 : Nat)], D.fn (Fn.func (86 : Nat)) [] [D.ptr false (10 : Nat) (0 : Nat)], D.nilf, D.nilf, D.nilf, D.nilf, D.fn (Fn.func (82 : Nat)) [] [], D.fn (Fn.func (86 : Nat)) [] [D.ptr false (11 : Nat) (0 : Nat)], D.fn (Fn.func (84 : Nat)) [] [D.ptr false (12 : Nat) (0 : Nat), D.ptr false (13 : Nat) (0 : Nat)], D.fn (Fn.func (86 : Nat)) [] [D.ptr false (16 : Nat) (0 : Nat)]]) 2 (D.fn (Fn.func (80 : Nat)) [] []) rfl, .inl]) (by kernel_rfl)).to (by (try cases c) <;> (try cases z) <;> (try cases s) <;> (try cases o) <;> first | (simp [wk, wkL, holdM]; done) | rfl | exact ⟨rfl, rfl, trivial⟩)

theorem fholds_n2_ok (c z s o : Bool) : Ret Try.prog 66 ([.int .i8 2, fD false c z s o]) (.tup [.bool false, .int .i64 20]) := by
  have c0 := @fmay_2_ok
  have c1 := @fnone_ok
  cases c
  · skip
    cases z
    · skip
      cases s
      · skip
        cases o
        · skip
          exact (Ret.of_eval (d := .tup [.bool false, .int .i64 20]) mixed Try.func66 (by kernel_rfl) [.ret _ _ _ c0, tF, .ret _ _ _ c1, .flat _ _ flat_Flags, tF, tF, tF, tT, tT] (by kernel_rfl)).to (by simp [wk, wkL])
        · skip
          exact (Ret.of_eval (d := .tup [.bool false, .int .i64 20]) mixed Try.func66 (by kernel_rfl) [.ret _ _ _ c0, tF, .ret _ _ _ c1, .flat _ _ flat_Flags, tT, tT, tT, tF, tT] (by kernel_rfl)).to (by simp [wk, wkL])
      · skip
        exact (Ret.of_eval (d := .tup [.bool false, .int .i64 20]) mixed Try.func66 (by kernel_rfl) [.ret _ _ _ c0, tF, .ret _ _ _ c1, .flat _ _ flat_Flags, tT, tT, tT, tF, tT] (by kernel_rfl)).to (by simp [wk, wkL])
    · skip
      exact (Ret.of_eval (d := .tup [.bool false, .int .i64 20]) mixed Try.func66 (by kernel_rfl) [.ret _ _ _ c0, tF, .ret _ _ _ c1, .flat _ _ flat_Flags, tT, tT, tT, tF, tT] (by kernel_rfl)).to (by simp [wk, wkL])
  · skip
    exact (Ret.of_eval (d := .tup [.bool false, .int .i64 20]) mixed Try.func66 (by kernel_rfl) [.ret _ _ _ c0, tF, .ret _ _ _ c1, .flat _ _ flat_Flags, tT, tT, tT, tF, tT] (by kernel_rfl)).to (by simp [wk, wkL])

theorem fholds_3_ok (c z s o : Bool) : Ret Try.prog 66 ([.int .i8 3, fD true c z s o]) (.tup [.bool (holdM 3 c z s o), .int .i64 0]) := by
  have c0 := @fmay_3_ok
  have c1 := @fnone_ok
  exact (Ret.of_eval (d := .tup [.bool !c, .int .i64 0]) mixed Try.func66 (by kernel_rfl) ([.ret _ _ _ c0, tF, .ret _ _ _ c1, .flat _ _ flat_Flags, tT, tT, tT, tF, tF, .inl, .inl, .inl, .inl, .inl, .inl, .inl] ++ [.inl, .inl, .inl, .keep [], .keep [(0, Ob.box [.bool true, .bool c, .bool z, .bool s, .bool o])], tT, .get ([D.nilf, D.nilf, D.fn (Fn.func (80 : Nat)) [] [], D.fn (Fn.func (86 : Nat)) [] [D.ptr false (4 : Nat) (0 : Nat)], D.fn (Fn.func (81 : Nat)) [] [], D.fn (Fn.func (86 : Nat)) [] [D.ptr false (5 : Nat) (0 : Nat)], D.fn (Fn.func (84 : Nat)) [] [D.ptr false (6 : Nat) (0 : Nat), D.ptr false (7 : Nat) (0 : Nat)], D.fn (Fn.func (86 : Nat)) [] [D.ptr false (10 : Nat) (0 : Nat)], D.nilf, D.nilf, D.nilf, D.nilf, D.fn (Fn.func (82 : Nat)) [] [], D.fn (Fn.func (86 : Nat)) [] [D.ptr false (11 : Nat) (0 : Nat)], D.fn (Fn.func (84 : Nat)) [] [D.ptr false (12 : Nat) (0 : Nat), D.ptr false (13 : Nat) (0 : Nat)], D.fn (Fn.func (86 : Nat)) [] [D.ptr false (16 : Nat) (0 : Nat)]]) 3 (D.fn (Fn.func (86 : Nat)) [] [D.ptr false (4 : Nat) (0 : Nat)]) rfl, .inl, .inl]) (by kernel_rfl)).to (by (try cases c) <;> (try cases z) <;> (try cases s) <;> (try cases o) <;> first | (simp [wk, wkL, holdM]; done) | rfl | exact ⟨rfl, rfl, trivial⟩)

theorem fholds_n3_ok (c z s o : Bool) : Ret Try.prog 66 ([.int .i8 3, fD false c z s o]) (.tup [.bool false, .int .i64 20]) := by
  have c0 := @fmay_3_ok
  have c1 := @fnone_ok
  cases c
  · skip
    cases z
    · skip
      cases s
      · skip
        cases o
        · skip
          exact (Ret.of_eval (d := .tup [.bool false, .int .i64 20]) mixed Try.func66 (by kernel_rfl) [.ret _ _ _ c0, tF, .ret _ _ _ c1, .flat _ _ flat_Flags, tF, tF, tF, tT, tT] (by kernel_rfl)).to (by simp [wk, wkL])
        · skip
          exact (Ret.of_eval (d := .tup [.bool false, .int .i64 20]) mixed Try.func66 (by kernel_rfl) [.ret _ _ _ c0, tF, .ret _ _ _ c1, .flat _ _ flat_Flags, tT, tT, tT, tF, tT] (by kernel_rfl)).to (by simp [wk, wkL])
      · skip
        exact (Ret.of_eval (d := .tup [.bool false, .int .i64 20]) mixed Try.func66 (by kernel_rfl) [.ret _ _ _ c0, tF, .ret _ _ _ c1, .flat _ _ flat_Flags, tT, tT, tT, tF, tT] (by kernel_rfl)).to (by simp [wk, wkL])
    · skip
      exact (Ret.of_eval (d := .tup [.bool false, .int .i64 20]) mixed Try.func66 (by kernel_rfl) [.ret _ _ _ c0, tF, .ret _ _ _ c1, .flat _ _ flat_Flags, tT, tT, tT, tF, tT] (by kernel_rfl)).to (by simp [wk, wkL])
  · skip
    exact (Ret.of_eval (d := .tup [.bool false, .int .i64 20]) mixed Try.func66 (by kernel_rfl) [.ret _ _ _ c0, tF, .ret _ _ _ c1, .flat _ _ flat_Flags, tT, tT, tT, tF, tT] (by kernel_rfl)).to (by simp [wk, wkL])

theorem fholds_4_ok (c z s o : Bool) : Ret Try.prog 66 ([.int .i8 4, fD true c z s o]) (.tup [.bool (holdM 4 c z s o), .int .i64 0]) := by
  have c0 := @fmay_4_ok
  have c1 := @fnone_ok
  exact (Ret.of_eval (d := .tup [.bool z, .int .i64 0]) mixed Try.func66 (by kernel_rfl) ([.ret _ _ _ c0, tF, .ret _ _ _ c1, .flat _ _ flat_Flags, tT, tT, tT, tF, tF, .inl, .inl, .inl, .inl, .inl, .inl, .inl] ++ [.inl, .inl, .inl, .keep [], .keep [(0, Ob.box [.bool true, .bool c, .bool z, .bool s, .bool o])], tT, .get ([D.nilf, D.nilf, D.fn (Fn.func (80 : Nat)) [] [], D.fn (Fn.func (86 : Nat)) [] [D.ptr false (4 : Nat) (0 : Nat)], D.fn (Fn.func (81 : Nat)) [] [], D.fn (Fn.func (86 : Nat)) [] [D.ptr false (5 : Nat) (0 : Nat)], D.fn (Fn.func (84 : Nat)) [] [D.ptr false (6 : Nat) (0 : Nat), D.ptr false (7 : Nat) (0 : Nat)], D.fn (Fn.func (86 : Nat)) [] [D.ptr false (10 : Nat) (0 : Nat)], D.nilf, D.nilf, D.nilf, D.nilf, D.fn (Fn.func (82 : Nat)) [] [], D.fn (Fn.func (86 : Nat)) [] [D.ptr false (11 : Nat) (0 : Nat)], D.fn (Fn.func (84 : Nat)) [] [D.ptr false (12 : Nat) (0 : Nat), D.ptr false (13 : Nat) (0 : Nat)], D.fn (Fn.func (86 : Nat)) [] [D.ptr false (16 : Nat) (0 : Nat)]]) 4 (D.fn (Fn.func (81 : Nat)) [] []) rfl, .inl]) (by kernel_rfl)).to (by (try cases c) <;> (try cases z) <;> (try cases s) <;> (try cases o) <;> first | (simp [wk, wkL, holdM]; done) | rfl | exact ⟨rfl, rfl, trivial⟩)

theorem fholds_n4_ok (c z s o : Bool) : Ret Try.prog 66 ([.int .i8 4, fD false c z s o]) (.tup [.bool false, .int .i64 20]) := by
  have c0 := @fmay_4_ok
  have c1 := @fnone_ok
  cases c
  · skip
    cases z
    · skip
      cases s
      · skip
        cases o
        · skip
          exact (Ret.of_eval (d := .tup [.bool false, .int .i64 20]) mixed Try.func66 (by kernel_rfl) [.ret _ _ _ c0, tF, .ret _ _ _ c1, .flat _ _ flat_Flags, tF, tF, tF, tT, tT] (by kernel_rfl)).to (by simp [wk, wkL])
        · skip
          exact (Ret.of_eval (d := .tup [.bool false, .int .i64 20]) mixed Try.func66 (by kernel_rfl) [.ret _ _ _ c0, tF, .ret _ _ _ c1, .flat _ _ flat_Flags, tT, tT, tT, tF, tT] (by kernel_rfl)).to (by simp [wk, wkL])
      · skip
        exact (Ret.of_eval (d := .tup [.bool false, .int .i64 20]) mixed Try.func66 (by kernel_rfl) [.ret _ _ _ c0, tF, .ret _ _ _ c1, .flat _ _ flat_Flags, tT, tT, tT, tF, tT] (by kernel_rfl)).to (by simp [wk, wkL])
    · skip
      exact (Ret.of_eval (d := .tup [.bool false, .int .i64 20]) mixed Try.func66 (by kernel_rfl) [.ret _ _ _ c0, tF, .ret _ _ _ c1, .flat _ _ flat_Flags, tT, tT, tT, tF, tT] (by kernel_rfl)).to (by simp [wk, wkL])
  · skip
    exact (Ret.of_eval (d := .tup [.bool false, .int .i64 20]) mixed Try.func66 (by kernel_rfl) [.ret _ _ _ c0, tF, .ret _ _ _ c1, .flat _ _ flat_Flags, tT, tT, tT, tF, tT] (by kernel_rfl)).to (by simp [wk, wkL])

theorem fholds_5_ok (c z s o : Bool) : Ret Try.prog 66 ([.int .i8 5, fD true c z s o]) (.tup [.bool (holdM 5 c z s o), .int .i64 0]) := by
  have c0 := @fmay_5_ok
  have c1 := @fnone_ok
  exact (Ret.of_eval (d := .tup [.bool !z, .int .i64 0]) mixed Try.func66 (by kernel_rfl) ([.ret _ _ _ c0, tF, .ret _ _ _ c1, .flat _ _ flat_Flags, tT, tT, tT, tF, tF, .inl, .inl, .inl, .inl, .inl, .inl, .inl] ++ [.inl, .inl, .inl, .keep [], .keep [(0, Ob.box [.bool true, .bool c, .bool z, .bool s, .bool o])], tT, .get ([D.nilf, D.nilf, D.fn (Fn.func (80 : Nat)) [] [], D.fn (Fn.func (86 : Nat)) [] [D.ptr false (4 : Nat) (0 : Nat)], D.fn (Fn.func (81 : Nat)) [] [], D.fn (Fn.func (86 : Nat)) [] [D.ptr false (5 : Nat) (0 : Nat)], D.fn (Fn.func (84 : Nat)) [] [D.ptr false (6 : Nat) (0 : Nat), D.ptr false (7 : Nat) (0 : Nat)], D.fn (Fn.func (86 : Nat)) [] [D.ptr false (10 : Nat) (0 : Nat)], D.nilf, D.nilf, D.nilf, D.nilf, D.fn (Fn.func (82 : Nat)) [] [], D.fn (Fn.func (86 : Nat)) [] [D.ptr false (11 : Nat) (0 : Nat)], D.fn (Fn.func (84 : Nat)) [] [D.ptr false (12 : Nat) (0 : Nat), D.ptr false (13 : Nat) (0 : Nat)], D.fn (Fn.func (86 : Nat)) [] [D.ptr false (16 : Nat) (0 : Nat)]]) 5 (D.fn (Fn.func (86 : Nat)) [] [D.ptr false (5 : Nat) (0 : Nat)]) rfl, .inl, .inl]) (by kernel_rfl)).to (by (try cases c) <;> (try cases z) <;> (try cases s) <;> (try cases o) <;> first | (simp [wk, wkL, holdM]; done) | rfl | exact ⟨rfl, rfl, trivial⟩)

theorem fholds_n5_ok (c z s o : Bool) : Ret Try.prog 66 ([.int .i8 5, fD false c z s o]) (.tup [.bool false, .int .i64 20]) := by
  have c0 := @fmay_5_ok
  have c1 := @fnone_ok
  cases c
  · skip
    cases z
    · skip
      cases s
      · skip
        cases o
        · skip
          exact (Ret.of_eval (d := .tup [.bool false, .int .i64 20]) mixed Try.func66 (by kernel_rfl) [.ret _ _ _ c0, tF, .ret _ _ _ c1, .flat _ _ flat_Flags, tF, tF, tF, tT, tT] (by kernel_rfl)).to (by simp [wk, wkL])
        · skip
          exact (Ret.of_eval (d := .tup [.bool false, .int .i64 20]) mixed Try.func66 (by kernel_rfl) [.ret _ _ _ c0, tF, .ret _ _ _ c1, .flat _ _ flat_Flags, tT, tT, tT, tF, tT] (by kernel_rfl)).to (by simp [wk, wkL])
      · skip
        exact (Ret.of_eval (d := .tup [.bool false, .int .i64 20]) mixed Try.func66 (by kernel_rfl) [.ret _ _ _ c0, tF, .ret _ _ _ c1, .flat _ _ flat_Flags, tT, tT, tT, tF, tT] (by kernel_rfl)).to (by simp [wk, wkL])
    · skip
      exact (Ret.of_eval (d := .tup [.bool false, .int .i64 20]) mixed Try.func66 (by kernel_rfl) [.ret _ _ _ c0, tF, .ret _ _ _ c1, .flat _ _ flat_Flags, tT, tT, tT, tF, tT] (by kernel_rfl)).to (by simp [wk, wkL])
  · skip
    exact (Ret.of_eval (d := .tup [.bool false, .int .i64 20]) mixed Try.func66 (by kernel_rfl) [.ret _ _ _ c0, tF, .ret _ _ _ c1, .flat _ _ flat_Flags, tT, tT, tT, tF, tT] (by kernel_rfl)).to (by simp [wk, wkL])

theorem fholds_6_ok (c z s o : Bool) : Ret Try.prog 66 ([.int .i8 6, fD true c z s o]) (.tup [.bool (holdM 6 c z s o), .int .i64 0]) := by
  have c0 := @fmay_6_ok
  have c1 := @fnone_ok
  cases c
  · skip
    exact (Ret.of_eval (d := .tup [.bool z, .int .i64 0]) mixed Try.func66 (by kernel_rfl) ([.ret _ _ _ c0, tF, .ret _ _ _ c1, .flat _ _ flat_Flags, tT, tT, tT, tF, tF, .inl, .inl, .inl, .inl, .inl, .inl, .inl] ++ [.inl, .inl, .inl, .keep [], .keep [(0, Ob.box [.bool true, .bool false, .bool z, .bool s, .bool o])], tT, .get ([D.nilf, D.nilf, D.fn (Fn.func (80 : Nat)) [] [], D.fn (Fn.func (86 : Nat)) [] [D.ptr false (4 : Nat) (0 : Nat)], D.fn (Fn.func (81 : Nat)) [] [], D.fn (Fn.func (86 : Nat)) [] [D.ptr false (5 : Nat) (0 : Nat)], D.fn (Fn.func (84 : Nat)) [] [D.ptr false (6 : Nat) (0 : Nat), D.ptr false (7 : Nat) (0 : Nat)], D.fn (Fn.func (86 : Nat)) [] [D.ptr false (10 : Nat) (0 : Nat)], D.nilf, D.nilf, D.nilf, D.nilf, D.fn (Fn.func (82 : Nat)) [] [], D.fn (Fn.func (86 : Nat)) [] [D.ptr false (11 : Nat) (0 : Nat)], D.fn (Fn.func (84 : Nat)) [] [D.ptr false (12 : Nat) (0 : Nat), D.ptr false (13 : Nat) (0 : Nat)], D.fn (Fn.func (86 : Nat)) [] [D.ptr false (16 : Nat) (0 : Nat)]]) 6 (D.fn (Fn.func (84 : Nat)) [] [D.ptr false (6 : Nat) (0 : Nat), D.ptr false (7 : Nat) (0 : Nat)]) rfl, .inl, .inl, tT, tT, tT, .inl, tF]) (by kernel_rfl)).to (by (try cases c) <;> (try cases z) <;> (try cases s) <;> (try cases o) <;> first | (simp [wk, wkL, holdM]; done) | rfl | exact ⟨rfl, rfl, trivial⟩)
  · skip
    exact (Ret.of_eval (d := .tup [.bool true, .int .i64 0]) mixed Try.func66 (by kernel_rfl) ([.ret _ _ _ c0, tF, .ret _ _ _ c1, .flat _ _ flat_Flags, tT, tT, tT, tF, tF, .inl, .inl, .inl, .inl, .inl, .inl, .inl] ++ [.inl, .inl, .inl, .keep [], .keep [(0, Ob.box [.bool true, .bool true, .bool z, .bool s, .bool o])], tT, .get ([D.nilf, D.nilf, D.fn (Fn.func (80 : Nat)) [] [], D.fn (Fn.func (86 : Nat)) [] [D.ptr false (4 : Nat) (0 : Nat)], D.fn (Fn.func (81 : Nat)) [] [], D.fn (Fn.func (86 : Nat)) [] [D.ptr false (5 : Nat) (0 : Nat)], D.fn (Fn.func (84 : Nat)) [] [D.ptr false (6 : Nat) (0 : Nat), D.ptr false (7 : Nat) (0 : Nat)], D.fn (Fn.func (86 : Nat)) [] [D.ptr false (10 : Nat) (0 : Nat)], D.nilf, D.nilf, D.nilf, D.nilf, D.fn (Fn.func (82 : Nat)) [] [], D.fn (Fn.func (86 : Nat)) [] [D.ptr false (11 : Nat) (0 : Nat)], D.fn (Fn.func (84 : Nat)) [] [D.ptr false (12 : Nat) (0 : Nat), D.ptr false (13 : Nat) (0 : Nat)], D.fn (Fn.func (86 : Nat)) [] [D.ptr false (16 : Nat) (0 : Nat)]]) 6 (D.fn (Fn.func (84 : Nat)) [] [D.ptr false (6 : Nat) (0 : Nat), D.ptr false (7 : Nat) (0 : Nat)]) rfl, .inl, .inl, tF, tF, tF, tT]) (by kernel_rfl)).to (by (try cases c) <;> (try cases z) <;> (try cases s) <;> (try cases o) <;> first | (simp [wk, wkL, holdM]; done) | rfl | exact ⟨rfl, rfl, trivial⟩)

theorem fholds_n6_ok (c z s o : Bool) : Ret Try.prog 66 ([.int .i8 6, fD false c z s o]) (.tup [.bool false, .int .i64 20]) := by
  have c0 := @fmay_6_ok
  have c1 := @fnone_ok
  cases c
  · skip
    cases z
    · skip
      cases s
      · skip
        cases o
        · skip
          exact (Ret.of_eval (d := .tup [.bool false, .int .i64 20]) mixed Try.func66 (by kernel_rfl) [.ret _ _ _ c0, tF, .ret _ _ _ c1, .flat _ _ flat_Flags, tF, tF, tF, tT, tT] (by kernel_rfl)).to (by simp [wk, wkL])
        · skip
          exact (Ret.of_eval (d := .tup [.bool false, .int .i64 20]) mixed Try.func66 (by kernel_rfl) [.ret _ _ _ c0, tF, .ret _ _ _ c1, .flat _ _ flat_Flags, tT, tT, tT, tF, tT] (by kernel_rfl)).to (by simp [wk, wkL])
      · skip
        exact (Ret.of_eval (d := .tup [.bool false, .int .i64 20]) mixed Try.func66 (by kernel_rfl) [.ret _ _ _ c0, tF, .ret _ _ _ c1, .flat _ _ flat_Flags, tT, tT, tT, tF, tT] (by kernel_rfl)).to (by simp [wk, wkL])
    · skip
      exact (Ret.of_eval (d := .tup [.bool false, .int .i64 20]) mixed Try.func66 (by kernel_rfl) [.ret _ _ _ c0, tF, .ret _ _ _ c1, .flat _ _ flat_Flags, tT, tT, tT, tF, tT] (by kernel_rfl)).to (by simp [wk, wkL])
  · skip
    exact (Ret.of_eval (d := .tup [.bool false, .int .i64 20]) mixed Try.func66 (by kernel_rfl) [.ret _ _ _ c0, tF, .ret _ _ _ c1, .flat _ _ flat_Flags, tT, tT, tT, tF, tT] (by kernel_rfl)).to (by simp [wk, wkL])

theorem fholds_7_ok (c z s o : Bool) : Ret Try.prog 66 ([.int .i8 7, fD true c z s o]) (.tup [.bool (holdM 7 c z s o), .int .i64 0]) := by
  have c0 := @fmay_7_ok
  have c1 := @fnone_ok
  cases c
  · skip
    exact (Ret.of_eval (d := .tup [.bool !z, .int .i64 0]) mixed Try.func66 (by kernel_rfl) ([.ret _ _ _ c0, tF, .ret _ _ _ c1, .flat _ _ flat_Flags, tT, tT, tT, tF, tF, .inl, .inl, .inl, .inl, .inl, .inl, .inl] ++ [.inl, .inl, .inl, .keep [], .keep [(0, Ob.box [.bool true, .bool false, .bool z, .bool s, .bool o])], tT, .get ([D.nilf, D.nilf, D.fn (Fn.func (80 : Nat)) [] [], D.fn (Fn.func (86 : Nat)) [] [D.ptr false (4 : Nat) (0 : Nat)], D.fn (Fn.func (81 : Nat)) [] [], D.fn (Fn.func (86 : Nat)) [] [D.ptr false (5 : Nat) (0 : Nat)], D.fn (Fn.func (84 : Nat)) [] [D.ptr false (6 : Nat) (0 : Nat), D.ptr false (7 : Nat) (0 : Nat)], D.fn (Fn.func (86 : Nat)) [] [D.ptr false (10 : Nat) (0 : Nat)], D.nilf, D.nilf, D.nilf, D.nilf, D.fn (Fn.func (82 : Nat)) [] [], D.fn (Fn.func (86 : Nat)) [] [D.ptr false (11 : Nat) (0 : Nat)], D.fn (Fn.func (84 : Nat)) [] [D.ptr false (12 : Nat) (0 : Nat), D.ptr false (13 : Nat) (0 : Nat)], D.fn (Fn.func (86 : Nat)) [] [D.ptr false (16 : Nat) (0 : Nat)]]) 7 (D.fn (Fn.func (86 : Nat)) [] [D.ptr false (10 : Nat) (0 : Nat)]) rfl, .inl, .inl, .inl, tT, tT, tT, .inl, tF]) (by kernel_rfl)).to (by (try cases c) <;> (try cases z) <;> (try cases s) <;> (try cases o) <;> first | (simp [wk, wkL, holdM]; done) | rfl | exact ⟨rfl, rfl, trivial⟩)
  · skip
    exact (Ret.of_eval (d := .tup [.bool false, .int .i64 0]) mixed Try.func66 (by kernel_rfl) ([.ret _ _ _ c0, tF, .ret _ _ _ c1, .flat _ _ flat_Flags, tT, tT, tT, tF, tF, .inl, .inl, .inl, .inl, .inl, .inl, .inl] ++ [.inl, .inl, .inl, .keep [], .keep [(0, Ob.box [.bool true, .bool true, .bool z, .bool s, .bool o])], tT, .get ([D.nilf, D.nilf, D.fn (Fn.func (80 : Nat)) [] [], D.fn (Fn.func (86 : Nat)) [] [D.ptr false (4 : Nat) (0 : Nat)], D.fn (Fn.func (81 : Nat)) [] [], D.fn (Fn.func (86 : Nat)) [] [D.ptr false (5 : Nat) (0 : Nat)], D.fn (Fn.func (84 : Nat)) [] [D.ptr false (6 : Nat) (0 : Nat), D.ptr false (7 : Nat) (0 : Nat)], D.fn (Fn.func (86 : Nat)) [] [D.ptr false (10 : Nat) (0 : Nat)], D.nilf, D.nilf, D.nilf, D.nilf, D.fn (Fn.func (82 : Nat)) [] [], D.fn (Fn.func (86 : Nat)) [] [D.ptr false (11 : Nat) (0 : Nat)], D.fn (Fn.func (84 : Nat)) [] [D.ptr false (12 : Nat) (0 : Nat), D.ptr false (13 : Nat) (0 : Nat)], D.fn (Fn.func (86 : Nat)) [] [D.ptr false (16 : Nat) (0 : Nat)]]) 7 (D.fn (Fn.func (86 : Nat)) [] [D.ptr false (10 : Nat) (0 : Nat)]) rfl, .inl, .inl, .inl, tF, tF, tF, tT]) (by kernel_rfl)).to (by (try cases c) <;> (try cases z) <;> (try cases s) <;> (try cases o) <;> first | (simp [wk, wkL, holdM]; done) | rfl | exact ⟨rfl, rfl, trivial⟩)

theorem fholds_n7_ok (c z s o : Bool) : Ret Try.prog 66 ([.int .i8 7, fD false c z s o]) (.tup [.bool false, .int .i64 20]) := by
  have c0 := @fmay_7_ok
  have c1 := @fnone_ok
  cases c
  · skip
    cases z
    · skip
      cases s
      · skip
        cases o
        · skip
          exact (Ret.of_eval (d := .tup [.bool false, .int .i64 20]) mixed Try.func66 (by kernel_rfl) [.ret _ _ _ c0, tF, .ret _ _ _ c1, .flat _ _ flat_Flags, tF, tF, tF, tT, tT] (by kernel_rfl)).to (by simp [wk, wkL])
        · skip
          exact (Ret.of_eval (d := .tup [.bool false, .int .i64 20]) mixed Try.func66 (by kernel_rfl) [.ret _ _ _ c0, tF, .ret _ _ _ c1, .flat _ _ flat_Flags, tT, tT, tT, tF, tT] (by kernel_rfl)).to (by simp [wk, wkL])
      · skip
        exact (Ret.of_eval (d := .tup [.bool false, .int .i64 20]) mixed Try.func66 (by kernel_rfl) [.ret _ _ _ c0, tF, .ret _ _ _ c1, .flat _ _ flat_Flags, tT, tT, tT, tF, tT] (by kernel_rfl)).to (by simp [wk, wkL])
    · skip
      exact (Ret.of_eval (d := .tup [.bool false, .int .i64 20]) mixed Try.func66 (by kernel_rfl) [.ret _ _ _ c0, tF, .ret _ _ _ c1, .flat _ _ flat_Flags, tT, tT, tT, tF, tT] (by kernel_rfl)).to (by simp [wk, wkL])
  · skip
    exact (Ret.of_eval (d := .tup [.bool false, .int .i64 20]) mixed Try.func66 (by kernel_rfl) [.ret _ _ _ c0, tF, .ret _ _ _ c1, .flat _ _ flat_Flags, tT, tT, tT, tF, tT] (by kernel_rfl)).to (by simp [wk, wkL])

theorem fholds_12_ok (c z s o : Bool) : Ret Try.prog 66 ([.int .i8 12, fD true c z s o]) (.tup [.bool (holdM 12 c z s o), .int .i64 0]) := by
  have c0 := @fmay_12_ok
  have c1 := @fnone_ok
  exact (Ret.of_eval (d := .tup [.bool !s == o, .int .i64 0]) mixed Try.func66 (by kernel_rfl) ([.ret _ _ _ c0, tF, .ret _ _ _ c1, .flat _ _ flat_Flags, tT, tT, tT, tF, tF, .inl, .inl, .inl, .inl, .inl, .inl, .inl] ++ [.inl, .inl, .inl, .keep [], .keep [(0, Ob.box [.bool true, .bool c, .bool z, .bool s, .bool o])], tT, .get ([D.nilf, D.nilf, D.fn (Fn.func (80 : Nat)) [] [], D.fn (Fn.func (86 : Nat)) [] [D.ptr false (4 : Nat) (0 : Nat)], D.fn (Fn.func (81 : Nat)) [] [], D.fn (Fn.func (86 : Nat)) [] [D.ptr false (5 : Nat) (0 : Nat)], D.fn (Fn.func (84 : Nat)) [] [D.ptr false (6 : Nat) (0 : Nat), D.ptr false (7 : Nat) (0 : Nat)], D.fn (Fn.func (86 : Nat)) [] [D.ptr false (10 : Nat) (0 : Nat)], D.nilf, D.nilf, D.nilf, D.nilf, D.fn (Fn.func (82 : Nat)) [] [], D.fn (Fn.func (86 : Nat)) [] [D.ptr false (11 : Nat) (0 : Nat)], D.fn (Fn.func (84 : Nat)) [] [D.ptr false (12 : Nat) (0 : Nat), D.ptr false (13 : Nat) (0 : Nat)], D.fn (Fn.func (86 : Nat)) [] [D.ptr false (16 : Nat) (0 : Nat)]]) 12 (D.fn (Fn.func (82 : Nat)) [] []) rfl, .inl]) (by kernel_rfl)).to (by (try cases c) <;> (try cases z) <;> (try cases s) <;> (try cases o) <;> first | (simp [wk, wkL, holdM]; done) | rfl | exact ⟨rfl, rfl, trivial⟩)

theorem fholds_n12_ok (c z s o : Bool) : Ret Try.prog 66 ([.int .i8 12, fD false c z s o]) (.tup [.bool false, .int .i64 20]) := by
  have c0 := @fmay_12_ok
  have c1 := @fnone_ok
  cases c
  · skip
    cases z
    · skip
      cases s
      · skip
        cases o
        · skip
          exact (Ret.of_eval (d := .tup [.bool false, .int .i64 20]) mixed Try.func66 (by kernel_rfl) [.ret _ _ _ c0, tF, .ret _ _ _ c1, .flat _ _ flat_Flags, tF, tF, tF, tT, tT] (by kernel_rfl)).to (by simp [wk, wkL])
        · skip
          exact (Ret.of_eval (d := .tup [.bool false, .int .i64 20]) mixed Try.func66 (by kernel_rfl) [.ret _ _ _ c0, tF, .ret _ _ _ c1, .flat _ _ flat_Flags, tT, tT, tT, tF, tT] (by kernel_rfl)).to (by simp [wk, wkL])
      · skip
        exact (Ret.of_eval (d := .tup [.bool false, .int .i64 20]) mixed Try.func66 (by kernel_rfl) [.ret _ _ _ c0, tF, .ret _ _ _ c1, .flat _ _ flat_Flags, tT, tT, tT, tF, tT] (by kernel_rfl)).to (by simp [wk, wkL])
    · skip
      exact (Ret.of_eval (d := .tup [.bool false, .int .i64 20]) mixed Try.func66 (by kernel_rfl) [.ret _ _ _ c0, tF, .ret _ _ _ c1, .flat _ _ flat_Flags, tT, tT, tT, tF, tT] (by kernel_rfl)).to (by simp [wk, wkL])
  · skip
    exact (Ret.of_eval (d := .tup [.bool false, .int .i64 20]) mixed Try.func66 (by kernel_rfl) [.ret _ _ _ c0, tF, .ret _ _ _ c1, .flat _ _ flat_Flags, tT, tT, tT, tF, tT] (by kernel_rfl)).to (by simp [wk, wkL])

theorem fholds_13_ok (c z s o : Bool) : Ret Try.prog 66 ([.int .i8 13, fD true c z s o]) (.tup [.bool (holdM 13 c z s o), .int .i64 0]) := by
  have c0 := @fmay_13_ok
  have c1 := @fnone_ok
  exact (Ret.of_eval (d := .tup [.bool !!s == o, .int .i64 0]) mixed Try.func66 (by kernel_rfl) ([.ret _ _ _ c0, tF, .ret _ _ _ c1, .flat _ _ flat_Flags, tT, tT, tT, tF, tF, .inl, .inl, .inl, .inl, .inl, .inl, .inl] ++ [.inl, .inl, .inl, .keep [], .keep [(0, Ob.box [.bool true, .bool c, .bool z, .bool s, .bool o])], tT, .get ([D.nilf, D.nilf, D.fn (Fn.func (80 : Nat)) [] [], D.fn (Fn.func (86 : Nat)) [] [D.ptr false (4 : Nat) (0 : Nat)], D.fn (Fn.func (81 : Nat)) [] [], D.fn (Fn.func (86 : Nat)) [] [D.ptr false (5 : Nat) (0 : Nat)], D.fn (Fn.func (84 : Nat)) [] [D.ptr false (6 : Nat) (0 : Nat), D.ptr false (7 : Nat) (0 : Nat)], D.fn (Fn.func (86 : Nat)) [] [D.ptr false (10 : Nat) (0 : Nat)], D.nilf, D.nilf, D.nilf, D.nilf, D.fn (Fn.func (82 : Nat)) [] [], D.fn (Fn.func (86 : Nat)) [] [D.ptr false (11 : Nat) (0 : Nat)], D.fn (Fn.func (84 : Nat)) [] [D.ptr false (12 : Nat) (0 : Nat), D.ptr false (13 : Nat) (0 : Nat)], D.fn (Fn.func (86 : Nat)) [] [D.ptr false (16 : Nat) (0 : Nat)]]) 13 (D.fn (Fn.func (86 : Nat)) [] [D.ptr false (11 : Nat) (0 : Nat)]) rfl, .inl, .inl]) (by kernel_rfl)).to (by (try cases c) <;> (try cases z) <;> (try cases s) <;> (try cases o) <;> first | (simp [wk, wkL, holdM]; done) | rfl | exact ⟨rfl, rfl, trivial⟩)

theorem fholds_n13_ok (c z s o : Bool) : Ret Try.prog 66 ([.int .i8 13, fD false c z s o]) (.tup [.bool false, .int .i64 20]) := by
  have c0 := @fmay_13_ok
  have c1 := @fnone_ok
  cases c
  · skip
    cases z
    · skip
      cases s
      · skip
        cases o
        · skip
          exact (Ret.of_eval (d := .tup [.bool false, .int .i64 20]) mixed Try.func66 (by kernel_rfl) [.ret _ _ _ c0, tF, .ret _ _ _ c1, .flat _ _ flat_Flags, tF, tF, tF, tT, tT] (by kernel_rfl)).to (by simp [wk, wkL])
        · skip
          exact (Ret.of_eval (d := .tup [.bool false, .int .i64 20]) mixed Try.func66 (by kernel_rfl) [.ret _ _ _ c0, tF, .ret _ _ _ c1, .flat _ _ flat_Flags, tT, tT, tT, tF, tT] (by kernel_rfl)).to (by simp [wk, wkL])
      · skip
        exact (Ret.of_eval (d := .tup [.bool false, .int .i64 20]) mixed Try.func66 (by kernel_rfl) [.ret _ _ _ c0, tF, .ret _ _ _ c1, .flat _ _ flat_Flags, tT, tT, tT, tF, tT] (by kernel_rfl)).to (by simp [wk, wkL])
    · skip
      exact (Ret.of_eval (d := .tup [.bool false, .int .i64 20]) mixed Try.func66 (by kernel_rfl) [.ret _ _ _ c0, tF, .ret _ _ _ c1, .flat _ _ flat_Flags, tT, tT, tT, tF, tT] (by kernel_rfl)).to (by simp [wk, wkL])
  · skip
    exact (Ret.of_eval (d := .tup [.bool false, .int .i64 20]) mixed Try.func66 (by kernel_rfl) [.ret _ _ _ c0, tF, .ret _ _ _ c1, .flat _ _ flat_Flags, tT, tT, tT, tF, tT] (by kernel_rfl)).to (by simp [wk, wkL])

theorem fholds_14_ok (c z s o : Bool) : Ret Try.prog 66 ([.int .i8 14, fD true c z s o]) (.tup [.bool (holdM 14 c z s o), .int .i64 0]) := by
  have c0 := @fmay_14_ok
  have c1 := @fnone_ok
  cases z
  · skip
    exact (Ret.of_eval (d := .tup [.bool !s == o, .int .i64 0]) mixed Try.func66 (by kernel_rfl) ([.ret _ _ _ c0, tF, .ret _ _ _ c1, .flat _ _ flat_Flags, tT, tT, tT, tF, tF, .inl, .inl, .inl, .inl, .inl, .inl, .inl] ++ [.inl, .inl, .inl, .keep [], .keep [(0, Ob.box [.bool true, .bool c, .bool false, .bool s, .bool o])], tT, .get ([D.nilf, D.nilf, D.fn (Fn.func (80 : Nat)) [] [], D.fn (Fn.func (86 : Nat)) [] [D.ptr false (4 : Nat) (0 : Nat)], D.fn (Fn.func (81 : Nat)) [] [], D.fn (Fn.func (86 : Nat)) [] [D.ptr false (5 : Nat) (0 : Nat)], D.fn (Fn.func (84 : Nat)) [] [D.ptr false (6 : Nat) (0 : Nat), D.ptr false (7 : Nat) (0 : Nat)], D.fn (Fn.func (86 : Nat)) [] [D.ptr false (10 : Nat) (0 : Nat)], D.nilf, D.nilf, D.nilf, D.nilf, D.fn (Fn.func (82 : Nat)) [] [], D.fn (Fn.func (86 : Nat)) [] [D.ptr false (11 : Nat) (0 : Nat)], D.fn (Fn.func (84 : Nat)) [] [D.ptr false (12 : Nat) (0 : Nat), D.ptr false (13 : Nat) (0 : Nat)], D.fn (Fn.func (86 : Nat)) [] [D.ptr false (16 : Nat) (0 : Nat)]]) 14 (D.fn (Fn.func (84 : Nat)) [] [D.ptr false (12 : Nat) (0 : Nat), D.ptr false (13 : Nat) (0 : Nat)]) rfl, .inl, .inl, tT, tT, tT, .inl, tF]) (by kernel_rfl)).to (by (try cases c) <;> (try cases z) <;> (try cases s) <;> (try cases o) <;> first | (simp [wk, wkL, holdM]; done) | rfl | exact ⟨rfl, rfl, trivial⟩)
  · skip
    exact (Ret.of_eval (d := .tup [.bool true, .int .i64 0]) mixed Try.func66 (by kernel_rfl) ([.ret _ _ _ c0, tF, .ret _ _ _ c1, .flat _ _ flat_Flags, tT, tT, tT, tF, tF, .inl, .inl, .inl, .inl, .inl, .inl, .inl] ++ [.inl, .inl, .inl, .keep [], .keep [(0, Ob.box [.bool true, .bool c, .bool true, .bool s, .bool o])], tT, .get ([D.nilf, D.nilf, D.fn (Fn.func (80 : Nat)) [] [], D.fn (Fn.func (86 : Nat)) [] [D.ptr false (4 : Nat) (0 : Nat)], D.fn (Fn.func (81 : Nat)) [] [], D.fn (Fn.func (86 : Nat)) [] [D.ptr false (5 : Nat) (0 : Nat)], D.fn (Fn.func (84 : Nat)) [] [D.ptr false (6 : Nat) (0 : Nat), D.ptr false (7 : Nat) (0 : Nat)], D.fn (Fn.func (86 : Nat)) [] [D.ptr false (10 : Nat) (0 : Nat)], D.nilf, D.nilf, D.nilf, D.nilf, D.fn (Fn.func (82 : Nat)) [] [], D.fn (Fn.func (86 : Nat)) [] [D.ptr false (11 : Nat) (0 : Nat)], D.fn (Fn.func (84 : Nat)) [] [D.ptr false (12 : Nat) (0 : Nat), D.ptr false (13 : Nat) (0 : Nat)], D.fn (Fn.func (86 : Nat)) [] [D.ptr false (16 : Nat) (0 : Nat)]]) 14 (D.fn (Fn.func (84 : Nat)) [] [D.ptr false (12 : Nat) (0 : Nat), D.ptr false (13 : Nat) (0 : Nat)]) rfl, .inl, .inl, tF, tF, tF, tT]) (by kernel_rfl)).to (by (try cases c) <;> (try cases z) <;> (try cases s) <;> (try cases o) <;> first | (simp [wk, wkL, holdM]; done) | rfl | exact ⟨rfl, rfl, trivial⟩)

theorem fholds_n14_ok (c z s o : Bool) : Ret Try.prog 66 ([.int .i8 14, fD false c z s o]) (.tup [.bool false, .int .i64 20]) := by
  have c0 := @fmay_14_ok
  have c1 := @fnone_ok
  cases c
  · skip
    cases z
    · skip
      cases s
      · skip
        cases o
        · skip
          exact (Ret.of_eval (d := .tup [.bool false, .int .i64 20]) mixed Try.func66 (by kernel_rfl) [.ret _ _ _ c0, tF, .ret _ _ _ c1, .flat _ _ flat_Flags, tF, tF, tF, tT, tT] (by kernel_rfl)).to (by simp [wk, wkL])
        · skip
          exact (Ret.of_eval (d := .tup [.bool false, .int .i64 20]) mixed Try.func66 (by kernel_rfl) [.ret _ _ _ c0, tF, .ret _ _ _ c1, .flat _ _ flat_Flags, tT, tT, tT, tF, tT] (by kernel_rfl)).to (by simp [wk, wkL])
      · skip
        exact (Ret.of_eval (d := .tup [.bool false, .int .i64 20]) mixed Try.func66 (by kernel_rfl) [.ret _ _ _ c0, tF, .ret _ _ _ c1, .flat _ _ flat_Flags, tT, tT, tT, tF, tT] (by kernel_rfl)).to (by simp [wk, wkL])
    · skip
      exact (Ret.of_eval (d := .tup [.bool false, .int .i64 20]) mixed Try.func66 (by kernel_rfl) [.ret _ _ _ c0, tF, .ret _ _ _ c1, .flat _ _ flat_Flags, tT, tT, tT, tF, tT] (by kernel_rfl)).to (by simp [wk, wkL])
  · skip
    exact (Ret.of_eval (d := .tup [.bool false, .int .i64 20]) mixed Try.func66 (by kernel_rfl) [.ret _ _ _ c0, tF, .ret _ _ _ c1, .flat _ _ flat_Flags, tT, tT, tT, tF, tT] (by kernel_rfl)).to (by simp [wk, wkL])

theorem fholds_15_ok (c z s o : Bool) : Ret Try.prog 66 ([.int .i8 15, fD true c z s o]) (.tup [.bool (holdM 15 c z s o), .int .i64 0]) := by
  have c0 := @fmay_15_ok
  have c1 := @fnone_ok
  cases z
  · skip
    exact (Ret.of_eval (d := .tup [.bool !!s == o, .int .i64 0]) mixed Try.func66 (by kernel_rfl) ([.ret _ _ _ c0, tF, .ret _ _ _ c1, .flat _ _ flat_Flags, tT, tT, tT, tF, tF, .inl, .inl, .inl, .inl, .inl, .inl, .inl] ++ [.inl, .inl, .inl, .keep [], .keep [(0, Ob.box [.bool true, .bool c, .bool false, .bool s, .bool o])], tT, .get ([D.nilf, D.nilf, D.fn (Fn.func (80 : Nat)) [] [], D.fn (Fn.func (86 : Nat)) [] [D.ptr false (4 : Nat) (0 : Nat)], D.fn (Fn.func (81 : Nat)) [] [], D.fn (Fn.func (86 : Nat)) [] [D.ptr false (5 : Nat) (0 : Nat)], D.fn (Fn.func (84 : Nat)) [] [D.ptr false (6 : Nat) (0 : Nat), D.ptr false (7 : Nat) (0 : Nat)], D.fn (Fn.func (86 : Nat)) [] [D.ptr false (10 : Nat) (0 : Nat)], D.nilf, D.nilf, D.nilf, D.nilf, D.fn (Fn.func (82 : Nat)) [] [], D.fn (Fn.func (86 : Nat)) [] [D.ptr false (11 : Nat) (0 : Nat)], D.fn (Fn.func (84 : Nat)) [] [D.ptr false (12 : Nat) (0 : Nat), D.ptr false (13 : Nat) (0 : Nat)], D.fn (Fn.func (86 : Nat)) [] [D.ptr false (16 : Nat) (0 : Nat)]]) 15 (D.fn (Fn.func (86 : Nat)) [] [D.ptr false (16 : Nat) (0 : Nat)]) rfl, .inl, .inl, .inl, tT, tT, tT, .inl, tF]) (by kernel_rfl)).to (by (try cases c) <;> (try cases z) <;> (try cases s) <;> (try cases o) <;> first | (simp [wk, wkL, holdM]; done) | rfl | exact ⟨rfl, rfl, trivial⟩)
  · skip
    exact (Ret.of_eval (d := .tup [.bool false, .int .i64 0]) mixed Try.func66 (by kernel_rfl) ([.ret _ _ _ c0, tF, .ret _ _ _ c1, .flat _ _ flat_Flags, tT, tT, tT, tF, tF, .inl, .inl, .inl, .inl, .inl, .inl, .inl] ++ [.inl, .inl, .inl, .keep [], .keep [(0, Ob.box [.bool true, .bool c, .bool true, .bool s, .bool o])], tT, .get ([D.nilf, D.nilf, D.fn (Fn.func (80 : Nat)) [] [], D.fn (Fn.func (86 : Nat)) [] [D.ptr false (4 : Nat) (0 : Nat)], D.fn (Fn.func (81 : Nat)) [] [], D.fn (Fn.func (86 : Nat)) [] [D.ptr false (5 : Nat) (0 : Nat)], D.fn (Fn.func (84 : Nat)) [] [D.ptr false (6 : Nat) (0 : Nat), D.ptr false (7 : Nat) (0 : Nat)], D.fn (Fn.func (86 : Nat)) [] [D.ptr false (10 : Nat) (0 : Nat)], D.nilf, D.nilf, D.nilf, D.nilf, D.fn (Fn.func (82 : Nat)) [] [], D.fn (Fn.func (86 : Nat)) [] [D.ptr false (11 : Nat) (0 : Nat)], D.fn (Fn.func (84 : Nat)) [] [D.ptr false (12 : Nat) (0 : Nat), D.ptr false (13 : Nat) (0 : Nat)], D.fn (Fn.func (86 : Nat)) [] [D.ptr false (16 : Nat) (0 : Nat)]]) 15 (D.fn (Fn.func (86 : Nat)) [] [D.ptr false (16 : Nat) (0 : Nat)]) rfl, .inl, .inl, .inl, tF, tF, tF, tT]) (by kernel_rfl)).to (by (try cases c) <;> (try cases z) <;> (try cases s) <;> (try cases o) <;> first | (simp [wk, wkL, holdM]; done) | rfl | exact ⟨rfl, rfl, trivial⟩)

theorem fholds_n15_ok (c z s o : Bool) : Ret Try.prog 66 ([.int .i8 15, fD false c z s o]) (.tup [.bool false, .int .i64 20]) := by
  have c0 := @fmay_15_ok
  have c1 := @fnone_ok
  cases c
  · skip
    cases z
    · skip
      cases s
      · skip
        cases o
        · skip
          exact (Ret.of_eval (d := .tup [.bool false, .int .i64 20]) mixed Try.func66 (by kernel_rfl) [.ret _ _ _ c0, tF, .ret _ _ _ c1, .flat _ _ flat_Flags, tF, tF, tF, tT, tT] (by kernel_rfl)).to (by simp [wk, wkL])
        · skip
          exact (Ret.of_eval (d := .tup [.bool false, .int .i64 20]) mixed Try.func66 (by kernel_rfl) [.ret _ _ _ c0, tF, .ret _ _ _ c1, .flat _ _ flat_Flags, tT, tT, tT, tF, tT] (by kernel_rfl)).to (by simp [wk, wkL])
      · skip
        exact (Ret.of_eval (d := .tup [.bool false, .int .i64 20]) mixed Try.func66 (by kernel_rfl) [.ret _ _ _ c0, tF, .ret _ _ _ c1, .flat _ _ flat_Flags, tT, tT, tT, tF, tT] (by kernel_rfl)).to (by simp [wk, wkL])
    · skip
      exact (Ret.of_eval (d := .tup [.bool false, .int .i64 20]) mixed Try.func66 (by kernel_rfl) [.ret _ _ _ c0, tF, .ret _ _ _ c1, .flat _ _ flat_Flags, tT, tT, tT, tF, tT] (by kernel_rfl)).to (by simp [wk, wkL])
  · skip
    exact (Ret.of_eval (d := .tup [.bool false, .int .i64 20]) mixed Try.func66 (by kernel_rfl) [.ret _ _ _ c0, tF, .ret _ _ _ c1, .flat _ _ flat_Flags, tT, tT, tT, tF, tT] (by kernel_rfl)).to (by simp [wk, wkL])

end Go.Proofs.Ytkannibhndjgeaa
