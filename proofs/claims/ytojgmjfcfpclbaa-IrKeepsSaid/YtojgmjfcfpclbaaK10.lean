/- Contracts and plain laws that a statement's proof leans on (texts merged: I0, I1H, I1, MdJ, I2, XLen). -/
import Derived.Test.YtojgmjfcfpclbaaK04
import Derived.Test.YtojgmjfcfpclbaaK05
import Derived.Test.YtojgmjfcfpclbaaK08
import Derived.Test.YtojgmjfcfpclbaaK09
set_option linter.unusedVariables false
set_option linter.unusedSimpArgs false
namespace Go.Proofs.Ytojgmjfcfpclbaa
open Go Go.Ev
set_option maxRecDepth 100000
set_option maxHeartbeats 8000000
theorem those_ok  : Ret Try.prog 70 ([]) (.int .i64 2055) := by
  exact (Ret.of_eval (d := .int .i64 2055) mixed Try.func70 (by kernel_rfl) ([.inl, .go 64, tT, tT, .get ([.int .i8 0, .int .i8 1, .int .i8 2, .int .i8 11]) 0 (.int .i8 0) rfl, tT, tT, tT, .get ([.int .i8 0, .int .i8 1, .int .i8 2, .int .i8 11]) 1 (.int .i8 1) rfl, tT, tT, tT, .get ([.int .i8 0, .int .i8 1, .int .i8 2, .int .i8 11]) 2 (.int .i8 2) rfl, tT, tT, tT] ++ [.get ([.int .i8 0, .int .i8 1, .int .i8 2, .int .i8 11]) 3 (.int .i8 11) rfl, tT, tF]) (by kernel_rfl)).to (by rfl)
theorem phys_ok (n : Int) (hn : n ≤ 127) : Ret Try.prog 65 ([.int .i8 n]) (.bool (scrM n)) := by
  rcases Bool.eq_false_or_eq_true (decide (n < (0 : Int))) with h0 | h0
  · skip
    exact (Ret.of_eval (d := .bool false) mixed Try.func65 (by kernel_rfl) (List.replicate 5 (tC (eT (leL 0 h0))) ++ [tC (leL 0 h0)]) (by kernel_rfl)).to (by exact wk_bool (scr_neg h0))
  · skip
    have c1 := @those_ok
    exact (Ret.of_eval (d := .bool (IntKind.wrap IntKind.i64 (↑(BitVec.toNat (BitVec.ofInt (64 : Nat) (Int.fdiv (2055 : Int) ((2 : Int) ^ min (Int.toNat n) (64 : Nat))) &&& BitVec.ofInt (64 : Nat) (1 : Int))) : Int) == (1 : Int))) mixed Try.func65 (by kernel_rfl) [tC (eT (leL 0 h0)), .ret _ _ _ c1, tC (eT (leL 0 h0)), tC (eT (leL 0 h0)), tC (v := true) (leL 0 h0), tC (eT (leL 0 h0)), tC (eT (leL 0 h0)), tC (leL 0 h0)] (by kernel_rfl)).to (by exact wk_bool (scr_bit_eq h0 hn))
theorem imay_0_ok (op w dst src base disp imm cc reg phys num to : Int) (ho : op ≤ 127) (hc : cc ≤ 127) (hp : phys ≤ 127) (g0 : -128 ≤ reg) (g1 : reg ≤ 127)  : Ret Try.prog 13 ([irD 0 op w dst src base disp imm cc reg phys num to]) (.bool (mayI 0 op w dst src base disp imm cc reg phys num to)) := by
  rcases Bool.eq_false_or_eq_true (mayX op w dst src base disp imm cc) with k0 | k0
  · skip
    rcases Bool.eq_false_or_eq_true (decide (op < (28 : Int))) with k1 | k1
    · skip
      rcases Bool.eq_false_or_eq_true (ownM op w dst src base disp imm cc) with k2 | k2
      · skip
        have c3 := @reads_any_ok (op) (w) (dst) (src) (base) (disp) (imm) (cc) ho
        have c4 := @writes_any_ok (op) (w) (dst) (src) (base) (disp) (imm) (cc) ho
        have c5 := @mayX_ok (op) (w) (dst) (src) (base) (disp) (imm) (cc) ho
        have c6 := @those_ok
        exact (Ret.of_eval (d := .bool (eqCells [.int .i8 0, .int .i8 0, .int .i8 0, .int .i8 0, .int .i8 0, .int .i8 0, .int .i64 0, .int .i64 0, .int .i8 0, .int .i8 reg, .int .i8 phys, .int .i64 num, .int .i64 to] [.int .i8 0, .int .i8 0, .int .i8 0, .int .i8 0, .int .i8 0, .int .i8 0, .int .i64 0, .int .i64 0, .int .i8 0, .int .i8 0, .int .i8 0, .int .i64 0, .int .i64 0])) mixed Try.func13 (by kernel_rfl) ([.inl, .inl, tT, tT, tT, tT, tT, tT, tT, tT, tT, .get ([D.fn (Fn.func 67) [] [], D.fn (Fn.func 64) [] [], D.fn (Fn.func 64) [] [], D.fn (Fn.func 71) [] [], D.fn (Fn.func 72) [] [D.ptr false 2 0], D.fn (Fn.func 66) [] [], D.fn (Fn.func 74) [] []]) 0 (D.fn (Fn.func 67) [] []) rfl, tT, .inl, .ret _ _ _ c3, .ret _ _ _ c4] ++ [.ret _ _ _ c5] ++ List.replicate 6 (tC (eT k0)) ++ [tC k0, tC (eT k1), tC (eT k1), .ret _ _ _ c6, tC (eT k1), tC (eT k1), tC k1, tT, tC (eT (eqI 0 true (eq_of_beq (@own_t (op) (w) (dst) (src) (base) (disp) (imm) (cc) k2))))] ++ List.replicate 4 (tC (eT (eqI 0 true (eq_of_beq (@own_t (op) (w) (dst) (src) (base) (disp) (imm) (cc) k2))))) ++ [.flat _ _ flat_Ir, tC (eqI 0 true (eq_of_beq (@own_t (op) (w) (dst) (src) (base) (disp) (imm) (cc) k2)))]) (by kernel_rfl)).to (by simp only [wk, D.bool.injEq, eq_irc, mayI_0, zeroX, k0, k1, k2, Bool.true_and, Bool.false_and, Bool.and_true, Bool.and_false]; (rw [Bool.eq_iff_iff]; simp only [beq_iff_eq, beq_eq_false_iff_ne, ne_eq, w_i64, Bool.and_eq_true, Bool.false_eq_true, decide_eq_true_eq, decide_eq_false_iff_not, false_iff, iff_false, true_iff, iff_true, true_and, and_true] at *; first | done | omega | (intro hh; omega) | (simp; done) | (intro hh; simp at hh; omega) | (constructor <;> intro hh <;> omega)))
      · skip
        have c7 := @reads_any_ok (op) (w) (dst) (src) (base) (disp) (imm) (cc) ho
        have c8 := @writes_any_ok (op) (w) (dst) (src) (base) (disp) (imm) (cc) ho
        have c9 := @mayX_ok (op) (w) (dst) (src) (base) (disp) (imm) (cc) ho
        have c10 := @those_ok
        exact (Ret.of_eval (d := .bool false) mixed Try.func13 (by kernel_rfl) ([.inl, .inl, tT, tT, tT, tT, tT, tT, tT, tT, tT, .get ([D.fn (Fn.func 67) [] [], D.fn (Fn.func 64) [] [], D.fn (Fn.func 64) [] [], D.fn (Fn.func 71) [] [], D.fn (Fn.func 72) [] [D.ptr false 2 0], D.fn (Fn.func 66) [] [], D.fn (Fn.func 74) [] []]) 0 (D.fn (Fn.func 67) [] []) rfl, tT, .inl, .ret _ _ _ c7, .ret _ _ _ c8] ++ [.ret _ _ _ c9] ++ List.replicate 6 (tC (eT k0)) ++ [tC k0, tC (eT k1), tC (eT k1), .ret _ _ _ c10, tC (eT k1), tC (eT k1), tC k1, tT, tC (eT (@own_f (op) (w) (dst) (src) (base) (disp) (imm) (cc) k2))] ++ List.replicate 4 (tC (eT (@own_f (op) (w) (dst) (src) (base) (disp) (imm) (cc) k2))) ++ [tC (@own_f (op) (w) (dst) (src) (base) (disp) (imm) (cc) k2)]) (by kernel_rfl)).to (by simp only [wk, D.bool.injEq, eq_irc, mayI_0, zeroX, k0, k1, k2, Bool.true_and, Bool.false_and, Bool.and_true, Bool.and_false]; done)
    · skip
      rcases Bool.eq_false_or_eq_true (ownM op w dst src base disp imm cc) with k11 | k11
      · skip
        have c12 := @reads_any_ok (op) (w) (dst) (src) (base) (disp) (imm) (cc) ho
        have c13 := @writes_any_ok (op) (w) (dst) (src) (base) (disp) (imm) (cc) ho
        have c14 := @mayX_ok (op) (w) (dst) (src) (base) (disp) (imm) (cc) ho
        exact (Ret.of_eval (d := .bool false) mixed Try.func13 (by kernel_rfl) ([.inl, .inl, tT, tT, tT, tT, tT, tT, tT, tT, tT, .get ([D.fn (Fn.func 67) [] [], D.fn (Fn.func 64) [] [], D.fn (Fn.func 64) [] [], D.fn (Fn.func 71) [] [], D.fn (Fn.func 72) [] [D.ptr false 2 0], D.fn (Fn.func 66) [] [], D.fn (Fn.func 74) [] []]) 0 (D.fn (Fn.func 67) [] []) rfl, tT, .inl, .ret _ _ _ c12, .ret _ _ _ c13] ++ [.ret _ _ _ c14] ++ List.replicate 6 (tC (eT k0)) ++ [tC k0, tC (eT k1), tC (eT k1), tC (eT k1), tC (eT k1), tC k1, tT, tF, tF] ++ [tF, tF, tF, tF]) (by kernel_rfl)).to (by simp only [wk, D.bool.injEq, eq_irc, mayI_0, zeroX, k0, k1, k11, Bool.true_and, Bool.false_and, Bool.and_true, Bool.and_false]; done)
      · skip
        have c15 := @reads_any_ok (op) (w) (dst) (src) (base) (disp) (imm) (cc) ho
        have c16 := @writes_any_ok (op) (w) (dst) (src) (base) (disp) (imm) (cc) ho
        have c17 := @mayX_ok (op) (w) (dst) (src) (base) (disp) (imm) (cc) ho
        exact (Ret.of_eval (d := .bool false) mixed Try.func13 (by kernel_rfl) ([.inl, .inl, tT, tT, tT, tT, tT, tT, tT, tT, tT, .get ([D.fn (Fn.func 67) [] [], D.fn (Fn.func 64) [] [], D.fn (Fn.func 64) [] [], D.fn (Fn.func 71) [] [], D.fn (Fn.func 72) [] [D.ptr false 2 0], D.fn (Fn.func 66) [] [], D.fn (Fn.func 74) [] []]) 0 (D.fn (Fn.func 67) [] []) rfl, tT, .inl, .ret _ _ _ c15, .ret _ _ _ c16] ++ [.ret _ _ _ c17] ++ List.replicate 6 (tC (eT k0)) ++ [tC k0, tC (eT k1), tC (eT k1), tC (eT k1), tC (eT k1), tC k1, tT, tF, tF] ++ [tF, tF, tF, tF]) (by kernel_rfl)).to (by simp only [wk, D.bool.injEq, eq_irc, mayI_0, zeroX, k0, k1, k11, Bool.true_and, Bool.false_and, Bool.and_true, Bool.and_false]; done)
  · skip
    rcases Bool.eq_false_or_eq_true (decide (op < (28 : Int))) with k18 | k18
    · skip
      rcases Bool.eq_false_or_eq_true (ownM op w dst src base disp imm cc) with k19 | k19
      · skip
        have c20 := @reads_any_ok (op) (w) (dst) (src) (base) (disp) (imm) (cc) ho
        have c21 := @writes_any_ok (op) (w) (dst) (src) (base) (disp) (imm) (cc) ho
        have c22 := @mayX_ok (op) (w) (dst) (src) (base) (disp) (imm) (cc) ho
        exact (Ret.of_eval (d := .bool false) mixed Try.func13 (by kernel_rfl) ([.inl, .inl, tT, tT, tT, tT, tT, tT, tT, tT, tT, .get ([D.fn (Fn.func 67) [] [], D.fn (Fn.func 64) [] [], D.fn (Fn.func 64) [] [], D.fn (Fn.func 71) [] [], D.fn (Fn.func 72) [] [D.ptr false 2 0], D.fn (Fn.func 66) [] [], D.fn (Fn.func 74) [] []]) 0 (D.fn (Fn.func 67) [] []) rfl, tT, .inl, .ret _ _ _ c20, .ret _ _ _ c21] ++ [.ret _ _ _ c22] ++ List.replicate 6 (tC (eT k0)) ++ [tC k0, tF, tF, tF, tF, tF, tT, tF, tF] ++ [tF, tF, tF, tF]) (by kernel_rfl)).to (by simp only [wk, D.bool.injEq, eq_irc, mayI_0, zeroX, k0, k18, k19, Bool.true_and, Bool.false_and, Bool.and_true, Bool.and_false]; done)
      · skip
        have c23 := @reads_any_ok (op) (w) (dst) (src) (base) (disp) (imm) (cc) ho
        have c24 := @writes_any_ok (op) (w) (dst) (src) (base) (disp) (imm) (cc) ho
        have c25 := @mayX_ok (op) (w) (dst) (src) (base) (disp) (imm) (cc) ho
        exact (Ret.of_eval (d := .bool false) mixed Try.func13 (by kernel_rfl) ([.inl, .inl, tT, tT, tT, tT, tT, tT, tT, tT, tT, .get ([D.fn (Fn.func 67) [] [], D.fn (Fn.func 64) [] [], D.fn (Fn.func 64) [] [], D.fn (Fn.func 71) [] [], D.fn (Fn.func 72) [] [D.ptr false 2 0], D.fn (Fn.func 66) [] [], D.fn (Fn.func 74) [] []]) 0 (D.fn (Fn.func 67) [] []) rfl, tT, .inl, .ret _ _ _ c23, .ret _ _ _ c24] ++ [.ret _ _ _ c25] ++ List.replicate 6 (tC (eT k0)) ++ [tC k0, tF, tF, tF, tF, tF, tT, tF, tF] ++ [tF, tF, tF, tF]) (by kernel_rfl)).to (by simp only [wk, D.bool.injEq, eq_irc, mayI_0, zeroX, k0, k18, k19, Bool.true_and, Bool.false_and, Bool.and_true, Bool.and_false]; done)
    · skip
      rcases Bool.eq_false_or_eq_true (ownM op w dst src base disp imm cc) with k26 | k26
      · skip
        have c27 := @reads_any_ok (op) (w) (dst) (src) (base) (disp) (imm) (cc) ho
        have c28 := @writes_any_ok (op) (w) (dst) (src) (base) (disp) (imm) (cc) ho
        have c29 := @mayX_ok (op) (w) (dst) (src) (base) (disp) (imm) (cc) ho
        exact (Ret.of_eval (d := .bool false) mixed Try.func13 (by kernel_rfl) ([.inl, .inl, tT, tT, tT, tT, tT, tT, tT, tT, tT, .get ([D.fn (Fn.func 67) [] [], D.fn (Fn.func 64) [] [], D.fn (Fn.func 64) [] [], D.fn (Fn.func 71) [] [], D.fn (Fn.func 72) [] [D.ptr false 2 0], D.fn (Fn.func 66) [] [], D.fn (Fn.func 74) [] []]) 0 (D.fn (Fn.func 67) [] []) rfl, tT, .inl, .ret _ _ _ c27, .ret _ _ _ c28] ++ [.ret _ _ _ c29] ++ List.replicate 6 (tC (eT k0)) ++ [tC k0, tF, tF, tF, tF, tF, tT, tF, tF] ++ [tF, tF, tF, tF]) (by kernel_rfl)).to (by simp only [wk, D.bool.injEq, eq_irc, mayI_0, zeroX, k0, k18, k26, Bool.true_and, Bool.false_and, Bool.and_true, Bool.and_false]; done)
      · skip
        have c30 := @reads_any_ok (op) (w) (dst) (src) (base) (disp) (imm) (cc) ho
        have c31 := @writes_any_ok (op) (w) (dst) (src) (base) (disp) (imm) (cc) ho
        have c32 := @mayX_ok (op) (w) (dst) (src) (base) (disp) (imm) (cc) ho
        exact (Ret.of_eval (d := .bool false) mixed Try.func13 (by kernel_rfl) ([.inl, .inl, tT, tT, tT, tT, tT, tT, tT, tT, tT, .get ([D.fn (Fn.func 67) [] [], D.fn (Fn.func 64) [] [], D.fn (Fn.func 64) [] [], D.fn (Fn.func 71) [] [], D.fn (Fn.func 72) [] [D.ptr false 2 0], D.fn (Fn.func 66) [] [], D.fn (Fn.func 74) [] []]) 0 (D.fn (Fn.func 67) [] []) rfl, tT, .inl, .ret _ _ _ c30, .ret _ _ _ c31] ++ [.ret _ _ _ c32] ++ List.replicate 6 (tC (eT k0)) ++ [tC k0, tF, tF, tF, tF, tF, tT, tF, tF] ++ [tF, tF, tF, tF]) (by kernel_rfl)).to (by simp only [wk, D.bool.injEq, eq_irc, mayI_0, zeroX, k0, k18, k26, Bool.true_and, Bool.false_and, Bool.and_true, Bool.and_false]; done)
theorem imay_1_ok (op w dst src base disp imm cc reg phys num to : Int) (ho : op ≤ 127) (hc : cc ≤ 127) (hp : phys ≤ 127) (g0 : -128 ≤ reg) (g1 : reg ≤ 127)  : Ret Try.prog 13 ([irD 1 op w dst src base disp imm cc reg phys num to]) (.bool (mayI 1 op w dst src base disp imm cc reg phys num to)) := by
  rcases Bool.eq_false_or_eq_true (scrM phys) with k0 | k0
  · skip
    rcases Bool.eq_false_or_eq_true (decide (IntKind.wrap IntKind.i64 reg < (0 : Int))) with h1 | h1
    · skip
      exact (Ret.of_eval (d := .bool false) mixed Try.func13 (by kernel_rfl) ([.inl, .inl, tT, tT, tT, tT, tT, tT, tT, tT, tT, .get ([D.fn (Fn.func 67) [] [], D.fn (Fn.func 64) [] [], D.fn (Fn.func 64) [] [], D.fn (Fn.func 71) [] [], D.fn (Fn.func 72) [] [D.ptr false 2 0], D.fn (Fn.func 66) [] [], D.fn (Fn.func 74) [] []]) 1 (D.fn (Fn.func 64) [] []) rfl, tT, .inl, .inl, tC (eT (leL 0 h1))] ++ [tC (eT (leL 0 h1)), tC (eT (leL 0 h1)), tC (leL 0 h1), tF, tF, tF, tF, tF, tF, tT, tF, tF, tF, tF, tF, tF]) (by kernel_rfl)).to (by simp only [wk, D.bool.injEq, eq_irc, mayI_1, zeroX, k0, h1, Bool.true_and, Bool.false_and, Bool.and_true, Bool.and_false]; (rw [Bool.eq_iff_iff]; simp only [beq_iff_eq, beq_eq_false_iff_ne, ne_eq, w_i64, Bool.and_eq_true, Bool.false_eq_true, decide_eq_true_eq, decide_eq_false_iff_not, false_iff, iff_false, true_iff, iff_true, true_and, and_true] at *; first | done | omega | (intro hh; omega) | (simp; done) | (intro hh; simp at hh; omega) | (constructor <;> intro hh <;> omega)))
    · skip
      rcases Bool.eq_false_or_eq_true (decide (IntKind.wrap IntKind.i64 reg < (11 : Int))) with h2 | h2
      · skip
        have c3 := @phys_ok (phys) hp
        exact (Ret.of_eval (d := .bool (eqCells [.int .i8 1, .int .i8 op, .int .i8 w, .int .i8 dst, .int .i8 src, .int .i8 base, .int .i64 disp, .int .i64 imm, .int .i8 cc, .int .i8 0, .int .i8 0, .int .i64 num, .int .i64 to] [.int .i8 1, .int .i8 0, .int .i8 0, .int .i8 0, .int .i8 0, .int .i8 0, .int .i64 0, .int .i64 0, .int .i8 0, .int .i8 0, .int .i8 0, .int .i64 0, .int .i64 0])) mixed Try.func13 (by kernel_rfl) ([.inl, .inl, tT, tT, tT, tT, tT, tT, tT, tT, tT, .get ([D.fn (Fn.func 67) [] [], D.fn (Fn.func 64) [] [], D.fn (Fn.func 64) [] [], D.fn (Fn.func 71) [] [], D.fn (Fn.func 72) [] [D.ptr false 2 0], D.fn (Fn.func 66) [] [], D.fn (Fn.func 74) [] []]) 1 (D.fn (Fn.func 64) [] []) rfl, tT, .inl, .inl, tC (eT (leL 0 h1))] ++ [tC (eT (leL 0 h1)), tC (eT (leL 0 h1)), tC (leL 0 h1)] ++ List.replicate 5 (tC (eT (leC 10 h2))) ++ [.ret _ _ _ c3, tC (leC 10 h2), tT] ++ List.replicate 5 (tC (eT k0)) ++ [.flat _ _ flat_Ir, tC k0]) (by kernel_rfl)).to (by simp only [wk, D.bool.injEq, eq_irc, mayI_1, zeroX, k0, h1, h2, Bool.true_and, Bool.false_and, Bool.and_true, Bool.and_false]; (rw [Bool.eq_iff_iff]; simp only [beq_iff_eq, beq_eq_false_iff_ne, ne_eq, w_i64, Bool.and_eq_true, Bool.false_eq_true, decide_eq_true_eq, decide_eq_false_iff_not, false_iff, iff_false, true_iff, iff_true, true_and, and_true] at *; first | done | omega | (intro hh; omega) | (simp; done) | (intro hh; simp at hh; omega) | (constructor <;> intro hh <;> omega)))
      · skip
        exact (Ret.of_eval (d := .bool false) mixed Try.func13 (by kernel_rfl) ([.inl, .inl, tT, tT, tT, tT, tT, tT, tT, tT, tT, .get ([D.fn (Fn.func 67) [] [], D.fn (Fn.func 64) [] [], D.fn (Fn.func 64) [] [], D.fn (Fn.func 71) [] [], D.fn (Fn.func 72) [] [D.ptr false 2 0], D.fn (Fn.func 66) [] [], D.fn (Fn.func 74) [] []]) 1 (D.fn (Fn.func 64) [] []) rfl, tT, .inl, .inl, tC (eT (leL 0 h1))] ++ [tC (eT (leL 0 h1)), tC (eT (leL 0 h1)), tC (leL 0 h1)] ++ List.replicate 5 (tC (eT (leC 10 h2))) ++ [tC (leC 10 h2), tT, tF, tF, tF, tF, tF, tF]) (by kernel_rfl)).to (by simp only [wk, D.bool.injEq, eq_irc, mayI_1, zeroX, k0, h1, h2, Bool.true_and, Bool.false_and, Bool.and_true, Bool.and_false]; (rw [Bool.eq_iff_iff]; simp only [beq_iff_eq, beq_eq_false_iff_ne, ne_eq, w_i64, Bool.and_eq_true, Bool.false_eq_true, decide_eq_true_eq, decide_eq_false_iff_not, false_iff, iff_false, true_iff, iff_true, true_and, and_true] at *; first | done | omega | (intro hh; omega) | (simp; done) | (intro hh; simp at hh; omega) | (constructor <;> intro hh <;> omega)))
  · skip
    rcases Bool.eq_false_or_eq_true (decide (IntKind.wrap IntKind.i64 reg < (0 : Int))) with h4 | h4
    · skip
      exact (Ret.of_eval (d := .bool false) mixed Try.func13 (by kernel_rfl) ([.inl, .inl, tT, tT, tT, tT, tT, tT, tT, tT, tT, .get ([D.fn (Fn.func 67) [] [], D.fn (Fn.func 64) [] [], D.fn (Fn.func 64) [] [], D.fn (Fn.func 71) [] [], D.fn (Fn.func 72) [] [D.ptr false 2 0], D.fn (Fn.func 66) [] [], D.fn (Fn.func 74) [] []]) 1 (D.fn (Fn.func 64) [] []) rfl, tT, .inl, .inl, tC (eT (leL 0 h4))] ++ [tC (eT (leL 0 h4)), tC (eT (leL 0 h4)), tC (leL 0 h4), tF, tF, tF, tF, tF, tF, tT, tF, tF, tF, tF, tF, tF]) (by kernel_rfl)).to (by simp only [wk, D.bool.injEq, eq_irc, mayI_1, zeroX, k0, h4, Bool.true_and, Bool.false_and, Bool.and_true, Bool.and_false]; done)
    · skip
      rcases Bool.eq_false_or_eq_true (decide (IntKind.wrap IntKind.i64 reg < (11 : Int))) with h5 | h5
      · skip
        have c6 := @phys_ok (phys) hp
        exact (Ret.of_eval (d := .bool false) mixed Try.func13 (by kernel_rfl) ([.inl, .inl, tT, tT, tT, tT, tT, tT, tT, tT, tT, .get ([D.fn (Fn.func 67) [] [], D.fn (Fn.func 64) [] [], D.fn (Fn.func 64) [] [], D.fn (Fn.func 71) [] [], D.fn (Fn.func 72) [] [D.ptr false 2 0], D.fn (Fn.func 66) [] [], D.fn (Fn.func 74) [] []]) 1 (D.fn (Fn.func 64) [] []) rfl, tT, .inl, .inl, tC (eT (leL 0 h4))] ++ [tC (eT (leL 0 h4)), tC (eT (leL 0 h4)), tC (leL 0 h4)] ++ List.replicate 5 (tC (eT (leC 10 h5))) ++ [.ret _ _ _ c6, tC (leC 10 h5), tT] ++ List.replicate 5 (tC (eT k0)) ++ [tC k0]) (by kernel_rfl)).to (by simp only [wk, D.bool.injEq, eq_irc, mayI_1, zeroX, k0, h4, h5, Bool.true_and, Bool.false_and, Bool.and_true, Bool.and_false]; done)
      · skip
        exact (Ret.of_eval (d := .bool false) mixed Try.func13 (by kernel_rfl) ([.inl, .inl, tT, tT, tT, tT, tT, tT, tT, tT, tT, .get ([D.fn (Fn.func 67) [] [], D.fn (Fn.func 64) [] [], D.fn (Fn.func 64) [] [], D.fn (Fn.func 71) [] [], D.fn (Fn.func 72) [] [D.ptr false 2 0], D.fn (Fn.func 66) [] [], D.fn (Fn.func 74) [] []]) 1 (D.fn (Fn.func 64) [] []) rfl, tT, .inl, .inl, tC (eT (leL 0 h4))] ++ [tC (eT (leL 0 h4)), tC (eT (leL 0 h4)), tC (leL 0 h4)] ++ List.replicate 5 (tC (eT (leC 10 h5))) ++ [tC (leC 10 h5), tT, tF, tF, tF, tF, tF, tF]) (by kernel_rfl)).to (by simp only [wk, D.bool.injEq, eq_irc, mayI_1, zeroX, k0, h4, h5, Bool.true_and, Bool.false_and, Bool.and_true, Bool.and_false]; done)
theorem imay_2_ok (op w dst src base disp imm cc reg phys num to : Int) (ho : op ≤ 127) (hc : cc ≤ 127) (hp : phys ≤ 127) (g0 : -128 ≤ reg) (g1 : reg ≤ 127)  : Ret Try.prog 13 ([irD 2 op w dst src base disp imm cc reg phys num to]) (.bool (mayI 2 op w dst src base disp imm cc reg phys num to)) := by
  rcases Bool.eq_false_or_eq_true (scrM phys) with k0 | k0
  · skip
    rcases Bool.eq_false_or_eq_true (decide (IntKind.wrap IntKind.i64 reg < (0 : Int))) with h1 | h1
    · skip
      exact (Ret.of_eval (d := .bool false) mixed Try.func13 (by kernel_rfl) ([.inl, .inl, tT, tT, tT, tT, tT, tT, tT, tT, tT, .get ([D.fn (Fn.func 67) [] [], D.fn (Fn.func 64) [] [], D.fn (Fn.func 64) [] [], D.fn (Fn.func 71) [] [], D.fn (Fn.func 72) [] [D.ptr false 2 0], D.fn (Fn.func 66) [] [], D.fn (Fn.func 74) [] []]) 2 (D.fn (Fn.func 64) [] []) rfl, tT, .inl, .inl, tC (eT (leL 0 h1))] ++ [tC (eT (leL 0 h1)), tC (eT (leL 0 h1)), tC (leL 0 h1), tF, tF, tF, tF, tF, tF, tT, tF, tF, tF, tF, tF, tF]) (by kernel_rfl)).to (by simp only [wk, D.bool.injEq, eq_irc, mayI_2, zeroX, k0, h1, Bool.true_and, Bool.false_and, Bool.and_true, Bool.and_false]; (rw [Bool.eq_iff_iff]; simp only [beq_iff_eq, beq_eq_false_iff_ne, ne_eq, w_i64, Bool.and_eq_true, Bool.false_eq_true, decide_eq_true_eq, decide_eq_false_iff_not, false_iff, iff_false, true_iff, iff_true, true_and, and_true] at *; first | done | omega | (intro hh; omega) | (simp; done) | (intro hh; simp at hh; omega) | (constructor <;> intro hh <;> omega)))
    · skip
      rcases Bool.eq_false_or_eq_true (decide (IntKind.wrap IntKind.i64 reg < (11 : Int))) with h2 | h2
      · skip
        have c3 := @phys_ok (phys) hp
        exact (Ret.of_eval (d := .bool (eqCells [.int .i8 2, .int .i8 op, .int .i8 w, .int .i8 dst, .int .i8 src, .int .i8 base, .int .i64 disp, .int .i64 imm, .int .i8 cc, .int .i8 0, .int .i8 0, .int .i64 num, .int .i64 to] [.int .i8 2, .int .i8 0, .int .i8 0, .int .i8 0, .int .i8 0, .int .i8 0, .int .i64 0, .int .i64 0, .int .i8 0, .int .i8 0, .int .i8 0, .int .i64 0, .int .i64 0])) mixed Try.func13 (by kernel_rfl) ([.inl, .inl, tT, tT, tT, tT, tT, tT, tT, tT, tT, .get ([D.fn (Fn.func 67) [] [], D.fn (Fn.func 64) [] [], D.fn (Fn.func 64) [] [], D.fn (Fn.func 71) [] [], D.fn (Fn.func 72) [] [D.ptr false 2 0], D.fn (Fn.func 66) [] [], D.fn (Fn.func 74) [] []]) 2 (D.fn (Fn.func 64) [] []) rfl, tT, .inl, .inl, tC (eT (leL 0 h1))] ++ [tC (eT (leL 0 h1)), tC (eT (leL 0 h1)), tC (leL 0 h1)] ++ List.replicate 5 (tC (eT (leC 10 h2))) ++ [.ret _ _ _ c3, tC (leC 10 h2), tT] ++ List.replicate 5 (tC (eT k0)) ++ [.flat _ _ flat_Ir, tC k0]) (by kernel_rfl)).to (by simp only [wk, D.bool.injEq, eq_irc, mayI_2, zeroX, k0, h1, h2, Bool.true_and, Bool.false_and, Bool.and_true, Bool.and_false]; (rw [Bool.eq_iff_iff]; simp only [beq_iff_eq, beq_eq_false_iff_ne, ne_eq, w_i64, Bool.and_eq_true, Bool.false_eq_true, decide_eq_true_eq, decide_eq_false_iff_not, false_iff, iff_false, true_iff, iff_true, true_and, and_true] at *; first | done | omega | (intro hh; omega) | (simp; done) | (intro hh; simp at hh; omega) | (constructor <;> intro hh <;> omega)))
      · skip
        exact (Ret.of_eval (d := .bool false) mixed Try.func13 (by kernel_rfl) ([.inl, .inl, tT, tT, tT, tT, tT, tT, tT, tT, tT, .get ([D.fn (Fn.func 67) [] [], D.fn (Fn.func 64) [] [], D.fn (Fn.func 64) [] [], D.fn (Fn.func 71) [] [], D.fn (Fn.func 72) [] [D.ptr false 2 0], D.fn (Fn.func 66) [] [], D.fn (Fn.func 74) [] []]) 2 (D.fn (Fn.func 64) [] []) rfl, tT, .inl, .inl, tC (eT (leL 0 h1))] ++ [tC (eT (leL 0 h1)), tC (eT (leL 0 h1)), tC (leL 0 h1)] ++ List.replicate 5 (tC (eT (leC 10 h2))) ++ [tC (leC 10 h2), tT, tF, tF, tF, tF, tF, tF]) (by kernel_rfl)).to (by simp only [wk, D.bool.injEq, eq_irc, mayI_2, zeroX, k0, h1, h2, Bool.true_and, Bool.false_and, Bool.and_true, Bool.and_false]; (rw [Bool.eq_iff_iff]; simp only [beq_iff_eq, beq_eq_false_iff_ne, ne_eq, w_i64, Bool.and_eq_true, Bool.false_eq_true, decide_eq_true_eq, decide_eq_false_iff_not, false_iff, iff_false, true_iff, iff_true, true_and, and_true] at *; first | done | omega | (intro hh; omega) | (simp; done) | (intro hh; simp at hh; omega) | (constructor <;> intro hh <;> omega)))
  · skip
    rcases Bool.eq_false_or_eq_true (decide (IntKind.wrap IntKind.i64 reg < (0 : Int))) with h4 | h4
    · skip
      exact (Ret.of_eval (d := .bool false) mixed Try.func13 (by kernel_rfl) ([.inl, .inl, tT, tT, tT, tT, tT, tT, tT, tT, tT, .get ([D.fn (Fn.func 67) [] [], D.fn (Fn.func 64) [] [], D.fn (Fn.func 64) [] [], D.fn (Fn.func 71) [] [], D.fn (Fn.func 72) [] [D.ptr false 2 0], D.fn (Fn.func 66) [] [], D.fn (Fn.func 74) [] []]) 2 (D.fn (Fn.func 64) [] []) rfl, tT, .inl, .inl, tC (eT (leL 0 h4))] ++ [tC (eT (leL 0 h4)), tC (eT (leL 0 h4)), tC (leL 0 h4), tF, tF, tF, tF, tF, tF, tT, tF, tF, tF, tF, tF, tF]) (by kernel_rfl)).to (by simp only [wk, D.bool.injEq, eq_irc, mayI_2, zeroX, k0, h4, Bool.true_and, Bool.false_and, Bool.and_true, Bool.and_false]; done)
    · skip
      rcases Bool.eq_false_or_eq_true (decide (IntKind.wrap IntKind.i64 reg < (11 : Int))) with h5 | h5
      · skip
        have c6 := @phys_ok (phys) hp
        exact (Ret.of_eval (d := .bool false) mixed Try.func13 (by kernel_rfl) ([.inl, .inl, tT, tT, tT, tT, tT, tT, tT, tT, tT, .get ([D.fn (Fn.func 67) [] [], D.fn (Fn.func 64) [] [], D.fn (Fn.func 64) [] [], D.fn (Fn.func 71) [] [], D.fn (Fn.func 72) [] [D.ptr false 2 0], D.fn (Fn.func 66) [] [], D.fn (Fn.func 74) [] []]) 2 (D.fn (Fn.func 64) [] []) rfl, tT, .inl, .inl, tC (eT (leL 0 h4))] ++ [tC (eT (leL 0 h4)), tC (eT (leL 0 h4)), tC (leL 0 h4)] ++ List.replicate 5 (tC (eT (leC 10 h5))) ++ [.ret _ _ _ c6, tC (leC 10 h5), tT] ++ List.replicate 5 (tC (eT k0)) ++ [tC k0]) (by kernel_rfl)).to (by simp only [wk, D.bool.injEq, eq_irc, mayI_2, zeroX, k0, h4, h5, Bool.true_and, Bool.false_and, Bool.and_true, Bool.and_false]; done)
      · skip
        exact (Ret.of_eval (d := .bool false) mixed Try.func13 (by kernel_rfl) ([.inl, .inl, tT, tT, tT, tT, tT, tT, tT, tT, tT, .get ([D.fn (Fn.func 67) [] [], D.fn (Fn.func 64) [] [], D.fn (Fn.func 64) [] [], D.fn (Fn.func 71) [] [], D.fn (Fn.func 72) [] [D.ptr false 2 0], D.fn (Fn.func 66) [] [], D.fn (Fn.func 74) [] []]) 2 (D.fn (Fn.func 64) [] []) rfl, tT, .inl, .inl, tC (eT (leL 0 h4))] ++ [tC (eT (leL 0 h4)), tC (eT (leL 0 h4)), tC (leL 0 h4)] ++ List.replicate 5 (tC (eT (leC 10 h5))) ++ [tC (leC 10 h5), tT, tF, tF, tF, tF, tF, tF]) (by kernel_rfl)).to (by simp only [wk, D.bool.injEq, eq_irc, mayI_2, zeroX, k0, h4, h5, Bool.true_and, Bool.false_and, Bool.and_true, Bool.and_false]; done)
theorem imay_3_ok (op w dst src base disp imm cc reg phys num to : Int) (ho : op ≤ 127) (hc : cc ≤ 127) (hp : phys ≤ 127) (g0 : -128 ≤ reg) (g1 : reg ≤ 127)  : Ret Try.prog 13 ([irD 3 op w dst src base disp imm cc reg phys num to]) (.bool (mayI 3 op w dst src base disp imm cc reg phys num to)) := by
  rcases Bool.eq_false_or_eq_true (decide (num < (0 : Int))) with h0 | h0
  · skip
    exact (Ret.of_eval (d := .bool false) mixed Try.func13 (by kernel_rfl) ([.inl, .inl, tT, tT, tT, tT, tT, tT, tT, tT, tT, .get ([D.fn (Fn.func 67) [] [], D.fn (Fn.func 64) [] [], D.fn (Fn.func 64) [] [], D.fn (Fn.func 71) [] [], D.fn (Fn.func 72) [] [D.ptr false 2 0], D.fn (Fn.func 66) [] [], D.fn (Fn.func 74) [] []]) 3 (D.fn (Fn.func 71) [] []) rfl, tT, .inl, .inl, tC (eT (leL 0 h0))] ++ [tC (eT (leL 0 h0)), tC (eT (leL 0 h0)), tC (leL 0 h0), tT, tF, tF, tF, tF, tF, tF]) (by kernel_rfl)).to (by simp only [wk, D.bool.injEq, eq_irc, mayI_3, zeroX, h0, Bool.true_and, Bool.false_and, Bool.and_true, Bool.and_false]; (rw [Bool.eq_iff_iff]; simp only [beq_iff_eq, beq_eq_false_iff_ne, ne_eq, w_i64, Bool.and_eq_true, Bool.false_eq_true, decide_eq_true_eq, decide_eq_false_iff_not, false_iff, iff_false, true_iff, iff_true, true_and, and_true] at *; first | done | omega | (intro hh; omega) | (simp; done) | (intro hh; simp at hh; omega) | (constructor <;> intro hh <;> omega)))
  · skip
    rcases Bool.eq_false_or_eq_true (decide (num < (16 : Int))) with h1 | h1
    · skip
      exact (Ret.of_eval (d := .bool (eqCells [.int .i8 3, .int .i8 op, .int .i8 w, .int .i8 dst, .int .i8 src, .int .i8 base, .int .i64 disp, .int .i64 imm, .int .i8 cc, .int .i8 reg, .int .i8 phys, .int .i64 0, .int .i64 to] [.int .i8 3, .int .i8 0, .int .i8 0, .int .i8 0, .int .i8 0, .int .i8 0, .int .i64 0, .int .i64 0, .int .i8 0, .int .i8 0, .int .i8 0, .int .i64 0, .int .i64 0])) mixed Try.func13 (by kernel_rfl) ([.inl, .inl, tT, tT, tT, tT, tT, tT, tT, tT, tT, .get ([D.fn (Fn.func 67) [] [], D.fn (Fn.func 64) [] [], D.fn (Fn.func 64) [] [], D.fn (Fn.func 71) [] [], D.fn (Fn.func 72) [] [D.ptr false 2 0], D.fn (Fn.func 66) [] [], D.fn (Fn.func 74) [] []]) 3 (D.fn (Fn.func 71) [] []) rfl, tT, .inl, .inl, tC (eT (leL 0 h0))] ++ [tC (eT (leL 0 h0)), tC (eT (leL 0 h0)), tC (leL 0 h0), tT] ++ List.replicate 5 (tC (eT (leC 15 h1))) ++ [.flat _ _ flat_Ir, tC (leC 15 h1)]) (by kernel_rfl)).to (by simp only [wk, D.bool.injEq, eq_irc, mayI_3, zeroX, h0, h1, Bool.true_and, Bool.false_and, Bool.and_true, Bool.and_false]; (rw [Bool.eq_iff_iff]; simp only [beq_iff_eq, beq_eq_false_iff_ne, ne_eq, w_i64, Bool.and_eq_true, Bool.false_eq_true, decide_eq_true_eq, decide_eq_false_iff_not, false_iff, iff_false, true_iff, iff_true, true_and, and_true] at *; first | done | omega | (intro hh; omega) | (simp; done) | (intro hh; simp at hh; omega) | (constructor <;> intro hh <;> omega)))
    · skip
      exact (Ret.of_eval (d := .bool false) mixed Try.func13 (by kernel_rfl) ([.inl, .inl, tT, tT, tT, tT, tT, tT, tT, tT, tT, .get ([D.fn (Fn.func 67) [] [], D.fn (Fn.func 64) [] [], D.fn (Fn.func 64) [] [], D.fn (Fn.func 71) [] [], D.fn (Fn.func 72) [] [D.ptr false 2 0], D.fn (Fn.func 66) [] [], D.fn (Fn.func 74) [] []]) 3 (D.fn (Fn.func 71) [] []) rfl, tT, .inl, .inl, tC (eT (leL 0 h0))] ++ [tC (eT (leL 0 h0)), tC (eT (leL 0 h0)), tC (leL 0 h0), tT] ++ List.replicate 5 (tC (eT (leC 15 h1))) ++ [tC (leC 15 h1)]) (by kernel_rfl)).to (by simp only [wk, D.bool.injEq, eq_irc, mayI_3, zeroX, h0, h1, Bool.true_and, Bool.false_and, Bool.and_true, Bool.and_false]; (rw [Bool.eq_iff_iff]; simp only [beq_iff_eq, beq_eq_false_iff_ne, ne_eq, w_i64, Bool.and_eq_true, Bool.false_eq_true, decide_eq_true_eq, decide_eq_false_iff_not, false_iff, iff_false, true_iff, iff_true, true_and, and_true] at *; first | done | omega | (intro hh; omega) | (simp; done) | (intro hh; simp at hh; omega) | (constructor <;> intro hh <;> omega)))
theorem imay_4_ok (op w dst src base disp imm cc reg phys num to : Int) (ho : op ≤ 127) (hc : cc ≤ 127) (hp : phys ≤ 127) (g0 : -128 ≤ reg) (g1 : reg ≤ 127)  : Ret Try.prog 13 ([irD 4 op w dst src base disp imm cc reg phys num to]) (.bool (mayI 4 op w dst src base disp imm cc reg phys num to)) := by
  by_cases h0 : op = 29
  · subst h0
    by_cases h1 : w = 0
    · subst h1
      by_cases h2 : dst = 0
      · subst h2
        by_cases h3 : src = 0
        · subst h3
          by_cases h4 : base = 0
          · subst h4
            by_cases h5 : disp = 0
            · subst h5
              by_cases h6 : imm = 0
              · subst h6
                have c7 := @fmay_any_ok (cc)
                rcases Bool.eq_false_or_eq_true (decide (to < (0 : Int))) with h8 | h8
                · skip
                  exact (Ret.of_eval (d := .bool false) mixed Try.func13 (by kernel_rfl) ([.inl, .inl, tT, tT, tT, tT, tT, tT, tT, tT, tT, .get ([D.fn (Fn.func 67) [] [], D.fn (Fn.func 64) [] [], D.fn (Fn.func 64) [] [], D.fn (Fn.func 71) [] [], D.fn (Fn.func 72) [] [D.ptr false 2 0], D.fn (Fn.func 66) [] [], D.fn (Fn.func 74) [] []]) 4 (D.fn (Fn.func 72) [] [D.ptr false 2 0]) rfl, tT, .inl, .flat _ _ flat_X, tC (eT (andT rfl (andT rfl (andT rfl (andT rfl (andT rfl (andT rfl (andT rfl (andT (beq_self_eq_true (cc)) (rfl : true = true))))))))))] ++ List.replicate 5 (tC (eT (andT rfl (andT rfl (andT rfl (andT rfl (andT rfl (andT rfl (andT rfl (andT (beq_self_eq_true (cc)) (rfl : true = true))))))))))) ++ [.ret _ _ _ c7, tC (andT rfl (andT rfl (andT rfl (andT rfl (andT rfl (andT rfl (andT rfl (andT (beq_self_eq_true (cc)) (rfl : true = true))))))))), .inl, .inl] ++ List.replicate 3 (tC (eT (leL 0 h8))) ++ [tC (leL 0 h8), tF, tF, tT] ++ [tF, tF, tF, tF, tF, tF]) (by kernel_rfl)).to (by simp only [wk, D.bool.injEq, eq_irc, mayI_4, zeroX, h8, Bool.true_and, Bool.false_and, Bool.and_true, Bool.and_false]; (rw [Bool.eq_iff_iff]; simp only [beq_iff_eq, beq_eq_false_iff_ne, ne_eq, w_i64, Bool.and_eq_true, Bool.false_eq_true, decide_eq_true_eq, decide_eq_false_iff_not, false_iff, iff_false, true_iff, iff_true, true_and, and_true] at *; first | done | omega | (intro hh; omega) | (simp; done) | (intro hh; simp at hh; omega) | (constructor <;> intro hh <;> omega)))
                · skip
                  rcases Bool.eq_false_or_eq_true (decide (to < (65 : Int))) with h9 | h9
                  · skip
                    rcases Bool.eq_false_or_eq_true (ccM cc) with h10 | h10
                    · skip
                      exact (Ret.of_eval (d := .bool (eqCells [.int .i8 4, .int .i8 0, .int .i8 0, .int .i8 0, .int .i8 0, .int .i8 0, .int .i64 0, .int .i64 0, .int .i8 0, .int .i8 reg, .int .i8 phys, .int .i64 num, .int .i64 0] [.int .i8 4, .int .i8 0, .int .i8 0, .int .i8 0, .int .i8 0, .int .i8 0, .int .i64 0, .int .i64 0, .int .i8 0, .int .i8 0, .int .i8 0, .int .i64 0, .int .i64 0])) mixed Try.func13 (by kernel_rfl) ([.inl, .inl, tT, tT, tT, tT, tT, tT, tT, tT, tT, .get ([D.fn (Fn.func 67) [] [], D.fn (Fn.func 64) [] [], D.fn (Fn.func 64) [] [], D.fn (Fn.func 71) [] [], D.fn (Fn.func 72) [] [D.ptr false 2 0], D.fn (Fn.func 66) [] [], D.fn (Fn.func 74) [] []]) 4 (D.fn (Fn.func 72) [] [D.ptr false 2 0]) rfl, tT, .inl, .flat _ _ flat_X, tC (eT (andT rfl (andT rfl (andT rfl (andT rfl (andT rfl (andT rfl (andT rfl (andT (beq_self_eq_true (cc)) (rfl : true = true))))))))))] ++ List.replicate 5 (tC (eT (andT rfl (andT rfl (andT rfl (andT rfl (andT rfl (andT rfl (andT rfl (andT (beq_self_eq_true (cc)) (rfl : true = true))))))))))) ++ [.ret _ _ _ c7, tC (andT rfl (andT rfl (andT rfl (andT rfl (andT rfl (andT rfl (andT rfl (andT (beq_self_eq_true (cc)) (rfl : true = true))))))))), .inl, .inl] ++ List.replicate 3 (tC (eT (leL 0 h8))) ++ [tC (leL 0 h8), tC (eT (leC 64 h9)), tC (leC 64 h9), tT] ++ List.replicate 5 (tC (eT h10)) ++ [.flat _ _ flat_Ir, tC h10]) (by kernel_rfl)).to (by simp only [wk, D.bool.injEq, eq_irc, mayI_4, zeroX, h8, h9, h10, Bool.true_and, Bool.false_and, Bool.and_true, Bool.and_false]; (rw [Bool.eq_iff_iff]; simp only [beq_iff_eq, beq_eq_false_iff_ne, ne_eq, w_i64, Bool.and_eq_true, Bool.false_eq_true, decide_eq_true_eq, decide_eq_false_iff_not, false_iff, iff_false, true_iff, iff_true, true_and, and_true] at *; first | done | omega | (intro hh; omega) | (simp; done) | (intro hh; simp at hh; omega) | (constructor <;> intro hh <;> omega)))
                    · skip
                      exact (Ret.of_eval (d := .bool false) mixed Try.func13 (by kernel_rfl) ([.inl, .inl, tT, tT, tT, tT, tT, tT, tT, tT, tT, .get ([D.fn (Fn.func 67) [] [], D.fn (Fn.func 64) [] [], D.fn (Fn.func 64) [] [], D.fn (Fn.func 71) [] [], D.fn (Fn.func 72) [] [D.ptr false 2 0], D.fn (Fn.func 66) [] [], D.fn (Fn.func 74) [] []]) 4 (D.fn (Fn.func 72) [] [D.ptr false 2 0]) rfl, tT, .inl, .flat _ _ flat_X, tC (eT (andT rfl (andT rfl (andT rfl (andT rfl (andT rfl (andT rfl (andT rfl (andT (beq_self_eq_true (cc)) (rfl : true = true))))))))))] ++ List.replicate 5 (tC (eT (andT rfl (andT rfl (andT rfl (andT rfl (andT rfl (andT rfl (andT rfl (andT (beq_self_eq_true (cc)) (rfl : true = true))))))))))) ++ [.ret _ _ _ c7, tC (andT rfl (andT rfl (andT rfl (andT rfl (andT rfl (andT rfl (andT rfl (andT (beq_self_eq_true (cc)) (rfl : true = true))))))))), .inl, .inl] ++ List.replicate 3 (tC (eT (leL 0 h8))) ++ [tC (leL 0 h8), tC (eT (leC 64 h9)), tC (leC 64 h9), tT] ++ List.replicate 5 (tC (eT h10)) ++ [tC h10]) (by kernel_rfl)).to (by simp only [wk, D.bool.injEq, eq_irc, mayI_4, zeroX, h8, h9, h10, Bool.true_and, Bool.false_and, Bool.and_true, Bool.and_false]; done)
                  · skip
                    exact (Ret.of_eval (d := .bool false) mixed Try.func13 (by kernel_rfl) ([.inl, .inl, tT, tT, tT, tT, tT, tT, tT, tT, tT, .get ([D.fn (Fn.func 67) [] [], D.fn (Fn.func 64) [] [], D.fn (Fn.func 64) [] [], D.fn (Fn.func 71) [] [], D.fn (Fn.func 72) [] [D.ptr false 2 0], D.fn (Fn.func 66) [] [], D.fn (Fn.func 74) [] []]) 4 (D.fn (Fn.func 72) [] [D.ptr false 2 0]) rfl, tT, .inl, .flat _ _ flat_X, tC (eT (andT rfl (andT rfl (andT rfl (andT rfl (andT rfl (andT rfl (andT rfl (andT (beq_self_eq_true (cc)) (rfl : true = true))))))))))] ++ List.replicate 5 (tC (eT (andT rfl (andT rfl (andT rfl (andT rfl (andT rfl (andT rfl (andT rfl (andT (beq_self_eq_true (cc)) (rfl : true = true))))))))))) ++ [.ret _ _ _ c7, tC (andT rfl (andT rfl (andT rfl (andT rfl (andT rfl (andT rfl (andT rfl (andT (beq_self_eq_true (cc)) (rfl : true = true))))))))), .inl, .inl] ++ List.replicate 3 (tC (eT (leL 0 h8))) ++ [tC (leL 0 h8), tC (eT (leC 64 h9)), tC (leC 64 h9), tT] ++ [tF, tF, tF, tF, tF, tF]) (by kernel_rfl)).to (by simp only [wk, D.bool.injEq, eq_irc, mayI_4, zeroX, h8, h9, Bool.true_and, Bool.false_and, Bool.and_true, Bool.and_false]; (rw [Bool.eq_iff_iff]; simp only [beq_iff_eq, beq_eq_false_iff_ne, ne_eq, w_i64, Bool.and_eq_true, Bool.false_eq_true, decide_eq_true_eq, decide_eq_false_iff_not, false_iff, iff_false, true_iff, iff_true, true_and, and_true] at *; first | done | omega | (intro hh; omega) | (simp; done) | (intro hh; simp at hh; omega) | (constructor <;> intro hh <;> omega)))
              · skip
                rcases Bool.eq_false_or_eq_true (decide (to < (0 : Int))) with h11 | h11
                · skip
                  exact (Ret.of_eval (d := .bool false) mixed Try.func13 (by kernel_rfl) ([.inl, .inl, tT, tT, tT, tT, tT, tT, tT, tT, tT, .get ([D.fn (Fn.func 67) [] [], D.fn (Fn.func 64) [] [], D.fn (Fn.func 64) [] [], D.fn (Fn.func 71) [] [], D.fn (Fn.func 72) [] [D.ptr false 2 0], D.fn (Fn.func 66) [] [], D.fn (Fn.func 74) [] []]) 4 (D.fn (Fn.func 72) [] [D.ptr false 2 0]) rfl, tT, .inl, .flat _ _ flat_X, tC (eT (andT rfl (andT rfl (andT rfl (andT rfl (andT rfl (andT rfl (andF (y := eqCells [.int .i8 cc] [.int .i8 cc]) (neOf h6)))))))))] ++ List.replicate 5 (tC (eT (andT rfl (andT rfl (andT rfl (andT rfl (andT rfl (andT rfl (andF (y := eqCells [.int .i8 cc] [.int .i8 cc]) (neOf h6)))))))))) ++ [tC (andT rfl (andT rfl (andT rfl (andT rfl (andT rfl (andT rfl (andF (y := eqCells [.int .i8 cc] [.int .i8 cc]) (neOf h6)))))))), .inl, .inl] ++ List.replicate 3 (tC (eT (leL 0 h11))) ++ [tC (leL 0 h11), tF, tF, tT, tF] ++ [tF, tF, tF, tF, tF]) (by kernel_rfl)).to (by simp only [wk, D.bool.injEq, eq_irc, mayI_4, zeroX, h6, h11, Bool.true_and, Bool.false_and, Bool.and_true, Bool.and_false]; (rw [Bool.eq_iff_iff]; simp only [beq_iff_eq, beq_eq_false_iff_ne, ne_eq, w_i64, Bool.and_eq_true, Bool.false_eq_true, decide_eq_true_eq, decide_eq_false_iff_not, false_iff, iff_false, true_iff, iff_true, true_and, and_true] at *; first | done | omega | (intro hh; omega) | (simp; done) | (intro hh; simp at hh; omega) | (constructor <;> intro hh <;> omega)))
                · skip
                  rcases Bool.eq_false_or_eq_true (decide (to < (65 : Int))) with h12 | h12
                  · skip
                    exact (Ret.of_eval (d := .bool false) mixed Try.func13 (by kernel_rfl) ([.inl, .inl, tT, tT, tT, tT, tT, tT, tT, tT, tT, .get ([D.fn (Fn.func 67) [] [], D.fn (Fn.func 64) [] [], D.fn (Fn.func 64) [] [], D.fn (Fn.func 71) [] [], D.fn (Fn.func 72) [] [D.ptr false 2 0], D.fn (Fn.func 66) [] [], D.fn (Fn.func 74) [] []]) 4 (D.fn (Fn.func 72) [] [D.ptr false 2 0]) rfl, tT, .inl, .flat _ _ flat_X, tC (eT (andT rfl (andT rfl (andT rfl (andT rfl (andT rfl (andT rfl (andF (y := eqCells [.int .i8 cc] [.int .i8 cc]) (neOf h6)))))))))] ++ List.replicate 5 (tC (eT (andT rfl (andT rfl (andT rfl (andT rfl (andT rfl (andT rfl (andF (y := eqCells [.int .i8 cc] [.int .i8 cc]) (neOf h6)))))))))) ++ [tC (andT rfl (andT rfl (andT rfl (andT rfl (andT rfl (andT rfl (andF (y := eqCells [.int .i8 cc] [.int .i8 cc]) (neOf h6)))))))), .inl, .inl] ++ List.replicate 3 (tC (eT (leL 0 h11))) ++ [tC (leL 0 h11), tC (eT (leC 64 h12)), tC (leC 64 h12), tT, tF] ++ [tF, tF, tF, tF, tF]) (by kernel_rfl)).to (by simp only [wk, D.bool.injEq, eq_irc, mayI_4, zeroX, h6, h11, h12, Bool.true_and, Bool.false_and, Bool.and_true, Bool.and_false]; (rw [Bool.eq_iff_iff]; simp only [beq_iff_eq, beq_eq_false_iff_ne, ne_eq, w_i64, Bool.and_eq_true, Bool.false_eq_true, decide_eq_true_eq, decide_eq_false_iff_not, false_iff, iff_false, true_iff, iff_true, true_and, and_true] at *; first | done | omega | (intro hh; omega) | (simp; done) | (intro hh; simp at hh; omega) | (constructor <;> intro hh <;> omega)))
                  · skip
                    exact (Ret.of_eval (d := .bool false) mixed Try.func13 (by kernel_rfl) ([.inl, .inl, tT, tT, tT, tT, tT, tT, tT, tT, tT, .get ([D.fn (Fn.func 67) [] [], D.fn (Fn.func 64) [] [], D.fn (Fn.func 64) [] [], D.fn (Fn.func 71) [] [], D.fn (Fn.func 72) [] [D.ptr false 2 0], D.fn (Fn.func 66) [] [], D.fn (Fn.func 74) [] []]) 4 (D.fn (Fn.func 72) [] [D.ptr false 2 0]) rfl, tT, .inl, .flat _ _ flat_X, tC (eT (andT rfl (andT rfl (andT rfl (andT rfl (andT rfl (andT rfl (andF (y := eqCells [.int .i8 cc] [.int .i8 cc]) (neOf h6)))))))))] ++ List.replicate 5 (tC (eT (andT rfl (andT rfl (andT rfl (andT rfl (andT rfl (andT rfl (andF (y := eqCells [.int .i8 cc] [.int .i8 cc]) (neOf h6)))))))))) ++ [tC (andT rfl (andT rfl (andT rfl (andT rfl (andT rfl (andT rfl (andF (y := eqCells [.int .i8 cc] [.int .i8 cc]) (neOf h6)))))))), .inl, .inl] ++ List.replicate 3 (tC (eT (leL 0 h11))) ++ [tC (leL 0 h11), tC (eT (leC 64 h12)), tC (leC 64 h12), tT, tF] ++ [tF, tF, tF, tF, tF]) (by kernel_rfl)).to (by simp only [wk, D.bool.injEq, eq_irc, mayI_4, zeroX, h6, h11, h12, Bool.true_and, Bool.false_and, Bool.and_true, Bool.and_false]; (rw [Bool.eq_iff_iff]; simp only [beq_iff_eq, beq_eq_false_iff_ne, ne_eq, w_i64, Bool.and_eq_true, Bool.false_eq_true, decide_eq_true_eq, decide_eq_false_iff_not, false_iff, iff_false, true_iff, iff_true, true_and, and_true] at *; first | done | omega | (intro hh; omega) | (simp; done) | (intro hh; simp at hh; omega) | (constructor <;> intro hh <;> omega)))
            · skip
              rcases Bool.eq_false_or_eq_true (decide (to < (0 : Int))) with h13 | h13
              · skip
                exact (Ret.of_eval (d := .bool false) mixed Try.func13 (by kernel_rfl) ([.inl, .inl, tT, tT, tT, tT, tT, tT, tT, tT, tT, .get ([D.fn (Fn.func 67) [] [], D.fn (Fn.func 64) [] [], D.fn (Fn.func 64) [] [], D.fn (Fn.func 71) [] [], D.fn (Fn.func 72) [] [D.ptr false 2 0], D.fn (Fn.func 66) [] [], D.fn (Fn.func 74) [] []]) 4 (D.fn (Fn.func 72) [] [D.ptr false 2 0]) rfl, tT, .inl, .flat _ _ flat_X, tC (eT (andT rfl (andT rfl (andT rfl (andT rfl (andT rfl (andF (y := eqCells [.int .i64 imm, .int .i8 cc] [.int .i64 0, .int .i8 cc]) (neOf h5))))))))] ++ List.replicate 5 (tC (eT (andT rfl (andT rfl (andT rfl (andT rfl (andT rfl (andF (y := eqCells [.int .i64 imm, .int .i8 cc] [.int .i64 0, .int .i8 cc]) (neOf h5))))))))) ++ [tC (andT rfl (andT rfl (andT rfl (andT rfl (andT rfl (andF (y := eqCells [.int .i64 imm, .int .i8 cc] [.int .i64 0, .int .i8 cc]) (neOf h5))))))), .inl, .inl] ++ List.replicate 3 (tC (eT (leL 0 h13))) ++ [tC (leL 0 h13), tF, tF, tT, tF] ++ [tF, tF, tF, tF, tF]) (by kernel_rfl)).to (by simp only [wk, D.bool.injEq, eq_irc, mayI_4, zeroX, h5, h13, Bool.true_and, Bool.false_and, Bool.and_true, Bool.and_false]; (rw [Bool.eq_iff_iff]; simp only [beq_iff_eq, beq_eq_false_iff_ne, ne_eq, w_i64, Bool.and_eq_true, Bool.false_eq_true, decide_eq_true_eq, decide_eq_false_iff_not, false_iff, iff_false, true_iff, iff_true, true_and, and_true] at *; first | done | omega | (intro hh; omega) | (simp; done) | (intro hh; simp at hh; omega) | (constructor <;> intro hh <;> omega)))
              · skip
                rcases Bool.eq_false_or_eq_true (decide (to < (65 : Int))) with h14 | h14
                · skip
                  exact (Ret.of_eval (d := .bool false) mixed Try.func13 (by kernel_rfl) ([.inl, .inl, tT, tT, tT, tT, tT, tT, tT, tT, tT, .get ([D.fn (Fn.func 67) [] [], D.fn (Fn.func 64) [] [], D.fn (Fn.func 64) [] [], D.fn (Fn.func 71) [] [], D.fn (Fn.func 72) [] [D.ptr false 2 0], D.fn (Fn.func 66) [] [], D.fn (Fn.func 74) [] []]) 4 (D.fn (Fn.func 72) [] [D.ptr false 2 0]) rfl, tT, .inl, .flat _ _ flat_X, tC (eT (andT rfl (andT rfl (andT rfl (andT rfl (andT rfl (andF (y := eqCells [.int .i64 imm, .int .i8 cc] [.int .i64 0, .int .i8 cc]) (neOf h5))))))))] ++ List.replicate 5 (tC (eT (andT rfl (andT rfl (andT rfl (andT rfl (andT rfl (andF (y := eqCells [.int .i64 imm, .int .i8 cc] [.int .i64 0, .int .i8 cc]) (neOf h5))))))))) ++ [tC (andT rfl (andT rfl (andT rfl (andT rfl (andT rfl (andF (y := eqCells [.int .i64 imm, .int .i8 cc] [.int .i64 0, .int .i8 cc]) (neOf h5))))))), .inl, .inl] ++ List.replicate 3 (tC (eT (leL 0 h13))) ++ [tC (leL 0 h13), tC (eT (leC 64 h14)), tC (leC 64 h14), tT, tF] ++ [tF, tF, tF, tF, tF]) (by kernel_rfl)).to (by simp only [wk, D.bool.injEq, eq_irc, mayI_4, zeroX, h5, h13, h14, Bool.true_and, Bool.false_and, Bool.and_true, Bool.and_false]; (rw [Bool.eq_iff_iff]; simp only [beq_iff_eq, beq_eq_false_iff_ne, ne_eq, w_i64, Bool.and_eq_true, Bool.false_eq_true, decide_eq_true_eq, decide_eq_false_iff_not, false_iff, iff_false, true_iff, iff_true, true_and, and_true] at *; first | done | omega | (intro hh; omega) | (simp; done) | (intro hh; simp at hh; omega) | (constructor <;> intro hh <;> omega)))
                · skip
                  exact (Ret.of_eval (d := .bool false) mixed Try.func13 (by kernel_rfl) ([.inl, .inl, tT, tT, tT, tT, tT, tT, tT, tT, tT, .get ([D.fn (Fn.func 67) [] [], D.fn (Fn.func 64) [] [], D.fn (Fn.func 64) [] [], D.fn (Fn.func 71) [] [], D.fn (Fn.func 72) [] [D.ptr false 2 0], D.fn (Fn.func 66) [] [], D.fn (Fn.func 74) [] []]) 4 (D.fn (Fn.func 72) [] [D.ptr false 2 0]) rfl, tT, .inl, .flat _ _ flat_X, tC (eT (andT rfl (andT rfl (andT rfl (andT rfl (andT rfl (andF (y := eqCells [.int .i64 imm, .int .i8 cc] [.int .i64 0, .int .i8 cc]) (neOf h5))))))))] ++ List.replicate 5 (tC (eT (andT rfl (andT rfl (andT rfl (andT rfl (andT rfl (andF (y := eqCells [.int .i64 imm, .int .i8 cc] [.int .i64 0, .int .i8 cc]) (neOf h5))))))))) ++ [tC (andT rfl (andT rfl (andT rfl (andT rfl (andT rfl (andF (y := eqCells [.int .i64 imm, .int .i8 cc] [.int .i64 0, .int .i8 cc]) (neOf h5))))))), .inl, .inl] ++ List.replicate 3 (tC (eT (leL 0 h13))) ++ [tC (leL 0 h13), tC (eT (leC 64 h14)), tC (leC 64 h14), tT, tF] ++ [tF, tF, tF, tF, tF]) (by kernel_rfl)).to (by simp only [wk, D.bool.injEq, eq_irc, mayI_4, zeroX, h5, h13, h14, Bool.true_and, Bool.false_and, Bool.and_true, Bool.and_false]; (rw [Bool.eq_iff_iff]; simp only [beq_iff_eq, beq_eq_false_iff_ne, ne_eq, w_i64, Bool.and_eq_true, Bool.false_eq_true, decide_eq_true_eq, decide_eq_false_iff_not, false_iff, iff_false, true_iff, iff_true, true_and, and_true] at *; first | done | omega | (intro hh; omega) | (simp; done) | (intro hh; simp at hh; omega) | (constructor <;> intro hh <;> omega)))
          · skip
            rcases Bool.eq_false_or_eq_true (decide (to < (0 : Int))) with h15 | h15
            · skip
              exact (Ret.of_eval (d := .bool false) mixed Try.func13 (by kernel_rfl) ([.inl, .inl, tT, tT, tT, tT, tT, tT, tT, tT, tT, .get ([D.fn (Fn.func 67) [] [], D.fn (Fn.func 64) [] [], D.fn (Fn.func 64) [] [], D.fn (Fn.func 71) [] [], D.fn (Fn.func 72) [] [D.ptr false 2 0], D.fn (Fn.func 66) [] [], D.fn (Fn.func 74) [] []]) 4 (D.fn (Fn.func 72) [] [D.ptr false 2 0]) rfl, tT, .inl, .flat _ _ flat_X, tC (eT (andT rfl (andT rfl (andT rfl (andT rfl (andF (y := eqCells [.int .i64 disp, .int .i64 imm, .int .i8 cc] [.int .i64 0, .int .i64 0, .int .i8 cc]) (neOf h4)))))))] ++ List.replicate 5 (tC (eT (andT rfl (andT rfl (andT rfl (andT rfl (andF (y := eqCells [.int .i64 disp, .int .i64 imm, .int .i8 cc] [.int .i64 0, .int .i64 0, .int .i8 cc]) (neOf h4)))))))) ++ [tC (andT rfl (andT rfl (andT rfl (andT rfl (andF (y := eqCells [.int .i64 disp, .int .i64 imm, .int .i8 cc] [.int .i64 0, .int .i64 0, .int .i8 cc]) (neOf h4)))))), .inl, .inl] ++ List.replicate 3 (tC (eT (leL 0 h15))) ++ [tC (leL 0 h15), tF, tF, tT, tF] ++ [tF, tF, tF, tF, tF]) (by kernel_rfl)).to (by simp only [wk, D.bool.injEq, eq_irc, mayI_4, zeroX, h4, h15, Bool.true_and, Bool.false_and, Bool.and_true, Bool.and_false]; (rw [Bool.eq_iff_iff]; simp only [beq_iff_eq, beq_eq_false_iff_ne, ne_eq, w_i64, Bool.and_eq_true, Bool.false_eq_true, decide_eq_true_eq, decide_eq_false_iff_not, false_iff, iff_false, true_iff, iff_true, true_and, and_true] at *; first | done | omega | (intro hh; omega) | (simp; done) | (intro hh; simp at hh; omega) | (constructor <;> intro hh <;> omega)))
            · skip
              rcases Bool.eq_false_or_eq_true (decide (to < (65 : Int))) with h16 | h16
              · skip
                exact (Ret.of_eval (d := .bool false) mixed Try.func13 (by kernel_rfl) ([.inl, .inl, tT, tT, tT, tT, tT, tT, tT, tT, tT, .get ([D.fn (Fn.func 67) [] [], D.fn (Fn.func 64) [] [], D.fn (Fn.func 64) [] [], D.fn (Fn.func 71) [] [], D.fn (Fn.func 72) [] [D.ptr false 2 0], D.fn (Fn.func 66) [] [], D.fn (Fn.func 74) [] []]) 4 (D.fn (Fn.func 72) [] [D.ptr false 2 0]) rfl, tT, .inl, .flat _ _ flat_X, tC (eT (andT rfl (andT rfl (andT rfl (andT rfl (andF (y := eqCells [.int .i64 disp, .int .i64 imm, .int .i8 cc] [.int .i64 0, .int .i64 0, .int .i8 cc]) (neOf h4)))))))] ++ List.replicate 5 (tC (eT (andT rfl (andT rfl (andT rfl (andT rfl (andF (y := eqCells [.int .i64 disp, .int .i64 imm, .int .i8 cc] [.int .i64 0, .int .i64 0, .int .i8 cc]) (neOf h4)))))))) ++ [tC (andT rfl (andT rfl (andT rfl (andT rfl (andF (y := eqCells [.int .i64 disp, .int .i64 imm, .int .i8 cc] [.int .i64 0, .int .i64 0, .int .i8 cc]) (neOf h4)))))), .inl, .inl] ++ List.replicate 3 (tC (eT (leL 0 h15))) ++ [tC (leL 0 h15), tC (eT (leC 64 h16)), tC (leC 64 h16), tT, tF] ++ [tF, tF, tF, tF, tF]) (by kernel_rfl)).to (by simp only [wk, D.bool.injEq, eq_irc, mayI_4, zeroX, h4, h15, h16, Bool.true_and, Bool.false_and, Bool.and_true, Bool.and_false]; (rw [Bool.eq_iff_iff]; simp only [beq_iff_eq, beq_eq_false_iff_ne, ne_eq, w_i64, Bool.and_eq_true, Bool.false_eq_true, decide_eq_true_eq, decide_eq_false_iff_not, false_iff, iff_false, true_iff, iff_true, true_and, and_true] at *; first | done | omega | (intro hh; omega) | (simp; done) | (intro hh; simp at hh; omega) | (constructor <;> intro hh <;> omega)))
              · skip
                exact (Ret.of_eval (d := .bool false) mixed Try.func13 (by kernel_rfl) ([.inl, .inl, tT, tT, tT, tT, tT, tT, tT, tT, tT, .get ([D.fn (Fn.func 67) [] [], D.fn (Fn.func 64) [] [], D.fn (Fn.func 64) [] [], D.fn (Fn.func 71) [] [], D.fn (Fn.func 72) [] [D.ptr false 2 0], D.fn (Fn.func 66) [] [], D.fn (Fn.func 74) [] []]) 4 (D.fn (Fn.func 72) [] [D.ptr false 2 0]) rfl, tT, .inl, .flat _ _ flat_X, tC (eT (andT rfl (andT rfl (andT rfl (andT rfl (andF (y := eqCells [.int .i64 disp, .int .i64 imm, .int .i8 cc] [.int .i64 0, .int .i64 0, .int .i8 cc]) (neOf h4)))))))] ++ List.replicate 5 (tC (eT (andT rfl (andT rfl (andT rfl (andT rfl (andF (y := eqCells [.int .i64 disp, .int .i64 imm, .int .i8 cc] [.int .i64 0, .int .i64 0, .int .i8 cc]) (neOf h4)))))))) ++ [tC (andT rfl (andT rfl (andT rfl (andT rfl (andF (y := eqCells [.int .i64 disp, .int .i64 imm, .int .i8 cc] [.int .i64 0, .int .i64 0, .int .i8 cc]) (neOf h4)))))), .inl, .inl] ++ List.replicate 3 (tC (eT (leL 0 h15))) ++ [tC (leL 0 h15), tC (eT (leC 64 h16)), tC (leC 64 h16), tT, tF] ++ [tF, tF, tF, tF, tF]) (by kernel_rfl)).to (by simp only [wk, D.bool.injEq, eq_irc, mayI_4, zeroX, h4, h15, h16, Bool.true_and, Bool.false_and, Bool.and_true, Bool.and_false]; (rw [Bool.eq_iff_iff]; simp only [beq_iff_eq, beq_eq_false_iff_ne, ne_eq, w_i64, Bool.and_eq_true, Bool.false_eq_true, decide_eq_true_eq, decide_eq_false_iff_not, false_iff, iff_false, true_iff, iff_true, true_and, and_true] at *; first | done | omega | (intro hh; omega) | (simp; done) | (intro hh; simp at hh; omega) | (constructor <;> intro hh <;> omega)))
        · skip
          rcases Bool.eq_false_or_eq_true (decide (to < (0 : Int))) with h17 | h17
          · skip
            exact (Ret.of_eval (d := .bool false) mixed Try.func13 (by kernel_rfl) ([.inl, .inl, tT, tT, tT, tT, tT, tT, tT, tT, tT, .get ([D.fn (Fn.func 67) [] [], D.fn (Fn.func 64) [] [], D.fn (Fn.func 64) [] [], D.fn (Fn.func 71) [] [], D.fn (Fn.func 72) [] [D.ptr false 2 0], D.fn (Fn.func 66) [] [], D.fn (Fn.func 74) [] []]) 4 (D.fn (Fn.func 72) [] [D.ptr false 2 0]) rfl, tT, .inl, .flat _ _ flat_X, tC (eT (andT rfl (andT rfl (andT rfl (andF (y := eqCells [.int .i8 base, .int .i64 disp, .int .i64 imm, .int .i8 cc] [.int .i8 0, .int .i64 0, .int .i64 0, .int .i8 cc]) (neOf h3))))))] ++ List.replicate 5 (tC (eT (andT rfl (andT rfl (andT rfl (andF (y := eqCells [.int .i8 base, .int .i64 disp, .int .i64 imm, .int .i8 cc] [.int .i8 0, .int .i64 0, .int .i64 0, .int .i8 cc]) (neOf h3))))))) ++ [tC (andT rfl (andT rfl (andT rfl (andF (y := eqCells [.int .i8 base, .int .i64 disp, .int .i64 imm, .int .i8 cc] [.int .i8 0, .int .i64 0, .int .i64 0, .int .i8 cc]) (neOf h3))))), .inl, .inl] ++ List.replicate 3 (tC (eT (leL 0 h17))) ++ [tC (leL 0 h17), tF, tF, tT, tF] ++ [tF, tF, tF, tF, tF]) (by kernel_rfl)).to (by simp only [wk, D.bool.injEq, eq_irc, mayI_4, zeroX, h3, h17, Bool.true_and, Bool.false_and, Bool.and_true, Bool.and_false]; (rw [Bool.eq_iff_iff]; simp only [beq_iff_eq, beq_eq_false_iff_ne, ne_eq, w_i64, Bool.and_eq_true, Bool.false_eq_true, decide_eq_true_eq, decide_eq_false_iff_not, false_iff, iff_false, true_iff, iff_true, true_and, and_true] at *; first | done | omega | (intro hh; omega) | (simp; done) | (intro hh; simp at hh; omega) | (constructor <;> intro hh <;> omega)))
          · skip
            rcases Bool.eq_false_or_eq_true (decide (to < (65 : Int))) with h18 | h18
            · skip
              exact (Ret.of_eval (d := .bool false) mixed Try.func13 (by kernel_rfl) ([.inl, .inl, tT, tT, tT, tT, tT, tT, tT, tT, tT, .get ([D.fn (Fn.func 67) [] [], D.fn (Fn.func 64) [] [], D.fn (Fn.func 64) [] [], D.fn (Fn.func 71) [] [], D.fn (Fn.func 72) [] [D.ptr false 2 0], D.fn (Fn.func 66) [] [], D.fn (Fn.func 74) [] []]) 4 (D.fn (Fn.func 72) [] [D.ptr false 2 0]) rfl, tT, .inl, .flat _ _ flat_X, tC (eT (andT rfl (andT rfl (andT rfl (andF (y := eqCells [.int .i8 base, .int .i64 disp, .int .i64 imm, .int .i8 cc] [.int .i8 0, .int .i64 0, .int .i64 0, .int .i8 cc]) (neOf h3))))))] ++ List.replicate 5 (tC (eT (andT rfl (andT rfl (andT rfl (andF (y := eqCells [.int .i8 base, .int .i64 disp, .int .i64 imm, .int .i8 cc] [.int .i8 0, .int .i64 0, .int .i64 0, .int .i8 cc]) (neOf h3))))))) ++ [tC (andT rfl (andT rfl (andT rfl (andF (y := eqCells [.int .i8 base, .int .i64 disp, .int .i64 imm, .int .i8 cc] [.int .i8 0, .int .i64 0, .int .i64 0, .int .i8 cc]) (neOf h3))))), .inl, .inl] ++ List.replicate 3 (tC (eT (leL 0 h17))) ++ [tC (leL 0 h17), tC (eT (leC 64 h18)), tC (leC 64 h18), tT, tF] ++ [tF, tF, tF, tF, tF]) (by kernel_rfl)).to (by simp only [wk, D.bool.injEq, eq_irc, mayI_4, zeroX, h3, h17, h18, Bool.true_and, Bool.false_and, Bool.and_true, Bool.and_false]; (rw [Bool.eq_iff_iff]; simp only [beq_iff_eq, beq_eq_false_iff_ne, ne_eq, w_i64, Bool.and_eq_true, Bool.false_eq_true, decide_eq_true_eq, decide_eq_false_iff_not, false_iff, iff_false, true_iff, iff_true, true_and, and_true] at *; first | done | omega | (intro hh; omega) | (simp; done) | (intro hh; simp at hh; omega) | (constructor <;> intro hh <;> omega)))
            · skip
              exact (Ret.of_eval (d := .bool false) mixed Try.func13 (by kernel_rfl) ([.inl, .inl, tT, tT, tT, tT, tT, tT, tT, tT, tT, .get ([D.fn (Fn.func 67) [] [], D.fn (Fn.func 64) [] [], D.fn (Fn.func 64) [] [], D.fn (Fn.func 71) [] [], D.fn (Fn.func 72) [] [D.ptr false 2 0], D.fn (Fn.func 66) [] [], D.fn (Fn.func 74) [] []]) 4 (D.fn (Fn.func 72) [] [D.ptr false 2 0]) rfl, tT, .inl, .flat _ _ flat_X, tC (eT (andT rfl (andT rfl (andT rfl (andF (y := eqCells [.int .i8 base, .int .i64 disp, .int .i64 imm, .int .i8 cc] [.int .i8 0, .int .i64 0, .int .i64 0, .int .i8 cc]) (neOf h3))))))] ++ List.replicate 5 (tC (eT (andT rfl (andT rfl (andT rfl (andF (y := eqCells [.int .i8 base, .int .i64 disp, .int .i64 imm, .int .i8 cc] [.int .i8 0, .int .i64 0, .int .i64 0, .int .i8 cc]) (neOf h3))))))) ++ [tC (andT rfl (andT rfl (andT rfl (andF (y := eqCells [.int .i8 base, .int .i64 disp, .int .i64 imm, .int .i8 cc] [.int .i8 0, .int .i64 0, .int .i64 0, .int .i8 cc]) (neOf h3))))), .inl, .inl] ++ List.replicate 3 (tC (eT (leL 0 h17))) ++ [tC (leL 0 h17), tC (eT (leC 64 h18)), tC (leC 64 h18), tT, tF] ++ [tF, tF, tF, tF, tF]) (by kernel_rfl)).to (by simp only [wk, D.bool.injEq, eq_irc, mayI_4, zeroX, h3, h17, h18, Bool.true_and, Bool.false_and, Bool.and_true, Bool.and_false]; (rw [Bool.eq_iff_iff]; simp only [beq_iff_eq, beq_eq_false_iff_ne, ne_eq, w_i64, Bool.and_eq_true, Bool.false_eq_true, decide_eq_true_eq, decide_eq_false_iff_not, false_iff, iff_false, true_iff, iff_true, true_and, and_true] at *; first | done | omega | (intro hh; omega) | (simp; done) | (intro hh; simp at hh; omega) | (constructor <;> intro hh <;> omega)))
      · skip
        rcases Bool.eq_false_or_eq_true (decide (to < (0 : Int))) with h19 | h19
        · skip
          exact (Ret.of_eval (d := .bool false) mixed Try.func13 (by kernel_rfl) ([.inl, .inl, tT, tT, tT, tT, tT, tT, tT, tT, tT, .get ([D.fn (Fn.func 67) [] [], D.fn (Fn.func 64) [] [], D.fn (Fn.func 64) [] [], D.fn (Fn.func 71) [] [], D.fn (Fn.func 72) [] [D.ptr false 2 0], D.fn (Fn.func 66) [] [], D.fn (Fn.func 74) [] []]) 4 (D.fn (Fn.func 72) [] [D.ptr false 2 0]) rfl, tT, .inl, .flat _ _ flat_X, tC (eT (andT rfl (andT rfl (andF (y := eqCells [.int .i8 src, .int .i8 base, .int .i64 disp, .int .i64 imm, .int .i8 cc] [.int .i8 0, .int .i8 0, .int .i64 0, .int .i64 0, .int .i8 cc]) (neOf h2)))))] ++ List.replicate 5 (tC (eT (andT rfl (andT rfl (andF (y := eqCells [.int .i8 src, .int .i8 base, .int .i64 disp, .int .i64 imm, .int .i8 cc] [.int .i8 0, .int .i8 0, .int .i64 0, .int .i64 0, .int .i8 cc]) (neOf h2)))))) ++ [tC (andT rfl (andT rfl (andF (y := eqCells [.int .i8 src, .int .i8 base, .int .i64 disp, .int .i64 imm, .int .i8 cc] [.int .i8 0, .int .i8 0, .int .i64 0, .int .i64 0, .int .i8 cc]) (neOf h2)))), .inl, .inl] ++ List.replicate 3 (tC (eT (leL 0 h19))) ++ [tC (leL 0 h19), tF, tF, tT, tF] ++ [tF, tF, tF, tF, tF]) (by kernel_rfl)).to (by simp only [wk, D.bool.injEq, eq_irc, mayI_4, zeroX, h2, h19, Bool.true_and, Bool.false_and, Bool.and_true, Bool.and_false]; (rw [Bool.eq_iff_iff]; simp only [beq_iff_eq, beq_eq_false_iff_ne, ne_eq, w_i64, Bool.and_eq_true, Bool.false_eq_true, decide_eq_true_eq, decide_eq_false_iff_not, false_iff, iff_false, true_iff, iff_true, true_and, and_true] at *; first | done | omega | (intro hh; omega) | (simp; done) | (intro hh; simp at hh; omega) | (constructor <;> intro hh <;> omega)))
        · skip
          rcases Bool.eq_false_or_eq_true (decide (to < (65 : Int))) with h20 | h20
          · skip
            exact (Ret.of_eval (d := .bool false) mixed Try.func13 (by kernel_rfl) ([.inl, .inl, tT, tT, tT, tT, tT, tT, tT, tT, tT, .get ([D.fn (Fn.func 67) [] [], D.fn (Fn.func 64) [] [], D.fn (Fn.func 64) [] [], D.fn (Fn.func 71) [] [], D.fn (Fn.func 72) [] [D.ptr false 2 0], D.fn (Fn.func 66) [] [], D.fn (Fn.func 74) [] []]) 4 (D.fn (Fn.func 72) [] [D.ptr false 2 0]) rfl, tT, .inl, .flat _ _ flat_X, tC (eT (andT rfl (andT rfl (andF (y := eqCells [.int .i8 src, .int .i8 base, .int .i64 disp, .int .i64 imm, .int .i8 cc] [.int .i8 0, .int .i8 0, .int .i64 0, .int .i64 0, .int .i8 cc]) (neOf h2)))))] ++ List.replicate 5 (tC (eT (andT rfl (andT rfl (andF (y := eqCells [.int .i8 src, .int .i8 base, .int .i64 disp, .int .i64 imm, .int .i8 cc] [.int .i8 0, .int .i8 0, .int .i64 0, .int .i64 0, .int .i8 cc]) (neOf h2)))))) ++ [tC (andT rfl (andT rfl (andF (y := eqCells [.int .i8 src, .int .i8 base, .int .i64 disp, .int .i64 imm, .int .i8 cc] [.int .i8 0, .int .i8 0, .int .i64 0, .int .i64 0, .int .i8 cc]) (neOf h2)))), .inl, .inl] ++ List.replicate 3 (tC (eT (leL 0 h19))) ++ [tC (leL 0 h19), tC (eT (leC 64 h20)), tC (leC 64 h20), tT, tF] ++ [tF, tF, tF, tF, tF]) (by kernel_rfl)).to (by simp only [wk, D.bool.injEq, eq_irc, mayI_4, zeroX, h2, h19, h20, Bool.true_and, Bool.false_and, Bool.and_true, Bool.and_false]; (rw [Bool.eq_iff_iff]; simp only [beq_iff_eq, beq_eq_false_iff_ne, ne_eq, w_i64, Bool.and_eq_true, Bool.false_eq_true, decide_eq_true_eq, decide_eq_false_iff_not, false_iff, iff_false, true_iff, iff_true, true_and, and_true] at *; first | done | omega | (intro hh; omega) | (simp; done) | (intro hh; simp at hh; omega) | (constructor <;> intro hh <;> omega)))
          · skip
            exact (Ret.of_eval (d := .bool false) mixed Try.func13 (by kernel_rfl) ([.inl, .inl, tT, tT, tT, tT, tT, tT, tT, tT, tT, .get ([D.fn (Fn.func 67) [] [], D.fn (Fn.func 64) [] [], D.fn (Fn.func 64) [] [], D.fn (Fn.func 71) [] [], D.fn (Fn.func 72) [] [D.ptr false 2 0], D.fn (Fn.func 66) [] [], D.fn (Fn.func 74) [] []]) 4 (D.fn (Fn.func 72) [] [D.ptr false 2 0]) rfl, tT, .inl, .flat _ _ flat_X, tC (eT (andT rfl (andT rfl (andF (y := eqCells [.int .i8 src, .int .i8 base, .int .i64 disp, .int .i64 imm, .int .i8 cc] [.int .i8 0, .int .i8 0, .int .i64 0, .int .i64 0, .int .i8 cc]) (neOf h2)))))] ++ List.replicate 5 (tC (eT (andT rfl (andT rfl (andF (y := eqCells [.int .i8 src, .int .i8 base, .int .i64 disp, .int .i64 imm, .int .i8 cc] [.int .i8 0, .int .i8 0, .int .i64 0, .int .i64 0, .int .i8 cc]) (neOf h2)))))) ++ [tC (andT rfl (andT rfl (andF (y := eqCells [.int .i8 src, .int .i8 base, .int .i64 disp, .int .i64 imm, .int .i8 cc] [.int .i8 0, .int .i8 0, .int .i64 0, .int .i64 0, .int .i8 cc]) (neOf h2)))), .inl, .inl] ++ List.replicate 3 (tC (eT (leL 0 h19))) ++ [tC (leL 0 h19), tC (eT (leC 64 h20)), tC (leC 64 h20), tT, tF] ++ [tF, tF, tF, tF, tF]) (by kernel_rfl)).to (by simp only [wk, D.bool.injEq, eq_irc, mayI_4, zeroX, h2, h19, h20, Bool.true_and, Bool.false_and, Bool.and_true, Bool.and_false]; (rw [Bool.eq_iff_iff]; simp only [beq_iff_eq, beq_eq_false_iff_ne, ne_eq, w_i64, Bool.and_eq_true, Bool.false_eq_true, decide_eq_true_eq, decide_eq_false_iff_not, false_iff, iff_false, true_iff, iff_true, true_and, and_true] at *; first | done | omega | (intro hh; omega) | (simp; done) | (intro hh; simp at hh; omega) | (constructor <;> intro hh <;> omega)))
    · skip
      rcases Bool.eq_false_or_eq_true (decide (to < (0 : Int))) with h21 | h21
      · skip
        exact (Ret.of_eval (d := .bool false) mixed Try.func13 (by kernel_rfl) ([.inl, .inl, tT, tT, tT, tT, tT, tT, tT, tT, tT, .get ([D.fn (Fn.func 67) [] [], D.fn (Fn.func 64) [] [], D.fn (Fn.func 64) [] [], D.fn (Fn.func 71) [] [], D.fn (Fn.func 72) [] [D.ptr false 2 0], D.fn (Fn.func 66) [] [], D.fn (Fn.func 74) [] []]) 4 (D.fn (Fn.func 72) [] [D.ptr false 2 0]) rfl, tT, .inl, .flat _ _ flat_X, tC (eT (andT rfl (andF (y := eqCells [.int .i8 dst, .int .i8 src, .int .i8 base, .int .i64 disp, .int .i64 imm, .int .i8 cc] [.int .i8 0, .int .i8 0, .int .i8 0, .int .i64 0, .int .i64 0, .int .i8 cc]) (neOf h1))))] ++ List.replicate 5 (tC (eT (andT rfl (andF (y := eqCells [.int .i8 dst, .int .i8 src, .int .i8 base, .int .i64 disp, .int .i64 imm, .int .i8 cc] [.int .i8 0, .int .i8 0, .int .i8 0, .int .i64 0, .int .i64 0, .int .i8 cc]) (neOf h1))))) ++ [tC (andT rfl (andF (y := eqCells [.int .i8 dst, .int .i8 src, .int .i8 base, .int .i64 disp, .int .i64 imm, .int .i8 cc] [.int .i8 0, .int .i8 0, .int .i8 0, .int .i64 0, .int .i64 0, .int .i8 cc]) (neOf h1))), .inl, .inl] ++ List.replicate 3 (tC (eT (leL 0 h21))) ++ [tC (leL 0 h21), tF, tF, tT, tF] ++ [tF, tF, tF, tF, tF]) (by kernel_rfl)).to (by simp only [wk, D.bool.injEq, eq_irc, mayI_4, zeroX, h1, h21, Bool.true_and, Bool.false_and, Bool.and_true, Bool.and_false]; (rw [Bool.eq_iff_iff]; simp only [beq_iff_eq, beq_eq_false_iff_ne, ne_eq, w_i64, Bool.and_eq_true, Bool.false_eq_true, decide_eq_true_eq, decide_eq_false_iff_not, false_iff, iff_false, true_iff, iff_true, true_and, and_true] at *; first | done | omega | (intro hh; omega) | (simp; done) | (intro hh; simp at hh; omega) | (constructor <;> intro hh <;> omega)))
      · skip
        rcases Bool.eq_false_or_eq_true (decide (to < (65 : Int))) with h22 | h22
        · skip
          exact (Ret.of_eval (d := .bool false) mixed Try.func13 (by kernel_rfl) ([.inl, .inl, tT, tT, tT, tT, tT, tT, tT, tT, tT, .get ([D.fn (Fn.func 67) [] [], D.fn (Fn.func 64) [] [], D.fn (Fn.func 64) [] [], D.fn (Fn.func 71) [] [], D.fn (Fn.func 72) [] [D.ptr false 2 0], D.fn (Fn.func 66) [] [], D.fn (Fn.func 74) [] []]) 4 (D.fn (Fn.func 72) [] [D.ptr false 2 0]) rfl, tT, .inl, .flat _ _ flat_X, tC (eT (andT rfl (andF (y := eqCells [.int .i8 dst, .int .i8 src, .int .i8 base, .int .i64 disp, .int .i64 imm, .int .i8 cc] [.int .i8 0, .int .i8 0, .int .i8 0, .int .i64 0, .int .i64 0, .int .i8 cc]) (neOf h1))))] ++ List.replicate 5 (tC (eT (andT rfl (andF (y := eqCells [.int .i8 dst, .int .i8 src, .int .i8 base, .int .i64 disp, .int .i64 imm, .int .i8 cc] [.int .i8 0, .int .i8 0, .int .i8 0, .int .i64 0, .int .i64 0, .int .i8 cc]) (neOf h1))))) ++ [tC (andT rfl (andF (y := eqCells [.int .i8 dst, .int .i8 src, .int .i8 base, .int .i64 disp, .int .i64 imm, .int .i8 cc] [.int .i8 0, .int .i8 0, .int .i8 0, .int .i64 0, .int .i64 0, .int .i8 cc]) (neOf h1))), .inl, .inl] ++ List.replicate 3 (tC (eT (leL 0 h21))) ++ [tC (leL 0 h21), tC (eT (leC 64 h22)), tC (leC 64 h22), tT, tF] ++ [tF, tF, tF, tF, tF]) (by kernel_rfl)).to (by simp only [wk, D.bool.injEq, eq_irc, mayI_4, zeroX, h1, h21, h22, Bool.true_and, Bool.false_and, Bool.and_true, Bool.and_false]; (rw [Bool.eq_iff_iff]; simp only [beq_iff_eq, beq_eq_false_iff_ne, ne_eq, w_i64, Bool.and_eq_true, Bool.false_eq_true, decide_eq_true_eq, decide_eq_false_iff_not, false_iff, iff_false, true_iff, iff_true, true_and, and_true] at *; first | done | omega | (intro hh; omega) | (simp; done) | (intro hh; simp at hh; omega) | (constructor <;> intro hh <;> omega)))
        · skip
          exact (Ret.of_eval (d := .bool false) mixed Try.func13 (by kernel_rfl) ([.inl, .inl, tT, tT, tT, tT, tT, tT, tT, tT, tT, .get ([D.fn (Fn.func 67) [] [], D.fn (Fn.func 64) [] [], D.fn (Fn.func 64) [] [], D.fn (Fn.func 71) [] [], D.fn (Fn.func 72) [] [D.ptr false 2 0], D.fn (Fn.func 66) [] [], D.fn (Fn.func 74) [] []]) 4 (D.fn (Fn.func 72) [] [D.ptr false 2 0]) rfl, tT, .inl, .flat _ _ flat_X, tC (eT (andT rfl (andF (y := eqCells [.int .i8 dst, .int .i8 src, .int .i8 base, .int .i64 disp, .int .i64 imm, .int .i8 cc] [.int .i8 0, .int .i8 0, .int .i8 0, .int .i64 0, .int .i64 0, .int .i8 cc]) (neOf h1))))] ++ List.replicate 5 (tC (eT (andT rfl (andF (y := eqCells [.int .i8 dst, .int .i8 src, .int .i8 base, .int .i64 disp, .int .i64 imm, .int .i8 cc] [.int .i8 0, .int .i8 0, .int .i8 0, .int .i64 0, .int .i64 0, .int .i8 cc]) (neOf h1))))) ++ [tC (andT rfl (andF (y := eqCells [.int .i8 dst, .int .i8 src, .int .i8 base, .int .i64 disp, .int .i64 imm, .int .i8 cc] [.int .i8 0, .int .i8 0, .int .i8 0, .int .i64 0, .int .i64 0, .int .i8 cc]) (neOf h1))), .inl, .inl] ++ List.replicate 3 (tC (eT (leL 0 h21))) ++ [tC (leL 0 h21), tC (eT (leC 64 h22)), tC (leC 64 h22), tT, tF] ++ [tF, tF, tF, tF, tF]) (by kernel_rfl)).to (by simp only [wk, D.bool.injEq, eq_irc, mayI_4, zeroX, h1, h21, h22, Bool.true_and, Bool.false_and, Bool.and_true, Bool.and_false]; (rw [Bool.eq_iff_iff]; simp only [beq_iff_eq, beq_eq_false_iff_ne, ne_eq, w_i64, Bool.and_eq_true, Bool.false_eq_true, decide_eq_true_eq, decide_eq_false_iff_not, false_iff, iff_false, true_iff, iff_true, true_and, and_true] at *; first | done | omega | (intro hh; omega) | (simp; done) | (intro hh; simp at hh; omega) | (constructor <;> intro hh <;> omega)))
  · skip
    rcases Bool.eq_false_or_eq_true (decide (to < (0 : Int))) with h23 | h23
    · skip
      exact (Ret.of_eval (d := .bool false) mixed Try.func13 (by kernel_rfl) ([.inl, .inl, tT, tT, tT, tT, tT, tT, tT, tT, tT, .get ([D.fn (Fn.func 67) [] [], D.fn (Fn.func 64) [] [], D.fn (Fn.func 64) [] [], D.fn (Fn.func 71) [] [], D.fn (Fn.func 72) [] [D.ptr false 2 0], D.fn (Fn.func 66) [] [], D.fn (Fn.func 74) [] []]) 4 (D.fn (Fn.func 72) [] [D.ptr false 2 0]) rfl, tT, .inl, .flat _ _ flat_X, tC (eT (andF (y := eqCells [.int .i8 w, .int .i8 dst, .int .i8 src, .int .i8 base, .int .i64 disp, .int .i64 imm, .int .i8 cc] [.int .i8 0, .int .i8 0, .int .i8 0, .int .i8 0, .int .i64 0, .int .i64 0, .int .i8 cc]) (neOf h0)))] ++ List.replicate 5 (tC (eT (andF (y := eqCells [.int .i8 w, .int .i8 dst, .int .i8 src, .int .i8 base, .int .i64 disp, .int .i64 imm, .int .i8 cc] [.int .i8 0, .int .i8 0, .int .i8 0, .int .i8 0, .int .i64 0, .int .i64 0, .int .i8 cc]) (neOf h0)))) ++ [tC (andF (y := eqCells [.int .i8 w, .int .i8 dst, .int .i8 src, .int .i8 base, .int .i64 disp, .int .i64 imm, .int .i8 cc] [.int .i8 0, .int .i8 0, .int .i8 0, .int .i8 0, .int .i64 0, .int .i64 0, .int .i8 cc]) (neOf h0)), .inl, .inl] ++ List.replicate 3 (tC (eT (leL 0 h23))) ++ [tC (leL 0 h23), tF, tF, tT, tF] ++ [tF, tF, tF, tF, tF]) (by kernel_rfl)).to (by simp only [wk, D.bool.injEq, eq_irc, mayI_4, zeroX, h0, h23, Bool.true_and, Bool.false_and, Bool.and_true, Bool.and_false]; (rw [Bool.eq_iff_iff]; simp only [beq_iff_eq, beq_eq_false_iff_ne, ne_eq, w_i64, Bool.and_eq_true, Bool.false_eq_true, decide_eq_true_eq, decide_eq_false_iff_not, false_iff, iff_false, true_iff, iff_true, true_and, and_true] at *; first | done | omega | (intro hh; omega) | (simp; done) | (intro hh; simp at hh; omega) | (constructor <;> intro hh <;> omega)))
    · skip
      rcases Bool.eq_false_or_eq_true (decide (to < (65 : Int))) with h24 | h24
      · skip
        exact (Ret.of_eval (d := .bool false) mixed Try.func13 (by kernel_rfl) ([.inl, .inl, tT, tT, tT, tT, tT, tT, tT, tT, tT, .get ([D.fn (Fn.func 67) [] [], D.fn (Fn.func 64) [] [], D.fn (Fn.func 64) [] [], D.fn (Fn.func 71) [] [], D.fn (Fn.func 72) [] [D.ptr false 2 0], D.fn (Fn.func 66) [] [], D.fn (Fn.func 74) [] []]) 4 (D.fn (Fn.func 72) [] [D.ptr false 2 0]) rfl, tT, .inl, .flat _ _ flat_X, tC (eT (andF (y := eqCells [.int .i8 w, .int .i8 dst, .int .i8 src, .int .i8 base, .int .i64 disp, .int .i64 imm, .int .i8 cc] [.int .i8 0, .int .i8 0, .int .i8 0, .int .i8 0, .int .i64 0, .int .i64 0, .int .i8 cc]) (neOf h0)))] ++ List.replicate 5 (tC (eT (andF (y := eqCells [.int .i8 w, .int .i8 dst, .int .i8 src, .int .i8 base, .int .i64 disp, .int .i64 imm, .int .i8 cc] [.int .i8 0, .int .i8 0, .int .i8 0, .int .i8 0, .int .i64 0, .int .i64 0, .int .i8 cc]) (neOf h0)))) ++ [tC (andF (y := eqCells [.int .i8 w, .int .i8 dst, .int .i8 src, .int .i8 base, .int .i64 disp, .int .i64 imm, .int .i8 cc] [.int .i8 0, .int .i8 0, .int .i8 0, .int .i8 0, .int .i64 0, .int .i64 0, .int .i8 cc]) (neOf h0)), .inl, .inl] ++ List.replicate 3 (tC (eT (leL 0 h23))) ++ [tC (leL 0 h23), tC (eT (leC 64 h24)), tC (leC 64 h24), tT, tF] ++ [tF, tF, tF, tF, tF]) (by kernel_rfl)).to (by simp only [wk, D.bool.injEq, eq_irc, mayI_4, zeroX, h0, h23, h24, Bool.true_and, Bool.false_and, Bool.and_true, Bool.and_false]; (rw [Bool.eq_iff_iff]; simp only [beq_iff_eq, beq_eq_false_iff_ne, ne_eq, w_i64, Bool.and_eq_true, Bool.false_eq_true, decide_eq_true_eq, decide_eq_false_iff_not, false_iff, iff_false, true_iff, iff_true, true_and, and_true] at *; first | done | omega | (intro hh; omega) | (simp; done) | (intro hh; simp at hh; omega) | (constructor <;> intro hh <;> omega)))
      · skip
        exact (Ret.of_eval (d := .bool false) mixed Try.func13 (by kernel_rfl) ([.inl, .inl, tT, tT, tT, tT, tT, tT, tT, tT, tT, .get ([D.fn (Fn.func 67) [] [], D.fn (Fn.func 64) [] [], D.fn (Fn.func 64) [] [], D.fn (Fn.func 71) [] [], D.fn (Fn.func 72) [] [D.ptr false 2 0], D.fn (Fn.func 66) [] [], D.fn (Fn.func 74) [] []]) 4 (D.fn (Fn.func 72) [] [D.ptr false 2 0]) rfl, tT, .inl, .flat _ _ flat_X, tC (eT (andF (y := eqCells [.int .i8 w, .int .i8 dst, .int .i8 src, .int .i8 base, .int .i64 disp, .int .i64 imm, .int .i8 cc] [.int .i8 0, .int .i8 0, .int .i8 0, .int .i8 0, .int .i64 0, .int .i64 0, .int .i8 cc]) (neOf h0)))] ++ List.replicate 5 (tC (eT (andF (y := eqCells [.int .i8 w, .int .i8 dst, .int .i8 src, .int .i8 base, .int .i64 disp, .int .i64 imm, .int .i8 cc] [.int .i8 0, .int .i8 0, .int .i8 0, .int .i8 0, .int .i64 0, .int .i64 0, .int .i8 cc]) (neOf h0)))) ++ [tC (andF (y := eqCells [.int .i8 w, .int .i8 dst, .int .i8 src, .int .i8 base, .int .i64 disp, .int .i64 imm, .int .i8 cc] [.int .i8 0, .int .i8 0, .int .i8 0, .int .i8 0, .int .i64 0, .int .i64 0, .int .i8 cc]) (neOf h0)), .inl, .inl] ++ List.replicate 3 (tC (eT (leL 0 h23))) ++ [tC (leL 0 h23), tC (eT (leC 64 h24)), tC (leC 64 h24), tT, tF] ++ [tF, tF, tF, tF, tF]) (by kernel_rfl)).to (by simp only [wk, D.bool.injEq, eq_irc, mayI_4, zeroX, h0, h23, h24, Bool.true_and, Bool.false_and, Bool.and_true, Bool.and_false]; (rw [Bool.eq_iff_iff]; simp only [beq_iff_eq, beq_eq_false_iff_ne, ne_eq, w_i64, Bool.and_eq_true, Bool.false_eq_true, decide_eq_true_eq, decide_eq_false_iff_not, false_iff, iff_false, true_iff, iff_true, true_and, and_true] at *; first | done | omega | (intro hh; omega) | (simp; done) | (intro hh; simp at hh; omega) | (constructor <;> intro hh <;> omega)))
theorem imay_5_ok (op w dst src base disp imm cc reg phys num to : Int) (ho : op ≤ 127) (hc : cc ≤ 127) (hp : phys ≤ 127) (g0 : -128 ≤ reg) (g1 : reg ≤ 127)  : Ret Try.prog 13 ([irD 5 op w dst src base disp imm cc reg phys num to]) (.bool (mayI 5 op w dst src base disp imm cc reg phys num to)) := by
  rcases Bool.eq_false_or_eq_true (decide (to < (0 : Int))) with h0 | h0
  · skip
    exact (Ret.of_eval (d := .bool false) mixed Try.func13 (by kernel_rfl) ([.inl, .inl, tT, tT, tT, tT, tT, tT, tT, tT, tT, .get ([D.fn (Fn.func 67) [] [], D.fn (Fn.func 64) [] [], D.fn (Fn.func 64) [] [], D.fn (Fn.func 71) [] [], D.fn (Fn.func 72) [] [D.ptr false 2 0], D.fn (Fn.func 66) [] [], D.fn (Fn.func 74) [] []]) 5 (D.fn (Fn.func 66) [] []) rfl, tT, .inl, .inl, tC (eT (leL 0 h0))] ++ [tC (eT (leL 0 h0)), tC (eT (leL 0 h0)), tC (leL 0 h0), tT, tF, tF, tF, tF, tF, tF]) (by kernel_rfl)).to (by simp only [wk, D.bool.injEq, eq_irc, mayI_5, zeroX, h0, Bool.true_and, Bool.false_and, Bool.and_true, Bool.and_false]; (rw [Bool.eq_iff_iff]; simp only [beq_iff_eq, beq_eq_false_iff_ne, ne_eq, w_i64, Bool.and_eq_true, Bool.false_eq_true, decide_eq_true_eq, decide_eq_false_iff_not, false_iff, iff_false, true_iff, iff_true, true_and, and_true] at *; first | done | omega | (intro hh; omega) | (simp; done) | (intro hh; simp at hh; omega) | (constructor <;> intro hh <;> omega)))
  · skip
    rcases Bool.eq_false_or_eq_true (decide (to < (65 : Int))) with h1 | h1
    · skip
      exact (Ret.of_eval (d := .bool (eqCells [.int .i8 5, .int .i8 op, .int .i8 w, .int .i8 dst, .int .i8 src, .int .i8 base, .int .i64 disp, .int .i64 imm, .int .i8 cc, .int .i8 reg, .int .i8 phys, .int .i64 num, .int .i64 0] [.int .i8 5, .int .i8 0, .int .i8 0, .int .i8 0, .int .i8 0, .int .i8 0, .int .i64 0, .int .i64 0, .int .i8 0, .int .i8 0, .int .i8 0, .int .i64 0, .int .i64 0])) mixed Try.func13 (by kernel_rfl) ([.inl, .inl, tT, tT, tT, tT, tT, tT, tT, tT, tT, .get ([D.fn (Fn.func 67) [] [], D.fn (Fn.func 64) [] [], D.fn (Fn.func 64) [] [], D.fn (Fn.func 71) [] [], D.fn (Fn.func 72) [] [D.ptr false 2 0], D.fn (Fn.func 66) [] [], D.fn (Fn.func 74) [] []]) 5 (D.fn (Fn.func 66) [] []) rfl, tT, .inl, .inl, tC (eT (leL 0 h0))] ++ [tC (eT (leL 0 h0)), tC (eT (leL 0 h0)), tC (leL 0 h0), tT] ++ List.replicate 5 (tC (eT (leC 64 h1))) ++ [.flat _ _ flat_Ir, tC (leC 64 h1)]) (by kernel_rfl)).to (by simp only [wk, D.bool.injEq, eq_irc, mayI_5, zeroX, h0, h1, Bool.true_and, Bool.false_and, Bool.and_true, Bool.and_false]; (rw [Bool.eq_iff_iff]; simp only [beq_iff_eq, beq_eq_false_iff_ne, ne_eq, w_i64, Bool.and_eq_true, Bool.false_eq_true, decide_eq_true_eq, decide_eq_false_iff_not, false_iff, iff_false, true_iff, iff_true, true_and, and_true] at *; first | done | omega | (intro hh; omega) | (simp; done) | (intro hh; simp at hh; omega) | (constructor <;> intro hh <;> omega)))
    · skip
      exact (Ret.of_eval (d := .bool false) mixed Try.func13 (by kernel_rfl) ([.inl, .inl, tT, tT, tT, tT, tT, tT, tT, tT, tT, .get ([D.fn (Fn.func 67) [] [], D.fn (Fn.func 64) [] [], D.fn (Fn.func 64) [] [], D.fn (Fn.func 71) [] [], D.fn (Fn.func 72) [] [D.ptr false 2 0], D.fn (Fn.func 66) [] [], D.fn (Fn.func 74) [] []]) 5 (D.fn (Fn.func 66) [] []) rfl, tT, .inl, .inl, tC (eT (leL 0 h0))] ++ [tC (eT (leL 0 h0)), tC (eT (leL 0 h0)), tC (leL 0 h0), tT] ++ List.replicate 5 (tC (eT (leC 64 h1))) ++ [tC (leC 64 h1)]) (by kernel_rfl)).to (by simp only [wk, D.bool.injEq, eq_irc, mayI_5, zeroX, h0, h1, Bool.true_and, Bool.false_and, Bool.and_true, Bool.and_false]; (rw [Bool.eq_iff_iff]; simp only [beq_iff_eq, beq_eq_false_iff_ne, ne_eq, w_i64, Bool.and_eq_true, Bool.false_eq_true, decide_eq_true_eq, decide_eq_false_iff_not, false_iff, iff_false, true_iff, iff_true, true_and, and_true] at *; first | done | omega | (intro hh; omega) | (simp; done) | (intro hh; simp at hh; omega) | (constructor <;> intro hh <;> omega)))
theorem imay_6_ok (op w dst src base disp imm cc reg phys num to : Int) (ho : op ≤ 127) (hc : cc ≤ 127) (hp : phys ≤ 127) (g0 : -128 ≤ reg) (g1 : reg ≤ 127)  : Ret Try.prog 13 ([irD 6 op w dst src base disp imm cc reg phys num to]) (.bool (mayI 6 op w dst src base disp imm cc reg phys num to)) := by
  exact (Ret.of_eval (d := .bool (eqCells [.int .i8 6, .int .i8 op, .int .i8 w, .int .i8 dst, .int .i8 src, .int .i8 base, .int .i64 disp, .int .i64 imm, .int .i8 cc, .int .i8 reg, .int .i8 phys, .int .i64 num, .int .i64 to] [.int .i8 6, .int .i8 0, .int .i8 0, .int .i8 0, .int .i8 0, .int .i8 0, .int .i64 0, .int .i64 0, .int .i8 0, .int .i8 0, .int .i8 0, .int .i64 0, .int .i64 0])) mixed Try.func13 (by kernel_rfl) ([.inl, .inl, tT, tT, tT, tT, tT, tT, tT, tT, tT, .get ([D.fn (Fn.func 67) [] [], D.fn (Fn.func 64) [] [], D.fn (Fn.func 64) [] [], D.fn (Fn.func 71) [] [], D.fn (Fn.func 72) [] [D.ptr false 2 0], D.fn (Fn.func 66) [] [], D.fn (Fn.func 74) [] []]) 6 (D.fn (Fn.func 74) [] []) rfl, tT, .inl, tT, tT] ++ [tT, tT, tT, tT, .flat _ _ flat_Ir, tT]) (by kernel_rfl)).to (by simp only [wk, D.bool.injEq, eq_irc, mayI_6, zeroX, Bool.true_and, Bool.false_and, Bool.and_true, Bool.and_false]; (rw [Bool.eq_iff_iff]; simp only [beq_iff_eq, beq_eq_false_iff_ne, ne_eq, w_i64, Bool.and_eq_true, Bool.false_eq_true, decide_eq_true_eq, decide_eq_false_iff_not, false_iff, iff_false, true_iff, iff_true, true_and, and_true] at *; first | done | omega | (intro hh; omega) | (simp; done) | (intro hh; simp at hh; omega) | (constructor <;> intro hh <;> omega)))
theorem imay_lo_ok (kind op w dst src base disp imm cc reg phys num to : Int) (h : kind < 0) (h2 : -128 ≤ kind) : Ret Try.prog 13 ([irD kind op w dst src base disp imm cc reg phys num to]) (.bool false) := by
  exact (Ret.of_eval (d := .bool false) mixed Try.func13 (by kernel_rfl) ([.inl, .inl] ++ List.replicate 3 (tC (eT (leL 0 (by (simp only [w_i8, w_u8, w_i64, w_u64, decide_eq_true_eq, decide_eq_false_iff_not, beq_iff_eq, bne_iff_ne, beq_eq_false_iff_ne, bne_eq_false_iff_eq, Bool.not_eq_true', Bool.not_eq_false', Bool.and_eq_true, Bool.or_eq_true] at *; omega) : (decide (IntKind.wrap IntKind.i64 kind < (0 : Int))) = true)))) ++ [tC (leL 0 (by (simp only [w_i8, w_u8, w_i64, w_u64, decide_eq_true_eq, decide_eq_false_iff_not, beq_iff_eq, bne_iff_ne, beq_eq_false_iff_ne, bne_eq_false_iff_eq, Bool.not_eq_true', Bool.not_eq_false', Bool.and_eq_true, Bool.or_eq_true] at *; omega) : (decide (IntKind.wrap IntKind.i64 kind < (0 : Int))) = true)), tF, tF, tF, tF, tF, tF, tF, tF, tF, tF] ++ [tF, tF]) (by kernel_rfl)).to (by simp [wk])
theorem imay_hi_ok (kind op w dst src base disp imm cc reg phys num to : Int) (h : 7 ≤ kind) (h2 : kind ≤ 127) : Ret Try.prog 13 ([irD kind op w dst src base disp imm cc reg phys num to]) (.bool false) := by
  exact (Ret.of_eval (d := .bool false) mixed Try.func13 (by kernel_rfl) ([.inl, .inl] ++ List.replicate 3 (tC (eT (leL 0 (by (simp only [w_i8, w_u8, w_i64, w_u64, decide_eq_true_eq, decide_eq_false_iff_not, beq_iff_eq, bne_iff_ne, beq_eq_false_iff_ne, bne_eq_false_iff_eq, Bool.not_eq_true', Bool.not_eq_false', Bool.and_eq_true, Bool.or_eq_true] at *; omega) : (decide (IntKind.wrap IntKind.i64 kind < (0 : Int))) = false)))) ++ [tC (leL 0 (by (simp only [w_i8, w_u8, w_i64, w_u64, decide_eq_true_eq, decide_eq_false_iff_not, beq_iff_eq, bne_iff_ne, beq_eq_false_iff_ne, bne_eq_false_iff_eq, Bool.not_eq_true', Bool.not_eq_false', Bool.and_eq_true, Bool.or_eq_true] at *; omega) : (decide (IntKind.wrap IntKind.i64 kind < (0 : Int))) = false))] ++ List.replicate 5 (tC (eT (leC 6 (by (simp only [w_i8, w_u8, w_i64, w_u64, decide_eq_true_eq, decide_eq_false_iff_not, beq_iff_eq, bne_iff_ne, beq_eq_false_iff_ne, bne_eq_false_iff_eq, Bool.not_eq_true', Bool.not_eq_false', Bool.and_eq_true, Bool.or_eq_true] at *; omega) : (decide (IntKind.wrap IntKind.i64 kind < (7 : Int))) = false)))) ++ [tC (leC 6 (by (simp only [w_i8, w_u8, w_i64, w_u64, decide_eq_true_eq, decide_eq_false_iff_not, beq_iff_eq, bne_iff_ne, beq_eq_false_iff_ne, bne_eq_false_iff_eq, Bool.not_eq_true', Bool.not_eq_false', Bool.and_eq_true, Bool.or_eq_true] at *; omega) : (decide (IntKind.wrap IntKind.i64 kind < (7 : Int))) = false)), tF, tF, tF, tF] ++ [tF, tF]) (by kernel_rfl)).to (by simp [wk])
theorem istops_ok (kind op w dst src base disp imm cc reg phys num to : Int) (k0 : -128 ≤ kind) (k1 : kind ≤ 127) : Ret Try.prog 14 ([irD kind op w dst src base disp imm cc reg phys num to]) (.bool (stopsI kind op)) := by
  rcases Bool.eq_false_or_eq_true (decide (IntKind.wrap IntKind.i64 kind < (3 : Int))) with h0 | h0
  · skip
    by_cases h1 : kind = 0
    · subst h1
      by_cases h2 : op = 26
      · subst h2
        exact (Ret.of_eval (d := .bool true) mixed Try.func14 (by kernel_rfl) ([.inl] ++ List.replicate 3 (tC (eT (leL 3 h0))) ++ [tC (leL 3 h0), tT, tT, tT, tT, tT, tT, tT, tT, tT, tF, tF] ++ [tF, tF, tT, tT, tT, tT, tF]) (by kernel_rfl)).to (by (apply wk_bool; unfold stopsI; first | rfl | (simp; done) | skip; simp only [w_i64, beq_iff_eq, beq_eq_false_iff_ne, ne_eq, decide_eq_true_eq, decide_eq_false_iff_not] at *; first | (symm; rw [decide_eq_true_eq]; omega) | (symm; rw [decide_eq_false_iff_not]; omega) | (rw [Bool.eq_iff_iff]; simp only [beq_iff_eq, decide_eq_true_eq]; omega)))
      · skip
        exact (Ret.of_eval (d := .bool (op == (27 : Int))) mixed Try.func14 (by kernel_rfl) ([.inl] ++ List.replicate 3 (tC (eT (leL 3 h0))) ++ [tC (leL 3 h0), tT, tT, tT, tT, tT, tT, tT, tT, tT, tC (eF (neOf h2)), tC (eF (neOf h2))] ++ [tC (eF (neOf h2)), tC (eF (neOf h2)), tT, tC (neOf h2), tT, tT, tF]) (by kernel_rfl)).to (by exact stops_op (by assumption))
    · skip
      exact (Ret.of_eval (d := .bool false) mixed Try.func14 (by kernel_rfl) ([.inl] ++ List.replicate 3 (tC (eT (leL 3 h0))) ++ [tC (leL 3 h0), tT, tT, tT, tT] ++ List.replicate 6 (tC (eT (neOf h1))) ++ [tT] ++ [tC (neOf h1), tF]) (by kernel_rfl)).to (by (apply wk_bool; unfold stopsI; first | rfl | (simp; done) | skip; simp only [w_i64, beq_iff_eq, beq_eq_false_iff_ne, ne_eq, decide_eq_true_eq, decide_eq_false_iff_not] at *; first | (symm; rw [decide_eq_true_eq]; omega) | (symm; rw [decide_eq_false_iff_not]; omega) | (rw [Bool.eq_iff_iff]; simp only [beq_iff_eq, decide_eq_true_eq]; omega)))
  · skip
    rcases Bool.eq_false_or_eq_true (decide (IntKind.wrap IntKind.i64 kind < (7 : Int))) with h3 | h3
    · skip
      exact (Ret.of_eval (d := .bool true) mixed Try.func14 (by kernel_rfl) ([.inl] ++ List.replicate 3 (tC (eT (leL 3 h0))) ++ [tC (leL 3 h0)] ++ List.replicate 5 (tC (eF (leC 6 h3))) ++ [tC (leC 6 h3)]) (by kernel_rfl)).to (by (apply wk_bool; unfold stopsI; first | rfl | (simp; done) | skip; simp only [w_i64, beq_iff_eq, beq_eq_false_iff_ne, ne_eq, decide_eq_true_eq, decide_eq_false_iff_not] at *; first | (symm; rw [decide_eq_true_eq]; omega) | (symm; rw [decide_eq_false_iff_not]; omega) | (rw [Bool.eq_iff_iff]; simp only [beq_iff_eq, decide_eq_true_eq]; omega)))
    · skip
      exact (Ret.of_eval (d := .bool false) mixed Try.func14 (by kernel_rfl) ([.inl] ++ List.replicate 3 (tC (eT (leL 3 h0))) ++ [tC (leL 3 h0)] ++ List.replicate 4 (tC (eF (leC 6 h3))) ++ List.replicate 6 (tC (eT (by (simp only [w_i8, w_u8, w_i64, w_u64, decide_eq_true_eq, decide_eq_false_iff_not, beq_iff_eq, bne_iff_ne, beq_eq_false_iff_ne, bne_eq_false_iff_eq, Bool.not_eq_true', Bool.not_eq_false', Bool.and_eq_true, Bool.or_eq_true] at *; omega) : (kind == (0 : Int)) = false))) ++ [tC (eF (leC 6 h3))] ++ [tC (by (simp only [w_i8, w_u8, w_i64, w_u64, decide_eq_true_eq, decide_eq_false_iff_not, beq_iff_eq, bne_iff_ne, beq_eq_false_iff_ne, bne_eq_false_iff_eq, Bool.not_eq_true', Bool.not_eq_false', Bool.and_eq_true, Bool.or_eq_true] at *; omega) : (kind == (0 : Int)) = false), tC (leC 6 h3)]) (by kernel_rfl)).to (by (apply wk_bool; unfold stopsI; first | rfl | (simp; done) | skip; simp only [w_i64, beq_iff_eq, beq_eq_false_iff_ne, ne_eq, decide_eq_true_eq, decide_eq_false_iff_not] at *; first | (symm; rw [decide_eq_true_eq]; omega) | (symm; rw [decide_eq_false_iff_not]; omega) | (rw [Bool.eq_iff_iff]; simp only [beq_iff_eq, decide_eq_true_eq]; omega)))
end Go.Proofs.Ytojgmjfcfpclbaa

namespace Go.Proofs.Ytojgmjfcfpclbaa
open Go Go.Ev
theorem imay_c_ok (kind op w dst src base disp imm cc reg phys num to : Int) (a0 : -128 ≤ kind) (a1 : kind ≤ 127) (ho : op ≤ 127) (hc : cc ≤ 127) (hp : phys ≤ 127) (g0 : -128 ≤ reg) (g1 : reg ≤ 127) :
    Ret Try.prog 13 [irD kind op w dst src base disp imm cc reg phys num to] (.bool (mayI kind op w dst src base disp imm cc reg phys num to)) := by
  by_cases h : 0 ≤ kind ∧ kind ≤ 6
  · have hk : kind = 0 ∨ kind = 1 ∨ kind = 2 ∨ kind = 3 ∨ kind = 4 ∨ kind = 5 ∨ kind = 6 := by omega
    rcases hk with rfl | rfl | rfl | rfl | rfl | rfl | rfl
    · exact imay_0_ok _ _ _ _ _ _ _ _ _ _ _ _ ho hc hp g0 g1
    · exact imay_1_ok _ _ _ _ _ _ _ _ _ _ _ _ ho hc hp g0 g1
    · exact imay_2_ok _ _ _ _ _ _ _ _ _ _ _ _ ho hc hp g0 g1
    · exact imay_3_ok _ _ _ _ _ _ _ _ _ _ _ _ ho hc hp g0 g1
    · exact imay_4_ok _ _ _ _ _ _ _ _ _ _ _ _ ho hc hp g0 g1
    · exact imay_5_ok _ _ _ _ _ _ _ _ _ _ _ _ ho hc hp g0 g1
    · exact imay_6_ok _ _ _ _ _ _ _ _ _ _ _ _ ho hc hp g0 g1
  · have e : mayI kind op w dst src base disp imm cc reg phys num to = false := by
      unfold mayI
      rw [if_neg (by omega), if_neg (by omega), if_neg (by omega), if_neg (by omega), if_neg (by omega), if_neg (by omega)]
    rw [e]
    by_cases h2 : kind < 0
    · exact imay_lo_ok _ _ _ _ _ _ _ _ _ _ _ _ _ h2 a0
    · exact imay_hi_ok _ _ _ _ _ _ _ _ _ _ _ _ _ (by omega) a1
end Go.Proofs.Ytojgmjfcfpclbaa

namespace Go.Proofs.Ytojgmjfcfpclbaa
open Go Go.Ev
set_option maxRecDepth 100000
set_option maxHeartbeats 8000000
theorem idx_done (l : List D) (k : Nat) (hb : l.length ≤ 9223372036854775807) (hk : l.length ≤ k) : RoundRun Try.prog (loopB Try.f28 0) ⟨[], [], []⟩ 0 [.lst .no 13 l, D.fn (Fn.func (29 : FuncId)) [] [], D.undef, D.undef, D.undef, D.undef, D.undef, .int .i64 (↑(List.length l) : Int), .int .i64 (↑k : Int), D.undef, D.undef, D.undef, D.undef, D.undef, D.undef, D.undef, D.undef, D.undef, D.undef] [] (Ex.exit (0 : Nat)) [D.undef, D.undef, D.undef, D.undef, D.undef, D.undef, D.undef, D.undef, D.undef, D.undef, D.undef, D.undef, D.undef, D.undef, D.undef, D.undef, D.undef, D.undef, D.undef] ([]) := by
  exact (RoundRun.of_eval (sp := ⟨[], [], []⟩) (n0 := 0) (ex := Ex.exit (0 : Nat)) (t' := [D.undef, D.undef, D.undef, D.undef, D.undef, D.undef, D.undef, D.undef, D.undef, D.undef, D.undef, D.undef, D.undef, D.undef, D.undef, D.undef, D.undef, D.undef, D.undef]) (s' := []) mixed [tC (by (simp only [w_i8, w_u8, w_i64, w_u64, decide_eq_true_eq, decide_eq_false_iff_not, beq_iff_eq, bne_iff_ne, beq_eq_false_iff_ne, bne_eq_false_iff_eq, Bool.not_eq_true', Bool.not_eq_false', Bool.and_eq_true, Bool.or_eq_true] at *; omega) : (decide ((↑k : Int) < (↑(List.length l) : Int))) = false)] (by kernel_rfl)).cast (by rfl) (by rfl)
theorem idx_ok (l : List D) (k : Nat) (hb : l.length ≤ 9223372036854775807) (hk : k < l.length) (kind op w dst src base disp imm cc reg phys num to : Int) (a0 : -128 ≤ kind) (a1 : kind ≤ 127) (ho : op ≤ 127) (hc : cc ≤ 127) (hp : phys ≤ 127) (g0 : -128 ≤ reg) (g1 : reg ≤ 127) (hx : l[k]? = some (irD kind op w dst src base disp imm cc reg phys num to)) (he : mayI kind op w dst src base disp imm cc reg phys num to = true) : RoundRun Try.prog (loopB Try.f28 0) ⟨[0, 1, 7, 8], [], []⟩ 0 [.lst .no 13 l, D.fn (Fn.func (29 : FuncId)) [] [], D.undef, D.undef, D.undef, D.undef, D.undef, .int .i64 (↑(List.length l) : Int), .int .i64 (↑k : Int), D.undef, D.undef, D.undef, D.undef, D.undef, D.undef, D.undef, D.undef, D.undef, D.undef] [] (Ex.norm) [.lst .no 13 l, D.fn (Fn.func (29 : FuncId)) [] [], D.undef, D.undef, D.undef, D.undef, D.undef, .int .i64 (↑(List.length l) : Int), .int .i64 (↑(k + (1 : Nat)) : Int), D.undef, D.undef, D.undef, D.undef, D.undef, D.undef, D.undef, D.undef, D.undef, D.undef] ([]) := by
  have c0 := @imay_c_ok (kind) (op) (w) (dst) (src) (base) (disp) (imm) (cc) (reg) (phys) (num) (to) a0 a1 ho hc hp g0 g1
  exact (RoundRun.of_eval (sp := ⟨[0, 1, 7, 8], [], []⟩) (n0 := 0) (ex := Ex.norm) (t' := [.lst .no 13 l, D.fn (Fn.func (29 : FuncId)) [] [], D.undef, D.undef, D.undef, D.undef, D.undef, .int .i64 (↑(List.length l) : Int), .int .i64 (IntKind.wrap IntKind.i64 ((↑k : Int) + (1 : Int))), D.undef, D.undef, D.undef, D.undef, D.undef, D.undef, D.undef, D.undef, D.undef, D.undef]) (s' := []) mixed [tC (by (simp only [w_i8, w_u8, w_i64, w_u64, decide_eq_true_eq, decide_eq_false_iff_not, beq_iff_eq, bne_iff_ne, beq_eq_false_iff_ne, bne_eq_false_iff_eq, Bool.not_eq_true', Bool.not_eq_false', Bool.and_eq_true, Bool.or_eq_true] at *; omega) : (decide ((↑k : Int) < (↑(List.length l) : Int))) = true), tT, .get _ _ _ hx, .inl, .ret _ _ _ c0, tC (nt he)] (by kernel_rfl)).cast (by first | rfl | (congr; rw [w_i64]; omega)) (by first | rfl | (congr; rw [w_i64]; omega))
theorem idx_bad (l : List D) (k : Nat) (hb : l.length ≤ 9223372036854775807) (hk : k < l.length) (kind op w dst src base disp imm cc reg phys num to : Int) (a0 : -128 ≤ kind) (a1 : kind ≤ 127) (ho : op ≤ 127) (hc : cc ≤ 127) (hp : phys ≤ 127) (g0 : -128 ≤ reg) (g1 : reg ≤ 127) (hx : l[k]? = some (irD kind op w dst src base disp imm cc reg phys num to)) (he : mayI kind op w dst src base disp imm cc reg phys num to = false) : RoundRun Try.prog (loopB Try.f28 0) ⟨[4], [], []⟩ 0 [.lst .no 13 l, D.fn (Fn.func (29 : FuncId)) [] [], D.undef, D.undef, D.undef, D.undef, D.undef, .int .i64 (↑(List.length l) : Int), .int .i64 (↑k : Int), D.undef, D.undef, D.undef, D.undef, D.undef, D.undef, D.undef, D.undef, D.undef, D.undef] [] (Ex.ret) [D.undef, D.undef, D.undef, D.undef, .int .i64 (↑k : Int), D.undef, D.undef, D.undef, D.undef, D.undef, D.undef, D.undef, D.undef, D.undef, D.undef, D.undef, D.undef, D.undef, D.undef] ([]) := by
  have c0 := @imay_c_ok (kind) (op) (w) (dst) (src) (base) (disp) (imm) (cc) (reg) (phys) (num) (to) a0 a1 ho hc hp g0 g1
  exact (RoundRun.of_eval (sp := ⟨[4], [], []⟩) (n0 := 0) (ex := Ex.ret) (t' := [D.undef, D.undef, D.undef, D.undef, .int .i64 (↑k : Int), D.undef, D.undef, D.undef, D.undef, D.undef, D.undef, D.undef, D.undef, D.undef, D.undef, D.undef, D.undef, D.undef, D.undef]) (s' := []) mixed [tC (by (simp only [w_i8, w_u8, w_i64, w_u64, decide_eq_true_eq, decide_eq_false_iff_not, beq_iff_eq, bne_iff_ne, beq_eq_false_iff_ne, bne_eq_false_iff_eq, Bool.not_eq_true', Bool.not_eq_false', Bool.and_eq_true, Bool.or_eq_true] at *; omega) : (decide ((↑k : Int) < (↑(List.length l) : Int))) = true), tT, .get _ _ _ hx, .inl, .ret _ _ _ c0, tC (nt he)] (by kernel_rfl)).cast (by rfl) (by rfl)
end Go.Proofs.Ytojgmjfcfpclbaa

namespace Go.Ev
open Go
theorem chk_ok {l : List IrS} : (chkI l).2 = 0 ↔ ∀ s ∈ l, s.may = true := by
  unfold chkI badI
  cases e : l.findIdx? (fun s => !s.may) with
  | none =>
    rw [List.findIdx?_eq_none_iff] at e
    simp only [true_iff]
    intro s hs
    simpa using e s hs
  | some k =>
    simp only [show ((2 : Int) = 0) = False from by simp, false_iff]
    intro h
    rw [List.findIdx?_eq_some_iff_getElem] at e
    obtain ⟨hk, h1, _⟩ := e
    simp [h _ (List.getElem_mem hk)] at h1
theorem chk_app {l k : List IrS} : (chkI (l ++ k)).2 = 0 ↔ (chkI l).2 = 0 ∧ (chkI k).2 = 0 := by
  simp only [chk_ok, List.mem_append]
  constructor
  · exact fun h => ⟨fun s hs => h s (.inl hs), fun s hs => h s (.inr hs)⟩
  · rintro ⟨h1, h2⟩ s (hs | hs)
    · exact h1 s hs
    · exact h2 s hs
theorem stops_take {s : IrS} (h : s.kind = 1 ∨ s.kind = 2) : s.stops = false := by
  unfold IrS.stops stopsI
  rw [decide_eq_false_iff_not]
  omega
theorem runI_stop {s : IrS} {t : List IrS} {r : RgS} {m : MachS} (h : s.stops = true) : runI (s :: t) r m = (r, m, t.length + 1, 0) := by
  rw [runI, h]
theorem runI_take {s : IrS} {t : List IrS} {r : RgS} {m : MachS} (h : s.kind = 1) : runI (s :: t) r m = runI t r (m.put s.phys (r.get s.reg)) := by
  rw [runI, stops_take (.inl h)]
  simp only [if_pos h]
theorem runI_give {s : IrS} {t : List IrS} {r : RgS} {m : MachS} (h : s.kind = 2) : runI (s :: t) r m = runI t (r.put s.reg (rg m.rl s.phys)) m := by
  rw [runI, stops_take (.inr h)]
  simp only [if_neg (show ¬ s.kind = 1 by omega), if_pos h]
theorem runI_x {s : IrS} {t : List IrS} {r : RgS} {m : MachS} (hs : s.stops = false) (h1 : s.kind ≠ 1) (h2 : s.kind ≠ 2) (h : (execS m s.x 0).2 = 0) : runI (s :: t) r m = runI t r ((execS m s.x 0).1.at 0) := by
  rw [runI, hs]
  simp only [if_neg h1, if_neg h2, if_pos h]
theorem runI_xe {s : IrS} {t : List IrS} {r : RgS} {m : MachS} (hs : s.stops = false) (h1 : s.kind ≠ 1) (h2 : s.kind ≠ 2) (h : (execS m s.x 0).2 ≠ 0) : runI (s :: t) r m = (.zero, .zero, t.length + 1, (execS m s.x 0).2) := by
  rw [runI, hs]
  simp only [if_neg h1, if_neg h2, if_neg h]
theorem runI_app {l l' : List IrS} {r r' : RgS} {m m' : MachS} (h : runI l r m = (r', m', 0, 0)) : runI (l ++ l') r m = runI l' r' m' := by
  induction l generalizing r m with
  | nil =>
    rw [runI] at h
    have h1 := (Prod.mk.inj h).1
    have h2 := (Prod.mk.inj (Prod.mk.inj h).2).1
    rw [h1, h2]
    rfl
  | cons s t ih =>
    rw [List.cons_append]
    cases hs : s.stops
    · by_cases h1 : s.kind = 1
      · rw [runI_take h1] at h ⊢
        exact ih h
      · by_cases h2 : s.kind = 2
        · rw [runI_give h2] at h ⊢
          exact ih h
        · by_cases he : (execS m s.x 0).2 = 0
          · rw [runI_x hs h1 h2 he] at h ⊢
            exact ih h
          · rw [runI_xe hs h1 h2 he] at h
            simp at h
    · rw [runI_stop hs] at h
      simp at h
theorem runI_left (l : List IrS) (r : RgS) (m : MachS) : (runI l r m).2.2.1 ≤ l.length := by
  induction l generalizing r m with
  | nil => simp [runI]
  | cons s t ih =>
    cases hs : s.stops
    · by_cases h1 : s.kind = 1
      · rw [runI_take h1]; have := ih r (m.put s.phys (r.get s.reg)); simp; omega
      · by_cases h2 : s.kind = 2
        · rw [runI_give h2]; have := ih (r.put s.reg (rg m.rl s.phys)) m; simp; omega
        · by_cases he : (execS m s.x 0).2 = 0
          · rw [runI_x hs h1 h2 he]; have := ih r ((execS m s.x 0).1.at 0); simp; omega
          · rw [runI_xe hs h1 h2 he]; simp
    · rw [runI_stop hs]; simp
theorem restI_len (l : List IrS) (r : RgS) (m : MachS) : (restI l r m).length = (runI l r m).2.2.1 := by
  have := runI_left l r m
  unfold restI
  rw [List.length_drop]
  omega
theorem restI_cons {s : IrS} {t : List IrS} {r r' : RgS} {m m' : MachS} (h : runI (s :: t) r m = runI t r' m') : restI (s :: t) r m = restI t r' m' := by
  unfold restI
  rw [h]
  have := runI_left t r' m'
  rw [List.length_cons, show t.length + 1 - (runI t r' m').2.2.1 = (t.length - (runI t r' m').2.2.1) + 1 by omega, List.drop_succ_cons]
theorem restI_stop {s : IrS} {t : List IrS} {r : RgS} {m : MachS} (h : s.stops = true) : restI (s :: t) r m = s :: t := by
  unfold restI
  rw [runI_stop h, List.length_cons, Nat.sub_self, List.drop_zero]
theorem may_kind0 {s : IrS} (hm : s.may = true) (hs : s.stops = false) (h1 : s.kind ≠ 1) (h2 : s.kind ≠ 2) : s.kind = 0 := by
  obtain ⟨kind, op, w, dst, src, base, disp, imm, cc, reg, phys, num, to⟩ := s
  replace hs : stopsI kind op = false := hs
  unfold stopsI at hs
  rw [decide_eq_false_iff_not] at hs
  replace hm : mayI kind op w dst src base disp imm cc reg phys num to = true := hm
  unfold mayI at hm
  refine Classical.byContradiction fun hk => ?_
  replace h1 : kind ≠ 1 := h1
  replace h2 : kind ≠ 2 := h2
  replace hk : ¬ kind = 0 := hk
  rw [if_neg hk, if_neg (by omega), if_neg (by omega), if_neg (by omega), if_neg (by omega), if_neg (by omega)] at hm
  cases hm
theorem runI_behind {l k : List IrS} {e : IrS} (he : e.stops = true) (r : RgS) (m : MachS) (h : (runI l r m).2.2.2 = 0) :
    runI (l ++ e :: k) r m = ((runI l r m).1, (runI l r m).2.1, (runI l r m).2.2.1 + 1 + k.length, 0) := by
  induction l generalizing r m with
  | nil => rw [List.nil_append, runI_stop he]; simp [runI]; omega
  | cons s t ih =>
    rw [List.cons_append]
    cases hs : s.stops
    · by_cases h1 : s.kind = 1
      · rw [runI_take h1] at h ⊢; rw [runI_take h1]; exact ih _ _ h
      · by_cases h2 : s.kind = 2
        · rw [runI_give h2] at h ⊢; rw [runI_give h2]; exact ih _ _ h
        · by_cases hx : (execS m s.x 0).2 = 0
          · rw [runI_x hs h1 h2 hx] at h ⊢; rw [runI_x hs h1 h2 hx]; exact ih _ _ h
          · rw [runI_xe hs h1 h2 hx] at h; exact absurd h hx
    · rw [runI_stop hs, runI_stop hs]; simp; omega
theorem doI_ok {l : List IrS} {r : RgS} (h : (chkI l).2 = 0) (h2 : (runI l r .zero).2.2.2 = 0) : doI l r = ((runI l r .zero).1, (runI l r .zero).2.1, ((l.length - (runI l r .zero).2.2.1 : Nat) : Int), 0) := by
  unfold doI
  simp only [if_pos h, if_pos h2]
theorem doI_err {l : List IrS} {r : RgS} (h : (doI l r).2.2.2 = 0) : (chkI l).2 = 0 ∧ (runI l r .zero).2.2.2 = 0 := by
  unfold doI at h
  by_cases hc : (chkI l).2 = 0
  · by_cases h2 : (runI l r .zero).2.2.2 = 0
    · exact ⟨hc, h2⟩
    · simp only [if_pos hc, if_neg h2] at h
      exact absurd h h2
  · simp only [if_neg hc] at h
    simp at h
theorem doI_zero {l : List IrS} {r : RgS} (h : (doI l r).2.2.2 ≠ 0) : (doI l r).1 = .zero ∧ (doI l r).2.1 = .zero ∧ (doI l r).2.2.1 = 0 := by
  unfold doI at h ⊢
  by_cases hc : (chkI l).2 = 0
  · by_cases h2 : (runI l r .zero).2.2.2 = 0
    · simp only [if_pos hc, if_pos h2] at h
      simp at h
    · simp only [if_pos hc, if_neg h2]
      exact ⟨trivial, trivial, trivial⟩
  · simp only [if_neg hc]
    exact ⟨trivial, trivial, trivial⟩
theorem doI_behind {l k : List IrS} {e : IrS} {r : RgS} (he : e.stops = true) (hm : e.may = true) (hk : (chkI k).2 = 0) (h : (doI l r).2.2.2 = 0) : doI (l ++ e :: k) r = doI l r := by
  obtain ⟨hc, h2⟩ := doI_err h
  have hb := runI_behind (k := k) he r .zero h2
  have hall : (chkI (l ++ e :: k)).2 = 0 := by
    rw [chk_app]
    refine ⟨hc, ?_⟩
    rw [chk_ok] at hk ⊢
    intro s hs
    rcases List.mem_cons.mp hs with rfl | hs
    · exact hm
    · exact hk s hs
  rw [doI_ok hall (by rw [hb]), doI_ok hc h2, hb]
  have := runI_left l r .zero
  simp only [List.length_append, List.length_cons]
  congr 4
  omega
end Go.Ev

namespace Go.Proofs.Ytojgmjfcfpclbaa
open Go Go.Ev
set_option maxRecDepth 100000
theorem idx_run_n (l : List IrS) (hb : (l.map IrS.d).length ≤ 9223372036854775807) (ho : AllOk l) (hm : badI l = none) :
    LoopRun Try.prog 0 (.loop (loopB Try.f28 0)) [.lst .no 13 (l.map IrS.d), .fn (Fn.func 29) [] [], .undef, .undef, .undef, .undef, .undef, .int .i64 ((l.map IrS.d).length : Int), .int .i64 0, .undef, .undef, .undef, .undef, .undef, .undef, .undef, .undef, .undef, .undef] [] (.exit 0) [.undef, .undef, .undef, .undef, .undef, .undef, .undef, .undef, .undef, .undef, .undef, .undef, .undef, .undef, .undef, .undef, .undef, .undef, .undef] [] := by
  have hall : ∀ s ∈ l, s.may = true := by
    unfold badI at hm
    rw [List.findIdx?_eq_none_iff] at hm
    intro s hs
    simpa using hm s hs
  have key : ∀ (n k : Nat), n + k = l.length → Rounds Try.prog (loopB Try.f28 0) 0 [.lst .no 13 (l.map IrS.d), .fn (Fn.func 29) [] [], .undef, .undef, .undef, .undef, .undef, .int .i64 ((l.map IrS.d).length : Int), .int .i64 (k : Int), .undef, .undef, .undef, .undef, .undef, .undef, .undef, .undef, .undef, .undef] [] (.exit 0) [.undef, .undef, .undef, .undef, .undef, .undef, .undef, .undef, .undef, .undef, .undef, .undef, .undef, .undef, .undef, .undef, .undef, .undef, .undef] [] := by
    intro n
    induction n with
    | zero =>
      intro k hk
      exact Rounds.last (idx_done (l.map IrS.d) k hb (by simp; omega)) (by simp)
    | succ n ih =>
      intro k hk
      have hx : l[k]? = some l[k] := by simp
      obtain ⟨a0, a1, ho', hc, hp, g0, g1⟩ := ho _ (List.getElem_mem (show k < l.length by omega))
      exact Rounds.more (idx_ok (l.map IrS.d) k hb (by simp; omega) _ _ _ _ _ _ _ _ _ _ _ _ _ a0 a1 ho' hc hp g0 g1 (get_map hx) (hall _ (List.getElem_mem (show k < l.length by omega)))) (ih (k + 1) (by omega))
  exact LoopRun.of_rounds (by decide) (key l.length 0 (by omega))
theorem idx_run_s (l : List IrS) (j : Nat) (hb : (l.map IrS.d).length ≤ 9223372036854775807) (ho : AllOk l) (hm : badI l = some j) :
    LoopRun Try.prog 0 (.loop (loopB Try.f28 0)) [.lst .no 13 (l.map IrS.d), .fn (Fn.func 29) [] [], .undef, .undef, .undef, .undef, .undef, .int .i64 ((l.map IrS.d).length : Int), .int .i64 0, .undef, .undef, .undef, .undef, .undef, .undef, .undef, .undef, .undef, .undef] [] .ret [.undef, .undef, .undef, .undef, .int .i64 (j : Int), .undef, .undef, .undef, .undef, .undef, .undef, .undef, .undef, .undef, .undef, .undef, .undef, .undef, .undef] [] := by
  unfold badI at hm
  rw [List.findIdx?_eq_some_iff_getElem] at hm
  obtain ⟨hj, hbad, hbefore⟩ := hm
  have key : ∀ (n k : Nat), n + k = j → Rounds Try.prog (loopB Try.f28 0) 0 [.lst .no 13 (l.map IrS.d), .fn (Fn.func 29) [] [], .undef, .undef, .undef, .undef, .undef, .int .i64 ((l.map IrS.d).length : Int), .int .i64 (k : Int), .undef, .undef, .undef, .undef, .undef, .undef, .undef, .undef, .undef, .undef] [] .ret [.undef, .undef, .undef, .undef, .int .i64 (j : Int), .undef, .undef, .undef, .undef, .undef, .undef, .undef, .undef, .undef, .undef, .undef, .undef, .undef, .undef] [] := by
    intro n
    induction n with
    | zero =>
      intro k hk
      obtain rfl : k = j := by omega
      have hx : l[k]? = some l[k] := by simp
      obtain ⟨a0, a1, ho', hc, hp, g0, g1⟩ := ho _ (List.getElem_mem hj)
      exact Rounds.last (idx_bad (l.map IrS.d) k hb (by simpa using hj) _ _ _ _ _ _ _ _ _ _ _ _ _ a0 a1 ho' hc hp g0 g1 (get_map hx) (show l[k].may = false by simpa using hbad)) (by simp)
    | succ n ih =>
      intro k hk
      have hlt : k < l.length := by omega
      have hx : l[k]? = some l[k] := by simp
      obtain ⟨a0, a1, ho', hc, hp, g0, g1⟩ := ho _ (List.getElem_mem hlt)
      exact Rounds.more (idx_ok (l.map IrS.d) k hb (by simpa using hlt) _ _ _ _ _ _ _ _ _ _ _ _ _ a0 a1 ho' hc hp g0 g1 (get_map hx) (show l[k].may = true by simpa using hbefore k (by omega))) (ih (k + 1) (by omega))
  exact LoopRun.of_rounds (by decide) (key j 0 (by omega))
end Go.Proofs.Ytojgmjfcfpclbaa

namespace Go.Proofs.Ytojgmjfcfpclbaa
open Go Go.Ev
set_option maxRecDepth 100000
set_option maxHeartbeats 8000000
theorem xlen_ok (op w dst src base disp imm cc : Int) (ho : op ≤ 127) : Ret Try.prog 33 ([xD op w dst src base disp imm cc]) (.int .i64 (lenX op w dst src base disp imm cc)) := by
  have c0 := @bytes_any_ok (op) (w) (dst) (src) (base) (disp) (imm) (cc) ho
  exact (Ret.of_eval (d := .int .i64 (↑(List.length (bytesL op w dst src base disp imm cc)) : Int)) mixed Try.func33 (by kernel_rfl) [.ret _ _ _ c0] (by kernel_rfl)).to (by simp [wk, lenX])
end Go.Proofs.Ytojgmjfcfpclbaa
