/- Contracts: which registers an instruction reads. -/
import Derived.Test.YteakhlhhmgpidaaBase
import Derived.Test.YteakhlhhmgpidaaMayR
import Derived.Test.YteakhlhhmgpidaaMdH
namespace Go.Proofs.Yteakhlhhmgpidaa
open Go Go.Ev
set_option maxRecDepth 100000
set_option maxHeartbeats 8000000
set_option linter.unusedVariables false
set_option linter.unusedSimpArgs false
theorem bit11_ok (n : Int) : Ret Try.prog 24 ([.int .i8 n]) (.int .i64 (sh1 n)) := by
  exact (Ret.of_eval (d := D.int IntKind.i64 (IntKind.wrap IntKind.i64 ((1 : Int) * (2 : Int) ^ min (Int.toNat (IntKind.wrap IntKind.u64 n)) (64 : Nat)))) mixed Try.func24 (by kernel_rfl) [tC (v := true) (nn_u64 (n))] (by kernel_rfl)).to (by simp [wk, sh1, IntKind.bits])

theorem reads5_0_ok  : Ret Try.prog 12 ([instD 5 0 0 0 false 0 0 0 0]) (.int .i64 (readsCall 0)) := by
  have c0 := Proofs.Yteakhlhhmgpidaa.refMay_ok ((5 : Int)) ((0 : Int)) ((0 : Int)) ((0 : Int)) (false) ((0 : Int)) ((0 : Int)) ((0 : Int)) ((0 : Int))
  exact (Ret.of_eval (d := D.int IntKind.i64 (0 : Int)) mixed Try.func12 (by kernel_rfl) [.ret _ _ _ c0, tF, tF, tF, tF, tF, tT, .go 64, .inl, tT, tT, tF, tF, tF] (by kernel_rfl)).to (by simp [wk, readsCall])

theorem reads5_1_ok  : Ret Try.prog 12 ([instD 5 0 0 0 false 0 0 0 1]) (.int .i64 (readsCall 1)) := by
  have c0 := Proofs.Yteakhlhhmgpidaa.refMay_ok ((5 : Int)) ((0 : Int)) ((0 : Int)) ((0 : Int)) (false) ((0 : Int)) ((0 : Int)) ((0 : Int)) ((1 : Int))
  exact (Ret.of_eval (d := D.int IntKind.i64 (2 : Int)) mixed Try.func12 (by kernel_rfl) [.ret _ _ _ c0, tF, tF, tF, tF, tF, tT, .go 64, .inl, tT, tT, tF, tF, tT, tT, .inl, tT, tT, tF, tF, tF] (by kernel_rfl)).to (by simp [wk, readsCall])

theorem reads5_2_ok  : Ret Try.prog 12 ([instD 5 0 0 0 false 0 0 0 2]) (.int .i64 (readsCall 2)) := by
  have c0 := Proofs.Yteakhlhhmgpidaa.refMay_ok ((5 : Int)) ((0 : Int)) ((0 : Int)) ((0 : Int)) (false) ((0 : Int)) ((0 : Int)) ((0 : Int)) ((2 : Int))
  exact (Ret.of_eval (d := D.int IntKind.i64 (6 : Int)) mixed Try.func12 (by kernel_rfl) [.ret _ _ _ c0, tF, tF, tF, tF, tF, tT, .go 64, .inl, tT, tT, tF, tF, tT, tT, .inl, tT, tT, tF, tF, tT, tT, .inl, tT, tT, tF, tF, tF] (by kernel_rfl)).to (by simp [wk, readsCall])

theorem reads5_3_ok  : Ret Try.prog 12 ([instD 5 0 0 0 false 0 0 0 3]) (.int .i64 (readsCall 3)) := by
  have c0 := Proofs.Yteakhlhhmgpidaa.refMay_ok ((5 : Int)) ((0 : Int)) ((0 : Int)) ((0 : Int)) (false) ((0 : Int)) ((0 : Int)) ((0 : Int)) ((3 : Int))
  exact (Ret.of_eval (d := D.int IntKind.i64 (14 : Int)) mixed Try.func12 (by kernel_rfl) [.ret _ _ _ c0, tF, tF, tF, tF, tF, tT, .go 64, .inl, tT, tT, tF, tF, tT, tT, .inl, tT, tT, tF, tF, tT, tT, .inl, tT, tT, tF, tF, tT, tT, .inl, tT, tT, tF, tF, tF] (by kernel_rfl)).to (by simp [wk, readsCall])

theorem reads5_4_ok  : Ret Try.prog 12 ([instD 5 0 0 0 false 0 0 0 4]) (.int .i64 (readsCall 4)) := by
  have c0 := Proofs.Yteakhlhhmgpidaa.refMay_ok ((5 : Int)) ((0 : Int)) ((0 : Int)) ((0 : Int)) (false) ((0 : Int)) ((0 : Int)) ((0 : Int)) ((4 : Int))
  exact (Ret.of_eval (d := D.int IntKind.i64 (30 : Int)) mixed Try.func12 (by kernel_rfl) [.ret _ _ _ c0, tF, tF, tF, tF, tF, tT, .go 64, .inl, tT, tT, tF, tF, tT, tT, .inl, tT, tT, tF, tF, tT, tT, .inl, tT, tT, tF, tF, tT, tT, .inl, tT, tT, tF, tF, tT, tT, .inl, tT, tT, tF, tF, tF] (by kernel_rfl)).to (by simp [wk, readsCall])

theorem reads5_5_ok  : Ret Try.prog 12 ([instD 5 0 0 0 false 0 0 0 5]) (.int .i64 (readsCall 5)) := by
  have c0 := Proofs.Yteakhlhhmgpidaa.refMay_ok ((5 : Int)) ((0 : Int)) ((0 : Int)) ((0 : Int)) (false) ((0 : Int)) ((0 : Int)) ((0 : Int)) ((5 : Int))
  exact (Ret.of_eval (d := D.int IntKind.i64 (62 : Int)) mixed Try.func12 (by kernel_rfl) [.ret _ _ _ c0, tF, tF, tF, tF, tF, tT, .go 64, .inl, tT, tT, tF, tF, tT, tT, .inl, tT, tT, tF, tF, tT, tT, .inl, tT, tT, tF, tF, tT, tT, .inl, tT, tT, tF, tF, tT, tT, .inl, tT, tT, tF, tF, tT, tT, .inl, tT, tT, tF, tF, tF] (by kernel_rfl)).to (by simp [wk, readsCall])

theorem reads5_6_ok  : Ret Try.prog 12 ([instD 5 0 0 0 false 0 0 0 6]) (.int .i64 (readsCall 6)) := by
  have c0 := Proofs.Yteakhlhhmgpidaa.refMay_ok ((5 : Int)) ((0 : Int)) ((0 : Int)) ((0 : Int)) (false) ((0 : Int)) ((0 : Int)) ((0 : Int)) ((6 : Int))
  exact (Ret.of_eval (d := D.int IntKind.i64 (0 : Int)) mixed Try.func12 (by kernel_rfl) [.ret _ _ _ c0, tF, tF, tF, tF, tF, tT, .go 64, .inl, tT, tT, tF, tF, tF] (by kernel_rfl)).to (by simp [wk, readsCall])

theorem reads5_7_ok  : Ret Try.prog 12 ([instD 5 0 0 0 false 0 0 0 7]) (.int .i64 (readsCall 7)) := by
  have c0 := Proofs.Yteakhlhhmgpidaa.refMay_ok ((5 : Int)) ((0 : Int)) ((0 : Int)) ((0 : Int)) (false) ((0 : Int)) ((0 : Int)) ((0 : Int)) ((7 : Int))
  exact (Ret.of_eval (d := D.int IntKind.i64 (2 : Int)) mixed Try.func12 (by kernel_rfl) [.ret _ _ _ c0, tF, tF, tF, tF, tF, tT, .go 64, .inl, tT, tT, tF, tF, tT, tT, .inl, tT, tT, tF, tF, tF] (by kernel_rfl)).to (by simp [wk, readsCall])

theorem reads5_8_ok  : Ret Try.prog 12 ([instD 5 0 0 0 false 0 0 0 8]) (.int .i64 (readsCall 8)) := by
  have c0 := Proofs.Yteakhlhhmgpidaa.refMay_ok ((5 : Int)) ((0 : Int)) ((0 : Int)) ((0 : Int)) (false) ((0 : Int)) ((0 : Int)) ((0 : Int)) ((8 : Int))
  exact (Ret.of_eval (d := D.int IntKind.i64 (6 : Int)) mixed Try.func12 (by kernel_rfl) [.ret _ _ _ c0, tF, tF, tF, tF, tF, tT, .go 64, .inl, tT, tT, tF, tF, tT, tT, .inl, tT, tT, tF, tF, tT, tT, .inl, tT, tT, tF, tF, tF] (by kernel_rfl)).to (by simp [wk, readsCall])

theorem reads5_9_ok  : Ret Try.prog 12 ([instD 5 0 0 0 false 0 0 0 9]) (.int .i64 (readsCall 9)) := by
  have c0 := Proofs.Yteakhlhhmgpidaa.refMay_ok ((5 : Int)) ((0 : Int)) ((0 : Int)) ((0 : Int)) (false) ((0 : Int)) ((0 : Int)) ((0 : Int)) ((9 : Int))
  exact (Ret.of_eval (d := D.int IntKind.i64 (14 : Int)) mixed Try.func12 (by kernel_rfl) [.ret _ _ _ c0, tF, tF, tF, tF, tF, tT, .go 64, .inl, tT, tT, tF, tF, tT, tT, .inl, tT, tT, tF, tF, tT, tT, .inl, tT, tT, tF, tF, tT, tT, .inl, tT, tT, tF, tF, tF] (by kernel_rfl)).to (by simp [wk, readsCall])

theorem reads5_10_ok  : Ret Try.prog 12 ([instD 5 0 0 0 false 0 0 0 10]) (.int .i64 (readsCall 10)) := by
  have c0 := Proofs.Yteakhlhhmgpidaa.refMay_ok ((5 : Int)) ((0 : Int)) ((0 : Int)) ((0 : Int)) (false) ((0 : Int)) ((0 : Int)) ((0 : Int)) ((10 : Int))
  exact (Ret.of_eval (d := D.int IntKind.i64 (30 : Int)) mixed Try.func12 (by kernel_rfl) [.ret _ _ _ c0, tF, tF, tF, tF, tF, tT, .go 64, .inl, tT, tT, tF, tF, tT, tT, .inl, tT, tT, tF, tF, tT, tT, .inl, tT, tT, tF, tF, tT, tT, .inl, tT, tT, tF, tF, tT, tT, .inl, tT, tT, tF, tF, tF] (by kernel_rfl)).to (by simp [wk, readsCall])

theorem reads5_11_ok  : Ret Try.prog 12 ([instD 5 0 0 0 false 0 0 0 11]) (.int .i64 (readsCall 11)) := by
  have c0 := Proofs.Yteakhlhhmgpidaa.refMay_ok ((5 : Int)) ((0 : Int)) ((0 : Int)) ((0 : Int)) (false) ((0 : Int)) ((0 : Int)) ((0 : Int)) ((11 : Int))
  exact (Ret.of_eval (d := D.int IntKind.i64 (62 : Int)) mixed Try.func12 (by kernel_rfl) [.ret _ _ _ c0, tF, tF, tF, tF, tF, tT, .go 64, .inl, tT, tT, tF, tF, tT, tT, .inl, tT, tT, tF, tF, tT, tT, .inl, tT, tT, tF, tF, tT, tT, .inl, tT, tT, tF, tF, tT, tT, .inl, tT, tT, tF, tF, tT, tT, .inl, tT, tT, tF, tF, tF] (by kernel_rfl)).to (by simp [wk, readsCall])

theorem reads5_12_ok  : Ret Try.prog 12 ([instD 5 0 0 0 false 0 0 0 12]) (.int .i64 (readsCall 12)) := by
  have c0 := Proofs.Yteakhlhhmgpidaa.refMay_ok ((5 : Int)) ((0 : Int)) ((0 : Int)) ((0 : Int)) (false) ((0 : Int)) ((0 : Int)) ((0 : Int)) ((12 : Int))
  exact (Ret.of_eval (d := D.int IntKind.i64 (0 : Int)) mixed Try.func12 (by kernel_rfl) [.ret _ _ _ c0, tF, tF, tF, tF, tF, tT, .go 64, .inl, tT, tT, tF, tF, tF] (by kernel_rfl)).to (by simp [wk, readsCall])

theorem reads5_13_ok  : Ret Try.prog 12 ([instD 5 0 0 0 false 0 0 0 13]) (.int .i64 (readsCall 13)) := by
  have c0 := Proofs.Yteakhlhhmgpidaa.refMay_ok ((5 : Int)) ((0 : Int)) ((0 : Int)) ((0 : Int)) (false) ((0 : Int)) ((0 : Int)) ((0 : Int)) ((13 : Int))
  exact (Ret.of_eval (d := D.int IntKind.i64 (2 : Int)) mixed Try.func12 (by kernel_rfl) [.ret _ _ _ c0, tF, tF, tF, tF, tF, tT, .go 64, .inl, tT, tT, tF, tF, tT, tT, .inl, tT, tT, tF, tF, tF] (by kernel_rfl)).to (by simp [wk, readsCall])

theorem reads5_14_ok  : Ret Try.prog 12 ([instD 5 0 0 0 false 0 0 0 14]) (.int .i64 (readsCall 14)) := by
  have c0 := Proofs.Yteakhlhhmgpidaa.refMay_ok ((5 : Int)) ((0 : Int)) ((0 : Int)) ((0 : Int)) (false) ((0 : Int)) ((0 : Int)) ((0 : Int)) ((14 : Int))
  exact (Ret.of_eval (d := D.int IntKind.i64 (6 : Int)) mixed Try.func12 (by kernel_rfl) [.ret _ _ _ c0, tF, tF, tF, tF, tF, tT, .go 64, .inl, tT, tT, tF, tF, tT, tT, .inl, tT, tT, tF, tF, tT, tT, .inl, tT, tT, tF, tF, tF] (by kernel_rfl)).to (by simp [wk, readsCall])

theorem reads5_15_ok  : Ret Try.prog 12 ([instD 5 0 0 0 false 0 0 0 15]) (.int .i64 (readsCall 15)) := by
  have c0 := Proofs.Yteakhlhhmgpidaa.refMay_ok ((5 : Int)) ((0 : Int)) ((0 : Int)) ((0 : Int)) (false) ((0 : Int)) ((0 : Int)) ((0 : Int)) ((15 : Int))
  exact (Ret.of_eval (d := D.int IntKind.i64 (14 : Int)) mixed Try.func12 (by kernel_rfl) [.ret _ _ _ c0, tF, tF, tF, tF, tF, tT, .go 64, .inl, tT, tT, tF, tF, tT, tT, .inl, tT, tT, tF, tF, tT, tT, .inl, tT, tT, tF, tF, tT, tT, .inl, tT, tT, tF, tF, tF] (by kernel_rfl)).to (by simp [wk, readsCall])

theorem reads_no_ok (kind op width size : Int) (byReg : Bool) (dst src off imm : Int) (h : mayM kind op width size byReg dst src off imm = false) : Ret Try.prog 12 ([instD kind op width size byReg dst src off imm]) (.int .i64 0) := by
  have c0 := Proofs.Yteakhlhhmgpidaa.refMay_ok (kind) (op) (width) (size) (byReg) (dst) (src) (off) (imm)
  rw [show (mayM kind op width size byReg dst src off imm) = false from h] at c0
  exact (Ret.of_eval (d := D.int IntKind.i64 (0 : Int)) mixed Try.func12 (by kernel_rfl) [.ret _ _ _ c0, tT] (by kernel_rfl)).to (by simp [wk])

theorem reads_0_ok (op width size : Int) (byReg : Bool) (dst src off imm : Int) (h : mayM 0 op width size byReg dst src off imm = true) : Ret Try.prog 12 ([instD 0 op width size byReg dst src off imm]) (.int .i64 (readsM 0 op byReg dst src imm)) := by
  have c0 := Proofs.Yteakhlhhmgpidaa.refMay_ok ((0 : Int)) (op) (width) (size) (byReg) (dst) (src) (off) (imm)
  rw [show (mayM (0 : Int) op width size byReg dst src off imm) = true from h] at c0
  by_cases h1 : op = 11
  · subst h1
    cases byReg
    · skip
      exact (Ret.of_eval (d := D.int IntKind.i64 (0 : Int)) mixed Try.func12 (by kernel_rfl) [.ret _ _ _ c0, tF, tT, tF, tF] (by kernel_rfl)).to (by first | (subst_vars; rfl) | (subst_vars; simp only [wk, readsM, *, if_false, if_true, reduceIte, D.int.injEq, true_and]; first | done | rfl) | simp [wk, readsM, or64, IntKind.bits, ])
    · skip
      have c2 := Proofs.Yteakhlhhmgpidaa.bit11_ok (src)
      generalize g4 : sh1 src = r3 at c2
      exact (Ret.of_eval (d := D.int IntKind.i64 (IntKind.wrap IntKind.i64 (↑(BitVec.toNat (BitVec.ofInt (64 : Nat) (0 : Int) ||| BitVec.ofInt (64 : Nat) r3)) : Int))) mixed Try.func12 (by kernel_rfl) [.ret _ _ _ c0, tF, tT, tF, tT, .ret _ _ _ c2] (by kernel_rfl)).to (by first | (subst_vars; rfl) | (subst_vars; simp only [wk, readsM, *, if_false, if_true, reduceIte, D.int.injEq, true_and]; first | done | rfl) | simp [wk, readsM, or64, IntKind.bits, g4])
  · skip
    have c5 := Proofs.Yteakhlhhmgpidaa.bit11_ok (dst)
    generalize g7 : sh1 dst = r6 at c5
    cases byReg
    · skip
      exact (Ret.of_eval (d := D.int IntKind.i64 r6) mixed Try.func12 (by kernel_rfl) [.ret _ _ _ c0, tF, tT, tC (nt (neOf h1)), .ret _ _ _ c5, tF] (by kernel_rfl)).to (by first | (subst_vars; rfl) | (subst_vars; simp only [wk, readsM, *, if_false, if_true, reduceIte, D.int.injEq, true_and]; first | done | rfl) | simp [wk, readsM, or64, IntKind.bits, h1, g7])
    · skip
      have c8 := Proofs.Yteakhlhhmgpidaa.bit11_ok (src)
      generalize g10 : sh1 src = r9 at c8
      exact (Ret.of_eval (d := D.int IntKind.i64 (IntKind.wrap IntKind.i64 (↑(BitVec.toNat (BitVec.ofInt (64 : Nat) r6 ||| BitVec.ofInt (64 : Nat) r9)) : Int))) mixed Try.func12 (by kernel_rfl) [.ret _ _ _ c0, tF, tT, tC (nt (neOf h1)), .ret _ _ _ c5, tT, .ret _ _ _ c8] (by kernel_rfl)).to (by first | (subst_vars; rfl) | (subst_vars; simp only [wk, readsM, *, if_false, if_true, reduceIte, D.int.injEq, true_and]; first | done | rfl) | simp [wk, readsM, or64, IntKind.bits, h1, g7, g10])

theorem reads_1_ok (op width size : Int) (byReg : Bool) (dst src off imm : Int) (h : mayM 1 op width size byReg dst src off imm = true) : Ret Try.prog 12 ([instD 1 op width size byReg dst src off imm]) (.int .i64 (readsM 1 op byReg dst src imm)) := by
  have c0 := Proofs.Yteakhlhhmgpidaa.refMay_ok ((1 : Int)) (op) (width) (size) (byReg) (dst) (src) (off) (imm)
  rw [show (mayM (1 : Int) op width size byReg dst src off imm) = true from h] at c0
  have c1 := Proofs.Yteakhlhhmgpidaa.bit11_ok (src)
  generalize g3 : sh1 src = r2 at c1
  exact (Ret.of_eval (d := D.int IntKind.i64 r2) mixed Try.func12 (by kernel_rfl) [.ret _ _ _ c0, tF, tF, tT, .ret _ _ _ c1] (by kernel_rfl)).to (by first | (subst_vars; rfl) | (subst_vars; simp only [wk, readsM, *, if_false, if_true, reduceIte, D.int.injEq, true_and]; first | done | rfl) | simp [wk, readsM, or64, IntKind.bits, g3])

theorem reads_2_ok (op width size : Int) (byReg : Bool) (dst src off imm : Int) (h : mayM 2 op width size byReg dst src off imm = true) : Ret Try.prog 12 ([instD 2 op width size byReg dst src off imm]) (.int .i64 (readsM 2 op byReg dst src imm)) := by
  have c0 := Proofs.Yteakhlhhmgpidaa.refMay_ok ((2 : Int)) (op) (width) (size) (byReg) (dst) (src) (off) (imm)
  rw [show (mayM (2 : Int) op width size byReg dst src off imm) = true from h] at c0
  have c1 := Proofs.Yteakhlhhmgpidaa.bit11_ok (dst)
  generalize g3 : sh1 dst = r2 at c1
  have c4 := Proofs.Yteakhlhhmgpidaa.bit11_ok (src)
  generalize g6 : sh1 src = r5 at c4
  exact (Ret.of_eval (d := D.int IntKind.i64 (IntKind.wrap IntKind.i64 (↑(BitVec.toNat (BitVec.ofInt (64 : Nat) r2 ||| BitVec.ofInt (64 : Nat) r5)) : Int))) mixed Try.func12 (by kernel_rfl) [.ret _ _ _ c0, tF, tF, tF, tT, .ret _ _ _ c1, .ret _ _ _ c4] (by kernel_rfl)).to (by first | (subst_vars; rfl) | (subst_vars; simp only [wk, readsM, *, if_false, if_true, reduceIte, D.int.injEq, true_and]; first | done | rfl) | simp [wk, readsM, or64, IntKind.bits, g3, g6])

theorem reads_3_ok (op width size : Int) (byReg : Bool) (dst src off imm : Int) (h : mayM 3 op width size byReg dst src off imm = true) : Ret Try.prog 12 ([instD 3 op width size byReg dst src off imm]) (.int .i64 (readsM 3 op byReg dst src imm)) := by
  have c0 := Proofs.Yteakhlhhmgpidaa.refMay_ok ((3 : Int)) (op) (width) (size) (byReg) (dst) (src) (off) (imm)
  rw [show (mayM (3 : Int) op width size byReg dst src off imm) = true from h] at c0
  have c1 := Proofs.Yteakhlhhmgpidaa.bit11_ok (dst)
  generalize g3 : sh1 dst = r2 at c1
  cases byReg
  · skip
    exact (Ret.of_eval (d := D.int IntKind.i64 r2) mixed Try.func12 (by kernel_rfl) [.ret _ _ _ c0, tF, tF, tF, tF, tT, .ret _ _ _ c1, tF] (by kernel_rfl)).to (by first | (subst_vars; rfl) | (subst_vars; simp only [wk, readsM, *, if_false, if_true, reduceIte, D.int.injEq, true_and]; first | done | rfl) | simp [wk, readsM, or64, IntKind.bits, g3])
  · skip
    have c4 := Proofs.Yteakhlhhmgpidaa.bit11_ok (src)
    generalize g6 : sh1 src = r5 at c4
    exact (Ret.of_eval (d := D.int IntKind.i64 (IntKind.wrap IntKind.i64 (↑(BitVec.toNat (BitVec.ofInt (64 : Nat) r2 ||| BitVec.ofInt (64 : Nat) r5)) : Int))) mixed Try.func12 (by kernel_rfl) [.ret _ _ _ c0, tF, tF, tF, tF, tT, .ret _ _ _ c1, tT, .ret _ _ _ c4] (by kernel_rfl)).to (by first | (subst_vars; rfl) | (subst_vars; simp only [wk, readsM, *, if_false, if_true, reduceIte, D.int.injEq, true_and]; first | done | rfl) | simp [wk, readsM, or64, IntKind.bits, g3, g6])

theorem reads_4_ok (op width size : Int) (byReg : Bool) (dst src off imm : Int) (h : mayM 4 op width size byReg dst src off imm = true) : Ret Try.prog 12 ([instD 4 op width size byReg dst src off imm]) (.int .i64 (readsM 4 op byReg dst src imm)) := by
  have c0 := Proofs.Yteakhlhhmgpidaa.refMay_ok ((4 : Int)) (op) (width) (size) (byReg) (dst) (src) (off) (imm)
  rw [show (mayM (4 : Int) op width size byReg dst src off imm) = true from h] at c0
  exact (Ret.of_eval (d := D.int IntKind.i64 (0 : Int)) mixed Try.func12 (by kernel_rfl) [.ret _ _ _ c0, tF, tF, tF, tF, tF, tF, tF] (by kernel_rfl)).to (by first | (subst_vars; rfl) | (subst_vars; simp only [wk, readsM, *, if_false, if_true, reduceIte, D.int.injEq, true_and]; first | done | rfl) | simp [wk, readsM, or64, IntKind.bits, ])

theorem reads_6_ok (op width size : Int) (byReg : Bool) (dst src off imm : Int) (h : mayM 6 op width size byReg dst src off imm = true) : Ret Try.prog 12 ([instD 6 op width size byReg dst src off imm]) (.int .i64 (readsM 6 op byReg dst src imm)) := by
  have c0 := Proofs.Yteakhlhhmgpidaa.refMay_ok ((6 : Int)) (op) (width) (size) (byReg) (dst) (src) (off) (imm)
  rw [show (mayM (6 : Int) op width size byReg dst src off imm) = true from h] at c0
  exact (Ret.of_eval (d := D.int IntKind.i64 (1 : Int)) mixed Try.func12 (by kernel_rfl) [.ret _ _ _ c0, tF, tF, tF, tF, tF, tF, tT] (by kernel_rfl)).to (by first | (subst_vars; rfl) | (subst_vars; simp only [wk, readsM, *, if_false, if_true, reduceIte, D.int.injEq, true_and]; first | done | rfl) | simp [wk, readsM, or64, IntKind.bits, ])

end Go.Proofs.Yteakhlhhmgpidaa
