/- Contracts: prefixes, registers, memory, numbers as bytes. -/
import Derived.Test.YtkannibhndjgeaaNumA
import Derived.Test.YtkannibhndjgeaaMdZ
namespace Go.Proofs.Ytkannibhndjgeaa
open Go Go.Ev
set_option maxRecDepth 100000
set_option maxHeartbeats 8000000
set_option linter.unusedVariables false
set_option linter.unusedSimpArgs false
theorem mRex_f_ok (r m : Int) (r0 : 0 ≤ r) (r1 : r ≤ 15) (m0 : 0 ≤ m) (m1 : m ≤ 15) : Ret Try.prog 69 ([.bool false, .int .i8 r, .int .i8 m]) (.tup [.int .u8 (rexB false r m), .int .i64 0]) := by
  have c0 := @mregister_ok (r)
  rw [show (regM r) = true from (@reg_yes (r) r0 r1)] at c0
  have c1 := @mregister_ok (m)
  rw [show (regM m) = true from (@reg_yes (m) m0 m1)] at c1
  have c2 := @mhigh2_ok (r) r0 r1
  have c3 := @mhigh0_ok (m) m0 m1
  exact (Ret.of_eval (d := .tup [.int .u8 (IntKind.wrap IntKind.u8 (↑(BitVec.toNat (BitVec.ofInt (8 : Nat) (IntKind.wrap IntKind.u8 (↑(BitVec.toNat (BitVec.ofInt (8 : Nat) (64 : Int) ||| BitVec.ofInt (8 : Nat) ((4 : Int) * (r / (8 : Int))))) : Int)) ||| BitVec.ofInt (8 : Nat) (m / (8 : Int)))) : Int)), .int .i64 0]) mixed Try.func69 (by kernel_rfl) [.ret _ _ _ c0, tT, tT, .ret _ _ _ c1, tT, tF, tF, .ret _ _ _ c2, .ret _ _ _ c3, tF] (by kernel_rfl)).to (by simp only [wk, wkL, D.int.injEq, true_and, and_true]; exact rex_raw0 r0 r1 m0 m1)

theorem mRex_t_ok (r m : Int) (r0 : 0 ≤ r) (r1 : r ≤ 15) (m0 : 0 ≤ m) (m1 : m ≤ 15) : Ret Try.prog 69 ([.bool true, .int .i8 r, .int .i8 m]) (.tup [.int .u8 (rexB true r m), .int .i64 0]) := by
  have c0 := @mregister_ok (r)
  rw [show (regM r) = true from (@reg_yes (r) r0 r1)] at c0
  have c1 := @mregister_ok (m)
  rw [show (regM m) = true from (@reg_yes (m) m0 m1)] at c1
  have c2 := @mhigh2_ok (r) r0 r1
  have c3 := @mhigh0_ok (m) m0 m1
  exact (Ret.of_eval (d := .tup [.int .u8 (IntKind.wrap IntKind.u8 (↑(BitVec.toNat (BitVec.ofInt (8 : Nat) (IntKind.wrap IntKind.u8 (↑(BitVec.toNat (BitVec.ofInt (8 : Nat) (IntKind.wrap IntKind.u8 (↑(BitVec.toNat (BitVec.ofInt (8 : Nat) (64 : Int) ||| BitVec.ofInt (8 : Nat) ((4 : Int) * (r / (8 : Int))))) : Int)) ||| BitVec.ofInt (8 : Nat) (m / (8 : Int)))) : Int)) ||| BitVec.ofInt (8 : Nat) (8 : Int))) : Int)), .int .i64 0]) mixed Try.func69 (by kernel_rfl) [.ret _ _ _ c0, tT, tT, .ret _ _ _ c1, tT, tF, tF, .ret _ _ _ c2, .ret _ _ _ c3, tT] (by kernel_rfl)).to (by simp only [wk, wkL, D.int.injEq, true_and, and_true]; exact rex_raw1 r0 r1 m0 m1)

theorem mRegs_ok (r m : Int) (r0 : 0 ≤ r) (r1 : r ≤ 15) (m0 : 0 ≤ m) (m1 : m ≤ 15) : Ret Try.prog 70 ([.int .i8 r, .int .i8 m]) (.tup [.lst .tight 1 [.int .u8 (regsM r m)], .int .i64 0]) := by
  have c0 := @mregister_ok (r)
  rw [show (regM r) = true from (@reg_yes (r) r0 r1)] at c0
  have c1 := @mregister_ok (m)
  rw [show (regM m) = true from (@reg_yes (m) m0 m1)] at c1
  have c2 := @mlow192_ok (r) (m) r0 r1 m0 m1
  generalize g4 : regsM r m = r3 at c2
  exact (Ret.of_eval (d := .tup [.lst .tight 1 [.int .u8 r3], .int .i64 0]) mixed Try.func70 (by kernel_rfl) [.ret _ _ _ c0, tT, tT, .ret _ _ _ c1, tT, tF, tF, .ret _ _ _ c2] (by kernel_rfl)).to (by subst_vars; simp [wk, wkL, wkO])

theorem mMem_4_ok (r b disp : Int) (r0 : 0 ≤ r) (r1 : r ≤ 15) (m0 : 0 ≤ b) (m1 : b ≤ 15) (h0 : -2147483648 ≤ disp) (h1 : disp ≤ 2147483647) (hb : decide (b % 8 = 4) = true) : Ret Try.prog 72 ([.int .i8 r, .int .i8 b, .int .i64 disp]) (.tup [.lst .no 1 [.int .u8 (128 + 8 * (r % 8) + b % 8), .int .u8 36, .int .u8 (disp % 256), .int .u8 (disp / 256 % 256), .int .u8 (disp / 65536 % 256), .int .u8 (disp / 16777216 % 256)], .int .i64 0]) := by
  have c0 := @num4_ok (disp) h0 h1
  have c1 := @mregister_ok (r)
  rw [show (regM r) = true from (@reg_yes (r) r0 r1)] at c1
  have c2 := @mregister_ok (b)
  rw [show (regM b) = true from (@reg_yes (b) m0 m1)] at c2
  have c3 := @mlow128_ok (r) (b) r0 r1 m0 m1
  exact (Ret.of_eval (d := .tup [.lst (.fresh 1) 1 [.int .u8 ((128 : Int) + (8 : Int) * (r % (8 : Int)) + b % (8 : Int)), .int .u8 36, .int .u8 (disp % (256 : Int)), .int .u8 (disp / (256 : Int) % (256 : Int)), .int .u8 (disp / (65536 : Int) % (256 : Int)), .int .u8 (disp / (16777216 : Int) % (256 : Int))], .int .i64 0]) mixed Try.func72 (by kernel_rfl) [.ret _ _ _ c0, tT, tT, .ret _ _ _ c1, tT, tF, tT, tT, .ret _ _ _ c2, tT, tF, tF, tC (eqI 4 true (eq_of_beq (@sib_t (b) hb))), .ret _ _ _ c3, .inl, .go 64, tT, tT, .get ([.lst .tight 1 [.int .u8 ((128 : Int) + (8 : Int) * (r % (8 : Int)) + b % (8 : Int))], .lst .tight 1 [.int .u8 36], .lst .tight 1 [.int .u8 (disp % (256 : Int)), .int .u8 (disp / (256 : Int) % (256 : Int)), .int .u8 (disp / (65536 : Int) % (256 : Int)), .int .u8 (disp / (16777216 : Int) % (256 : Int))]]) 0 (.lst .tight 1 [.int .u8 ((128 : Int) + (8 : Int) * (r % (8 : Int)) + b % (8 : Int))]) rfl, .len ((1 : Nat)) ((2147483648 : Nat)) (by first | decide | omega | (simp; omega)), tT, tT, .get ([.lst .tight 1 [.int .u8 ((128 : Int) + (8 : Int) * (r % (8 : Int)) + b % (8 : Int))], .lst .tight 1 [.int .u8 36], .lst .tight 1 [.int .u8 (disp % (256 : Int)), .int .u8 (disp / (256 : Int) % (256 : Int)), .int .u8 (disp / (65536 : Int) % (256 : Int)), .int .u8 (disp / (16777216 : Int) % (256 : Int))]]) 1 (.lst .tight 1 [.int .u8 36]) rfl, .len ((2 : Nat)) ((2147483648 : Nat)) (by first | decide | omega | (simp; omega)), tT, tT, .get ([.lst .tight 1 [.int .u8 ((128 : Int) + (8 : Int) * (r % (8 : Int)) + b % (8 : Int))], .lst .tight 1 [.int .u8 36], .lst .tight 1 [.int .u8 (disp % (256 : Int)), .int .u8 (disp / (256 : Int) % (256 : Int)), .int .u8 (disp / (65536 : Int) % (256 : Int)), .int .u8 (disp / (16777216 : Int) % (256 : Int))]]) 2 (.lst .tight 1 [.int .u8 (disp % (256 : Int)), .int .u8 (disp / (256 : Int) % (256 : Int)), .int .u8 (disp / (65536 : Int) % (256 : Int)), .int .u8 (disp / (16777216 : Int) % (256 : Int))]) rfl, .len ((6 : Nat)) ((2147483648 : Nat)) (by first | decide | omega | (simp; omega)), tF] (by kernel_rfl)).to (by subst_vars; simp [wk, wkL, wkO])

theorem mMem_n_ok (r b disp : Int) (r0 : 0 ≤ r) (r1 : r ≤ 15) (m0 : 0 ≤ b) (m1 : b ≤ 15) (h0 : -2147483648 ≤ disp) (h1 : disp ≤ 2147483647) (hb : decide (b % 8 = 4) = false) : Ret Try.prog 72 ([.int .i8 r, .int .i8 b, .int .i64 disp]) (.tup [.lst .no 1 [.int .u8 (128 + 8 * (r % 8) + b % 8), .int .u8 (disp % 256), .int .u8 (disp / 256 % 256), .int .u8 (disp / 65536 % 256), .int .u8 (disp / 16777216 % 256)], .int .i64 0]) := by
  have c0 := @num4_ok (disp) h0 h1
  have c1 := @mregister_ok (r)
  rw [show (regM r) = true from (@reg_yes (r) r0 r1)] at c1
  have c2 := @mregister_ok (b)
  rw [show (regM b) = true from (@reg_yes (b) m0 m1)] at c2
  have c3 := @mlow128_ok (r) (b) r0 r1 m0 m1
  exact (Ret.of_eval (d := .tup [.lst (.fresh 1) 1 [.int .u8 ((128 : Int) + (8 : Int) * (r % (8 : Int)) + b % (8 : Int)), .int .u8 (disp % (256 : Int)), .int .u8 (disp / (256 : Int) % (256 : Int)), .int .u8 (disp / (65536 : Int) % (256 : Int)), .int .u8 (disp / (16777216 : Int) % (256 : Int))], .int .i64 0]) mixed Try.func72 (by kernel_rfl) [.ret _ _ _ c0, tT, tT, .ret _ _ _ c1, tT, tF, tT, tT, .ret _ _ _ c2, tT, tF, tF, tC (@sib_f (b) hb), .ret _ _ _ c3, .inl, .go 64, tT, tT, .get ([.lst .tight 1 [.int .u8 ((128 : Int) + (8 : Int) * (r % (8 : Int)) + b % (8 : Int))], .lst .tight 0 [], .lst .tight 1 [.int .u8 (disp % (256 : Int)), .int .u8 (disp / (256 : Int) % (256 : Int)), .int .u8 (disp / (65536 : Int) % (256 : Int)), .int .u8 (disp / (16777216 : Int) % (256 : Int))]]) 0 (.lst .tight 1 [.int .u8 ((128 : Int) + (8 : Int) * (r % (8 : Int)) + b % (8 : Int))]) rfl, .len ((1 : Nat)) ((2147483648 : Nat)) (by first | decide | omega | (simp; omega)), tT, tT, .get ([.lst .tight 1 [.int .u8 ((128 : Int) + (8 : Int) * (r % (8 : Int)) + b % (8 : Int))], .lst .tight 0 [], .lst .tight 1 [.int .u8 (disp % (256 : Int)), .int .u8 (disp / (256 : Int) % (256 : Int)), .int .u8 (disp / (65536 : Int) % (256 : Int)), .int .u8 (disp / (16777216 : Int) % (256 : Int))]]) 1 (.lst .tight 0 []) rfl, .len ((1 : Nat)) ((2147483648 : Nat)) (by first | decide | omega | (simp; omega)), tT, tT, .get ([.lst .tight 1 [.int .u8 ((128 : Int) + (8 : Int) * (r % (8 : Int)) + b % (8 : Int))], .lst .tight 0 [], .lst .tight 1 [.int .u8 (disp % (256 : Int)), .int .u8 (disp / (256 : Int) % (256 : Int)), .int .u8 (disp / (65536 : Int) % (256 : Int)), .int .u8 (disp / (16777216 : Int) % (256 : Int))]]) 2 (.lst .tight 1 [.int .u8 (disp % (256 : Int)), .int .u8 (disp / (256 : Int) % (256 : Int)), .int .u8 (disp / (65536 : Int) % (256 : Int)), .int .u8 (disp / (16777216 : Int) % (256 : Int))]) rfl, .len ((5 : Nat)) ((2147483648 : Nat)) (by first | decide | omega | (simp; omega)), tF] (by kernel_rfl)).to (by subst_vars; simp [wk, wkL, wkO])

theorem rex_no_ok (r m : Int) (r0 : 0 ≤ r) (r1 : r ≤ 15) (m0 : 0 ≤ m) (m1 : m ≤ 15) (wide al : Bool) (hn : needM wide r m al = false) : Ret Try.prog 62 ([.bool wide, .int .i8 r, .int .i8 m, .bool al]) (.lst .tight 1 []) := by
  cases wide
  · skip
    cases al
    · skip
      have c0 := @mneeds_f_ok (r) (m) r0 r1 m0 m1 hn
      exact (Ret.of_eval (d := .lst .tight 0 []) mixed Try.func62 (by kernel_rfl) [tT, tT, tT, tT, tT, tT, .ret _ _ _ c0, tT, tT, tT] (by kernel_rfl)).to (by first | (simp [wk, wkL, wkO]; done) | (exfalso; simp [needM] at hn))
    · skip
      have c1 := @mRex_f_ok (r) (m) r0 r1 m0 m1
      generalize g3 : rexB false r m = r2 at c1
      exact (Ret.of_eval (d := .lst .tight 1 [.int .u8 r2]) mixed Try.func62 (by kernel_rfl) [tT, tT, tT, tF, tF, tF, tF, tF, tF, .ret _ _ _ c1] (by kernel_rfl)).to (by first | (simp [wk, wkL, wkO]; done) | (exfalso; simp [needM] at hn))
  · skip
    have c4 := @mRex_t_ok (r) (m) r0 r1 m0 m1
    generalize g6 : rexB true r m = r5 at c4
    exact (Ret.of_eval (d := .lst .tight 1 [.int .u8 r5]) mixed Try.func62 (by kernel_rfl) [tF, tF, tF, tF, tF, tF, tF, tF, tF, .ret _ _ _ c4] (by kernel_rfl)).to (by first | (simp [wk, wkL, wkO]; done) | (exfalso; simp [needM] at hn))

theorem rex_yes_ok (r m : Int) (r0 : 0 ≤ r) (r1 : r ≤ 15) (m0 : 0 ≤ m) (m1 : m ≤ 15) (wide al : Bool) (hn : needM wide r m al = true) : Ret Try.prog 62 ([.bool wide, .int .i8 r, .int .i8 m, .bool al]) (.lst .tight 1 [.int .u8 (rexB wide r m)]) := by
  cases wide
  · skip
    cases al
    · skip
      have c0 := @mneeds_t_ok (r) (m) r0 r1 m0 m1 hn
      have c1 := @mRex_f_ok (r) (m) r0 r1 m0 m1
      generalize g3 : rexB false r m = r2 at c1
      exact (Ret.of_eval (d := .lst .tight 1 [.int .u8 r2]) mixed Try.func62 (by kernel_rfl) [tT, tT, tT, tT, tT, tT, .ret _ _ _ c0, tT, tT, tF, .ret _ _ _ c1] (by kernel_rfl)).to (by subst_vars; first | (simp [wk, wkL, wkO]; done) | (exfalso; simp [needM] at hn; omega))
    · skip
      have c4 := @mRex_f_ok (r) (m) r0 r1 m0 m1
      generalize g6 : rexB false r m = r5 at c4
      exact (Ret.of_eval (d := .lst .tight 1 [.int .u8 r5]) mixed Try.func62 (by kernel_rfl) [tT, tT, tT, tF, tF, tF, tF, tF, tF, .ret _ _ _ c4] (by kernel_rfl)).to (by subst_vars; first | (simp [wk, wkL, wkO]; done) | (exfalso; simp [needM] at hn; omega))
  · skip
    have c7 := @mRex_t_ok (r) (m) r0 r1 m0 m1
    generalize g9 : rexB true r m = r8 at c7
    exact (Ret.of_eval (d := .lst .tight 1 [.int .u8 r8]) mixed Try.func62 (by kernel_rfl) [tF, tF, tF, tF, tF, tF, tF, tF, tF, .ret _ _ _ c7] (by kernel_rfl)).to (by subst_vars; first | (simp [wk, wkL, wkO]; done) | (exfalso; simp [needM] at hn; omega))

theorem two_ok (r m : Int) (r0 : 0 ≤ r) (r1 : r ≤ 15) (m0 : 0 ≤ m) (m1 : m ≤ 15) : Ret Try.prog 63 ([.int .i8 r, .int .i8 m]) (.lst .tight 1 [.int .u8 (regsM r m)]) := by
  have c0 := @mRegs_ok (r) (m) r0 r1 m0 m1
  generalize g2 : regsM r m = r1 at c0
  exact (Ret.of_eval (d := .lst .tight 1 [.int .u8 r1]) mixed Try.func63 (by kernel_rfl) [.ret _ _ _ c0] (by kernel_rfl)).to (by subst_vars; simp [wk, wkL, wkO])

theorem four_ok (n : Int) : Ret Try.prog 64 ([.int .i64 n]) (.lst .no 1 [.int .u8 (n % 256), .int .u8 (n / 256 % 256), .int .u8 (n / 65536 % 256), .int .u8 (n / 16777216 % 256)]) := by
  exact (Ret.of_eval (d := .lst (.fresh 1) 1 [.int .u8 (IntKind.wrap IntKind.u8 (IntKind.wrap IntKind.u64 n)), .int .u8 (IntKind.wrap IntKind.u8 (Int.fdiv (IntKind.wrap IntKind.u64 n) (256 : Int))), .int .u8 (IntKind.wrap IntKind.u8 (Int.fdiv (Int.fdiv (IntKind.wrap IntKind.u64 n) (256 : Int)) (256 : Int))), .int .u8 (IntKind.wrap IntKind.u8 (Int.fdiv (Int.fdiv (Int.fdiv (IntKind.wrap IntKind.u64 n) (256 : Int)) (256 : Int)) (256 : Int)))]) mixed Try.func64 (by kernel_rfl) [.inl, .go 64, tT, .len ((1 : Nat)) ((2147483648 : Nat)) (by first | decide | omega | (simp; omega)), tT, .len ((2 : Nat)) ((2147483648 : Nat)) (by first | decide | omega | (simp; omega)), tT, .len ((3 : Nat)) ((2147483648 : Nat)) (by first | decide | omega | (simp; omega)), tT, .len ((4 : Nat)) ((2147483648 : Nat)) (by first | decide | omega | (simp; omega)), tF] (by kernel_rfl)).to (by simp only [wk, wkL, wkO, D.int.injEq, D.lst.injEq, List.cons.injEq, true_and, and_true, w_u8, w_u64, true_or, fd1, fd256, fd65536, fd16777216]; first | done | omega | (simp; omega))

end Go.Proofs.Ytkannibhndjgeaa
