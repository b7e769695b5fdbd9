/- Contracts: the registers that an instruction reads, writes. -/
import Derived.Test.YtkannibhndjgeaaXS1
namespace Go.Proofs.Ytkannibhndjgeaa
open Go Go.Ev
set_option maxRecDepth 100000
set_option maxHeartbeats 8000000
set_option linter.unusedVariables false
set_option linter.unusedSimpArgs false
theorem reads_0_ok (w dst src base disp imm cc : Int) (d0 : 0 ≤ dst) (d1 : dst ≤ 15) (s0 : 0 ≤ src) (s1 : src ≤ 15) (b0 : 0 ≤ base) (b1 : base ≤ 15) (hm : mayX 0 w dst src base disp imm cc = true) : Ret Try.prog 15 ([xD 0 w dst src base disp imm cc]) (.int .i64 (readsX 0 dst src base)) := by
  have c0 := @Proofs.Ytkannibhndjgeaa.mayX_ok ((0 : Int)) (w) (dst) (src) (base) (disp) (imm) (cc) (by first | rfl | decide)
  rw [show (mayX (0 : Int) w dst src base disp imm cc) = true from hm] at c0
  have c1 := @Proofs.Ytkannibhndjgeaa.of_any_ok ((0 : Int)) (by first | rfl | decide)
  have c2 := @Proofs.Ytkannibhndjgeaa.set1_ok (src) s0 s1
  exact (Ret.of_eval (d := D.int IntKind.i64 (sh8 src)) mixed Try.func15 (by kernel_rfl) [.ret _ _ _ c0, tF, .ret _ _ _ c1, tT, tT, tT, .ret _ _ _ c2] (by kernel_rfl)).to (by rfl)

theorem reads_1_ok (w dst src base disp imm cc : Int) (d0 : 0 ≤ dst) (d1 : dst ≤ 15) (s0 : 0 ≤ src) (s1 : src ≤ 15) (b0 : 0 ≤ base) (b1 : base ≤ 15) (hm : mayX 1 w dst src base disp imm cc = true) : Ret Try.prog 15 ([xD 1 w dst src base disp imm cc]) (.int .i64 (readsX 1 dst src base)) := by
  have c0 := @Proofs.Ytkannibhndjgeaa.mayX_ok ((1 : Int)) (w) (dst) (src) (base) (disp) (imm) (cc) (by first | rfl | decide)
  rw [show (mayX (1 : Int) w dst src base disp imm cc) = true from hm] at c0
  have c1 := @Proofs.Ytkannibhndjgeaa.of_any_ok ((1 : Int)) (by first | rfl | decide)
  exact (Ret.of_eval (d := D.int IntKind.i64 (0 : Int)) mixed Try.func15 (by kernel_rfl) [.ret _ _ _ c0, tF, .ret _ _ _ c1, tF, tF, tF, tT, tT, tT] (by kernel_rfl)).to (by rfl)

theorem reads_2_ok (w dst src base disp imm cc : Int) (d0 : 0 ≤ dst) (d1 : dst ≤ 15) (s0 : 0 ≤ src) (s1 : src ≤ 15) (b0 : 0 ≤ base) (b1 : base ≤ 15) (hm : mayX 2 w dst src base disp imm cc = true) : Ret Try.prog 15 ([xD 2 w dst src base disp imm cc]) (.int .i64 (readsX 2 dst src base)) := by
  have c0 := @Proofs.Ytkannibhndjgeaa.mayX_ok ((2 : Int)) (w) (dst) (src) (base) (disp) (imm) (cc) (by first | rfl | decide)
  rw [show (mayX (2 : Int) w dst src base disp imm cc) = true from hm] at c0
  have c1 := @Proofs.Ytkannibhndjgeaa.of_any_ok ((2 : Int)) (by first | rfl | decide)
  have c2 := @Proofs.Ytkannibhndjgeaa.set2_ok (dst) d0 d1 (src) s0 s1
  exact (Ret.of_eval (d := D.int IntKind.i64 (or64 (sh8 dst) (sh8 src))) mixed Try.func15 (by kernel_rfl) [.ret _ _ _ c0, tF, .ret _ _ _ c1, tT, tT, tF, .ret _ _ _ c2] (by kernel_rfl)).to (by rfl)

theorem reads_3_ok (w dst src base disp imm cc : Int) (d0 : 0 ≤ dst) (d1 : dst ≤ 15) (s0 : 0 ≤ src) (s1 : src ≤ 15) (b0 : 0 ≤ base) (b1 : base ≤ 15) (hm : mayX 3 w dst src base disp imm cc = true) : Ret Try.prog 15 ([xD 3 w dst src base disp imm cc]) (.int .i64 (readsX 3 dst src base)) := by
  have c0 := @Proofs.Ytkannibhndjgeaa.mayX_ok ((3 : Int)) (w) (dst) (src) (base) (disp) (imm) (cc) (by first | rfl | decide)
  rw [show (mayX (3 : Int) w dst src base disp imm cc) = true from hm] at c0
  have c1 := @Proofs.Ytkannibhndjgeaa.of_any_ok ((3 : Int)) (by first | rfl | decide)
  have c2 := @Proofs.Ytkannibhndjgeaa.set2_ok (dst) d0 d1 (src) s0 s1
  exact (Ret.of_eval (d := D.int IntKind.i64 (or64 (sh8 dst) (sh8 src))) mixed Try.func15 (by kernel_rfl) [.ret _ _ _ c0, tF, .ret _ _ _ c1, tT, tT, tF, .ret _ _ _ c2] (by kernel_rfl)).to (by rfl)

theorem reads_4_ok (w dst src base disp imm cc : Int) (d0 : 0 ≤ dst) (d1 : dst ≤ 15) (s0 : 0 ≤ src) (s1 : src ≤ 15) (b0 : 0 ≤ base) (b1 : base ≤ 15) (hm : mayX 4 w dst src base disp imm cc = true) : Ret Try.prog 15 ([xD 4 w dst src base disp imm cc]) (.int .i64 (readsX 4 dst src base)) := by
  have c0 := @Proofs.Ytkannibhndjgeaa.mayX_ok ((4 : Int)) (w) (dst) (src) (base) (disp) (imm) (cc) (by first | rfl | decide)
  rw [show (mayX (4 : Int) w dst src base disp imm cc) = true from hm] at c0
  have c1 := @Proofs.Ytkannibhndjgeaa.of_any_ok ((4 : Int)) (by first | rfl | decide)
  have c2 := @Proofs.Ytkannibhndjgeaa.set2_ok (dst) d0 d1 (src) s0 s1
  exact (Ret.of_eval (d := D.int IntKind.i64 (or64 (sh8 dst) (sh8 src))) mixed Try.func15 (by kernel_rfl) [.ret _ _ _ c0, tF, .ret _ _ _ c1, tT, tT, tF, .ret _ _ _ c2] (by kernel_rfl)).to (by rfl)

theorem reads_5_ok (w dst src base disp imm cc : Int) (d0 : 0 ≤ dst) (d1 : dst ≤ 15) (s0 : 0 ≤ src) (s1 : src ≤ 15) (b0 : 0 ≤ base) (b1 : base ≤ 15) (hm : mayX 5 w dst src base disp imm cc = true) : Ret Try.prog 15 ([xD 5 w dst src base disp imm cc]) (.int .i64 (readsX 5 dst src base)) := by
  have c0 := @Proofs.Ytkannibhndjgeaa.mayX_ok ((5 : Int)) (w) (dst) (src) (base) (disp) (imm) (cc) (by first | rfl | decide)
  rw [show (mayX (5 : Int) w dst src base disp imm cc) = true from hm] at c0
  have c1 := @Proofs.Ytkannibhndjgeaa.of_any_ok ((5 : Int)) (by first | rfl | decide)
  have c2 := @Proofs.Ytkannibhndjgeaa.set2_ok (dst) d0 d1 (src) s0 s1
  exact (Ret.of_eval (d := D.int IntKind.i64 (or64 (sh8 dst) (sh8 src))) mixed Try.func15 (by kernel_rfl) [.ret _ _ _ c0, tF, .ret _ _ _ c1, tT, tT, tF, .ret _ _ _ c2] (by kernel_rfl)).to (by rfl)

theorem reads_6_ok (w dst src base disp imm cc : Int) (d0 : 0 ≤ dst) (d1 : dst ≤ 15) (s0 : 0 ≤ src) (s1 : src ≤ 15) (b0 : 0 ≤ base) (b1 : base ≤ 15) (hm : mayX 6 w dst src base disp imm cc = true) : Ret Try.prog 15 ([xD 6 w dst src base disp imm cc]) (.int .i64 (readsX 6 dst src base)) := by
  have c0 := @Proofs.Ytkannibhndjgeaa.mayX_ok ((6 : Int)) (w) (dst) (src) (base) (disp) (imm) (cc) (by first | rfl | decide)
  rw [show (mayX (6 : Int) w dst src base disp imm cc) = true from hm] at c0
  have c1 := @Proofs.Ytkannibhndjgeaa.of_any_ok ((6 : Int)) (by first | rfl | decide)
  have c2 := @Proofs.Ytkannibhndjgeaa.set2_ok (dst) d0 d1 (src) s0 s1
  exact (Ret.of_eval (d := D.int IntKind.i64 (or64 (sh8 dst) (sh8 src))) mixed Try.func15 (by kernel_rfl) [.ret _ _ _ c0, tF, .ret _ _ _ c1, tT, tT, tF, .ret _ _ _ c2] (by kernel_rfl)).to (by rfl)

theorem reads_7_ok (w dst src base disp imm cc : Int) (d0 : 0 ≤ dst) (d1 : dst ≤ 15) (s0 : 0 ≤ src) (s1 : src ≤ 15) (b0 : 0 ≤ base) (b1 : base ≤ 15) (hm : mayX 7 w dst src base disp imm cc = true) : Ret Try.prog 15 ([xD 7 w dst src base disp imm cc]) (.int .i64 (readsX 7 dst src base)) := by
  have c0 := @Proofs.Ytkannibhndjgeaa.mayX_ok ((7 : Int)) (w) (dst) (src) (base) (disp) (imm) (cc) (by first | rfl | decide)
  rw [show (mayX (7 : Int) w dst src base disp imm cc) = true from hm] at c0
  have c1 := @Proofs.Ytkannibhndjgeaa.of_any_ok ((7 : Int)) (by first | rfl | decide)
  have c2 := @Proofs.Ytkannibhndjgeaa.set2_ok (dst) d0 d1 (src) s0 s1
  exact (Ret.of_eval (d := D.int IntKind.i64 (or64 (sh8 dst) (sh8 src))) mixed Try.func15 (by kernel_rfl) [.ret _ _ _ c0, tF, .ret _ _ _ c1, tT, tT, tF, .ret _ _ _ c2] (by kernel_rfl)).to (by rfl)

theorem reads_8_ok (w dst src base disp imm cc : Int) (d0 : 0 ≤ dst) (d1 : dst ≤ 15) (s0 : 0 ≤ src) (s1 : src ≤ 15) (b0 : 0 ≤ base) (b1 : base ≤ 15) (hm : mayX 8 w dst src base disp imm cc = true) : Ret Try.prog 15 ([xD 8 w dst src base disp imm cc]) (.int .i64 (readsX 8 dst src base)) := by
  have c0 := @Proofs.Ytkannibhndjgeaa.mayX_ok ((8 : Int)) (w) (dst) (src) (base) (disp) (imm) (cc) (by first | rfl | decide)
  rw [show (mayX (8 : Int) w dst src base disp imm cc) = true from hm] at c0
  have c1 := @Proofs.Ytkannibhndjgeaa.of_any_ok ((8 : Int)) (by first | rfl | decide)
  have c2 := @Proofs.Ytkannibhndjgeaa.set2_ok (dst) d0 d1 (src) s0 s1
  exact (Ret.of_eval (d := D.int IntKind.i64 (or64 (sh8 dst) (sh8 src))) mixed Try.func15 (by kernel_rfl) [.ret _ _ _ c0, tF, .ret _ _ _ c1, tT, tT, tF, .ret _ _ _ c2] (by kernel_rfl)).to (by rfl)

theorem reads_9_ok (w dst src base disp imm cc : Int) (d0 : 0 ≤ dst) (d1 : dst ≤ 15) (s0 : 0 ≤ src) (s1 : src ≤ 15) (b0 : 0 ≤ base) (b1 : base ≤ 15) (hm : mayX 9 w dst src base disp imm cc = true) : Ret Try.prog 15 ([xD 9 w dst src base disp imm cc]) (.int .i64 (readsX 9 dst src base)) := by
  have c0 := @Proofs.Ytkannibhndjgeaa.mayX_ok ((9 : Int)) (w) (dst) (src) (base) (disp) (imm) (cc) (by first | rfl | decide)
  rw [show (mayX (9 : Int) w dst src base disp imm cc) = true from hm] at c0
  have c1 := @Proofs.Ytkannibhndjgeaa.of_any_ok ((9 : Int)) (by first | rfl | decide)
  have c2 := @Proofs.Ytkannibhndjgeaa.set1_ok (dst) d0 d1
  exact (Ret.of_eval (d := D.int IntKind.i64 (sh8 dst)) mixed Try.func15 (by kernel_rfl) [.ret _ _ _ c0, tF, .ret _ _ _ c1, tF, tF, tF, tT, tT, tF, .ret _ _ _ c2] (by kernel_rfl)).to (by rfl)

theorem reads_10_ok (w dst src base disp imm cc : Int) (d0 : 0 ≤ dst) (d1 : dst ≤ 15) (s0 : 0 ≤ src) (s1 : src ≤ 15) (b0 : 0 ≤ base) (b1 : base ≤ 15) (hm : mayX 10 w dst src base disp imm cc = true) : Ret Try.prog 15 ([xD 10 w dst src base disp imm cc]) (.int .i64 (readsX 10 dst src base)) := by
  have c0 := @Proofs.Ytkannibhndjgeaa.mayX_ok ((10 : Int)) (w) (dst) (src) (base) (disp) (imm) (cc) (by first | rfl | decide)
  rw [show (mayX (10 : Int) w dst src base disp imm cc) = true from hm] at c0
  have c1 := @Proofs.Ytkannibhndjgeaa.of_any_ok ((10 : Int)) (by first | rfl | decide)
  have c2 := @Proofs.Ytkannibhndjgeaa.set1_ok (dst) d0 d1
  exact (Ret.of_eval (d := D.int IntKind.i64 (sh8 dst)) mixed Try.func15 (by kernel_rfl) [.ret _ _ _ c0, tF, .ret _ _ _ c1, tF, tF, tF, tT, tT, tF, .ret _ _ _ c2] (by kernel_rfl)).to (by rfl)

theorem reads_11_ok (w dst src base disp imm cc : Int) (d0 : 0 ≤ dst) (d1 : dst ≤ 15) (s0 : 0 ≤ src) (s1 : src ≤ 15) (b0 : 0 ≤ base) (b1 : base ≤ 15) (hm : mayX 11 w dst src base disp imm cc = true) : Ret Try.prog 15 ([xD 11 w dst src base disp imm cc]) (.int .i64 (readsX 11 dst src base)) := by
  have c0 := @Proofs.Ytkannibhndjgeaa.mayX_ok ((11 : Int)) (w) (dst) (src) (base) (disp) (imm) (cc) (by first | rfl | decide)
  rw [show (mayX (11 : Int) w dst src base disp imm cc) = true from hm] at c0
  have c1 := @Proofs.Ytkannibhndjgeaa.of_any_ok ((11 : Int)) (by first | rfl | decide)
  have c2 := @Proofs.Ytkannibhndjgeaa.set1_ok (dst) d0 d1
  exact (Ret.of_eval (d := D.int IntKind.i64 (sh8 dst)) mixed Try.func15 (by kernel_rfl) [.ret _ _ _ c0, tF, .ret _ _ _ c1, tF, tF, tF, tT, tT, tF, .ret _ _ _ c2] (by kernel_rfl)).to (by rfl)

theorem reads_12_ok (w dst src base disp imm cc : Int) (d0 : 0 ≤ dst) (d1 : dst ≤ 15) (s0 : 0 ≤ src) (s1 : src ≤ 15) (b0 : 0 ≤ base) (b1 : base ≤ 15) (hm : mayX 12 w dst src base disp imm cc = true) : Ret Try.prog 15 ([xD 12 w dst src base disp imm cc]) (.int .i64 (readsX 12 dst src base)) := by
  have c0 := @Proofs.Ytkannibhndjgeaa.mayX_ok ((12 : Int)) (w) (dst) (src) (base) (disp) (imm) (cc) (by first | rfl | decide)
  rw [show (mayX (12 : Int) w dst src base disp imm cc) = true from hm] at c0
  have c1 := @Proofs.Ytkannibhndjgeaa.of_any_ok ((12 : Int)) (by first | rfl | decide)
  have c2 := @Proofs.Ytkannibhndjgeaa.set1_ok (dst) d0 d1
  exact (Ret.of_eval (d := D.int IntKind.i64 (sh8 dst)) mixed Try.func15 (by kernel_rfl) [.ret _ _ _ c0, tF, .ret _ _ _ c1, tF, tF, tF, tT, tT, tF, .ret _ _ _ c2] (by kernel_rfl)).to (by rfl)

theorem reads_13_ok (w dst src base disp imm cc : Int) (d0 : 0 ≤ dst) (d1 : dst ≤ 15) (s0 : 0 ≤ src) (s1 : src ≤ 15) (b0 : 0 ≤ base) (b1 : base ≤ 15) (hm : mayX 13 w dst src base disp imm cc = true) : Ret Try.prog 15 ([xD 13 w dst src base disp imm cc]) (.int .i64 (readsX 13 dst src base)) := by
  have c0 := @Proofs.Ytkannibhndjgeaa.mayX_ok ((13 : Int)) (w) (dst) (src) (base) (disp) (imm) (cc) (by first | rfl | decide)
  rw [show (mayX (13 : Int) w dst src base disp imm cc) = true from hm] at c0
  have c1 := @Proofs.Ytkannibhndjgeaa.of_any_ok ((13 : Int)) (by first | rfl | decide)
  have c2 := @Proofs.Ytkannibhndjgeaa.set1_ok (dst) d0 d1
  exact (Ret.of_eval (d := D.int IntKind.i64 (sh8 dst)) mixed Try.func15 (by kernel_rfl) [.ret _ _ _ c0, tF, .ret _ _ _ c1, tF, tF, tF, tT, tT, tF, .ret _ _ _ c2] (by kernel_rfl)).to (by rfl)

theorem reads_14_ok (w dst src base disp imm cc : Int) (d0 : 0 ≤ dst) (d1 : dst ≤ 15) (s0 : 0 ≤ src) (s1 : src ≤ 15) (b0 : 0 ≤ base) (b1 : base ≤ 15) (hm : mayX 14 w dst src base disp imm cc = true) : Ret Try.prog 15 ([xD 14 w dst src base disp imm cc]) (.int .i64 (readsX 14 dst src base)) := by
  have c0 := @Proofs.Ytkannibhndjgeaa.mayX_ok ((14 : Int)) (w) (dst) (src) (base) (disp) (imm) (cc) (by first | rfl | decide)
  rw [show (mayX (14 : Int) w dst src base disp imm cc) = true from hm] at c0
  have c1 := @Proofs.Ytkannibhndjgeaa.of_any_ok ((14 : Int)) (by first | rfl | decide)
  have c2 := @Proofs.Ytkannibhndjgeaa.set1_ok (dst) d0 d1
  exact (Ret.of_eval (d := D.int IntKind.i64 (sh8 dst)) mixed Try.func15 (by kernel_rfl) [.ret _ _ _ c0, tF, .ret _ _ _ c1, tF, tF, tF, tT, tT, tF, .ret _ _ _ c2] (by kernel_rfl)).to (by rfl)

theorem reads_15_ok (w dst src base disp imm cc : Int) (d0 : 0 ≤ dst) (d1 : dst ≤ 15) (s0 : 0 ≤ src) (s1 : src ≤ 15) (b0 : 0 ≤ base) (b1 : base ≤ 15) (hm : mayX 15 w dst src base disp imm cc = true) : Ret Try.prog 15 ([xD 15 w dst src base disp imm cc]) (.int .i64 (readsX 15 dst src base)) := by
  have c0 := @Proofs.Ytkannibhndjgeaa.mayX_ok ((15 : Int)) (w) (dst) (src) (base) (disp) (imm) (cc) (by first | rfl | decide)
  rw [show (mayX (15 : Int) w dst src base disp imm cc) = true from hm] at c0
  have c1 := @Proofs.Ytkannibhndjgeaa.of_any_ok ((15 : Int)) (by first | rfl | decide)
  have c2 := @Proofs.Ytkannibhndjgeaa.set1_ok (dst) d0 d1
  exact (Ret.of_eval (d := D.int IntKind.i64 (sh8 dst)) mixed Try.func15 (by kernel_rfl) [.ret _ _ _ c0, tF, .ret _ _ _ c1, tF, tF, tF, tT, tT, tF, .ret _ _ _ c2] (by kernel_rfl)).to (by rfl)

theorem reads_16_ok (w dst src base disp imm cc : Int) (d0 : 0 ≤ dst) (d1 : dst ≤ 15) (s0 : 0 ≤ src) (s1 : src ≤ 15) (b0 : 0 ≤ base) (b1 : base ≤ 15) (hm : mayX 16 w dst src base disp imm cc = true) : Ret Try.prog 15 ([xD 16 w dst src base disp imm cc]) (.int .i64 (readsX 16 dst src base)) := by
  have c0 := @Proofs.Ytkannibhndjgeaa.mayX_ok ((16 : Int)) (w) (dst) (src) (base) (disp) (imm) (cc) (by first | rfl | decide)
  rw [show (mayX (16 : Int) w dst src base disp imm cc) = true from hm] at c0
  have c1 := @Proofs.Ytkannibhndjgeaa.of_any_ok ((16 : Int)) (by first | rfl | decide)
  have c2 := @Proofs.Ytkannibhndjgeaa.set2_ok (dst) d0 d1 (src) s0 s1
  exact (Ret.of_eval (d := D.int IntKind.i64 (or64 (sh8 dst) (sh8 src))) mixed Try.func15 (by kernel_rfl) [.ret _ _ _ c0, tF, .ret _ _ _ c1, tF, tT, tT, tF, .ret _ _ _ c2] (by kernel_rfl)).to (by rfl)

theorem reads_17_ok (w dst src base disp imm cc : Int) (d0 : 0 ≤ dst) (d1 : dst ≤ 15) (s0 : 0 ≤ src) (s1 : src ≤ 15) (b0 : 0 ≤ base) (b1 : base ≤ 15) (hm : mayX 17 w dst src base disp imm cc = true) : Ret Try.prog 15 ([xD 17 w dst src base disp imm cc]) (.int .i64 (readsX 17 dst src base)) := by
  have c0 := @Proofs.Ytkannibhndjgeaa.mayX_ok ((17 : Int)) (w) (dst) (src) (base) (disp) (imm) (cc) (by first | rfl | decide)
  rw [show (mayX (17 : Int) w dst src base disp imm cc) = true from hm] at c0
  have c1 := @Proofs.Ytkannibhndjgeaa.of_any_ok ((17 : Int)) (by first | rfl | decide)
  have c2 := @Proofs.Ytkannibhndjgeaa.set1_ok (dst) d0 d1
  exact (Ret.of_eval (d := D.int IntKind.i64 (sh8 dst)) mixed Try.func15 (by kernel_rfl) [.ret _ _ _ c0, tF, .ret _ _ _ c1, tF, tF, tF, tF, tT, tF, .ret _ _ _ c2] (by kernel_rfl)).to (by rfl)

theorem reads_18_ok (w dst src base disp imm cc : Int) (d0 : 0 ≤ dst) (d1 : dst ≤ 15) (s0 : 0 ≤ src) (s1 : src ≤ 15) (b0 : 0 ≤ base) (b1 : base ≤ 15) (hm : mayX 18 w dst src base disp imm cc = true) : Ret Try.prog 15 ([xD 18 w dst src base disp imm cc]) (.int .i64 (readsX 18 dst src base)) := by
  have c0 := @Proofs.Ytkannibhndjgeaa.mayX_ok ((18 : Int)) (w) (dst) (src) (base) (disp) (imm) (cc) (by first | rfl | decide)
  rw [show (mayX (18 : Int) w dst src base disp imm cc) = true from hm] at c0
  have c1 := @Proofs.Ytkannibhndjgeaa.of_any_ok ((18 : Int)) (by first | rfl | decide)
  have c2 := @Proofs.Ytkannibhndjgeaa.set1_ok (dst) d0 d1
  exact (Ret.of_eval (d := D.int IntKind.i64 (sh8 dst)) mixed Try.func15 (by kernel_rfl) [.ret _ _ _ c0, tF, .ret _ _ _ c1, tF, tF, tF, tF, tT, tF, .ret _ _ _ c2] (by kernel_rfl)).to (by rfl)

theorem reads_19_ok (w dst src base disp imm cc : Int) (d0 : 0 ≤ dst) (d1 : dst ≤ 15) (s0 : 0 ≤ src) (s1 : src ≤ 15) (b0 : 0 ≤ base) (b1 : base ≤ 15) (hm : mayX 19 w dst src base disp imm cc = true) : Ret Try.prog 15 ([xD 19 w dst src base disp imm cc]) (.int .i64 (readsX 19 dst src base)) := by
  have c0 := @Proofs.Ytkannibhndjgeaa.mayX_ok ((19 : Int)) (w) (dst) (src) (base) (disp) (imm) (cc) (by first | rfl | decide)
  rw [show (mayX (19 : Int) w dst src base disp imm cc) = true from hm] at c0
  have c1 := @Proofs.Ytkannibhndjgeaa.of_any_ok ((19 : Int)) (by first | rfl | decide)
  have c2 := @Proofs.Ytkannibhndjgeaa.set1_ok (dst) d0 d1
  exact (Ret.of_eval (d := D.int IntKind.i64 (sh8 dst)) mixed Try.func15 (by kernel_rfl) [.ret _ _ _ c0, tF, .ret _ _ _ c1, tF, tF, tF, tF, tT, tF, .ret _ _ _ c2] (by kernel_rfl)).to (by rfl)

theorem reads_20_ok (w dst src base disp imm cc : Int) (d0 : 0 ≤ dst) (d1 : dst ≤ 15) (s0 : 0 ≤ src) (s1 : src ≤ 15) (b0 : 0 ≤ base) (b1 : base ≤ 15) (hm : mayX 20 w dst src base disp imm cc = true) : Ret Try.prog 15 ([xD 20 w dst src base disp imm cc]) (.int .i64 (readsX 20 dst src base)) := by
  have c0 := @Proofs.Ytkannibhndjgeaa.mayX_ok ((20 : Int)) (w) (dst) (src) (base) (disp) (imm) (cc) (by first | rfl | decide)
  rw [show (mayX (20 : Int) w dst src base disp imm cc) = true from hm] at c0
  have c1 := @Proofs.Ytkannibhndjgeaa.of_any_ok ((20 : Int)) (by first | rfl | decide)
  have c2 := @Proofs.Ytkannibhndjgeaa.set2_ok (dst) d0 d1 ((1 : Int)) (by first | rfl | decide) (by first | rfl | decide)
  exact (Ret.of_eval (d := D.int IntKind.i64 (or64 (sh8 dst) (2 : Int))) mixed Try.func15 (by kernel_rfl) [.ret _ _ _ c0, tF, .ret _ _ _ c1, tF, tF, tF, tF, tF, tT, tF, tF, .ret _ _ _ c2] (by kernel_rfl)).to (by rfl)

theorem reads_21_ok (w dst src base disp imm cc : Int) (d0 : 0 ≤ dst) (d1 : dst ≤ 15) (s0 : 0 ≤ src) (s1 : src ≤ 15) (b0 : 0 ≤ base) (b1 : base ≤ 15) (hm : mayX 21 w dst src base disp imm cc = true) : Ret Try.prog 15 ([xD 21 w dst src base disp imm cc]) (.int .i64 (readsX 21 dst src base)) := by
  have c0 := @Proofs.Ytkannibhndjgeaa.mayX_ok ((21 : Int)) (w) (dst) (src) (base) (disp) (imm) (cc) (by first | rfl | decide)
  rw [show (mayX (21 : Int) w dst src base disp imm cc) = true from hm] at c0
  have c1 := @Proofs.Ytkannibhndjgeaa.of_any_ok ((21 : Int)) (by first | rfl | decide)
  have c2 := @Proofs.Ytkannibhndjgeaa.set2_ok (dst) d0 d1 ((1 : Int)) (by first | rfl | decide) (by first | rfl | decide)
  exact (Ret.of_eval (d := D.int IntKind.i64 (or64 (sh8 dst) (2 : Int))) mixed Try.func15 (by kernel_rfl) [.ret _ _ _ c0, tF, .ret _ _ _ c1, tF, tF, tF, tF, tF, tT, tF, tF, .ret _ _ _ c2] (by kernel_rfl)).to (by rfl)

theorem reads_22_ok (w dst src base disp imm cc : Int) (d0 : 0 ≤ dst) (d1 : dst ≤ 15) (s0 : 0 ≤ src) (s1 : src ≤ 15) (b0 : 0 ≤ base) (b1 : base ≤ 15) (hm : mayX 22 w dst src base disp imm cc = true) : Ret Try.prog 15 ([xD 22 w dst src base disp imm cc]) (.int .i64 (readsX 22 dst src base)) := by
  have c0 := @Proofs.Ytkannibhndjgeaa.mayX_ok ((22 : Int)) (w) (dst) (src) (base) (disp) (imm) (cc) (by first | rfl | decide)
  rw [show (mayX (22 : Int) w dst src base disp imm cc) = true from hm] at c0
  have c1 := @Proofs.Ytkannibhndjgeaa.of_any_ok ((22 : Int)) (by first | rfl | decide)
  have c2 := @Proofs.Ytkannibhndjgeaa.set2_ok (dst) d0 d1 ((1 : Int)) (by first | rfl | decide) (by first | rfl | decide)
  exact (Ret.of_eval (d := D.int IntKind.i64 (or64 (sh8 dst) (2 : Int))) mixed Try.func15 (by kernel_rfl) [.ret _ _ _ c0, tF, .ret _ _ _ c1, tF, tF, tF, tF, tF, tT, tF, tF, .ret _ _ _ c2] (by kernel_rfl)).to (by rfl)

theorem reads_23_ok (w dst src base disp imm cc : Int) (d0 : 0 ≤ dst) (d1 : dst ≤ 15) (s0 : 0 ≤ src) (s1 : src ≤ 15) (b0 : 0 ≤ base) (b1 : base ≤ 15) (hm : mayX 23 w dst src base disp imm cc = true) : Ret Try.prog 15 ([xD 23 w dst src base disp imm cc]) (.int .i64 (readsX 23 dst src base)) := by
  have c0 := @Proofs.Ytkannibhndjgeaa.mayX_ok ((23 : Int)) (w) (dst) (src) (base) (disp) (imm) (cc) (by first | rfl | decide)
  rw [show (mayX (23 : Int) w dst src base disp imm cc) = true from hm] at c0
  have c1 := @Proofs.Ytkannibhndjgeaa.of_any_ok ((23 : Int)) (by first | rfl | decide)
  have c2 := @Proofs.Ytkannibhndjgeaa.set1_ok (dst) d0 d1
  exact (Ret.of_eval (d := D.int IntKind.i64 (sh8 dst)) mixed Try.func15 (by kernel_rfl) [.ret _ _ _ c0, tF, .ret _ _ _ c1, tF, tF, tF, tF, tF, tT, tT, .ret _ _ _ c2] (by kernel_rfl)).to (by rfl)

theorem reads_24_ok (w dst src base disp imm cc : Int) (d0 : 0 ≤ dst) (d1 : dst ≤ 15) (s0 : 0 ≤ src) (s1 : src ≤ 15) (b0 : 0 ≤ base) (b1 : base ≤ 15) (hm : mayX 24 w dst src base disp imm cc = true) : Ret Try.prog 15 ([xD 24 w dst src base disp imm cc]) (.int .i64 (readsX 24 dst src base)) := by
  have c0 := @Proofs.Ytkannibhndjgeaa.mayX_ok ((24 : Int)) (w) (dst) (src) (base) (disp) (imm) (cc) (by first | rfl | decide)
  rw [show (mayX (24 : Int) w dst src base disp imm cc) = true from hm] at c0
  have c1 := @Proofs.Ytkannibhndjgeaa.of_any_ok ((24 : Int)) (by first | rfl | decide)
  have c2 := @Proofs.Ytkannibhndjgeaa.set3_ok (dst) d0 d1
  exact (Ret.of_eval (d := D.int IntKind.i64 (or64 (or64 (sh8 dst) (1 : Int)) (4 : Int))) mixed Try.func15 (by kernel_rfl) [.ret _ _ _ c0, tF, .ret _ _ _ c1, tF, tF, tF, tF, tF, tT, tF, tT, .ret _ _ _ c2] (by kernel_rfl)).to (by rfl)

theorem reads_25_ok (w dst src base disp imm cc : Int) (d0 : 0 ≤ dst) (d1 : dst ≤ 15) (s0 : 0 ≤ src) (s1 : src ≤ 15) (b0 : 0 ≤ base) (b1 : base ≤ 15) (hm : mayX 25 w dst src base disp imm cc = true) : Ret Try.prog 15 ([xD 25 w dst src base disp imm cc]) (.int .i64 (readsX 25 dst src base)) := by
  have c0 := @Proofs.Ytkannibhndjgeaa.mayX_ok ((25 : Int)) (w) (dst) (src) (base) (disp) (imm) (cc) (by first | rfl | decide)
  rw [show (mayX (25 : Int) w dst src base disp imm cc) = true from hm] at c0
  have c1 := @Proofs.Ytkannibhndjgeaa.of_any_ok ((25 : Int)) (by first | rfl | decide)
  have c2 := @Proofs.Ytkannibhndjgeaa.set2_ok (dst) d0 d1 (src) s0 s1
  exact (Ret.of_eval (d := D.int IntKind.i64 (or64 (sh8 dst) (sh8 src))) mixed Try.func15 (by kernel_rfl) [.ret _ _ _ c0, tF, .ret _ _ _ c1, tF, tF, tT, tF, .ret _ _ _ c2] (by kernel_rfl)).to (by rfl)

theorem reads_26_ok (w dst src base disp imm cc : Int) (d0 : 0 ≤ dst) (d1 : dst ≤ 15) (s0 : 0 ≤ src) (s1 : src ≤ 15) (b0 : 0 ≤ base) (b1 : base ≤ 15) (hm : mayX 26 w dst src base disp imm cc = true) : Ret Try.prog 15 ([xD 26 w dst src base disp imm cc]) (.int .i64 (readsX 26 dst src base)) := by
  have c0 := @Proofs.Ytkannibhndjgeaa.mayX_ok ((26 : Int)) (w) (dst) (src) (base) (disp) (imm) (cc) (by first | rfl | decide)
  rw [show (mayX (26 : Int) w dst src base disp imm cc) = true from hm] at c0
  have c1 := @Proofs.Ytkannibhndjgeaa.of_any_ok ((26 : Int)) (by first | rfl | decide)
  have c2 := @Proofs.Ytkannibhndjgeaa.set1_ok (base) b0 b1
  exact (Ret.of_eval (d := D.int IntKind.i64 (sh8 base)) mixed Try.func15 (by kernel_rfl) [.ret _ _ _ c0, tF, .ret _ _ _ c1, tF, tF, tF, tF, tF, tF, tT, .ret _ _ _ c2] (by kernel_rfl)).to (by rfl)

theorem reads_27_ok (w dst src base disp imm cc : Int) (d0 : 0 ≤ dst) (d1 : dst ≤ 15) (s0 : 0 ≤ src) (s1 : src ≤ 15) (b0 : 0 ≤ base) (b1 : base ≤ 15) (hm : mayX 27 w dst src base disp imm cc = true) : Ret Try.prog 15 ([xD 27 w dst src base disp imm cc]) (.int .i64 (readsX 27 dst src base)) := by
  have c0 := @Proofs.Ytkannibhndjgeaa.mayX_ok ((27 : Int)) (w) (dst) (src) (base) (disp) (imm) (cc) (by first | rfl | decide)
  rw [show (mayX (27 : Int) w dst src base disp imm cc) = true from hm] at c0
  have c1 := @Proofs.Ytkannibhndjgeaa.of_any_ok ((27 : Int)) (by first | rfl | decide)
  have c2 := @Proofs.Ytkannibhndjgeaa.set2_ok (base) b0 b1 (src) s0 s1
  exact (Ret.of_eval (d := D.int IntKind.i64 (or64 (sh8 base) (sh8 src))) mixed Try.func15 (by kernel_rfl) [.ret _ _ _ c0, tF, .ret _ _ _ c1, tF, tF, tF, tF, tF, tF, tF, tT, .ret _ _ _ c2] (by kernel_rfl)).to (by rfl)

theorem reads_28_ok (w dst src base disp imm cc : Int) (d0 : 0 ≤ dst) (d1 : dst ≤ 15) (s0 : 0 ≤ src) (s1 : src ≤ 15) (b0 : 0 ≤ base) (b1 : base ≤ 15) (hm : mayX 28 w dst src base disp imm cc = true) : Ret Try.prog 15 ([xD 28 w dst src base disp imm cc]) (.int .i64 (readsX 28 dst src base)) := by
  have c0 := @Proofs.Ytkannibhndjgeaa.mayX_ok ((28 : Int)) (w) (dst) (src) (base) (disp) (imm) (cc) (by first | rfl | decide)
  rw [show (mayX (28 : Int) w dst src base disp imm cc) = true from hm] at c0
  have c1 := @Proofs.Ytkannibhndjgeaa.of_any_ok ((28 : Int)) (by first | rfl | decide)
  exact (Ret.of_eval (d := D.int IntKind.i64 (0 : Int)) mixed Try.func15 (by kernel_rfl) [.ret _ _ _ c0, tF, .ret _ _ _ c1, tF, tF, tF, tF, tF, tF, tF, tF, tF] (by kernel_rfl)).to (by rfl)

theorem reads_29_ok (w dst src base disp imm cc : Int) (d0 : 0 ≤ dst) (d1 : dst ≤ 15) (s0 : 0 ≤ src) (s1 : src ≤ 15) (b0 : 0 ≤ base) (b1 : base ≤ 15) (hm : mayX 29 w dst src base disp imm cc = true) : Ret Try.prog 15 ([xD 29 w dst src base disp imm cc]) (.int .i64 (readsX 29 dst src base)) := by
  have c0 := @Proofs.Ytkannibhndjgeaa.mayX_ok ((29 : Int)) (w) (dst) (src) (base) (disp) (imm) (cc) (by first | rfl | decide)
  rw [show (mayX (29 : Int) w dst src base disp imm cc) = true from hm] at c0
  have c1 := @Proofs.Ytkannibhndjgeaa.of_any_ok ((29 : Int)) (by first | rfl | decide)
  exact (Ret.of_eval (d := D.int IntKind.i64 (0 : Int)) mixed Try.func15 (by kernel_rfl) [.ret _ _ _ c0, tF, .ret _ _ _ c1, tF, tF, tF, tF, tF, tF, tF, tF, tF] (by kernel_rfl)).to (by rfl)

theorem reads_30_ok (w dst src base disp imm cc : Int) (d0 : 0 ≤ dst) (d1 : dst ≤ 15) (s0 : 0 ≤ src) (s1 : src ≤ 15) (b0 : 0 ≤ base) (b1 : base ≤ 15) (hm : mayX 30 w dst src base disp imm cc = true) : Ret Try.prog 15 ([xD 30 w dst src base disp imm cc]) (.int .i64 (readsX 30 dst src base)) := by
  have c0 := @Proofs.Ytkannibhndjgeaa.mayX_ok ((30 : Int)) (w) (dst) (src) (base) (disp) (imm) (cc) (by first | rfl | decide)
  rw [show (mayX (30 : Int) w dst src base disp imm cc) = true from hm] at c0
  have c1 := @Proofs.Ytkannibhndjgeaa.of_any_ok ((30 : Int)) (by first | rfl | decide)
  have c2 := @Proofs.Ytkannibhndjgeaa.set2_ok ((4 : Int)) (by first | rfl | decide) (by first | rfl | decide) ((0 : Int)) (by first | rfl | decide) (by first | rfl | decide)
  exact (Ret.of_eval (d := D.int IntKind.i64 (17 : Int)) mixed Try.func15 (by kernel_rfl) [.ret _ _ _ c0, tF, .ret _ _ _ c1, tF, tF, tF, tF, tF, tF, tF, tF, tT, tT, .ret _ _ _ c2] (by kernel_rfl)).to (by rfl)

theorem reads_31_ok (w dst src base disp imm cc : Int) (d0 : 0 ≤ dst) (d1 : dst ≤ 15) (s0 : 0 ≤ src) (s1 : src ≤ 15) (b0 : 0 ≤ base) (b1 : base ≤ 15) (hm : mayX 31 w dst src base disp imm cc = true) : Ret Try.prog 15 ([xD 31 w dst src base disp imm cc]) (.int .i64 (readsX 31 dst src base)) := by
  have c0 := @Proofs.Ytkannibhndjgeaa.mayX_ok ((31 : Int)) (w) (dst) (src) (base) (disp) (imm) (cc) (by first | rfl | decide)
  rw [show (mayX (31 : Int) w dst src base disp imm cc) = true from hm] at c0
  have c1 := @Proofs.Ytkannibhndjgeaa.of_any_ok ((31 : Int)) (by first | rfl | decide)
  exact (Ret.of_eval (d := D.int IntKind.i64 (1477 : Int)) mixed Try.func15 (by kernel_rfl) ([.ret _ _ _ c0, tF, .ret _ _ _ c1, tF, tF, tF, tF, tF, tF, tF, tF, tT, tF, .inl, .go 64, tT] ++ [tT, .get ([D.int IntKind.i8 (0 : Int), D.int IntKind.i8 (7 : Int), D.int IntKind.i8 (6 : Int), D.int IntKind.i8 (2 : Int), D.int IntKind.i8 (10 : Int), D.int IntKind.i8 (8 : Int)]) 0 (D.int IntKind.i8 (0 : Int)) rfl, tT, tT, tT, .get ([D.int IntKind.i8 (0 : Int), D.int IntKind.i8 (7 : Int), D.int IntKind.i8 (6 : Int), D.int IntKind.i8 (2 : Int), D.int IntKind.i8 (10 : Int), D.int IntKind.i8 (8 : Int)]) 1 (D.int IntKind.i8 (7 : Int)) rfl, tT, tT, tT, .get ([D.int IntKind.i8 (0 : Int), D.int IntKind.i8 (7 : Int), D.int IntKind.i8 (6 : Int), D.int IntKind.i8 (2 : Int), D.int IntKind.i8 (10 : Int), D.int IntKind.i8 (8 : Int)]) 2 (D.int IntKind.i8 (6 : Int)) rfl, tT, tT, tT, .get ([D.int IntKind.i8 (0 : Int), D.int IntKind.i8 (7 : Int), D.int IntKind.i8 (6 : Int), D.int IntKind.i8 (2 : Int), D.int IntKind.i8 (10 : Int), D.int IntKind.i8 (8 : Int)]) 3 (D.int IntKind.i8 (2 : Int)) rfl, tT, tT] ++ [tT, .get ([D.int IntKind.i8 (0 : Int), D.int IntKind.i8 (7 : Int), D.int IntKind.i8 (6 : Int), D.int IntKind.i8 (2 : Int), D.int IntKind.i8 (10 : Int), D.int IntKind.i8 (8 : Int)]) 4 (D.int IntKind.i8 (10 : Int)) rfl, tT, tT, tT, .get ([D.int IntKind.i8 (0 : Int), D.int IntKind.i8 (7 : Int), D.int IntKind.i8 (6 : Int), D.int IntKind.i8 (2 : Int), D.int IntKind.i8 (10 : Int), D.int IntKind.i8 (8 : Int)]) 5 (D.int IntKind.i8 (8 : Int)) rfl, tT, tF]) (by kernel_rfl)).to (by rfl)

theorem reads_no_ok (op w dst src base disp imm cc : Int) (ho : op ≤ 127) (hm : mayX op w dst src base disp imm cc = false) : Ret Try.prog 15 ([xD op w dst src base disp imm cc]) (.int .i64 0) := by
  have c0 := @Proofs.Ytkannibhndjgeaa.mayX_ok (op) (w) (dst) (src) (base) (disp) (imm) (cc) ho
  rw [show (mayX op w dst src base disp imm cc) = false from hm] at c0
  exact (Ret.of_eval (d := D.int IntKind.i64 (0 : Int)) mixed Try.func15 (by kernel_rfl) [.ret _ _ _ c0, tT] (by kernel_rfl)).to (by simp [wk])

theorem writes_0_ok (w dst src base disp imm cc : Int) (d0 : 0 ≤ dst) (d1 : dst ≤ 15) (s0 : 0 ≤ src) (s1 : src ≤ 15) (b0 : 0 ≤ base) (b1 : base ≤ 15) (hm : mayX 0 w dst src base disp imm cc = true) : Ret Try.prog 14 ([xD 0 w dst src base disp imm cc]) (.int .i64 (writesX 0 dst)) := by
  have c0 := @Proofs.Ytkannibhndjgeaa.mayX_ok ((0 : Int)) (w) (dst) (src) (base) (disp) (imm) (cc) (by first | rfl | decide)
  rw [show (mayX (0 : Int) w dst src base disp imm cc) = true from hm] at c0
  have c1 := @Proofs.Ytkannibhndjgeaa.set1_ok (dst) d0 d1
  exact (Ret.of_eval (d := D.int IntKind.i64 (sh8 dst)) mixed Try.func14 (by kernel_rfl) [.ret _ _ _ c0, tF, tF, tF, tF, tF, tF, tF, tF, tF, tF, tF, .ret _ _ _ c1] (by kernel_rfl)).to (by rfl)

theorem writes_1_ok (w dst src base disp imm cc : Int) (d0 : 0 ≤ dst) (d1 : dst ≤ 15) (s0 : 0 ≤ src) (s1 : src ≤ 15) (b0 : 0 ≤ base) (b1 : base ≤ 15) (hm : mayX 1 w dst src base disp imm cc = true) : Ret Try.prog 14 ([xD 1 w dst src base disp imm cc]) (.int .i64 (writesX 1 dst)) := by
  have c0 := @Proofs.Ytkannibhndjgeaa.mayX_ok ((1 : Int)) (w) (dst) (src) (base) (disp) (imm) (cc) (by first | rfl | decide)
  rw [show (mayX (1 : Int) w dst src base disp imm cc) = true from hm] at c0
  have c1 := @Proofs.Ytkannibhndjgeaa.set1_ok (dst) d0 d1
  exact (Ret.of_eval (d := D.int IntKind.i64 (sh8 dst)) mixed Try.func14 (by kernel_rfl) [.ret _ _ _ c0, tF, tF, tF, tF, tF, tF, tF, tF, tF, tF, tF, .ret _ _ _ c1] (by kernel_rfl)).to (by rfl)

theorem writes_2_ok (w dst src base disp imm cc : Int) (d0 : 0 ≤ dst) (d1 : dst ≤ 15) (s0 : 0 ≤ src) (s1 : src ≤ 15) (b0 : 0 ≤ base) (b1 : base ≤ 15) (hm : mayX 2 w dst src base disp imm cc = true) : Ret Try.prog 14 ([xD 2 w dst src base disp imm cc]) (.int .i64 (writesX 2 dst)) := by
  have c0 := @Proofs.Ytkannibhndjgeaa.mayX_ok ((2 : Int)) (w) (dst) (src) (base) (disp) (imm) (cc) (by first | rfl | decide)
  rw [show (mayX (2 : Int) w dst src base disp imm cc) = true from hm] at c0
  have c1 := @Proofs.Ytkannibhndjgeaa.set1_ok (dst) d0 d1
  exact (Ret.of_eval (d := D.int IntKind.i64 (sh8 dst)) mixed Try.func14 (by kernel_rfl) [.ret _ _ _ c0, tF, tF, tF, tF, tF, tF, tF, tF, tF, tF, tF, .ret _ _ _ c1] (by kernel_rfl)).to (by rfl)

theorem writes_3_ok (w dst src base disp imm cc : Int) (d0 : 0 ≤ dst) (d1 : dst ≤ 15) (s0 : 0 ≤ src) (s1 : src ≤ 15) (b0 : 0 ≤ base) (b1 : base ≤ 15) (hm : mayX 3 w dst src base disp imm cc = true) : Ret Try.prog 14 ([xD 3 w dst src base disp imm cc]) (.int .i64 (writesX 3 dst)) := by
  have c0 := @Proofs.Ytkannibhndjgeaa.mayX_ok ((3 : Int)) (w) (dst) (src) (base) (disp) (imm) (cc) (by first | rfl | decide)
  rw [show (mayX (3 : Int) w dst src base disp imm cc) = true from hm] at c0
  have c1 := @Proofs.Ytkannibhndjgeaa.set1_ok (dst) d0 d1
  exact (Ret.of_eval (d := D.int IntKind.i64 (sh8 dst)) mixed Try.func14 (by kernel_rfl) [.ret _ _ _ c0, tF, tF, tF, tF, tF, tF, tF, tF, tF, tF, tF, .ret _ _ _ c1] (by kernel_rfl)).to (by rfl)

theorem writes_4_ok (w dst src base disp imm cc : Int) (d0 : 0 ≤ dst) (d1 : dst ≤ 15) (s0 : 0 ≤ src) (s1 : src ≤ 15) (b0 : 0 ≤ base) (b1 : base ≤ 15) (hm : mayX 4 w dst src base disp imm cc = true) : Ret Try.prog 14 ([xD 4 w dst src base disp imm cc]) (.int .i64 (writesX 4 dst)) := by
  have c0 := @Proofs.Ytkannibhndjgeaa.mayX_ok ((4 : Int)) (w) (dst) (src) (base) (disp) (imm) (cc) (by first | rfl | decide)
  rw [show (mayX (4 : Int) w dst src base disp imm cc) = true from hm] at c0
  have c1 := @Proofs.Ytkannibhndjgeaa.set1_ok (dst) d0 d1
  exact (Ret.of_eval (d := D.int IntKind.i64 (sh8 dst)) mixed Try.func14 (by kernel_rfl) [.ret _ _ _ c0, tF, tF, tF, tF, tF, tF, tF, tF, tF, tF, tF, .ret _ _ _ c1] (by kernel_rfl)).to (by rfl)

theorem writes_5_ok (w dst src base disp imm cc : Int) (d0 : 0 ≤ dst) (d1 : dst ≤ 15) (s0 : 0 ≤ src) (s1 : src ≤ 15) (b0 : 0 ≤ base) (b1 : base ≤ 15) (hm : mayX 5 w dst src base disp imm cc = true) : Ret Try.prog 14 ([xD 5 w dst src base disp imm cc]) (.int .i64 (writesX 5 dst)) := by
  have c0 := @Proofs.Ytkannibhndjgeaa.mayX_ok ((5 : Int)) (w) (dst) (src) (base) (disp) (imm) (cc) (by first | rfl | decide)
  rw [show (mayX (5 : Int) w dst src base disp imm cc) = true from hm] at c0
  have c1 := @Proofs.Ytkannibhndjgeaa.set1_ok (dst) d0 d1
  exact (Ret.of_eval (d := D.int IntKind.i64 (sh8 dst)) mixed Try.func14 (by kernel_rfl) [.ret _ _ _ c0, tF, tF, tF, tF, tF, tF, tF, tF, tF, tF, tF, .ret _ _ _ c1] (by kernel_rfl)).to (by rfl)

theorem writes_6_ok (w dst src base disp imm cc : Int) (d0 : 0 ≤ dst) (d1 : dst ≤ 15) (s0 : 0 ≤ src) (s1 : src ≤ 15) (b0 : 0 ≤ base) (b1 : base ≤ 15) (hm : mayX 6 w dst src base disp imm cc = true) : Ret Try.prog 14 ([xD 6 w dst src base disp imm cc]) (.int .i64 (writesX 6 dst)) := by
  have c0 := @Proofs.Ytkannibhndjgeaa.mayX_ok ((6 : Int)) (w) (dst) (src) (base) (disp) (imm) (cc) (by first | rfl | decide)
  rw [show (mayX (6 : Int) w dst src base disp imm cc) = true from hm] at c0
  have c1 := @Proofs.Ytkannibhndjgeaa.set1_ok (dst) d0 d1
  exact (Ret.of_eval (d := D.int IntKind.i64 (sh8 dst)) mixed Try.func14 (by kernel_rfl) [.ret _ _ _ c0, tF, tF, tF, tF, tF, tF, tF, tF, tF, tF, tF, .ret _ _ _ c1] (by kernel_rfl)).to (by rfl)

theorem writes_7_ok (w dst src base disp imm cc : Int) (d0 : 0 ≤ dst) (d1 : dst ≤ 15) (s0 : 0 ≤ src) (s1 : src ≤ 15) (b0 : 0 ≤ base) (b1 : base ≤ 15) (hm : mayX 7 w dst src base disp imm cc = true) : Ret Try.prog 14 ([xD 7 w dst src base disp imm cc]) (.int .i64 (writesX 7 dst)) := by
  have c0 := @Proofs.Ytkannibhndjgeaa.mayX_ok ((7 : Int)) (w) (dst) (src) (base) (disp) (imm) (cc) (by first | rfl | decide)
  rw [show (mayX (7 : Int) w dst src base disp imm cc) = true from hm] at c0
  exact (Ret.of_eval (d := D.int IntKind.i64 (0 : Int)) mixed Try.func14 (by kernel_rfl) [.ret _ _ _ c0, tF, tT, tT] (by kernel_rfl)).to (by rfl)

theorem writes_8_ok (w dst src base disp imm cc : Int) (d0 : 0 ≤ dst) (d1 : dst ≤ 15) (s0 : 0 ≤ src) (s1 : src ≤ 15) (b0 : 0 ≤ base) (b1 : base ≤ 15) (hm : mayX 8 w dst src base disp imm cc = true) : Ret Try.prog 14 ([xD 8 w dst src base disp imm cc]) (.int .i64 (writesX 8 dst)) := by
  have c0 := @Proofs.Ytkannibhndjgeaa.mayX_ok ((8 : Int)) (w) (dst) (src) (base) (disp) (imm) (cc) (by first | rfl | decide)
  rw [show (mayX (8 : Int) w dst src base disp imm cc) = true from hm] at c0
  exact (Ret.of_eval (d := D.int IntKind.i64 (0 : Int)) mixed Try.func14 (by kernel_rfl) [.ret _ _ _ c0, tF, tF, tT, tT] (by kernel_rfl)).to (by rfl)

theorem writes_9_ok (w dst src base disp imm cc : Int) (d0 : 0 ≤ dst) (d1 : dst ≤ 15) (s0 : 0 ≤ src) (s1 : src ≤ 15) (b0 : 0 ≤ base) (b1 : base ≤ 15) (hm : mayX 9 w dst src base disp imm cc = true) : Ret Try.prog 14 ([xD 9 w dst src base disp imm cc]) (.int .i64 (writesX 9 dst)) := by
  have c0 := @Proofs.Ytkannibhndjgeaa.mayX_ok ((9 : Int)) (w) (dst) (src) (base) (disp) (imm) (cc) (by first | rfl | decide)
  rw [show (mayX (9 : Int) w dst src base disp imm cc) = true from hm] at c0
  have c1 := @Proofs.Ytkannibhndjgeaa.set1_ok (dst) d0 d1
  exact (Ret.of_eval (d := D.int IntKind.i64 (sh8 dst)) mixed Try.func14 (by kernel_rfl) [.ret _ _ _ c0, tF, tF, tF, tF, tF, tF, tF, tF, tF, tF, tF, .ret _ _ _ c1] (by kernel_rfl)).to (by rfl)

theorem writes_10_ok (w dst src base disp imm cc : Int) (d0 : 0 ≤ dst) (d1 : dst ≤ 15) (s0 : 0 ≤ src) (s1 : src ≤ 15) (b0 : 0 ≤ base) (b1 : base ≤ 15) (hm : mayX 10 w dst src base disp imm cc = true) : Ret Try.prog 14 ([xD 10 w dst src base disp imm cc]) (.int .i64 (writesX 10 dst)) := by
  have c0 := @Proofs.Ytkannibhndjgeaa.mayX_ok ((10 : Int)) (w) (dst) (src) (base) (disp) (imm) (cc) (by first | rfl | decide)
  rw [show (mayX (10 : Int) w dst src base disp imm cc) = true from hm] at c0
  have c1 := @Proofs.Ytkannibhndjgeaa.set1_ok (dst) d0 d1
  exact (Ret.of_eval (d := D.int IntKind.i64 (sh8 dst)) mixed Try.func14 (by kernel_rfl) [.ret _ _ _ c0, tF, tF, tF, tF, tF, tF, tF, tF, tF, tF, tF, .ret _ _ _ c1] (by kernel_rfl)).to (by rfl)

theorem writes_11_ok (w dst src base disp imm cc : Int) (d0 : 0 ≤ dst) (d1 : dst ≤ 15) (s0 : 0 ≤ src) (s1 : src ≤ 15) (b0 : 0 ≤ base) (b1 : base ≤ 15) (hm : mayX 11 w dst src base disp imm cc = true) : Ret Try.prog 14 ([xD 11 w dst src base disp imm cc]) (.int .i64 (writesX 11 dst)) := by
  have c0 := @Proofs.Ytkannibhndjgeaa.mayX_ok ((11 : Int)) (w) (dst) (src) (base) (disp) (imm) (cc) (by first | rfl | decide)
  rw [show (mayX (11 : Int) w dst src base disp imm cc) = true from hm] at c0
  have c1 := @Proofs.Ytkannibhndjgeaa.set1_ok (dst) d0 d1
  exact (Ret.of_eval (d := D.int IntKind.i64 (sh8 dst)) mixed Try.func14 (by kernel_rfl) [.ret _ _ _ c0, tF, tF, tF, tF, tF, tF, tF, tF, tF, tF, tF, .ret _ _ _ c1] (by kernel_rfl)).to (by rfl)

theorem writes_12_ok (w dst src base disp imm cc : Int) (d0 : 0 ≤ dst) (d1 : dst ≤ 15) (s0 : 0 ≤ src) (s1 : src ≤ 15) (b0 : 0 ≤ base) (b1 : base ≤ 15) (hm : mayX 12 w dst src base disp imm cc = true) : Ret Try.prog 14 ([xD 12 w dst src base disp imm cc]) (.int .i64 (writesX 12 dst)) := by
  have c0 := @Proofs.Ytkannibhndjgeaa.mayX_ok ((12 : Int)) (w) (dst) (src) (base) (disp) (imm) (cc) (by first | rfl | decide)
  rw [show (mayX (12 : Int) w dst src base disp imm cc) = true from hm] at c0
  have c1 := @Proofs.Ytkannibhndjgeaa.set1_ok (dst) d0 d1
  exact (Ret.of_eval (d := D.int IntKind.i64 (sh8 dst)) mixed Try.func14 (by kernel_rfl) [.ret _ _ _ c0, tF, tF, tF, tF, tF, tF, tF, tF, tF, tF, tF, .ret _ _ _ c1] (by kernel_rfl)).to (by rfl)

theorem writes_13_ok (w dst src base disp imm cc : Int) (d0 : 0 ≤ dst) (d1 : dst ≤ 15) (s0 : 0 ≤ src) (s1 : src ≤ 15) (b0 : 0 ≤ base) (b1 : base ≤ 15) (hm : mayX 13 w dst src base disp imm cc = true) : Ret Try.prog 14 ([xD 13 w dst src base disp imm cc]) (.int .i64 (writesX 13 dst)) := by
  have c0 := @Proofs.Ytkannibhndjgeaa.mayX_ok ((13 : Int)) (w) (dst) (src) (base) (disp) (imm) (cc) (by first | rfl | decide)
  rw [show (mayX (13 : Int) w dst src base disp imm cc) = true from hm] at c0
  have c1 := @Proofs.Ytkannibhndjgeaa.set1_ok (dst) d0 d1
  exact (Ret.of_eval (d := D.int IntKind.i64 (sh8 dst)) mixed Try.func14 (by kernel_rfl) [.ret _ _ _ c0, tF, tF, tF, tF, tF, tF, tF, tF, tF, tF, tF, .ret _ _ _ c1] (by kernel_rfl)).to (by rfl)

theorem writes_14_ok (w dst src base disp imm cc : Int) (d0 : 0 ≤ dst) (d1 : dst ≤ 15) (s0 : 0 ≤ src) (s1 : src ≤ 15) (b0 : 0 ≤ base) (b1 : base ≤ 15) (hm : mayX 14 w dst src base disp imm cc = true) : Ret Try.prog 14 ([xD 14 w dst src base disp imm cc]) (.int .i64 (writesX 14 dst)) := by
  have c0 := @Proofs.Ytkannibhndjgeaa.mayX_ok ((14 : Int)) (w) (dst) (src) (base) (disp) (imm) (cc) (by first | rfl | decide)
  rw [show (mayX (14 : Int) w dst src base disp imm cc) = true from hm] at c0
  exact (Ret.of_eval (d := D.int IntKind.i64 (0 : Int)) mixed Try.func14 (by kernel_rfl) [.ret _ _ _ c0, tF, tF, tF, tT, tT] (by kernel_rfl)).to (by rfl)

theorem writes_15_ok (w dst src base disp imm cc : Int) (d0 : 0 ≤ dst) (d1 : dst ≤ 15) (s0 : 0 ≤ src) (s1 : src ≤ 15) (b0 : 0 ≤ base) (b1 : base ≤ 15) (hm : mayX 15 w dst src base disp imm cc = true) : Ret Try.prog 14 ([xD 15 w dst src base disp imm cc]) (.int .i64 (writesX 15 dst)) := by
  have c0 := @Proofs.Ytkannibhndjgeaa.mayX_ok ((15 : Int)) (w) (dst) (src) (base) (disp) (imm) (cc) (by first | rfl | decide)
  rw [show (mayX (15 : Int) w dst src base disp imm cc) = true from hm] at c0
  exact (Ret.of_eval (d := D.int IntKind.i64 (0 : Int)) mixed Try.func14 (by kernel_rfl) [.ret _ _ _ c0, tF, tF, tF, tF, tT, tT] (by kernel_rfl)).to (by rfl)

theorem writes_16_ok (w dst src base disp imm cc : Int) (d0 : 0 ≤ dst) (d1 : dst ≤ 15) (s0 : 0 ≤ src) (s1 : src ≤ 15) (b0 : 0 ≤ base) (b1 : base ≤ 15) (hm : mayX 16 w dst src base disp imm cc = true) : Ret Try.prog 14 ([xD 16 w dst src base disp imm cc]) (.int .i64 (writesX 16 dst)) := by
  have c0 := @Proofs.Ytkannibhndjgeaa.mayX_ok ((16 : Int)) (w) (dst) (src) (base) (disp) (imm) (cc) (by first | rfl | decide)
  rw [show (mayX (16 : Int) w dst src base disp imm cc) = true from hm] at c0
  have c1 := @Proofs.Ytkannibhndjgeaa.set1_ok (dst) d0 d1
  exact (Ret.of_eval (d := D.int IntKind.i64 (sh8 dst)) mixed Try.func14 (by kernel_rfl) [.ret _ _ _ c0, tF, tF, tF, tF, tF, tF, tF, tF, tF, tF, tF, .ret _ _ _ c1] (by kernel_rfl)).to (by rfl)

theorem writes_17_ok (w dst src base disp imm cc : Int) (d0 : 0 ≤ dst) (d1 : dst ≤ 15) (s0 : 0 ≤ src) (s1 : src ≤ 15) (b0 : 0 ≤ base) (b1 : base ≤ 15) (hm : mayX 17 w dst src base disp imm cc = true) : Ret Try.prog 14 ([xD 17 w dst src base disp imm cc]) (.int .i64 (writesX 17 dst)) := by
  have c0 := @Proofs.Ytkannibhndjgeaa.mayX_ok ((17 : Int)) (w) (dst) (src) (base) (disp) (imm) (cc) (by first | rfl | decide)
  rw [show (mayX (17 : Int) w dst src base disp imm cc) = true from hm] at c0
  have c1 := @Proofs.Ytkannibhndjgeaa.set1_ok (dst) d0 d1
  exact (Ret.of_eval (d := D.int IntKind.i64 (sh8 dst)) mixed Try.func14 (by kernel_rfl) [.ret _ _ _ c0, tF, tF, tF, tF, tF, tF, tF, tF, tF, tF, tF, .ret _ _ _ c1] (by kernel_rfl)).to (by rfl)

theorem writes_18_ok (w dst src base disp imm cc : Int) (d0 : 0 ≤ dst) (d1 : dst ≤ 15) (s0 : 0 ≤ src) (s1 : src ≤ 15) (b0 : 0 ≤ base) (b1 : base ≤ 15) (hm : mayX 18 w dst src base disp imm cc = true) : Ret Try.prog 14 ([xD 18 w dst src base disp imm cc]) (.int .i64 (writesX 18 dst)) := by
  have c0 := @Proofs.Ytkannibhndjgeaa.mayX_ok ((18 : Int)) (w) (dst) (src) (base) (disp) (imm) (cc) (by first | rfl | decide)
  rw [show (mayX (18 : Int) w dst src base disp imm cc) = true from hm] at c0
  have c1 := @Proofs.Ytkannibhndjgeaa.set1_ok (dst) d0 d1
  exact (Ret.of_eval (d := D.int IntKind.i64 (sh8 dst)) mixed Try.func14 (by kernel_rfl) [.ret _ _ _ c0, tF, tF, tF, tF, tF, tF, tF, tF, tF, tF, tF, .ret _ _ _ c1] (by kernel_rfl)).to (by rfl)

theorem writes_19_ok (w dst src base disp imm cc : Int) (d0 : 0 ≤ dst) (d1 : dst ≤ 15) (s0 : 0 ≤ src) (s1 : src ≤ 15) (b0 : 0 ≤ base) (b1 : base ≤ 15) (hm : mayX 19 w dst src base disp imm cc = true) : Ret Try.prog 14 ([xD 19 w dst src base disp imm cc]) (.int .i64 (writesX 19 dst)) := by
  have c0 := @Proofs.Ytkannibhndjgeaa.mayX_ok ((19 : Int)) (w) (dst) (src) (base) (disp) (imm) (cc) (by first | rfl | decide)
  rw [show (mayX (19 : Int) w dst src base disp imm cc) = true from hm] at c0
  have c1 := @Proofs.Ytkannibhndjgeaa.set1_ok (dst) d0 d1
  exact (Ret.of_eval (d := D.int IntKind.i64 (sh8 dst)) mixed Try.func14 (by kernel_rfl) [.ret _ _ _ c0, tF, tF, tF, tF, tF, tF, tF, tF, tF, tF, tF, .ret _ _ _ c1] (by kernel_rfl)).to (by rfl)

theorem writes_20_ok (w dst src base disp imm cc : Int) (d0 : 0 ≤ dst) (d1 : dst ≤ 15) (s0 : 0 ≤ src) (s1 : src ≤ 15) (b0 : 0 ≤ base) (b1 : base ≤ 15) (hm : mayX 20 w dst src base disp imm cc = true) : Ret Try.prog 14 ([xD 20 w dst src base disp imm cc]) (.int .i64 (writesX 20 dst)) := by
  have c0 := @Proofs.Ytkannibhndjgeaa.mayX_ok ((20 : Int)) (w) (dst) (src) (base) (disp) (imm) (cc) (by first | rfl | decide)
  rw [show (mayX (20 : Int) w dst src base disp imm cc) = true from hm] at c0
  have c1 := @Proofs.Ytkannibhndjgeaa.set1_ok (dst) d0 d1
  exact (Ret.of_eval (d := D.int IntKind.i64 (sh8 dst)) mixed Try.func14 (by kernel_rfl) [.ret _ _ _ c0, tF, tF, tF, tF, tF, tF, tF, tF, tF, tF, tF, .ret _ _ _ c1] (by kernel_rfl)).to (by rfl)

theorem writes_21_ok (w dst src base disp imm cc : Int) (d0 : 0 ≤ dst) (d1 : dst ≤ 15) (s0 : 0 ≤ src) (s1 : src ≤ 15) (b0 : 0 ≤ base) (b1 : base ≤ 15) (hm : mayX 21 w dst src base disp imm cc = true) : Ret Try.prog 14 ([xD 21 w dst src base disp imm cc]) (.int .i64 (writesX 21 dst)) := by
  have c0 := @Proofs.Ytkannibhndjgeaa.mayX_ok ((21 : Int)) (w) (dst) (src) (base) (disp) (imm) (cc) (by first | rfl | decide)
  rw [show (mayX (21 : Int) w dst src base disp imm cc) = true from hm] at c0
  have c1 := @Proofs.Ytkannibhndjgeaa.set1_ok (dst) d0 d1
  exact (Ret.of_eval (d := D.int IntKind.i64 (sh8 dst)) mixed Try.func14 (by kernel_rfl) [.ret _ _ _ c0, tF, tF, tF, tF, tF, tF, tF, tF, tF, tF, tF, .ret _ _ _ c1] (by kernel_rfl)).to (by rfl)

theorem writes_22_ok (w dst src base disp imm cc : Int) (d0 : 0 ≤ dst) (d1 : dst ≤ 15) (s0 : 0 ≤ src) (s1 : src ≤ 15) (b0 : 0 ≤ base) (b1 : base ≤ 15) (hm : mayX 22 w dst src base disp imm cc = true) : Ret Try.prog 14 ([xD 22 w dst src base disp imm cc]) (.int .i64 (writesX 22 dst)) := by
  have c0 := @Proofs.Ytkannibhndjgeaa.mayX_ok ((22 : Int)) (w) (dst) (src) (base) (disp) (imm) (cc) (by first | rfl | decide)
  rw [show (mayX (22 : Int) w dst src base disp imm cc) = true from hm] at c0
  have c1 := @Proofs.Ytkannibhndjgeaa.set1_ok (dst) d0 d1
  exact (Ret.of_eval (d := D.int IntKind.i64 (sh8 dst)) mixed Try.func14 (by kernel_rfl) [.ret _ _ _ c0, tF, tF, tF, tF, tF, tF, tF, tF, tF, tF, tF, .ret _ _ _ c1] (by kernel_rfl)).to (by rfl)

theorem writes_23_ok (w dst src base disp imm cc : Int) (d0 : 0 ≤ dst) (d1 : dst ≤ 15) (s0 : 0 ≤ src) (s1 : src ≤ 15) (b0 : 0 ≤ base) (b1 : base ≤ 15) (hm : mayX 23 w dst src base disp imm cc = true) : Ret Try.prog 14 ([xD 23 w dst src base disp imm cc]) (.int .i64 (writesX 23 dst)) := by
  have c0 := @Proofs.Ytkannibhndjgeaa.mayX_ok ((23 : Int)) (w) (dst) (src) (base) (disp) (imm) (cc) (by first | rfl | decide)
  rw [show (mayX (23 : Int) w dst src base disp imm cc) = true from hm] at c0
  have c1 := @Proofs.Ytkannibhndjgeaa.set1_ok (dst) d0 d1
  exact (Ret.of_eval (d := D.int IntKind.i64 (sh8 dst)) mixed Try.func14 (by kernel_rfl) [.ret _ _ _ c0, tF, tF, tF, tF, tF, tF, tF, tF, tF, tF, tF, .ret _ _ _ c1] (by kernel_rfl)).to (by rfl)

theorem writes_24_ok (w dst src base disp imm cc : Int) (d0 : 0 ≤ dst) (d1 : dst ≤ 15) (s0 : 0 ≤ src) (s1 : src ≤ 15) (b0 : 0 ≤ base) (b1 : base ≤ 15) (hm : mayX 24 w dst src base disp imm cc = true) : Ret Try.prog 14 ([xD 24 w dst src base disp imm cc]) (.int .i64 (writesX 24 dst)) := by
  have c0 := @Proofs.Ytkannibhndjgeaa.mayX_ok ((24 : Int)) (w) (dst) (src) (base) (disp) (imm) (cc) (by first | rfl | decide)
  rw [show (mayX (24 : Int) w dst src base disp imm cc) = true from hm] at c0
  have c1 := @Proofs.Ytkannibhndjgeaa.set2_ok ((0 : Int)) (by first | rfl | decide) (by first | rfl | decide) ((2 : Int)) (by first | rfl | decide) (by first | rfl | decide)
  exact (Ret.of_eval (d := D.int IntKind.i64 (5 : Int)) mixed Try.func14 (by kernel_rfl) [.ret _ _ _ c0, tF, tF, tF, tF, tF, tF, tF, tF, tT, .ret _ _ _ c1] (by kernel_rfl)).to (by rfl)

theorem writes_25_ok (w dst src base disp imm cc : Int) (d0 : 0 ≤ dst) (d1 : dst ≤ 15) (s0 : 0 ≤ src) (s1 : src ≤ 15) (b0 : 0 ≤ base) (b1 : base ≤ 15) (hm : mayX 25 w dst src base disp imm cc = true) : Ret Try.prog 14 ([xD 25 w dst src base disp imm cc]) (.int .i64 (writesX 25 dst)) := by
  have c0 := @Proofs.Ytkannibhndjgeaa.mayX_ok ((25 : Int)) (w) (dst) (src) (base) (disp) (imm) (cc) (by first | rfl | decide)
  rw [show (mayX (25 : Int) w dst src base disp imm cc) = true from hm] at c0
  have c1 := @Proofs.Ytkannibhndjgeaa.set1_ok (dst) d0 d1
  exact (Ret.of_eval (d := D.int IntKind.i64 (sh8 dst)) mixed Try.func14 (by kernel_rfl) [.ret _ _ _ c0, tF, tF, tF, tF, tF, tF, tF, tF, tF, tF, tF, .ret _ _ _ c1] (by kernel_rfl)).to (by rfl)

theorem writes_26_ok (w dst src base disp imm cc : Int) (d0 : 0 ≤ dst) (d1 : dst ≤ 15) (s0 : 0 ≤ src) (s1 : src ≤ 15) (b0 : 0 ≤ base) (b1 : base ≤ 15) (hm : mayX 26 w dst src base disp imm cc = true) : Ret Try.prog 14 ([xD 26 w dst src base disp imm cc]) (.int .i64 (writesX 26 dst)) := by
  have c0 := @Proofs.Ytkannibhndjgeaa.mayX_ok ((26 : Int)) (w) (dst) (src) (base) (disp) (imm) (cc) (by first | rfl | decide)
  rw [show (mayX (26 : Int) w dst src base disp imm cc) = true from hm] at c0
  have c1 := @Proofs.Ytkannibhndjgeaa.set1_ok (dst) d0 d1
  exact (Ret.of_eval (d := D.int IntKind.i64 (sh8 dst)) mixed Try.func14 (by kernel_rfl) [.ret _ _ _ c0, tF, tF, tF, tF, tF, tF, tF, tF, tF, tF, tF, .ret _ _ _ c1] (by kernel_rfl)).to (by rfl)

theorem writes_27_ok (w dst src base disp imm cc : Int) (d0 : 0 ≤ dst) (d1 : dst ≤ 15) (s0 : 0 ≤ src) (s1 : src ≤ 15) (b0 : 0 ≤ base) (b1 : base ≤ 15) (hm : mayX 27 w dst src base disp imm cc = true) : Ret Try.prog 14 ([xD 27 w dst src base disp imm cc]) (.int .i64 (writesX 27 dst)) := by
  have c0 := @Proofs.Ytkannibhndjgeaa.mayX_ok ((27 : Int)) (w) (dst) (src) (base) (disp) (imm) (cc) (by first | rfl | decide)
  rw [show (mayX (27 : Int) w dst src base disp imm cc) = true from hm] at c0
  exact (Ret.of_eval (d := D.int IntKind.i64 (0 : Int)) mixed Try.func14 (by kernel_rfl) [.ret _ _ _ c0, tF, tF, tF, tF, tF, tT, tT] (by kernel_rfl)).to (by rfl)

theorem writes_28_ok (w dst src base disp imm cc : Int) (d0 : 0 ≤ dst) (d1 : dst ≤ 15) (s0 : 0 ≤ src) (s1 : src ≤ 15) (b0 : 0 ≤ base) (b1 : base ≤ 15) (hm : mayX 28 w dst src base disp imm cc = true) : Ret Try.prog 14 ([xD 28 w dst src base disp imm cc]) (.int .i64 (writesX 28 dst)) := by
  have c0 := @Proofs.Ytkannibhndjgeaa.mayX_ok ((28 : Int)) (w) (dst) (src) (base) (disp) (imm) (cc) (by first | rfl | decide)
  rw [show (mayX (28 : Int) w dst src base disp imm cc) = true from hm] at c0
  exact (Ret.of_eval (d := D.int IntKind.i64 (0 : Int)) mixed Try.func14 (by kernel_rfl) [.ret _ _ _ c0, tF, tF, tF, tF, tF, tF, tT, tT] (by kernel_rfl)).to (by rfl)

theorem writes_29_ok (w dst src base disp imm cc : Int) (d0 : 0 ≤ dst) (d1 : dst ≤ 15) (s0 : 0 ≤ src) (s1 : src ≤ 15) (b0 : 0 ≤ base) (b1 : base ≤ 15) (hm : mayX 29 w dst src base disp imm cc = true) : Ret Try.prog 14 ([xD 29 w dst src base disp imm cc]) (.int .i64 (writesX 29 dst)) := by
  have c0 := @Proofs.Ytkannibhndjgeaa.mayX_ok ((29 : Int)) (w) (dst) (src) (base) (disp) (imm) (cc) (by first | rfl | decide)
  rw [show (mayX (29 : Int) w dst src base disp imm cc) = true from hm] at c0
  exact (Ret.of_eval (d := D.int IntKind.i64 (0 : Int)) mixed Try.func14 (by kernel_rfl) [.ret _ _ _ c0, tF, tF, tF, tF, tF, tF, tF, tT] (by kernel_rfl)).to (by rfl)

theorem writes_30_ok (w dst src base disp imm cc : Int) (d0 : 0 ≤ dst) (d1 : dst ≤ 15) (s0 : 0 ≤ src) (s1 : src ≤ 15) (b0 : 0 ≤ base) (b1 : base ≤ 15) (hm : mayX 30 w dst src base disp imm cc = true) : Ret Try.prog 14 ([xD 30 w dst src base disp imm cc]) (.int .i64 (writesX 30 dst)) := by
  have c0 := @Proofs.Ytkannibhndjgeaa.mayX_ok ((30 : Int)) (w) (dst) (src) (base) (disp) (imm) (cc) (by first | rfl | decide)
  rw [show (mayX (30 : Int) w dst src base disp imm cc) = true from hm] at c0
  have c1 := @Proofs.Ytkannibhndjgeaa.set1_ok ((4 : Int)) (by first | rfl | decide) (by first | rfl | decide)
  exact (Ret.of_eval (d := D.int IntKind.i64 (16 : Int)) mixed Try.func14 (by kernel_rfl) [.ret _ _ _ c0, tF, tF, tF, tF, tF, tF, tF, tF, tF, tT, .ret _ _ _ c1] (by kernel_rfl)).to (by rfl)

theorem writes_31_ok (w dst src base disp imm cc : Int) (d0 : 0 ≤ dst) (d1 : dst ≤ 15) (s0 : 0 ≤ src) (s1 : src ≤ 15) (b0 : 0 ≤ base) (b1 : base ≤ 15) (hm : mayX 31 w dst src base disp imm cc = true) : Ret Try.prog 14 ([xD 31 w dst src base disp imm cc]) (.int .i64 (writesX 31 dst)) := by
  have c0 := @Proofs.Ytkannibhndjgeaa.mayX_ok ((31 : Int)) (w) (dst) (src) (base) (disp) (imm) (cc) (by first | rfl | decide)
  rw [show (mayX (31 : Int) w dst src base disp imm cc) = true from hm] at c0
  exact (Ret.of_eval (d := D.int IntKind.i64 (2051 : Int)) mixed Try.func14 (by kernel_rfl) ([.ret _ _ _ c0, tF, tF, tF, tF, tF, tF, tF, tF, tF, tF, tT, .inl, .go 64, tT, tT] ++ [.get ([D.int IntKind.i8 (0 : Int), D.int IntKind.i8 (1 : Int), D.int IntKind.i8 (11 : Int)]) 0 (D.int IntKind.i8 (0 : Int)) rfl, tT, tT, tT, .get ([D.int IntKind.i8 (0 : Int), D.int IntKind.i8 (1 : Int), D.int IntKind.i8 (11 : Int)]) 1 (D.int IntKind.i8 (1 : Int)) rfl, tT, tT, tT, .get ([D.int IntKind.i8 (0 : Int), D.int IntKind.i8 (1 : Int), D.int IntKind.i8 (11 : Int)]) 2 (D.int IntKind.i8 (11 : Int)) rfl, tT, tF]) (by kernel_rfl)).to (by rfl)

theorem writes_no_ok (op w dst src base disp imm cc : Int) (ho : op ≤ 127) (hm : mayX op w dst src base disp imm cc = false) : Ret Try.prog 14 ([xD op w dst src base disp imm cc]) (.int .i64 0) := by
  have c0 := @Proofs.Ytkannibhndjgeaa.mayX_ok (op) (w) (dst) (src) (base) (disp) (imm) (cc) ho
  rw [show (mayX op w dst src base disp imm cc) = false from hm] at c0
  exact (Ret.of_eval (d := D.int IntKind.i64 (0 : Int)) mixed Try.func14 (by kernel_rfl) [.ret _ _ _ c0, tT] (by kernel_rfl)).to (by simp [wk])

end Go.Proofs.Ytkannibhndjgeaa
