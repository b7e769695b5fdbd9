/- Contracts and plain laws that a statement's proof leans on (texts merged: XS2, XRW, MdE, MdP, MdS, MdI). -/
import Derived.Test.YtojgmjfcfpclbaaK04
import Derived.Test.YtojgmjfcfpclbaaK08
set_option linter.unusedVariables false
set_option linter.unusedSimpArgs false
namespace Go.Proofs.Ytojgmjfcfpclbaa
open Go Go.Ev
set_option maxRecDepth 100000
set_option maxHeartbeats 8000000
theorem reads_0_ok (w dst src base disp imm cc : Int) (d0 : 0 ≤ dst) (d1 : dst ≤ 15) (s0 : 0 ≤ src) (s1 : src ≤ 15) (b0 : 0 ≤ base) (b1 : base ≤ 15) (hm : mayX 0 w dst src base disp imm cc = true) : Ret Try.prog 68 ([xD 0 w dst src base disp imm cc]) (.int .i64 (readsX 0 dst src base)) := by
  have c0 := @Proofs.Ytojgmjfcfpclbaa.mayX_ok ((0 : Int)) (w) (dst) (src) (base) (disp) (imm) (cc) (by first | rfl | decide)
  rw [show (mayX (0 : Int) w dst src base disp imm cc) = true from hm] at c0
  have c1 := @Proofs.Ytojgmjfcfpclbaa.of_any_ok ((0 : Int)) (by first | rfl | decide)
  have c2 := @Proofs.Ytojgmjfcfpclbaa.set1_ok (src) s0 s1
  exact (Ret.of_eval (d := D.int IntKind.i64 (sh8 src)) mixed Try.func68 (by kernel_rfl) [.ret _ _ _ c0, tF, .ret _ _ _ c1, tT, tT, tT, .ret _ _ _ c2] (by kernel_rfl)).to (by rfl)
theorem reads_1_ok (w dst src base disp imm cc : Int) (d0 : 0 ≤ dst) (d1 : dst ≤ 15) (s0 : 0 ≤ src) (s1 : src ≤ 15) (b0 : 0 ≤ base) (b1 : base ≤ 15) (hm : mayX 1 w dst src base disp imm cc = true) : Ret Try.prog 68 ([xD 1 w dst src base disp imm cc]) (.int .i64 (readsX 1 dst src base)) := by
  have c0 := @Proofs.Ytojgmjfcfpclbaa.mayX_ok ((1 : Int)) (w) (dst) (src) (base) (disp) (imm) (cc) (by first | rfl | decide)
  rw [show (mayX (1 : Int) w dst src base disp imm cc) = true from hm] at c0
  have c1 := @Proofs.Ytojgmjfcfpclbaa.of_any_ok ((1 : Int)) (by first | rfl | decide)
  exact (Ret.of_eval (d := D.int IntKind.i64 0) mixed Try.func68 (by kernel_rfl) [.ret _ _ _ c0, tF, .ret _ _ _ c1, tF, tF, tF, tT, tT, tT] (by kernel_rfl)).to (by rfl)
theorem reads_2_ok (w dst src base disp imm cc : Int) (d0 : 0 ≤ dst) (d1 : dst ≤ 15) (s0 : 0 ≤ src) (s1 : src ≤ 15) (b0 : 0 ≤ base) (b1 : base ≤ 15) (hm : mayX 2 w dst src base disp imm cc = true) : Ret Try.prog 68 ([xD 2 w dst src base disp imm cc]) (.int .i64 (readsX 2 dst src base)) := by
  have c0 := @Proofs.Ytojgmjfcfpclbaa.mayX_ok ((2 : Int)) (w) (dst) (src) (base) (disp) (imm) (cc) (by first | rfl | decide)
  rw [show (mayX (2 : Int) w dst src base disp imm cc) = true from hm] at c0
  have c1 := @Proofs.Ytojgmjfcfpclbaa.of_any_ok ((2 : Int)) (by first | rfl | decide)
  have c2 := @Proofs.Ytojgmjfcfpclbaa.set2_ok (dst) d0 d1 (src) s0 s1
  exact (Ret.of_eval (d := D.int IntKind.i64 (or64 (sh8 dst) (sh8 src))) mixed Try.func68 (by kernel_rfl) [.ret _ _ _ c0, tF, .ret _ _ _ c1, tT, tT, tF, .ret _ _ _ c2] (by kernel_rfl)).to (by rfl)
theorem reads_3_ok (w dst src base disp imm cc : Int) (d0 : 0 ≤ dst) (d1 : dst ≤ 15) (s0 : 0 ≤ src) (s1 : src ≤ 15) (b0 : 0 ≤ base) (b1 : base ≤ 15) (hm : mayX 3 w dst src base disp imm cc = true) : Ret Try.prog 68 ([xD 3 w dst src base disp imm cc]) (.int .i64 (readsX 3 dst src base)) := by
  have c0 := @Proofs.Ytojgmjfcfpclbaa.mayX_ok ((3 : Int)) (w) (dst) (src) (base) (disp) (imm) (cc) (by first | rfl | decide)
  rw [show (mayX (3 : Int) w dst src base disp imm cc) = true from hm] at c0
  have c1 := @Proofs.Ytojgmjfcfpclbaa.of_any_ok ((3 : Int)) (by first | rfl | decide)
  have c2 := @Proofs.Ytojgmjfcfpclbaa.set2_ok (dst) d0 d1 (src) s0 s1
  exact (Ret.of_eval (d := D.int IntKind.i64 (or64 (sh8 dst) (sh8 src))) mixed Try.func68 (by kernel_rfl) [.ret _ _ _ c0, tF, .ret _ _ _ c1, tT, tT, tF, .ret _ _ _ c2] (by kernel_rfl)).to (by rfl)
theorem reads_4_ok (w dst src base disp imm cc : Int) (d0 : 0 ≤ dst) (d1 : dst ≤ 15) (s0 : 0 ≤ src) (s1 : src ≤ 15) (b0 : 0 ≤ base) (b1 : base ≤ 15) (hm : mayX 4 w dst src base disp imm cc = true) : Ret Try.prog 68 ([xD 4 w dst src base disp imm cc]) (.int .i64 (readsX 4 dst src base)) := by
  have c0 := @Proofs.Ytojgmjfcfpclbaa.mayX_ok ((4 : Int)) (w) (dst) (src) (base) (disp) (imm) (cc) (by first | rfl | decide)
  rw [show (mayX (4 : Int) w dst src base disp imm cc) = true from hm] at c0
  have c1 := @Proofs.Ytojgmjfcfpclbaa.of_any_ok ((4 : Int)) (by first | rfl | decide)
  have c2 := @Proofs.Ytojgmjfcfpclbaa.set2_ok (dst) d0 d1 (src) s0 s1
  exact (Ret.of_eval (d := D.int IntKind.i64 (or64 (sh8 dst) (sh8 src))) mixed Try.func68 (by kernel_rfl) [.ret _ _ _ c0, tF, .ret _ _ _ c1, tT, tT, tF, .ret _ _ _ c2] (by kernel_rfl)).to (by rfl)
theorem reads_5_ok (w dst src base disp imm cc : Int) (d0 : 0 ≤ dst) (d1 : dst ≤ 15) (s0 : 0 ≤ src) (s1 : src ≤ 15) (b0 : 0 ≤ base) (b1 : base ≤ 15) (hm : mayX 5 w dst src base disp imm cc = true) : Ret Try.prog 68 ([xD 5 w dst src base disp imm cc]) (.int .i64 (readsX 5 dst src base)) := by
  have c0 := @Proofs.Ytojgmjfcfpclbaa.mayX_ok ((5 : Int)) (w) (dst) (src) (base) (disp) (imm) (cc) (by first | rfl | decide)
  rw [show (mayX (5 : Int) w dst src base disp imm cc) = true from hm] at c0
  have c1 := @Proofs.Ytojgmjfcfpclbaa.of_any_ok ((5 : Int)) (by first | rfl | decide)
  have c2 := @Proofs.Ytojgmjfcfpclbaa.set2_ok (dst) d0 d1 (src) s0 s1
  exact (Ret.of_eval (d := D.int IntKind.i64 (or64 (sh8 dst) (sh8 src))) mixed Try.func68 (by kernel_rfl) [.ret _ _ _ c0, tF, .ret _ _ _ c1, tT, tT, tF, .ret _ _ _ c2] (by kernel_rfl)).to (by rfl)
theorem reads_6_ok (w dst src base disp imm cc : Int) (d0 : 0 ≤ dst) (d1 : dst ≤ 15) (s0 : 0 ≤ src) (s1 : src ≤ 15) (b0 : 0 ≤ base) (b1 : base ≤ 15) (hm : mayX 6 w dst src base disp imm cc = true) : Ret Try.prog 68 ([xD 6 w dst src base disp imm cc]) (.int .i64 (readsX 6 dst src base)) := by
  have c0 := @Proofs.Ytojgmjfcfpclbaa.mayX_ok ((6 : Int)) (w) (dst) (src) (base) (disp) (imm) (cc) (by first | rfl | decide)
  rw [show (mayX (6 : Int) w dst src base disp imm cc) = true from hm] at c0
  have c1 := @Proofs.Ytojgmjfcfpclbaa.of_any_ok ((6 : Int)) (by first | rfl | decide)
  have c2 := @Proofs.Ytojgmjfcfpclbaa.set2_ok (dst) d0 d1 (src) s0 s1
  exact (Ret.of_eval (d := D.int IntKind.i64 (or64 (sh8 dst) (sh8 src))) mixed Try.func68 (by kernel_rfl) [.ret _ _ _ c0, tF, .ret _ _ _ c1, tT, tT, tF, .ret _ _ _ c2] (by kernel_rfl)).to (by rfl)
theorem reads_7_ok (w dst src base disp imm cc : Int) (d0 : 0 ≤ dst) (d1 : dst ≤ 15) (s0 : 0 ≤ src) (s1 : src ≤ 15) (b0 : 0 ≤ base) (b1 : base ≤ 15) (hm : mayX 7 w dst src base disp imm cc = true) : Ret Try.prog 68 ([xD 7 w dst src base disp imm cc]) (.int .i64 (readsX 7 dst src base)) := by
  have c0 := @Proofs.Ytojgmjfcfpclbaa.mayX_ok ((7 : Int)) (w) (dst) (src) (base) (disp) (imm) (cc) (by first | rfl | decide)
  rw [show (mayX (7 : Int) w dst src base disp imm cc) = true from hm] at c0
  have c1 := @Proofs.Ytojgmjfcfpclbaa.of_any_ok ((7 : Int)) (by first | rfl | decide)
  have c2 := @Proofs.Ytojgmjfcfpclbaa.set2_ok (dst) d0 d1 (src) s0 s1
  exact (Ret.of_eval (d := D.int IntKind.i64 (or64 (sh8 dst) (sh8 src))) mixed Try.func68 (by kernel_rfl) [.ret _ _ _ c0, tF, .ret _ _ _ c1, tT, tT, tF, .ret _ _ _ c2] (by kernel_rfl)).to (by rfl)
theorem reads_8_ok (w dst src base disp imm cc : Int) (d0 : 0 ≤ dst) (d1 : dst ≤ 15) (s0 : 0 ≤ src) (s1 : src ≤ 15) (b0 : 0 ≤ base) (b1 : base ≤ 15) (hm : mayX 8 w dst src base disp imm cc = true) : Ret Try.prog 68 ([xD 8 w dst src base disp imm cc]) (.int .i64 (readsX 8 dst src base)) := by
  have c0 := @Proofs.Ytojgmjfcfpclbaa.mayX_ok ((8 : Int)) (w) (dst) (src) (base) (disp) (imm) (cc) (by first | rfl | decide)
  rw [show (mayX (8 : Int) w dst src base disp imm cc) = true from hm] at c0
  have c1 := @Proofs.Ytojgmjfcfpclbaa.of_any_ok ((8 : Int)) (by first | rfl | decide)
  have c2 := @Proofs.Ytojgmjfcfpclbaa.set2_ok (dst) d0 d1 (src) s0 s1
  exact (Ret.of_eval (d := D.int IntKind.i64 (or64 (sh8 dst) (sh8 src))) mixed Try.func68 (by kernel_rfl) [.ret _ _ _ c0, tF, .ret _ _ _ c1, tT, tT, tF, .ret _ _ _ c2] (by kernel_rfl)).to (by rfl)
theorem reads_9_ok (w dst src base disp imm cc : Int) (d0 : 0 ≤ dst) (d1 : dst ≤ 15) (s0 : 0 ≤ src) (s1 : src ≤ 15) (b0 : 0 ≤ base) (b1 : base ≤ 15) (hm : mayX 9 w dst src base disp imm cc = true) : Ret Try.prog 68 ([xD 9 w dst src base disp imm cc]) (.int .i64 (readsX 9 dst src base)) := by
  have c0 := @Proofs.Ytojgmjfcfpclbaa.mayX_ok ((9 : Int)) (w) (dst) (src) (base) (disp) (imm) (cc) (by first | rfl | decide)
  rw [show (mayX (9 : Int) w dst src base disp imm cc) = true from hm] at c0
  have c1 := @Proofs.Ytojgmjfcfpclbaa.of_any_ok ((9 : Int)) (by first | rfl | decide)
  have c2 := @Proofs.Ytojgmjfcfpclbaa.set1_ok (dst) d0 d1
  exact (Ret.of_eval (d := D.int IntKind.i64 (sh8 dst)) mixed Try.func68 (by kernel_rfl) [.ret _ _ _ c0, tF, .ret _ _ _ c1, tF, tF, tF, tT, tT, tF, .ret _ _ _ c2] (by kernel_rfl)).to (by rfl)
theorem reads_10_ok (w dst src base disp imm cc : Int) (d0 : 0 ≤ dst) (d1 : dst ≤ 15) (s0 : 0 ≤ src) (s1 : src ≤ 15) (b0 : 0 ≤ base) (b1 : base ≤ 15) (hm : mayX 10 w dst src base disp imm cc = true) : Ret Try.prog 68 ([xD 10 w dst src base disp imm cc]) (.int .i64 (readsX 10 dst src base)) := by
  have c0 := @Proofs.Ytojgmjfcfpclbaa.mayX_ok ((10 : Int)) (w) (dst) (src) (base) (disp) (imm) (cc) (by first | rfl | decide)
  rw [show (mayX (10 : Int) w dst src base disp imm cc) = true from hm] at c0
  have c1 := @Proofs.Ytojgmjfcfpclbaa.of_any_ok ((10 : Int)) (by first | rfl | decide)
  have c2 := @Proofs.Ytojgmjfcfpclbaa.set1_ok (dst) d0 d1
  exact (Ret.of_eval (d := D.int IntKind.i64 (sh8 dst)) mixed Try.func68 (by kernel_rfl) [.ret _ _ _ c0, tF, .ret _ _ _ c1, tF, tF, tF, tT, tT, tF, .ret _ _ _ c2] (by kernel_rfl)).to (by rfl)
theorem reads_11_ok (w dst src base disp imm cc : Int) (d0 : 0 ≤ dst) (d1 : dst ≤ 15) (s0 : 0 ≤ src) (s1 : src ≤ 15) (b0 : 0 ≤ base) (b1 : base ≤ 15) (hm : mayX 11 w dst src base disp imm cc = true) : Ret Try.prog 68 ([xD 11 w dst src base disp imm cc]) (.int .i64 (readsX 11 dst src base)) := by
  have c0 := @Proofs.Ytojgmjfcfpclbaa.mayX_ok ((11 : Int)) (w) (dst) (src) (base) (disp) (imm) (cc) (by first | rfl | decide)
  rw [show (mayX (11 : Int) w dst src base disp imm cc) = true from hm] at c0
  have c1 := @Proofs.Ytojgmjfcfpclbaa.of_any_ok ((11 : Int)) (by first | rfl | decide)
  have c2 := @Proofs.Ytojgmjfcfpclbaa.set1_ok (dst) d0 d1
  exact (Ret.of_eval (d := D.int IntKind.i64 (sh8 dst)) mixed Try.func68 (by kernel_rfl) [.ret _ _ _ c0, tF, .ret _ _ _ c1, tF, tF, tF, tT, tT, tF, .ret _ _ _ c2] (by kernel_rfl)).to (by rfl)
theorem reads_12_ok (w dst src base disp imm cc : Int) (d0 : 0 ≤ dst) (d1 : dst ≤ 15) (s0 : 0 ≤ src) (s1 : src ≤ 15) (b0 : 0 ≤ base) (b1 : base ≤ 15) (hm : mayX 12 w dst src base disp imm cc = true) : Ret Try.prog 68 ([xD 12 w dst src base disp imm cc]) (.int .i64 (readsX 12 dst src base)) := by
  have c0 := @Proofs.Ytojgmjfcfpclbaa.mayX_ok ((12 : Int)) (w) (dst) (src) (base) (disp) (imm) (cc) (by first | rfl | decide)
  rw [show (mayX (12 : Int) w dst src base disp imm cc) = true from hm] at c0
  have c1 := @Proofs.Ytojgmjfcfpclbaa.of_any_ok ((12 : Int)) (by first | rfl | decide)
  have c2 := @Proofs.Ytojgmjfcfpclbaa.set1_ok (dst) d0 d1
  exact (Ret.of_eval (d := D.int IntKind.i64 (sh8 dst)) mixed Try.func68 (by kernel_rfl) [.ret _ _ _ c0, tF, .ret _ _ _ c1, tF, tF, tF, tT, tT, tF, .ret _ _ _ c2] (by kernel_rfl)).to (by rfl)
theorem reads_13_ok (w dst src base disp imm cc : Int) (d0 : 0 ≤ dst) (d1 : dst ≤ 15) (s0 : 0 ≤ src) (s1 : src ≤ 15) (b0 : 0 ≤ base) (b1 : base ≤ 15) (hm : mayX 13 w dst src base disp imm cc = true) : Ret Try.prog 68 ([xD 13 w dst src base disp imm cc]) (.int .i64 (readsX 13 dst src base)) := by
  have c0 := @Proofs.Ytojgmjfcfpclbaa.mayX_ok ((13 : Int)) (w) (dst) (src) (base) (disp) (imm) (cc) (by first | rfl | decide)
  rw [show (mayX (13 : Int) w dst src base disp imm cc) = true from hm] at c0
  have c1 := @Proofs.Ytojgmjfcfpclbaa.of_any_ok ((13 : Int)) (by first | rfl | decide)
  have c2 := @Proofs.Ytojgmjfcfpclbaa.set1_ok (dst) d0 d1
  exact (Ret.of_eval (d := D.int IntKind.i64 (sh8 dst)) mixed Try.func68 (by kernel_rfl) [.ret _ _ _ c0, tF, .ret _ _ _ c1, tF, tF, tF, tT, tT, tF, .ret _ _ _ c2] (by kernel_rfl)).to (by rfl)
theorem reads_14_ok (w dst src base disp imm cc : Int) (d0 : 0 ≤ dst) (d1 : dst ≤ 15) (s0 : 0 ≤ src) (s1 : src ≤ 15) (b0 : 0 ≤ base) (b1 : base ≤ 15) (hm : mayX 14 w dst src base disp imm cc = true) : Ret Try.prog 68 ([xD 14 w dst src base disp imm cc]) (.int .i64 (readsX 14 dst src base)) := by
  have c0 := @Proofs.Ytojgmjfcfpclbaa.mayX_ok ((14 : Int)) (w) (dst) (src) (base) (disp) (imm) (cc) (by first | rfl | decide)
  rw [show (mayX (14 : Int) w dst src base disp imm cc) = true from hm] at c0
  have c1 := @Proofs.Ytojgmjfcfpclbaa.of_any_ok ((14 : Int)) (by first | rfl | decide)
  have c2 := @Proofs.Ytojgmjfcfpclbaa.set1_ok (dst) d0 d1
  exact (Ret.of_eval (d := D.int IntKind.i64 (sh8 dst)) mixed Try.func68 (by kernel_rfl) [.ret _ _ _ c0, tF, .ret _ _ _ c1, tF, tF, tF, tT, tT, tF, .ret _ _ _ c2] (by kernel_rfl)).to (by rfl)
theorem reads_15_ok (w dst src base disp imm cc : Int) (d0 : 0 ≤ dst) (d1 : dst ≤ 15) (s0 : 0 ≤ src) (s1 : src ≤ 15) (b0 : 0 ≤ base) (b1 : base ≤ 15) (hm : mayX 15 w dst src base disp imm cc = true) : Ret Try.prog 68 ([xD 15 w dst src base disp imm cc]) (.int .i64 (readsX 15 dst src base)) := by
  have c0 := @Proofs.Ytojgmjfcfpclbaa.mayX_ok ((15 : Int)) (w) (dst) (src) (base) (disp) (imm) (cc) (by first | rfl | decide)
  rw [show (mayX (15 : Int) w dst src base disp imm cc) = true from hm] at c0
  have c1 := @Proofs.Ytojgmjfcfpclbaa.of_any_ok ((15 : Int)) (by first | rfl | decide)
  have c2 := @Proofs.Ytojgmjfcfpclbaa.set1_ok (dst) d0 d1
  exact (Ret.of_eval (d := D.int IntKind.i64 (sh8 dst)) mixed Try.func68 (by kernel_rfl) [.ret _ _ _ c0, tF, .ret _ _ _ c1, tF, tF, tF, tT, tT, tF, .ret _ _ _ c2] (by kernel_rfl)).to (by rfl)
theorem reads_16_ok (w dst src base disp imm cc : Int) (d0 : 0 ≤ dst) (d1 : dst ≤ 15) (s0 : 0 ≤ src) (s1 : src ≤ 15) (b0 : 0 ≤ base) (b1 : base ≤ 15) (hm : mayX 16 w dst src base disp imm cc = true) : Ret Try.prog 68 ([xD 16 w dst src base disp imm cc]) (.int .i64 (readsX 16 dst src base)) := by
  have c0 := @Proofs.Ytojgmjfcfpclbaa.mayX_ok ((16 : Int)) (w) (dst) (src) (base) (disp) (imm) (cc) (by first | rfl | decide)
  rw [show (mayX (16 : Int) w dst src base disp imm cc) = true from hm] at c0
  have c1 := @Proofs.Ytojgmjfcfpclbaa.of_any_ok ((16 : Int)) (by first | rfl | decide)
  have c2 := @Proofs.Ytojgmjfcfpclbaa.set2_ok (dst) d0 d1 (src) s0 s1
  exact (Ret.of_eval (d := D.int IntKind.i64 (or64 (sh8 dst) (sh8 src))) mixed Try.func68 (by kernel_rfl) [.ret _ _ _ c0, tF, .ret _ _ _ c1, tF, tT, tT, tF, .ret _ _ _ c2] (by kernel_rfl)).to (by rfl)
theorem reads_17_ok (w dst src base disp imm cc : Int) (d0 : 0 ≤ dst) (d1 : dst ≤ 15) (s0 : 0 ≤ src) (s1 : src ≤ 15) (b0 : 0 ≤ base) (b1 : base ≤ 15) (hm : mayX 17 w dst src base disp imm cc = true) : Ret Try.prog 68 ([xD 17 w dst src base disp imm cc]) (.int .i64 (readsX 17 dst src base)) := by
  have c0 := @Proofs.Ytojgmjfcfpclbaa.mayX_ok ((17 : Int)) (w) (dst) (src) (base) (disp) (imm) (cc) (by first | rfl | decide)
  rw [show (mayX (17 : Int) w dst src base disp imm cc) = true from hm] at c0
  have c1 := @Proofs.Ytojgmjfcfpclbaa.of_any_ok ((17 : Int)) (by first | rfl | decide)
  have c2 := @Proofs.Ytojgmjfcfpclbaa.set1_ok (dst) d0 d1
  exact (Ret.of_eval (d := D.int IntKind.i64 (sh8 dst)) mixed Try.func68 (by kernel_rfl) [.ret _ _ _ c0, tF, .ret _ _ _ c1, tF, tF, tF, tF, tT, tF, .ret _ _ _ c2] (by kernel_rfl)).to (by rfl)
theorem reads_18_ok (w dst src base disp imm cc : Int) (d0 : 0 ≤ dst) (d1 : dst ≤ 15) (s0 : 0 ≤ src) (s1 : src ≤ 15) (b0 : 0 ≤ base) (b1 : base ≤ 15) (hm : mayX 18 w dst src base disp imm cc = true) : Ret Try.prog 68 ([xD 18 w dst src base disp imm cc]) (.int .i64 (readsX 18 dst src base)) := by
  have c0 := @Proofs.Ytojgmjfcfpclbaa.mayX_ok ((18 : Int)) (w) (dst) (src) (base) (disp) (imm) (cc) (by first | rfl | decide)
  rw [show (mayX (18 : Int) w dst src base disp imm cc) = true from hm] at c0
  have c1 := @Proofs.Ytojgmjfcfpclbaa.of_any_ok ((18 : Int)) (by first | rfl | decide)
  have c2 := @Proofs.Ytojgmjfcfpclbaa.set1_ok (dst) d0 d1
  exact (Ret.of_eval (d := D.int IntKind.i64 (sh8 dst)) mixed Try.func68 (by kernel_rfl) [.ret _ _ _ c0, tF, .ret _ _ _ c1, tF, tF, tF, tF, tT, tF, .ret _ _ _ c2] (by kernel_rfl)).to (by rfl)
theorem reads_19_ok (w dst src base disp imm cc : Int) (d0 : 0 ≤ dst) (d1 : dst ≤ 15) (s0 : 0 ≤ src) (s1 : src ≤ 15) (b0 : 0 ≤ base) (b1 : base ≤ 15) (hm : mayX 19 w dst src base disp imm cc = true) : Ret Try.prog 68 ([xD 19 w dst src base disp imm cc]) (.int .i64 (readsX 19 dst src base)) := by
  have c0 := @Proofs.Ytojgmjfcfpclbaa.mayX_ok ((19 : Int)) (w) (dst) (src) (base) (disp) (imm) (cc) (by first | rfl | decide)
  rw [show (mayX (19 : Int) w dst src base disp imm cc) = true from hm] at c0
  have c1 := @Proofs.Ytojgmjfcfpclbaa.of_any_ok ((19 : Int)) (by first | rfl | decide)
  have c2 := @Proofs.Ytojgmjfcfpclbaa.set1_ok (dst) d0 d1
  exact (Ret.of_eval (d := D.int IntKind.i64 (sh8 dst)) mixed Try.func68 (by kernel_rfl) [.ret _ _ _ c0, tF, .ret _ _ _ c1, tF, tF, tF, tF, tT, tF, .ret _ _ _ c2] (by kernel_rfl)).to (by rfl)
theorem reads_20_ok (w dst src base disp imm cc : Int) (d0 : 0 ≤ dst) (d1 : dst ≤ 15) (s0 : 0 ≤ src) (s1 : src ≤ 15) (b0 : 0 ≤ base) (b1 : base ≤ 15) (hm : mayX 20 w dst src base disp imm cc = true) : Ret Try.prog 68 ([xD 20 w dst src base disp imm cc]) (.int .i64 (readsX 20 dst src base)) := by
  have c0 := @Proofs.Ytojgmjfcfpclbaa.mayX_ok ((20 : Int)) (w) (dst) (src) (base) (disp) (imm) (cc) (by first | rfl | decide)
  rw [show (mayX (20 : Int) w dst src base disp imm cc) = true from hm] at c0
  have c1 := @Proofs.Ytojgmjfcfpclbaa.of_any_ok ((20 : Int)) (by first | rfl | decide)
  have c2 := @Proofs.Ytojgmjfcfpclbaa.set2_ok (dst) d0 d1 ((1 : Int)) (by first | rfl | decide) (by first | rfl | decide)
  exact (Ret.of_eval (d := D.int IntKind.i64 (or64 (sh8 dst) (2 : Int))) mixed Try.func68 (by kernel_rfl) [.ret _ _ _ c0, tF, .ret _ _ _ c1, tF, tF, tF, tF, tF, tT, tF, tF, .ret _ _ _ c2] (by kernel_rfl)).to (by rfl)
theorem reads_21_ok (w dst src base disp imm cc : Int) (d0 : 0 ≤ dst) (d1 : dst ≤ 15) (s0 : 0 ≤ src) (s1 : src ≤ 15) (b0 : 0 ≤ base) (b1 : base ≤ 15) (hm : mayX 21 w dst src base disp imm cc = true) : Ret Try.prog 68 ([xD 21 w dst src base disp imm cc]) (.int .i64 (readsX 21 dst src base)) := by
  have c0 := @Proofs.Ytojgmjfcfpclbaa.mayX_ok ((21 : Int)) (w) (dst) (src) (base) (disp) (imm) (cc) (by first | rfl | decide)
  rw [show (mayX (21 : Int) w dst src base disp imm cc) = true from hm] at c0
  have c1 := @Proofs.Ytojgmjfcfpclbaa.of_any_ok ((21 : Int)) (by first | rfl | decide)
  have c2 := @Proofs.Ytojgmjfcfpclbaa.set2_ok (dst) d0 d1 ((1 : Int)) (by first | rfl | decide) (by first | rfl | decide)
  exact (Ret.of_eval (d := D.int IntKind.i64 (or64 (sh8 dst) (2 : Int))) mixed Try.func68 (by kernel_rfl) [.ret _ _ _ c0, tF, .ret _ _ _ c1, tF, tF, tF, tF, tF, tT, tF, tF, .ret _ _ _ c2] (by kernel_rfl)).to (by rfl)
theorem reads_22_ok (w dst src base disp imm cc : Int) (d0 : 0 ≤ dst) (d1 : dst ≤ 15) (s0 : 0 ≤ src) (s1 : src ≤ 15) (b0 : 0 ≤ base) (b1 : base ≤ 15) (hm : mayX 22 w dst src base disp imm cc = true) : Ret Try.prog 68 ([xD 22 w dst src base disp imm cc]) (.int .i64 (readsX 22 dst src base)) := by
  have c0 := @Proofs.Ytojgmjfcfpclbaa.mayX_ok ((22 : Int)) (w) (dst) (src) (base) (disp) (imm) (cc) (by first | rfl | decide)
  rw [show (mayX (22 : Int) w dst src base disp imm cc) = true from hm] at c0
  have c1 := @Proofs.Ytojgmjfcfpclbaa.of_any_ok ((22 : Int)) (by first | rfl | decide)
  have c2 := @Proofs.Ytojgmjfcfpclbaa.set2_ok (dst) d0 d1 ((1 : Int)) (by first | rfl | decide) (by first | rfl | decide)
  exact (Ret.of_eval (d := D.int IntKind.i64 (or64 (sh8 dst) (2 : Int))) mixed Try.func68 (by kernel_rfl) [.ret _ _ _ c0, tF, .ret _ _ _ c1, tF, tF, tF, tF, tF, tT, tF, tF, .ret _ _ _ c2] (by kernel_rfl)).to (by rfl)
theorem reads_23_ok (w dst src base disp imm cc : Int) (d0 : 0 ≤ dst) (d1 : dst ≤ 15) (s0 : 0 ≤ src) (s1 : src ≤ 15) (b0 : 0 ≤ base) (b1 : base ≤ 15) (hm : mayX 23 w dst src base disp imm cc = true) : Ret Try.prog 68 ([xD 23 w dst src base disp imm cc]) (.int .i64 (readsX 23 dst src base)) := by
  have c0 := @Proofs.Ytojgmjfcfpclbaa.mayX_ok ((23 : Int)) (w) (dst) (src) (base) (disp) (imm) (cc) (by first | rfl | decide)
  rw [show (mayX (23 : Int) w dst src base disp imm cc) = true from hm] at c0
  have c1 := @Proofs.Ytojgmjfcfpclbaa.of_any_ok ((23 : Int)) (by first | rfl | decide)
  have c2 := @Proofs.Ytojgmjfcfpclbaa.set1_ok (dst) d0 d1
  exact (Ret.of_eval (d := D.int IntKind.i64 (sh8 dst)) mixed Try.func68 (by kernel_rfl) [.ret _ _ _ c0, tF, .ret _ _ _ c1, tF, tF, tF, tF, tF, tT, tT, .ret _ _ _ c2] (by kernel_rfl)).to (by rfl)
theorem reads_24_ok (w dst src base disp imm cc : Int) (d0 : 0 ≤ dst) (d1 : dst ≤ 15) (s0 : 0 ≤ src) (s1 : src ≤ 15) (b0 : 0 ≤ base) (b1 : base ≤ 15) (hm : mayX 24 w dst src base disp imm cc = true) : Ret Try.prog 68 ([xD 24 w dst src base disp imm cc]) (.int .i64 (readsX 24 dst src base)) := by
  have c0 := @Proofs.Ytojgmjfcfpclbaa.mayX_ok ((24 : Int)) (w) (dst) (src) (base) (disp) (imm) (cc) (by first | rfl | decide)
  rw [show (mayX (24 : Int) w dst src base disp imm cc) = true from hm] at c0
  have c1 := @Proofs.Ytojgmjfcfpclbaa.of_any_ok ((24 : Int)) (by first | rfl | decide)
  have c2 := @Proofs.Ytojgmjfcfpclbaa.set3_ok (dst) d0 d1
  exact (Ret.of_eval (d := D.int IntKind.i64 (or64 (or64 (sh8 dst) (1 : Int)) (4 : Int))) mixed Try.func68 (by kernel_rfl) [.ret _ _ _ c0, tF, .ret _ _ _ c1, tF, tF, tF, tF, tF, tT, tF, tT, .ret _ _ _ c2] (by kernel_rfl)).to (by rfl)
theorem reads_25_ok (w dst src base disp imm cc : Int) (d0 : 0 ≤ dst) (d1 : dst ≤ 15) (s0 : 0 ≤ src) (s1 : src ≤ 15) (b0 : 0 ≤ base) (b1 : base ≤ 15) (hm : mayX 25 w dst src base disp imm cc = true) : Ret Try.prog 68 ([xD 25 w dst src base disp imm cc]) (.int .i64 (readsX 25 dst src base)) := by
  have c0 := @Proofs.Ytojgmjfcfpclbaa.mayX_ok ((25 : Int)) (w) (dst) (src) (base) (disp) (imm) (cc) (by first | rfl | decide)
  rw [show (mayX (25 : Int) w dst src base disp imm cc) = true from hm] at c0
  have c1 := @Proofs.Ytojgmjfcfpclbaa.of_any_ok ((25 : Int)) (by first | rfl | decide)
  have c2 := @Proofs.Ytojgmjfcfpclbaa.set2_ok (dst) d0 d1 (src) s0 s1
  exact (Ret.of_eval (d := D.int IntKind.i64 (or64 (sh8 dst) (sh8 src))) mixed Try.func68 (by kernel_rfl) [.ret _ _ _ c0, tF, .ret _ _ _ c1, tF, tF, tT, tF, .ret _ _ _ c2] (by kernel_rfl)).to (by rfl)
theorem reads_26_ok (w dst src base disp imm cc : Int) (d0 : 0 ≤ dst) (d1 : dst ≤ 15) (s0 : 0 ≤ src) (s1 : src ≤ 15) (b0 : 0 ≤ base) (b1 : base ≤ 15) (hm : mayX 26 w dst src base disp imm cc = true) : Ret Try.prog 68 ([xD 26 w dst src base disp imm cc]) (.int .i64 (readsX 26 dst src base)) := by
  have c0 := @Proofs.Ytojgmjfcfpclbaa.mayX_ok ((26 : Int)) (w) (dst) (src) (base) (disp) (imm) (cc) (by first | rfl | decide)
  rw [show (mayX (26 : Int) w dst src base disp imm cc) = true from hm] at c0
  have c1 := @Proofs.Ytojgmjfcfpclbaa.of_any_ok ((26 : Int)) (by first | rfl | decide)
  have c2 := @Proofs.Ytojgmjfcfpclbaa.set1_ok (base) b0 b1
  exact (Ret.of_eval (d := D.int IntKind.i64 (sh8 base)) mixed Try.func68 (by kernel_rfl) [.ret _ _ _ c0, tF, .ret _ _ _ c1, tF, tF, tF, tF, tF, tF, tT, .ret _ _ _ c2] (by kernel_rfl)).to (by rfl)
theorem reads_27_ok (w dst src base disp imm cc : Int) (d0 : 0 ≤ dst) (d1 : dst ≤ 15) (s0 : 0 ≤ src) (s1 : src ≤ 15) (b0 : 0 ≤ base) (b1 : base ≤ 15) (hm : mayX 27 w dst src base disp imm cc = true) : Ret Try.prog 68 ([xD 27 w dst src base disp imm cc]) (.int .i64 (readsX 27 dst src base)) := by
  have c0 := @Proofs.Ytojgmjfcfpclbaa.mayX_ok ((27 : Int)) (w) (dst) (src) (base) (disp) (imm) (cc) (by first | rfl | decide)
  rw [show (mayX (27 : Int) w dst src base disp imm cc) = true from hm] at c0
  have c1 := @Proofs.Ytojgmjfcfpclbaa.of_any_ok ((27 : Int)) (by first | rfl | decide)
  have c2 := @Proofs.Ytojgmjfcfpclbaa.set2_ok (base) b0 b1 (src) s0 s1
  exact (Ret.of_eval (d := D.int IntKind.i64 (or64 (sh8 base) (sh8 src))) mixed Try.func68 (by kernel_rfl) [.ret _ _ _ c0, tF, .ret _ _ _ c1, tF, tF, tF, tF, tF, tF, tF, tT, .ret _ _ _ c2] (by kernel_rfl)).to (by rfl)
theorem reads_28_ok (w dst src base disp imm cc : Int) (d0 : 0 ≤ dst) (d1 : dst ≤ 15) (s0 : 0 ≤ src) (s1 : src ≤ 15) (b0 : 0 ≤ base) (b1 : base ≤ 15) (hm : mayX 28 w dst src base disp imm cc = true) : Ret Try.prog 68 ([xD 28 w dst src base disp imm cc]) (.int .i64 (readsX 28 dst src base)) := by
  have c0 := @Proofs.Ytojgmjfcfpclbaa.mayX_ok ((28 : Int)) (w) (dst) (src) (base) (disp) (imm) (cc) (by first | rfl | decide)
  rw [show (mayX (28 : Int) w dst src base disp imm cc) = true from hm] at c0
  have c1 := @Proofs.Ytojgmjfcfpclbaa.of_any_ok ((28 : Int)) (by first | rfl | decide)
  exact (Ret.of_eval (d := D.int IntKind.i64 0) mixed Try.func68 (by kernel_rfl) [.ret _ _ _ c0, tF, .ret _ _ _ c1, tF, tF, tF, tF, tF, tF, tF, tF, tF] (by kernel_rfl)).to (by rfl)
theorem reads_29_ok (w dst src base disp imm cc : Int) (d0 : 0 ≤ dst) (d1 : dst ≤ 15) (s0 : 0 ≤ src) (s1 : src ≤ 15) (b0 : 0 ≤ base) (b1 : base ≤ 15) (hm : mayX 29 w dst src base disp imm cc = true) : Ret Try.prog 68 ([xD 29 w dst src base disp imm cc]) (.int .i64 (readsX 29 dst src base)) := by
  have c0 := @Proofs.Ytojgmjfcfpclbaa.mayX_ok ((29 : Int)) (w) (dst) (src) (base) (disp) (imm) (cc) (by first | rfl | decide)
  rw [show (mayX (29 : Int) w dst src base disp imm cc) = true from hm] at c0
  have c1 := @Proofs.Ytojgmjfcfpclbaa.of_any_ok ((29 : Int)) (by first | rfl | decide)
  exact (Ret.of_eval (d := D.int IntKind.i64 0) mixed Try.func68 (by kernel_rfl) [.ret _ _ _ c0, tF, .ret _ _ _ c1, tF, tF, tF, tF, tF, tF, tF, tF, tF] (by kernel_rfl)).to (by rfl)
theorem reads_30_ok (w dst src base disp imm cc : Int) (d0 : 0 ≤ dst) (d1 : dst ≤ 15) (s0 : 0 ≤ src) (s1 : src ≤ 15) (b0 : 0 ≤ base) (b1 : base ≤ 15) (hm : mayX 30 w dst src base disp imm cc = true) : Ret Try.prog 68 ([xD 30 w dst src base disp imm cc]) (.int .i64 (readsX 30 dst src base)) := by
  have c0 := @Proofs.Ytojgmjfcfpclbaa.mayX_ok ((30 : Int)) (w) (dst) (src) (base) (disp) (imm) (cc) (by first | rfl | decide)
  rw [show (mayX (30 : Int) w dst src base disp imm cc) = true from hm] at c0
  have c1 := @Proofs.Ytojgmjfcfpclbaa.of_any_ok ((30 : Int)) (by first | rfl | decide)
  have c2 := @Proofs.Ytojgmjfcfpclbaa.set2_ok ((4 : Int)) (by first | rfl | decide) (by first | rfl | decide) ((0 : Int)) (by first | rfl | decide) (by first | rfl | decide)
  exact (Ret.of_eval (d := D.int IntKind.i64 17) mixed Try.func68 (by kernel_rfl) [.ret _ _ _ c0, tF, .ret _ _ _ c1, tF, tF, tF, tF, tF, tF, tF, tF, tT, tT, .ret _ _ _ c2] (by kernel_rfl)).to (by rfl)
theorem reads_31_ok (w dst src base disp imm cc : Int) (d0 : 0 ≤ dst) (d1 : dst ≤ 15) (s0 : 0 ≤ src) (s1 : src ≤ 15) (b0 : 0 ≤ base) (b1 : base ≤ 15) (hm : mayX 31 w dst src base disp imm cc = true) : Ret Try.prog 68 ([xD 31 w dst src base disp imm cc]) (.int .i64 (readsX 31 dst src base)) := by
  have c0 := @Proofs.Ytojgmjfcfpclbaa.mayX_ok ((31 : Int)) (w) (dst) (src) (base) (disp) (imm) (cc) (by first | rfl | decide)
  rw [show (mayX (31 : Int) w dst src base disp imm cc) = true from hm] at c0
  have c1 := @Proofs.Ytojgmjfcfpclbaa.of_any_ok ((31 : Int)) (by first | rfl | decide)
  exact (Ret.of_eval (d := D.int IntKind.i64 1477) mixed Try.func68 (by kernel_rfl) ([.ret _ _ _ c0, tF, .ret _ _ _ c1, tF, tF, tF, tF, tF, tF, tF, tF, tT, tF, .inl, .go 64, tT] ++ [tT, .get ([D.int IntKind.i8 0, D.int IntKind.i8 7, D.int IntKind.i8 6, D.int IntKind.i8 2, D.int IntKind.i8 10, D.int IntKind.i8 8]) 0 (D.int IntKind.i8 0) rfl, tT, tT, tT, .get ([D.int IntKind.i8 0, D.int IntKind.i8 7, D.int IntKind.i8 6, D.int IntKind.i8 2, D.int IntKind.i8 10, D.int IntKind.i8 8]) 1 (D.int IntKind.i8 7) rfl, tT, tT, tT, .get ([D.int IntKind.i8 0, D.int IntKind.i8 7, D.int IntKind.i8 6, D.int IntKind.i8 2, D.int IntKind.i8 10, D.int IntKind.i8 8]) 2 (D.int IntKind.i8 6) rfl, tT, tT, tT, .get ([D.int IntKind.i8 0, D.int IntKind.i8 7, D.int IntKind.i8 6, D.int IntKind.i8 2, D.int IntKind.i8 10, D.int IntKind.i8 8]) 3 (D.int IntKind.i8 2) rfl, tT, tT] ++ [tT, .get ([D.int IntKind.i8 0, D.int IntKind.i8 7, D.int IntKind.i8 6, D.int IntKind.i8 2, D.int IntKind.i8 10, D.int IntKind.i8 8]) 4 (D.int IntKind.i8 10) rfl, tT, tT, tT, .get ([D.int IntKind.i8 0, D.int IntKind.i8 7, D.int IntKind.i8 6, D.int IntKind.i8 2, D.int IntKind.i8 10, D.int IntKind.i8 8]) 5 (D.int IntKind.i8 8) rfl, tT, tF]) (by kernel_rfl)).to (by rfl)
theorem reads_no_ok (op w dst src base disp imm cc : Int) (ho : op ≤ 127) (hm : mayX op w dst src base disp imm cc = false) : Ret Try.prog 68 ([xD op w dst src base disp imm cc]) (.int .i64 0) := by
  have c0 := @Proofs.Ytojgmjfcfpclbaa.mayX_ok (op) (w) (dst) (src) (base) (disp) (imm) (cc) ho
  rw [show (mayX op w dst src base disp imm cc) = false from hm] at c0
  exact (Ret.of_eval (d := D.int IntKind.i64 0) mixed Try.func68 (by kernel_rfl) [.ret _ _ _ c0, tT] (by kernel_rfl)).to (by simp [wk])
theorem writes_0_ok (w dst src base disp imm cc : Int) (d0 : 0 ≤ dst) (d1 : dst ≤ 15) (s0 : 0 ≤ src) (s1 : src ≤ 15) (b0 : 0 ≤ base) (b1 : base ≤ 15) (hm : mayX 0 w dst src base disp imm cc = true) : Ret Try.prog 69 ([xD 0 w dst src base disp imm cc]) (.int .i64 (writesX 0 dst)) := by
  have c0 := @Proofs.Ytojgmjfcfpclbaa.mayX_ok ((0 : Int)) (w) (dst) (src) (base) (disp) (imm) (cc) (by first | rfl | decide)
  rw [show (mayX (0 : Int) w dst src base disp imm cc) = true from hm] at c0
  have c1 := @Proofs.Ytojgmjfcfpclbaa.set1_ok (dst) d0 d1
  exact (Ret.of_eval (d := D.int IntKind.i64 (sh8 dst)) mixed Try.func69 (by kernel_rfl) [.ret _ _ _ c0, tF, tF, tF, tF, tF, tF, tF, tF, tF, tF, tF, .ret _ _ _ c1] (by kernel_rfl)).to (by rfl)
theorem writes_1_ok (w dst src base disp imm cc : Int) (d0 : 0 ≤ dst) (d1 : dst ≤ 15) (s0 : 0 ≤ src) (s1 : src ≤ 15) (b0 : 0 ≤ base) (b1 : base ≤ 15) (hm : mayX 1 w dst src base disp imm cc = true) : Ret Try.prog 69 ([xD 1 w dst src base disp imm cc]) (.int .i64 (writesX 1 dst)) := by
  have c0 := @Proofs.Ytojgmjfcfpclbaa.mayX_ok ((1 : Int)) (w) (dst) (src) (base) (disp) (imm) (cc) (by first | rfl | decide)
  rw [show (mayX (1 : Int) w dst src base disp imm cc) = true from hm] at c0
  have c1 := @Proofs.Ytojgmjfcfpclbaa.set1_ok (dst) d0 d1
  exact (Ret.of_eval (d := D.int IntKind.i64 (sh8 dst)) mixed Try.func69 (by kernel_rfl) [.ret _ _ _ c0, tF, tF, tF, tF, tF, tF, tF, tF, tF, tF, tF, .ret _ _ _ c1] (by kernel_rfl)).to (by rfl)
theorem writes_2_ok (w dst src base disp imm cc : Int) (d0 : 0 ≤ dst) (d1 : dst ≤ 15) (s0 : 0 ≤ src) (s1 : src ≤ 15) (b0 : 0 ≤ base) (b1 : base ≤ 15) (hm : mayX 2 w dst src base disp imm cc = true) : Ret Try.prog 69 ([xD 2 w dst src base disp imm cc]) (.int .i64 (writesX 2 dst)) := by
  have c0 := @Proofs.Ytojgmjfcfpclbaa.mayX_ok ((2 : Int)) (w) (dst) (src) (base) (disp) (imm) (cc) (by first | rfl | decide)
  rw [show (mayX (2 : Int) w dst src base disp imm cc) = true from hm] at c0
  have c1 := @Proofs.Ytojgmjfcfpclbaa.set1_ok (dst) d0 d1
  exact (Ret.of_eval (d := D.int IntKind.i64 (sh8 dst)) mixed Try.func69 (by kernel_rfl) [.ret _ _ _ c0, tF, tF, tF, tF, tF, tF, tF, tF, tF, tF, tF, .ret _ _ _ c1] (by kernel_rfl)).to (by rfl)
theorem writes_3_ok (w dst src base disp imm cc : Int) (d0 : 0 ≤ dst) (d1 : dst ≤ 15) (s0 : 0 ≤ src) (s1 : src ≤ 15) (b0 : 0 ≤ base) (b1 : base ≤ 15) (hm : mayX 3 w dst src base disp imm cc = true) : Ret Try.prog 69 ([xD 3 w dst src base disp imm cc]) (.int .i64 (writesX 3 dst)) := by
  have c0 := @Proofs.Ytojgmjfcfpclbaa.mayX_ok ((3 : Int)) (w) (dst) (src) (base) (disp) (imm) (cc) (by first | rfl | decide)
  rw [show (mayX (3 : Int) w dst src base disp imm cc) = true from hm] at c0
  have c1 := @Proofs.Ytojgmjfcfpclbaa.set1_ok (dst) d0 d1
  exact (Ret.of_eval (d := D.int IntKind.i64 (sh8 dst)) mixed Try.func69 (by kernel_rfl) [.ret _ _ _ c0, tF, tF, tF, tF, tF, tF, tF, tF, tF, tF, tF, .ret _ _ _ c1] (by kernel_rfl)).to (by rfl)
theorem writes_4_ok (w dst src base disp imm cc : Int) (d0 : 0 ≤ dst) (d1 : dst ≤ 15) (s0 : 0 ≤ src) (s1 : src ≤ 15) (b0 : 0 ≤ base) (b1 : base ≤ 15) (hm : mayX 4 w dst src base disp imm cc = true) : Ret Try.prog 69 ([xD 4 w dst src base disp imm cc]) (.int .i64 (writesX 4 dst)) := by
  have c0 := @Proofs.Ytojgmjfcfpclbaa.mayX_ok ((4 : Int)) (w) (dst) (src) (base) (disp) (imm) (cc) (by first | rfl | decide)
  rw [show (mayX (4 : Int) w dst src base disp imm cc) = true from hm] at c0
  have c1 := @Proofs.Ytojgmjfcfpclbaa.set1_ok (dst) d0 d1
  exact (Ret.of_eval (d := D.int IntKind.i64 (sh8 dst)) mixed Try.func69 (by kernel_rfl) [.ret _ _ _ c0, tF, tF, tF, tF, tF, tF, tF, tF, tF, tF, tF, .ret _ _ _ c1] (by kernel_rfl)).to (by rfl)
theorem writes_5_ok (w dst src base disp imm cc : Int) (d0 : 0 ≤ dst) (d1 : dst ≤ 15) (s0 : 0 ≤ src) (s1 : src ≤ 15) (b0 : 0 ≤ base) (b1 : base ≤ 15) (hm : mayX 5 w dst src base disp imm cc = true) : Ret Try.prog 69 ([xD 5 w dst src base disp imm cc]) (.int .i64 (writesX 5 dst)) := by
  have c0 := @Proofs.Ytojgmjfcfpclbaa.mayX_ok ((5 : Int)) (w) (dst) (src) (base) (disp) (imm) (cc) (by first | rfl | decide)
  rw [show (mayX (5 : Int) w dst src base disp imm cc) = true from hm] at c0
  have c1 := @Proofs.Ytojgmjfcfpclbaa.set1_ok (dst) d0 d1
  exact (Ret.of_eval (d := D.int IntKind.i64 (sh8 dst)) mixed Try.func69 (by kernel_rfl) [.ret _ _ _ c0, tF, tF, tF, tF, tF, tF, tF, tF, tF, tF, tF, .ret _ _ _ c1] (by kernel_rfl)).to (by rfl)
theorem writes_6_ok (w dst src base disp imm cc : Int) (d0 : 0 ≤ dst) (d1 : dst ≤ 15) (s0 : 0 ≤ src) (s1 : src ≤ 15) (b0 : 0 ≤ base) (b1 : base ≤ 15) (hm : mayX 6 w dst src base disp imm cc = true) : Ret Try.prog 69 ([xD 6 w dst src base disp imm cc]) (.int .i64 (writesX 6 dst)) := by
  have c0 := @Proofs.Ytojgmjfcfpclbaa.mayX_ok ((6 : Int)) (w) (dst) (src) (base) (disp) (imm) (cc) (by first | rfl | decide)
  rw [show (mayX (6 : Int) w dst src base disp imm cc) = true from hm] at c0
  have c1 := @Proofs.Ytojgmjfcfpclbaa.set1_ok (dst) d0 d1
  exact (Ret.of_eval (d := D.int IntKind.i64 (sh8 dst)) mixed Try.func69 (by kernel_rfl) [.ret _ _ _ c0, tF, tF, tF, tF, tF, tF, tF, tF, tF, tF, tF, .ret _ _ _ c1] (by kernel_rfl)).to (by rfl)
theorem writes_7_ok (w dst src base disp imm cc : Int) (d0 : 0 ≤ dst) (d1 : dst ≤ 15) (s0 : 0 ≤ src) (s1 : src ≤ 15) (b0 : 0 ≤ base) (b1 : base ≤ 15) (hm : mayX 7 w dst src base disp imm cc = true) : Ret Try.prog 69 ([xD 7 w dst src base disp imm cc]) (.int .i64 (writesX 7 dst)) := by
  have c0 := @Proofs.Ytojgmjfcfpclbaa.mayX_ok ((7 : Int)) (w) (dst) (src) (base) (disp) (imm) (cc) (by first | rfl | decide)
  rw [show (mayX (7 : Int) w dst src base disp imm cc) = true from hm] at c0
  exact (Ret.of_eval (d := D.int IntKind.i64 0) mixed Try.func69 (by kernel_rfl) [.ret _ _ _ c0, tF, tT, tT] (by kernel_rfl)).to (by rfl)
theorem writes_8_ok (w dst src base disp imm cc : Int) (d0 : 0 ≤ dst) (d1 : dst ≤ 15) (s0 : 0 ≤ src) (s1 : src ≤ 15) (b0 : 0 ≤ base) (b1 : base ≤ 15) (hm : mayX 8 w dst src base disp imm cc = true) : Ret Try.prog 69 ([xD 8 w dst src base disp imm cc]) (.int .i64 (writesX 8 dst)) := by
  have c0 := @Proofs.Ytojgmjfcfpclbaa.mayX_ok ((8 : Int)) (w) (dst) (src) (base) (disp) (imm) (cc) (by first | rfl | decide)
  rw [show (mayX (8 : Int) w dst src base disp imm cc) = true from hm] at c0
  exact (Ret.of_eval (d := D.int IntKind.i64 0) mixed Try.func69 (by kernel_rfl) [.ret _ _ _ c0, tF, tF, tT, tT] (by kernel_rfl)).to (by rfl)
theorem writes_9_ok (w dst src base disp imm cc : Int) (d0 : 0 ≤ dst) (d1 : dst ≤ 15) (s0 : 0 ≤ src) (s1 : src ≤ 15) (b0 : 0 ≤ base) (b1 : base ≤ 15) (hm : mayX 9 w dst src base disp imm cc = true) : Ret Try.prog 69 ([xD 9 w dst src base disp imm cc]) (.int .i64 (writesX 9 dst)) := by
  have c0 := @Proofs.Ytojgmjfcfpclbaa.mayX_ok ((9 : Int)) (w) (dst) (src) (base) (disp) (imm) (cc) (by first | rfl | decide)
  rw [show (mayX (9 : Int) w dst src base disp imm cc) = true from hm] at c0
  have c1 := @Proofs.Ytojgmjfcfpclbaa.set1_ok (dst) d0 d1
  exact (Ret.of_eval (d := D.int IntKind.i64 (sh8 dst)) mixed Try.func69 (by kernel_rfl) [.ret _ _ _ c0, tF, tF, tF, tF, tF, tF, tF, tF, tF, tF, tF, .ret _ _ _ c1] (by kernel_rfl)).to (by rfl)
theorem writes_10_ok (w dst src base disp imm cc : Int) (d0 : 0 ≤ dst) (d1 : dst ≤ 15) (s0 : 0 ≤ src) (s1 : src ≤ 15) (b0 : 0 ≤ base) (b1 : base ≤ 15) (hm : mayX 10 w dst src base disp imm cc = true) : Ret Try.prog 69 ([xD 10 w dst src base disp imm cc]) (.int .i64 (writesX 10 dst)) := by
  have c0 := @Proofs.Ytojgmjfcfpclbaa.mayX_ok ((10 : Int)) (w) (dst) (src) (base) (disp) (imm) (cc) (by first | rfl | decide)
  rw [show (mayX (10 : Int) w dst src base disp imm cc) = true from hm] at c0
  have c1 := @Proofs.Ytojgmjfcfpclbaa.set1_ok (dst) d0 d1
  exact (Ret.of_eval (d := D.int IntKind.i64 (sh8 dst)) mixed Try.func69 (by kernel_rfl) [.ret _ _ _ c0, tF, tF, tF, tF, tF, tF, tF, tF, tF, tF, tF, .ret _ _ _ c1] (by kernel_rfl)).to (by rfl)
theorem writes_11_ok (w dst src base disp imm cc : Int) (d0 : 0 ≤ dst) (d1 : dst ≤ 15) (s0 : 0 ≤ src) (s1 : src ≤ 15) (b0 : 0 ≤ base) (b1 : base ≤ 15) (hm : mayX 11 w dst src base disp imm cc = true) : Ret Try.prog 69 ([xD 11 w dst src base disp imm cc]) (.int .i64 (writesX 11 dst)) := by
  have c0 := @Proofs.Ytojgmjfcfpclbaa.mayX_ok ((11 : Int)) (w) (dst) (src) (base) (disp) (imm) (cc) (by first | rfl | decide)
  rw [show (mayX (11 : Int) w dst src base disp imm cc) = true from hm] at c0
  have c1 := @Proofs.Ytojgmjfcfpclbaa.set1_ok (dst) d0 d1
  exact (Ret.of_eval (d := D.int IntKind.i64 (sh8 dst)) mixed Try.func69 (by kernel_rfl) [.ret _ _ _ c0, tF, tF, tF, tF, tF, tF, tF, tF, tF, tF, tF, .ret _ _ _ c1] (by kernel_rfl)).to (by rfl)
theorem writes_12_ok (w dst src base disp imm cc : Int) (d0 : 0 ≤ dst) (d1 : dst ≤ 15) (s0 : 0 ≤ src) (s1 : src ≤ 15) (b0 : 0 ≤ base) (b1 : base ≤ 15) (hm : mayX 12 w dst src base disp imm cc = true) : Ret Try.prog 69 ([xD 12 w dst src base disp imm cc]) (.int .i64 (writesX 12 dst)) := by
  have c0 := @Proofs.Ytojgmjfcfpclbaa.mayX_ok ((12 : Int)) (w) (dst) (src) (base) (disp) (imm) (cc) (by first | rfl | decide)
  rw [show (mayX (12 : Int) w dst src base disp imm cc) = true from hm] at c0
  have c1 := @Proofs.Ytojgmjfcfpclbaa.set1_ok (dst) d0 d1
  exact (Ret.of_eval (d := D.int IntKind.i64 (sh8 dst)) mixed Try.func69 (by kernel_rfl) [.ret _ _ _ c0, tF, tF, tF, tF, tF, tF, tF, tF, tF, tF, tF, .ret _ _ _ c1] (by kernel_rfl)).to (by rfl)
theorem writes_13_ok (w dst src base disp imm cc : Int) (d0 : 0 ≤ dst) (d1 : dst ≤ 15) (s0 : 0 ≤ src) (s1 : src ≤ 15) (b0 : 0 ≤ base) (b1 : base ≤ 15) (hm : mayX 13 w dst src base disp imm cc = true) : Ret Try.prog 69 ([xD 13 w dst src base disp imm cc]) (.int .i64 (writesX 13 dst)) := by
  have c0 := @Proofs.Ytojgmjfcfpclbaa.mayX_ok ((13 : Int)) (w) (dst) (src) (base) (disp) (imm) (cc) (by first | rfl | decide)
  rw [show (mayX (13 : Int) w dst src base disp imm cc) = true from hm] at c0
  have c1 := @Proofs.Ytojgmjfcfpclbaa.set1_ok (dst) d0 d1
  exact (Ret.of_eval (d := D.int IntKind.i64 (sh8 dst)) mixed Try.func69 (by kernel_rfl) [.ret _ _ _ c0, tF, tF, tF, tF, tF, tF, tF, tF, tF, tF, tF, .ret _ _ _ c1] (by kernel_rfl)).to (by rfl)
theorem writes_14_ok (w dst src base disp imm cc : Int) (d0 : 0 ≤ dst) (d1 : dst ≤ 15) (s0 : 0 ≤ src) (s1 : src ≤ 15) (b0 : 0 ≤ base) (b1 : base ≤ 15) (hm : mayX 14 w dst src base disp imm cc = true) : Ret Try.prog 69 ([xD 14 w dst src base disp imm cc]) (.int .i64 (writesX 14 dst)) := by
  have c0 := @Proofs.Ytojgmjfcfpclbaa.mayX_ok ((14 : Int)) (w) (dst) (src) (base) (disp) (imm) (cc) (by first | rfl | decide)
  rw [show (mayX (14 : Int) w dst src base disp imm cc) = true from hm] at c0
  exact (Ret.of_eval (d := D.int IntKind.i64 0) mixed Try.func69 (by kernel_rfl) [.ret _ _ _ c0, tF, tF, tF, tT, tT] (by kernel_rfl)).to (by rfl)
theorem writes_15_ok (w dst src base disp imm cc : Int) (d0 : 0 ≤ dst) (d1 : dst ≤ 15) (s0 : 0 ≤ src) (s1 : src ≤ 15) (b0 : 0 ≤ base) (b1 : base ≤ 15) (hm : mayX 15 w dst src base disp imm cc = true) : Ret Try.prog 69 ([xD 15 w dst src base disp imm cc]) (.int .i64 (writesX 15 dst)) := by
  have c0 := @Proofs.Ytojgmjfcfpclbaa.mayX_ok ((15 : Int)) (w) (dst) (src) (base) (disp) (imm) (cc) (by first | rfl | decide)
  rw [show (mayX (15 : Int) w dst src base disp imm cc) = true from hm] at c0
  exact (Ret.of_eval (d := D.int IntKind.i64 0) mixed Try.func69 (by kernel_rfl) [.ret _ _ _ c0, tF, tF, tF, tF, tT, tT] (by kernel_rfl)).to (by rfl)
theorem writes_16_ok (w dst src base disp imm cc : Int) (d0 : 0 ≤ dst) (d1 : dst ≤ 15) (s0 : 0 ≤ src) (s1 : src ≤ 15) (b0 : 0 ≤ base) (b1 : base ≤ 15) (hm : mayX 16 w dst src base disp imm cc = true) : Ret Try.prog 69 ([xD 16 w dst src base disp imm cc]) (.int .i64 (writesX 16 dst)) := by
  have c0 := @Proofs.Ytojgmjfcfpclbaa.mayX_ok ((16 : Int)) (w) (dst) (src) (base) (disp) (imm) (cc) (by first | rfl | decide)
  rw [show (mayX (16 : Int) w dst src base disp imm cc) = true from hm] at c0
  have c1 := @Proofs.Ytojgmjfcfpclbaa.set1_ok (dst) d0 d1
  exact (Ret.of_eval (d := D.int IntKind.i64 (sh8 dst)) mixed Try.func69 (by kernel_rfl) [.ret _ _ _ c0, tF, tF, tF, tF, tF, tF, tF, tF, tF, tF, tF, .ret _ _ _ c1] (by kernel_rfl)).to (by rfl)
theorem writes_17_ok (w dst src base disp imm cc : Int) (d0 : 0 ≤ dst) (d1 : dst ≤ 15) (s0 : 0 ≤ src) (s1 : src ≤ 15) (b0 : 0 ≤ base) (b1 : base ≤ 15) (hm : mayX 17 w dst src base disp imm cc = true) : Ret Try.prog 69 ([xD 17 w dst src base disp imm cc]) (.int .i64 (writesX 17 dst)) := by
  have c0 := @Proofs.Ytojgmjfcfpclbaa.mayX_ok ((17 : Int)) (w) (dst) (src) (base) (disp) (imm) (cc) (by first | rfl | decide)
  rw [show (mayX (17 : Int) w dst src base disp imm cc) = true from hm] at c0
  have c1 := @Proofs.Ytojgmjfcfpclbaa.set1_ok (dst) d0 d1
  exact (Ret.of_eval (d := D.int IntKind.i64 (sh8 dst)) mixed Try.func69 (by kernel_rfl) [.ret _ _ _ c0, tF, tF, tF, tF, tF, tF, tF, tF, tF, tF, tF, .ret _ _ _ c1] (by kernel_rfl)).to (by rfl)
theorem writes_18_ok (w dst src base disp imm cc : Int) (d0 : 0 ≤ dst) (d1 : dst ≤ 15) (s0 : 0 ≤ src) (s1 : src ≤ 15) (b0 : 0 ≤ base) (b1 : base ≤ 15) (hm : mayX 18 w dst src base disp imm cc = true) : Ret Try.prog 69 ([xD 18 w dst src base disp imm cc]) (.int .i64 (writesX 18 dst)) := by
  have c0 := @Proofs.Ytojgmjfcfpclbaa.mayX_ok ((18 : Int)) (w) (dst) (src) (base) (disp) (imm) (cc) (by first | rfl | decide)
  rw [show (mayX (18 : Int) w dst src base disp imm cc) = true from hm] at c0
  have c1 := @Proofs.Ytojgmjfcfpclbaa.set1_ok (dst) d0 d1
  exact (Ret.of_eval (d := D.int IntKind.i64 (sh8 dst)) mixed Try.func69 (by kernel_rfl) [.ret _ _ _ c0, tF, tF, tF, tF, tF, tF, tF, tF, tF, tF, tF, .ret _ _ _ c1] (by kernel_rfl)).to (by rfl)
theorem writes_19_ok (w dst src base disp imm cc : Int) (d0 : 0 ≤ dst) (d1 : dst ≤ 15) (s0 : 0 ≤ src) (s1 : src ≤ 15) (b0 : 0 ≤ base) (b1 : base ≤ 15) (hm : mayX 19 w dst src base disp imm cc = true) : Ret Try.prog 69 ([xD 19 w dst src base disp imm cc]) (.int .i64 (writesX 19 dst)) := by
  have c0 := @Proofs.Ytojgmjfcfpclbaa.mayX_ok ((19 : Int)) (w) (dst) (src) (base) (disp) (imm) (cc) (by first | rfl | decide)
  rw [show (mayX (19 : Int) w dst src base disp imm cc) = true from hm] at c0
  have c1 := @Proofs.Ytojgmjfcfpclbaa.set1_ok (dst) d0 d1
  exact (Ret.of_eval (d := D.int IntKind.i64 (sh8 dst)) mixed Try.func69 (by kernel_rfl) [.ret _ _ _ c0, tF, tF, tF, tF, tF, tF, tF, tF, tF, tF, tF, .ret _ _ _ c1] (by kernel_rfl)).to (by rfl)
theorem writes_20_ok (w dst src base disp imm cc : Int) (d0 : 0 ≤ dst) (d1 : dst ≤ 15) (s0 : 0 ≤ src) (s1 : src ≤ 15) (b0 : 0 ≤ base) (b1 : base ≤ 15) (hm : mayX 20 w dst src base disp imm cc = true) : Ret Try.prog 69 ([xD 20 w dst src base disp imm cc]) (.int .i64 (writesX 20 dst)) := by
  have c0 := @Proofs.Ytojgmjfcfpclbaa.mayX_ok ((20 : Int)) (w) (dst) (src) (base) (disp) (imm) (cc) (by first | rfl | decide)
  rw [show (mayX (20 : Int) w dst src base disp imm cc) = true from hm] at c0
  have c1 := @Proofs.Ytojgmjfcfpclbaa.set1_ok (dst) d0 d1
  exact (Ret.of_eval (d := D.int IntKind.i64 (sh8 dst)) mixed Try.func69 (by kernel_rfl) [.ret _ _ _ c0, tF, tF, tF, tF, tF, tF, tF, tF, tF, tF, tF, .ret _ _ _ c1] (by kernel_rfl)).to (by rfl)
theorem writes_21_ok (w dst src base disp imm cc : Int) (d0 : 0 ≤ dst) (d1 : dst ≤ 15) (s0 : 0 ≤ src) (s1 : src ≤ 15) (b0 : 0 ≤ base) (b1 : base ≤ 15) (hm : mayX 21 w dst src base disp imm cc = true) : Ret Try.prog 69 ([xD 21 w dst src base disp imm cc]) (.int .i64 (writesX 21 dst)) := by
  have c0 := @Proofs.Ytojgmjfcfpclbaa.mayX_ok ((21 : Int)) (w) (dst) (src) (base) (disp) (imm) (cc) (by first | rfl | decide)
  rw [show (mayX (21 : Int) w dst src base disp imm cc) = true from hm] at c0
  have c1 := @Proofs.Ytojgmjfcfpclbaa.set1_ok (dst) d0 d1
  exact (Ret.of_eval (d := D.int IntKind.i64 (sh8 dst)) mixed Try.func69 (by kernel_rfl) [.ret _ _ _ c0, tF, tF, tF, tF, tF, tF, tF, tF, tF, tF, tF, .ret _ _ _ c1] (by kernel_rfl)).to (by rfl)
theorem writes_22_ok (w dst src base disp imm cc : Int) (d0 : 0 ≤ dst) (d1 : dst ≤ 15) (s0 : 0 ≤ src) (s1 : src ≤ 15) (b0 : 0 ≤ base) (b1 : base ≤ 15) (hm : mayX 22 w dst src base disp imm cc = true) : Ret Try.prog 69 ([xD 22 w dst src base disp imm cc]) (.int .i64 (writesX 22 dst)) := by
  have c0 := @Proofs.Ytojgmjfcfpclbaa.mayX_ok ((22 : Int)) (w) (dst) (src) (base) (disp) (imm) (cc) (by first | rfl | decide)
  rw [show (mayX (22 : Int) w dst src base disp imm cc) = true from hm] at c0
  have c1 := @Proofs.Ytojgmjfcfpclbaa.set1_ok (dst) d0 d1
  exact (Ret.of_eval (d := D.int IntKind.i64 (sh8 dst)) mixed Try.func69 (by kernel_rfl) [.ret _ _ _ c0, tF, tF, tF, tF, tF, tF, tF, tF, tF, tF, tF, .ret _ _ _ c1] (by kernel_rfl)).to (by rfl)
theorem writes_23_ok (w dst src base disp imm cc : Int) (d0 : 0 ≤ dst) (d1 : dst ≤ 15) (s0 : 0 ≤ src) (s1 : src ≤ 15) (b0 : 0 ≤ base) (b1 : base ≤ 15) (hm : mayX 23 w dst src base disp imm cc = true) : Ret Try.prog 69 ([xD 23 w dst src base disp imm cc]) (.int .i64 (writesX 23 dst)) := by
  have c0 := @Proofs.Ytojgmjfcfpclbaa.mayX_ok ((23 : Int)) (w) (dst) (src) (base) (disp) (imm) (cc) (by first | rfl | decide)
  rw [show (mayX (23 : Int) w dst src base disp imm cc) = true from hm] at c0
  have c1 := @Proofs.Ytojgmjfcfpclbaa.set1_ok (dst) d0 d1
  exact (Ret.of_eval (d := D.int IntKind.i64 (sh8 dst)) mixed Try.func69 (by kernel_rfl) [.ret _ _ _ c0, tF, tF, tF, tF, tF, tF, tF, tF, tF, tF, tF, .ret _ _ _ c1] (by kernel_rfl)).to (by rfl)
theorem writes_24_ok (w dst src base disp imm cc : Int) (d0 : 0 ≤ dst) (d1 : dst ≤ 15) (s0 : 0 ≤ src) (s1 : src ≤ 15) (b0 : 0 ≤ base) (b1 : base ≤ 15) (hm : mayX 24 w dst src base disp imm cc = true) : Ret Try.prog 69 ([xD 24 w dst src base disp imm cc]) (.int .i64 (writesX 24 dst)) := by
  have c0 := @Proofs.Ytojgmjfcfpclbaa.mayX_ok ((24 : Int)) (w) (dst) (src) (base) (disp) (imm) (cc) (by first | rfl | decide)
  rw [show (mayX (24 : Int) w dst src base disp imm cc) = true from hm] at c0
  have c1 := @Proofs.Ytojgmjfcfpclbaa.set2_ok ((0 : Int)) (by first | rfl | decide) (by first | rfl | decide) ((2 : Int)) (by first | rfl | decide) (by first | rfl | decide)
  exact (Ret.of_eval (d := D.int IntKind.i64 5) mixed Try.func69 (by kernel_rfl) [.ret _ _ _ c0, tF, tF, tF, tF, tF, tF, tF, tF, tT, .ret _ _ _ c1] (by kernel_rfl)).to (by rfl)
theorem writes_25_ok (w dst src base disp imm cc : Int) (d0 : 0 ≤ dst) (d1 : dst ≤ 15) (s0 : 0 ≤ src) (s1 : src ≤ 15) (b0 : 0 ≤ base) (b1 : base ≤ 15) (hm : mayX 25 w dst src base disp imm cc = true) : Ret Try.prog 69 ([xD 25 w dst src base disp imm cc]) (.int .i64 (writesX 25 dst)) := by
  have c0 := @Proofs.Ytojgmjfcfpclbaa.mayX_ok ((25 : Int)) (w) (dst) (src) (base) (disp) (imm) (cc) (by first | rfl | decide)
  rw [show (mayX (25 : Int) w dst src base disp imm cc) = true from hm] at c0
  have c1 := @Proofs.Ytojgmjfcfpclbaa.set1_ok (dst) d0 d1
  exact (Ret.of_eval (d := D.int IntKind.i64 (sh8 dst)) mixed Try.func69 (by kernel_rfl) [.ret _ _ _ c0, tF, tF, tF, tF, tF, tF, tF, tF, tF, tF, tF, .ret _ _ _ c1] (by kernel_rfl)).to (by rfl)
theorem writes_26_ok (w dst src base disp imm cc : Int) (d0 : 0 ≤ dst) (d1 : dst ≤ 15) (s0 : 0 ≤ src) (s1 : src ≤ 15) (b0 : 0 ≤ base) (b1 : base ≤ 15) (hm : mayX 26 w dst src base disp imm cc = true) : Ret Try.prog 69 ([xD 26 w dst src base disp imm cc]) (.int .i64 (writesX 26 dst)) := by
  have c0 := @Proofs.Ytojgmjfcfpclbaa.mayX_ok ((26 : Int)) (w) (dst) (src) (base) (disp) (imm) (cc) (by first | rfl | decide)
  rw [show (mayX (26 : Int) w dst src base disp imm cc) = true from hm] at c0
  have c1 := @Proofs.Ytojgmjfcfpclbaa.set1_ok (dst) d0 d1
  exact (Ret.of_eval (d := D.int IntKind.i64 (sh8 dst)) mixed Try.func69 (by kernel_rfl) [.ret _ _ _ c0, tF, tF, tF, tF, tF, tF, tF, tF, tF, tF, tF, .ret _ _ _ c1] (by kernel_rfl)).to (by rfl)
theorem writes_27_ok (w dst src base disp imm cc : Int) (d0 : 0 ≤ dst) (d1 : dst ≤ 15) (s0 : 0 ≤ src) (s1 : src ≤ 15) (b0 : 0 ≤ base) (b1 : base ≤ 15) (hm : mayX 27 w dst src base disp imm cc = true) : Ret Try.prog 69 ([xD 27 w dst src base disp imm cc]) (.int .i64 (writesX 27 dst)) := by
  have c0 := @Proofs.Ytojgmjfcfpclbaa.mayX_ok ((27 : Int)) (w) (dst) (src) (base) (disp) (imm) (cc) (by first | rfl | decide)
  rw [show (mayX (27 : Int) w dst src base disp imm cc) = true from hm] at c0
  exact (Ret.of_eval (d := D.int IntKind.i64 0) mixed Try.func69 (by kernel_rfl) [.ret _ _ _ c0, tF, tF, tF, tF, tF, tT, tT] (by kernel_rfl)).to (by rfl)
theorem writes_28_ok (w dst src base disp imm cc : Int) (d0 : 0 ≤ dst) (d1 : dst ≤ 15) (s0 : 0 ≤ src) (s1 : src ≤ 15) (b0 : 0 ≤ base) (b1 : base ≤ 15) (hm : mayX 28 w dst src base disp imm cc = true) : Ret Try.prog 69 ([xD 28 w dst src base disp imm cc]) (.int .i64 (writesX 28 dst)) := by
  have c0 := @Proofs.Ytojgmjfcfpclbaa.mayX_ok ((28 : Int)) (w) (dst) (src) (base) (disp) (imm) (cc) (by first | rfl | decide)
  rw [show (mayX (28 : Int) w dst src base disp imm cc) = true from hm] at c0
  exact (Ret.of_eval (d := D.int IntKind.i64 0) mixed Try.func69 (by kernel_rfl) [.ret _ _ _ c0, tF, tF, tF, tF, tF, tF, tT, tT] (by kernel_rfl)).to (by rfl)
theorem writes_29_ok (w dst src base disp imm cc : Int) (d0 : 0 ≤ dst) (d1 : dst ≤ 15) (s0 : 0 ≤ src) (s1 : src ≤ 15) (b0 : 0 ≤ base) (b1 : base ≤ 15) (hm : mayX 29 w dst src base disp imm cc = true) : Ret Try.prog 69 ([xD 29 w dst src base disp imm cc]) (.int .i64 (writesX 29 dst)) := by
  have c0 := @Proofs.Ytojgmjfcfpclbaa.mayX_ok ((29 : Int)) (w) (dst) (src) (base) (disp) (imm) (cc) (by first | rfl | decide)
  rw [show (mayX (29 : Int) w dst src base disp imm cc) = true from hm] at c0
  exact (Ret.of_eval (d := D.int IntKind.i64 0) mixed Try.func69 (by kernel_rfl) [.ret _ _ _ c0, tF, tF, tF, tF, tF, tF, tF, tT] (by kernel_rfl)).to (by rfl)
theorem writes_30_ok (w dst src base disp imm cc : Int) (d0 : 0 ≤ dst) (d1 : dst ≤ 15) (s0 : 0 ≤ src) (s1 : src ≤ 15) (b0 : 0 ≤ base) (b1 : base ≤ 15) (hm : mayX 30 w dst src base disp imm cc = true) : Ret Try.prog 69 ([xD 30 w dst src base disp imm cc]) (.int .i64 (writesX 30 dst)) := by
  have c0 := @Proofs.Ytojgmjfcfpclbaa.mayX_ok ((30 : Int)) (w) (dst) (src) (base) (disp) (imm) (cc) (by first | rfl | decide)
  rw [show (mayX (30 : Int) w dst src base disp imm cc) = true from hm] at c0
  have c1 := @Proofs.Ytojgmjfcfpclbaa.set1_ok ((4 : Int)) (by first | rfl | decide) (by first | rfl | decide)
  exact (Ret.of_eval (d := D.int IntKind.i64 16) mixed Try.func69 (by kernel_rfl) [.ret _ _ _ c0, tF, tF, tF, tF, tF, tF, tF, tF, tF, tT, .ret _ _ _ c1] (by kernel_rfl)).to (by rfl)
theorem writes_31_ok (w dst src base disp imm cc : Int) (d0 : 0 ≤ dst) (d1 : dst ≤ 15) (s0 : 0 ≤ src) (s1 : src ≤ 15) (b0 : 0 ≤ base) (b1 : base ≤ 15) (hm : mayX 31 w dst src base disp imm cc = true) : Ret Try.prog 69 ([xD 31 w dst src base disp imm cc]) (.int .i64 (writesX 31 dst)) := by
  have c0 := @Proofs.Ytojgmjfcfpclbaa.mayX_ok ((31 : Int)) (w) (dst) (src) (base) (disp) (imm) (cc) (by first | rfl | decide)
  rw [show (mayX (31 : Int) w dst src base disp imm cc) = true from hm] at c0
  exact (Ret.of_eval (d := D.int IntKind.i64 2051) mixed Try.func69 (by kernel_rfl) ([.ret _ _ _ c0, tF, tF, tF, tF, tF, tF, tF, tF, tF, tF, tT, .inl, .go 64, tT, tT] ++ [.get ([D.int IntKind.i8 0, D.int IntKind.i8 1, D.int IntKind.i8 11]) 0 (D.int IntKind.i8 0) rfl, tT, tT, tT, .get ([D.int IntKind.i8 0, D.int IntKind.i8 1, D.int IntKind.i8 11]) 1 (D.int IntKind.i8 1) rfl, tT, tT, tT, .get ([D.int IntKind.i8 0, D.int IntKind.i8 1, D.int IntKind.i8 11]) 2 (D.int IntKind.i8 11) rfl, tT, tF]) (by kernel_rfl)).to (by rfl)
theorem writes_no_ok (op w dst src base disp imm cc : Int) (ho : op ≤ 127) (hm : mayX op w dst src base disp imm cc = false) : Ret Try.prog 69 ([xD op w dst src base disp imm cc]) (.int .i64 0) := by
  have c0 := @Proofs.Ytojgmjfcfpclbaa.mayX_ok (op) (w) (dst) (src) (base) (disp) (imm) (cc) ho
  rw [show (mayX op w dst src base disp imm cc) = false from hm] at c0
  exact (Ret.of_eval (d := D.int IntKind.i64 0) mixed Try.func69 (by kernel_rfl) [.ret _ _ _ c0, tT] (by kernel_rfl)).to (by simp [wk])
end Go.Proofs.Ytojgmjfcfpclbaa

namespace Go.Proofs.Ytojgmjfcfpclbaa
open Go Go.Ev
theorem mayX_sh {op w dst src base disp imm cc : Int} (h : mayX op w dst src base disp imm cc = true) : shapeM op ≠ 0 := by
  have hs := (mayX_parts h).2
  intro e
  rw [e] at hs
  simp [mayS] at hs
theorem reads_any_ok (op w dst src base disp imm cc : Int) (ho : op ≤ 127) : Ret Try.prog 68 [xD op w dst src base disp imm cc] (.int .i64 (readsXX op w dst src base disp imm cc)) := by
  unfold readsXX
  cases h : mayX op w dst src base disp imm cc
  · simp only [Bool.false_eq_true, if_false]
    exact reads_no_ok op w dst src base disp imm cc ho h
  · simp only [if_true]
    obtain ⟨⟨d0, d1, s0, s1, b0, b1, p0, p1, i0, i1⟩, hs⟩ := mayX_parts h
    have hsh := mayX_sh h
    clear hs
    rcases shape_ops hsh with rfl | rfl | rfl | rfl | rfl | rfl | rfl | rfl | rfl | rfl | rfl | rfl | rfl | rfl | rfl | rfl | rfl | rfl | rfl | rfl | rfl | rfl | rfl | rfl | rfl | rfl | rfl | rfl | rfl | rfl | rfl | rfl
    · exact reads_0_ok _ _ _ _ _ _ _ d0 d1 s0 s1 b0 b1 h
    · exact reads_1_ok _ _ _ _ _ _ _ d0 d1 s0 s1 b0 b1 h
    · exact reads_2_ok _ _ _ _ _ _ _ d0 d1 s0 s1 b0 b1 h
    · exact reads_3_ok _ _ _ _ _ _ _ d0 d1 s0 s1 b0 b1 h
    · exact reads_4_ok _ _ _ _ _ _ _ d0 d1 s0 s1 b0 b1 h
    · exact reads_5_ok _ _ _ _ _ _ _ d0 d1 s0 s1 b0 b1 h
    · exact reads_6_ok _ _ _ _ _ _ _ d0 d1 s0 s1 b0 b1 h
    · exact reads_7_ok _ _ _ _ _ _ _ d0 d1 s0 s1 b0 b1 h
    · exact reads_8_ok _ _ _ _ _ _ _ d0 d1 s0 s1 b0 b1 h
    · exact reads_9_ok _ _ _ _ _ _ _ d0 d1 s0 s1 b0 b1 h
    · exact reads_10_ok _ _ _ _ _ _ _ d0 d1 s0 s1 b0 b1 h
    · exact reads_11_ok _ _ _ _ _ _ _ d0 d1 s0 s1 b0 b1 h
    · exact reads_12_ok _ _ _ _ _ _ _ d0 d1 s0 s1 b0 b1 h
    · exact reads_13_ok _ _ _ _ _ _ _ d0 d1 s0 s1 b0 b1 h
    · exact reads_14_ok _ _ _ _ _ _ _ d0 d1 s0 s1 b0 b1 h
    · exact reads_15_ok _ _ _ _ _ _ _ d0 d1 s0 s1 b0 b1 h
    · exact reads_16_ok _ _ _ _ _ _ _ d0 d1 s0 s1 b0 b1 h
    · exact reads_17_ok _ _ _ _ _ _ _ d0 d1 s0 s1 b0 b1 h
    · exact reads_18_ok _ _ _ _ _ _ _ d0 d1 s0 s1 b0 b1 h
    · exact reads_19_ok _ _ _ _ _ _ _ d0 d1 s0 s1 b0 b1 h
    · exact reads_20_ok _ _ _ _ _ _ _ d0 d1 s0 s1 b0 b1 h
    · exact reads_21_ok _ _ _ _ _ _ _ d0 d1 s0 s1 b0 b1 h
    · exact reads_22_ok _ _ _ _ _ _ _ d0 d1 s0 s1 b0 b1 h
    · exact reads_23_ok _ _ _ _ _ _ _ d0 d1 s0 s1 b0 b1 h
    · exact reads_24_ok _ _ _ _ _ _ _ d0 d1 s0 s1 b0 b1 h
    · exact reads_25_ok _ _ _ _ _ _ _ d0 d1 s0 s1 b0 b1 h
    · exact reads_26_ok _ _ _ _ _ _ _ d0 d1 s0 s1 b0 b1 h
    · exact reads_27_ok _ _ _ _ _ _ _ d0 d1 s0 s1 b0 b1 h
    · exact reads_28_ok _ _ _ _ _ _ _ d0 d1 s0 s1 b0 b1 h
    · exact reads_29_ok _ _ _ _ _ _ _ d0 d1 s0 s1 b0 b1 h
    · exact reads_30_ok _ _ _ _ _ _ _ d0 d1 s0 s1 b0 b1 h
    · exact reads_31_ok _ _ _ _ _ _ _ d0 d1 s0 s1 b0 b1 h
theorem writes_any_ok (op w dst src base disp imm cc : Int) (ho : op ≤ 127) : Ret Try.prog 69 [xD op w dst src base disp imm cc] (.int .i64 (writesXX op w dst src base disp imm cc)) := by
  unfold writesXX
  cases h : mayX op w dst src base disp imm cc
  · simp only [Bool.false_eq_true, if_false]
    exact writes_no_ok op w dst src base disp imm cc ho h
  · simp only [if_true]
    obtain ⟨⟨d0, d1, s0, s1, b0, b1, p0, p1, i0, i1⟩, hs⟩ := mayX_parts h
    have hsh := mayX_sh h
    clear hs
    rcases shape_ops hsh with rfl | rfl | rfl | rfl | rfl | rfl | rfl | rfl | rfl | rfl | rfl | rfl | rfl | rfl | rfl | rfl | rfl | rfl | rfl | rfl | rfl | rfl | rfl | rfl | rfl | rfl | rfl | rfl | rfl | rfl | rfl | rfl
    · exact writes_0_ok _ _ _ _ _ _ _ d0 d1 s0 s1 b0 b1 h
    · exact writes_1_ok _ _ _ _ _ _ _ d0 d1 s0 s1 b0 b1 h
    · exact writes_2_ok _ _ _ _ _ _ _ d0 d1 s0 s1 b0 b1 h
    · exact writes_3_ok _ _ _ _ _ _ _ d0 d1 s0 s1 b0 b1 h
    · exact writes_4_ok _ _ _ _ _ _ _ d0 d1 s0 s1 b0 b1 h
    · exact writes_5_ok _ _ _ _ _ _ _ d0 d1 s0 s1 b0 b1 h
    · exact writes_6_ok _ _ _ _ _ _ _ d0 d1 s0 s1 b0 b1 h
    · exact writes_7_ok _ _ _ _ _ _ _ d0 d1 s0 s1 b0 b1 h
    · exact writes_8_ok _ _ _ _ _ _ _ d0 d1 s0 s1 b0 b1 h
    · exact writes_9_ok _ _ _ _ _ _ _ d0 d1 s0 s1 b0 b1 h
    · exact writes_10_ok _ _ _ _ _ _ _ d0 d1 s0 s1 b0 b1 h
    · exact writes_11_ok _ _ _ _ _ _ _ d0 d1 s0 s1 b0 b1 h
    · exact writes_12_ok _ _ _ _ _ _ _ d0 d1 s0 s1 b0 b1 h
    · exact writes_13_ok _ _ _ _ _ _ _ d0 d1 s0 s1 b0 b1 h
    · exact writes_14_ok _ _ _ _ _ _ _ d0 d1 s0 s1 b0 b1 h
    · exact writes_15_ok _ _ _ _ _ _ _ d0 d1 s0 s1 b0 b1 h
    · exact writes_16_ok _ _ _ _ _ _ _ d0 d1 s0 s1 b0 b1 h
    · exact writes_17_ok _ _ _ _ _ _ _ d0 d1 s0 s1 b0 b1 h
    · exact writes_18_ok _ _ _ _ _ _ _ d0 d1 s0 s1 b0 b1 h
    · exact writes_19_ok _ _ _ _ _ _ _ d0 d1 s0 s1 b0 b1 h
    · exact writes_20_ok _ _ _ _ _ _ _ d0 d1 s0 s1 b0 b1 h
    · exact writes_21_ok _ _ _ _ _ _ _ d0 d1 s0 s1 b0 b1 h
    · exact writes_22_ok _ _ _ _ _ _ _ d0 d1 s0 s1 b0 b1 h
    · exact writes_23_ok _ _ _ _ _ _ _ d0 d1 s0 s1 b0 b1 h
    · exact writes_24_ok _ _ _ _ _ _ _ d0 d1 s0 s1 b0 b1 h
    · exact writes_25_ok _ _ _ _ _ _ _ d0 d1 s0 s1 b0 b1 h
    · exact writes_26_ok _ _ _ _ _ _ _ d0 d1 s0 s1 b0 b1 h
    · exact writes_27_ok _ _ _ _ _ _ _ d0 d1 s0 s1 b0 b1 h
    · exact writes_28_ok _ _ _ _ _ _ _ d0 d1 s0 s1 b0 b1 h
    · exact writes_29_ok _ _ _ _ _ _ _ d0 d1 s0 s1 b0 b1 h
    · exact writes_30_ok _ _ _ _ _ _ _ d0 d1 s0 s1 b0 b1 h
    · exact writes_31_ok _ _ _ _ _ _ _ d0 d1 s0 s1 b0 b1 h
end Go.Proofs.Ytojgmjfcfpclbaa

namespace Go.Ev
open Go
def inU (n : Int) : Prop := 0 ≤ n ∧ n ≤ 18446744073709551615
theorem cut_cut (v w : Int) : cutM (cutM v w) w = cutM v w := by
  unfold cutM
  split
  · omega
  · split
    · omega
    · split
      · omega
      · rfl
def bitOf (w k : Int) : Int := IntKind.i64.wrap ((BitVec.ofInt 64 (w.fdiv (2 ^ (min k.toNat 64))) &&& BitVec.ofInt 64 1).toNat : Int)
theorem bit_zf {w k : Int} (h : (bitOf w k == 0) = false) : (IntKind.i64.wrap ((BitVec.ofInt 64 (w.fdiv (2 ^ (min k.toNat 64))) &&& BitVec.ofInt 64 1).toNat : Int) == 0) = false := h
theorem bit_zt {w k : Int} (h : (bitOf w k == 0) = true) : (IntKind.i64.wrap ((BitVec.ofInt 64 (w.fdiv (2 ^ (min k.toNat 64))) &&& BitVec.ofInt 64 1).toNat : Int) == 0) = true := h
theorem bit_of {w k : Int} (h : (bitOf w k == 1) = false) : (IntKind.i64.wrap ((BitVec.ofInt 64 (w.fdiv (2 ^ (min k.toNat 64))) &&& BitVec.ofInt 64 1).toNat : Int) == 1) = false := h
theorem bit_ot {w k : Int} (h : (bitOf w k == 1) = true) : (IntKind.i64.wrap ((BitVec.ofInt 64 (w.fdiv (2 ^ (min k.toNat 64))) &&& BitVec.ofInt 64 1).toNat : Int) == 1) = true := h
theorem succ16 {k : Int} (h0 : 0 ≤ k) (h1 : k ≤ 15) : IntKind.i64.wrap (k + 1) = k + 1 := by rw [w_i64]; omega
def mayP (w dst src : Int) : Bool := longM w && regM dst && regM src
end Go.Ev

namespace Go.Ev
open Go
theorem rg_set_ne {l : List Int} {d k v : Int} (h0 : 0 ≤ d) (k0 : 0 ≤ k) (h : k ≠ d) : rg (l.set d.toNat v) k = rg l k := by
  unfold rg
  rw [List.getD_eq_getElem?_getD, List.getD_eq_getElem?_getD, List.getElem?_set_ne (by omega)]
theorem rg_set_eq {l : List Int} {d v : Int} (h0 : 0 ≤ d) (h1 : d.toNat < l.length) : rg (l.set d.toNat v) d = v := by
  unfold rg
  rw [List.getD_eq_getElem?_getD, List.getElem?_set_self h1]
  rfl
theorem bit_sh : ∀ n k : Fin 16, bitOf (sh8 (n.val : Int)) (k.val : Int) = if n = k then 1 else 0 := by decide +kernel
theorem writes_may {op w dst src base disp imm cc : Int} (hm : mayX op w dst src base disp imm cc = true) : writesXX op w dst src base disp imm cc = writesX op dst := by unfold writesXX; rw [if_pos hm]
theorem cases16 {p : Int → Prop} (h0 : p 0) (h1 : p 1) (h2 : p 2) (h3 : p 3) (h4 : p 4) (h5 : p 5) (h6 : p 6) (h7 : p 7) (h8 : p 8) (h9 : p 9) (h10 : p 10) (h11 : p 11) (h12 : p 12) (h13 : p 13) (h14 : p 14) (h15 : p 15) : ∀ k : Int, 0 ≤ k → k ≤ 15 → p k := by
  intro k k0 k1
  have : k = 0 ∨ k = 1 ∨ k = 2 ∨ k = 3 ∨ k = 4 ∨ k = 5 ∨ k = 6 ∨ k = 7 ∨ k = 8 ∨ k = 9 ∨ k = 10 ∨ k = 11 ∨ k = 12 ∨ k = 13 ∨ k = 14 ∨ k = 15 := by omega
  rcases this with rfl | rfl | rfl | rfl | rfl | rfl | rfl | rfl | rfl | rfl | rfl | rfl | rfl | rfl | rfl | rfl
  · exact h0
  · exact h1
  · exact h2
  · exact h3
  · exact h4
  · exact h5
  · exact h6
  · exact h7
  · exact h8
  · exact h9
  · exact h10
  · exact h11
  · exact h12
  · exact h13
  · exact h14
  · exact h15
theorem may_long {sh w dst src base disp imm cc : Int} (h : mayS sh w dst src base disp imm cc = true) (hs : sh = 1 ∨ sh = 2 ∨ sh = 3 ∨ sh = 4 ∨ sh = 5 ∨ sh = 6) : longM w = true := by
  rcases hs with rfl | rfl | rfl | rfl | rfl | rfl <;> simp [mayS] at h <;> first | exact h.1 | exact h.1.1 | exact h
theorem may_cc {w dst src base disp imm cc : Int} (h : mayS 6 w dst src base disp imm cc = true) : ccM cc = true := by
  simp [mayS] at h; exact h.2
theorem may_cc' {w dst src base disp imm cc : Int} (h : mayS 10 w dst src base disp imm cc = true) : ccM cc = true := by
  simp [mayS] at h; exact h.2
end Go.Ev

namespace Go.Ev
open Go
structure MachS where
  (q0 q1 q2 q3 q4 q5 q6 q7 q8 q9 q10 q11 q12 q13 q14 q15 : Int)
  (fk fc fz fs fo : Bool)
  (pc : Int)
deriving DecidableEq
def MachS.d (m : MachS) : D := .agg [.int .u64 m.q0, .int .u64 m.q1, .int .u64 m.q2, .int .u64 m.q3, .int .u64 m.q4, .int .u64 m.q5, .int .u64 m.q6, .int .u64 m.q7, .int .u64 m.q8, .int .u64 m.q9, .int .u64 m.q10, .int .u64 m.q11, .int .u64 m.q12, .int .u64 m.q13, .int .u64 m.q14, .int .u64 m.q15, .bool m.fk, .bool m.fc, .bool m.fz, .bool m.fs, .bool m.fo, .int .u64 m.pc]
def MachS.rl (m : MachS) : List Int := [m.q0, m.q1, m.q2, m.q3, m.q4, m.q5, m.q6, m.q7, m.q8, m.q9, m.q10, m.q11, m.q12, m.q13, m.q14, m.q15]
def MachS.put (m : MachS) (i v : Int) : MachS := ⟨st 0 i v m.q0, st 1 i v m.q1, st 2 i v m.q2, st 3 i v m.q3, st 4 i v m.q4, st 5 i v m.q5, st 6 i v m.q6, st 7 i v m.q7, st 8 i v m.q8, st 9 i v m.q9, st 10 i v m.q10, st 11 i v m.q11, st 12 i v m.q12, st 13 i v m.q13, st 14 i v m.q14, st 15 i v m.q15, m.fk, m.fc, m.fz, m.fs, m.fo, m.pc⟩
def MachS.flags (m : MachS) (k c z s o : Bool) : MachS := ⟨m.q0, m.q1, m.q2, m.q3, m.q4, m.q5, m.q6, m.q7, m.q8, m.q9, m.q10, m.q11, m.q12, m.q13, m.q14, m.q15, k, c, z, s, o, m.pc⟩
def MachS.at (m : MachS) (v : Int) : MachS := ⟨m.q0, m.q1, m.q2, m.q3, m.q4, m.q5, m.q6, m.q7, m.q8, m.q9, m.q10, m.q11, m.q12, m.q13, m.q14, m.q15, m.fk, m.fc, m.fz, m.fs, m.fo, v⟩
def MachS.zero : MachS := ⟨0, 0, 0, 0, 0, 0, 0, 0, 0, 0, 0, 0, 0, 0, 0, 0, false, false, false, false, false, 0⟩
def XS.len (x : XS) : Int := lenX x.op x.w x.dst x.src x.base x.disp x.imm x.cc
def XS.may (x : XS) : Bool := mayX x.op x.w x.dst x.src x.base x.disp x.imm x.cc
def sopM (op : Int) : Option (Int × Int) :=
  match op with
  | 2 => some (0, 0)
  | 3 => some (4, 0)
  | 4 => some (5, 0)
  | 5 => some (1, 0)
  | 6 => some (10, 0)
  | 7 => some (1, 0)
  | 8 => some (5, 0)
  | 9 => some (0, 1)
  | 10 => some (4, 1)
  | 11 => some (5, 1)
  | 12 => some (1, 1)
  | 13 => some (10, 1)
  | 14 => some (1, 1)
  | 15 => some (5, 1)
  | 16 => some (2, 0)
  | 17 => some (6, 1)
  | 18 => some (7, 1)
  | 19 => some (12, 1)
  | 20 => some (6, 2)
  | 21 => some (7, 2)
  | 22 => some (12, 2)
  | 23 => some (8, 0)
  | _ => none
def secS (m : MachS) (x : XS) (k : Int) : Int := match k with
  | 2 => m.q1
  | 1 => u64 x.imm
  | _ => rg m.rl x.src
def flagS (m : MachS) (s w a b v : Int) : MachS := match s with
  | 0 => m.flags true (addC w a b) (cutM (u64 (a + b)) w == 0) (negM (u64 (a + b)) w) (addO w a b)
  | 1 => m.flags true (subC w a b) (cutM (u64 (a - b)) w == 0) (negM (u64 (a - b)) w) (subO w a b)
  | 8 => m.flags true (subC w 0 a) (cutM (u64 (0 - a)) w == 0) (negM (u64 (0 - a)) w) (subO w 0 a)
  | 4 => m.flags true false (cutM v w == 0) (negM v w) false
  | 5 => m.flags true false (cutM v w == 0) (negM v w) false
  | 10 => m.flags true false (cutM v w == 0) (negM v w) false
  | _ => m.flags false false false false false
def keepOp (op : Int) : Bool := match op with
  | 7 => true
  | 8 => true
  | 14 => true
  | 15 => true
  | _ => false
def doS (m : MachS) (x : XS) (ld : Int) : MachS × Int := match sopM x.op with
  | some (s, k) =>
    let a := rg m.rl x.dst
    let b := secS m x k
    let v := doM s x.w a b
    match keepOp x.op with
    | true => (flagS m s x.w a b v, 0)
    | false => ((flagS m s x.w a b v).put x.dst v, 0)
  | none => match x.op with
    | 0 => (m.put x.dst (cutM (rg m.rl x.src) x.w), 0)
    | 1 => (m.put x.dst (cutM (u64 x.imm) x.w), 0)
    | 24 => match cutM (rg m.rl x.dst) x.w == 0 with
      | true => (.zero, 20)
      | false => match cutM m.q2 x.w == 0 with
        | false => (.zero, 20)
        | true => (({ m with q0 := u64 ((cutM m.q0 x.w).tdiv (cutM (rg m.rl x.dst) x.w)), q2 := (cutM m.q0 x.w).tmod (cutM (rg m.rl x.dst) x.w) }).flags false false false false false, 0)
    | 25 => match m.fk with
      | false => (.zero, 20)
      | true => (m.put x.dst (cutM (if holdM x.cc m.fc m.fz m.fs m.fo then rg m.rl x.src else rg m.rl x.dst) x.w), 0)
    | 26 => (m.put x.dst (cutM ld x.w), 0)
    | 28 => (m.at (u64 (m.pc + u64 x.imm)), 0)
    | 29 => match m.fk with
      | false => (.zero, 20)
      | true => (m.at (if holdM x.cc m.fc m.fz m.fs m.fo then u64 (m.pc + u64 x.imm) else m.pc), 0)
    | 30 => (({ m with q4 := u64 (m.q4 + 8) }).at ld, 0)
    | 31 => ({ m with q0 := ld, q1 := 0, q11 := 0 }, 0)
    | _ => (m, 0)
def execS (m : MachS) (x : XS) (ld : Int) : MachS × Int := match x.may with
  | false => (.zero, 2)
  | true => doS (m.at (u64 (m.pc + u64 x.len))) x ld
def execM (m : MachS) (x : XS) (ld : Int) : MachS := (execS m x ld).1
def execE (m : MachS) (x : XS) (ld : Int) : Int := (execS m x ld).2
theorem execS_no {m : MachS} {x : XS} {ld : Int} (h : x.may = false) : execS m x ld = (.zero, 2) := by unfold execS; rw [h]
theorem execS_may {m : MachS} {x : XS} {ld : Int} (h : x.may = true) : execS m x ld = doS (m.at (u64 (m.pc + u64 x.len))) x ld := by unfold execS; rw [h]
def addrS (m : MachS) (x : XS) : Int × Int × Bool :=
  if x.may = true ∧ (x.op = 26 ∨ x.op = 27) then (u64 (rg m.rl x.base + u64 x.disp), x.w / 8, true)
  else if x.may = true ∧ x.op = 30 then (m.q4, 8, true)
  else (0, 0, false)
def storedS (m : MachS) (x : XS) : Int := if x.may = true ∧ x.op = 27 then cutM (rg m.rl x.src) x.w else 0
def numS (m : MachS) : Int × Bool := if 16 ≤ m.q0 then (0, false) else (IntKind.i64.wrap m.q0, true)
def numV (q : Int) : Int := if 16 ≤ q then 0 else IntKind.i64.wrap q
def numB (q : Int) : Bool := !decide (16 ≤ q)
def argsS (m : MachS) : List Int := if 16 ≤ m.q0 then [] else [m.q7, m.q6, m.q2, m.q10, m.q8].take (m.q0.toNat % 6)
def wD (l : List Int) : List D := l.map (fun x => .int .u64 x)
def toccM (cc : Int) : Int × Bool :=
  if cc = 0 then (4, true) else if cc = 1 then (5, true) else if cc = 2 then (7, true) else if cc = 3 then (3, true) else if cc = 4 then (2, true) else if cc = 5 then (6, true)
  else if cc = 6 then (15, true) else if cc = 7 then (13, true) else if cc = 8 then (12, true) else if cc = 9 then (14, true) else if cc = 10 then (5, true) else (0, false)
def ccM' (cc : Int) : Int × Bool :=
  if cc = 4 then (0, true) else if cc = 5 then (1, true) else if cc = 7 then (2, true) else if cc = 3 then (3, true) else if cc = 2 then (4, true) else if cc = 6 then (5, true)
  else if cc = 15 then (6, true) else if cc = 13 then (7, true) else if cc = 12 then (8, true) else if cc = 14 then (9, true) else (0, false)
end Go.Ev

namespace Go.Ev
open Go
structure RgS where
  (r0 r1 r2 r3 r4 r5 r6 r7 r8 r9 r10 : Int)
deriving DecidableEq
def RgS.c (r : RgS) : List D := [.int .u64 r.r0, .int .u64 r.r1, .int .u64 r.r2, .int .u64 r.r3, .int .u64 r.r4, .int .u64 r.r5, .int .u64 r.r6, .int .u64 r.r7, .int .u64 r.r8, .int .u64 r.r9, .int .u64 r.r10]
def RgS.d (r : RgS) : D := .agg r.c
def RgS.l (r : RgS) : List Int := [r.r0, r.r1, r.r2, r.r3, r.r4, r.r5, r.r6, r.r7, r.r8, r.r9, r.r10]
def RgS.get (r : RgS) (i : Int) : Int := rg r.l i
def RgS.put (r : RgS) (i v : Int) : RgS := ⟨st 0 i v r.r0, st 1 i v r.r1, st 2 i v r.r2, st 3 i v r.r3, st 4 i v r.r4, st 5 i v r.r5, st 6 i v r.r6, st 7 i v r.r7, st 8 i v r.r8, st 9 i v r.r9, st 10 i v r.r10⟩
def RgS.zero : RgS := ⟨0, 0, 0, 0, 0, 0, 0, 0, 0, 0, 0⟩
theorem fin11 {i : Int} (h0 : 0 ≤ i) (h1 : i ≤ 10) : i = 0 ∨ i = 1 ∨ i = 2 ∨ i = 3 ∨ i = 4 ∨ i = 5 ∨ i = 6 ∨ i = 7 ∨ i = 8 ∨ i = 9 ∨ i = 10 := by omega
section
variable {r0 r1 r2 r3 r4 r5 r6 r7 r8 r9 r10 i v : Int} {tl : List D}
theorem get_rg (h0 : 0 ≤ i) (h1 : i ≤ 10) : (D.int .u64 r0 :: D.int .u64 r1 :: D.int .u64 r2 :: D.int .u64 r3 :: D.int .u64 r4 :: D.int .u64 r5 :: D.int .u64 r6 :: D.int .u64 r7 :: D.int .u64 r8 :: D.int .u64 r9 :: D.int .u64 r10 :: tl : List D)[0 + i.toNat * 1]? = some (.int .u64 (rg [r0, r1, r2, r3, r4, r5, r6, r7, r8, r9, r10] i)) := by
  rcases fin11 h0 h1 with rfl | rfl | rfl | rfl | rfl | rfl | rfl | rfl | rfl | rfl | rfl <;> rfl
theorem put_rg (h0 : 0 ≤ i) (h1 : i ≤ 10) : PutsA (D.int .u64 r0 :: D.int .u64 r1 :: D.int .u64 r2 :: D.int .u64 r3 :: D.int .u64 r4 :: D.int .u64 r5 :: D.int .u64 r6 :: D.int .u64 r7 :: D.int .u64 r8 :: D.int .u64 r9 :: D.int .u64 r10 :: tl : List D) (0 + i.toNat * 1) [D.int .u64 v] (D.int .u64 (st 0 i v r0) :: D.int .u64 (st 1 i v r1) :: D.int .u64 (st 2 i v r2) :: D.int .u64 (st 3 i v r3) :: D.int .u64 (st 4 i v r4) :: D.int .u64 (st 5 i v r5) :: D.int .u64 (st 6 i v r6) :: D.int .u64 (st 7 i v r7) :: D.int .u64 (st 8 i v r8) :: D.int .u64 (st 9 i v r9) :: D.int .u64 (st 10 i v r10) :: tl) := by
  rcases fin11 h0 h1 with rfl | rfl | rfl | rfl | rfl | rfl | rfl | rfl | rfl | rfl | rfl <;> exact ⟨rfl, by simp⟩
end
theorem sl3 (n : Nat) : decide ((0 : Int) ≤ (n : Int) ∧ (n : Int) ≤ (n : Int) ∧ (n : Int) = (n : Int)) = true := by simp
theorem len_lt1 {x : D} {tl : List D} : decide (((x :: tl).length : Int) < 1) = false := by simp; omega
theorem len_ge1 {x : D} {tl : List D} : decide ((0 : Int) ≤ (1 : Int) ∧ (1 : Int) ≤ ((x :: tl).length : Int)) = true := by simp; omega
def MachS.c (m : MachS) : List D := [.int .u64 m.q0, .int .u64 m.q1, .int .u64 m.q2, .int .u64 m.q3, .int .u64 m.q4, .int .u64 m.q5, .int .u64 m.q6, .int .u64 m.q7, .int .u64 m.q8, .int .u64 m.q9, .int .u64 m.q10, .int .u64 m.q11, .int .u64 m.q12, .int .u64 m.q13, .int .u64 m.q14, .int .u64 m.q15, .bool m.fk, .bool m.fc, .bool m.fz, .bool m.fs, .bool m.fo, .int .u64 m.pc]
def IrS.x (s : IrS) : XS := ⟨s.op, s.w, s.dst, s.src, s.base, s.disp, s.imm, s.cc⟩
def scrM (n : Int) : Bool := decide (n = 0 ∨ n = 1 ∨ n = 2 ∨ n = 11)
theorem scr_bit_all : ∀ n : Fin 128, (bitOf 2055 (n.val : Int) == 1) = scrM (n.val : Int) := by decide +kernel
theorem wk_bool {a b : Bool} (h : a = b) : wk (.bool a) (.bool b) := by subst h; simp [wk]
theorem scr_bit_eq {n : Int} (h0 : decide (n < 0) = false) (h1 : n ≤ 127) : (bitOf 2055 n == 1) = scrM n := by
  rw [decide_eq_false_iff_not] at h0
  have := scr_bit_all ⟨n.toNat, by omega⟩
  simp only [Int.toNat_of_nonneg (show 0 ≤ n by omega)] at this
  exact this
theorem scr_neg {n : Int} (h0 : decide (n < 0) = true) : false = scrM n := by
  rw [decide_eq_true_eq] at h0
  exact (decide_eq_false (by omega)).symm
def namesM (op w dst src base disp imm cc : Int) : Int := or64 (readsXX op w dst src base disp imm cc) (writesXX op w dst src base disp imm cc)
def ownM (op w dst src base disp imm cc : Int) : Bool := andNot64 (namesM op w dst src base disp imm cc) 2055 == 0
theorem own_t {op w dst src base disp imm cc : Int} (h : ownM op w dst src base disp imm cc = true) : (IntKind.i64.wrap ((BitVec.ofInt IntKind.i64.bits (IntKind.i64.wrap ((BitVec.ofInt IntKind.i64.bits (readsXX op w dst src base disp imm cc) ||| BitVec.ofInt IntKind.i64.bits (writesXX op w dst src base disp imm cc)).toNat : Int)) &&& ~~~BitVec.ofInt IntKind.i64.bits 2055).toNat : Int) == 0) = true := h
theorem own_f {op w dst src base disp imm cc : Int} (h : ownM op w dst src base disp imm cc = false) : (IntKind.i64.wrap ((BitVec.ofInt IntKind.i64.bits (IntKind.i64.wrap ((BitVec.ofInt IntKind.i64.bits (readsXX op w dst src base disp imm cc) ||| BitVec.ofInt IntKind.i64.bits (writesXX op w dst src base disp imm cc)).toNat : Int)) &&& ~~~BitVec.ofInt IntKind.i64.bits 2055).toNat : Int) == 0) = false := h
def zeroX (op w dst src base disp imm cc : Int) : Bool := decide (op = 0 ∧ w = 0 ∧ dst = 0 ∧ src = 0 ∧ base = 0 ∧ disp = 0 ∧ imm = 0 ∧ cc = 0)
def mayI (kind op w dst src base disp imm cc reg phys num to : Int) : Bool :=
  if kind = 0 then mayX op w dst src base disp imm cc && decide (op < 28) && ownM op w dst src base disp imm cc && decide (reg = 0 ∧ phys = 0 ∧ num = 0 ∧ to = 0)
  else if kind = 1 ∨ kind = 2 then decide (0 ≤ reg ∧ reg ≤ 10) && scrM phys && zeroX op w dst src base disp imm cc && decide (num = 0 ∧ to = 0)
  else if kind = 3 then decide (0 ≤ num ∧ num ≤ 15) && zeroX op w dst src base disp imm cc && decide (reg = 0 ∧ phys = 0 ∧ to = 0)
  else if kind = 4 then ccM cc && zeroX (op - 29) w dst src base disp imm 0 && decide (0 ≤ to ∧ to ≤ 64) && decide (reg = 0 ∧ phys = 0 ∧ num = 0)
  else if kind = 5 then decide (0 ≤ to ∧ to ≤ 64) && zeroX op w dst src base disp imm cc && decide (reg = 0 ∧ phys = 0 ∧ num = 0)
  else if kind = 6 then zeroX op w dst src base disp imm cc && decide (reg = 0 ∧ phys = 0 ∧ num = 0 ∧ to = 0)
  else false
theorem eq_irc (k1 a1 a2 a3 a4 a5 a6 a7 a8 a9 a10 a11 a12 k2 b1 b2 b3 b4 b5 b6 b7 b8 b9 b10 b11 b12 : Int) : eqCells (irC k1 a1 a2 a3 a4 a5 a6 a7 a8 a9 a10 a11 a12) (irC k2 b1 b2 b3 b4 b5 b6 b7 b8 b9 b10 b11 b12) =
    decide (k1 = k2 ∧ a1 = b1 ∧ a2 = b2 ∧ a3 = b3 ∧ a4 = b4 ∧ a5 = b5 ∧ a6 = b6 ∧ a7 = b7 ∧ a8 = b8 ∧ a9 = b9 ∧ a10 = b10 ∧ a11 = b11 ∧ a12 = b12) := by
  rw [Bool.eq_iff_iff]
  simp [eqCells, eqCell]
theorem mayI_0 (op w dst src base disp imm cc reg phys num to : Int) : mayI 0 op w dst src base disp imm cc reg phys num to = (mayX op w dst src base disp imm cc && decide (op < 28) && ownM op w dst src base disp imm cc && decide (reg = 0 ∧ phys = 0 ∧ num = 0 ∧ to = 0)) := rfl
theorem mayI_1 (op w dst src base disp imm cc reg phys num to : Int) : mayI 1 op w dst src base disp imm cc reg phys num to = (decide (0 ≤ reg ∧ reg ≤ 10) && scrM phys && zeroX op w dst src base disp imm cc && decide (num = 0 ∧ to = 0)) := rfl
theorem mayI_2 (op w dst src base disp imm cc reg phys num to : Int) : mayI 2 op w dst src base disp imm cc reg phys num to = (decide (0 ≤ reg ∧ reg ≤ 10) && scrM phys && zeroX op w dst src base disp imm cc && decide (num = 0 ∧ to = 0)) := rfl
theorem mayI_3 (op w dst src base disp imm cc reg phys num to : Int) : mayI 3 op w dst src base disp imm cc reg phys num to = (decide (0 ≤ num ∧ num ≤ 15) && zeroX op w dst src base disp imm cc && decide (reg = 0 ∧ phys = 0 ∧ to = 0)) := rfl
theorem mayI_4 (op w dst src base disp imm cc reg phys num to : Int) : mayI 4 op w dst src base disp imm cc reg phys num to = (ccM cc && zeroX (op - 29) w dst src base disp imm 0 && decide (0 ≤ to ∧ to ≤ 64) && decide (reg = 0 ∧ phys = 0 ∧ num = 0)) := rfl
theorem mayI_5 (op w dst src base disp imm cc reg phys num to : Int) : mayI 5 op w dst src base disp imm cc reg phys num to = (decide (0 ≤ to ∧ to ≤ 64) && zeroX op w dst src base disp imm cc && decide (reg = 0 ∧ phys = 0 ∧ num = 0)) := rfl
theorem mayI_6 (op w dst src base disp imm cc reg phys num to : Int) : mayI 6 op w dst src base disp imm cc reg phys num to = (zeroX op w dst src base disp imm cc && decide (reg = 0 ∧ phys = 0 ∧ num = 0 ∧ to = 0)) := rfl
def stopsI (kind op : Int) : Bool := decide ((3 ≤ kind ∧ kind ≤ 6) ∨ (kind = 0 ∧ (op = 26 ∨ op = 27)))
theorem stops_op {op : Int} (h2 : ¬ op = 26) : wk (.bool (op == (27 : Int))) (.bool (stopsI 0 op)) := by
  apply wk_bool; unfold stopsI
  by_cases q : op = 27
  · subst q; rfl
  · have e : (op == 27) = false := beq_eq_false_iff_ne.mpr q
    rw [e]; symm; rw [decide_eq_false_iff_not]; omega
def IrS.ok (s : IrS) : Prop := -128 ≤ s.kind ∧ s.kind ≤ 127 ∧ s.op ≤ 127 ∧ s.cc ≤ 127 ∧ s.phys ≤ 127 ∧ -128 ≤ s.reg ∧ s.reg ≤ 127
def AllOk (l : List IrS) : Prop := ∀ s ∈ l, s.ok
def IrS.may (s : IrS) : Bool := mayI s.kind s.op s.w s.dst s.src s.base s.disp s.imm s.cc s.reg s.phys s.num s.to
def IrS.stops (s : IrS) : Bool := stopsI s.kind s.op
def badI (l : List IrS) : Option Nat := l.findIdx? (fun s => !s.may)
def chkI (l : List IrS) : Int × Int := match badI l with
  | some k => ((k : Int), 2)
  | none => (0, 0)
def runI : List IrS → RgS → MachS → RgS × MachS × Nat × Int
  | [], r, m => (r, m, 0, 0)
  | s :: t, r, m => match s.stops with
    | true => (r, m, t.length + 1, 0)
    | false => if s.kind = 1 then runI t r (m.put s.phys (r.get s.reg))
      else if s.kind = 2 then runI t (r.put s.reg (rg m.rl s.phys)) m
      else if (execS m s.x 0).2 = 0 then runI t r ((execS m s.x 0).1.at 0)
      else (.zero, .zero, t.length + 1, (execS m s.x 0).2)
def restI (l : List IrS) (r : RgS) (m : MachS) : List IrS := l.drop (l.length - (runI l r m).2.2.1)
def doI (l : List IrS) (r : RgS) : RgS × MachS × Int × Int :=
  if (chkI l).2 = 0 then
    let q := runI l r .zero
    if q.2.2.2 = 0 then (q.1, q.2.1, ((l.length - q.2.2.1 : Nat) : Int), 0) else (.zero, .zero, 0, q.2.2.2)
  else (.zero, .zero, 0, 2)
def namedI (k : Int) (n : Int) : List IrS → Int
  | [] => n
  | s :: t => namedI k (if s.kind = k ∧ 0 ≤ s.reg ∧ s.reg ≤ 10 then or64 n (sh8 s.reg) else n) t
end Go.Ev
