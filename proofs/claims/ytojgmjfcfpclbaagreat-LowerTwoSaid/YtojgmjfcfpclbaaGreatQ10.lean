/- Contracts and plain laws that a statement's proof leans on (texts merged: XS2, XW, XRBy, ZR5, E0, E0F0). -/
import Derived.Test.YtojgmjfcfpclbaaGreatQ04
import Derived.Test.YtojgmjfcfpclbaaGreatQ06
import Derived.Test.YtojgmjfcfpclbaaGreatQ07
import Derived.Test.YtojgmjfcfpclbaaGreatQ08
import Derived.Test.YtojgmjfcfpclbaaGreatQ09
set_option linter.unusedVariables false
set_option linter.unusedSimpArgs false
namespace Go.Proofs.YtojgmjfcfpclbaaGreat
open Go Go.Ev
set_option maxRecDepth 100000
set_option maxHeartbeats 8000000
theorem reads_0_ok (w dst src base disp imm cc : Int) (d0 : 0 ≤ dst) (d1 : dst ≤ 15) (s0 : 0 ≤ src) (s1 : src ≤ 15) (b0 : 0 ≤ base) (b1 : base ≤ 15) (hm : mayX 0 w dst src base disp imm cc = true) : Ret Tryz.prog 130 ([xD 0 w dst src base disp imm cc]) (.int .i64 (readsX 0 dst src base)) := by
 have c0 := @Proofs.YtojgmjfcfpclbaaGreat.mayX_ok 0 w dst src base disp imm cc (by decide)
 rw [show (mayX 0 w dst src base disp imm cc) = true from hm] at c0
 have c1 := @Proofs.YtojgmjfcfpclbaaGreat.of_any_ok 0 (by decide)
 have c2 := @Proofs.YtojgmjfcfpclbaaGreat.set1_ok src s0 s1
 exact (o130 (d := D.int IntKind.i64 (sh8 src)) [.ret _ _ _ c0, tF, .ret _ _ _ c1, tT, tT, tT, .ret _ _ _ c2] (by kernel_rfl)).to (by rfl)
theorem reads_1_ok (w dst src base disp imm cc : Int) (d0 : 0 ≤ dst) (d1 : dst ≤ 15) (s0 : 0 ≤ src) (s1 : src ≤ 15) (b0 : 0 ≤ base) (b1 : base ≤ 15) (hm : mayX 1 w dst src base disp imm cc = true) : Ret Tryz.prog 130 ([xD 1 w dst src base disp imm cc]) (.int .i64 (readsX 1 dst src base)) := by
 have c0 := @Proofs.YtojgmjfcfpclbaaGreat.mayX_ok 1 w dst src base disp imm cc (by decide)
 rw [show (mayX 1 w dst src base disp imm cc) = true from hm] at c0
 have c1 := @Proofs.YtojgmjfcfpclbaaGreat.of_any_ok 1 (by decide)
 exact (o130 (d := D.int IntKind.i64 0) [.ret _ _ _ c0, tF, .ret _ _ _ c1, tF, tF, tF, tT, tT, tT] (by kernel_rfl)).to (by rfl)
theorem reads_2_ok (w dst src base disp imm cc : Int) (d0 : 0 ≤ dst) (d1 : dst ≤ 15) (s0 : 0 ≤ src) (s1 : src ≤ 15) (b0 : 0 ≤ base) (b1 : base ≤ 15) (hm : mayX 2 w dst src base disp imm cc = true) : Ret Tryz.prog 130 ([xD 2 w dst src base disp imm cc]) (.int .i64 (readsX 2 dst src base)) := by
 have c0 := @Proofs.YtojgmjfcfpclbaaGreat.mayX_ok 2 w dst src base disp imm cc (by decide)
 rw [show (mayX 2 w dst src base disp imm cc) = true from hm] at c0
 have c1 := @Proofs.YtojgmjfcfpclbaaGreat.of_any_ok 2 (by decide)
 have c2 := @Proofs.YtojgmjfcfpclbaaGreat.set2_ok dst d0 d1 src s0 s1
 exact (o130 (d := D.int IntKind.i64 (or64 (sh8 dst) (sh8 src))) [.ret _ _ _ c0, tF, .ret _ _ _ c1, tT, tT, tF, .ret _ _ _ c2] (by kernel_rfl)).to (by rfl)
theorem reads_3_ok (w dst src base disp imm cc : Int) (d0 : 0 ≤ dst) (d1 : dst ≤ 15) (s0 : 0 ≤ src) (s1 : src ≤ 15) (b0 : 0 ≤ base) (b1 : base ≤ 15) (hm : mayX 3 w dst src base disp imm cc = true) : Ret Tryz.prog 130 ([xD 3 w dst src base disp imm cc]) (.int .i64 (readsX 3 dst src base)) := by
 have c0 := @Proofs.YtojgmjfcfpclbaaGreat.mayX_ok 3 w dst src base disp imm cc (by decide)
 rw [show (mayX 3 w dst src base disp imm cc) = true from hm] at c0
 have c1 := @Proofs.YtojgmjfcfpclbaaGreat.of_any_ok 3 (by decide)
 have c2 := @Proofs.YtojgmjfcfpclbaaGreat.set2_ok dst d0 d1 src s0 s1
 exact (o130 (d := D.int IntKind.i64 (or64 (sh8 dst) (sh8 src))) [.ret _ _ _ c0, tF, .ret _ _ _ c1, tT, tT, tF, .ret _ _ _ c2] (by kernel_rfl)).to (by rfl)
theorem reads_4_ok (w dst src base disp imm cc : Int) (d0 : 0 ≤ dst) (d1 : dst ≤ 15) (s0 : 0 ≤ src) (s1 : src ≤ 15) (b0 : 0 ≤ base) (b1 : base ≤ 15) (hm : mayX 4 w dst src base disp imm cc = true) : Ret Tryz.prog 130 ([xD 4 w dst src base disp imm cc]) (.int .i64 (readsX 4 dst src base)) := by
 have c0 := @Proofs.YtojgmjfcfpclbaaGreat.mayX_ok 4 w dst src base disp imm cc (by decide)
 rw [show (mayX 4 w dst src base disp imm cc) = true from hm] at c0
 have c1 := @Proofs.YtojgmjfcfpclbaaGreat.of_any_ok 4 (by decide)
 have c2 := @Proofs.YtojgmjfcfpclbaaGreat.set2_ok dst d0 d1 src s0 s1
 exact (o130 (d := D.int IntKind.i64 (or64 (sh8 dst) (sh8 src))) [.ret _ _ _ c0, tF, .ret _ _ _ c1, tT, tT, tF, .ret _ _ _ c2] (by kernel_rfl)).to (by rfl)
theorem reads_5_ok (w dst src base disp imm cc : Int) (d0 : 0 ≤ dst) (d1 : dst ≤ 15) (s0 : 0 ≤ src) (s1 : src ≤ 15) (b0 : 0 ≤ base) (b1 : base ≤ 15) (hm : mayX 5 w dst src base disp imm cc = true) : Ret Tryz.prog 130 ([xD 5 w dst src base disp imm cc]) (.int .i64 (readsX 5 dst src base)) := by
 have c0 := @Proofs.YtojgmjfcfpclbaaGreat.mayX_ok 5 w dst src base disp imm cc (by decide)
 rw [show (mayX 5 w dst src base disp imm cc) = true from hm] at c0
 have c1 := @Proofs.YtojgmjfcfpclbaaGreat.of_any_ok 5 (by decide)
 have c2 := @Proofs.YtojgmjfcfpclbaaGreat.set2_ok dst d0 d1 src s0 s1
 exact (o130 (d := D.int IntKind.i64 (or64 (sh8 dst) (sh8 src))) [.ret _ _ _ c0, tF, .ret _ _ _ c1, tT, tT, tF, .ret _ _ _ c2] (by kernel_rfl)).to (by rfl)
theorem reads_6_ok (w dst src base disp imm cc : Int) (d0 : 0 ≤ dst) (d1 : dst ≤ 15) (s0 : 0 ≤ src) (s1 : src ≤ 15) (b0 : 0 ≤ base) (b1 : base ≤ 15) (hm : mayX 6 w dst src base disp imm cc = true) : Ret Tryz.prog 130 ([xD 6 w dst src base disp imm cc]) (.int .i64 (readsX 6 dst src base)) := by
 have c0 := @Proofs.YtojgmjfcfpclbaaGreat.mayX_ok 6 w dst src base disp imm cc (by decide)
 rw [show (mayX 6 w dst src base disp imm cc) = true from hm] at c0
 have c1 := @Proofs.YtojgmjfcfpclbaaGreat.of_any_ok 6 (by decide)
 have c2 := @Proofs.YtojgmjfcfpclbaaGreat.set2_ok dst d0 d1 src s0 s1
 exact (o130 (d := D.int IntKind.i64 (or64 (sh8 dst) (sh8 src))) [.ret _ _ _ c0, tF, .ret _ _ _ c1, tT, tT, tF, .ret _ _ _ c2] (by kernel_rfl)).to (by rfl)
theorem reads_7_ok (w dst src base disp imm cc : Int) (d0 : 0 ≤ dst) (d1 : dst ≤ 15) (s0 : 0 ≤ src) (s1 : src ≤ 15) (b0 : 0 ≤ base) (b1 : base ≤ 15) (hm : mayX 7 w dst src base disp imm cc = true) : Ret Tryz.prog 130 ([xD 7 w dst src base disp imm cc]) (.int .i64 (readsX 7 dst src base)) := by
 have c0 := @Proofs.YtojgmjfcfpclbaaGreat.mayX_ok 7 w dst src base disp imm cc (by decide)
 rw [show (mayX 7 w dst src base disp imm cc) = true from hm] at c0
 have c1 := @Proofs.YtojgmjfcfpclbaaGreat.of_any_ok 7 (by decide)
 have c2 := @Proofs.YtojgmjfcfpclbaaGreat.set2_ok dst d0 d1 src s0 s1
 exact (o130 (d := D.int IntKind.i64 (or64 (sh8 dst) (sh8 src))) [.ret _ _ _ c0, tF, .ret _ _ _ c1, tT, tT, tF, .ret _ _ _ c2] (by kernel_rfl)).to (by rfl)
theorem reads_8_ok (w dst src base disp imm cc : Int) (d0 : 0 ≤ dst) (d1 : dst ≤ 15) (s0 : 0 ≤ src) (s1 : src ≤ 15) (b0 : 0 ≤ base) (b1 : base ≤ 15) (hm : mayX 8 w dst src base disp imm cc = true) : Ret Tryz.prog 130 ([xD 8 w dst src base disp imm cc]) (.int .i64 (readsX 8 dst src base)) := by
 have c0 := @Proofs.YtojgmjfcfpclbaaGreat.mayX_ok 8 w dst src base disp imm cc (by decide)
 rw [show (mayX 8 w dst src base disp imm cc) = true from hm] at c0
 have c1 := @Proofs.YtojgmjfcfpclbaaGreat.of_any_ok 8 (by decide)
 have c2 := @Proofs.YtojgmjfcfpclbaaGreat.set2_ok dst d0 d1 src s0 s1
 exact (o130 (d := D.int IntKind.i64 (or64 (sh8 dst) (sh8 src))) [.ret _ _ _ c0, tF, .ret _ _ _ c1, tT, tT, tF, .ret _ _ _ c2] (by kernel_rfl)).to (by rfl)
theorem reads_9_ok (w dst src base disp imm cc : Int) (d0 : 0 ≤ dst) (d1 : dst ≤ 15) (s0 : 0 ≤ src) (s1 : src ≤ 15) (b0 : 0 ≤ base) (b1 : base ≤ 15) (hm : mayX 9 w dst src base disp imm cc = true) : Ret Tryz.prog 130 ([xD 9 w dst src base disp imm cc]) (.int .i64 (readsX 9 dst src base)) := by
 have c0 := @Proofs.YtojgmjfcfpclbaaGreat.mayX_ok 9 w dst src base disp imm cc (by decide)
 rw [show (mayX 9 w dst src base disp imm cc) = true from hm] at c0
 have c1 := @Proofs.YtojgmjfcfpclbaaGreat.of_any_ok 9 (by decide)
 have c2 := @Proofs.YtojgmjfcfpclbaaGreat.set1_ok dst d0 d1
 exact (o130 (d := D.int IntKind.i64 (sh8 dst)) [.ret _ _ _ c0, tF, .ret _ _ _ c1, tF, tF, tF, tT, tT, tF, .ret _ _ _ c2] (by kernel_rfl)).to (by rfl)
theorem reads_10_ok (w dst src base disp imm cc : Int) (d0 : 0 ≤ dst) (d1 : dst ≤ 15) (s0 : 0 ≤ src) (s1 : src ≤ 15) (b0 : 0 ≤ base) (b1 : base ≤ 15) (hm : mayX 10 w dst src base disp imm cc = true) : Ret Tryz.prog 130 ([xD 10 w dst src base disp imm cc]) (.int .i64 (readsX 10 dst src base)) := by
 have c0 := @Proofs.YtojgmjfcfpclbaaGreat.mayX_ok 10 w dst src base disp imm cc (by decide)
 rw [show (mayX 10 w dst src base disp imm cc) = true from hm] at c0
 have c1 := @Proofs.YtojgmjfcfpclbaaGreat.of_any_ok 10 (by decide)
 have c2 := @Proofs.YtojgmjfcfpclbaaGreat.set1_ok dst d0 d1
 exact (o130 (d := D.int IntKind.i64 (sh8 dst)) [.ret _ _ _ c0, tF, .ret _ _ _ c1, tF, tF, tF, tT, tT, tF, .ret _ _ _ c2] (by kernel_rfl)).to (by rfl)
theorem reads_11_ok (w dst src base disp imm cc : Int) (d0 : 0 ≤ dst) (d1 : dst ≤ 15) (s0 : 0 ≤ src) (s1 : src ≤ 15) (b0 : 0 ≤ base) (b1 : base ≤ 15) (hm : mayX 11 w dst src base disp imm cc = true) : Ret Tryz.prog 130 ([xD 11 w dst src base disp imm cc]) (.int .i64 (readsX 11 dst src base)) := by
 have c0 := @Proofs.YtojgmjfcfpclbaaGreat.mayX_ok 11 w dst src base disp imm cc (by decide)
 rw [show (mayX 11 w dst src base disp imm cc) = true from hm] at c0
 have c1 := @Proofs.YtojgmjfcfpclbaaGreat.of_any_ok 11 (by decide)
 have c2 := @Proofs.YtojgmjfcfpclbaaGreat.set1_ok dst d0 d1
 exact (o130 (d := D.int IntKind.i64 (sh8 dst)) [.ret _ _ _ c0, tF, .ret _ _ _ c1, tF, tF, tF, tT, tT, tF, .ret _ _ _ c2] (by kernel_rfl)).to (by rfl)
theorem reads_12_ok (w dst src base disp imm cc : Int) (d0 : 0 ≤ dst) (d1 : dst ≤ 15) (s0 : 0 ≤ src) (s1 : src ≤ 15) (b0 : 0 ≤ base) (b1 : base ≤ 15) (hm : mayX 12 w dst src base disp imm cc = true) : Ret Tryz.prog 130 ([xD 12 w dst src base disp imm cc]) (.int .i64 (readsX 12 dst src base)) := by
 have c0 := @Proofs.YtojgmjfcfpclbaaGreat.mayX_ok 12 w dst src base disp imm cc (by decide)
 rw [show (mayX 12 w dst src base disp imm cc) = true from hm] at c0
 have c1 := @Proofs.YtojgmjfcfpclbaaGreat.of_any_ok 12 (by decide)
 have c2 := @Proofs.YtojgmjfcfpclbaaGreat.set1_ok dst d0 d1
 exact (o130 (d := D.int IntKind.i64 (sh8 dst)) [.ret _ _ _ c0, tF, .ret _ _ _ c1, tF, tF, tF, tT, tT, tF, .ret _ _ _ c2] (by kernel_rfl)).to (by rfl)
theorem reads_13_ok (w dst src base disp imm cc : Int) (d0 : 0 ≤ dst) (d1 : dst ≤ 15) (s0 : 0 ≤ src) (s1 : src ≤ 15) (b0 : 0 ≤ base) (b1 : base ≤ 15) (hm : mayX 13 w dst src base disp imm cc = true) : Ret Tryz.prog 130 ([xD 13 w dst src base disp imm cc]) (.int .i64 (readsX 13 dst src base)) := by
 have c0 := @Proofs.YtojgmjfcfpclbaaGreat.mayX_ok 13 w dst src base disp imm cc (by decide)
 rw [show (mayX 13 w dst src base disp imm cc) = true from hm] at c0
 have c1 := @Proofs.YtojgmjfcfpclbaaGreat.of_any_ok 13 (by decide)
 have c2 := @Proofs.YtojgmjfcfpclbaaGreat.set1_ok dst d0 d1
 exact (o130 (d := D.int IntKind.i64 (sh8 dst)) [.ret _ _ _ c0, tF, .ret _ _ _ c1, tF, tF, tF, tT, tT, tF, .ret _ _ _ c2] (by kernel_rfl)).to (by rfl)
theorem reads_14_ok (w dst src base disp imm cc : Int) (d0 : 0 ≤ dst) (d1 : dst ≤ 15) (s0 : 0 ≤ src) (s1 : src ≤ 15) (b0 : 0 ≤ base) (b1 : base ≤ 15) (hm : mayX 14 w dst src base disp imm cc = true) : Ret Tryz.prog 130 ([xD 14 w dst src base disp imm cc]) (.int .i64 (readsX 14 dst src base)) := by
 have c0 := @Proofs.YtojgmjfcfpclbaaGreat.mayX_ok 14 w dst src base disp imm cc (by decide)
 rw [show (mayX 14 w dst src base disp imm cc) = true from hm] at c0
 have c1 := @Proofs.YtojgmjfcfpclbaaGreat.of_any_ok 14 (by decide)
 have c2 := @Proofs.YtojgmjfcfpclbaaGreat.set1_ok dst d0 d1
 exact (o130 (d := D.int IntKind.i64 (sh8 dst)) [.ret _ _ _ c0, tF, .ret _ _ _ c1, tF, tF, tF, tT, tT, tF, .ret _ _ _ c2] (by kernel_rfl)).to (by rfl)
theorem reads_15_ok (w dst src base disp imm cc : Int) (d0 : 0 ≤ dst) (d1 : dst ≤ 15) (s0 : 0 ≤ src) (s1 : src ≤ 15) (b0 : 0 ≤ base) (b1 : base ≤ 15) (hm : mayX 15 w dst src base disp imm cc = true) : Ret Tryz.prog 130 ([xD 15 w dst src base disp imm cc]) (.int .i64 (readsX 15 dst src base)) := by
 have c0 := @Proofs.YtojgmjfcfpclbaaGreat.mayX_ok 15 w dst src base disp imm cc (by decide)
 rw [show (mayX 15 w dst src base disp imm cc) = true from hm] at c0
 have c1 := @Proofs.YtojgmjfcfpclbaaGreat.of_any_ok 15 (by decide)
 have c2 := @Proofs.YtojgmjfcfpclbaaGreat.set1_ok dst d0 d1
 exact (o130 (d := D.int IntKind.i64 (sh8 dst)) [.ret _ _ _ c0, tF, .ret _ _ _ c1, tF, tF, tF, tT, tT, tF, .ret _ _ _ c2] (by kernel_rfl)).to (by rfl)
theorem reads_16_ok (w dst src base disp imm cc : Int) (d0 : 0 ≤ dst) (d1 : dst ≤ 15) (s0 : 0 ≤ src) (s1 : src ≤ 15) (b0 : 0 ≤ base) (b1 : base ≤ 15) (hm : mayX 16 w dst src base disp imm cc = true) : Ret Tryz.prog 130 ([xD 16 w dst src base disp imm cc]) (.int .i64 (readsX 16 dst src base)) := by
 have c0 := @Proofs.YtojgmjfcfpclbaaGreat.mayX_ok 16 w dst src base disp imm cc (by decide)
 rw [show (mayX 16 w dst src base disp imm cc) = true from hm] at c0
 have c1 := @Proofs.YtojgmjfcfpclbaaGreat.of_any_ok 16 (by decide)
 have c2 := @Proofs.YtojgmjfcfpclbaaGreat.set2_ok dst d0 d1 src s0 s1
 exact (o130 (d := D.int IntKind.i64 (or64 (sh8 dst) (sh8 src))) [.ret _ _ _ c0, tF, .ret _ _ _ c1, tF, tT, tT, tF, .ret _ _ _ c2] (by kernel_rfl)).to (by rfl)
theorem reads_17_ok (w dst src base disp imm cc : Int) (d0 : 0 ≤ dst) (d1 : dst ≤ 15) (s0 : 0 ≤ src) (s1 : src ≤ 15) (b0 : 0 ≤ base) (b1 : base ≤ 15) (hm : mayX 17 w dst src base disp imm cc = true) : Ret Tryz.prog 130 ([xD 17 w dst src base disp imm cc]) (.int .i64 (readsX 17 dst src base)) := by
 have c0 := @Proofs.YtojgmjfcfpclbaaGreat.mayX_ok 17 w dst src base disp imm cc (by decide)
 rw [show (mayX 17 w dst src base disp imm cc) = true from hm] at c0
 have c1 := @Proofs.YtojgmjfcfpclbaaGreat.of_any_ok 17 (by decide)
 have c2 := @Proofs.YtojgmjfcfpclbaaGreat.set1_ok dst d0 d1
 exact (o130 (d := D.int IntKind.i64 (sh8 dst)) [.ret _ _ _ c0, tF, .ret _ _ _ c1, tF, tF, tF, tF, tT, tF, .ret _ _ _ c2] (by kernel_rfl)).to (by rfl)
theorem reads_18_ok (w dst src base disp imm cc : Int) (d0 : 0 ≤ dst) (d1 : dst ≤ 15) (s0 : 0 ≤ src) (s1 : src ≤ 15) (b0 : 0 ≤ base) (b1 : base ≤ 15) (hm : mayX 18 w dst src base disp imm cc = true) : Ret Tryz.prog 130 ([xD 18 w dst src base disp imm cc]) (.int .i64 (readsX 18 dst src base)) := by
 have c0 := @Proofs.YtojgmjfcfpclbaaGreat.mayX_ok 18 w dst src base disp imm cc (by decide)
 rw [show (mayX 18 w dst src base disp imm cc) = true from hm] at c0
 have c1 := @Proofs.YtojgmjfcfpclbaaGreat.of_any_ok 18 (by decide)
 have c2 := @Proofs.YtojgmjfcfpclbaaGreat.set1_ok dst d0 d1
 exact (o130 (d := D.int IntKind.i64 (sh8 dst)) [.ret _ _ _ c0, tF, .ret _ _ _ c1, tF, tF, tF, tF, tT, tF, .ret _ _ _ c2] (by kernel_rfl)).to (by rfl)
theorem reads_19_ok (w dst src base disp imm cc : Int) (d0 : 0 ≤ dst) (d1 : dst ≤ 15) (s0 : 0 ≤ src) (s1 : src ≤ 15) (b0 : 0 ≤ base) (b1 : base ≤ 15) (hm : mayX 19 w dst src base disp imm cc = true) : Ret Tryz.prog 130 ([xD 19 w dst src base disp imm cc]) (.int .i64 (readsX 19 dst src base)) := by
 have c0 := @Proofs.YtojgmjfcfpclbaaGreat.mayX_ok 19 w dst src base disp imm cc (by decide)
 rw [show (mayX 19 w dst src base disp imm cc) = true from hm] at c0
 have c1 := @Proofs.YtojgmjfcfpclbaaGreat.of_any_ok 19 (by decide)
 have c2 := @Proofs.YtojgmjfcfpclbaaGreat.set1_ok dst d0 d1
 exact (o130 (d := D.int IntKind.i64 (sh8 dst)) [.ret _ _ _ c0, tF, .ret _ _ _ c1, tF, tF, tF, tF, tT, tF, .ret _ _ _ c2] (by kernel_rfl)).to (by rfl)
theorem reads_20_ok (w dst src base disp imm cc : Int) (d0 : 0 ≤ dst) (d1 : dst ≤ 15) (s0 : 0 ≤ src) (s1 : src ≤ 15) (b0 : 0 ≤ base) (b1 : base ≤ 15) (hm : mayX 20 w dst src base disp imm cc = true) : Ret Tryz.prog 130 ([xD 20 w dst src base disp imm cc]) (.int .i64 (readsX 20 dst src base)) := by
 have c0 := @Proofs.YtojgmjfcfpclbaaGreat.mayX_ok 20 w dst src base disp imm cc (by decide)
 rw [show (mayX 20 w dst src base disp imm cc) = true from hm] at c0
 have c1 := @Proofs.YtojgmjfcfpclbaaGreat.of_any_ok 20 (by decide)
 have c2 := @Proofs.YtojgmjfcfpclbaaGreat.set2_ok dst d0 d1 1 (by decide) (by decide)
 exact (o130 (d := D.int IntKind.i64 (or64 (sh8 dst) 2)) [.ret _ _ _ c0, tF, .ret _ _ _ c1, tF, tF, tF, tF, tF, tT, tF, tF, .ret _ _ _ c2] (by kernel_rfl)).to (by rfl)
theorem reads_21_ok (w dst src base disp imm cc : Int) (d0 : 0 ≤ dst) (d1 : dst ≤ 15) (s0 : 0 ≤ src) (s1 : src ≤ 15) (b0 : 0 ≤ base) (b1 : base ≤ 15) (hm : mayX 21 w dst src base disp imm cc = true) : Ret Tryz.prog 130 ([xD 21 w dst src base disp imm cc]) (.int .i64 (readsX 21 dst src base)) := by
 have c0 := @Proofs.YtojgmjfcfpclbaaGreat.mayX_ok 21 w dst src base disp imm cc (by decide)
 rw [show (mayX 21 w dst src base disp imm cc) = true from hm] at c0
 have c1 := @Proofs.YtojgmjfcfpclbaaGreat.of_any_ok 21 (by decide)
 have c2 := @Proofs.YtojgmjfcfpclbaaGreat.set2_ok dst d0 d1 1 (by decide) (by decide)
 exact (o130 (d := D.int IntKind.i64 (or64 (sh8 dst) 2)) [.ret _ _ _ c0, tF, .ret _ _ _ c1, tF, tF, tF, tF, tF, tT, tF, tF, .ret _ _ _ c2] (by kernel_rfl)).to (by rfl)
theorem reads_22_ok (w dst src base disp imm cc : Int) (d0 : 0 ≤ dst) (d1 : dst ≤ 15) (s0 : 0 ≤ src) (s1 : src ≤ 15) (b0 : 0 ≤ base) (b1 : base ≤ 15) (hm : mayX 22 w dst src base disp imm cc = true) : Ret Tryz.prog 130 ([xD 22 w dst src base disp imm cc]) (.int .i64 (readsX 22 dst src base)) := by
 have c0 := @Proofs.YtojgmjfcfpclbaaGreat.mayX_ok 22 w dst src base disp imm cc (by decide)
 rw [show (mayX 22 w dst src base disp imm cc) = true from hm] at c0
 have c1 := @Proofs.YtojgmjfcfpclbaaGreat.of_any_ok 22 (by decide)
 have c2 := @Proofs.YtojgmjfcfpclbaaGreat.set2_ok dst d0 d1 1 (by decide) (by decide)
 exact (o130 (d := D.int IntKind.i64 (or64 (sh8 dst) 2)) [.ret _ _ _ c0, tF, .ret _ _ _ c1, tF, tF, tF, tF, tF, tT, tF, tF, .ret _ _ _ c2] (by kernel_rfl)).to (by rfl)
theorem reads_23_ok (w dst src base disp imm cc : Int) (d0 : 0 ≤ dst) (d1 : dst ≤ 15) (s0 : 0 ≤ src) (s1 : src ≤ 15) (b0 : 0 ≤ base) (b1 : base ≤ 15) (hm : mayX 23 w dst src base disp imm cc = true) : Ret Tryz.prog 130 ([xD 23 w dst src base disp imm cc]) (.int .i64 (readsX 23 dst src base)) := by
 have c0 := @Proofs.YtojgmjfcfpclbaaGreat.mayX_ok 23 w dst src base disp imm cc (by decide)
 rw [show (mayX 23 w dst src base disp imm cc) = true from hm] at c0
 have c1 := @Proofs.YtojgmjfcfpclbaaGreat.of_any_ok 23 (by decide)
 have c2 := @Proofs.YtojgmjfcfpclbaaGreat.set1_ok dst d0 d1
 exact (o130 (d := D.int IntKind.i64 (sh8 dst)) [.ret _ _ _ c0, tF, .ret _ _ _ c1, tF, tF, tF, tF, tF, tT, tT, .ret _ _ _ c2] (by kernel_rfl)).to (by rfl)
theorem reads_24_ok (w dst src base disp imm cc : Int) (d0 : 0 ≤ dst) (d1 : dst ≤ 15) (s0 : 0 ≤ src) (s1 : src ≤ 15) (b0 : 0 ≤ base) (b1 : base ≤ 15) (hm : mayX 24 w dst src base disp imm cc = true) : Ret Tryz.prog 130 ([xD 24 w dst src base disp imm cc]) (.int .i64 (readsX 24 dst src base)) := by
 have c0 := @Proofs.YtojgmjfcfpclbaaGreat.mayX_ok 24 w dst src base disp imm cc (by decide)
 rw [show (mayX 24 w dst src base disp imm cc) = true from hm] at c0
 have c1 := @Proofs.YtojgmjfcfpclbaaGreat.of_any_ok 24 (by decide)
 have c2 := @Proofs.YtojgmjfcfpclbaaGreat.set3_ok dst d0 d1
 exact (o130 (d := D.int IntKind.i64 (or64 (or64 (sh8 dst) 1) 4)) [.ret _ _ _ c0, tF, .ret _ _ _ c1, tF, tF, tF, tF, tF, tT, tF, tT, .ret _ _ _ c2] (by kernel_rfl)).to (by rfl)
theorem reads_25_ok (w dst src base disp imm cc : Int) (d0 : 0 ≤ dst) (d1 : dst ≤ 15) (s0 : 0 ≤ src) (s1 : src ≤ 15) (b0 : 0 ≤ base) (b1 : base ≤ 15) (hm : mayX 25 w dst src base disp imm cc = true) : Ret Tryz.prog 130 ([xD 25 w dst src base disp imm cc]) (.int .i64 (readsX 25 dst src base)) := by
 have c0 := @Proofs.YtojgmjfcfpclbaaGreat.mayX_ok 25 w dst src base disp imm cc (by decide)
 rw [show (mayX 25 w dst src base disp imm cc) = true from hm] at c0
 have c1 := @Proofs.YtojgmjfcfpclbaaGreat.of_any_ok 25 (by decide)
 have c2 := @Proofs.YtojgmjfcfpclbaaGreat.set2_ok dst d0 d1 src s0 s1
 exact (o130 (d := D.int IntKind.i64 (or64 (sh8 dst) (sh8 src))) [.ret _ _ _ c0, tF, .ret _ _ _ c1, tF, tF, tT, tF, .ret _ _ _ c2] (by kernel_rfl)).to (by rfl)
theorem reads_26_ok (w dst src base disp imm cc : Int) (d0 : 0 ≤ dst) (d1 : dst ≤ 15) (s0 : 0 ≤ src) (s1 : src ≤ 15) (b0 : 0 ≤ base) (b1 : base ≤ 15) (hm : mayX 26 w dst src base disp imm cc = true) : Ret Tryz.prog 130 ([xD 26 w dst src base disp imm cc]) (.int .i64 (readsX 26 dst src base)) := by
 have c0 := @Proofs.YtojgmjfcfpclbaaGreat.mayX_ok 26 w dst src base disp imm cc (by decide)
 rw [show (mayX 26 w dst src base disp imm cc) = true from hm] at c0
 have c1 := @Proofs.YtojgmjfcfpclbaaGreat.of_any_ok 26 (by decide)
 have c2 := @Proofs.YtojgmjfcfpclbaaGreat.set1_ok base b0 b1
 exact (o130 (d := D.int IntKind.i64 (sh8 base)) [.ret _ _ _ c0, tF, .ret _ _ _ c1, tF, tF, tF, tF, tF, tF, tT, .ret _ _ _ c2] (by kernel_rfl)).to (by rfl)
theorem reads_27_ok (w dst src base disp imm cc : Int) (d0 : 0 ≤ dst) (d1 : dst ≤ 15) (s0 : 0 ≤ src) (s1 : src ≤ 15) (b0 : 0 ≤ base) (b1 : base ≤ 15) (hm : mayX 27 w dst src base disp imm cc = true) : Ret Tryz.prog 130 ([xD 27 w dst src base disp imm cc]) (.int .i64 (readsX 27 dst src base)) := by
 have c0 := @Proofs.YtojgmjfcfpclbaaGreat.mayX_ok 27 w dst src base disp imm cc (by decide)
 rw [show (mayX 27 w dst src base disp imm cc) = true from hm] at c0
 have c1 := @Proofs.YtojgmjfcfpclbaaGreat.of_any_ok 27 (by decide)
 have c2 := @Proofs.YtojgmjfcfpclbaaGreat.set2_ok base b0 b1 src s0 s1
 exact (o130 (d := D.int IntKind.i64 (or64 (sh8 base) (sh8 src))) [.ret _ _ _ c0, tF, .ret _ _ _ c1, tF, tF, tF, tF, tF, tF, tF, tT, .ret _ _ _ c2] (by kernel_rfl)).to (by rfl)
theorem reads_28_ok (w dst src base disp imm cc : Int) (d0 : 0 ≤ dst) (d1 : dst ≤ 15) (s0 : 0 ≤ src) (s1 : src ≤ 15) (b0 : 0 ≤ base) (b1 : base ≤ 15) (hm : mayX 28 w dst src base disp imm cc = true) : Ret Tryz.prog 130 ([xD 28 w dst src base disp imm cc]) (.int .i64 (readsX 28 dst src base)) := by
 have c0 := @Proofs.YtojgmjfcfpclbaaGreat.mayX_ok 28 w dst src base disp imm cc (by decide)
 rw [show (mayX 28 w dst src base disp imm cc) = true from hm] at c0
 have c1 := @Proofs.YtojgmjfcfpclbaaGreat.of_any_ok 28 (by decide)
 exact (o130 (d := D.int IntKind.i64 0) ([.ret _ _ _ c0, tF, .ret _ _ _ c1] ++ List.replicate 9 tF) (by kernel_rfl)).to (by rfl)
theorem reads_29_ok (w dst src base disp imm cc : Int) (d0 : 0 ≤ dst) (d1 : dst ≤ 15) (s0 : 0 ≤ src) (s1 : src ≤ 15) (b0 : 0 ≤ base) (b1 : base ≤ 15) (hm : mayX 29 w dst src base disp imm cc = true) : Ret Tryz.prog 130 ([xD 29 w dst src base disp imm cc]) (.int .i64 (readsX 29 dst src base)) := by
 have c0 := @Proofs.YtojgmjfcfpclbaaGreat.mayX_ok 29 w dst src base disp imm cc (by decide)
 rw [show (mayX 29 w dst src base disp imm cc) = true from hm] at c0
 have c1 := @Proofs.YtojgmjfcfpclbaaGreat.of_any_ok 29 (by decide)
 exact (o130 (d := D.int IntKind.i64 0) ([.ret _ _ _ c0, tF, .ret _ _ _ c1] ++ List.replicate 9 tF) (by kernel_rfl)).to (by rfl)
theorem reads_30_ok (w dst src base disp imm cc : Int) (d0 : 0 ≤ dst) (d1 : dst ≤ 15) (s0 : 0 ≤ src) (s1 : src ≤ 15) (b0 : 0 ≤ base) (b1 : base ≤ 15) (hm : mayX 30 w dst src base disp imm cc = true) : Ret Tryz.prog 130 ([xD 30 w dst src base disp imm cc]) (.int .i64 (readsX 30 dst src base)) := by
 have c0 := @Proofs.YtojgmjfcfpclbaaGreat.mayX_ok 30 w dst src base disp imm cc (by decide)
 rw [show (mayX 30 w dst src base disp imm cc) = true from hm] at c0
 have c1 := @Proofs.YtojgmjfcfpclbaaGreat.of_any_ok 30 (by decide)
 have c2 := @Proofs.YtojgmjfcfpclbaaGreat.set2_ok 4 (by decide) (by decide) 0 (by decide) (by decide)
 exact (o130 (d := D.int IntKind.i64 17) ([.ret _ _ _ c0, tF, .ret _ _ _ c1] ++ List.replicate 8 tF ++ [tT, tT, .ret _ _ _ c2]) (by kernel_rfl)).to (by rfl)
theorem reads_31_ok (w dst src base disp imm cc : Int) (d0 : 0 ≤ dst) (d1 : dst ≤ 15) (s0 : 0 ≤ src) (s1 : src ≤ 15) (b0 : 0 ≤ base) (b1 : base ≤ 15) (hm : mayX 31 w dst src base disp imm cc = true) : Ret Tryz.prog 130 ([xD 31 w dst src base disp imm cc]) (.int .i64 (readsX 31 dst src base)) := by
 have c0 := @Proofs.YtojgmjfcfpclbaaGreat.mayX_ok 31 w dst src base disp imm cc (by decide)
 rw [show (mayX 31 w dst src base disp imm cc) = true from hm] at c0
 have c1 := @Proofs.YtojgmjfcfpclbaaGreat.of_any_ok 31 (by decide)
 exact (o130 (d := D.int IntKind.i64 1477) ([.ret _ _ _ c0, tF, .ret _ _ _ c1] ++ List.replicate 8 tF ++ [tT, tF, .inl, .go 64, tT, tT, .get ([D.int IntKind.i8 0, D.int IntKind.i8 7, D.int IntKind.i8 6, D.int IntKind.i8 2, D.int IntKind.i8 10, D.int IntKind.i8 8]) 0 (D.int IntKind.i8 0) rfl, tT, tT, tT, .get ([D.int IntKind.i8 0, D.int IntKind.i8 7, D.int IntKind.i8 6, D.int IntKind.i8 2, D.int IntKind.i8 10, D.int IntKind.i8 8]) 1 (D.int IntKind.i8 7) rfl, tT, tT, tT, .get ([D.int IntKind.i8 0, D.int IntKind.i8 7, D.int IntKind.i8 6, D.int IntKind.i8 2, D.int IntKind.i8 10, D.int IntKind.i8 8]) 2 (D.int IntKind.i8 6) rfl, tT, tT, tT, .get ([D.int IntKind.i8 0, D.int IntKind.i8 7, D.int IntKind.i8 6, D.int IntKind.i8 2, D.int IntKind.i8 10, D.int IntKind.i8 8]) 3 (D.int IntKind.i8 2) rfl, tT, tT, tT, .get ([D.int IntKind.i8 0, D.int IntKind.i8 7, D.int IntKind.i8 6, D.int IntKind.i8 2, D.int IntKind.i8 10, D.int IntKind.i8 8]) 4 (D.int IntKind.i8 10) rfl, tT, tT, tT, .get ([D.int IntKind.i8 0, D.int IntKind.i8 7, D.int IntKind.i8 6, D.int IntKind.i8 2, D.int IntKind.i8 10, D.int IntKind.i8 8]) 5 (D.int IntKind.i8 8) rfl, tT, tF]) (by kernel_rfl)).to (by rfl)
theorem reads_no_ok (op w dst src base disp imm cc : Int) (ho : op ≤ 127) (hm : mayX op w dst src base disp imm cc = false) : Ret Tryz.prog 130 ([xD op w dst src base disp imm cc]) (.int .i64 0) := by
 have c0 := @Proofs.YtojgmjfcfpclbaaGreat.mayX_ok op w dst src base disp imm cc ho
 rw [show (mayX op w dst src base disp imm cc) = false from hm] at c0
 exact (o130 (d := D.int IntKind.i64 0) [.ret _ _ _ c0, tT] (by kernel_rfl)).to (by simp [wk])
theorem writes_0_ok (w dst src base disp imm cc : Int) (d0 : 0 ≤ dst) (d1 : dst ≤ 15) (s0 : 0 ≤ src) (s1 : src ≤ 15) (b0 : 0 ≤ base) (b1 : base ≤ 15) (hm : mayX 0 w dst src base disp imm cc = true) : Ret Tryz.prog 111 ([xD 0 w dst src base disp imm cc]) (.int .i64 (writesX 0 dst)) := by
 have c0 := @Proofs.YtojgmjfcfpclbaaGreat.mayX_ok 0 w dst src base disp imm cc (by decide)
 rw [show (mayX 0 w dst src base disp imm cc) = true from hm] at c0
 have c1 := @Proofs.YtojgmjfcfpclbaaGreat.set1_ok dst d0 d1
 exact (o111 (d := D.int IntKind.i64 (sh8 dst)) ([.ret _ _ _ c0] ++ List.replicate 11 tF ++ [.ret _ _ _ c1]) (by kernel_rfl)).to (by rfl)
theorem writes_1_ok (w dst src base disp imm cc : Int) (d0 : 0 ≤ dst) (d1 : dst ≤ 15) (s0 : 0 ≤ src) (s1 : src ≤ 15) (b0 : 0 ≤ base) (b1 : base ≤ 15) (hm : mayX 1 w dst src base disp imm cc = true) : Ret Tryz.prog 111 ([xD 1 w dst src base disp imm cc]) (.int .i64 (writesX 1 dst)) := by
 have c0 := @Proofs.YtojgmjfcfpclbaaGreat.mayX_ok 1 w dst src base disp imm cc (by decide)
 rw [show (mayX 1 w dst src base disp imm cc) = true from hm] at c0
 have c1 := @Proofs.YtojgmjfcfpclbaaGreat.set1_ok dst d0 d1
 exact (o111 (d := D.int IntKind.i64 (sh8 dst)) ([.ret _ _ _ c0] ++ List.replicate 11 tF ++ [.ret _ _ _ c1]) (by kernel_rfl)).to (by rfl)
theorem writes_2_ok (w dst src base disp imm cc : Int) (d0 : 0 ≤ dst) (d1 : dst ≤ 15) (s0 : 0 ≤ src) (s1 : src ≤ 15) (b0 : 0 ≤ base) (b1 : base ≤ 15) (hm : mayX 2 w dst src base disp imm cc = true) : Ret Tryz.prog 111 ([xD 2 w dst src base disp imm cc]) (.int .i64 (writesX 2 dst)) := by
 have c0 := @Proofs.YtojgmjfcfpclbaaGreat.mayX_ok 2 w dst src base disp imm cc (by decide)
 rw [show (mayX 2 w dst src base disp imm cc) = true from hm] at c0
 have c1 := @Proofs.YtojgmjfcfpclbaaGreat.set1_ok dst d0 d1
 exact (o111 (d := D.int IntKind.i64 (sh8 dst)) ([.ret _ _ _ c0] ++ List.replicate 11 tF ++ [.ret _ _ _ c1]) (by kernel_rfl)).to (by rfl)
theorem writes_3_ok (w dst src base disp imm cc : Int) (d0 : 0 ≤ dst) (d1 : dst ≤ 15) (s0 : 0 ≤ src) (s1 : src ≤ 15) (b0 : 0 ≤ base) (b1 : base ≤ 15) (hm : mayX 3 w dst src base disp imm cc = true) : Ret Tryz.prog 111 ([xD 3 w dst src base disp imm cc]) (.int .i64 (writesX 3 dst)) := by
 have c0 := @Proofs.YtojgmjfcfpclbaaGreat.mayX_ok 3 w dst src base disp imm cc (by decide)
 rw [show (mayX 3 w dst src base disp imm cc) = true from hm] at c0
 have c1 := @Proofs.YtojgmjfcfpclbaaGreat.set1_ok dst d0 d1
 exact (o111 (d := D.int IntKind.i64 (sh8 dst)) ([.ret _ _ _ c0] ++ List.replicate 11 tF ++ [.ret _ _ _ c1]) (by kernel_rfl)).to (by rfl)
theorem writes_4_ok (w dst src base disp imm cc : Int) (d0 : 0 ≤ dst) (d1 : dst ≤ 15) (s0 : 0 ≤ src) (s1 : src ≤ 15) (b0 : 0 ≤ base) (b1 : base ≤ 15) (hm : mayX 4 w dst src base disp imm cc = true) : Ret Tryz.prog 111 ([xD 4 w dst src base disp imm cc]) (.int .i64 (writesX 4 dst)) := by
 have c0 := @Proofs.YtojgmjfcfpclbaaGreat.mayX_ok 4 w dst src base disp imm cc (by decide)
 rw [show (mayX 4 w dst src base disp imm cc) = true from hm] at c0
 have c1 := @Proofs.YtojgmjfcfpclbaaGreat.set1_ok dst d0 d1
 exact (o111 (d := D.int IntKind.i64 (sh8 dst)) ([.ret _ _ _ c0] ++ List.replicate 11 tF ++ [.ret _ _ _ c1]) (by kernel_rfl)).to (by rfl)
theorem writes_5_ok (w dst src base disp imm cc : Int) (d0 : 0 ≤ dst) (d1 : dst ≤ 15) (s0 : 0 ≤ src) (s1 : src ≤ 15) (b0 : 0 ≤ base) (b1 : base ≤ 15) (hm : mayX 5 w dst src base disp imm cc = true) : Ret Tryz.prog 111 ([xD 5 w dst src base disp imm cc]) (.int .i64 (writesX 5 dst)) := by
 have c0 := @Proofs.YtojgmjfcfpclbaaGreat.mayX_ok 5 w dst src base disp imm cc (by decide)
 rw [show (mayX 5 w dst src base disp imm cc) = true from hm] at c0
 have c1 := @Proofs.YtojgmjfcfpclbaaGreat.set1_ok dst d0 d1
 exact (o111 (d := D.int IntKind.i64 (sh8 dst)) ([.ret _ _ _ c0] ++ List.replicate 11 tF ++ [.ret _ _ _ c1]) (by kernel_rfl)).to (by rfl)
theorem writes_6_ok (w dst src base disp imm cc : Int) (d0 : 0 ≤ dst) (d1 : dst ≤ 15) (s0 : 0 ≤ src) (s1 : src ≤ 15) (b0 : 0 ≤ base) (b1 : base ≤ 15) (hm : mayX 6 w dst src base disp imm cc = true) : Ret Tryz.prog 111 ([xD 6 w dst src base disp imm cc]) (.int .i64 (writesX 6 dst)) := by
 have c0 := @Proofs.YtojgmjfcfpclbaaGreat.mayX_ok 6 w dst src base disp imm cc (by decide)
 rw [show (mayX 6 w dst src base disp imm cc) = true from hm] at c0
 have c1 := @Proofs.YtojgmjfcfpclbaaGreat.set1_ok dst d0 d1
 exact (o111 (d := D.int IntKind.i64 (sh8 dst)) ([.ret _ _ _ c0] ++ List.replicate 11 tF ++ [.ret _ _ _ c1]) (by kernel_rfl)).to (by rfl)
theorem writes_7_ok (w dst src base disp imm cc : Int) (d0 : 0 ≤ dst) (d1 : dst ≤ 15) (s0 : 0 ≤ src) (s1 : src ≤ 15) (b0 : 0 ≤ base) (b1 : base ≤ 15) (hm : mayX 7 w dst src base disp imm cc = true) : Ret Tryz.prog 111 ([xD 7 w dst src base disp imm cc]) (.int .i64 (writesX 7 dst)) := by
 have c0 := @Proofs.YtojgmjfcfpclbaaGreat.mayX_ok 7 w dst src base disp imm cc (by decide)
 rw [show (mayX 7 w dst src base disp imm cc) = true from hm] at c0
 exact (o111 (d := D.int IntKind.i64 0) [.ret _ _ _ c0, tF, tT, tT] (by kernel_rfl)).to (by rfl)
theorem writes_8_ok (w dst src base disp imm cc : Int) (d0 : 0 ≤ dst) (d1 : dst ≤ 15) (s0 : 0 ≤ src) (s1 : src ≤ 15) (b0 : 0 ≤ base) (b1 : base ≤ 15) (hm : mayX 8 w dst src base disp imm cc = true) : Ret Tryz.prog 111 ([xD 8 w dst src base disp imm cc]) (.int .i64 (writesX 8 dst)) := by
 have c0 := @Proofs.YtojgmjfcfpclbaaGreat.mayX_ok 8 w dst src base disp imm cc (by decide)
 rw [show (mayX 8 w dst src base disp imm cc) = true from hm] at c0
 exact (o111 (d := D.int IntKind.i64 0) [.ret _ _ _ c0, tF, tF, tT, tT] (by kernel_rfl)).to (by rfl)
theorem writes_9_ok (w dst src base disp imm cc : Int) (d0 : 0 ≤ dst) (d1 : dst ≤ 15) (s0 : 0 ≤ src) (s1 : src ≤ 15) (b0 : 0 ≤ base) (b1 : base ≤ 15) (hm : mayX 9 w dst src base disp imm cc = true) : Ret Tryz.prog 111 ([xD 9 w dst src base disp imm cc]) (.int .i64 (writesX 9 dst)) := by
 have c0 := @Proofs.YtojgmjfcfpclbaaGreat.mayX_ok 9 w dst src base disp imm cc (by decide)
 rw [show (mayX 9 w dst src base disp imm cc) = true from hm] at c0
 have c1 := @Proofs.YtojgmjfcfpclbaaGreat.set1_ok dst d0 d1
 exact (o111 (d := D.int IntKind.i64 (sh8 dst)) ([.ret _ _ _ c0] ++ List.replicate 11 tF ++ [.ret _ _ _ c1]) (by kernel_rfl)).to (by rfl)
theorem writes_10_ok (w dst src base disp imm cc : Int) (d0 : 0 ≤ dst) (d1 : dst ≤ 15) (s0 : 0 ≤ src) (s1 : src ≤ 15) (b0 : 0 ≤ base) (b1 : base ≤ 15) (hm : mayX 10 w dst src base disp imm cc = true) : Ret Tryz.prog 111 ([xD 10 w dst src base disp imm cc]) (.int .i64 (writesX 10 dst)) := by
 have c0 := @Proofs.YtojgmjfcfpclbaaGreat.mayX_ok 10 w dst src base disp imm cc (by decide)
 rw [show (mayX 10 w dst src base disp imm cc) = true from hm] at c0
 have c1 := @Proofs.YtojgmjfcfpclbaaGreat.set1_ok dst d0 d1
 exact (o111 (d := D.int IntKind.i64 (sh8 dst)) ([.ret _ _ _ c0] ++ List.replicate 11 tF ++ [.ret _ _ _ c1]) (by kernel_rfl)).to (by rfl)
theorem writes_11_ok (w dst src base disp imm cc : Int) (d0 : 0 ≤ dst) (d1 : dst ≤ 15) (s0 : 0 ≤ src) (s1 : src ≤ 15) (b0 : 0 ≤ base) (b1 : base ≤ 15) (hm : mayX 11 w dst src base disp imm cc = true) : Ret Tryz.prog 111 ([xD 11 w dst src base disp imm cc]) (.int .i64 (writesX 11 dst)) := by
 have c0 := @Proofs.YtojgmjfcfpclbaaGreat.mayX_ok 11 w dst src base disp imm cc (by decide)
 rw [show (mayX 11 w dst src base disp imm cc) = true from hm] at c0
 have c1 := @Proofs.YtojgmjfcfpclbaaGreat.set1_ok dst d0 d1
 exact (o111 (d := D.int IntKind.i64 (sh8 dst)) ([.ret _ _ _ c0] ++ List.replicate 11 tF ++ [.ret _ _ _ c1]) (by kernel_rfl)).to (by rfl)
theorem writes_12_ok (w dst src base disp imm cc : Int) (d0 : 0 ≤ dst) (d1 : dst ≤ 15) (s0 : 0 ≤ src) (s1 : src ≤ 15) (b0 : 0 ≤ base) (b1 : base ≤ 15) (hm : mayX 12 w dst src base disp imm cc = true) : Ret Tryz.prog 111 ([xD 12 w dst src base disp imm cc]) (.int .i64 (writesX 12 dst)) := by
 have c0 := @Proofs.YtojgmjfcfpclbaaGreat.mayX_ok 12 w dst src base disp imm cc (by decide)
 rw [show (mayX 12 w dst src base disp imm cc) = true from hm] at c0
 have c1 := @Proofs.YtojgmjfcfpclbaaGreat.set1_ok dst d0 d1
 exact (o111 (d := D.int IntKind.i64 (sh8 dst)) ([.ret _ _ _ c0] ++ List.replicate 11 tF ++ [.ret _ _ _ c1]) (by kernel_rfl)).to (by rfl)
theorem writes_13_ok (w dst src base disp imm cc : Int) (d0 : 0 ≤ dst) (d1 : dst ≤ 15) (s0 : 0 ≤ src) (s1 : src ≤ 15) (b0 : 0 ≤ base) (b1 : base ≤ 15) (hm : mayX 13 w dst src base disp imm cc = true) : Ret Tryz.prog 111 ([xD 13 w dst src base disp imm cc]) (.int .i64 (writesX 13 dst)) := by
 have c0 := @Proofs.YtojgmjfcfpclbaaGreat.mayX_ok 13 w dst src base disp imm cc (by decide)
 rw [show (mayX 13 w dst src base disp imm cc) = true from hm] at c0
 have c1 := @Proofs.YtojgmjfcfpclbaaGreat.set1_ok dst d0 d1
 exact (o111 (d := D.int IntKind.i64 (sh8 dst)) ([.ret _ _ _ c0] ++ List.replicate 11 tF ++ [.ret _ _ _ c1]) (by kernel_rfl)).to (by rfl)
theorem writes_14_ok (w dst src base disp imm cc : Int) (d0 : 0 ≤ dst) (d1 : dst ≤ 15) (s0 : 0 ≤ src) (s1 : src ≤ 15) (b0 : 0 ≤ base) (b1 : base ≤ 15) (hm : mayX 14 w dst src base disp imm cc = true) : Ret Tryz.prog 111 ([xD 14 w dst src base disp imm cc]) (.int .i64 (writesX 14 dst)) := by
 have c0 := @Proofs.YtojgmjfcfpclbaaGreat.mayX_ok 14 w dst src base disp imm cc (by decide)
 rw [show (mayX 14 w dst src base disp imm cc) = true from hm] at c0
 exact (o111 (d := D.int IntKind.i64 0) [.ret _ _ _ c0, tF, tF, tF, tT, tT] (by kernel_rfl)).to (by rfl)
theorem writes_15_ok (w dst src base disp imm cc : Int) (d0 : 0 ≤ dst) (d1 : dst ≤ 15) (s0 : 0 ≤ src) (s1 : src ≤ 15) (b0 : 0 ≤ base) (b1 : base ≤ 15) (hm : mayX 15 w dst src base disp imm cc = true) : Ret Tryz.prog 111 ([xD 15 w dst src base disp imm cc]) (.int .i64 (writesX 15 dst)) := by
 have c0 := @Proofs.YtojgmjfcfpclbaaGreat.mayX_ok 15 w dst src base disp imm cc (by decide)
 rw [show (mayX 15 w dst src base disp imm cc) = true from hm] at c0
 exact (o111 (d := D.int IntKind.i64 0) [.ret _ _ _ c0, tF, tF, tF, tF, tT, tT] (by kernel_rfl)).to (by rfl)
theorem writes_16_ok (w dst src base disp imm cc : Int) (d0 : 0 ≤ dst) (d1 : dst ≤ 15) (s0 : 0 ≤ src) (s1 : src ≤ 15) (b0 : 0 ≤ base) (b1 : base ≤ 15) (hm : mayX 16 w dst src base disp imm cc = true) : Ret Tryz.prog 111 ([xD 16 w dst src base disp imm cc]) (.int .i64 (writesX 16 dst)) := by
 have c0 := @Proofs.YtojgmjfcfpclbaaGreat.mayX_ok 16 w dst src base disp imm cc (by decide)
 rw [show (mayX 16 w dst src base disp imm cc) = true from hm] at c0
 have c1 := @Proofs.YtojgmjfcfpclbaaGreat.set1_ok dst d0 d1
 exact (o111 (d := D.int IntKind.i64 (sh8 dst)) ([.ret _ _ _ c0] ++ List.replicate 11 tF ++ [.ret _ _ _ c1]) (by kernel_rfl)).to (by rfl)
theorem writes_17_ok (w dst src base disp imm cc : Int) (d0 : 0 ≤ dst) (d1 : dst ≤ 15) (s0 : 0 ≤ src) (s1 : src ≤ 15) (b0 : 0 ≤ base) (b1 : base ≤ 15) (hm : mayX 17 w dst src base disp imm cc = true) : Ret Tryz.prog 111 ([xD 17 w dst src base disp imm cc]) (.int .i64 (writesX 17 dst)) := by
 have c0 := @Proofs.YtojgmjfcfpclbaaGreat.mayX_ok 17 w dst src base disp imm cc (by decide)
 rw [show (mayX 17 w dst src base disp imm cc) = true from hm] at c0
 have c1 := @Proofs.YtojgmjfcfpclbaaGreat.set1_ok dst d0 d1
 exact (o111 (d := D.int IntKind.i64 (sh8 dst)) ([.ret _ _ _ c0] ++ List.replicate 11 tF ++ [.ret _ _ _ c1]) (by kernel_rfl)).to (by rfl)
theorem writes_18_ok (w dst src base disp imm cc : Int) (d0 : 0 ≤ dst) (d1 : dst ≤ 15) (s0 : 0 ≤ src) (s1 : src ≤ 15) (b0 : 0 ≤ base) (b1 : base ≤ 15) (hm : mayX 18 w dst src base disp imm cc = true) : Ret Tryz.prog 111 ([xD 18 w dst src base disp imm cc]) (.int .i64 (writesX 18 dst)) := by
 have c0 := @Proofs.YtojgmjfcfpclbaaGreat.mayX_ok 18 w dst src base disp imm cc (by decide)
 rw [show (mayX 18 w dst src base disp imm cc) = true from hm] at c0
 have c1 := @Proofs.YtojgmjfcfpclbaaGreat.set1_ok dst d0 d1
 exact (o111 (d := D.int IntKind.i64 (sh8 dst)) ([.ret _ _ _ c0] ++ List.replicate 11 tF ++ [.ret _ _ _ c1]) (by kernel_rfl)).to (by rfl)
theorem writes_19_ok (w dst src base disp imm cc : Int) (d0 : 0 ≤ dst) (d1 : dst ≤ 15) (s0 : 0 ≤ src) (s1 : src ≤ 15) (b0 : 0 ≤ base) (b1 : base ≤ 15) (hm : mayX 19 w dst src base disp imm cc = true) : Ret Tryz.prog 111 ([xD 19 w dst src base disp imm cc]) (.int .i64 (writesX 19 dst)) := by
 have c0 := @Proofs.YtojgmjfcfpclbaaGreat.mayX_ok 19 w dst src base disp imm cc (by decide)
 rw [show (mayX 19 w dst src base disp imm cc) = true from hm] at c0
 have c1 := @Proofs.YtojgmjfcfpclbaaGreat.set1_ok dst d0 d1
 exact (o111 (d := D.int IntKind.i64 (sh8 dst)) ([.ret _ _ _ c0] ++ List.replicate 11 tF ++ [.ret _ _ _ c1]) (by kernel_rfl)).to (by rfl)
theorem writes_20_ok (w dst src base disp imm cc : Int) (d0 : 0 ≤ dst) (d1 : dst ≤ 15) (s0 : 0 ≤ src) (s1 : src ≤ 15) (b0 : 0 ≤ base) (b1 : base ≤ 15) (hm : mayX 20 w dst src base disp imm cc = true) : Ret Tryz.prog 111 ([xD 20 w dst src base disp imm cc]) (.int .i64 (writesX 20 dst)) := by
 have c0 := @Proofs.YtojgmjfcfpclbaaGreat.mayX_ok 20 w dst src base disp imm cc (by decide)
 rw [show (mayX 20 w dst src base disp imm cc) = true from hm] at c0
 have c1 := @Proofs.YtojgmjfcfpclbaaGreat.set1_ok dst d0 d1
 exact (o111 (d := D.int IntKind.i64 (sh8 dst)) ([.ret _ _ _ c0] ++ List.replicate 11 tF ++ [.ret _ _ _ c1]) (by kernel_rfl)).to (by rfl)
theorem writes_21_ok (w dst src base disp imm cc : Int) (d0 : 0 ≤ dst) (d1 : dst ≤ 15) (s0 : 0 ≤ src) (s1 : src ≤ 15) (b0 : 0 ≤ base) (b1 : base ≤ 15) (hm : mayX 21 w dst src base disp imm cc = true) : Ret Tryz.prog 111 ([xD 21 w dst src base disp imm cc]) (.int .i64 (writesX 21 dst)) := by
 have c0 := @Proofs.YtojgmjfcfpclbaaGreat.mayX_ok 21 w dst src base disp imm cc (by decide)
 rw [show (mayX 21 w dst src base disp imm cc) = true from hm] at c0
 have c1 := @Proofs.YtojgmjfcfpclbaaGreat.set1_ok dst d0 d1
 exact (o111 (d := D.int IntKind.i64 (sh8 dst)) ([.ret _ _ _ c0] ++ List.replicate 11 tF ++ [.ret _ _ _ c1]) (by kernel_rfl)).to (by rfl)
theorem writes_22_ok (w dst src base disp imm cc : Int) (d0 : 0 ≤ dst) (d1 : dst ≤ 15) (s0 : 0 ≤ src) (s1 : src ≤ 15) (b0 : 0 ≤ base) (b1 : base ≤ 15) (hm : mayX 22 w dst src base disp imm cc = true) : Ret Tryz.prog 111 ([xD 22 w dst src base disp imm cc]) (.int .i64 (writesX 22 dst)) := by
 have c0 := @Proofs.YtojgmjfcfpclbaaGreat.mayX_ok 22 w dst src base disp imm cc (by decide)
 rw [show (mayX 22 w dst src base disp imm cc) = true from hm] at c0
 have c1 := @Proofs.YtojgmjfcfpclbaaGreat.set1_ok dst d0 d1
 exact (o111 (d := D.int IntKind.i64 (sh8 dst)) ([.ret _ _ _ c0] ++ List.replicate 11 tF ++ [.ret _ _ _ c1]) (by kernel_rfl)).to (by rfl)
theorem writes_23_ok (w dst src base disp imm cc : Int) (d0 : 0 ≤ dst) (d1 : dst ≤ 15) (s0 : 0 ≤ src) (s1 : src ≤ 15) (b0 : 0 ≤ base) (b1 : base ≤ 15) (hm : mayX 23 w dst src base disp imm cc = true) : Ret Tryz.prog 111 ([xD 23 w dst src base disp imm cc]) (.int .i64 (writesX 23 dst)) := by
 have c0 := @Proofs.YtojgmjfcfpclbaaGreat.mayX_ok 23 w dst src base disp imm cc (by decide)
 rw [show (mayX 23 w dst src base disp imm cc) = true from hm] at c0
 have c1 := @Proofs.YtojgmjfcfpclbaaGreat.set1_ok dst d0 d1
 exact (o111 (d := D.int IntKind.i64 (sh8 dst)) ([.ret _ _ _ c0] ++ List.replicate 11 tF ++ [.ret _ _ _ c1]) (by kernel_rfl)).to (by rfl)
theorem writes_24_ok (w dst src base disp imm cc : Int) (d0 : 0 ≤ dst) (d1 : dst ≤ 15) (s0 : 0 ≤ src) (s1 : src ≤ 15) (b0 : 0 ≤ base) (b1 : base ≤ 15) (hm : mayX 24 w dst src base disp imm cc = true) : Ret Tryz.prog 111 ([xD 24 w dst src base disp imm cc]) (.int .i64 (writesX 24 dst)) := by
 have c0 := @Proofs.YtojgmjfcfpclbaaGreat.mayX_ok 24 w dst src base disp imm cc (by decide)
 rw [show (mayX 24 w dst src base disp imm cc) = true from hm] at c0
 have c1 := @Proofs.YtojgmjfcfpclbaaGreat.set2_ok 0 (by decide) (by decide) 2 (by decide) (by decide)
 exact (o111 (d := D.int IntKind.i64 5) ([.ret _ _ _ c0] ++ List.replicate 8 tF ++ [tT, .ret _ _ _ c1]) (by kernel_rfl)).to (by rfl)
theorem writes_25_ok (w dst src base disp imm cc : Int) (d0 : 0 ≤ dst) (d1 : dst ≤ 15) (s0 : 0 ≤ src) (s1 : src ≤ 15) (b0 : 0 ≤ base) (b1 : base ≤ 15) (hm : mayX 25 w dst src base disp imm cc = true) : Ret Tryz.prog 111 ([xD 25 w dst src base disp imm cc]) (.int .i64 (writesX 25 dst)) := by
 have c0 := @Proofs.YtojgmjfcfpclbaaGreat.mayX_ok 25 w dst src base disp imm cc (by decide)
 rw [show (mayX 25 w dst src base disp imm cc) = true from hm] at c0
 have c1 := @Proofs.YtojgmjfcfpclbaaGreat.set1_ok dst d0 d1
 exact (o111 (d := D.int IntKind.i64 (sh8 dst)) ([.ret _ _ _ c0] ++ List.replicate 11 tF ++ [.ret _ _ _ c1]) (by kernel_rfl)).to (by rfl)
theorem writes_26_ok (w dst src base disp imm cc : Int) (d0 : 0 ≤ dst) (d1 : dst ≤ 15) (s0 : 0 ≤ src) (s1 : src ≤ 15) (b0 : 0 ≤ base) (b1 : base ≤ 15) (hm : mayX 26 w dst src base disp imm cc = true) : Ret Tryz.prog 111 ([xD 26 w dst src base disp imm cc]) (.int .i64 (writesX 26 dst)) := by
 have c0 := @Proofs.YtojgmjfcfpclbaaGreat.mayX_ok 26 w dst src base disp imm cc (by decide)
 rw [show (mayX 26 w dst src base disp imm cc) = true from hm] at c0
 have c1 := @Proofs.YtojgmjfcfpclbaaGreat.set1_ok dst d0 d1
 exact (o111 (d := D.int IntKind.i64 (sh8 dst)) ([.ret _ _ _ c0] ++ List.replicate 11 tF ++ [.ret _ _ _ c1]) (by kernel_rfl)).to (by rfl)
theorem writes_27_ok (w dst src base disp imm cc : Int) (d0 : 0 ≤ dst) (d1 : dst ≤ 15) (s0 : 0 ≤ src) (s1 : src ≤ 15) (b0 : 0 ≤ base) (b1 : base ≤ 15) (hm : mayX 27 w dst src base disp imm cc = true) : Ret Tryz.prog 111 ([xD 27 w dst src base disp imm cc]) (.int .i64 (writesX 27 dst)) := by
 have c0 := @Proofs.YtojgmjfcfpclbaaGreat.mayX_ok 27 w dst src base disp imm cc (by decide)
 rw [show (mayX 27 w dst src base disp imm cc) = true from hm] at c0
 exact (o111 (d := D.int IntKind.i64 0) [.ret _ _ _ c0, tF, tF, tF, tF, tF, tT, tT] (by kernel_rfl)).to (by rfl)
theorem writes_28_ok (w dst src base disp imm cc : Int) (d0 : 0 ≤ dst) (d1 : dst ≤ 15) (s0 : 0 ≤ src) (s1 : src ≤ 15) (b0 : 0 ≤ base) (b1 : base ≤ 15) (hm : mayX 28 w dst src base disp imm cc = true) : Ret Tryz.prog 111 ([xD 28 w dst src base disp imm cc]) (.int .i64 (writesX 28 dst)) := by
 have c0 := @Proofs.YtojgmjfcfpclbaaGreat.mayX_ok 28 w dst src base disp imm cc (by decide)
 rw [show (mayX 28 w dst src base disp imm cc) = true from hm] at c0
 exact (o111 (d := D.int IntKind.i64 0) [.ret _ _ _ c0, tF, tF, tF, tF, tF, tF, tT, tT] (by kernel_rfl)).to (by rfl)
theorem writes_29_ok (w dst src base disp imm cc : Int) (d0 : 0 ≤ dst) (d1 : dst ≤ 15) (s0 : 0 ≤ src) (s1 : src ≤ 15) (b0 : 0 ≤ base) (b1 : base ≤ 15) (hm : mayX 29 w dst src base disp imm cc = true) : Ret Tryz.prog 111 ([xD 29 w dst src base disp imm cc]) (.int .i64 (writesX 29 dst)) := by
 have c0 := @Proofs.YtojgmjfcfpclbaaGreat.mayX_ok 29 w dst src base disp imm cc (by decide)
 rw [show (mayX 29 w dst src base disp imm cc) = true from hm] at c0
 exact (o111 (d := D.int IntKind.i64 0) [.ret _ _ _ c0, tF, tF, tF, tF, tF, tF, tF, tT] (by kernel_rfl)).to (by rfl)
theorem writes_30_ok (w dst src base disp imm cc : Int) (d0 : 0 ≤ dst) (d1 : dst ≤ 15) (s0 : 0 ≤ src) (s1 : src ≤ 15) (b0 : 0 ≤ base) (b1 : base ≤ 15) (hm : mayX 30 w dst src base disp imm cc = true) : Ret Tryz.prog 111 ([xD 30 w dst src base disp imm cc]) (.int .i64 (writesX 30 dst)) := by
 have c0 := @Proofs.YtojgmjfcfpclbaaGreat.mayX_ok 30 w dst src base disp imm cc (by decide)
 rw [show (mayX 30 w dst src base disp imm cc) = true from hm] at c0
 have c1 := @Proofs.YtojgmjfcfpclbaaGreat.set1_ok 4 (by decide) (by decide)
 exact (o111 (d := D.int IntKind.i64 16) ([.ret _ _ _ c0] ++ List.replicate 9 tF ++ [tT, .ret _ _ _ c1]) (by kernel_rfl)).to (by rfl)
theorem writes_31_ok (w dst src base disp imm cc : Int) (d0 : 0 ≤ dst) (d1 : dst ≤ 15) (s0 : 0 ≤ src) (s1 : src ≤ 15) (b0 : 0 ≤ base) (b1 : base ≤ 15) (hm : mayX 31 w dst src base disp imm cc = true) : Ret Tryz.prog 111 ([xD 31 w dst src base disp imm cc]) (.int .i64 (writesX 31 dst)) := by
 have c0 := @Proofs.YtojgmjfcfpclbaaGreat.mayX_ok 31 w dst src base disp imm cc (by decide)
 rw [show (mayX 31 w dst src base disp imm cc) = true from hm] at c0
 exact (o111 (d := D.int IntKind.i64 2051) ([.ret _ _ _ c0] ++ List.replicate 10 tF ++ [tT, .inl, .go 64, tT, tT, .get ([D.int IntKind.i8 0, D.int IntKind.i8 1, D.int IntKind.i8 11]) 0 (D.int IntKind.i8 0) rfl, tT, tT, tT, .get ([D.int IntKind.i8 0, D.int IntKind.i8 1, D.int IntKind.i8 11]) 1 (D.int IntKind.i8 1) rfl, tT, tT, tT, .get ([D.int IntKind.i8 0, D.int IntKind.i8 1, D.int IntKind.i8 11]) 2 (D.int IntKind.i8 11) rfl, tT, tF]) (by kernel_rfl)).to (by rfl)
theorem writes_no_ok (op w dst src base disp imm cc : Int) (ho : op ≤ 127) (hm : mayX op w dst src base disp imm cc = false) : Ret Tryz.prog 111 ([xD op w dst src base disp imm cc]) (.int .i64 0) := by
 have c0 := @Proofs.YtojgmjfcfpclbaaGreat.mayX_ok op w dst src base disp imm cc ho
 rw [show (mayX op w dst src base disp imm cc) = false from hm] at c0
 exact (o111 (d := D.int IntKind.i64 0) [.ret _ _ _ c0, tT] (by kernel_rfl)).to (by simp [wk])
end Go.Proofs.YtojgmjfcfpclbaaGreat

namespace Go.Proofs.YtojgmjfcfpclbaaGreat
open Go Go.Ev
theorem mayX_sh {op w dst src base disp imm cc : Int} (h : mayX op w dst src base disp imm cc = true) : shapeM op ≠ 0 := by
  have hs := (mayX_parts h).2
  intro e
  rw [e] at hs
  simp [mayS] at hs
theorem writes_any_ok (op w dst src base disp imm cc : Int) (ho : op ≤ 127) : Ret Tryz.prog 111 [xD op w dst src base disp imm cc] (.int .i64 (writesXX op w dst src base disp imm cc)) := by
  unfold writesXX
  cases h : mayX op w dst src base disp imm cc
  · simp only [Bool.false_eq_true, if_false]
    exact writes_no_ok op w dst src base disp imm cc ho h
  · simp only [if_true]
    obtain ⟨⟨d0, d1, s0, s1, b0, b1, p0, p1, i0, i1⟩, hs⟩ := mayX_parts h
    have hsh := mayX_sh h
    clear hs
    rcases shape_ops hsh with rfl | rfl | rfl | rfl | rfl | rfl | rfl | rfl | rfl | rfl | rfl | rfl | rfl | rfl | rfl | rfl | rfl | rfl | rfl | rfl | rfl | rfl | rfl | rfl | rfl | rfl | rfl | rfl | rfl | rfl | rfl | rfl
    · exact writes_0_ok _ _ _ _ _ _ _ d0 d1 s0 s1 b0 b1 h
    · exact writes_1_ok _ _ _ _ _ _ _ d0 d1 s0 s1 b0 b1 h
    · exact writes_2_ok _ _ _ _ _ _ _ d0 d1 s0 s1 b0 b1 h
    · exact writes_3_ok _ _ _ _ _ _ _ d0 d1 s0 s1 b0 b1 h
    · exact writes_4_ok _ _ _ _ _ _ _ d0 d1 s0 s1 b0 b1 h
    · exact writes_5_ok _ _ _ _ _ _ _ d0 d1 s0 s1 b0 b1 h
    · exact writes_6_ok _ _ _ _ _ _ _ d0 d1 s0 s1 b0 b1 h
    · exact writes_7_ok _ _ _ _ _ _ _ d0 d1 s0 s1 b0 b1 h
    · exact writes_8_ok _ _ _ _ _ _ _ d0 d1 s0 s1 b0 b1 h
    · exact writes_9_ok _ _ _ _ _ _ _ d0 d1 s0 s1 b0 b1 h
    · exact writes_10_ok _ _ _ _ _ _ _ d0 d1 s0 s1 b0 b1 h
    · exact writes_11_ok _ _ _ _ _ _ _ d0 d1 s0 s1 b0 b1 h
    · exact writes_12_ok _ _ _ _ _ _ _ d0 d1 s0 s1 b0 b1 h
    · exact writes_13_ok _ _ _ _ _ _ _ d0 d1 s0 s1 b0 b1 h
    · exact writes_14_ok _ _ _ _ _ _ _ d0 d1 s0 s1 b0 b1 h
    · exact writes_15_ok _ _ _ _ _ _ _ d0 d1 s0 s1 b0 b1 h
    · exact writes_16_ok _ _ _ _ _ _ _ d0 d1 s0 s1 b0 b1 h
    · exact writes_17_ok _ _ _ _ _ _ _ d0 d1 s0 s1 b0 b1 h
    · exact writes_18_ok _ _ _ _ _ _ _ d0 d1 s0 s1 b0 b1 h
    · exact writes_19_ok _ _ _ _ _ _ _ d0 d1 s0 s1 b0 b1 h
    · exact writes_20_ok _ _ _ _ _ _ _ d0 d1 s0 s1 b0 b1 h
    · exact writes_21_ok _ _ _ _ _ _ _ d0 d1 s0 s1 b0 b1 h
    · exact writes_22_ok _ _ _ _ _ _ _ d0 d1 s0 s1 b0 b1 h
    · exact writes_23_ok _ _ _ _ _ _ _ d0 d1 s0 s1 b0 b1 h
    · exact writes_24_ok _ _ _ _ _ _ _ d0 d1 s0 s1 b0 b1 h
    · exact writes_25_ok _ _ _ _ _ _ _ d0 d1 s0 s1 b0 b1 h
    · exact writes_26_ok _ _ _ _ _ _ _ d0 d1 s0 s1 b0 b1 h
    · exact writes_27_ok _ _ _ _ _ _ _ d0 d1 s0 s1 b0 b1 h
    · exact writes_28_ok _ _ _ _ _ _ _ d0 d1 s0 s1 b0 b1 h
    · exact writes_29_ok _ _ _ _ _ _ _ d0 d1 s0 s1 b0 b1 h
    · exact writes_30_ok _ _ _ _ _ _ _ d0 d1 s0 s1 b0 b1 h
    · exact writes_31_ok _ _ _ _ _ _ _ d0 d1 s0 s1 b0 b1 h
end Go.Proofs.YtojgmjfcfpclbaaGreat

namespace Go.Proofs.YtojgmjfcfpclbaaGreat
open Go Go.Ev
end Go.Proofs.YtojgmjfcfpclbaaGreat

namespace Go.Proofs.YtojgmjfcfpclbaaGreat
open Go Go.Ev
set_option maxRecDepth 100000
set_option maxHeartbeats 8000000
theorem rdo_12_ok (w a b : Int) (hw : longM w = true) : Ret Tryz.prog 42 ([.int .i8 12, .int .i8 w, .int .u64 a, .int .u64 b]) (.tup [.int .u64 (doM 12 w a b), .int .i64 0]) := by
 have c0 := @rlong01_ok w
 rw [show (longM w) = true from hw] at c0
 have c1 := @rcut_l_ok a w hw
 have c2 := @rcut_l_ok b w hw
 have c3 := @rsign_l_ok (cutM a w) w hw
 have c4 := @rcut_l_ok (IntKind.wrap IntKind.u64 (Int.fdiv (IntKind.wrap IntKind.i64 (signM (cutM a w) w)) (2 ^ min (Int.toNat (IntKind.wrap IntKind.u64 (↑(BitVec.toNat (BitVec.ofInt (64 : Nat) (cutM b w) &&& BitVec.ofInt (64 : Nat) (IntKind.wrap IntKind.u64 (IntKind.wrap IntKind.i8 (w - 1))))) : Int))) (64 : Nat)))) w hw
 exact (o42 (d := .tup [.int .u64 (cutM (IntKind.wrap IntKind.u64 (Int.fdiv (IntKind.wrap IntKind.i64 (signM (cutM a w) w)) (2 ^ min (Int.toNat (IntKind.wrap IntKind.u64 (↑(BitVec.toNat (BitVec.ofInt (64 : Nat) (cutM b w) &&& BitVec.ofInt (64 : Nat) (IntKind.wrap IntKind.u64 (IntKind.wrap IntKind.i8 (w - 1))))) : Int))) (64 : Nat)))) w), .int .i64 0]) ([tT, tT, tF, tT, tT, .ret _ _ _ c0, tT, tF, tF, .ret _ _ _ c1, .ret _ _ _ c2] ++ List.replicate 10 tF ++ [tT, .ret _ _ _ c3, tT, .ret _ _ _ c4]) (by kernel_rfl)).to (by first | ((simp only [wk, wkL, and_true]; repeat' (first | rfl | exact True.intro | apply And.intro)); done) | (simp [wk, wkL, doM, opM, u64, *]; done))
end Go.Proofs.YtojgmjfcfpclbaaGreat

namespace Go.Proofs.YtojgmjfcfpclbaaGreat
open Go Go.Ev
set_option maxRecDepth 100000
set_option maxHeartbeats 8000000
theorem cut_ok (v w : Int) : Ret Tryz.prog 69 ([.int .u64 v, .int .i8 w]) (.int .u64 (cutM v w)) := by
 by_cases h0 : w = 8
 ·subst h0
  exact (o69 (d := .int .u64 (IntKind.wrap IntKind.u64 (IntKind.wrap IntKind.u8 v))) [tT] (by kernel_rfl)).to (by simp [wk, cutM, w_u8, w_u16, w_u32, w_u64, ]; try omega)
 by_cases h1 : w = 16
 ·subst h1
  exact (o69 (d := .int .u64 (IntKind.wrap IntKind.u64 (IntKind.wrap IntKind.u16 v))) [tC (neOf h0), tT] (by kernel_rfl)).to (by simp [wk, cutM, w_u8, w_u16, w_u32, w_u64, h0]; try omega)
 by_cases h2 : w = 32
 ·subst h2
  exact (o69 (d := .int .u64 (IntKind.wrap IntKind.u64 (IntKind.wrap IntKind.u32 v))) [tC (neOf h0), tC (neOf h1), tT] (by kernel_rfl)).to (by simp [wk, cutM, w_u8, w_u16, w_u32, w_u64, h0, h1]; try omega)
 exact (o69 (d := .int .u64 v) [tC (neOf h0), tC (neOf h1), tC (neOf h2)] (by kernel_rfl)).to (by simp [wk, cutM, w_u8, w_u16, w_u32, w_u64, h0, h1, h2]; try omega)
theorem sign_ok (v w : Int) : Ret Tryz.prog 201 ([.int .u64 v, .int .i8 w]) (.int .u64 (signM v w)) := by
 by_cases h0 : w = 8
 ·subst h0
  exact (o201 (d := .int .u64 (IntKind.wrap IntKind.u64 (IntKind.wrap IntKind.i64 (IntKind.wrap IntKind.i8 v)))) [tT] (by kernel_rfl)).to (by simp [wk, signM, u64, sign_a, sign_b, sign_c, ])
 by_cases h1 : w = 16
 ·subst h1
  exact (o201 (d := .int .u64 (IntKind.wrap IntKind.u64 (IntKind.wrap IntKind.i64 (IntKind.wrap IntKind.i16 v)))) [tC (neOf h0), tT] (by kernel_rfl)).to (by simp [wk, signM, u64, sign_a, sign_b, sign_c, h0])
 by_cases h2 : w = 32
 ·subst h2
  exact (o201 (d := .int .u64 (IntKind.wrap IntKind.u64 (IntKind.wrap IntKind.i64 (IntKind.wrap IntKind.i32 v)))) [tC (neOf h0), tC (neOf h1), tT] (by kernel_rfl)).to (by simp [wk, signM, u64, sign_a, sign_b, sign_c, h0, h1])
 exact (o201 (d := .int .u64 v) [tC (neOf h0), tC (neOf h1), tC (neOf h2)] (by kernel_rfl)).to (by simp [wk, signM, u64, sign_a, sign_b, sign_c, h0, h1, h2])
theorem blong_ok (w : Int) : Ret Tryz.prog 162 ([.int .i8 w]) (.bool (longM w)) := by
 by_cases h0 : w = 32
 ·subst h0
  exact (o162 (d := .bool true) [tF, tF, tT] (by kernel_rfl)).to (by simp only [wk, D.bool.injEq, longM]; rfl)
 exact (o162 (d := .bool (w == 64)) [tC (eF (neOf h0)), tC (eF (neOf h0)), tC (neOf h0)] (by kernel_rfl)).to (by simp only [wk, D.bool.injEq, longM]; (rw [Bool.eq_iff_iff]; simp [h0]; try omega))
theorem bdo_0_ok (w a b : Int) (hw : longM w = true) : Ret Tryz.prog 107 ([.int .i8 0, .int .i8 w, .int .u64 a, .int .u64 b]) (.tup [.int .u64 (doM 0 w a b), .int .i64 0]) := by
 have c0 := @blong_ok w
 rw [show (longM w) = true from hw] at c0
 have c1 := @cut_ok a w
 have c2 := @cut_ok b w
 have c3 := @cut_ok (IntKind.wrap IntKind.u64 (cutM a w + cutM b w)) w
 exact (o107 (d := .tup [.int .u64 (cutM (IntKind.wrap IntKind.u64 (cutM a w + cutM b w)) w), .int .i64 0]) [tT, tT, tF, tT, tT, .ret _ _ _ c0, tT, tF, tF, .ret _ _ _ c1, .ret _ _ _ c2, .inl, tT, .get ([D.fn (Fn.func 188) [] [], D.fn (Fn.func 189) [] [], D.fn (Fn.func 190) [] [], D.fn (Fn.func 191) [] [], D.fn (Fn.func 192) [] [], D.fn (Fn.func 193) [] [], D.fn (Fn.func 194) [] [], D.fn (Fn.func 195) [] [], D.fn (Fn.func 196) [] [], D.fn (Fn.func 197) [] [], D.fn (Fn.func 198) [] [], D.fn (Fn.func 199) [] [], D.fn (Fn.func 200) [] []]) 0 (D.fn (Fn.func 188) [] []) rfl, .inl, .ret _ _ _ c3] (by kernel_rfl)).to (by ((simp only [wk, wkL, and_true]; repeat' (first | rfl | exact True.intro | apply And.intro)); done))
theorem bdo_1_ok (w a b : Int) (hw : longM w = true) : Ret Tryz.prog 107 ([.int .i8 1, .int .i8 w, .int .u64 a, .int .u64 b]) (.tup [.int .u64 (doM 1 w a b), .int .i64 0]) := by
 have c0 := @blong_ok w
 rw [show (longM w) = true from hw] at c0
 have c1 := @cut_ok a w
 have c2 := @cut_ok b w
 have c3 := @cut_ok (IntKind.wrap IntKind.u64 (cutM a w - cutM b w)) w
 exact (o107 (d := .tup [.int .u64 (cutM (IntKind.wrap IntKind.u64 (cutM a w - cutM b w)) w), .int .i64 0]) [tT, tT, tF, tT, tT, .ret _ _ _ c0, tT, tF, tF, .ret _ _ _ c1, .ret _ _ _ c2, .inl, tT, .get ([D.fn (Fn.func 188) [] [], D.fn (Fn.func 189) [] [], D.fn (Fn.func 190) [] [], D.fn (Fn.func 191) [] [], D.fn (Fn.func 192) [] [], D.fn (Fn.func 193) [] [], D.fn (Fn.func 194) [] [], D.fn (Fn.func 195) [] [], D.fn (Fn.func 196) [] [], D.fn (Fn.func 197) [] [], D.fn (Fn.func 198) [] [], D.fn (Fn.func 199) [] [], D.fn (Fn.func 200) [] []]) 1 (D.fn (Fn.func 189) [] []) rfl, .inl, .ret _ _ _ c3] (by kernel_rfl)).to (by ((simp only [wk, wkL, and_true]; repeat' (first | rfl | exact True.intro | apply And.intro)); done))
theorem bdo_2_ok (w a b : Int) (hw : longM w = true) : Ret Tryz.prog 107 ([.int .i8 2, .int .i8 w, .int .u64 a, .int .u64 b]) (.tup [.int .u64 (doM 2 w a b), .int .i64 0]) := by
 have c0 := @blong_ok w
 rw [show (longM w) = true from hw] at c0
 have c1 := @cut_ok a w
 have c2 := @cut_ok b w
 have c3 := @cut_ok (IntKind.wrap IntKind.u64 (cutM a w * cutM b w)) w
 exact (o107 (d := .tup [.int .u64 (cutM (IntKind.wrap IntKind.u64 (cutM a w * cutM b w)) w), .int .i64 0]) [tT, tT, tF, tT, tT, .ret _ _ _ c0, tT, tF, tF, .ret _ _ _ c1, .ret _ _ _ c2, .inl, tT, .get ([D.fn (Fn.func 188) [] [], D.fn (Fn.func 189) [] [], D.fn (Fn.func 190) [] [], D.fn (Fn.func 191) [] [], D.fn (Fn.func 192) [] [], D.fn (Fn.func 193) [] [], D.fn (Fn.func 194) [] [], D.fn (Fn.func 195) [] [], D.fn (Fn.func 196) [] [], D.fn (Fn.func 197) [] [], D.fn (Fn.func 198) [] [], D.fn (Fn.func 199) [] [], D.fn (Fn.func 200) [] []]) 2 (D.fn (Fn.func 190) [] []) rfl, .inl, .ret _ _ _ c3] (by kernel_rfl)).to (by ((simp only [wk, wkL, and_true]; repeat' (first | rfl | exact True.intro | apply And.intro)); done))
theorem bdo_4_ok (w a b : Int) (hw : longM w = true) : Ret Tryz.prog 107 ([.int .i8 4, .int .i8 w, .int .u64 a, .int .u64 b]) (.tup [.int .u64 (doM 4 w a b), .int .i64 0]) := by
 have c0 := @blong_ok w
 rw [show (longM w) = true from hw] at c0
 have c1 := @cut_ok a w
 have c2 := @cut_ok b w
 have c3 := @cut_ok (IntKind.wrap IntKind.u64 (↑(BitVec.toNat (BitVec.ofInt (64 : Nat) (cutM a w) ||| BitVec.ofInt (64 : Nat) (cutM b w))) : Int)) w
 exact (o107 (d := .tup [.int .u64 (cutM (IntKind.wrap IntKind.u64 (↑(BitVec.toNat (BitVec.ofInt (64 : Nat) (cutM a w) ||| BitVec.ofInt (64 : Nat) (cutM b w))) : Int)) w), .int .i64 0]) [tT, tT, tF, tT, tT, .ret _ _ _ c0, tT, tF, tF, .ret _ _ _ c1, .ret _ _ _ c2, .inl, tT, .get ([D.fn (Fn.func 188) [] [], D.fn (Fn.func 189) [] [], D.fn (Fn.func 190) [] [], D.fn (Fn.func 191) [] [], D.fn (Fn.func 192) [] [], D.fn (Fn.func 193) [] [], D.fn (Fn.func 194) [] [], D.fn (Fn.func 195) [] [], D.fn (Fn.func 196) [] [], D.fn (Fn.func 197) [] [], D.fn (Fn.func 198) [] [], D.fn (Fn.func 199) [] [], D.fn (Fn.func 200) [] []]) 4 (D.fn (Fn.func 192) [] []) rfl, .inl, .ret _ _ _ c3] (by kernel_rfl)).to (by ((simp only [wk, wkL, and_true]; repeat' (first | rfl | exact True.intro | apply And.intro)); done))
theorem bdo_5_ok (w a b : Int) (hw : longM w = true) : Ret Tryz.prog 107 ([.int .i8 5, .int .i8 w, .int .u64 a, .int .u64 b]) (.tup [.int .u64 (doM 5 w a b), .int .i64 0]) := by
 have c0 := @blong_ok w
 rw [show (longM w) = true from hw] at c0
 have c1 := @cut_ok a w
 have c2 := @cut_ok b w
 have c3 := @cut_ok (IntKind.wrap IntKind.u64 (↑(BitVec.toNat (BitVec.ofInt (64 : Nat) (cutM a w) &&& BitVec.ofInt (64 : Nat) (cutM b w))) : Int)) w
 exact (o107 (d := .tup [.int .u64 (cutM (IntKind.wrap IntKind.u64 (↑(BitVec.toNat (BitVec.ofInt (64 : Nat) (cutM a w) &&& BitVec.ofInt (64 : Nat) (cutM b w))) : Int)) w), .int .i64 0]) [tT, tT, tF, tT, tT, .ret _ _ _ c0, tT, tF, tF, .ret _ _ _ c1, .ret _ _ _ c2, .inl, tT, .get ([D.fn (Fn.func 188) [] [], D.fn (Fn.func 189) [] [], D.fn (Fn.func 190) [] [], D.fn (Fn.func 191) [] [], D.fn (Fn.func 192) [] [], D.fn (Fn.func 193) [] [], D.fn (Fn.func 194) [] [], D.fn (Fn.func 195) [] [], D.fn (Fn.func 196) [] [], D.fn (Fn.func 197) [] [], D.fn (Fn.func 198) [] [], D.fn (Fn.func 199) [] [], D.fn (Fn.func 200) [] []]) 5 (D.fn (Fn.func 193) [] []) rfl, .inl, .ret _ _ _ c3] (by kernel_rfl)).to (by ((simp only [wk, wkL, and_true]; repeat' (first | rfl | exact True.intro | apply And.intro)); done))
theorem bdo_6_ok (w a b : Int) (hw : longM w = true) : Ret Tryz.prog 107 ([.int .i8 6, .int .i8 w, .int .u64 a, .int .u64 b]) (.tup [.int .u64 (doM 6 w a b), .int .i64 0]) := by
 have c0 := @blong_ok w
 rw [show (longM w) = true from hw] at c0
 have c1 := @cut_ok a w
 have c2 := @cut_ok b w
 have c3 := @cut_ok (IntKind.wrap IntKind.u64 (cutM a w * 2 ^ min (Int.toNat (IntKind.wrap IntKind.u64 (↑(BitVec.toNat (BitVec.ofInt (64 : Nat) (cutM b w) &&& BitVec.ofInt (64 : Nat) (IntKind.wrap IntKind.u64 (IntKind.wrap IntKind.i8 (w - 1))))) : Int))) (64 : Nat))) w
 exact (o107 (d := .tup [.int .u64 (cutM (IntKind.wrap IntKind.u64 (cutM a w * 2 ^ min (Int.toNat (IntKind.wrap IntKind.u64 (↑(BitVec.toNat (BitVec.ofInt (64 : Nat) (cutM b w) &&& BitVec.ofInt (64 : Nat) (IntKind.wrap IntKind.u64 (IntKind.wrap IntKind.i8 (w - 1))))) : Int))) (64 : Nat))) w), .int .i64 0]) [tT, tT, tF, tT, tT, .ret _ _ _ c0, tT, tF, tF, .ret _ _ _ c1, .ret _ _ _ c2, .inl, tT, .get ([D.fn (Fn.func 188) [] [], D.fn (Fn.func 189) [] [], D.fn (Fn.func 190) [] [], D.fn (Fn.func 191) [] [], D.fn (Fn.func 192) [] [], D.fn (Fn.func 193) [] [], D.fn (Fn.func 194) [] [], D.fn (Fn.func 195) [] [], D.fn (Fn.func 196) [] [], D.fn (Fn.func 197) [] [], D.fn (Fn.func 198) [] [], D.fn (Fn.func 199) [] [], D.fn (Fn.func 200) [] []]) 6 (D.fn (Fn.func 194) [] []) rfl, .inl, tT, .ret _ _ _ c3] (by kernel_rfl)).to (by ((simp only [wk, wkL, and_true]; repeat' (first | rfl | exact True.intro | apply And.intro)); done))
theorem bdo_7_ok (w a b : Int) (hw : longM w = true) : Ret Tryz.prog 107 ([.int .i8 7, .int .i8 w, .int .u64 a, .int .u64 b]) (.tup [.int .u64 (doM 7 w a b), .int .i64 0]) := by
 have c0 := @blong_ok w
 rw [show (longM w) = true from hw] at c0
 have c1 := @cut_ok a w
 have c2 := @cut_ok b w
 have c3 := @cut_ok (Int.fdiv (cutM a w) (2 ^ min (Int.toNat (IntKind.wrap IntKind.u64 (↑(BitVec.toNat (BitVec.ofInt (64 : Nat) (cutM b w) &&& BitVec.ofInt (64 : Nat) (IntKind.wrap IntKind.u64 (IntKind.wrap IntKind.i8 (w - 1))))) : Int))) (64 : Nat))) w
 exact (o107 (d := .tup [.int .u64 (cutM (Int.fdiv (cutM a w) (2 ^ min (Int.toNat (IntKind.wrap IntKind.u64 (↑(BitVec.toNat (BitVec.ofInt (64 : Nat) (cutM b w) &&& BitVec.ofInt (64 : Nat) (IntKind.wrap IntKind.u64 (IntKind.wrap IntKind.i8 (w - 1))))) : Int))) (64 : Nat))) w), .int .i64 0]) [tT, tT, tF, tT, tT, .ret _ _ _ c0, tT, tF, tF, .ret _ _ _ c1, .ret _ _ _ c2, .inl, tT, .get ([D.fn (Fn.func 188) [] [], D.fn (Fn.func 189) [] [], D.fn (Fn.func 190) [] [], D.fn (Fn.func 191) [] [], D.fn (Fn.func 192) [] [], D.fn (Fn.func 193) [] [], D.fn (Fn.func 194) [] [], D.fn (Fn.func 195) [] [], D.fn (Fn.func 196) [] [], D.fn (Fn.func 197) [] [], D.fn (Fn.func 198) [] [], D.fn (Fn.func 199) [] [], D.fn (Fn.func 200) [] []]) 7 (D.fn (Fn.func 195) [] []) rfl, .inl, tT, .ret _ _ _ c3] (by kernel_rfl)).to (by ((simp only [wk, wkL, and_true]; repeat' (first | rfl | exact True.intro | apply And.intro)); done))
theorem bdo_8_ok (w a b : Int) (hw : longM w = true) : Ret Tryz.prog 107 ([.int .i8 8, .int .i8 w, .int .u64 a, .int .u64 b]) (.tup [.int .u64 (doM 8 w a b), .int .i64 0]) := by
 have c0 := @blong_ok w
 rw [show (longM w) = true from hw] at c0
 have c1 := @cut_ok a w
 have c2 := @cut_ok b w
 have c3 := @cut_ok (IntKind.wrap IntKind.u64 (0 - cutM a w)) w
 exact (o107 (d := .tup [.int .u64 (cutM (IntKind.wrap IntKind.u64 (0 - cutM a w)) w), .int .i64 0]) [tT, tT, tF, tT, tT, .ret _ _ _ c0, tT, tF, tF, .ret _ _ _ c1, .ret _ _ _ c2, .inl, tT, .get ([D.fn (Fn.func 188) [] [], D.fn (Fn.func 189) [] [], D.fn (Fn.func 190) [] [], D.fn (Fn.func 191) [] [], D.fn (Fn.func 192) [] [], D.fn (Fn.func 193) [] [], D.fn (Fn.func 194) [] [], D.fn (Fn.func 195) [] [], D.fn (Fn.func 196) [] [], D.fn (Fn.func 197) [] [], D.fn (Fn.func 198) [] [], D.fn (Fn.func 199) [] [], D.fn (Fn.func 200) [] []]) 8 (D.fn (Fn.func 196) [] []) rfl, .inl, .ret _ _ _ c3] (by kernel_rfl)).to (by ((simp only [wk, wkL, and_true]; repeat' (first | rfl | exact True.intro | apply And.intro)); done))
theorem bdo_10_ok (w a b : Int) (hw : longM w = true) : Ret Tryz.prog 107 ([.int .i8 10, .int .i8 w, .int .u64 a, .int .u64 b]) (.tup [.int .u64 (doM 10 w a b), .int .i64 0]) := by
 have c0 := @blong_ok w
 rw [show (longM w) = true from hw] at c0
 have c1 := @cut_ok a w
 have c2 := @cut_ok b w
 have c3 := @cut_ok (IntKind.wrap IntKind.u64 (↑(BitVec.toNat (BitVec.ofInt (64 : Nat) (cutM a w) ^^^ BitVec.ofInt (64 : Nat) (cutM b w))) : Int)) w
 exact (o107 (d := .tup [.int .u64 (cutM (IntKind.wrap IntKind.u64 (↑(BitVec.toNat (BitVec.ofInt (64 : Nat) (cutM a w) ^^^ BitVec.ofInt (64 : Nat) (cutM b w))) : Int)) w), .int .i64 0]) [tT, tT, tF, tT, tT, .ret _ _ _ c0, tT, tF, tF, .ret _ _ _ c1, .ret _ _ _ c2, .inl, tT, .get ([D.fn (Fn.func 188) [] [], D.fn (Fn.func 189) [] [], D.fn (Fn.func 190) [] [], D.fn (Fn.func 191) [] [], D.fn (Fn.func 192) [] [], D.fn (Fn.func 193) [] [], D.fn (Fn.func 194) [] [], D.fn (Fn.func 195) [] [], D.fn (Fn.func 196) [] [], D.fn (Fn.func 197) [] [], D.fn (Fn.func 198) [] [], D.fn (Fn.func 199) [] [], D.fn (Fn.func 200) [] []]) 10 (D.fn (Fn.func 198) [] []) rfl, .inl, .ret _ _ _ c3] (by kernel_rfl)).to (by ((simp only [wk, wkL, and_true]; repeat' (first | rfl | exact True.intro | apply And.intro)); done))
theorem bdo_12_ok (w a b : Int) (hw : longM w = true) : Ret Tryz.prog 107 ([.int .i8 12, .int .i8 w, .int .u64 a, .int .u64 b]) (.tup [.int .u64 (doM 12 w a b), .int .i64 0]) := by
 have c0 := @blong_ok w
 rw [show (longM w) = true from hw] at c0
 have c1 := @cut_ok a w
 have c2 := @cut_ok b w
 have c3 := @sign_ok (cutM a w) w
 have c4 := @cut_ok (IntKind.wrap IntKind.u64 (Int.fdiv (IntKind.wrap IntKind.i64 (signM (cutM a w) w)) (2 ^ min (Int.toNat (IntKind.wrap IntKind.u64 (↑(BitVec.toNat (BitVec.ofInt (64 : Nat) (cutM b w) &&& BitVec.ofInt (64 : Nat) (IntKind.wrap IntKind.u64 (IntKind.wrap IntKind.i8 (w - 1))))) : Int))) (64 : Nat)))) w
 exact (o107 (d := .tup [.int .u64 (cutM (IntKind.wrap IntKind.u64 (Int.fdiv (IntKind.wrap IntKind.i64 (signM (cutM a w) w)) (2 ^ min (Int.toNat (IntKind.wrap IntKind.u64 (↑(BitVec.toNat (BitVec.ofInt (64 : Nat) (cutM b w) &&& BitVec.ofInt (64 : Nat) (IntKind.wrap IntKind.u64 (IntKind.wrap IntKind.i8 (w - 1))))) : Int))) (64 : Nat)))) w), .int .i64 0]) [tT, tT, tF, tT, tT, .ret _ _ _ c0, tT, tF, tF, .ret _ _ _ c1, .ret _ _ _ c2, .inl, tT, .get ([D.fn (Fn.func 188) [] [], D.fn (Fn.func 189) [] [], D.fn (Fn.func 190) [] [], D.fn (Fn.func 191) [] [], D.fn (Fn.func 192) [] [], D.fn (Fn.func 193) [] [], D.fn (Fn.func 194) [] [], D.fn (Fn.func 195) [] [], D.fn (Fn.func 196) [] [], D.fn (Fn.func 197) [] [], D.fn (Fn.func 198) [] [], D.fn (Fn.func 199) [] [], D.fn (Fn.func 200) [] []]) 12 (D.fn (Fn.func 200) [] []) rfl, .inl, .ret _ _ _ c3, tT, .ret _ _ _ c4] (by kernel_rfl)).to (by ((simp only [wk, wkL, and_true]; repeat' (first | rfl | exact True.intro | apply And.intro)); done))
theorem fnone_ok  : Ret Tryz.prog 94 ([]) (fD false false false false false) := by
 exact (o94 (d := .agg [.bool false, .bool false, .bool false, .bool false, .bool false]) [] (by kernel_rfl)).to (by ((simp only [wk, wkL, and_true]; repeat' (first | rfl | exact True.intro | apply And.intro)); done))
theorem fminus_ok (v w : Int) : Ret Tryz.prog 164 ([.int .u64 v, .int .i8 w]) (.bool (negM v w)) := by
 have c0 := @sign_ok v w
 exact (o164 (d := .bool (decide (IntKind.wrap IntKind.i64 (signM v w) < 0))) [.ret _ _ _ c0] (by kernel_rfl)).to (by ((simp only [wk, wkL, and_true]; repeat' (first | rfl | exact True.intro | apply And.intro)); done))
theorem fof_ok (w v : Int) (hw : longM w = true) : Ret Tryz.prog 110 ([.int .i8 w, .int .u64 v]) (.tup [fD true false (cutM v w == 0) (negM v w) false, .int .i64 0]) := by
 by_cases h0 : w = 32
 ·subst h0
  have c1 := @cut_ok v 32
  have c2 := @fminus_ok v 32
  exact (o110 (d := .tup [.agg [.bool true, .bool false, .bool (cutM v 32 == 0), .bool (negM v 32), .bool false], .int .i64 0]) [tF, tF, tF, tF, .ret _ _ _ c1, .ret _ _ _ c2] (by kernel_rfl)).to (by ((simp only [wk, wkL, and_true]; repeat' (first | rfl | exact True.intro | apply And.intro)); done))
 by_cases h3 : w = 64
 ·subst h3
  have c4 := @cut_ok v 64
  have c5 := @fminus_ok v 64
  exact (o110 (d := .tup [.agg [.bool true, .bool false, .bool (cutM v 64 == 0), .bool (negM v 64), .bool false], .int .i64 0]) [tC (eT (nt (neOf h0))), tC (eT (nt (neOf h0))), tC (nt (neOf h0)), tF, .ret _ _ _ c4, .ret _ _ _ c5] (by kernel_rfl)).to (by ((simp only [wk, wkL, and_true]; repeat' (first | rfl | exact True.intro | apply And.intro)); done))
 exact (o110 (d := .tup [.agg [.bool false, .bool false, .bool false, .bool false, .bool false], .int .i64 2]) [tC (eT (nt (neOf h0))), tC (eT (nt (neOf h0))), tC (nt (neOf h0)), tC (nt (neOf h3))] (by kernel_rfl)).to (by (exfalso; simp [longM] at *; omega))
theorem fadd_ok (w a b : Int) (hw : longM w = true) : Ret Tryz.prog 108 ([.int .i8 w, .int .u64 a, .int .u64 b]) (.tup [fD true (addC w a b) (cutM (u64 (a + b)) w == 0) (negM (u64 (a + b)) w) (addO w a b), .int .i64 0]) := by
 have c0 := @fof_ok w (IntKind.wrap IntKind.u64 (a + b)) hw
 have c1 := @cut_ok (IntKind.wrap IntKind.u64 (a + b)) w
 have c2 := @cut_ok a w
 have c3 := @fminus_ok (IntKind.wrap IntKind.u64 (↑(BitVec.toNat (BitVec.ofInt (64 : Nat) (IntKind.wrap IntKind.u64 (↑(BitVec.toNat (BitVec.ofInt (64 : Nat) a ^^^ BitVec.ofInt (64 : Nat) (IntKind.wrap IntKind.u64 (a + b)))) : Int)) &&& BitVec.ofInt (64 : Nat) (IntKind.wrap IntKind.u64 (↑(BitVec.toNat (BitVec.ofInt (64 : Nat) b ^^^ BitVec.ofInt (64 : Nat) (IntKind.wrap IntKind.u64 (a + b)))) : Int)))) : Int)) w
 exact (o108 (d := .tup [.agg [.bool true, .bool (decide (cutM (IntKind.wrap IntKind.u64 (a + b)) w < cutM a w)), .bool (cutM (IntKind.wrap IntKind.u64 (a + b)) w == 0), .bool (negM (IntKind.wrap IntKind.u64 (a + b)) w), .bool (negM (IntKind.wrap IntKind.u64 (↑(BitVec.toNat (BitVec.ofInt (64 : Nat) (IntKind.wrap IntKind.u64 (↑(BitVec.toNat (BitVec.ofInt (64 : Nat) a ^^^ BitVec.ofInt (64 : Nat) (IntKind.wrap IntKind.u64 (a + b)))) : Int)) &&& BitVec.ofInt (64 : Nat) (IntKind.wrap IntKind.u64 (↑(BitVec.toNat (BitVec.ofInt (64 : Nat) b ^^^ BitVec.ofInt (64 : Nat) (IntKind.wrap IntKind.u64 (a + b)))) : Int)))) : Int)) w)], .int .i64 0]) [.ret _ _ _ c0, tF, .ret _ _ _ c1, .ret _ _ _ c2, .ret _ _ _ c3] (by kernel_rfl)).to (by ((simp only [wk, wkL, and_true]; repeat' (first | rfl | exact True.intro | apply And.intro)); done))
theorem fsub_ok (w a b : Int) (hw : longM w = true) : Ret Tryz.prog 109 ([.int .i8 w, .int .u64 a, .int .u64 b]) (.tup [fD true (subC w a b) (cutM (u64 (a - b)) w == 0) (negM (u64 (a - b)) w) (subO w a b), .int .i64 0]) := by
 have c0 := @fof_ok w (IntKind.wrap IntKind.u64 (a - b)) hw
 have c1 := @cut_ok a w
 have c2 := @cut_ok b w
 have c3 := @fminus_ok (IntKind.wrap IntKind.u64 (↑(BitVec.toNat (BitVec.ofInt (64 : Nat) (IntKind.wrap IntKind.u64 (↑(BitVec.toNat (BitVec.ofInt (64 : Nat) a ^^^ BitVec.ofInt (64 : Nat) b)) : Int)) &&& BitVec.ofInt (64 : Nat) (IntKind.wrap IntKind.u64 (↑(BitVec.toNat (BitVec.ofInt (64 : Nat) a ^^^ BitVec.ofInt (64 : Nat) (IntKind.wrap IntKind.u64 (a - b)))) : Int)))) : Int)) w
 exact (o109 (d := .tup [.agg [.bool true, .bool (decide (cutM a w < cutM b w)), .bool (cutM (IntKind.wrap IntKind.u64 (a - b)) w == 0), .bool (negM (IntKind.wrap IntKind.u64 (a - b)) w), .bool (negM (IntKind.wrap IntKind.u64 (↑(BitVec.toNat (BitVec.ofInt (64 : Nat) (IntKind.wrap IntKind.u64 (↑(BitVec.toNat (BitVec.ofInt (64 : Nat) a ^^^ BitVec.ofInt (64 : Nat) b)) : Int)) &&& BitVec.ofInt (64 : Nat) (IntKind.wrap IntKind.u64 (↑(BitVec.toNat (BitVec.ofInt (64 : Nat) a ^^^ BitVec.ofInt (64 : Nat) (IntKind.wrap IntKind.u64 (a - b)))) : Int)))) : Int)) w)], .int .i64 0]) [.ret _ _ _ c0, tF, .ret _ _ _ c1, .ret _ _ _ c2, .ret _ _ _ c3] (by kernel_rfl)).to (by ((simp only [wk, wkL, and_true]; repeat' (first | rfl | exact True.intro | apply And.intro)); done))
end Go.Proofs.YtojgmjfcfpclbaaGreat

namespace Go.Proofs.YtojgmjfcfpclbaaGreat
open Go Go.Ev
set_option maxRecDepth 100000
set_option maxHeartbeats 8000000
theorem fmay_0_ok  : Ret Tryz.prog 93 ([.int .i8 0]) (.bool false) := by
 exact (o93 (d := .bool false) ([tT, tT, tT, tT] ++ List.replicate 10 .inl ++ [tT, tT, tT, .get ([D.nilf, D.nilf, D.fn (Fn.func 149) [] [], D.fn (Fn.func 155) [] [D.ptr false 1 0], D.fn (Fn.func 150) [] [], D.fn (Fn.func 155) [] [D.ptr false 2 0], D.fn (Fn.func 153) [] [D.ptr false 3 0, D.ptr false 4 0], D.fn (Fn.func 155) [] [D.ptr false 7 0], D.nilf, D.nilf, D.nilf, D.nilf, D.fn (Fn.func 151) [] [], D.fn (Fn.func 155) [] [D.ptr false 8 0], D.fn (Fn.func 153) [] [D.ptr false 9 0, D.ptr false 10 0], D.fn (Fn.func 155) [] [D.ptr false 13 0]]) 0 (D.nilf) rfl, tT, tT]) (by kernel_rfl)).to (by ((simp only [wk, wkL, and_true]; repeat' (first | rfl | exact True.intro | apply And.intro)); done))
theorem fmay_1_ok  : Ret Tryz.prog 93 ([.int .i8 1]) (.bool false) := by
 exact (o93 (d := .bool false) ([tT, tT, tT, tT] ++ List.replicate 10 .inl ++ [tT, tT, tT, .get ([D.nilf, D.nilf, D.fn (Fn.func 149) [] [], D.fn (Fn.func 155) [] [D.ptr false 1 0], D.fn (Fn.func 150) [] [], D.fn (Fn.func 155) [] [D.ptr false 2 0], D.fn (Fn.func 153) [] [D.ptr false 3 0, D.ptr false 4 0], D.fn (Fn.func 155) [] [D.ptr false 7 0], D.nilf, D.nilf, D.nilf, D.nilf, D.fn (Fn.func 151) [] [], D.fn (Fn.func 155) [] [D.ptr false 8 0], D.fn (Fn.func 153) [] [D.ptr false 9 0, D.ptr false 10 0], D.fn (Fn.func 155) [] [D.ptr false 13 0]]) 1 (D.nilf) rfl, tT, tT]) (by kernel_rfl)).to (by ((simp only [wk, wkL, and_true]; repeat' (first | rfl | exact True.intro | apply And.intro)); done))
theorem fmay_2_ok  : Ret Tryz.prog 93 ([.int .i8 2]) (.bool true) := by
 exact (o93 (d := .bool true) ([tT, tT, tT, tT] ++ List.replicate 10 .inl ++ [tT, tT, tT, .get ([D.nilf, D.nilf, D.fn (Fn.func 149) [] [], D.fn (Fn.func 155) [] [D.ptr false 1 0], D.fn (Fn.func 150) [] [], D.fn (Fn.func 155) [] [D.ptr false 2 0], D.fn (Fn.func 153) [] [D.ptr false 3 0, D.ptr false 4 0], D.fn (Fn.func 155) [] [D.ptr false 7 0], D.nilf, D.nilf, D.nilf, D.nilf, D.fn (Fn.func 151) [] [], D.fn (Fn.func 155) [] [D.ptr false 8 0], D.fn (Fn.func 153) [] [D.ptr false 9 0, D.ptr false 10 0], D.fn (Fn.func 155) [] [D.ptr false 13 0]]) 2 (D.fn (Fn.func 149) [] []) rfl, tT, tT]) (by kernel_rfl)).to (by ((simp only [wk, wkL, and_true]; repeat' (first | rfl | exact True.intro | apply And.intro)); done))
theorem fmay_3_ok  : Ret Tryz.prog 93 ([.int .i8 3]) (.bool true) := by
 exact (o93 (d := .bool true) ([tT, tT, tT, tT] ++ List.replicate 10 .inl ++ [tT, tT, tT, .get ([D.nilf, D.nilf, D.fn (Fn.func 149) [] [], D.fn (Fn.func 155) [] [D.ptr false 1 0], D.fn (Fn.func 150) [] [], D.fn (Fn.func 155) [] [D.ptr false 2 0], D.fn (Fn.func 153) [] [D.ptr false 3 0, D.ptr false 4 0], D.fn (Fn.func 155) [] [D.ptr false 7 0], D.nilf, D.nilf, D.nilf, D.nilf, D.fn (Fn.func 151) [] [], D.fn (Fn.func 155) [] [D.ptr false 8 0], D.fn (Fn.func 153) [] [D.ptr false 9 0, D.ptr false 10 0], D.fn (Fn.func 155) [] [D.ptr false 13 0]]) 3 (D.fn (Fn.func 155) [] [D.ptr false 1 0]) rfl, tT, tT]) (by kernel_rfl)).to (by ((simp only [wk, wkL, and_true]; repeat' (first | rfl | exact True.intro | apply And.intro)); done))
theorem fmay_4_ok  : Ret Tryz.prog 93 ([.int .i8 4]) (.bool true) := by
 exact (o93 (d := .bool true) ([tT, tT, tT, tT] ++ List.replicate 10 .inl ++ [tT, tT, tT, .get ([D.nilf, D.nilf, D.fn (Fn.func 149) [] [], D.fn (Fn.func 155) [] [D.ptr false 1 0], D.fn (Fn.func 150) [] [], D.fn (Fn.func 155) [] [D.ptr false 2 0], D.fn (Fn.func 153) [] [D.ptr false 3 0, D.ptr false 4 0], D.fn (Fn.func 155) [] [D.ptr false 7 0], D.nilf, D.nilf, D.nilf, D.nilf, D.fn (Fn.func 151) [] [], D.fn (Fn.func 155) [] [D.ptr false 8 0], D.fn (Fn.func 153) [] [D.ptr false 9 0, D.ptr false 10 0], D.fn (Fn.func 155) [] [D.ptr false 13 0]]) 4 (D.fn (Fn.func 150) [] []) rfl, tT, tT]) (by kernel_rfl)).to (by ((simp only [wk, wkL, and_true]; repeat' (first | rfl | exact True.intro | apply And.intro)); done))
theorem fmay_5_ok  : Ret Tryz.prog 93 ([.int .i8 5]) (.bool true) := by
 exact (o93 (d := .bool true) ([tT, tT, tT, tT] ++ List.replicate 10 .inl ++ [tT, tT, tT, .get ([D.nilf, D.nilf, D.fn (Fn.func 149) [] [], D.fn (Fn.func 155) [] [D.ptr false 1 0], D.fn (Fn.func 150) [] [], D.fn (Fn.func 155) [] [D.ptr false 2 0], D.fn (Fn.func 153) [] [D.ptr false 3 0, D.ptr false 4 0], D.fn (Fn.func 155) [] [D.ptr false 7 0], D.nilf, D.nilf, D.nilf, D.nilf, D.fn (Fn.func 151) [] [], D.fn (Fn.func 155) [] [D.ptr false 8 0], D.fn (Fn.func 153) [] [D.ptr false 9 0, D.ptr false 10 0], D.fn (Fn.func 155) [] [D.ptr false 13 0]]) 5 (D.fn (Fn.func 155) [] [D.ptr false 2 0]) rfl, tT, tT]) (by kernel_rfl)).to (by ((simp only [wk, wkL, and_true]; repeat' (first | rfl | exact True.intro | apply And.intro)); done))
theorem fmay_6_ok  : Ret Tryz.prog 93 ([.int .i8 6]) (.bool true) := by
 exact (o93 (d := .bool true) ([tT, tT, tT, tT] ++ List.replicate 10 .inl ++ [tT, tT, tT, .get ([D.nilf, D.nilf, D.fn (Fn.func 149) [] [], D.fn (Fn.func 155) [] [D.ptr false 1 0], D.fn (Fn.func 150) [] [], D.fn (Fn.func 155) [] [D.ptr false 2 0], D.fn (Fn.func 153) [] [D.ptr false 3 0, D.ptr false 4 0], D.fn (Fn.func 155) [] [D.ptr false 7 0], D.nilf, D.nilf, D.nilf, D.nilf, D.fn (Fn.func 151) [] [], D.fn (Fn.func 155) [] [D.ptr false 8 0], D.fn (Fn.func 153) [] [D.ptr false 9 0, D.ptr false 10 0], D.fn (Fn.func 155) [] [D.ptr false 13 0]]) 6 (D.fn (Fn.func 153) [] [D.ptr false 3 0, D.ptr false 4 0]) rfl, tT, tT]) (by kernel_rfl)).to (by ((simp only [wk, wkL, and_true]; repeat' (first | rfl | exact True.intro | apply And.intro)); done))
theorem fmay_7_ok  : Ret Tryz.prog 93 ([.int .i8 7]) (.bool true) := by
 exact (o93 (d := .bool true) ([tT, tT, tT, tT] ++ List.replicate 10 .inl ++ [tT, tT, tT, .get ([D.nilf, D.nilf, D.fn (Fn.func 149) [] [], D.fn (Fn.func 155) [] [D.ptr false 1 0], D.fn (Fn.func 150) [] [], D.fn (Fn.func 155) [] [D.ptr false 2 0], D.fn (Fn.func 153) [] [D.ptr false 3 0, D.ptr false 4 0], D.fn (Fn.func 155) [] [D.ptr false 7 0], D.nilf, D.nilf, D.nilf, D.nilf, D.fn (Fn.func 151) [] [], D.fn (Fn.func 155) [] [D.ptr false 8 0], D.fn (Fn.func 153) [] [D.ptr false 9 0, D.ptr false 10 0], D.fn (Fn.func 155) [] [D.ptr false 13 0]]) 7 (D.fn (Fn.func 155) [] [D.ptr false 7 0]) rfl, tT, tT]) (by kernel_rfl)).to (by ((simp only [wk, wkL, and_true]; repeat' (first | rfl | exact True.intro | apply And.intro)); done))
theorem fmay_8_ok  : Ret Tryz.prog 93 ([.int .i8 8]) (.bool false) := by
 exact (o93 (d := .bool false) ([tT, tT, tT, tT] ++ List.replicate 10 .inl ++ [tT, tT, tT, .get ([D.nilf, D.nilf, D.fn (Fn.func 149) [] [], D.fn (Fn.func 155) [] [D.ptr false 1 0], D.fn (Fn.func 150) [] [], D.fn (Fn.func 155) [] [D.ptr false 2 0], D.fn (Fn.func 153) [] [D.ptr false 3 0, D.ptr false 4 0], D.fn (Fn.func 155) [] [D.ptr false 7 0], D.nilf, D.nilf, D.nilf, D.nilf, D.fn (Fn.func 151) [] [], D.fn (Fn.func 155) [] [D.ptr false 8 0], D.fn (Fn.func 153) [] [D.ptr false 9 0, D.ptr false 10 0], D.fn (Fn.func 155) [] [D.ptr false 13 0]]) 8 (D.nilf) rfl, tT, tT]) (by kernel_rfl)).to (by ((simp only [wk, wkL, and_true]; repeat' (first | rfl | exact True.intro | apply And.intro)); done))
theorem fmay_9_ok  : Ret Tryz.prog 93 ([.int .i8 9]) (.bool false) := by
 exact (o93 (d := .bool false) ([tT, tT, tT, tT] ++ List.replicate 10 .inl ++ [tT, tT, tT, .get ([D.nilf, D.nilf, D.fn (Fn.func 149) [] [], D.fn (Fn.func 155) [] [D.ptr false 1 0], D.fn (Fn.func 150) [] [], D.fn (Fn.func 155) [] [D.ptr false 2 0], D.fn (Fn.func 153) [] [D.ptr false 3 0, D.ptr false 4 0], D.fn (Fn.func 155) [] [D.ptr false 7 0], D.nilf, D.nilf, D.nilf, D.nilf, D.fn (Fn.func 151) [] [], D.fn (Fn.func 155) [] [D.ptr false 8 0], D.fn (Fn.func 153) [] [D.ptr false 9 0, D.ptr false 10 0], D.fn (Fn.func 155) [] [D.ptr false 13 0]]) 9 (D.nilf) rfl, tT, tT]) (by kernel_rfl)).to (by ((simp only [wk, wkL, and_true]; repeat' (first | rfl | exact True.intro | apply And.intro)); done))
theorem fmay_10_ok  : Ret Tryz.prog 93 ([.int .i8 10]) (.bool false) := by
 exact (o93 (d := .bool false) ([tT, tT, tT, tT] ++ List.replicate 10 .inl ++ [tT, tT, tT, .get ([D.nilf, D.nilf, D.fn (Fn.func 149) [] [], D.fn (Fn.func 155) [] [D.ptr false 1 0], D.fn (Fn.func 150) [] [], D.fn (Fn.func 155) [] [D.ptr false 2 0], D.fn (Fn.func 153) [] [D.ptr false 3 0, D.ptr false 4 0], D.fn (Fn.func 155) [] [D.ptr false 7 0], D.nilf, D.nilf, D.nilf, D.nilf, D.fn (Fn.func 151) [] [], D.fn (Fn.func 155) [] [D.ptr false 8 0], D.fn (Fn.func 153) [] [D.ptr false 9 0, D.ptr false 10 0], D.fn (Fn.func 155) [] [D.ptr false 13 0]]) 10 (D.nilf) rfl, tT, tT]) (by kernel_rfl)).to (by ((simp only [wk, wkL, and_true]; repeat' (first | rfl | exact True.intro | apply And.intro)); done))
theorem fmay_11_ok  : Ret Tryz.prog 93 ([.int .i8 11]) (.bool false) := by
 exact (o93 (d := .bool false) ([tT, tT, tT, tT] ++ List.replicate 10 .inl ++ [tT, tT, tT, .get ([D.nilf, D.nilf, D.fn (Fn.func 149) [] [], D.fn (Fn.func 155) [] [D.ptr false 1 0], D.fn (Fn.func 150) [] [], D.fn (Fn.func 155) [] [D.ptr false 2 0], D.fn (Fn.func 153) [] [D.ptr false 3 0, D.ptr false 4 0], D.fn (Fn.func 155) [] [D.ptr false 7 0], D.nilf, D.nilf, D.nilf, D.nilf, D.fn (Fn.func 151) [] [], D.fn (Fn.func 155) [] [D.ptr false 8 0], D.fn (Fn.func 153) [] [D.ptr false 9 0, D.ptr false 10 0], D.fn (Fn.func 155) [] [D.ptr false 13 0]]) 11 (D.nilf) rfl, tT, tT]) (by kernel_rfl)).to (by ((simp only [wk, wkL, and_true]; repeat' (first | rfl | exact True.intro | apply And.intro)); done))
theorem fmay_12_ok  : Ret Tryz.prog 93 ([.int .i8 12]) (.bool true) := by
 exact (o93 (d := .bool true) ([tT, tT, tT, tT] ++ List.replicate 10 .inl ++ [tT, tT, tT, .get ([D.nilf, D.nilf, D.fn (Fn.func 149) [] [], D.fn (Fn.func 155) [] [D.ptr false 1 0], D.fn (Fn.func 150) [] [], D.fn (Fn.func 155) [] [D.ptr false 2 0], D.fn (Fn.func 153) [] [D.ptr false 3 0, D.ptr false 4 0], D.fn (Fn.func 155) [] [D.ptr false 7 0], D.nilf, D.nilf, D.nilf, D.nilf, D.fn (Fn.func 151) [] [], D.fn (Fn.func 155) [] [D.ptr false 8 0], D.fn (Fn.func 153) [] [D.ptr false 9 0, D.ptr false 10 0], D.fn (Fn.func 155) [] [D.ptr false 13 0]]) 12 (D.fn (Fn.func 151) [] []) rfl, tT, tT]) (by kernel_rfl)).to (by ((simp only [wk, wkL, and_true]; repeat' (first | rfl | exact True.intro | apply And.intro)); done))
theorem fmay_13_ok  : Ret Tryz.prog 93 ([.int .i8 13]) (.bool true) := by
 exact (o93 (d := .bool true) ([tT, tT, tT, tT] ++ List.replicate 10 .inl ++ [tT, tT, tT, .get ([D.nilf, D.nilf, D.fn (Fn.func 149) [] [], D.fn (Fn.func 155) [] [D.ptr false 1 0], D.fn (Fn.func 150) [] [], D.fn (Fn.func 155) [] [D.ptr false 2 0], D.fn (Fn.func 153) [] [D.ptr false 3 0, D.ptr false 4 0], D.fn (Fn.func 155) [] [D.ptr false 7 0], D.nilf, D.nilf, D.nilf, D.nilf, D.fn (Fn.func 151) [] [], D.fn (Fn.func 155) [] [D.ptr false 8 0], D.fn (Fn.func 153) [] [D.ptr false 9 0, D.ptr false 10 0], D.fn (Fn.func 155) [] [D.ptr false 13 0]]) 13 (D.fn (Fn.func 155) [] [D.ptr false 8 0]) rfl, tT, tT]) (by kernel_rfl)).to (by ((simp only [wk, wkL, and_true]; repeat' (first | rfl | exact True.intro | apply And.intro)); done))
theorem fmay_14_ok  : Ret Tryz.prog 93 ([.int .i8 14]) (.bool true) := by
 exact (o93 (d := .bool true) ([tT, tT, tT, tT] ++ List.replicate 10 .inl ++ [tT, tT, tT, .get ([D.nilf, D.nilf, D.fn (Fn.func 149) [] [], D.fn (Fn.func 155) [] [D.ptr false 1 0], D.fn (Fn.func 150) [] [], D.fn (Fn.func 155) [] [D.ptr false 2 0], D.fn (Fn.func 153) [] [D.ptr false 3 0, D.ptr false 4 0], D.fn (Fn.func 155) [] [D.ptr false 7 0], D.nilf, D.nilf, D.nilf, D.nilf, D.fn (Fn.func 151) [] [], D.fn (Fn.func 155) [] [D.ptr false 8 0], D.fn (Fn.func 153) [] [D.ptr false 9 0, D.ptr false 10 0], D.fn (Fn.func 155) [] [D.ptr false 13 0]]) 14 (D.fn (Fn.func 153) [] [D.ptr false 9 0, D.ptr false 10 0]) rfl, tT, tT]) (by kernel_rfl)).to (by ((simp only [wk, wkL, and_true]; repeat' (first | rfl | exact True.intro | apply And.intro)); done))
theorem fmay_15_ok  : Ret Tryz.prog 93 ([.int .i8 15]) (.bool true) := by
 exact (o93 (d := .bool true) ([tT, tT, tT, tT] ++ List.replicate 10 .inl ++ [tT, tT, tT, .get ([D.nilf, D.nilf, D.fn (Fn.func 149) [] [], D.fn (Fn.func 155) [] [D.ptr false 1 0], D.fn (Fn.func 150) [] [], D.fn (Fn.func 155) [] [D.ptr false 2 0], D.fn (Fn.func 153) [] [D.ptr false 3 0, D.ptr false 4 0], D.fn (Fn.func 155) [] [D.ptr false 7 0], D.nilf, D.nilf, D.nilf, D.nilf, D.fn (Fn.func 151) [] [], D.fn (Fn.func 155) [] [D.ptr false 8 0], D.fn (Fn.func 153) [] [D.ptr false 9 0, D.ptr false 10 0], D.fn (Fn.func 155) [] [D.ptr false 13 0]]) 15 (D.fn (Fn.func 155) [] [D.ptr false 13 0]) rfl, tT, tT]) (by kernel_rfl)).to (by ((simp only [wk, wkL, and_true]; repeat' (first | rfl | exact True.intro | apply And.intro)); done))
theorem fmay_out_ok (cc : Int) (h : decide (0 ≤ cc ∧ cc ≤ 15) = false) : Ret Tryz.prog 93 ([.int .i8 cc]) (.bool false) := by
 rcases bft (decide (cc < 0)) with h0 | h0
 ·exact (o93 (d := .bool false) [tC (eT (leL 0 h0)), tC (eT (leL 0 h0)), tC (leL 0 h0), tF, tF, tF, tF, tF] (by kernel_rfl)).to (by simp [wk])
 exact (o93 (d := .bool false) ([tC (eT (leL 0 h0)), tC (eT (leL 0 h0)), tC (leL 0 h0)] ++ List.replicate 4 (tC (eT (by (simp only [sl2] at *; omega) : (decide (cc < 16)) = false))) ++ [tC (by (simp only [sl2] at *; omega) : (decide (cc < 16)) = false)]) (by kernel_rfl)).to (by simp [wk])
theorem fholds_2_ok (c z s o : Bool) : Ret Tryz.prog 45 ([.int .i8 2, fD true c z s o]) (.tup [.bool (holdM 2 c z s o), .int .i64 0]) := by
 have c0 := @fmay_2_ok
 have c1 := @fnone_ok
 exact (o45 (d := .tup [.bool c, .int .i64 0]) ([.ret _ _ _ c0, tF, .ret _ _ _ c1, .flat _ _ flat_Flags, tT, tT, tT, tF, tF] ++ List.replicate 10 .inl ++ [.keep [], .keep [(0, Ob.box [.bool true, .bool c, .bool z, .bool s, .bool o])], tT, .get ([D.nilf, D.nilf, D.fn (Fn.func 149) [] [], D.fn (Fn.func 155) [] [D.ptr false 4 0], D.fn (Fn.func 150) [] [], D.fn (Fn.func 155) [] [D.ptr false 5 0], D.fn (Fn.func 153) [] [D.ptr false 6 0, D.ptr false 7 0], D.fn (Fn.func 155) [] [D.ptr false 10 0], D.nilf, D.nilf, D.nilf, D.nilf, D.fn (Fn.func 151) [] [], D.fn (Fn.func 155) [] [D.ptr false 11 0], D.fn (Fn.func 153) [] [D.ptr false 12 0, D.ptr false 13 0], D.fn (Fn.func 155) [] [D.ptr false 16 0]]) 2 (D.fn (Fn.func 149) [] []) rfl, .inl]) (by kernel_rfl)).to (by (try cases c) <;> (try cases z) <;> (try cases s) <;> (try cases o) <;> first | (simp [wk, wkL, holdM]; done) | rfl | exact ⟨rfl, rfl, trivial⟩)
theorem fholds_n2_ok (c z s o : Bool) : Ret Tryz.prog 45 ([.int .i8 2, fD false c z s o]) (.tup [.bool false, .int .i64 20]) := by
 have c0 := @fmay_2_ok
 have c1 := @fnone_ok
 let E1 : EL := [.ret _ _ _ c0, tF, .ret _ _ _ c1, .flat _ _ flat_Flags]
 cases c
 ·cases z
  ·cases s
   ·cases o
    ·exact (o45 (d := .tup [.bool false, .int .i64 20]) (E1 ++ [tF, tF, tF, tT, tT]) (by kernel_rfl)).to (by clear E1; simp [wk, wkL])
    exact (o45 (d := .tup [.bool false, .int .i64 20]) (E1 ++ [tT, tT, tT, tF, tT]) (by kernel_rfl)).to (by clear E1; simp [wk, wkL])
   exact (o45 (d := .tup [.bool false, .int .i64 20]) (E1 ++ [tT, tT, tT, tF, tT]) (by kernel_rfl)).to (by clear E1; simp [wk, wkL])
  exact (o45 (d := .tup [.bool false, .int .i64 20]) (E1 ++ [tT, tT, tT, tF, tT]) (by kernel_rfl)).to (by clear E1; simp [wk, wkL])
 exact (o45 (d := .tup [.bool false, .int .i64 20]) (E1 ++ [tT, tT, tT, tF, tT]) (by kernel_rfl)).to (by clear E1; simp [wk, wkL])
theorem fholds_3_ok (c z s o : Bool) : Ret Tryz.prog 45 ([.int .i8 3, fD true c z s o]) (.tup [.bool (holdM 3 c z s o), .int .i64 0]) := by
 have c0 := @fmay_3_ok
 have c1 := @fnone_ok
 exact (o45 (d := .tup [.bool !c, .int .i64 0]) ([.ret _ _ _ c0, tF, .ret _ _ _ c1, .flat _ _ flat_Flags, tT, tT, tT, tF, tF] ++ List.replicate 10 .inl ++ [.keep [], .keep [(0, Ob.box [.bool true, .bool c, .bool z, .bool s, .bool o])], tT, .get ([D.nilf, D.nilf, D.fn (Fn.func 149) [] [], D.fn (Fn.func 155) [] [D.ptr false 4 0], D.fn (Fn.func 150) [] [], D.fn (Fn.func 155) [] [D.ptr false 5 0], D.fn (Fn.func 153) [] [D.ptr false 6 0, D.ptr false 7 0], D.fn (Fn.func 155) [] [D.ptr false 10 0], D.nilf, D.nilf, D.nilf, D.nilf, D.fn (Fn.func 151) [] [], D.fn (Fn.func 155) [] [D.ptr false 11 0], D.fn (Fn.func 153) [] [D.ptr false 12 0, D.ptr false 13 0], D.fn (Fn.func 155) [] [D.ptr false 16 0]]) 3 (D.fn (Fn.func 155) [] [D.ptr false 4 0]) rfl, .inl, .inl]) (by kernel_rfl)).to (by (try cases c) <;> (try cases z) <;> (try cases s) <;> (try cases o) <;> first | (simp [wk, wkL, holdM]; done) | rfl | exact ⟨rfl, rfl, trivial⟩)
theorem fholds_n3_ok (c z s o : Bool) : Ret Tryz.prog 45 ([.int .i8 3, fD false c z s o]) (.tup [.bool false, .int .i64 20]) := by
 have c0 := @fmay_3_ok
 have c1 := @fnone_ok
 let E1 : EL := [.ret _ _ _ c0, tF, .ret _ _ _ c1, .flat _ _ flat_Flags]
 cases c
 ·cases z
  ·cases s
   ·cases o
    ·exact (o45 (d := .tup [.bool false, .int .i64 20]) (E1 ++ [tF, tF, tF, tT, tT]) (by kernel_rfl)).to (by clear E1; simp [wk, wkL])
    exact (o45 (d := .tup [.bool false, .int .i64 20]) (E1 ++ [tT, tT, tT, tF, tT]) (by kernel_rfl)).to (by clear E1; simp [wk, wkL])
   exact (o45 (d := .tup [.bool false, .int .i64 20]) (E1 ++ [tT, tT, tT, tF, tT]) (by kernel_rfl)).to (by clear E1; simp [wk, wkL])
  exact (o45 (d := .tup [.bool false, .int .i64 20]) (E1 ++ [tT, tT, tT, tF, tT]) (by kernel_rfl)).to (by clear E1; simp [wk, wkL])
 exact (o45 (d := .tup [.bool false, .int .i64 20]) (E1 ++ [tT, tT, tT, tF, tT]) (by kernel_rfl)).to (by clear E1; simp [wk, wkL])
theorem fholds_4_ok (c z s o : Bool) : Ret Tryz.prog 45 ([.int .i8 4, fD true c z s o]) (.tup [.bool (holdM 4 c z s o), .int .i64 0]) := by
 have c0 := @fmay_4_ok
 have c1 := @fnone_ok
 exact (o45 (d := .tup [.bool z, .int .i64 0]) ([.ret _ _ _ c0, tF, .ret _ _ _ c1, .flat _ _ flat_Flags, tT, tT, tT, tF, tF] ++ List.replicate 10 .inl ++ [.keep [], .keep [(0, Ob.box [.bool true, .bool c, .bool z, .bool s, .bool o])], tT, .get ([D.nilf, D.nilf, D.fn (Fn.func 149) [] [], D.fn (Fn.func 155) [] [D.ptr false 4 0], D.fn (Fn.func 150) [] [], D.fn (Fn.func 155) [] [D.ptr false 5 0], D.fn (Fn.func 153) [] [D.ptr false 6 0, D.ptr false 7 0], D.fn (Fn.func 155) [] [D.ptr false 10 0], D.nilf, D.nilf, D.nilf, D.nilf, D.fn (Fn.func 151) [] [], D.fn (Fn.func 155) [] [D.ptr false 11 0], D.fn (Fn.func 153) [] [D.ptr false 12 0, D.ptr false 13 0], D.fn (Fn.func 155) [] [D.ptr false 16 0]]) 4 (D.fn (Fn.func 150) [] []) rfl, .inl]) (by kernel_rfl)).to (by (try cases c) <;> (try cases z) <;> (try cases s) <;> (try cases o) <;> first | (simp [wk, wkL, holdM]; done) | rfl | exact ⟨rfl, rfl, trivial⟩)
theorem fholds_n4_ok (c z s o : Bool) : Ret Tryz.prog 45 ([.int .i8 4, fD false c z s o]) (.tup [.bool false, .int .i64 20]) := by
 have c0 := @fmay_4_ok
 have c1 := @fnone_ok
 let E1 : EL := [.ret _ _ _ c0, tF, .ret _ _ _ c1, .flat _ _ flat_Flags]
 cases c
 ·cases z
  ·cases s
   ·cases o
    ·exact (o45 (d := .tup [.bool false, .int .i64 20]) (E1 ++ [tF, tF, tF, tT, tT]) (by kernel_rfl)).to (by clear E1; simp [wk, wkL])
    exact (o45 (d := .tup [.bool false, .int .i64 20]) (E1 ++ [tT, tT, tT, tF, tT]) (by kernel_rfl)).to (by clear E1; simp [wk, wkL])
   exact (o45 (d := .tup [.bool false, .int .i64 20]) (E1 ++ [tT, tT, tT, tF, tT]) (by kernel_rfl)).to (by clear E1; simp [wk, wkL])
  exact (o45 (d := .tup [.bool false, .int .i64 20]) (E1 ++ [tT, tT, tT, tF, tT]) (by kernel_rfl)).to (by clear E1; simp [wk, wkL])
 exact (o45 (d := .tup [.bool false, .int .i64 20]) (E1 ++ [tT, tT, tT, tF, tT]) (by kernel_rfl)).to (by clear E1; simp [wk, wkL])
theorem fholds_5_ok (c z s o : Bool) : Ret Tryz.prog 45 ([.int .i8 5, fD true c z s o]) (.tup [.bool (holdM 5 c z s o), .int .i64 0]) := by
 have c0 := @fmay_5_ok
 have c1 := @fnone_ok
 exact (o45 (d := .tup [.bool !z, .int .i64 0]) ([.ret _ _ _ c0, tF, .ret _ _ _ c1, .flat _ _ flat_Flags, tT, tT, tT, tF, tF] ++ List.replicate 10 .inl ++ [.keep [], .keep [(0, Ob.box [.bool true, .bool c, .bool z, .bool s, .bool o])], tT, .get ([D.nilf, D.nilf, D.fn (Fn.func 149) [] [], D.fn (Fn.func 155) [] [D.ptr false 4 0], D.fn (Fn.func 150) [] [], D.fn (Fn.func 155) [] [D.ptr false 5 0], D.fn (Fn.func 153) [] [D.ptr false 6 0, D.ptr false 7 0], D.fn (Fn.func 155) [] [D.ptr false 10 0], D.nilf, D.nilf, D.nilf, D.nilf, D.fn (Fn.func 151) [] [], D.fn (Fn.func 155) [] [D.ptr false 11 0], D.fn (Fn.func 153) [] [D.ptr false 12 0, D.ptr false 13 0], D.fn (Fn.func 155) [] [D.ptr false 16 0]]) 5 (D.fn (Fn.func 155) [] [D.ptr false 5 0]) rfl, .inl, .inl]) (by kernel_rfl)).to (by (try cases c) <;> (try cases z) <;> (try cases s) <;> (try cases o) <;> first | (simp [wk, wkL, holdM]; done) | rfl | exact ⟨rfl, rfl, trivial⟩)
theorem fholds_n5_ok (c z s o : Bool) : Ret Tryz.prog 45 ([.int .i8 5, fD false c z s o]) (.tup [.bool false, .int .i64 20]) := by
 have c0 := @fmay_5_ok
 have c1 := @fnone_ok
 let E1 : EL := [.ret _ _ _ c0, tF, .ret _ _ _ c1, .flat _ _ flat_Flags]
 cases c
 ·cases z
  ·cases s
   ·cases o
    ·exact (o45 (d := .tup [.bool false, .int .i64 20]) (E1 ++ [tF, tF, tF, tT, tT]) (by kernel_rfl)).to (by clear E1; simp [wk, wkL])
    exact (o45 (d := .tup [.bool false, .int .i64 20]) (E1 ++ [tT, tT, tT, tF, tT]) (by kernel_rfl)).to (by clear E1; simp [wk, wkL])
   exact (o45 (d := .tup [.bool false, .int .i64 20]) (E1 ++ [tT, tT, tT, tF, tT]) (by kernel_rfl)).to (by clear E1; simp [wk, wkL])
  exact (o45 (d := .tup [.bool false, .int .i64 20]) (E1 ++ [tT, tT, tT, tF, tT]) (by kernel_rfl)).to (by clear E1; simp [wk, wkL])
 exact (o45 (d := .tup [.bool false, .int .i64 20]) (E1 ++ [tT, tT, tT, tF, tT]) (by kernel_rfl)).to (by clear E1; simp [wk, wkL])
theorem fholds_6_ok (c z s o : Bool) : Ret Tryz.prog 45 ([.int .i8 6, fD true c z s o]) (.tup [.bool (holdM 6 c z s o), .int .i64 0]) := by
 have c0 := @fmay_6_ok
 have c1 := @fnone_ok
 let E1 : EL := ([.ret _ _ _ c0, tF, .ret _ _ _ c1, .flat _ _ flat_Flags, tT, tT, tT, tF, tF] ++ List.replicate 10 .inl ++ [.keep []])
 cases c
 ·exact (o45 (d := .tup [.bool z, .int .i64 0]) (E1 ++ [.keep [(0, Ob.box [.bool true, .bool false, .bool z, .bool s, .bool o])], tT, .get ([D.nilf, D.nilf, D.fn (Fn.func 149) [] [], D.fn (Fn.func 155) [] [D.ptr false 4 0], D.fn (Fn.func 150) [] [], D.fn (Fn.func 155) [] [D.ptr false 5 0], D.fn (Fn.func 153) [] [D.ptr false 6 0, D.ptr false 7 0], D.fn (Fn.func 155) [] [D.ptr false 10 0], D.nilf, D.nilf, D.nilf, D.nilf, D.fn (Fn.func 151) [] [], D.fn (Fn.func 155) [] [D.ptr false 11 0], D.fn (Fn.func 153) [] [D.ptr false 12 0, D.ptr false 13 0], D.fn (Fn.func 155) [] [D.ptr false 16 0]]) 6 (D.fn (Fn.func 153) [] [D.ptr false 6 0, D.ptr false 7 0]) rfl, .inl, .inl, tT, tT, tT, .inl, tF]) (by kernel_rfl)).to (by clear E1; (try cases c) <;> (try cases z) <;> (try cases s) <;> (try cases o) <;> first | (simp [wk, wkL, holdM]; done) | rfl | exact ⟨rfl, rfl, trivial⟩)
 exact (o45 (d := .tup [.bool true, .int .i64 0]) (E1 ++ [.keep [(0, Ob.box [.bool true, .bool true, .bool z, .bool s, .bool o])], tT, .get ([D.nilf, D.nilf, D.fn (Fn.func 149) [] [], D.fn (Fn.func 155) [] [D.ptr false 4 0], D.fn (Fn.func 150) [] [], D.fn (Fn.func 155) [] [D.ptr false 5 0], D.fn (Fn.func 153) [] [D.ptr false 6 0, D.ptr false 7 0], D.fn (Fn.func 155) [] [D.ptr false 10 0], D.nilf, D.nilf, D.nilf, D.nilf, D.fn (Fn.func 151) [] [], D.fn (Fn.func 155) [] [D.ptr false 11 0], D.fn (Fn.func 153) [] [D.ptr false 12 0, D.ptr false 13 0], D.fn (Fn.func 155) [] [D.ptr false 16 0]]) 6 (D.fn (Fn.func 153) [] [D.ptr false 6 0, D.ptr false 7 0]) rfl, .inl, .inl, tF, tF, tF, tT]) (by kernel_rfl)).to (by clear E1; (try cases c) <;> (try cases z) <;> (try cases s) <;> (try cases o) <;> first | (simp [wk, wkL, holdM]; done) | rfl | exact ⟨rfl, rfl, trivial⟩)
theorem fholds_n6_ok (c z s o : Bool) : Ret Tryz.prog 45 ([.int .i8 6, fD false c z s o]) (.tup [.bool false, .int .i64 20]) := by
 have c0 := @fmay_6_ok
 have c1 := @fnone_ok
 let E1 : EL := [.ret _ _ _ c0, tF, .ret _ _ _ c1, .flat _ _ flat_Flags]
 cases c
 ·cases z
  ·cases s
   ·cases o
    ·exact (o45 (d := .tup [.bool false, .int .i64 20]) (E1 ++ [tF, tF, tF, tT, tT]) (by kernel_rfl)).to (by clear E1; simp [wk, wkL])
    exact (o45 (d := .tup [.bool false, .int .i64 20]) (E1 ++ [tT, tT, tT, tF, tT]) (by kernel_rfl)).to (by clear E1; simp [wk, wkL])
   exact (o45 (d := .tup [.bool false, .int .i64 20]) (E1 ++ [tT, tT, tT, tF, tT]) (by kernel_rfl)).to (by clear E1; simp [wk, wkL])
  exact (o45 (d := .tup [.bool false, .int .i64 20]) (E1 ++ [tT, tT, tT, tF, tT]) (by kernel_rfl)).to (by clear E1; simp [wk, wkL])
 exact (o45 (d := .tup [.bool false, .int .i64 20]) (E1 ++ [tT, tT, tT, tF, tT]) (by kernel_rfl)).to (by clear E1; simp [wk, wkL])
theorem fholds_7_ok (c z s o : Bool) : Ret Tryz.prog 45 ([.int .i8 7, fD true c z s o]) (.tup [.bool (holdM 7 c z s o), .int .i64 0]) := by
 have c0 := @fmay_7_ok
 have c1 := @fnone_ok
 let E1 : EL := ([.ret _ _ _ c0, tF, .ret _ _ _ c1, .flat _ _ flat_Flags, tT, tT, tT, tF, tF] ++ List.replicate 10 .inl ++ [.keep []])
 cases c
 ·exact (o45 (d := .tup [.bool !z, .int .i64 0]) (E1 ++ [.keep [(0, Ob.box [.bool true, .bool false, .bool z, .bool s, .bool o])], tT, .get ([D.nilf, D.nilf, D.fn (Fn.func 149) [] [], D.fn (Fn.func 155) [] [D.ptr false 4 0], D.fn (Fn.func 150) [] [], D.fn (Fn.func 155) [] [D.ptr false 5 0], D.fn (Fn.func 153) [] [D.ptr false 6 0, D.ptr false 7 0], D.fn (Fn.func 155) [] [D.ptr false 10 0], D.nilf, D.nilf, D.nilf, D.nilf, D.fn (Fn.func 151) [] [], D.fn (Fn.func 155) [] [D.ptr false 11 0], D.fn (Fn.func 153) [] [D.ptr false 12 0, D.ptr false 13 0], D.fn (Fn.func 155) [] [D.ptr false 16 0]]) 7 (D.fn (Fn.func 155) [] [D.ptr false 10 0]) rfl, .inl, .inl, .inl, tT, tT, tT, .inl, tF]) (by kernel_rfl)).to (by clear E1; (try cases c) <;> (try cases z) <;> (try cases s) <;> (try cases o) <;> first | (simp [wk, wkL, holdM]; done) | rfl | exact ⟨rfl, rfl, trivial⟩)
 exact (o45 (d := .tup [.bool false, .int .i64 0]) (E1 ++ [.keep [(0, Ob.box [.bool true, .bool true, .bool z, .bool s, .bool o])], tT, .get ([D.nilf, D.nilf, D.fn (Fn.func 149) [] [], D.fn (Fn.func 155) [] [D.ptr false 4 0], D.fn (Fn.func 150) [] [], D.fn (Fn.func 155) [] [D.ptr false 5 0], D.fn (Fn.func 153) [] [D.ptr false 6 0, D.ptr false 7 0], D.fn (Fn.func 155) [] [D.ptr false 10 0], D.nilf, D.nilf, D.nilf, D.nilf, D.fn (Fn.func 151) [] [], D.fn (Fn.func 155) [] [D.ptr false 11 0], D.fn (Fn.func 153) [] [D.ptr false 12 0, D.ptr false 13 0], D.fn (Fn.func 155) [] [D.ptr false 16 0]]) 7 (D.fn (Fn.func 155) [] [D.ptr false 10 0]) rfl, .inl, .inl, .inl, tF, tF, tF, tT]) (by kernel_rfl)).to (by clear E1; (try cases c) <;> (try cases z) <;> (try cases s) <;> (try cases o) <;> first | (simp [wk, wkL, holdM]; done) | rfl | exact ⟨rfl, rfl, trivial⟩)
theorem fholds_n7_ok (c z s o : Bool) : Ret Tryz.prog 45 ([.int .i8 7, fD false c z s o]) (.tup [.bool false, .int .i64 20]) := by
 have c0 := @fmay_7_ok
 have c1 := @fnone_ok
 let E1 : EL := [.ret _ _ _ c0, tF, .ret _ _ _ c1, .flat _ _ flat_Flags]
 cases c
 ·cases z
  ·cases s
   ·cases o
    ·exact (o45 (d := .tup [.bool false, .int .i64 20]) (E1 ++ [tF, tF, tF, tT, tT]) (by kernel_rfl)).to (by clear E1; simp [wk, wkL])
    exact (o45 (d := .tup [.bool false, .int .i64 20]) (E1 ++ [tT, tT, tT, tF, tT]) (by kernel_rfl)).to (by clear E1; simp [wk, wkL])
   exact (o45 (d := .tup [.bool false, .int .i64 20]) (E1 ++ [tT, tT, tT, tF, tT]) (by kernel_rfl)).to (by clear E1; simp [wk, wkL])
  exact (o45 (d := .tup [.bool false, .int .i64 20]) (E1 ++ [tT, tT, tT, tF, tT]) (by kernel_rfl)).to (by clear E1; simp [wk, wkL])
 exact (o45 (d := .tup [.bool false, .int .i64 20]) (E1 ++ [tT, tT, tT, tF, tT]) (by kernel_rfl)).to (by clear E1; simp [wk, wkL])
theorem fholds_12_ok (c z s o : Bool) : Ret Tryz.prog 45 ([.int .i8 12, fD true c z s o]) (.tup [.bool (holdM 12 c z s o), .int .i64 0]) := by
 have c0 := @fmay_12_ok
 have c1 := @fnone_ok
 exact (o45 (d := .tup [.bool !s == o, .int .i64 0]) ([.ret _ _ _ c0, tF, .ret _ _ _ c1, .flat _ _ flat_Flags, tT, tT, tT, tF, tF] ++ List.replicate 10 .inl ++ [.keep [], .keep [(0, Ob.box [.bool true, .bool c, .bool z, .bool s, .bool o])], tT, .get ([D.nilf, D.nilf, D.fn (Fn.func 149) [] [], D.fn (Fn.func 155) [] [D.ptr false 4 0], D.fn (Fn.func 150) [] [], D.fn (Fn.func 155) [] [D.ptr false 5 0], D.fn (Fn.func 153) [] [D.ptr false 6 0, D.ptr false 7 0], D.fn (Fn.func 155) [] [D.ptr false 10 0], D.nilf, D.nilf, D.nilf, D.nilf, D.fn (Fn.func 151) [] [], D.fn (Fn.func 155) [] [D.ptr false 11 0], D.fn (Fn.func 153) [] [D.ptr false 12 0, D.ptr false 13 0], D.fn (Fn.func 155) [] [D.ptr false 16 0]]) 12 (D.fn (Fn.func 151) [] []) rfl, .inl]) (by kernel_rfl)).to (by (try cases c) <;> (try cases z) <;> (try cases s) <;> (try cases o) <;> first | (simp [wk, wkL, holdM]; done) | rfl | exact ⟨rfl, rfl, trivial⟩)
theorem fholds_n12_ok (c z s o : Bool) : Ret Tryz.prog 45 ([.int .i8 12, fD false c z s o]) (.tup [.bool false, .int .i64 20]) := by
 have c0 := @fmay_12_ok
 have c1 := @fnone_ok
 let E1 : EL := [.ret _ _ _ c0, tF, .ret _ _ _ c1, .flat _ _ flat_Flags]
 cases c
 ·cases z
  ·cases s
   ·cases o
    ·exact (o45 (d := .tup [.bool false, .int .i64 20]) (E1 ++ [tF, tF, tF, tT, tT]) (by kernel_rfl)).to (by clear E1; simp [wk, wkL])
    exact (o45 (d := .tup [.bool false, .int .i64 20]) (E1 ++ [tT, tT, tT, tF, tT]) (by kernel_rfl)).to (by clear E1; simp [wk, wkL])
   exact (o45 (d := .tup [.bool false, .int .i64 20]) (E1 ++ [tT, tT, tT, tF, tT]) (by kernel_rfl)).to (by clear E1; simp [wk, wkL])
  exact (o45 (d := .tup [.bool false, .int .i64 20]) (E1 ++ [tT, tT, tT, tF, tT]) (by kernel_rfl)).to (by clear E1; simp [wk, wkL])
 exact (o45 (d := .tup [.bool false, .int .i64 20]) (E1 ++ [tT, tT, tT, tF, tT]) (by kernel_rfl)).to (by clear E1; simp [wk, wkL])
theorem fholds_13_ok (c z s o : Bool) : Ret Tryz.prog 45 ([.int .i8 13, fD true c z s o]) (.tup [.bool (holdM 13 c z s o), .int .i64 0]) := by
 have c0 := @fmay_13_ok
 have c1 := @fnone_ok
 exact (o45 (d := .tup [.bool !!s == o, .int .i64 0]) ([.ret _ _ _ c0, tF, .ret _ _ _ c1, .flat _ _ flat_Flags, tT, tT, tT, tF, tF] ++ List.replicate 10 .inl ++ [.keep [], .keep [(0, Ob.box [.bool true, .bool c, .bool z, .bool s, .bool o])], tT, .get ([D.nilf, D.nilf, D.fn (Fn.func 149) [] [], D.fn (Fn.func 155) [] [D.ptr false 4 0], D.fn (Fn.func 150) [] [], D.fn (Fn.func 155) [] [D.ptr false 5 0], D.fn (Fn.func 153) [] [D.ptr false 6 0, D.ptr false 7 0], D.fn (Fn.func 155) [] [D.ptr false 10 0], D.nilf, D.nilf, D.nilf, D.nilf, D.fn (Fn.func 151) [] [], D.fn (Fn.func 155) [] [D.ptr false 11 0], D.fn (Fn.func 153) [] [D.ptr false 12 0, D.ptr false 13 0], D.fn (Fn.func 155) [] [D.ptr false 16 0]]) 13 (D.fn (Fn.func 155) [] [D.ptr false 11 0]) rfl, .inl, .inl]) (by kernel_rfl)).to (by (try cases c) <;> (try cases z) <;> (try cases s) <;> (try cases o) <;> first | (simp [wk, wkL, holdM]; done) | rfl | exact ⟨rfl, rfl, trivial⟩)
theorem fholds_n13_ok (c z s o : Bool) : Ret Tryz.prog 45 ([.int .i8 13, fD false c z s o]) (.tup [.bool false, .int .i64 20]) := by
 have c0 := @fmay_13_ok
 have c1 := @fnone_ok
 let E1 : EL := [.ret _ _ _ c0, tF, .ret _ _ _ c1, .flat _ _ flat_Flags]
 cases c
 ·cases z
  ·cases s
   ·cases o
    ·exact (o45 (d := .tup [.bool false, .int .i64 20]) (E1 ++ [tF, tF, tF, tT, tT]) (by kernel_rfl)).to (by clear E1; simp [wk, wkL])
    exact (o45 (d := .tup [.bool false, .int .i64 20]) (E1 ++ [tT, tT, tT, tF, tT]) (by kernel_rfl)).to (by clear E1; simp [wk, wkL])
   exact (o45 (d := .tup [.bool false, .int .i64 20]) (E1 ++ [tT, tT, tT, tF, tT]) (by kernel_rfl)).to (by clear E1; simp [wk, wkL])
  exact (o45 (d := .tup [.bool false, .int .i64 20]) (E1 ++ [tT, tT, tT, tF, tT]) (by kernel_rfl)).to (by clear E1; simp [wk, wkL])
 exact (o45 (d := .tup [.bool false, .int .i64 20]) (E1 ++ [tT, tT, tT, tF, tT]) (by kernel_rfl)).to (by clear E1; simp [wk, wkL])
theorem fholds_14_ok (c z s o : Bool) : Ret Tryz.prog 45 ([.int .i8 14, fD true c z s o]) (.tup [.bool (holdM 14 c z s o), .int .i64 0]) := by
 have c0 := @fmay_14_ok
 have c1 := @fnone_ok
 let E1 : EL := ([.ret _ _ _ c0, tF, .ret _ _ _ c1, .flat _ _ flat_Flags, tT, tT, tT, tF, tF] ++ List.replicate 10 .inl ++ [.keep []])
 cases z
 ·exact (o45 (d := .tup [.bool !s == o, .int .i64 0]) (E1 ++ [.keep [(0, Ob.box [.bool true, .bool c, .bool false, .bool s, .bool o])], tT, .get ([D.nilf, D.nilf, D.fn (Fn.func 149) [] [], D.fn (Fn.func 155) [] [D.ptr false 4 0], D.fn (Fn.func 150) [] [], D.fn (Fn.func 155) [] [D.ptr false 5 0], D.fn (Fn.func 153) [] [D.ptr false 6 0, D.ptr false 7 0], D.fn (Fn.func 155) [] [D.ptr false 10 0], D.nilf, D.nilf, D.nilf, D.nilf, D.fn (Fn.func 151) [] [], D.fn (Fn.func 155) [] [D.ptr false 11 0], D.fn (Fn.func 153) [] [D.ptr false 12 0, D.ptr false 13 0], D.fn (Fn.func 155) [] [D.ptr false 16 0]]) 14 (D.fn (Fn.func 153) [] [D.ptr false 12 0, D.ptr false 13 0]) rfl, .inl, .inl, tT, tT, tT, .inl, tF]) (by kernel_rfl)).to (by clear E1; (try cases c) <;> (try cases z) <;> (try cases s) <;> (try cases o) <;> first | (simp [wk, wkL, holdM]; done) | rfl | exact ⟨rfl, rfl, trivial⟩)
 exact (o45 (d := .tup [.bool true, .int .i64 0]) (E1 ++ [.keep [(0, Ob.box [.bool true, .bool c, .bool true, .bool s, .bool o])], tT, .get ([D.nilf, D.nilf, D.fn (Fn.func 149) [] [], D.fn (Fn.func 155) [] [D.ptr false 4 0], D.fn (Fn.func 150) [] [], D.fn (Fn.func 155) [] [D.ptr false 5 0], D.fn (Fn.func 153) [] [D.ptr false 6 0, D.ptr false 7 0], D.fn (Fn.func 155) [] [D.ptr false 10 0], D.nilf, D.nilf, D.nilf, D.nilf, D.fn (Fn.func 151) [] [], D.fn (Fn.func 155) [] [D.ptr false 11 0], D.fn (Fn.func 153) [] [D.ptr false 12 0, D.ptr false 13 0], D.fn (Fn.func 155) [] [D.ptr false 16 0]]) 14 (D.fn (Fn.func 153) [] [D.ptr false 12 0, D.ptr false 13 0]) rfl, .inl, .inl, tF, tF, tF, tT]) (by kernel_rfl)).to (by clear E1; (try cases c) <;> (try cases z) <;> (try cases s) <;> (try cases o) <;> first | (simp [wk, wkL, holdM]; done) | rfl | exact ⟨rfl, rfl, trivial⟩)
theorem fholds_n14_ok (c z s o : Bool) : Ret Tryz.prog 45 ([.int .i8 14, fD false c z s o]) (.tup [.bool false, .int .i64 20]) := by
 have c0 := @fmay_14_ok
 have c1 := @fnone_ok
 let E1 : EL := [.ret _ _ _ c0, tF, .ret _ _ _ c1, .flat _ _ flat_Flags]
 cases c
 ·cases z
  ·cases s
   ·cases o
    ·exact (o45 (d := .tup [.bool false, .int .i64 20]) (E1 ++ [tF, tF, tF, tT, tT]) (by kernel_rfl)).to (by clear E1; simp [wk, wkL])
    exact (o45 (d := .tup [.bool false, .int .i64 20]) (E1 ++ [tT, tT, tT, tF, tT]) (by kernel_rfl)).to (by clear E1; simp [wk, wkL])
   exact (o45 (d := .tup [.bool false, .int .i64 20]) (E1 ++ [tT, tT, tT, tF, tT]) (by kernel_rfl)).to (by clear E1; simp [wk, wkL])
  exact (o45 (d := .tup [.bool false, .int .i64 20]) (E1 ++ [tT, tT, tT, tF, tT]) (by kernel_rfl)).to (by clear E1; simp [wk, wkL])
 exact (o45 (d := .tup [.bool false, .int .i64 20]) (E1 ++ [tT, tT, tT, tF, tT]) (by kernel_rfl)).to (by clear E1; simp [wk, wkL])
theorem fholds_15_ok (c z s o : Bool) : Ret Tryz.prog 45 ([.int .i8 15, fD true c z s o]) (.tup [.bool (holdM 15 c z s o), .int .i64 0]) := by
 have c0 := @fmay_15_ok
 have c1 := @fnone_ok
 let E1 : EL := ([.ret _ _ _ c0, tF, .ret _ _ _ c1, .flat _ _ flat_Flags, tT, tT, tT, tF, tF] ++ List.replicate 10 .inl ++ [.keep []])
 cases z
 ·exact (o45 (d := .tup [.bool !!s == o, .int .i64 0]) (E1 ++ [.keep [(0, Ob.box [.bool true, .bool c, .bool false, .bool s, .bool o])], tT, .get ([D.nilf, D.nilf, D.fn (Fn.func 149) [] [], D.fn (Fn.func 155) [] [D.ptr false 4 0], D.fn (Fn.func 150) [] [], D.fn (Fn.func 155) [] [D.ptr false 5 0], D.fn (Fn.func 153) [] [D.ptr false 6 0, D.ptr false 7 0], D.fn (Fn.func 155) [] [D.ptr false 10 0], D.nilf, D.nilf, D.nilf, D.nilf, D.fn (Fn.func 151) [] [], D.fn (Fn.func 155) [] [D.ptr false 11 0], D.fn (Fn.func 153) [] [D.ptr false 12 0, D.ptr false 13 0], D.fn (Fn.func 155) [] [D.ptr false 16 0]]) 15 (D.fn (Fn.func 155) [] [D.ptr false 16 0]) rfl, .inl, .inl, .inl, tT, tT, tT, .inl, tF]) (by kernel_rfl)).to (by clear E1; (try cases c) <;> (try cases z) <;> (try cases s) <;> (try cases o) <;> first | (simp [wk, wkL, holdM]; done) | rfl | exact ⟨rfl, rfl, trivial⟩)
 exact (o45 (d := .tup [.bool false, .int .i64 0]) (E1 ++ [.keep [(0, Ob.box [.bool true, .bool c, .bool true, .bool s, .bool o])], tT, .get ([D.nilf, D.nilf, D.fn (Fn.func 149) [] [], D.fn (Fn.func 155) [] [D.ptr false 4 0], D.fn (Fn.func 150) [] [], D.fn (Fn.func 155) [] [D.ptr false 5 0], D.fn (Fn.func 153) [] [D.ptr false 6 0, D.ptr false 7 0], D.fn (Fn.func 155) [] [D.ptr false 10 0], D.nilf, D.nilf, D.nilf, D.nilf, D.fn (Fn.func 151) [] [], D.fn (Fn.func 155) [] [D.ptr false 11 0], D.fn (Fn.func 153) [] [D.ptr false 12 0, D.ptr false 13 0], D.fn (Fn.func 155) [] [D.ptr false 16 0]]) 15 (D.fn (Fn.func 155) [] [D.ptr false 16 0]) rfl, .inl, .inl, .inl, tF, tF, tF, tT]) (by kernel_rfl)).to (by clear E1; (try cases c) <;> (try cases z) <;> (try cases s) <;> (try cases o) <;> first | (simp [wk, wkL, holdM]; done) | rfl | exact ⟨rfl, rfl, trivial⟩)
theorem fholds_n15_ok (c z s o : Bool) : Ret Tryz.prog 45 ([.int .i8 15, fD false c z s o]) (.tup [.bool false, .int .i64 20]) := by
 have c0 := @fmay_15_ok
 have c1 := @fnone_ok
 let E1 : EL := [.ret _ _ _ c0, tF, .ret _ _ _ c1, .flat _ _ flat_Flags]
 cases c
 ·cases z
  ·cases s
   ·cases o
    ·exact (o45 (d := .tup [.bool false, .int .i64 20]) (E1 ++ [tF, tF, tF, tT, tT]) (by kernel_rfl)).to (by clear E1; simp [wk, wkL])
    exact (o45 (d := .tup [.bool false, .int .i64 20]) (E1 ++ [tT, tT, tT, tF, tT]) (by kernel_rfl)).to (by clear E1; simp [wk, wkL])
   exact (o45 (d := .tup [.bool false, .int .i64 20]) (E1 ++ [tT, tT, tT, tF, tT]) (by kernel_rfl)).to (by clear E1; simp [wk, wkL])
  exact (o45 (d := .tup [.bool false, .int .i64 20]) (E1 ++ [tT, tT, tT, tF, tT]) (by kernel_rfl)).to (by clear E1; simp [wk, wkL])
 exact (o45 (d := .tup [.bool false, .int .i64 20]) (E1 ++ [tT, tT, tT, tF, tT]) (by kernel_rfl)).to (by clear E1; simp [wk, wkL])
end Go.Proofs.YtojgmjfcfpclbaaGreat
