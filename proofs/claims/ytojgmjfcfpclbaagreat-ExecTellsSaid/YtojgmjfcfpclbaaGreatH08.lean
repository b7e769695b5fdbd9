/- Contracts and plain laws that a statement's proof leans on (texts merged: XR2c, XR2d, XR2e, XR2f, XRB, XB2a, XB2b, XB2c). -/
import Derived.Test.YtojgmjfcfpclbaaGreatH04
import Derived.Test.YtojgmjfcfpclbaaGreatH07
set_option linter.unusedVariables false
set_option linter.unusedSimpArgs false
namespace Go.Proofs.YtojgmjfcfpclbaaGreat
open Go Go.Ev
set_option maxRecDepth 100000
set_option maxHeartbeats 8000000
theorem rbytes_17_ok (w dst src base disp imm cc : Int) (d0 : 0 ≤ dst) (d1 : dst ≤ 15) (s0 : 0 ≤ src) (s1 : src ≤ 15) (b0 : 0 ≤ base) (b1 : base ≤ 15) (p0 : -2147483648 ≤ disp) (p1 : disp ≤ 2147483647) (i0 : -2147483648 ≤ imm) (i1 : imm ≤ 2147483647) (c0 : 0 ≤ cc) (c1 : cc ≤ 15) (hm : mayX 17 w dst src base disp imm cc = true) : Ret Tryz.prog 119 ([xD 17 w dst src base disp imm cc]) (.tup [.lst .no 1 (bD (bytesM 17 w dst src base disp imm cc)), .int .i64 0]) := by
 have c0 := @rmayX_ok 17 w dst src base disp imm cc
 rw [show (mayX 17 w dst src base disp imm cc) = true from hm] at c0
 have c1 := @class_ok 17
 have c2 := @class_ok 17
 have c3 := @class_ok 17
 let E1 : EL := ([.ret _ _ _ c0, tF, .inl] ++ List.replicate 12 tF ++ [tT, tT, tF, .ret _ _ _ c1, tF, tF, .ret _ _ _ c2, tF, .ret _ _ _ c3, tT])
 rcases bft (needM (w == 64) 0 dst false) with h4 | h4
 ·have c5 := @rrex_ok 0 dst (by decide) (by decide) d0 d1 (w == 64) false h4
  generalize g7 : rexB (w == 64) 0 dst = r6 at c5
  have c8 := @rdirect_ok 4 dst (by decide) (by decide) d0 d1
  generalize g10 : regsM 4 dst = r9 at c8
  exact (o119 (d := .tup [.lst (.fresh 1) 1 [.int .u8 r6, .int .u8 193, .int .u8 r9, .int .u8 (IntKind.wrap IntKind.u8 imm)], .int .i64 0]) (E1 ++ [.ret _ _ _ c5, .ret _ _ _ c8, .len 4 2147483648 (by decide)]) (by kernel_rfl)).to (by clear E1; (subst_vars; (try simp only [beq_dec] at *); (try simp only [beq_iff_eq] at h); (try simp only [decide_eq_true_eq, decide_eq_false_iff_not] at *); simp_all [wk, wkL, wkO, bytesM, show shapeM 17 = 4 from rfl, bD, rexM, memM, fourM, w_u8, codeM, numM]; done))
 have c11 := @rrexn_ok 0 dst (by decide) (by decide) d0 d1 (w == 64) false h4
 have c12 := @rdirect_ok 4 dst (by decide) (by decide) d0 d1
 generalize g14 : regsM 4 dst = r13 at c12
 exact (o119 (d := .tup [.lst (.fresh 1) 1 [.int .u8 193, .int .u8 r13, .int .u8 (IntKind.wrap IntKind.u8 imm)], .int .i64 0]) (E1 ++ [.ret _ _ _ c11, .ret _ _ _ c12, .len 3 2147483648 (by decide)]) (by kernel_rfl)).to (by clear E1; (subst_vars; (try simp only [beq_dec] at *); (try simp only [beq_iff_eq] at h); (try simp only [decide_eq_true_eq, decide_eq_false_iff_not] at *); simp_all [wk, wkL, wkO, bytesM, show shapeM 17 = 4 from rfl, bD, rexM, memM, fourM, w_u8, codeM, numM]; done))
theorem rbytes_18_ok (w dst src base disp imm cc : Int) (d0 : 0 ≤ dst) (d1 : dst ≤ 15) (s0 : 0 ≤ src) (s1 : src ≤ 15) (b0 : 0 ≤ base) (b1 : base ≤ 15) (p0 : -2147483648 ≤ disp) (p1 : disp ≤ 2147483647) (i0 : -2147483648 ≤ imm) (i1 : imm ≤ 2147483647) (c0 : 0 ≤ cc) (c1 : cc ≤ 15) (hm : mayX 18 w dst src base disp imm cc = true) : Ret Tryz.prog 119 ([xD 18 w dst src base disp imm cc]) (.tup [.lst .no 1 (bD (bytesM 18 w dst src base disp imm cc)), .int .i64 0]) := by
 have c0 := @rmayX_ok 18 w dst src base disp imm cc
 rw [show (mayX 18 w dst src base disp imm cc) = true from hm] at c0
 have c1 := @class_ok 18
 have c2 := @class_ok 18
 have c3 := @class_ok 18
 let E1 : EL := ([.ret _ _ _ c0, tF, .inl] ++ List.replicate 15 tF ++ [tT, tT, tF, .ret _ _ _ c1, tF, tF, .ret _ _ _ c2, tF, .ret _ _ _ c3, tT])
 rcases bft (needM (w == 64) 0 dst false) with h4 | h4
 ·have c5 := @rrex_ok 0 dst (by decide) (by decide) d0 d1 (w == 64) false h4
  generalize g7 : rexB (w == 64) 0 dst = r6 at c5
  have c8 := @rdirect_ok 5 dst (by decide) (by decide) d0 d1
  generalize g10 : regsM 5 dst = r9 at c8
  exact (o119 (d := .tup [.lst (.fresh 1) 1 [.int .u8 r6, .int .u8 193, .int .u8 r9, .int .u8 (IntKind.wrap IntKind.u8 imm)], .int .i64 0]) (E1 ++ [.ret _ _ _ c5, .ret _ _ _ c8, .len 4 2147483648 (by decide)]) (by kernel_rfl)).to (by clear E1; (subst_vars; (try simp only [beq_dec] at *); (try simp only [beq_iff_eq] at h); (try simp only [decide_eq_true_eq, decide_eq_false_iff_not] at *); simp_all [wk, wkL, wkO, bytesM, show shapeM 18 = 4 from rfl, bD, rexM, memM, fourM, w_u8, codeM, numM]; done))
 have c11 := @rrexn_ok 0 dst (by decide) (by decide) d0 d1 (w == 64) false h4
 have c12 := @rdirect_ok 5 dst (by decide) (by decide) d0 d1
 generalize g14 : regsM 5 dst = r13 at c12
 exact (o119 (d := .tup [.lst (.fresh 1) 1 [.int .u8 193, .int .u8 r13, .int .u8 (IntKind.wrap IntKind.u8 imm)], .int .i64 0]) (E1 ++ [.ret _ _ _ c11, .ret _ _ _ c12, .len 3 2147483648 (by decide)]) (by kernel_rfl)).to (by clear E1; (subst_vars; (try simp only [beq_dec] at *); (try simp only [beq_iff_eq] at h); (try simp only [decide_eq_true_eq, decide_eq_false_iff_not] at *); simp_all [wk, wkL, wkO, bytesM, show shapeM 18 = 4 from rfl, bD, rexM, memM, fourM, w_u8, codeM, numM]; done))
theorem rbytes_19_ok (w dst src base disp imm cc : Int) (d0 : 0 ≤ dst) (d1 : dst ≤ 15) (s0 : 0 ≤ src) (s1 : src ≤ 15) (b0 : 0 ≤ base) (b1 : base ≤ 15) (p0 : -2147483648 ≤ disp) (p1 : disp ≤ 2147483647) (i0 : -2147483648 ≤ imm) (i1 : imm ≤ 2147483647) (c0 : 0 ≤ cc) (c1 : cc ≤ 15) (hm : mayX 19 w dst src base disp imm cc = true) : Ret Tryz.prog 119 ([xD 19 w dst src base disp imm cc]) (.tup [.lst .no 1 (bD (bytesM 19 w dst src base disp imm cc)), .int .i64 0]) := by
 have c0 := @rmayX_ok 19 w dst src base disp imm cc
 rw [show (mayX 19 w dst src base disp imm cc) = true from hm] at c0
 have c1 := @class_ok 19
 have c2 := @class_ok 19
 have c3 := @class_ok 19
 let E1 : EL := ([.ret _ _ _ c0, tF, .inl] ++ List.replicate 20 tF ++ [tT, tT, tF, .ret _ _ _ c1, tF, tF, .ret _ _ _ c2, tF, .ret _ _ _ c3, tT])
 rcases bft (needM (w == 64) 0 dst false) with h4 | h4
 ·have c5 := @rrex_ok 0 dst (by decide) (by decide) d0 d1 (w == 64) false h4
  generalize g7 : rexB (w == 64) 0 dst = r6 at c5
  have c8 := @rdirect_ok 7 dst (by decide) (by decide) d0 d1
  generalize g10 : regsM 7 dst = r9 at c8
  exact (o119 (d := .tup [.lst (.fresh 1) 1 [.int .u8 r6, .int .u8 193, .int .u8 r9, .int .u8 (IntKind.wrap IntKind.u8 imm)], .int .i64 0]) (E1 ++ [.ret _ _ _ c5, .ret _ _ _ c8, .len 4 2147483648 (by decide)]) (by kernel_rfl)).to (by clear E1; (subst_vars; (try simp only [beq_dec] at *); (try simp only [beq_iff_eq] at h); (try simp only [decide_eq_true_eq, decide_eq_false_iff_not] at *); simp_all [wk, wkL, wkO, bytesM, show shapeM 19 = 4 from rfl, bD, rexM, memM, fourM, w_u8, codeM, numM]; done))
 have c11 := @rrexn_ok 0 dst (by decide) (by decide) d0 d1 (w == 64) false h4
 have c12 := @rdirect_ok 7 dst (by decide) (by decide) d0 d1
 generalize g14 : regsM 7 dst = r13 at c12
 exact (o119 (d := .tup [.lst (.fresh 1) 1 [.int .u8 193, .int .u8 r13, .int .u8 (IntKind.wrap IntKind.u8 imm)], .int .i64 0]) (E1 ++ [.ret _ _ _ c11, .ret _ _ _ c12, .len 3 2147483648 (by decide)]) (by kernel_rfl)).to (by clear E1; (subst_vars; (try simp only [beq_dec] at *); (try simp only [beq_iff_eq] at h); (try simp only [decide_eq_true_eq, decide_eq_false_iff_not] at *); simp_all [wk, wkL, wkO, bytesM, show shapeM 19 = 4 from rfl, bD, rexM, memM, fourM, w_u8, codeM, numM]; done))
theorem rbytes_20_ok (w dst src base disp imm cc : Int) (d0 : 0 ≤ dst) (d1 : dst ≤ 15) (s0 : 0 ≤ src) (s1 : src ≤ 15) (b0 : 0 ≤ base) (b1 : base ≤ 15) (p0 : -2147483648 ≤ disp) (p1 : disp ≤ 2147483647) (i0 : -2147483648 ≤ imm) (i1 : imm ≤ 2147483647) (c0 : 0 ≤ cc) (c1 : cc ≤ 15) (hm : mayX 20 w dst src base disp imm cc = true) : Ret Tryz.prog 119 ([xD 20 w dst src base disp imm cc]) (.tup [.lst .no 1 (bD (bytesM 20 w dst src base disp imm cc)), .int .i64 0]) := by
 have c0 := @rmayX_ok 20 w dst src base disp imm cc
 rw [show (mayX 20 w dst src base disp imm cc) = true from hm] at c0
 have c1 := @class_ok 20
 have c2 := @class_ok 20
 have c3 := @class_ok 20
 have c4 := @class_ok 20
 let E1 : EL := ([.ret _ _ _ c0, tF, .inl] ++ List.replicate 13 tF ++ [tT, tF, .ret _ _ _ c1, tF, tF, .ret _ _ _ c2, tF, .ret _ _ _ c3, tF, .ret _ _ _ c4, tT])
 rcases bft (needM (w == 64) 0 dst false) with h5 | h5
 ·have c6 := @rrex_ok 0 dst (by decide) (by decide) d0 d1 (w == 64) false h5
  generalize g8 : rexB (w == 64) 0 dst = r7 at c6
  have c9 := @rdirect_ok 4 dst (by decide) (by decide) d0 d1
  generalize g11 : regsM 4 dst = r10 at c9
  exact (o119 (d := .tup [.lst (.fresh 1) 1 [.int .u8 r7, .int .u8 211, .int .u8 r10], .int .i64 0]) (E1 ++ [.ret _ _ _ c6, tT, tT, tT, tF, tF, .ret _ _ _ c9, .len 3 2147483648 (by decide)]) (by kernel_rfl)).to (by clear E1; (subst_vars; (try simp only [beq_dec] at *); (try simp only [beq_iff_eq] at h); (try simp only [decide_eq_true_eq, decide_eq_false_iff_not] at *); simp_all [wk, wkL, wkO, bytesM, show shapeM 20 = 5 from rfl, bD, rexM, memM, fourM, w_u8, codeM, numM]; done))
 have c12 := @rrexn_ok 0 dst (by decide) (by decide) d0 d1 (w == 64) false h5
 have c13 := @rdirect_ok 4 dst (by decide) (by decide) d0 d1
 generalize g15 : regsM 4 dst = r14 at c13
 exact (o119 (d := .tup [.lst (.fresh 1) 1 [.int .u8 211, .int .u8 r14], .int .i64 0]) (E1 ++ [.ret _ _ _ c12, tT, tT, tT, tF, tF, .ret _ _ _ c13, .len 2 2147483648 (by decide)]) (by kernel_rfl)).to (by clear E1; (subst_vars; (try simp only [beq_dec] at *); (try simp only [beq_iff_eq] at h); (try simp only [decide_eq_true_eq, decide_eq_false_iff_not] at *); simp_all [wk, wkL, wkO, bytesM, show shapeM 20 = 5 from rfl, bD, rexM, memM, fourM, w_u8, codeM, numM]; done))
theorem rbytes_21_ok (w dst src base disp imm cc : Int) (d0 : 0 ≤ dst) (d1 : dst ≤ 15) (s0 : 0 ≤ src) (s1 : src ≤ 15) (b0 : 0 ≤ base) (b1 : base ≤ 15) (p0 : -2147483648 ≤ disp) (p1 : disp ≤ 2147483647) (i0 : -2147483648 ≤ imm) (i1 : imm ≤ 2147483647) (c0 : 0 ≤ cc) (c1 : cc ≤ 15) (hm : mayX 21 w dst src base disp imm cc = true) : Ret Tryz.prog 119 ([xD 21 w dst src base disp imm cc]) (.tup [.lst .no 1 (bD (bytesM 21 w dst src base disp imm cc)), .int .i64 0]) := by
 have c0 := @rmayX_ok 21 w dst src base disp imm cc
 rw [show (mayX 21 w dst src base disp imm cc) = true from hm] at c0
 have c1 := @class_ok 21
 have c2 := @class_ok 21
 have c3 := @class_ok 21
 have c4 := @class_ok 21
 let E1 : EL := ([.ret _ _ _ c0, tF, .inl] ++ List.replicate 16 tF ++ [tT, tF, .ret _ _ _ c1, tF, tF, .ret _ _ _ c2, tF, .ret _ _ _ c3, tF, .ret _ _ _ c4, tT])
 rcases bft (needM (w == 64) 0 dst false) with h5 | h5
 ·have c6 := @rrex_ok 0 dst (by decide) (by decide) d0 d1 (w == 64) false h5
  generalize g8 : rexB (w == 64) 0 dst = r7 at c6
  have c9 := @rdirect_ok 5 dst (by decide) (by decide) d0 d1
  generalize g11 : regsM 5 dst = r10 at c9
  exact (o119 (d := .tup [.lst (.fresh 1) 1 [.int .u8 r7, .int .u8 211, .int .u8 r10], .int .i64 0]) (E1 ++ [.ret _ _ _ c6, tT, tT, tT, tF, tF, .ret _ _ _ c9, .len 3 2147483648 (by decide)]) (by kernel_rfl)).to (by clear E1; (subst_vars; (try simp only [beq_dec] at *); (try simp only [beq_iff_eq] at h); (try simp only [decide_eq_true_eq, decide_eq_false_iff_not] at *); simp_all [wk, wkL, wkO, bytesM, show shapeM 21 = 5 from rfl, bD, rexM, memM, fourM, w_u8, codeM, numM]; done))
 have c12 := @rrexn_ok 0 dst (by decide) (by decide) d0 d1 (w == 64) false h5
 have c13 := @rdirect_ok 5 dst (by decide) (by decide) d0 d1
 generalize g15 : regsM 5 dst = r14 at c13
 exact (o119 (d := .tup [.lst (.fresh 1) 1 [.int .u8 211, .int .u8 r14], .int .i64 0]) (E1 ++ [.ret _ _ _ c12, tT, tT, tT, tF, tF, .ret _ _ _ c13, .len 2 2147483648 (by decide)]) (by kernel_rfl)).to (by clear E1; (subst_vars; (try simp only [beq_dec] at *); (try simp only [beq_iff_eq] at h); (try simp only [decide_eq_true_eq, decide_eq_false_iff_not] at *); simp_all [wk, wkL, wkO, bytesM, show shapeM 21 = 5 from rfl, bD, rexM, memM, fourM, w_u8, codeM, numM]; done))
theorem rbytes_22_ok (w dst src base disp imm cc : Int) (d0 : 0 ≤ dst) (d1 : dst ≤ 15) (s0 : 0 ≤ src) (s1 : src ≤ 15) (b0 : 0 ≤ base) (b1 : base ≤ 15) (p0 : -2147483648 ≤ disp) (p1 : disp ≤ 2147483647) (i0 : -2147483648 ≤ imm) (i1 : imm ≤ 2147483647) (c0 : 0 ≤ cc) (c1 : cc ≤ 15) (hm : mayX 22 w dst src base disp imm cc = true) : Ret Tryz.prog 119 ([xD 22 w dst src base disp imm cc]) (.tup [.lst .no 1 (bD (bytesM 22 w dst src base disp imm cc)), .int .i64 0]) := by
 have c0 := @rmayX_ok 22 w dst src base disp imm cc
 rw [show (mayX 22 w dst src base disp imm cc) = true from hm] at c0
 have c1 := @class_ok 22
 have c2 := @class_ok 22
 have c3 := @class_ok 22
 have c4 := @class_ok 22
 let E1 : EL := ([.ret _ _ _ c0, tF, .inl] ++ List.replicate 21 tF ++ [tT, tF, .ret _ _ _ c1, tF, tF, .ret _ _ _ c2, tF, .ret _ _ _ c3, tF, .ret _ _ _ c4, tT])
 rcases bft (needM (w == 64) 0 dst false) with h5 | h5
 ·have c6 := @rrex_ok 0 dst (by decide) (by decide) d0 d1 (w == 64) false h5
  generalize g8 : rexB (w == 64) 0 dst = r7 at c6
  have c9 := @rdirect_ok 7 dst (by decide) (by decide) d0 d1
  generalize g11 : regsM 7 dst = r10 at c9
  exact (o119 (d := .tup [.lst (.fresh 1) 1 [.int .u8 r7, .int .u8 211, .int .u8 r10], .int .i64 0]) (E1 ++ [.ret _ _ _ c6, tT, tT, tT, tF, tF, .ret _ _ _ c9, .len 3 2147483648 (by decide)]) (by kernel_rfl)).to (by clear E1; (subst_vars; (try simp only [beq_dec] at *); (try simp only [beq_iff_eq] at h); (try simp only [decide_eq_true_eq, decide_eq_false_iff_not] at *); simp_all [wk, wkL, wkO, bytesM, show shapeM 22 = 5 from rfl, bD, rexM, memM, fourM, w_u8, codeM, numM]; done))
 have c12 := @rrexn_ok 0 dst (by decide) (by decide) d0 d1 (w == 64) false h5
 have c13 := @rdirect_ok 7 dst (by decide) (by decide) d0 d1
 generalize g15 : regsM 7 dst = r14 at c13
 exact (o119 (d := .tup [.lst (.fresh 1) 1 [.int .u8 211, .int .u8 r14], .int .i64 0]) (E1 ++ [.ret _ _ _ c12, tT, tT, tT, tF, tF, .ret _ _ _ c13, .len 2 2147483648 (by decide)]) (by kernel_rfl)).to (by clear E1; (subst_vars; (try simp only [beq_dec] at *); (try simp only [beq_iff_eq] at h); (try simp only [decide_eq_true_eq, decide_eq_false_iff_not] at *); simp_all [wk, wkL, wkO, bytesM, show shapeM 22 = 5 from rfl, bD, rexM, memM, fourM, w_u8, codeM, numM]; done))
theorem rbytes_23_ok (w dst src base disp imm cc : Int) (d0 : 0 ≤ dst) (d1 : dst ≤ 15) (s0 : 0 ≤ src) (s1 : src ≤ 15) (b0 : 0 ≤ base) (b1 : base ≤ 15) (p0 : -2147483648 ≤ disp) (p1 : disp ≤ 2147483647) (i0 : -2147483648 ≤ imm) (i1 : imm ≤ 2147483647) (c0 : 0 ≤ cc) (c1 : cc ≤ 15) (hm : mayX 23 w dst src base disp imm cc = true) : Ret Tryz.prog 119 ([xD 23 w dst src base disp imm cc]) (.tup [.lst .no 1 (bD (bytesM 23 w dst src base disp imm cc)), .int .i64 0]) := by
 have c0 := @rmayX_ok 23 w dst src base disp imm cc
 rw [show (mayX 23 w dst src base disp imm cc) = true from hm] at c0
 have c1 := @class_ok 23
 have c2 := @class_ok 23
 have c3 := @class_ok 23
 have c4 := @class_ok 23
 let E1 : EL := ([.ret _ _ _ c0, tF, .inl] ++ List.replicate 22 tF ++ [tT, tF, .ret _ _ _ c1, tF, tF, .ret _ _ _ c2, tF, .ret _ _ _ c3, tF, .ret _ _ _ c4, tT])
 rcases bft (needM (w == 64) 0 dst false) with h5 | h5
 ·have c6 := @rrex_ok 0 dst (by decide) (by decide) d0 d1 (w == 64) false h5
  generalize g8 : rexB (w == 64) 0 dst = r7 at c6
  have c9 := @rdirect_ok 3 dst (by decide) (by decide) d0 d1
  generalize g11 : regsM 3 dst = r10 at c9
  exact (o119 (d := .tup [.lst (.fresh 1) 1 [.int .u8 r7, .int .u8 247, .int .u8 r10], .int .i64 0]) (E1 ++ [.ret _ _ _ c6, tF, tF, tF, tT, tT, .ret _ _ _ c9, .len 3 2147483648 (by decide)]) (by kernel_rfl)).to (by clear E1; (subst_vars; (try simp only [beq_dec] at *); (try simp only [beq_iff_eq] at h); (try simp only [decide_eq_true_eq, decide_eq_false_iff_not] at *); simp_all [wk, wkL, wkO, bytesM, show shapeM 23 = 5 from rfl, bD, rexM, memM, fourM, w_u8, codeM, numM]; done))
 have c12 := @rrexn_ok 0 dst (by decide) (by decide) d0 d1 (w == 64) false h5
 have c13 := @rdirect_ok 3 dst (by decide) (by decide) d0 d1
 generalize g15 : regsM 3 dst = r14 at c13
 exact (o119 (d := .tup [.lst (.fresh 1) 1 [.int .u8 247, .int .u8 r14], .int .i64 0]) (E1 ++ [.ret _ _ _ c12, tF, tF, tF, tT, tT, .ret _ _ _ c13, .len 2 2147483648 (by decide)]) (by kernel_rfl)).to (by clear E1; (subst_vars; (try simp only [beq_dec] at *); (try simp only [beq_iff_eq] at h); (try simp only [decide_eq_true_eq, decide_eq_false_iff_not] at *); simp_all [wk, wkL, wkO, bytesM, show shapeM 23 = 5 from rfl, bD, rexM, memM, fourM, w_u8, codeM, numM]; done))
theorem rbytes_24_ok (w dst src base disp imm cc : Int) (d0 : 0 ≤ dst) (d1 : dst ≤ 15) (s0 : 0 ≤ src) (s1 : src ≤ 15) (b0 : 0 ≤ base) (b1 : base ≤ 15) (p0 : -2147483648 ≤ disp) (p1 : disp ≤ 2147483647) (i0 : -2147483648 ≤ imm) (i1 : imm ≤ 2147483647) (c0 : 0 ≤ cc) (c1 : cc ≤ 15) (hm : mayX 24 w dst src base disp imm cc = true) : Ret Tryz.prog 119 ([xD 24 w dst src base disp imm cc]) (.tup [.lst .no 1 (bD (bytesM 24 w dst src base disp imm cc)), .int .i64 0]) := by
 have c0 := @rmayX_ok 24 w dst src base disp imm cc
 rw [show (mayX 24 w dst src base disp imm cc) = true from hm] at c0
 have c1 := @class_ok 24
 have c2 := @class_ok 24
 have c3 := @class_ok 24
 have c4 := @class_ok 24
 let E1 : EL := ([.ret _ _ _ c0, tF, .inl] ++ List.replicate 18 tF ++ [tT, tF, .ret _ _ _ c1, tF, tF, .ret _ _ _ c2, tF, .ret _ _ _ c3, tF, .ret _ _ _ c4, tT])
 rcases bft (needM (w == 64) 0 dst false) with h5 | h5
 ·have c6 := @rrex_ok 0 dst (by decide) (by decide) d0 d1 (w == 64) false h5
  generalize g8 : rexB (w == 64) 0 dst = r7 at c6
  have c9 := @rdirect_ok 6 dst (by decide) (by decide) d0 d1
  generalize g11 : regsM 6 dst = r10 at c9
  exact (o119 (d := .tup [.lst (.fresh 1) 1 [.int .u8 r7, .int .u8 247, .int .u8 r10], .int .i64 0]) (E1 ++ [.ret _ _ _ c6, tT, tT, tT, tF, tT, .ret _ _ _ c9, .len 3 2147483648 (by decide)]) (by kernel_rfl)).to (by clear E1; (subst_vars; (try simp only [beq_dec] at *); (try simp only [beq_iff_eq] at h); (try simp only [decide_eq_true_eq, decide_eq_false_iff_not] at *); simp_all [wk, wkL, wkO, bytesM, show shapeM 24 = 5 from rfl, bD, rexM, memM, fourM, w_u8, codeM, numM]; done))
 have c12 := @rrexn_ok 0 dst (by decide) (by decide) d0 d1 (w == 64) false h5
 have c13 := @rdirect_ok 6 dst (by decide) (by decide) d0 d1
 generalize g15 : regsM 6 dst = r14 at c13
 exact (o119 (d := .tup [.lst (.fresh 1) 1 [.int .u8 247, .int .u8 r14], .int .i64 0]) (E1 ++ [.ret _ _ _ c12, tT, tT, tT, tF, tT, .ret _ _ _ c13, .len 2 2147483648 (by decide)]) (by kernel_rfl)).to (by clear E1; (subst_vars; (try simp only [beq_dec] at *); (try simp only [beq_iff_eq] at h); (try simp only [decide_eq_true_eq, decide_eq_false_iff_not] at *); simp_all [wk, wkL, wkO, bytesM, show shapeM 24 = 5 from rfl, bD, rexM, memM, fourM, w_u8, codeM, numM]; done))
end Go.Proofs.YtojgmjfcfpclbaaGreat

namespace Go.Proofs.YtojgmjfcfpclbaaGreat
open Go Go.Ev
set_option maxRecDepth 100000
set_option maxHeartbeats 8000000
theorem rbytes_26_ok (w dst src base disp imm cc : Int) (d0 : 0 ≤ dst) (d1 : dst ≤ 15) (s0 : 0 ≤ src) (s1 : src ≤ 15) (b0 : 0 ≤ base) (b1 : base ≤ 15) (p0 : -2147483648 ≤ disp) (p1 : disp ≤ 2147483647) (i0 : -2147483648 ≤ imm) (i1 : imm ≤ 2147483647) (c0 : 0 ≤ cc) (c1 : cc ≤ 15) (hm : mayX 26 w dst src base disp imm cc = true) : Ret Tryz.prog 119 ([xD 26 w dst src base disp imm cc]) (.tup [.lst .no 1 (bD (bytesM 26 w dst src base disp imm cc)), .int .i64 0]) := by
 have c0 := @rmayX_ok 26 w dst src base disp imm cc
 rw [show (mayX 26 w dst src base disp imm cc) = true from hm] at c0
 have c1 := @class_ok 26
 have c2 := @class_ok 26
 have c3 := @class_ok 26
 have c4 := @class_ok 26
 let E1 : EL := ([.ret _ _ _ c0, tF, .inl] ++ List.replicate 24 tF ++ [.ret _ _ _ c1, tF, tF, .ret _ _ _ c2, tF, .ret _ _ _ c3, tF, .ret _ _ _ c4, tF, tF, tT])
 rcases bft (needM (w == 64) dst base false) with h5 | h5
 ·have c6 := @rrex_ok dst base d0 d1 b0 b1 (w == 64) false h5
  generalize g8 : rexB (w == 64) dst base = r7 at c6
  let E2 : EL := E1 ++ [.ret _ _ _ c6]
  by_cases h9 : w = 8
  ·subst h9
   let E3 : EL := E2 ++ [tT, .len 3 2147483648 (by decide)]
   rcases bft (decide (base % 8 = 4)) with h10 | h10
   ·have c11 := @rmem4_ok dst base disp d0 d1 b0 b1 p0 p1 h10
    exact (o119 (d := .tup [.lst (.fresh 1) 1 [.int .u8 r7, .int .u8 15, .int .u8 182, .int .u8 (128 + 8 * (dst % 8) + base % 8), .int .u8 36, .int .u8 (disp % 256), .int .u8 (disp / 256 % 256), .int .u8 (disp / 65536 % 256), .int .u8 (disp / 16777216 % 256)], .int .i64 0]) (E3 ++ [.ret _ _ _ c11, .len 9 2147483648 (by decide)]) (by kernel_rfl)).to (by clear E1 E2 E3; (subst_vars; (try simp only [beq_dec] at *); (try simp only [beq_iff_eq] at h); (try simp only [decide_eq_true_eq, decide_eq_false_iff_not] at *); simp_all [wk, wkL, wkO, bytesM, show shapeM 26 = 7 from rfl, bD, rexM, memM, fourM, w_u8, w_i64]; done))
   have c12 := @rmemn_ok dst base disp d0 d1 b0 b1 p0 p1 h10
   exact (o119 (d := .tup [.lst (.fresh 1) 1 [.int .u8 r7, .int .u8 15, .int .u8 182, .int .u8 (128 + 8 * (dst % 8) + base % 8), .int .u8 (disp % 256), .int .u8 (disp / 256 % 256), .int .u8 (disp / 65536 % 256), .int .u8 (disp / 16777216 % 256)], .int .i64 0]) (E3 ++ [.ret _ _ _ c12, .len 8 2147483648 (by decide)]) (by kernel_rfl)).to (by clear E1 E2 E3; (subst_vars; (try simp only [beq_dec] at *); (try simp only [beq_iff_eq] at h); (try simp only [decide_eq_true_eq, decide_eq_false_iff_not] at *); simp_all [wk, wkL, wkO, bytesM, show shapeM 26 = 7 from rfl, bD, rexM, memM, fourM, w_u8, w_i64]; done))
  by_cases h13 : w = 16
  ·subst h13
   let E4 : EL := E2 ++ [tC (neOf h9), tT, .len 3 2147483648 (by decide)]
   rcases bft (decide (base % 8 = 4)) with h14 | h14
   ·have c15 := @rmem4_ok dst base disp d0 d1 b0 b1 p0 p1 h14
    exact (o119 (d := .tup [.lst (.fresh 1) 1 [.int .u8 r7, .int .u8 15, .int .u8 183, .int .u8 (128 + 8 * (dst % 8) + base % 8), .int .u8 36, .int .u8 (disp % 256), .int .u8 (disp / 256 % 256), .int .u8 (disp / 65536 % 256), .int .u8 (disp / 16777216 % 256)], .int .i64 0]) (E4 ++ [.ret _ _ _ c15, .len 9 2147483648 (by decide)]) (by kernel_rfl)).to (by clear E1 E2 E4; (subst_vars; (try simp only [beq_dec] at *); (try simp only [beq_iff_eq] at h); (try simp only [decide_eq_true_eq, decide_eq_false_iff_not] at *); simp_all [wk, wkL, wkO, bytesM, show shapeM 26 = 7 from rfl, bD, rexM, memM, fourM, w_u8, w_i64]; done))
   have c16 := @rmemn_ok dst base disp d0 d1 b0 b1 p0 p1 h14
   exact (o119 (d := .tup [.lst (.fresh 1) 1 [.int .u8 r7, .int .u8 15, .int .u8 183, .int .u8 (128 + 8 * (dst % 8) + base % 8), .int .u8 (disp % 256), .int .u8 (disp / 256 % 256), .int .u8 (disp / 65536 % 256), .int .u8 (disp / 16777216 % 256)], .int .i64 0]) (E4 ++ [.ret _ _ _ c16, .len 8 2147483648 (by decide)]) (by kernel_rfl)).to (by clear E1 E2 E4; (subst_vars; (try simp only [beq_dec] at *); (try simp only [beq_iff_eq] at h); (try simp only [decide_eq_true_eq, decide_eq_false_iff_not] at *); simp_all [wk, wkL, wkO, bytesM, show shapeM 26 = 7 from rfl, bD, rexM, memM, fourM, w_u8, w_i64]; done))
  let E5 : EL := E2 ++ [tC (neOf h9), tC (neOf h13), .len 2 2147483648 (by decide)]
  rcases bft (decide (base % 8 = 4)) with h17 | h17
  ·have c18 := @rmem4_ok dst base disp d0 d1 b0 b1 p0 p1 h17
   exact (o119 (d := .tup [.lst (.fresh 1) 1 [.int .u8 r7, .int .u8 139, .int .u8 (128 + 8 * (dst % 8) + base % 8), .int .u8 36, .int .u8 (disp % 256), .int .u8 (disp / 256 % 256), .int .u8 (disp / 65536 % 256), .int .u8 (disp / 16777216 % 256)], .int .i64 0]) (E5 ++ [.ret _ _ _ c18, .len 8 2147483648 (by decide)]) (by kernel_rfl)).to (by clear E1 E2 E5; (subst_vars; (try simp only [beq_dec] at *); (try simp only [beq_iff_eq] at h); (try simp only [decide_eq_true_eq, decide_eq_false_iff_not] at *); simp_all [wk, wkL, wkO, bytesM, show shapeM 26 = 7 from rfl, bD, rexM, memM, fourM, w_u8, w_i64]; done))
  have c19 := @rmemn_ok dst base disp d0 d1 b0 b1 p0 p1 h17
  exact (o119 (d := .tup [.lst (.fresh 1) 1 [.int .u8 r7, .int .u8 139, .int .u8 (128 + 8 * (dst % 8) + base % 8), .int .u8 (disp % 256), .int .u8 (disp / 256 % 256), .int .u8 (disp / 65536 % 256), .int .u8 (disp / 16777216 % 256)], .int .i64 0]) (E5 ++ [.ret _ _ _ c19, .len 7 2147483648 (by decide)]) (by kernel_rfl)).to (by clear E1 E2 E5; (subst_vars; (try simp only [beq_dec] at *); (try simp only [beq_iff_eq] at h); (try simp only [decide_eq_true_eq, decide_eq_false_iff_not] at *); simp_all [wk, wkL, wkO, bytesM, show shapeM 26 = 7 from rfl, bD, rexM, memM, fourM, w_u8, w_i64]; done))
 have c20 := @rrexn_ok dst base d0 d1 b0 b1 (w == 64) false h5
 let E6 : EL := E1 ++ [.ret _ _ _ c20]
 by_cases h21 : w = 8
 ·subst h21
  let E7 : EL := E6 ++ [tT, .len 2 2147483648 (by decide)]
  rcases bft (decide (base % 8 = 4)) with h22 | h22
  ·have c23 := @rmem4_ok dst base disp d0 d1 b0 b1 p0 p1 h22
   exact (o119 (d := .tup [.lst (.fresh 1) 1 [.int .u8 15, .int .u8 182, .int .u8 (128 + 8 * (dst % 8) + base % 8), .int .u8 36, .int .u8 (disp % 256), .int .u8 (disp / 256 % 256), .int .u8 (disp / 65536 % 256), .int .u8 (disp / 16777216 % 256)], .int .i64 0]) (E7 ++ [.ret _ _ _ c23, .len 8 2147483648 (by decide)]) (by kernel_rfl)).to (by clear E1 E6 E7; (subst_vars; (try simp only [beq_dec] at *); (try simp only [beq_iff_eq] at h); (try simp only [decide_eq_true_eq, decide_eq_false_iff_not] at *); simp_all [wk, wkL, wkO, bytesM, show shapeM 26 = 7 from rfl, bD, rexM, memM, fourM, w_u8, w_i64]; done))
  have c24 := @rmemn_ok dst base disp d0 d1 b0 b1 p0 p1 h22
  exact (o119 (d := .tup [.lst (.fresh 1) 1 [.int .u8 15, .int .u8 182, .int .u8 (128 + 8 * (dst % 8) + base % 8), .int .u8 (disp % 256), .int .u8 (disp / 256 % 256), .int .u8 (disp / 65536 % 256), .int .u8 (disp / 16777216 % 256)], .int .i64 0]) (E7 ++ [.ret _ _ _ c24, .len 7 2147483648 (by decide)]) (by kernel_rfl)).to (by clear E1 E6 E7; (subst_vars; (try simp only [beq_dec] at *); (try simp only [beq_iff_eq] at h); (try simp only [decide_eq_true_eq, decide_eq_false_iff_not] at *); simp_all [wk, wkL, wkO, bytesM, show shapeM 26 = 7 from rfl, bD, rexM, memM, fourM, w_u8, w_i64]; done))
 by_cases h25 : w = 16
 ·subst h25
  let E8 : EL := E6 ++ [tC (neOf h21), tT, .len 2 2147483648 (by decide)]
  rcases bft (decide (base % 8 = 4)) with h26 | h26
  ·have c27 := @rmem4_ok dst base disp d0 d1 b0 b1 p0 p1 h26
   exact (o119 (d := .tup [.lst (.fresh 1) 1 [.int .u8 15, .int .u8 183, .int .u8 (128 + 8 * (dst % 8) + base % 8), .int .u8 36, .int .u8 (disp % 256), .int .u8 (disp / 256 % 256), .int .u8 (disp / 65536 % 256), .int .u8 (disp / 16777216 % 256)], .int .i64 0]) (E8 ++ [.ret _ _ _ c27, .len 8 2147483648 (by decide)]) (by kernel_rfl)).to (by clear E1 E6 E8; (subst_vars; (try simp only [beq_dec] at *); (try simp only [beq_iff_eq] at h); (try simp only [decide_eq_true_eq, decide_eq_false_iff_not] at *); simp_all [wk, wkL, wkO, bytesM, show shapeM 26 = 7 from rfl, bD, rexM, memM, fourM, w_u8, w_i64]; done))
  have c28 := @rmemn_ok dst base disp d0 d1 b0 b1 p0 p1 h26
  exact (o119 (d := .tup [.lst (.fresh 1) 1 [.int .u8 15, .int .u8 183, .int .u8 (128 + 8 * (dst % 8) + base % 8), .int .u8 (disp % 256), .int .u8 (disp / 256 % 256), .int .u8 (disp / 65536 % 256), .int .u8 (disp / 16777216 % 256)], .int .i64 0]) (E8 ++ [.ret _ _ _ c28, .len 7 2147483648 (by decide)]) (by kernel_rfl)).to (by clear E1 E6 E8; (subst_vars; (try simp only [beq_dec] at *); (try simp only [beq_iff_eq] at h); (try simp only [decide_eq_true_eq, decide_eq_false_iff_not] at *); simp_all [wk, wkL, wkO, bytesM, show shapeM 26 = 7 from rfl, bD, rexM, memM, fourM, w_u8, w_i64]; done))
 let E9 : EL := E6 ++ [tC (neOf h21), tC (neOf h25), .len 1 2147483648 (by decide)]
 rcases bft (decide (base % 8 = 4)) with h29 | h29
 ·have c30 := @rmem4_ok dst base disp d0 d1 b0 b1 p0 p1 h29
  exact (o119 (d := .tup [.lst (.fresh 1) 1 [.int .u8 139, .int .u8 (128 + 8 * (dst % 8) + base % 8), .int .u8 36, .int .u8 (disp % 256), .int .u8 (disp / 256 % 256), .int .u8 (disp / 65536 % 256), .int .u8 (disp / 16777216 % 256)], .int .i64 0]) (E9 ++ [.ret _ _ _ c30, .len 7 2147483648 (by decide)]) (by kernel_rfl)).to (by clear E1 E6 E9; (subst_vars; (try simp only [beq_dec] at *); (try simp only [beq_iff_eq] at h); (try simp only [decide_eq_true_eq, decide_eq_false_iff_not] at *); simp_all [wk, wkL, wkO, bytesM, show shapeM 26 = 7 from rfl, bD, rexM, memM, fourM, w_u8, w_i64]; done))
 have c31 := @rmemn_ok dst base disp d0 d1 b0 b1 p0 p1 h29
 exact (o119 (d := .tup [.lst (.fresh 1) 1 [.int .u8 139, .int .u8 (128 + 8 * (dst % 8) + base % 8), .int .u8 (disp % 256), .int .u8 (disp / 256 % 256), .int .u8 (disp / 65536 % 256), .int .u8 (disp / 16777216 % 256)], .int .i64 0]) (E9 ++ [.ret _ _ _ c31, .len 6 2147483648 (by decide)]) (by kernel_rfl)).to (by clear E1 E6 E9; (subst_vars; (try simp only [beq_dec] at *); (try simp only [beq_iff_eq] at h); (try simp only [decide_eq_true_eq, decide_eq_false_iff_not] at *); simp_all [wk, wkL, wkO, bytesM, show shapeM 26 = 7 from rfl, bD, rexM, memM, fourM, w_u8, w_i64]; done))
end Go.Proofs.YtojgmjfcfpclbaaGreat

namespace Go.Proofs.YtojgmjfcfpclbaaGreat
open Go Go.Ev
set_option maxRecDepth 100000
set_option maxHeartbeats 8000000
theorem rbytes_27_ok (w dst src base disp imm cc : Int) (d0 : 0 ≤ dst) (d1 : dst ≤ 15) (s0 : 0 ≤ src) (s1 : src ≤ 15) (b0 : 0 ≤ base) (b1 : base ≤ 15) (p0 : -2147483648 ≤ disp) (p1 : disp ≤ 2147483647) (i0 : -2147483648 ≤ imm) (i1 : imm ≤ 2147483647) (c0 : 0 ≤ cc) (c1 : cc ≤ 15) (hm : mayX 27 w dst src base disp imm cc = true) : Ret Tryz.prog 119 ([xD 27 w dst src base disp imm cc]) (.tup [.lst .no 1 (bD (bytesM 27 w dst src base disp imm cc)), .int .i64 0]) := by
 have c0 := @Proofs.YtojgmjfcfpclbaaGreat.rmayX_ok 27 w dst src base disp imm cc
 rw [show (mayX 27 w dst src base disp imm cc) = true from hm] at c0
 have c1 := @Proofs.YtojgmjfcfpclbaaGreat.class_ok 27
 have c2 := @Proofs.YtojgmjfcfpclbaaGreat.class_ok 27
 have c3 := @Proofs.YtojgmjfcfpclbaaGreat.class_ok 27
 have c4 := @Proofs.YtojgmjfcfpclbaaGreat.class_ok 27
 let E1 : EL := ([.ret _ _ _ c0, tF, .inl] ++ List.replicate 24 tF ++ [.ret _ _ _ c1, tF, tF, .ret _ _ _ c2, tF, .ret _ _ _ c3, tF, .ret _ _ _ c4, tF, tF, tF, tT])
 by_cases h5 : w = 16
 ·subst h5
  let E2 : EL := E1 ++ [tT, .len 1 2147483648 (by decide)]
  rcases bft (needM false src base false) with h6 | h6
  ·have c7 := @Proofs.YtojgmjfcfpclbaaGreat.rrex_ok src base s0 s1 b0 b1 false false h6
   generalize g9 : rexB false src base = r8 at c7
   let E3 : EL := E2 ++ [.ret _ _ _ c7, .len 2 2147483648 (by decide), tF, .len 3 2147483648 (by decide)]
   rcases bft (decide (base % 8 = 4)) with h10 | h10
   ·have c11 := @Proofs.YtojgmjfcfpclbaaGreat.rmem4_ok src base disp s0 s1 b0 b1 p0 p1 h10
    exact (o119 (d := D.tup [D.lst (Own.fresh (1 : Nat)) (1 : Nat) [D.int IntKind.u8 102, D.int IntKind.u8 r8, D.int IntKind.u8 137, D.int IntKind.u8 (128 + 8 * (src % 8) + base % 8), D.int IntKind.u8 36, D.int IntKind.u8 (disp % 256), D.int IntKind.u8 (disp / 256 % 256), D.int IntKind.u8 (disp / 65536 % 256), D.int IntKind.u8 (disp / 16777216 % 256)], D.int IntKind.i64 0]) (E3 ++ [.ret _ _ _ c11, .len 9 2147483648 (by decide)]) (by kernel_rfl)).to (by clear E1 E2 E3; ((try simp only [and7]); subst_vars; (try simp only [beq_dec] at *); (try simp only [beq_iff_eq] at h); (try simp only [decide_eq_true_eq, decide_eq_false_iff_not] at *); simp_all [wk, wkL, wkO, bytesM, show shapeM 27 = 8 from rfl, bD, rexM, memM, fourM, w_u8, w_i64, w_i8]; done))
   have c12 := @Proofs.YtojgmjfcfpclbaaGreat.rmemn_ok src base disp s0 s1 b0 b1 p0 p1 h10
   exact (o119 (d := D.tup [D.lst (Own.fresh (1 : Nat)) (1 : Nat) [D.int IntKind.u8 102, D.int IntKind.u8 r8, D.int IntKind.u8 137, D.int IntKind.u8 (128 + 8 * (src % 8) + base % 8), D.int IntKind.u8 (disp % 256), D.int IntKind.u8 (disp / 256 % 256), D.int IntKind.u8 (disp / 65536 % 256), D.int IntKind.u8 (disp / 16777216 % 256)], D.int IntKind.i64 0]) (E3 ++ [.ret _ _ _ c12, .len 8 2147483648 (by decide)]) (by kernel_rfl)).to (by clear E1 E2 E3; ((try simp only [and7]); subst_vars; (try simp only [beq_dec] at *); (try simp only [beq_iff_eq] at h); (try simp only [decide_eq_true_eq, decide_eq_false_iff_not] at *); simp_all [wk, wkL, wkO, bytesM, show shapeM 27 = 8 from rfl, bD, rexM, memM, fourM, w_u8, w_i64, w_i8]; done))
  have c13 := @Proofs.YtojgmjfcfpclbaaGreat.rrexn_ok src base s0 s1 b0 b1 false false h6
  let E4 : EL := E2 ++ [.ret _ _ _ c13, .len 1 2147483648 (by decide), tF, .len 2 2147483648 (by decide)]
  rcases bft (decide (base % 8 = 4)) with h14 | h14
  ·have c15 := @Proofs.YtojgmjfcfpclbaaGreat.rmem4_ok src base disp s0 s1 b0 b1 p0 p1 h14
   exact (o119 (d := D.tup [D.lst (Own.fresh (1 : Nat)) (1 : Nat) [D.int IntKind.u8 102, D.int IntKind.u8 137, D.int IntKind.u8 (128 + 8 * (src % 8) + base % 8), D.int IntKind.u8 36, D.int IntKind.u8 (disp % 256), D.int IntKind.u8 (disp / 256 % 256), D.int IntKind.u8 (disp / 65536 % 256), D.int IntKind.u8 (disp / 16777216 % 256)], D.int IntKind.i64 0]) (E4 ++ [.ret _ _ _ c15, .len 8 2147483648 (by decide)]) (by kernel_rfl)).to (by clear E1 E2 E4; ((try simp only [and7]); subst_vars; (try simp only [beq_dec] at *); (try simp only [beq_iff_eq] at h); (try simp only [decide_eq_true_eq, decide_eq_false_iff_not] at *); simp_all [wk, wkL, wkO, bytesM, show shapeM 27 = 8 from rfl, bD, rexM, memM, fourM, w_u8, w_i64, w_i8]; done))
  have c16 := @Proofs.YtojgmjfcfpclbaaGreat.rmemn_ok src base disp s0 s1 b0 b1 p0 p1 h14
  exact (o119 (d := D.tup [D.lst (Own.fresh (1 : Nat)) (1 : Nat) [D.int IntKind.u8 102, D.int IntKind.u8 137, D.int IntKind.u8 (128 + 8 * (src % 8) + base % 8), D.int IntKind.u8 (disp % 256), D.int IntKind.u8 (disp / 256 % 256), D.int IntKind.u8 (disp / 65536 % 256), D.int IntKind.u8 (disp / 16777216 % 256)], D.int IntKind.i64 0]) (E4 ++ [.ret _ _ _ c16, .len 7 2147483648 (by decide)]) (by kernel_rfl)).to (by clear E1 E2 E4; ((try simp only [and7]); subst_vars; (try simp only [beq_dec] at *); (try simp only [beq_iff_eq] at h); (try simp only [decide_eq_true_eq, decide_eq_false_iff_not] at *); simp_all [wk, wkL, wkO, bytesM, show shapeM 27 = 8 from rfl, bD, rexM, memM, fourM, w_u8, w_i64, w_i8]; done))
 let E5 : EL := E1 ++ [tC (neOf h5)]
 rcases bft (needM (w == 64) src base (w == 8)) with h17 | h17
 ·have c18 := @Proofs.YtojgmjfcfpclbaaGreat.rrex_ok src base s0 s1 b0 b1 (w == 64) (w == 8) h17
  generalize g20 : rexB (w == 64) src base = r19 at c18
  let E6 : EL := E5 ++ [.ret _ _ _ c18, .len 1 2147483648 (by decide)]
  by_cases h21 : w = 8
  ·subst h21
   let E7 : EL := E6 ++ [tT, .len 2 2147483648 (by decide)]
   rcases bft (decide (base % 8 = 4)) with h22 | h22
   ·have c23 := @Proofs.YtojgmjfcfpclbaaGreat.rmem4_ok src base disp s0 s1 b0 b1 p0 p1 h22
    exact (o119 (d := D.tup [D.lst (Own.fresh (1 : Nat)) (1 : Nat) [D.int IntKind.u8 r19, D.int IntKind.u8 136, D.int IntKind.u8 (128 + 8 * (src % 8) + base % 8), D.int IntKind.u8 36, D.int IntKind.u8 (disp % 256), D.int IntKind.u8 (disp / 256 % 256), D.int IntKind.u8 (disp / 65536 % 256), D.int IntKind.u8 (disp / 16777216 % 256)], D.int IntKind.i64 0]) (E7 ++ [.ret _ _ _ c23, .len 8 2147483648 (by decide)]) (by kernel_rfl)).to (by clear E1 E5 E6 E7; ((try simp only [and7]); subst_vars; (try simp only [beq_dec] at *); (try simp only [beq_iff_eq] at h); (try simp only [decide_eq_true_eq, decide_eq_false_iff_not] at *); simp_all [wk, wkL, wkO, bytesM, show shapeM 27 = 8 from rfl, bD, rexM, memM, fourM, w_u8, w_i64, w_i8]; done))
   have c24 := @Proofs.YtojgmjfcfpclbaaGreat.rmemn_ok src base disp s0 s1 b0 b1 p0 p1 h22
   exact (o119 (d := D.tup [D.lst (Own.fresh (1 : Nat)) (1 : Nat) [D.int IntKind.u8 r19, D.int IntKind.u8 136, D.int IntKind.u8 (128 + 8 * (src % 8) + base % 8), D.int IntKind.u8 (disp % 256), D.int IntKind.u8 (disp / 256 % 256), D.int IntKind.u8 (disp / 65536 % 256), D.int IntKind.u8 (disp / 16777216 % 256)], D.int IntKind.i64 0]) (E7 ++ [.ret _ _ _ c24, .len 7 2147483648 (by decide)]) (by kernel_rfl)).to (by clear E1 E5 E6 E7; ((try simp only [and7]); subst_vars; (try simp only [beq_dec] at *); (try simp only [beq_iff_eq] at h); (try simp only [decide_eq_true_eq, decide_eq_false_iff_not] at *); simp_all [wk, wkL, wkO, bytesM, show shapeM 27 = 8 from rfl, bD, rexM, memM, fourM, w_u8, w_i64, w_i8]; done))
  let E8 : EL := E6 ++ [tC (neOf h21), .len 2 2147483648 (by decide)]
  rcases bft (decide (base % 8 = 4)) with h25 | h25
  ·have c26 := @Proofs.YtojgmjfcfpclbaaGreat.rmem4_ok src base disp s0 s1 b0 b1 p0 p1 h25
   exact (o119 (d := D.tup [D.lst (Own.fresh (1 : Nat)) (1 : Nat) [D.int IntKind.u8 r19, D.int IntKind.u8 137, D.int IntKind.u8 (128 + 8 * (src % 8) + base % 8), D.int IntKind.u8 36, D.int IntKind.u8 (disp % 256), D.int IntKind.u8 (disp / 256 % 256), D.int IntKind.u8 (disp / 65536 % 256), D.int IntKind.u8 (disp / 16777216 % 256)], D.int IntKind.i64 0]) (E8 ++ [.ret _ _ _ c26, .len 8 2147483648 (by decide)]) (by kernel_rfl)).to (by clear E1 E5 E6 E8; ((try simp only [and7]); subst_vars; (try simp only [beq_dec] at *); (try simp only [beq_iff_eq] at h); (try simp only [decide_eq_true_eq, decide_eq_false_iff_not] at *); simp_all [wk, wkL, wkO, bytesM, show shapeM 27 = 8 from rfl, bD, rexM, memM, fourM, w_u8, w_i64, w_i8]; done))
  have c27 := @Proofs.YtojgmjfcfpclbaaGreat.rmemn_ok src base disp s0 s1 b0 b1 p0 p1 h25
  exact (o119 (d := D.tup [D.lst (Own.fresh (1 : Nat)) (1 : Nat) [D.int IntKind.u8 r19, D.int IntKind.u8 137, D.int IntKind.u8 (128 + 8 * (src % 8) + base % 8), D.int IntKind.u8 (disp % 256), D.int IntKind.u8 (disp / 256 % 256), D.int IntKind.u8 (disp / 65536 % 256), D.int IntKind.u8 (disp / 16777216 % 256)], D.int IntKind.i64 0]) (E8 ++ [.ret _ _ _ c27, .len 7 2147483648 (by decide)]) (by kernel_rfl)).to (by clear E1 E5 E6 E8; ((try simp only [and7]); subst_vars; (try simp only [beq_dec] at *); (try simp only [beq_iff_eq] at h); (try simp only [decide_eq_true_eq, decide_eq_false_iff_not] at *); simp_all [wk, wkL, wkO, bytesM, show shapeM 27 = 8 from rfl, bD, rexM, memM, fourM, w_u8, w_i64, w_i8]; done))
 have c28 := @Proofs.YtojgmjfcfpclbaaGreat.rrexn_ok src base s0 s1 b0 b1 (w == 64) (w == 8) h17
 let E9 : EL := E5 ++ [.ret _ _ _ c28, .len 0 2147483648 (by decide)]
 by_cases h29 : w = 8
 ·subst h29
  let E10 : EL := E9 ++ [tT, .len 1 2147483648 (by decide)]
  rcases bft (decide (base % 8 = 4)) with h30 | h30
  ·have c31 := @Proofs.YtojgmjfcfpclbaaGreat.rmem4_ok src base disp s0 s1 b0 b1 p0 p1 h30
   exact (o119 (d := D.tup [D.lst (Own.fresh (1 : Nat)) (1 : Nat) [D.int IntKind.u8 136, D.int IntKind.u8 (128 + 8 * (src % 8) + base % 8), D.int IntKind.u8 36, D.int IntKind.u8 (disp % 256), D.int IntKind.u8 (disp / 256 % 256), D.int IntKind.u8 (disp / 65536 % 256), D.int IntKind.u8 (disp / 16777216 % 256)], D.int IntKind.i64 0]) (E10 ++ [.ret _ _ _ c31, .len 7 2147483648 (by decide)]) (by kernel_rfl)).to (by clear E1 E5 E9 E10; ((try simp only [and7]); subst_vars; (try simp only [beq_dec] at *); (try simp only [beq_iff_eq] at h); (try simp only [decide_eq_true_eq, decide_eq_false_iff_not] at *); simp_all [wk, wkL, wkO, bytesM, show shapeM 27 = 8 from rfl, bD, rexM, memM, fourM, w_u8, w_i64, w_i8]; done))
  have c32 := @Proofs.YtojgmjfcfpclbaaGreat.rmemn_ok src base disp s0 s1 b0 b1 p0 p1 h30
  exact (o119 (d := D.tup [D.lst (Own.fresh (1 : Nat)) (1 : Nat) [D.int IntKind.u8 136, D.int IntKind.u8 (128 + 8 * (src % 8) + base % 8), D.int IntKind.u8 (disp % 256), D.int IntKind.u8 (disp / 256 % 256), D.int IntKind.u8 (disp / 65536 % 256), D.int IntKind.u8 (disp / 16777216 % 256)], D.int IntKind.i64 0]) (E10 ++ [.ret _ _ _ c32, .len 6 2147483648 (by decide)]) (by kernel_rfl)).to (by clear E1 E5 E9 E10; ((try simp only [and7]); subst_vars; (try simp only [beq_dec] at *); (try simp only [beq_iff_eq] at h); (try simp only [decide_eq_true_eq, decide_eq_false_iff_not] at *); simp_all [wk, wkL, wkO, bytesM, show shapeM 27 = 8 from rfl, bD, rexM, memM, fourM, w_u8, w_i64, w_i8]; done))
 let E11 : EL := E9 ++ [tC (neOf h29), .len 1 2147483648 (by decide)]
 rcases bft (decide (base % 8 = 4)) with h33 | h33
 ·have c34 := @Proofs.YtojgmjfcfpclbaaGreat.rmem4_ok src base disp s0 s1 b0 b1 p0 p1 h33
  exact (o119 (d := D.tup [D.lst (Own.fresh (1 : Nat)) (1 : Nat) [D.int IntKind.u8 137, D.int IntKind.u8 (128 + 8 * (src % 8) + base % 8), D.int IntKind.u8 36, D.int IntKind.u8 (disp % 256), D.int IntKind.u8 (disp / 256 % 256), D.int IntKind.u8 (disp / 65536 % 256), D.int IntKind.u8 (disp / 16777216 % 256)], D.int IntKind.i64 0]) (E11 ++ [.ret _ _ _ c34, .len 7 2147483648 (by decide)]) (by kernel_rfl)).to (by clear E1 E5 E9 E11; ((try simp only [and7]); subst_vars; (try simp only [beq_dec] at *); (try simp only [beq_iff_eq] at h); (try simp only [decide_eq_true_eq, decide_eq_false_iff_not] at *); simp_all [wk, wkL, wkO, bytesM, show shapeM 27 = 8 from rfl, bD, rexM, memM, fourM, w_u8, w_i64, w_i8]; done))
 have c35 := @Proofs.YtojgmjfcfpclbaaGreat.rmemn_ok src base disp s0 s1 b0 b1 p0 p1 h33
 exact (o119 (d := D.tup [D.lst (Own.fresh (1 : Nat)) (1 : Nat) [D.int IntKind.u8 137, D.int IntKind.u8 (128 + 8 * (src % 8) + base % 8), D.int IntKind.u8 (disp % 256), D.int IntKind.u8 (disp / 256 % 256), D.int IntKind.u8 (disp / 65536 % 256), D.int IntKind.u8 (disp / 16777216 % 256)], D.int IntKind.i64 0]) (E11 ++ [.ret _ _ _ c35, .len 6 2147483648 (by decide)]) (by kernel_rfl)).to (by clear E1 E5 E9 E11; ((try simp only [and7]); subst_vars; (try simp only [beq_dec] at *); (try simp only [beq_iff_eq] at h); (try simp only [decide_eq_true_eq, decide_eq_false_iff_not] at *); simp_all [wk, wkL, wkO, bytesM, show shapeM 27 = 8 from rfl, bD, rexM, memM, fourM, w_u8, w_i64, w_i8]; done))
end Go.Proofs.YtojgmjfcfpclbaaGreat

namespace Go.Proofs.YtojgmjfcfpclbaaGreat
open Go Go.Ev
set_option maxRecDepth 100000
set_option maxHeartbeats 8000000
theorem rbytes_28_ok (w dst src base disp imm cc : Int) (d0 : 0 ≤ dst) (d1 : dst ≤ 15) (s0 : 0 ≤ src) (s1 : src ≤ 15) (b0 : 0 ≤ base) (b1 : base ≤ 15) (p0 : -2147483648 ≤ disp) (p1 : disp ≤ 2147483647) (i0 : -2147483648 ≤ imm) (i1 : imm ≤ 2147483647) (c0 : 0 ≤ cc) (c1 : cc ≤ 15) (hm : mayX 28 w dst src base disp imm cc = true) : Ret Tryz.prog 119 ([xD 28 w dst src base disp imm cc]) (.tup [.lst .no 1 (bD (bytesM 28 w dst src base disp imm cc)), .int .i64 0]) := by
 have c0 := @Proofs.YtojgmjfcfpclbaaGreat.rmayX_ok 28 w dst src base disp imm cc
 rw [show (mayX 28 w dst src base disp imm cc) = true from hm] at c0
 have c1 := @Proofs.YtojgmjfcfpclbaaGreat.class_ok 28
 have c2 := @Proofs.YtojgmjfcfpclbaaGreat.class_ok 28
 have c3 := @Proofs.YtojgmjfcfpclbaaGreat.class_ok 28
 have c4 := @Proofs.YtojgmjfcfpclbaaGreat.class_ok 28
 let E1 : EL := ([.ret _ _ _ c0, tF, .inl] ++ List.replicate 24 tF ++ [.ret _ _ _ c1, tF, tF, .ret _ _ _ c2, tF, .ret _ _ _ c3, tF, .ret _ _ _ c4, tF, tF, tF, tF, .inl, tT, tT, tT, tT])
 by_cases h5 : w = 8
 ·subst h5
  exact (o119 (d := D.tup [D.lst Own.tight 1 [D.int IntKind.u8 235, D.int IntKind.u8 (IntKind.wrap IntKind.u8 imm)], D.int IntKind.i64 0]) (E1 ++ [tT]) (by kernel_rfl)).to (by clear E1; ((try simp only [and7]); subst_vars; (try simp only [beq_dec] at *); (try simp only [beq_iff_eq] at h); (try simp only [decide_eq_true_eq, decide_eq_false_iff_not] at *); simp_all [wk, wkL, wkO, bytesM, show shapeM 28 = 9 from rfl, bD, rexM, memM, fourM, w_u8, w_i64, w_i8]; done))
 have c6 := @Proofs.YtojgmjfcfpclbaaGreat.rdir2_ok imm
 exact (o119 (d := D.tup [D.lst (Own.fresh (1 : Nat)) (1 : Nat) [D.int IntKind.u8 233, D.int IntKind.u8 (imm % 256), D.int IntKind.u8 (imm / 256 % 256), D.int IntKind.u8 (imm / 65536 % 256), D.int IntKind.u8 (imm / 16777216 % 256)], D.int IntKind.i64 0]) (E1 ++ [tC (neOf h5), tT, .ret _ _ _ c6, .len 5 2147483648 (by decide)]) (by kernel_rfl)).to (by clear E1; ((try simp only [and7]); subst_vars; (try simp only [beq_dec] at *); (try simp only [beq_iff_eq] at h); (try simp only [decide_eq_true_eq, decide_eq_false_iff_not] at *); simp_all [wk, wkL, wkO, bytesM, show shapeM 28 = 9 from rfl, bD, rexM, memM, fourM, w_u8, w_i64, w_i8]; done))
theorem rbytes_29_ok (w dst src base disp imm cc : Int) (d0 : 0 ≤ dst) (d1 : dst ≤ 15) (s0 : 0 ≤ src) (s1 : src ≤ 15) (b0 : 0 ≤ base) (b1 : base ≤ 15) (p0 : -2147483648 ≤ disp) (p1 : disp ≤ 2147483647) (i0 : -2147483648 ≤ imm) (i1 : imm ≤ 2147483647) (c0 : 0 ≤ cc) (c1 : cc ≤ 15) (hm : mayX 29 w dst src base disp imm cc = true) : Ret Tryz.prog 119 ([xD 29 w dst src base disp imm cc]) (.tup [.lst .no 1 (bD (bytesM 29 w dst src base disp imm cc)), .int .i64 0]) := by
 have c0 := @Proofs.YtojgmjfcfpclbaaGreat.rmayX_ok 29 w dst src base disp imm cc
 rw [show (mayX 29 w dst src base disp imm cc) = true from hm] at c0
 have c1 := @Proofs.YtojgmjfcfpclbaaGreat.class_ok 29
 have c2 := @Proofs.YtojgmjfcfpclbaaGreat.class_ok 29
 have c3 := @Proofs.YtojgmjfcfpclbaaGreat.class_ok 29
 have c4 := @Proofs.YtojgmjfcfpclbaaGreat.class_ok 29
 let E1 : EL := ([.ret _ _ _ c0, tF, .inl] ++ List.replicate 24 tF ++ [.ret _ _ _ c1, tF, tF, .ret _ _ _ c2, tF, .ret _ _ _ c3, tF, .ret _ _ _ c4, tF, tF, tF, tF, .inl, tF, tF, tF, tF, tF, tF, tT, tT, tT, tT])
 by_cases h5 : w = 8
 ·subst h5
  exact (o119 (d := D.tup [D.lst Own.tight 1 [D.int IntKind.u8 (IntKind.wrap IntKind.u8 (IntKind.wrap IntKind.i64 (112 + IntKind.wrap IntKind.i64 cc))), D.int IntKind.u8 (IntKind.wrap IntKind.u8 imm)], D.int IntKind.i64 0]) (E1 ++ [tT]) (by kernel_rfl)).to (by clear E1; ((try simp only [and7]); subst_vars; (try simp only [beq_dec] at *); (try simp only [beq_iff_eq] at h); (try simp only [decide_eq_true_eq, decide_eq_false_iff_not] at *); simp_all [wk, wkL, wkO, bytesM, show shapeM 29 = 10 from rfl, bD, rexM, memM, fourM, w_u8, w_i64, w_i8]; omega))
 have c6 := @Proofs.YtojgmjfcfpclbaaGreat.rdir2_ok imm
 exact (o119 (d := D.tup [D.lst (Own.fresh (1 : Nat)) (1 : Nat) [D.int IntKind.u8 15, D.int IntKind.u8 (IntKind.wrap IntKind.u8 (IntKind.wrap IntKind.i64 (128 + IntKind.wrap IntKind.i64 cc))), D.int IntKind.u8 (imm % 256), D.int IntKind.u8 (imm / 256 % 256), D.int IntKind.u8 (imm / 65536 % 256), D.int IntKind.u8 (imm / 16777216 % 256)], D.int IntKind.i64 0]) (E1 ++ [tC (neOf h5), tT, .ret _ _ _ c6, .len 6 2147483648 (by decide)]) (by kernel_rfl)).to (by clear E1; ((try simp only [and7]); subst_vars; (try simp only [beq_dec] at *); (try simp only [beq_iff_eq] at h); (try simp only [decide_eq_true_eq, decide_eq_false_iff_not] at *); simp_all [wk, wkL, wkO, bytesM, show shapeM 29 = 10 from rfl, bD, rexM, memM, fourM, w_u8, w_i64, w_i8]; omega))
theorem rbytes_30_ok (w dst src base disp imm cc : Int) (d0 : 0 ≤ dst) (d1 : dst ≤ 15) (s0 : 0 ≤ src) (s1 : src ≤ 15) (b0 : 0 ≤ base) (b1 : base ≤ 15) (p0 : -2147483648 ≤ disp) (p1 : disp ≤ 2147483647) (i0 : -2147483648 ≤ imm) (i1 : imm ≤ 2147483647) (c0 : 0 ≤ cc) (c1 : cc ≤ 15) (hm : mayX 30 w dst src base disp imm cc = true) : Ret Tryz.prog 119 ([xD 30 w dst src base disp imm cc]) (.tup [.lst .no 1 (bD (bytesM 30 w dst src base disp imm cc)), .int .i64 0]) := by
 have c0 := @Proofs.YtojgmjfcfpclbaaGreat.rmayX_ok 30 w dst src base disp imm cc
 rw [show (mayX 30 w dst src base disp imm cc) = true from hm] at c0
 have c1 := @Proofs.YtojgmjfcfpclbaaGreat.class_ok 30
 have c2 := @Proofs.YtojgmjfcfpclbaaGreat.class_ok 30
 have c3 := @Proofs.YtojgmjfcfpclbaaGreat.class_ok 30
 have c4 := @Proofs.YtojgmjfcfpclbaaGreat.class_ok 30
 exact (o119 (d := D.tup [D.lst Own.tight 1 [D.int IntKind.u8 195], D.int IntKind.i64 0]) ([.ret _ _ _ c0, tF, .inl] ++ List.replicate 24 tF ++ [.ret _ _ _ c1, tF, tF, .ret _ _ _ c2, tF, .ret _ _ _ c3, tF, .ret _ _ _ c4, tF, tF, tF, tF, .inl] ++ List.replicate 12 tF ++ [tT]) (by kernel_rfl)).to (by ((try simp only [and7]); subst_vars; (try simp only [beq_dec] at *); (try simp only [beq_iff_eq] at h); (try simp only [decide_eq_true_eq, decide_eq_false_iff_not] at *); simp_all [wk, wkL, wkO, bytesM, show shapeM 30 = 11 from rfl, bD, rexM, memM, fourM, w_u8, w_i64, w_i8]; done))
theorem rbytes_31_ok (w dst src base disp imm cc : Int) (d0 : 0 ≤ dst) (d1 : dst ≤ 15) (s0 : 0 ≤ src) (s1 : src ≤ 15) (b0 : 0 ≤ base) (b1 : base ≤ 15) (p0 : -2147483648 ≤ disp) (p1 : disp ≤ 2147483647) (i0 : -2147483648 ≤ imm) (i1 : imm ≤ 2147483647) (c0 : 0 ≤ cc) (c1 : cc ≤ 15) (hm : mayX 31 w dst src base disp imm cc = true) : Ret Tryz.prog 119 ([xD 31 w dst src base disp imm cc]) (.tup [.lst .no 1 (bD (bytesM 31 w dst src base disp imm cc)), .int .i64 0]) := by
 have c0 := @Proofs.YtojgmjfcfpclbaaGreat.rmayX_ok 31 w dst src base disp imm cc
 rw [show (mayX 31 w dst src base disp imm cc) = true from hm] at c0
 have c1 := @Proofs.YtojgmjfcfpclbaaGreat.class_ok 31
 have c2 := @Proofs.YtojgmjfcfpclbaaGreat.class_ok 31
 have c3 := @Proofs.YtojgmjfcfpclbaaGreat.class_ok 31
 have c4 := @Proofs.YtojgmjfcfpclbaaGreat.class_ok 31
 exact (o119 (d := D.tup [D.lst Own.tight 1 [D.int IntKind.u8 15, D.int IntKind.u8 5], D.int IntKind.i64 0]) ([.ret _ _ _ c0, tF, .inl] ++ List.replicate 24 tF ++ [.ret _ _ _ c1, tF, tF, .ret _ _ _ c2, tF, .ret _ _ _ c3, tF, .ret _ _ _ c4, tF, tF, tF, tF, .inl] ++ List.replicate 13 tF) (by kernel_rfl)).to (by ((try simp only [and7]); subst_vars; (try simp only [beq_dec] at *); (try simp only [beq_iff_eq] at h); (try simp only [decide_eq_true_eq, decide_eq_false_iff_not] at *); simp_all [wk, wkL, wkO, bytesM, show shapeM 31 = 11 from rfl, bD, rexM, memM, fourM, w_u8, w_i64, w_i8]; done))
end Go.Proofs.YtojgmjfcfpclbaaGreat

namespace Go.Proofs.YtojgmjfcfpclbaaGreat
open Go Go.Ev
set_option maxRecDepth 100000
set_option maxHeartbeats 8000000
theorem rbytes_no_ok (op w dst src base disp imm cc : Int) (ho : op ≤ 127) (hm : mayX op w dst src base disp imm cc = false) : Ret Tryz.prog 119 ([xD op w dst src base disp imm cc]) (.tup [.lst .no 1 [], .int .i64 2]) := by
 have c0 := @Proofs.YtojgmjfcfpclbaaGreat.rmayX_ok op w dst src base disp imm cc
 rw [show (mayX op w dst src base disp imm cc) = false from hm] at c0
 exact (o119 (d := D.tup [D.lst Own.tight 0 [], D.int IntKind.i64 2]) [.ret _ _ _ c0, tT] (by kernel_rfl)).to (by simp [wk, wkL, wkO])
end Go.Proofs.YtojgmjfcfpclbaaGreat

namespace Go.Proofs.YtojgmjfcfpclbaaGreat
open Go Go.Ev
set_option maxRecDepth 100000
set_option maxHeartbeats 8000000
theorem bytes_1_ok (op w dst src base disp imm cc : Int) (ho : op ≤ 127) (d0 : 0 ≤ dst) (d1 : dst ≤ 15) (s0 : 0 ≤ src) (s1 : src ≤ 15) (b0 : 0 ≤ base) (b1 : base ≤ 15) (p0 : -2147483648 ≤ disp) (p1 : disp ≤ 2147483647) (i0 : -2147483648 ≤ imm) (i1 : imm ≤ 2147483647) (c0 : 0 ≤ cc) (c1 : cc ≤ 15) (n0 : 0 ≤ numM op) (n1 : numM op ≤ 7) (h : (shapeM op == 1) = true) (hin : decide (0 ≤ op ∧ op ≤ 31) = true) (hm : mayX op w dst src base disp imm cc = true) : Ret Tryz.prog 102 ([xD op w dst src base disp imm cc]) (.tup [.lst .no 1 (bD (bytesM op w dst src base disp imm cc)), .int .i64 0]) := by
 have c0 := @mayX_ok op w dst src base disp imm cc ho
 rw [show (mayX op w dst src base disp imm cc) = true from hm] at c0
 have c1 := @of_any_ok op ho
 rw [show (shapeM op) = 1 from (eq_of_beq h)] at c1
 generalize g3 : codeM op = r2 at c1
 generalize g5 : numM op = r4 at c1
 rcases bft (needM (w == 64) src dst false) with h6 | h6
 ·have c7 := @rex_yes_ok src dst s0 s1 d0 d1 (w == 64) false h6
  generalize g9 : rexB (w == 64) src dst = r8 at c7
  have c10 := @two_ok src dst s0 s1 d0 d1
  generalize g12 : regsM src dst = r11 at c10
  exact (o102 (d := .tup [.lst (.fresh 1) 1 [.int .u8 r8, .int .u8 r2, .int .u8 r11], .int .i64 0]) [.ret _ _ _ c0, tF, .ret _ _ _ c1, tT, .ret _ _ _ c7, .ret _ _ _ c10, .inl, .go 64, tT, tT, .get ([.lst .tight 1 [.int .u8 r8], .lst .tight 1 [.int .u8 r2], .lst .tight 1 [.int .u8 r11]]) 0 (.lst .tight 1 [.int .u8 r8]) rfl, .len 1 2147483648 (by decide), tT, tT, .get ([.lst .tight 1 [.int .u8 r8], .lst .tight 1 [.int .u8 r2], .lst .tight 1 [.int .u8 r11]]) 1 (.lst .tight 1 [.int .u8 r2]) rfl, .len 2 2147483648 (by decide), tT, tT, .get ([.lst .tight 1 [.int .u8 r8], .lst .tight 1 [.int .u8 r2], .lst .tight 1 [.int .u8 r11]]) 2 (.lst .tight 1 [.int .u8 r11]) rfl, .len 3 2147483648 (by decide), tF] (by kernel_rfl)).to (by subst_vars; (try simp only [beq_dec] at *); (try simp only [beq_iff_eq] at h); (try simp only [decide_eq_true_eq, decide_eq_false_iff_not] at *); simp_all [wk, wkL, wkO, bytesM, bD, rexM, memM, fourM, w_u8])
 have c13 := @rex_no_ok src dst s0 s1 d0 d1 (w == 64) false h6
 have c14 := @two_ok src dst s0 s1 d0 d1
 generalize g16 : regsM src dst = r15 at c14
 exact (o102 (d := .tup [.lst (.fresh 1) 1 [.int .u8 r2, .int .u8 r15], .int .i64 0]) [.ret _ _ _ c0, tF, .ret _ _ _ c1, tT, .ret _ _ _ c13, .ret _ _ _ c14, .inl, .go 64, tT, tT, .get ([.lst .tight 1 [], .lst .tight 1 [.int .u8 r2], .lst .tight 1 [.int .u8 r15]]) 0 (.lst .tight 1 []) rfl, .len 0 2147483648 (by decide), tT, tT, .get ([.lst .tight 1 [], .lst .tight 1 [.int .u8 r2], .lst .tight 1 [.int .u8 r15]]) 1 (.lst .tight 1 [.int .u8 r2]) rfl, .len 1 2147483648 (by decide), tT, tT, .get ([.lst .tight 1 [], .lst .tight 1 [.int .u8 r2], .lst .tight 1 [.int .u8 r15]]) 2 (.lst .tight 1 [.int .u8 r15]) rfl, .len 2 2147483648 (by decide), tF] (by kernel_rfl)).to (by subst_vars; (try simp only [beq_dec] at *); (try simp only [beq_iff_eq] at h); (try simp only [decide_eq_true_eq, decide_eq_false_iff_not] at *); simp_all [wk, wkL, wkO, bytesM, bD, rexM, memM, fourM, w_u8])
theorem bytesO_16_ok (w dst src base disp imm cc : Int) (d0 : 0 ≤ dst) (d1 : dst ≤ 15) (s0 : 0 ≤ src) (s1 : src ≤ 15) (b0 : 0 ≤ base) (b1 : base ≤ 15) (p0 : -2147483648 ≤ disp) (p1 : disp ≤ 2147483647) (i0 : -2147483648 ≤ imm) (i1 : imm ≤ 2147483647) (c0 : 0 ≤ cc) (c1 : cc ≤ 15) (hm : mayX 16 w dst src base disp imm cc = true) : Ret Tryz.prog 102 ([xD 16 w dst src base disp imm cc]) (.tup [.lst .no 1 (bD (bytesM 16 w dst src base disp imm cc)), .int .i64 0]) := by
 have c0 := @mayX_ok 16 w dst src base disp imm cc (by decide)
 rw [show (mayX 16 w dst src base disp imm cc) = true from hm] at c0
 have c1 := @of_any_ok 16 (by decide)
 rcases bft (needM (w == 64) dst src false) with h2 | h2
 ·have c3 := @rex_yes_ok dst src d0 d1 s0 s1 (w == 64) false h2
  generalize g5 : rexB (w == 64) dst src = r4 at c3
  have c6 := @two_ok dst src d0 d1 s0 s1
  generalize g8 : regsM dst src = r7 at c6
  exact (o102 (d := .tup [.lst (.fresh 1) 1 [.int .u8 r4, .int .u8 15, .int .u8 175, .int .u8 r7], .int .i64 0]) [.ret _ _ _ c0, tF, .ret _ _ _ c1, tF, tT, .ret _ _ _ c3, .ret _ _ _ c6, .inl, .go 64, tT, tT, .get ([.lst .tight 1 [.int .u8 r4], .lst .tight 1 [.int .u8 15], .lst .tight 1 [.int .u8 175], .lst .tight 1 [.int .u8 r7]]) 0 (.lst .tight 1 [.int .u8 r4]) rfl, .len 1 2147483648 (by decide), tT, tT, .get ([.lst .tight 1 [.int .u8 r4], .lst .tight 1 [.int .u8 15], .lst .tight 1 [.int .u8 175], .lst .tight 1 [.int .u8 r7]]) 1 (.lst .tight 1 [.int .u8 15]) rfl, .len 2 2147483648 (by decide), tT, tT, .get ([.lst .tight 1 [.int .u8 r4], .lst .tight 1 [.int .u8 15], .lst .tight 1 [.int .u8 175], .lst .tight 1 [.int .u8 r7]]) 2 (.lst .tight 1 [.int .u8 175]) rfl, .len 3 2147483648 (by decide), tT, tT, .get ([.lst .tight 1 [.int .u8 r4], .lst .tight 1 [.int .u8 15], .lst .tight 1 [.int .u8 175], .lst .tight 1 [.int .u8 r7]]) 3 (.lst .tight 1 [.int .u8 r7]) rfl, .len 4 2147483648 (by decide), tF] (by kernel_rfl)).to (by subst_vars; (try simp only [beq_dec] at *); (try simp only [beq_iff_eq] at h); (try simp only [decide_eq_true_eq, decide_eq_false_iff_not] at *); simp_all [wk, wkL, wkO, bytesM, show shapeM 16 = 2 from rfl, codeM, bD, rexM, memM, fourM, w_u8])
 have c9 := @rex_no_ok dst src d0 d1 s0 s1 (w == 64) false h2
 have c10 := @two_ok dst src d0 d1 s0 s1
 generalize g12 : regsM dst src = r11 at c10
 exact (o102 (d := .tup [.lst (.fresh 1) 1 [.int .u8 15, .int .u8 175, .int .u8 r11], .int .i64 0]) [.ret _ _ _ c0, tF, .ret _ _ _ c1, tF, tT, .ret _ _ _ c9, .ret _ _ _ c10, .inl, .go 64, tT, tT, .get ([.lst .tight 1 [], .lst .tight 1 [.int .u8 15], .lst .tight 1 [.int .u8 175], .lst .tight 1 [.int .u8 r11]]) 0 (.lst .tight 1 []) rfl, .len 0 2147483648 (by decide), tT, tT, .get ([.lst .tight 1 [], .lst .tight 1 [.int .u8 15], .lst .tight 1 [.int .u8 175], .lst .tight 1 [.int .u8 r11]]) 1 (.lst .tight 1 [.int .u8 15]) rfl, .len 1 2147483648 (by decide), tT, tT, .get ([.lst .tight 1 [], .lst .tight 1 [.int .u8 15], .lst .tight 1 [.int .u8 175], .lst .tight 1 [.int .u8 r11]]) 2 (.lst .tight 1 [.int .u8 175]) rfl, .len 2 2147483648 (by decide), tT, tT, .get ([.lst .tight 1 [], .lst .tight 1 [.int .u8 15], .lst .tight 1 [.int .u8 175], .lst .tight 1 [.int .u8 r11]]) 3 (.lst .tight 1 [.int .u8 r11]) rfl, .len 3 2147483648 (by decide), tF] (by kernel_rfl)).to (by subst_vars; (try simp only [beq_dec] at *); (try simp only [beq_iff_eq] at h); (try simp only [decide_eq_true_eq, decide_eq_false_iff_not] at *); simp_all [wk, wkL, wkO, bytesM, show shapeM 16 = 2 from rfl, codeM, bD, rexM, memM, fourM, w_u8])
theorem bytes_5_ok (op w dst src base disp imm cc : Int) (ho : op ≤ 127) (d0 : 0 ≤ dst) (d1 : dst ≤ 15) (s0 : 0 ≤ src) (s1 : src ≤ 15) (b0 : 0 ≤ base) (b1 : base ≤ 15) (p0 : -2147483648 ≤ disp) (p1 : disp ≤ 2147483647) (i0 : -2147483648 ≤ imm) (i1 : imm ≤ 2147483647) (c0 : 0 ≤ cc) (c1 : cc ≤ 15) (n0 : 0 ≤ numM op) (n1 : numM op ≤ 7) (h : (shapeM op == 5) = true) (hin : decide (0 ≤ op ∧ op ≤ 31) = true) (hm : mayX op w dst src base disp imm cc = true) : Ret Tryz.prog 102 ([xD op w dst src base disp imm cc]) (.tup [.lst .no 1 (bD (bytesM op w dst src base disp imm cc)), .int .i64 0]) := by
 have c0 := @mayX_ok op w dst src base disp imm cc ho
 rw [show (mayX op w dst src base disp imm cc) = true from hm] at c0
 have c1 := @of_any_ok op ho
 rw [show (shapeM op) = 5 from (eq_of_beq h)] at c1
 generalize g3 : codeM op = r2 at c1
 generalize g5 : numM op = r4 at c1
 rcases bft (needM (w == 64) 0 dst false) with h6 | h6
 ·have c7 := @rex_yes_ok 0 dst (by decide) (by decide) d0 d1 (w == 64) false h6
  generalize g9 : rexB (w == 64) 0 dst = r8 at c7
  have c10 := @two_ok r4 dst (by (simp only [sl2] at *; omega)) (by (simp only [sl2] at *; omega)) d0 d1
  generalize g12 : regsM r4 dst = r11 at c10
  exact (o102 (d := .tup [.lst (.fresh 1) 1 [.int .u8 r8, .int .u8 r2, .int .u8 r11], .int .i64 0]) [.ret _ _ _ c0, tF, .ret _ _ _ c1, tF, tF, tF, tF, tF, tT, .ret _ _ _ c7, .ret _ _ _ c10, .inl, .go 64, tT, tT, .get ([.lst .tight 1 [.int .u8 r8], .lst .tight 1 [.int .u8 r2], .lst .tight 1 [.int .u8 r11]]) 0 (.lst .tight 1 [.int .u8 r8]) rfl, .len 1 2147483648 (by decide), tT, tT, .get ([.lst .tight 1 [.int .u8 r8], .lst .tight 1 [.int .u8 r2], .lst .tight 1 [.int .u8 r11]]) 1 (.lst .tight 1 [.int .u8 r2]) rfl, .len 2 2147483648 (by decide), tT, tT, .get ([.lst .tight 1 [.int .u8 r8], .lst .tight 1 [.int .u8 r2], .lst .tight 1 [.int .u8 r11]]) 2 (.lst .tight 1 [.int .u8 r11]) rfl, .len 3 2147483648 (by decide), tF] (by kernel_rfl)).to (by subst_vars; (try simp only [beq_dec] at *); (try simp only [beq_iff_eq] at h); (try simp only [decide_eq_true_eq, decide_eq_false_iff_not] at *); simp_all [wk, wkL, wkO, bytesM, bD, rexM, memM, fourM, w_u8])
 have c13 := @rex_no_ok 0 dst (by decide) (by decide) d0 d1 (w == 64) false h6
 have c14 := @two_ok r4 dst (by (simp only [sl2] at *; omega)) (by (simp only [sl2] at *; omega)) d0 d1
 generalize g16 : regsM r4 dst = r15 at c14
 exact (o102 (d := .tup [.lst (.fresh 1) 1 [.int .u8 r2, .int .u8 r15], .int .i64 0]) [.ret _ _ _ c0, tF, .ret _ _ _ c1, tF, tF, tF, tF, tF, tT, .ret _ _ _ c13, .ret _ _ _ c14, .inl, .go 64, tT, tT, .get ([.lst .tight 1 [], .lst .tight 1 [.int .u8 r2], .lst .tight 1 [.int .u8 r15]]) 0 (.lst .tight 1 []) rfl, .len 0 2147483648 (by decide), tT, tT, .get ([.lst .tight 1 [], .lst .tight 1 [.int .u8 r2], .lst .tight 1 [.int .u8 r15]]) 1 (.lst .tight 1 [.int .u8 r2]) rfl, .len 1 2147483648 (by decide), tT, tT, .get ([.lst .tight 1 [], .lst .tight 1 [.int .u8 r2], .lst .tight 1 [.int .u8 r15]]) 2 (.lst .tight 1 [.int .u8 r15]) rfl, .len 2 2147483648 (by decide), tF] (by kernel_rfl)).to (by subst_vars; (try simp only [beq_dec] at *); (try simp only [beq_iff_eq] at h); (try simp only [decide_eq_true_eq, decide_eq_false_iff_not] at *); simp_all [wk, wkL, wkO, bytesM, bD, rexM, memM, fourM, w_u8])
end Go.Proofs.YtojgmjfcfpclbaaGreat

namespace Go.Proofs.YtojgmjfcfpclbaaGreat
open Go Go.Ev
set_option maxRecDepth 100000
set_option maxHeartbeats 8000000
theorem bytes_4_ok (op w dst src base disp imm cc : Int) (ho : op ≤ 127) (d0 : 0 ≤ dst) (d1 : dst ≤ 15) (s0 : 0 ≤ src) (s1 : src ≤ 15) (b0 : 0 ≤ base) (b1 : base ≤ 15) (p0 : -2147483648 ≤ disp) (p1 : disp ≤ 2147483647) (i0 : -2147483648 ≤ imm) (i1 : imm ≤ 2147483647) (c0 : 0 ≤ cc) (c1 : cc ≤ 15) (n0 : 0 ≤ numM op) (n1 : numM op ≤ 7) (h : (shapeM op == 4) = true) (hin : decide (0 ≤ op ∧ op ≤ 31) = true) (hm : mayX op w dst src base disp imm cc = true) : Ret Tryz.prog 102 ([xD op w dst src base disp imm cc]) (.tup [.lst .no 1 (bD (bytesM op w dst src base disp imm cc)), .int .i64 0]) := by
 have c0 := @mayX_ok op w dst src base disp imm cc ho
 rw [show (mayX op w dst src base disp imm cc) = true from hm] at c0
 have c1 := @of_any_ok op ho
 rw [show (shapeM op) = 4 from (eq_of_beq h)] at c1
 generalize g3 : codeM op = r2 at c1
 generalize g5 : numM op = r4 at c1
 rcases bft (needM (w == 64) 0 dst false) with h6 | h6
 ·have c7 := @rex_yes_ok 0 dst (by decide) (by decide) d0 d1 (w == 64) false h6
  generalize g9 : rexB (w == 64) 0 dst = r8 at c7
  have c10 := @two_ok r4 dst (by (simp only [sl2] at *; omega)) (by (simp only [sl2] at *; omega)) d0 d1
  generalize g12 : regsM r4 dst = r11 at c10
  exact (o102 (d := .tup [.lst (.fresh 1) 1 [.int .u8 r8, .int .u8 r2, .int .u8 r11, .int .u8 (IntKind.wrap IntKind.u8 imm)], .int .i64 0]) [.ret _ _ _ c0, tF, .ret _ _ _ c1, tF, tF, tF, tF, tT, .ret _ _ _ c7, .ret _ _ _ c10, .inl, .go 64, tT, tT, .get ([.lst .tight 1 [.int .u8 r8], .lst .tight 1 [.int .u8 r2], .lst .tight 1 [.int .u8 r11], .lst .tight 1 [.int .u8 (IntKind.wrap IntKind.u8 imm)]]) 0 (.lst .tight 1 [.int .u8 r8]) rfl, .len 1 2147483648 (by decide), tT, tT, .get ([.lst .tight 1 [.int .u8 r8], .lst .tight 1 [.int .u8 r2], .lst .tight 1 [.int .u8 r11], .lst .tight 1 [.int .u8 (IntKind.wrap IntKind.u8 imm)]]) 1 (.lst .tight 1 [.int .u8 r2]) rfl, .len 2 2147483648 (by decide), tT, tT, .get ([.lst .tight 1 [.int .u8 r8], .lst .tight 1 [.int .u8 r2], .lst .tight 1 [.int .u8 r11], .lst .tight 1 [.int .u8 (IntKind.wrap IntKind.u8 imm)]]) 2 (.lst .tight 1 [.int .u8 r11]) rfl, .len 3 2147483648 (by decide), tT, tT, .get ([.lst .tight 1 [.int .u8 r8], .lst .tight 1 [.int .u8 r2], .lst .tight 1 [.int .u8 r11], .lst .tight 1 [.int .u8 (IntKind.wrap IntKind.u8 imm)]]) 3 (.lst .tight 1 [.int .u8 (IntKind.wrap IntKind.u8 imm)]) rfl, .len 4 2147483648 (by decide), tF] (by kernel_rfl)).to (by (try rw [or184 d0 d1]); (subst_vars; (try simp only [beq_dec] at *); (try simp only [beq_iff_eq] at h); (try simp only [decide_eq_true_eq, decide_eq_false_iff_not] at *); simp_all [wk, wkL, wkO, bytesM, bD, rexM, memM, fourM, w_u8]; done))
 have c13 := @rex_no_ok 0 dst (by decide) (by decide) d0 d1 (w == 64) false h6
 have c14 := @two_ok r4 dst (by (simp only [sl2] at *; omega)) (by (simp only [sl2] at *; omega)) d0 d1
 generalize g16 : regsM r4 dst = r15 at c14
 exact (o102 (d := .tup [.lst (.fresh 1) 1 [.int .u8 r2, .int .u8 r15, .int .u8 (IntKind.wrap IntKind.u8 imm)], .int .i64 0]) [.ret _ _ _ c0, tF, .ret _ _ _ c1, tF, tF, tF, tF, tT, .ret _ _ _ c13, .ret _ _ _ c14, .inl, .go 64, tT, tT, .get ([.lst .tight 1 [], .lst .tight 1 [.int .u8 r2], .lst .tight 1 [.int .u8 r15], .lst .tight 1 [.int .u8 (IntKind.wrap IntKind.u8 imm)]]) 0 (.lst .tight 1 []) rfl, .len 0 2147483648 (by decide), tT, tT, .get ([.lst .tight 1 [], .lst .tight 1 [.int .u8 r2], .lst .tight 1 [.int .u8 r15], .lst .tight 1 [.int .u8 (IntKind.wrap IntKind.u8 imm)]]) 1 (.lst .tight 1 [.int .u8 r2]) rfl, .len 1 2147483648 (by decide), tT, tT, .get ([.lst .tight 1 [], .lst .tight 1 [.int .u8 r2], .lst .tight 1 [.int .u8 r15], .lst .tight 1 [.int .u8 (IntKind.wrap IntKind.u8 imm)]]) 2 (.lst .tight 1 [.int .u8 r15]) rfl, .len 2 2147483648 (by decide), tT, tT, .get ([.lst .tight 1 [], .lst .tight 1 [.int .u8 r2], .lst .tight 1 [.int .u8 r15], .lst .tight 1 [.int .u8 (IntKind.wrap IntKind.u8 imm)]]) 3 (.lst .tight 1 [.int .u8 (IntKind.wrap IntKind.u8 imm)]) rfl, .len 3 2147483648 (by decide), tF] (by kernel_rfl)).to (by (try rw [or184 d0 d1]); (subst_vars; (try simp only [beq_dec] at *); (try simp only [beq_iff_eq] at h); (try simp only [decide_eq_true_eq, decide_eq_false_iff_not] at *); simp_all [wk, wkL, wkO, bytesM, bD, rexM, memM, fourM, w_u8]; done))
theorem bytes_3_ok (op w dst src base disp imm cc : Int) (ho : op ≤ 127) (d0 : 0 ≤ dst) (d1 : dst ≤ 15) (s0 : 0 ≤ src) (s1 : src ≤ 15) (b0 : 0 ≤ base) (b1 : base ≤ 15) (p0 : -2147483648 ≤ disp) (p1 : disp ≤ 2147483647) (i0 : -2147483648 ≤ imm) (i1 : imm ≤ 2147483647) (c0 : 0 ≤ cc) (c1 : cc ≤ 15) (n0 : 0 ≤ numM op) (n1 : numM op ≤ 7) (h : (shapeM op == 3) = true) (hin : decide (0 ≤ op ∧ op ≤ 31) = true) (hw : w = 32 ∨ w = 64) (hm : mayX op w dst src base disp imm cc = true) : Ret Tryz.prog 102 ([xD op w dst src base disp imm cc]) (.tup [.lst .no 1 (bD (bytesM op w dst src base disp imm cc)), .int .i64 0]) := by
 have c0 := @mayX_ok op w dst src base disp imm cc ho
 rw [show (mayX op w dst src base disp imm cc) = true from hm] at c0
 have c1 := @of_any_ok op ho
 rw [show (shapeM op) = 3 from (eq_of_beq h)] at c1
 generalize g3 : codeM op = r2 at c1
 generalize g5 : numM op = r4 at c1
 let E1 : EL := [.ret _ _ _ c0, tF, .ret _ _ _ c1, tF, tF, tF, tT]
 by_cases h6 : op = 1
 ·subst h6
  by_cases h7 : w = 64
  ·subst h7
   have c8 := @rex_yes_ok 0 dst n0 (by decide) d0 d1 true false (rfl : true = true)
   generalize g10 : rexB true 0 dst = r9 at c8
   have c11 := @two_ok r4 dst (by (simp only [sl2] at *; omega)) (by (simp only [sl2] at *; omega)) d0 d1
   generalize g13 : regsM r4 dst = r12 at c11
   have c14 := @four_ok imm
   exact (o102 (d := .tup [.lst (.fresh 1) 1 [.int .u8 r9, .int .u8 r2, .int .u8 r12, .int .u8 (imm % 256), .int .u8 (imm / 256 % 256), .int .u8 (imm / 65536 % 256), .int .u8 (imm / 16777216 % 256)], .int .i64 0]) (E1 ++ [tT, tT, tT, tF, .ret _ _ _ c8, .ret _ _ _ c11, .ret _ _ _ c14, .inl, .go 64, tT, tT, .get ([.lst .tight 1 [.int .u8 r9], .lst .tight 1 [.int .u8 r2], .lst .tight 1 [.int .u8 r12], .lst .no 1 [.int .u8 (imm % 256), .int .u8 (imm / 256 % 256), .int .u8 (imm / 65536 % 256), .int .u8 (imm / 16777216 % 256)]]) 0 (.lst .tight 1 [.int .u8 r9]) rfl, .len 1 2147483648 (by decide), tT, tT, .get ([.lst .tight 1 [.int .u8 r9], .lst .tight 1 [.int .u8 r2], .lst .tight 1 [.int .u8 r12], .lst .no 1 [.int .u8 (imm % 256), .int .u8 (imm / 256 % 256), .int .u8 (imm / 65536 % 256), .int .u8 (imm / 16777216 % 256)]]) 1 (.lst .tight 1 [.int .u8 r2]) rfl, .len 2 2147483648 (by decide), tT, tT, .get ([.lst .tight 1 [.int .u8 r9], .lst .tight 1 [.int .u8 r2], .lst .tight 1 [.int .u8 r12], .lst .no 1 [.int .u8 (imm % 256), .int .u8 (imm / 256 % 256), .int .u8 (imm / 65536 % 256), .int .u8 (imm / 16777216 % 256)]]) 2 (.lst .tight 1 [.int .u8 r12]) rfl, .len 3 2147483648 (by decide), tT, tT, .get ([.lst .tight 1 [.int .u8 r9], .lst .tight 1 [.int .u8 r2], .lst .tight 1 [.int .u8 r12], .lst .no 1 [.int .u8 (imm % 256), .int .u8 (imm / 256 % 256), .int .u8 (imm / 65536 % 256), .int .u8 (imm / 16777216 % 256)]]) 3 (.lst .no 1 [.int .u8 (imm % 256), .int .u8 (imm / 256 % 256), .int .u8 (imm / 65536 % 256), .int .u8 (imm / 16777216 % 256)]) rfl, .len 7 2147483648 (by decide), tF]) (by kernel_rfl)).to (by clear E1; (try rw [or184 d0 d1]); (subst_vars; (try simp only [beq_dec] at *); (try simp only [beq_iff_eq] at h); (try simp only [decide_eq_true_eq, decide_eq_false_iff_not] at *); simp_all [wk, wkL, wkO, bytesM, bD, rexM, memM, fourM, w_u8, needM]; done))
  rcases bft (needM false 0 dst false) with h15 | h15
  ·have c16 := @rex_yes_ok 0 dst n0 (by decide) d0 d1 false false h15
   generalize g18 : rexB false 0 dst = r17 at c16
   have c19 := @four_ok imm
   exact (o102 (d := .tup [.lst (.fresh 1) 1 [.int .u8 r17, .int .u8 (IntKind.wrap IntKind.u8 (↑(BitVec.toNat (BitVec.ofInt (8 : Nat) 184 ||| BitVec.ofInt (8 : Nat) (IntKind.wrap IntKind.u8 (IntKind.wrap IntKind.i8 (↑(BitVec.toNat (BitVec.ofInt (8 : Nat) dst &&& BitVec.ofInt (8 : Nat) 7)) : Int))))) : Int)), .int .u8 (imm % 256), .int .u8 (imm / 256 % 256), .int .u8 (imm / 65536 % 256), .int .u8 (imm / 16777216 % 256)], .int .i64 0]) (E1 ++ [tT, tT, tT, tC (nt (neOf h7)), .ret _ _ _ c16, .ret _ _ _ c19, .inl, .go 64, tT, tT, .get ([.lst .tight 1 [.int .u8 r17], .lst .tight 1 [.int .u8 (IntKind.wrap IntKind.u8 (↑(BitVec.toNat (BitVec.ofInt (8 : Nat) 184 ||| BitVec.ofInt (8 : Nat) (IntKind.wrap IntKind.u8 (IntKind.wrap IntKind.i8 (↑(BitVec.toNat (BitVec.ofInt (8 : Nat) dst &&& BitVec.ofInt (8 : Nat) 7)) : Int))))) : Int))], .lst .no 1 [.int .u8 (imm % 256), .int .u8 (imm / 256 % 256), .int .u8 (imm / 65536 % 256), .int .u8 (imm / 16777216 % 256)]]) 0 (.lst .tight 1 [.int .u8 r17]) rfl, .len 1 2147483648 (by decide), tT, tT, .get ([.lst .tight 1 [.int .u8 r17], .lst .tight 1 [.int .u8 (IntKind.wrap IntKind.u8 (↑(BitVec.toNat (BitVec.ofInt (8 : Nat) 184 ||| BitVec.ofInt (8 : Nat) (IntKind.wrap IntKind.u8 (IntKind.wrap IntKind.i8 (↑(BitVec.toNat (BitVec.ofInt (8 : Nat) dst &&& BitVec.ofInt (8 : Nat) 7)) : Int))))) : Int))], .lst .no 1 [.int .u8 (imm % 256), .int .u8 (imm / 256 % 256), .int .u8 (imm / 65536 % 256), .int .u8 (imm / 16777216 % 256)]]) 1 (.lst .tight 1 [.int .u8 (IntKind.wrap IntKind.u8 (↑(BitVec.toNat (BitVec.ofInt (8 : Nat) 184 ||| BitVec.ofInt (8 : Nat) (IntKind.wrap IntKind.u8 (IntKind.wrap IntKind.i8 (↑(BitVec.toNat (BitVec.ofInt (8 : Nat) dst &&& BitVec.ofInt (8 : Nat) 7)) : Int))))) : Int))]) rfl, .len 2 2147483648 (by decide), tT, tT, .get ([.lst .tight 1 [.int .u8 r17], .lst .tight 1 [.int .u8 (IntKind.wrap IntKind.u8 (↑(BitVec.toNat (BitVec.ofInt (8 : Nat) 184 ||| BitVec.ofInt (8 : Nat) (IntKind.wrap IntKind.u8 (IntKind.wrap IntKind.i8 (↑(BitVec.toNat (BitVec.ofInt (8 : Nat) dst &&& BitVec.ofInt (8 : Nat) 7)) : Int))))) : Int))], .lst .no 1 [.int .u8 (imm % 256), .int .u8 (imm / 256 % 256), .int .u8 (imm / 65536 % 256), .int .u8 (imm / 16777216 % 256)]]) 2 (.lst .no 1 [.int .u8 (imm % 256), .int .u8 (imm / 256 % 256), .int .u8 (imm / 65536 % 256), .int .u8 (imm / 16777216 % 256)]) rfl, .len 6 2147483648 (by decide), tF]) (by kernel_rfl)).to (by clear E1; (try rw [or184 d0 d1]); (subst_vars; (try simp only [beq_dec] at *); (try simp only [beq_iff_eq] at h); (try simp only [decide_eq_true_eq, decide_eq_false_iff_not] at *); simp_all [wk, wkL, wkO, bytesM, bD, rexM, memM, fourM, w_u8]; done))
  have c20 := @rex_no_ok 0 dst n0 (by decide) d0 d1 false false h15
  have c21 := @four_ok imm
  exact (o102 (d := .tup [.lst (.fresh 1) 1 [.int .u8 (IntKind.wrap IntKind.u8 (↑(BitVec.toNat (BitVec.ofInt (8 : Nat) 184 ||| BitVec.ofInt (8 : Nat) (IntKind.wrap IntKind.u8 (IntKind.wrap IntKind.i8 (↑(BitVec.toNat (BitVec.ofInt (8 : Nat) dst &&& BitVec.ofInt (8 : Nat) 7)) : Int))))) : Int)), .int .u8 (imm % 256), .int .u8 (imm / 256 % 256), .int .u8 (imm / 65536 % 256), .int .u8 (imm / 16777216 % 256)], .int .i64 0]) (E1 ++ [tT, tT, tT, tC (nt (neOf h7)), .ret _ _ _ c20, .ret _ _ _ c21, .inl, .go 64, tT, tT, .get ([.lst .tight 1 [], .lst .tight 1 [.int .u8 (IntKind.wrap IntKind.u8 (↑(BitVec.toNat (BitVec.ofInt (8 : Nat) 184 ||| BitVec.ofInt (8 : Nat) (IntKind.wrap IntKind.u8 (IntKind.wrap IntKind.i8 (↑(BitVec.toNat (BitVec.ofInt (8 : Nat) dst &&& BitVec.ofInt (8 : Nat) 7)) : Int))))) : Int))], .lst .no 1 [.int .u8 (imm % 256), .int .u8 (imm / 256 % 256), .int .u8 (imm / 65536 % 256), .int .u8 (imm / 16777216 % 256)]]) 0 (.lst .tight 1 []) rfl, .len 0 2147483648 (by decide), tT, tT, .get ([.lst .tight 1 [], .lst .tight 1 [.int .u8 (IntKind.wrap IntKind.u8 (↑(BitVec.toNat (BitVec.ofInt (8 : Nat) 184 ||| BitVec.ofInt (8 : Nat) (IntKind.wrap IntKind.u8 (IntKind.wrap IntKind.i8 (↑(BitVec.toNat (BitVec.ofInt (8 : Nat) dst &&& BitVec.ofInt (8 : Nat) 7)) : Int))))) : Int))], .lst .no 1 [.int .u8 (imm % 256), .int .u8 (imm / 256 % 256), .int .u8 (imm / 65536 % 256), .int .u8 (imm / 16777216 % 256)]]) 1 (.lst .tight 1 [.int .u8 (IntKind.wrap IntKind.u8 (↑(BitVec.toNat (BitVec.ofInt (8 : Nat) 184 ||| BitVec.ofInt (8 : Nat) (IntKind.wrap IntKind.u8 (IntKind.wrap IntKind.i8 (↑(BitVec.toNat (BitVec.ofInt (8 : Nat) dst &&& BitVec.ofInt (8 : Nat) 7)) : Int))))) : Int))]) rfl, .len 1 2147483648 (by decide), tT, tT, .get ([.lst .tight 1 [], .lst .tight 1 [.int .u8 (IntKind.wrap IntKind.u8 (↑(BitVec.toNat (BitVec.ofInt (8 : Nat) 184 ||| BitVec.ofInt (8 : Nat) (IntKind.wrap IntKind.u8 (IntKind.wrap IntKind.i8 (↑(BitVec.toNat (BitVec.ofInt (8 : Nat) dst &&& BitVec.ofInt (8 : Nat) 7)) : Int))))) : Int))], .lst .no 1 [.int .u8 (imm % 256), .int .u8 (imm / 256 % 256), .int .u8 (imm / 65536 % 256), .int .u8 (imm / 16777216 % 256)]]) 2 (.lst .no 1 [.int .u8 (imm % 256), .int .u8 (imm / 256 % 256), .int .u8 (imm / 65536 % 256), .int .u8 (imm / 16777216 % 256)]) rfl, .len 5 2147483648 (by decide), tF]) (by kernel_rfl)).to (by clear E1; (try rw [or184 d0 d1]); (subst_vars; (try simp only [beq_dec] at *); (try simp only [beq_iff_eq] at h); (try simp only [decide_eq_true_eq, decide_eq_false_iff_not] at *); simp_all [wk, wkL, wkO, bytesM, bD, rexM, memM, fourM, w_u8]; done))
 rcases bft (needM (w == 64) 0 dst false) with h22 | h22
 ·have c23 := @rex_yes_ok 0 dst (by decide) (by decide) d0 d1 (w == 64) false h22
  generalize g25 : rexB (w == 64) 0 dst = r24 at c23
  have c26 := @two_ok r4 dst (by (simp only [sl2] at *; omega)) (by (simp only [sl2] at *; omega)) d0 d1
  generalize g28 : regsM r4 dst = r27 at c26
  have c29 := @four_ok imm
  exact (o102 (d := .tup [.lst (.fresh 1) 1 [.int .u8 r24, .int .u8 r2, .int .u8 r27, .int .u8 (imm % 256), .int .u8 (imm / 256 % 256), .int .u8 (imm / 65536 % 256), .int .u8 (imm / 16777216 % 256)], .int .i64 0]) (E1 ++ [tC (eT (neOf h6)), tC (eT (neOf h6)), tC (neOf h6), tF, .ret _ _ _ c23, .ret _ _ _ c26, .ret _ _ _ c29, .inl, .go 64, tT, tT, .get ([.lst .tight 1 [.int .u8 r24], .lst .tight 1 [.int .u8 r2], .lst .tight 1 [.int .u8 r27], .lst .no 1 [.int .u8 (imm % 256), .int .u8 (imm / 256 % 256), .int .u8 (imm / 65536 % 256), .int .u8 (imm / 16777216 % 256)]]) 0 (.lst .tight 1 [.int .u8 r24]) rfl, .len 1 2147483648 (by decide), tT, tT, .get ([.lst .tight 1 [.int .u8 r24], .lst .tight 1 [.int .u8 r2], .lst .tight 1 [.int .u8 r27], .lst .no 1 [.int .u8 (imm % 256), .int .u8 (imm / 256 % 256), .int .u8 (imm / 65536 % 256), .int .u8 (imm / 16777216 % 256)]]) 1 (.lst .tight 1 [.int .u8 r2]) rfl, .len 2 2147483648 (by decide), tT, tT, .get ([.lst .tight 1 [.int .u8 r24], .lst .tight 1 [.int .u8 r2], .lst .tight 1 [.int .u8 r27], .lst .no 1 [.int .u8 (imm % 256), .int .u8 (imm / 256 % 256), .int .u8 (imm / 65536 % 256), .int .u8 (imm / 16777216 % 256)]]) 2 (.lst .tight 1 [.int .u8 r27]) rfl, .len 3 2147483648 (by decide), tT, tT, .get ([.lst .tight 1 [.int .u8 r24], .lst .tight 1 [.int .u8 r2], .lst .tight 1 [.int .u8 r27], .lst .no 1 [.int .u8 (imm % 256), .int .u8 (imm / 256 % 256), .int .u8 (imm / 65536 % 256), .int .u8 (imm / 16777216 % 256)]]) 3 (.lst .no 1 [.int .u8 (imm % 256), .int .u8 (imm / 256 % 256), .int .u8 (imm / 65536 % 256), .int .u8 (imm / 16777216 % 256)]) rfl, .len 7 2147483648 (by decide), tF]) (by kernel_rfl)).to (by clear E1; (try rw [or184 d0 d1]); (subst_vars; (try simp only [beq_dec] at *); (try simp only [beq_iff_eq] at h); (try simp only [decide_eq_true_eq, decide_eq_false_iff_not] at *); simp_all [wk, wkL, wkO, bytesM, bD, rexM, memM, fourM, w_u8]; done))
 have c30 := @rex_no_ok 0 dst (by decide) (by decide) d0 d1 (w == 64) false h22
 have c31 := @two_ok r4 dst (by (simp only [sl2] at *; omega)) (by (simp only [sl2] at *; omega)) d0 d1
 generalize g33 : regsM r4 dst = r32 at c31
 have c34 := @four_ok imm
 exact (o102 (d := .tup [.lst (.fresh 1) 1 [.int .u8 r2, .int .u8 r32, .int .u8 (imm % 256), .int .u8 (imm / 256 % 256), .int .u8 (imm / 65536 % 256), .int .u8 (imm / 16777216 % 256)], .int .i64 0]) (E1 ++ [tC (eT (neOf h6)), tC (eT (neOf h6)), tC (neOf h6), tF, .ret _ _ _ c30, .ret _ _ _ c31, .ret _ _ _ c34, .inl, .go 64, tT, tT, .get ([.lst .tight 1 [], .lst .tight 1 [.int .u8 r2], .lst .tight 1 [.int .u8 r32], .lst .no 1 [.int .u8 (imm % 256), .int .u8 (imm / 256 % 256), .int .u8 (imm / 65536 % 256), .int .u8 (imm / 16777216 % 256)]]) 0 (.lst .tight 1 []) rfl, .len 0 2147483648 (by decide), tT, tT, .get ([.lst .tight 1 [], .lst .tight 1 [.int .u8 r2], .lst .tight 1 [.int .u8 r32], .lst .no 1 [.int .u8 (imm % 256), .int .u8 (imm / 256 % 256), .int .u8 (imm / 65536 % 256), .int .u8 (imm / 16777216 % 256)]]) 1 (.lst .tight 1 [.int .u8 r2]) rfl, .len 1 2147483648 (by decide), tT, tT, .get ([.lst .tight 1 [], .lst .tight 1 [.int .u8 r2], .lst .tight 1 [.int .u8 r32], .lst .no 1 [.int .u8 (imm % 256), .int .u8 (imm / 256 % 256), .int .u8 (imm / 65536 % 256), .int .u8 (imm / 16777216 % 256)]]) 2 (.lst .tight 1 [.int .u8 r32]) rfl, .len 2 2147483648 (by decide), tT, tT, .get ([.lst .tight 1 [], .lst .tight 1 [.int .u8 r2], .lst .tight 1 [.int .u8 r32], .lst .no 1 [.int .u8 (imm % 256), .int .u8 (imm / 256 % 256), .int .u8 (imm / 65536 % 256), .int .u8 (imm / 16777216 % 256)]]) 3 (.lst .no 1 [.int .u8 (imm % 256), .int .u8 (imm / 256 % 256), .int .u8 (imm / 65536 % 256), .int .u8 (imm / 16777216 % 256)]) rfl, .len 6 2147483648 (by decide), tF]) (by kernel_rfl)).to (by clear E1; (try rw [or184 d0 d1]); (subst_vars; (try simp only [beq_dec] at *); (try simp only [beq_iff_eq] at h); (try simp only [decide_eq_true_eq, decide_eq_false_iff_not] at *); simp_all [wk, wkL, wkO, bytesM, bD, rexM, memM, fourM, w_u8]; done))
theorem bytesO_25_ok (w dst src base disp imm cc : Int) (d0 : 0 ≤ dst) (d1 : dst ≤ 15) (s0 : 0 ≤ src) (s1 : src ≤ 15) (b0 : 0 ≤ base) (b1 : base ≤ 15) (p0 : -2147483648 ≤ disp) (p1 : disp ≤ 2147483647) (i0 : -2147483648 ≤ imm) (i1 : imm ≤ 2147483647) (c0 : 0 ≤ cc) (c1 : cc ≤ 15) (hm : mayX 25 w dst src base disp imm cc = true) : Ret Tryz.prog 102 ([xD 25 w dst src base disp imm cc]) (.tup [.lst .no 1 (bD (bytesM 25 w dst src base disp imm cc)), .int .i64 0]) := by
 have c0 := @mayX_ok 25 w dst src base disp imm cc (by decide)
 rw [show (mayX 25 w dst src base disp imm cc) = true from hm] at c0
 have c1 := @of_any_ok 25 (by decide)
 rcases bft (needM (w == 64) dst src false) with h2 | h2
 ·have c3 := @rex_yes_ok dst src d0 d1 s0 s1 (w == 64) false h2
  generalize g5 : rexB (w == 64) dst src = r4 at c3
  have c6 := @two_ok dst src d0 d1 s0 s1
  generalize g8 : regsM dst src = r7 at c6
  exact (o102 (d := .tup [.lst (.fresh 1) 1 [.int .u8 r4, .int .u8 15, .int .u8 (IntKind.wrap IntKind.u8 (64 + IntKind.wrap IntKind.u8 cc)), .int .u8 r7], .int .i64 0]) [.ret _ _ _ c0, tF, .ret _ _ _ c1, tF, tF, tT, .ret _ _ _ c3, .ret _ _ _ c6, .inl, .go 64, tT, tT, .get ([.lst .tight 1 [.int .u8 r4], .lst .tight 1 [.int .u8 15, .int .u8 (IntKind.wrap IntKind.u8 (64 + IntKind.wrap IntKind.u8 cc))], .lst .tight 1 [.int .u8 r7]]) 0 (.lst .tight 1 [.int .u8 r4]) rfl, .len 1 2147483648 (by decide), tT, tT, .get ([.lst .tight 1 [.int .u8 r4], .lst .tight 1 [.int .u8 15, .int .u8 (IntKind.wrap IntKind.u8 (64 + IntKind.wrap IntKind.u8 cc))], .lst .tight 1 [.int .u8 r7]]) 1 (.lst .tight 1 [.int .u8 15, .int .u8 (IntKind.wrap IntKind.u8 (64 + IntKind.wrap IntKind.u8 cc))]) rfl, .len 3 2147483648 (by decide), tT, tT, .get ([.lst .tight 1 [.int .u8 r4], .lst .tight 1 [.int .u8 15, .int .u8 (IntKind.wrap IntKind.u8 (64 + IntKind.wrap IntKind.u8 cc))], .lst .tight 1 [.int .u8 r7]]) 2 (.lst .tight 1 [.int .u8 r7]) rfl, .len 4 2147483648 (by decide), tF] (by kernel_rfl)).to (by (try rw [or184 d0 d1]); (subst_vars; (try simp only [beq_dec] at *); (try simp only [beq_iff_eq] at h); (try simp only [decide_eq_true_eq, decide_eq_false_iff_not] at *); simp_all [wk, wkL, wkO, bytesM, bD, rexM, memM, fourM, w_u8, needM, codeM, numM, shapeM]; omega))
 have c9 := @rex_no_ok dst src d0 d1 s0 s1 (w == 64) false h2
 have c10 := @two_ok dst src d0 d1 s0 s1
 generalize g12 : regsM dst src = r11 at c10
 exact (o102 (d := .tup [.lst (.fresh 1) 1 [.int .u8 15, .int .u8 (IntKind.wrap IntKind.u8 (64 + IntKind.wrap IntKind.u8 cc)), .int .u8 r11], .int .i64 0]) [.ret _ _ _ c0, tF, .ret _ _ _ c1, tF, tF, tT, .ret _ _ _ c9, .ret _ _ _ c10, .inl, .go 64, tT, tT, .get ([.lst .tight 1 [], .lst .tight 1 [.int .u8 15, .int .u8 (IntKind.wrap IntKind.u8 (64 + IntKind.wrap IntKind.u8 cc))], .lst .tight 1 [.int .u8 r11]]) 0 (.lst .tight 1 []) rfl, .len 0 2147483648 (by decide), tT, tT, .get ([.lst .tight 1 [], .lst .tight 1 [.int .u8 15, .int .u8 (IntKind.wrap IntKind.u8 (64 + IntKind.wrap IntKind.u8 cc))], .lst .tight 1 [.int .u8 r11]]) 1 (.lst .tight 1 [.int .u8 15, .int .u8 (IntKind.wrap IntKind.u8 (64 + IntKind.wrap IntKind.u8 cc))]) rfl, .len 2 2147483648 (by decide), tT, tT, .get ([.lst .tight 1 [], .lst .tight 1 [.int .u8 15, .int .u8 (IntKind.wrap IntKind.u8 (64 + IntKind.wrap IntKind.u8 cc))], .lst .tight 1 [.int .u8 r11]]) 2 (.lst .tight 1 [.int .u8 r11]) rfl, .len 3 2147483648 (by decide), tF] (by kernel_rfl)).to (by (try rw [or184 d0 d1]); (subst_vars; (try simp only [beq_dec] at *); (try simp only [beq_iff_eq] at h); (try simp only [decide_eq_true_eq, decide_eq_false_iff_not] at *); simp_all [wk, wkL, wkO, bytesM, bD, rexM, memM, fourM, w_u8, codeM, numM, shapeM]; omega))
end Go.Proofs.YtojgmjfcfpclbaaGreat

namespace Go.Proofs.YtojgmjfcfpclbaaGreat
open Go Go.Ev
set_option maxRecDepth 100000
set_option maxHeartbeats 8000000
theorem bytesO_26_ok (w dst src base disp imm cc : Int) (d0 : 0 ≤ dst) (d1 : dst ≤ 15) (s0 : 0 ≤ src) (s1 : src ≤ 15) (b0 : 0 ≤ base) (b1 : base ≤ 15) (p0 : -2147483648 ≤ disp) (p1 : disp ≤ 2147483647) (i0 : -2147483648 ≤ imm) (i1 : imm ≤ 2147483647) (c0 : 0 ≤ cc) (c1 : cc ≤ 15) (hm : mayX 26 w dst src base disp imm cc = true) : Ret Tryz.prog 102 ([xD 26 w dst src base disp imm cc]) (.tup [.lst .no 1 (bD (bytesM 26 w dst src base disp imm cc)), .int .i64 0]) := by
 have c0 := @mayX_ok 26 w dst src base disp imm cc (by decide)
 rw [show (mayX 26 w dst src base disp imm cc) = true from hm] at c0
 have c1 := @of_any_ok 26 (by decide)
 let E1 : EL := [.ret _ _ _ c0, tF, .ret _ _ _ c1, tF, tF, tF, tF, tF, tF, tT]
 by_cases h2 : w = 8
 ·subst h2
  rcases bft (needM false dst base false) with h3 | h3
  ·have c4 := @rex_yes_ok dst base d0 d1 b0 b1 false false h3
   generalize g6 : rexB false dst base = r5 at c4
   rcases bft (decide (base % 8 = 4)) with h7 | h7
   ·have c8 := @mMem_4_ok dst base disp d0 d1 b0 b1 p0 p1 h7
    exact (o102 (d := .tup [.lst (.fresh 1) 1 [.int .u8 r5, .int .u8 15, .int .u8 182, .int .u8 (128 + 8 * (dst % 8) + base % 8), .int .u8 36, .int .u8 (disp % 256), .int .u8 (disp / 256 % 256), .int .u8 (disp / 65536 % 256), .int .u8 (disp / 16777216 % 256)], .int .i64 0]) (E1 ++ [tT, .ret _ _ _ c4, .inl, .ret _ _ _ c8, .inl, .go 64, tT, tT, .get ([.lst .tight 1 [.int .u8 r5], .lst .tight 1 [.int .u8 15, .int .u8 182], .lst .no 1 [.int .u8 (128 + 8 * (dst % 8) + base % 8), .int .u8 36, .int .u8 (disp % 256), .int .u8 (disp / 256 % 256), .int .u8 (disp / 65536 % 256), .int .u8 (disp / 16777216 % 256)]]) 0 (.lst .tight 1 [.int .u8 r5]) rfl, .len 1 2147483648 (by decide), tT, tT, .get ([.lst .tight 1 [.int .u8 r5], .lst .tight 1 [.int .u8 15, .int .u8 182], .lst .no 1 [.int .u8 (128 + 8 * (dst % 8) + base % 8), .int .u8 36, .int .u8 (disp % 256), .int .u8 (disp / 256 % 256), .int .u8 (disp / 65536 % 256), .int .u8 (disp / 16777216 % 256)]]) 1 (.lst .tight 1 [.int .u8 15, .int .u8 182]) rfl, .len 3 2147483648 (by decide), tT, tT, .get ([.lst .tight 1 [.int .u8 r5], .lst .tight 1 [.int .u8 15, .int .u8 182], .lst .no 1 [.int .u8 (128 + 8 * (dst % 8) + base % 8), .int .u8 36, .int .u8 (disp % 256), .int .u8 (disp / 256 % 256), .int .u8 (disp / 65536 % 256), .int .u8 (disp / 16777216 % 256)]]) 2 (.lst .no 1 [.int .u8 (128 + 8 * (dst % 8) + base % 8), .int .u8 36, .int .u8 (disp % 256), .int .u8 (disp / 256 % 256), .int .u8 (disp / 65536 % 256), .int .u8 (disp / 16777216 % 256)]) rfl, .len 9 2147483648 (by decide), tF]) (by kernel_rfl)).to (by clear E1; subst_vars; (try simp only [beq_dec] at *); (try simp only [beq_iff_eq] at h); (try simp only [decide_eq_true_eq, decide_eq_false_iff_not] at *); simp_all [wk, wkL, wkO, bytesM, show shapeM 26 = 7 from rfl, codeM, bD, rexM, memM, fourM, w_u8])
   have c9 := @mMem_n_ok dst base disp d0 d1 b0 b1 p0 p1 h7
   exact (o102 (d := .tup [.lst (.fresh 1) 1 [.int .u8 r5, .int .u8 15, .int .u8 182, .int .u8 (128 + 8 * (dst % 8) + base % 8), .int .u8 (disp % 256), .int .u8 (disp / 256 % 256), .int .u8 (disp / 65536 % 256), .int .u8 (disp / 16777216 % 256)], .int .i64 0]) (E1 ++ [tT, .ret _ _ _ c4, .inl, .ret _ _ _ c9, .inl, .go 64, tT, tT, .get ([.lst .tight 1 [.int .u8 r5], .lst .tight 1 [.int .u8 15, .int .u8 182], .lst .no 1 [.int .u8 (128 + 8 * (dst % 8) + base % 8), .int .u8 (disp % 256), .int .u8 (disp / 256 % 256), .int .u8 (disp / 65536 % 256), .int .u8 (disp / 16777216 % 256)]]) 0 (.lst .tight 1 [.int .u8 r5]) rfl, .len 1 2147483648 (by decide), tT, tT, .get ([.lst .tight 1 [.int .u8 r5], .lst .tight 1 [.int .u8 15, .int .u8 182], .lst .no 1 [.int .u8 (128 + 8 * (dst % 8) + base % 8), .int .u8 (disp % 256), .int .u8 (disp / 256 % 256), .int .u8 (disp / 65536 % 256), .int .u8 (disp / 16777216 % 256)]]) 1 (.lst .tight 1 [.int .u8 15, .int .u8 182]) rfl, .len 3 2147483648 (by decide), tT, tT, .get ([.lst .tight 1 [.int .u8 r5], .lst .tight 1 [.int .u8 15, .int .u8 182], .lst .no 1 [.int .u8 (128 + 8 * (dst % 8) + base % 8), .int .u8 (disp % 256), .int .u8 (disp / 256 % 256), .int .u8 (disp / 65536 % 256), .int .u8 (disp / 16777216 % 256)]]) 2 (.lst .no 1 [.int .u8 (128 + 8 * (dst % 8) + base % 8), .int .u8 (disp % 256), .int .u8 (disp / 256 % 256), .int .u8 (disp / 65536 % 256), .int .u8 (disp / 16777216 % 256)]) rfl, .len 8 2147483648 (by decide), tF]) (by kernel_rfl)).to (by clear E1; subst_vars; (try simp only [beq_dec] at *); (try simp only [beq_iff_eq] at h); (try simp only [decide_eq_true_eq, decide_eq_false_iff_not] at *); simp_all [wk, wkL, wkO, bytesM, show shapeM 26 = 7 from rfl, codeM, bD, rexM, memM, fourM, w_u8])
  have c10 := @rex_no_ok dst base d0 d1 b0 b1 false false h3
  rcases bft (decide (base % 8 = 4)) with h11 | h11
  ·have c12 := @mMem_4_ok dst base disp d0 d1 b0 b1 p0 p1 h11
   exact (o102 (d := .tup [.lst (.fresh 1) 1 [.int .u8 15, .int .u8 182, .int .u8 (128 + 8 * (dst % 8) + base % 8), .int .u8 36, .int .u8 (disp % 256), .int .u8 (disp / 256 % 256), .int .u8 (disp / 65536 % 256), .int .u8 (disp / 16777216 % 256)], .int .i64 0]) (E1 ++ [tT, .ret _ _ _ c10, .inl, .ret _ _ _ c12, .inl, .go 64, tT, tT, .get ([.lst .tight 1 [], .lst .tight 1 [.int .u8 15, .int .u8 182], .lst .no 1 [.int .u8 (128 + 8 * (dst % 8) + base % 8), .int .u8 36, .int .u8 (disp % 256), .int .u8 (disp / 256 % 256), .int .u8 (disp / 65536 % 256), .int .u8 (disp / 16777216 % 256)]]) 0 (.lst .tight 1 []) rfl, .len 0 2147483648 (by decide), tT, tT, .get ([.lst .tight 1 [], .lst .tight 1 [.int .u8 15, .int .u8 182], .lst .no 1 [.int .u8 (128 + 8 * (dst % 8) + base % 8), .int .u8 36, .int .u8 (disp % 256), .int .u8 (disp / 256 % 256), .int .u8 (disp / 65536 % 256), .int .u8 (disp / 16777216 % 256)]]) 1 (.lst .tight 1 [.int .u8 15, .int .u8 182]) rfl, .len 2 2147483648 (by decide), tT, tT, .get ([.lst .tight 1 [], .lst .tight 1 [.int .u8 15, .int .u8 182], .lst .no 1 [.int .u8 (128 + 8 * (dst % 8) + base % 8), .int .u8 36, .int .u8 (disp % 256), .int .u8 (disp / 256 % 256), .int .u8 (disp / 65536 % 256), .int .u8 (disp / 16777216 % 256)]]) 2 (.lst .no 1 [.int .u8 (128 + 8 * (dst % 8) + base % 8), .int .u8 36, .int .u8 (disp % 256), .int .u8 (disp / 256 % 256), .int .u8 (disp / 65536 % 256), .int .u8 (disp / 16777216 % 256)]) rfl, .len 8 2147483648 (by decide), tF]) (by kernel_rfl)).to (by clear E1; subst_vars; (try simp only [beq_dec] at *); (try simp only [beq_iff_eq] at h); (try simp only [decide_eq_true_eq, decide_eq_false_iff_not] at *); simp_all [wk, wkL, wkO, bytesM, show shapeM 26 = 7 from rfl, codeM, bD, rexM, memM, fourM, w_u8])
  have c13 := @mMem_n_ok dst base disp d0 d1 b0 b1 p0 p1 h11
  exact (o102 (d := .tup [.lst (.fresh 1) 1 [.int .u8 15, .int .u8 182, .int .u8 (128 + 8 * (dst % 8) + base % 8), .int .u8 (disp % 256), .int .u8 (disp / 256 % 256), .int .u8 (disp / 65536 % 256), .int .u8 (disp / 16777216 % 256)], .int .i64 0]) (E1 ++ [tT, .ret _ _ _ c10, .inl, .ret _ _ _ c13, .inl, .go 64, tT, tT, .get ([.lst .tight 1 [], .lst .tight 1 [.int .u8 15, .int .u8 182], .lst .no 1 [.int .u8 (128 + 8 * (dst % 8) + base % 8), .int .u8 (disp % 256), .int .u8 (disp / 256 % 256), .int .u8 (disp / 65536 % 256), .int .u8 (disp / 16777216 % 256)]]) 0 (.lst .tight 1 []) rfl, .len 0 2147483648 (by decide), tT, tT, .get ([.lst .tight 1 [], .lst .tight 1 [.int .u8 15, .int .u8 182], .lst .no 1 [.int .u8 (128 + 8 * (dst % 8) + base % 8), .int .u8 (disp % 256), .int .u8 (disp / 256 % 256), .int .u8 (disp / 65536 % 256), .int .u8 (disp / 16777216 % 256)]]) 1 (.lst .tight 1 [.int .u8 15, .int .u8 182]) rfl, .len 2 2147483648 (by decide), tT, tT, .get ([.lst .tight 1 [], .lst .tight 1 [.int .u8 15, .int .u8 182], .lst .no 1 [.int .u8 (128 + 8 * (dst % 8) + base % 8), .int .u8 (disp % 256), .int .u8 (disp / 256 % 256), .int .u8 (disp / 65536 % 256), .int .u8 (disp / 16777216 % 256)]]) 2 (.lst .no 1 [.int .u8 (128 + 8 * (dst % 8) + base % 8), .int .u8 (disp % 256), .int .u8 (disp / 256 % 256), .int .u8 (disp / 65536 % 256), .int .u8 (disp / 16777216 % 256)]) rfl, .len 7 2147483648 (by decide), tF]) (by kernel_rfl)).to (by clear E1; subst_vars; (try simp only [beq_dec] at *); (try simp only [beq_iff_eq] at h); (try simp only [decide_eq_true_eq, decide_eq_false_iff_not] at *); simp_all [wk, wkL, wkO, bytesM, show shapeM 26 = 7 from rfl, codeM, bD, rexM, memM, fourM, w_u8])
 let E2 : EL := E1 ++ [tC (neOf h2)]
 by_cases h14 : w = 16
 ·subst h14
  rcases bft (needM false dst base false) with h15 | h15
  ·have c16 := @rex_yes_ok dst base d0 d1 b0 b1 false false h15
   generalize g18 : rexB false dst base = r17 at c16
   rcases bft (decide (base % 8 = 4)) with h19 | h19
   ·have c20 := @mMem_4_ok dst base disp d0 d1 b0 b1 p0 p1 h19
    exact (o102 (d := .tup [.lst (.fresh 1) 1 [.int .u8 r17, .int .u8 15, .int .u8 183, .int .u8 (128 + 8 * (dst % 8) + base % 8), .int .u8 36, .int .u8 (disp % 256), .int .u8 (disp / 256 % 256), .int .u8 (disp / 65536 % 256), .int .u8 (disp / 16777216 % 256)], .int .i64 0]) (E2 ++ [tT, .ret _ _ _ c16, .inl, .ret _ _ _ c20, .inl, .go 64, tT, tT, .get ([.lst .tight 1 [.int .u8 r17], .lst .tight 1 [.int .u8 15, .int .u8 183], .lst .no 1 [.int .u8 (128 + 8 * (dst % 8) + base % 8), .int .u8 36, .int .u8 (disp % 256), .int .u8 (disp / 256 % 256), .int .u8 (disp / 65536 % 256), .int .u8 (disp / 16777216 % 256)]]) 0 (.lst .tight 1 [.int .u8 r17]) rfl, .len 1 2147483648 (by decide), tT, tT, .get ([.lst .tight 1 [.int .u8 r17], .lst .tight 1 [.int .u8 15, .int .u8 183], .lst .no 1 [.int .u8 (128 + 8 * (dst % 8) + base % 8), .int .u8 36, .int .u8 (disp % 256), .int .u8 (disp / 256 % 256), .int .u8 (disp / 65536 % 256), .int .u8 (disp / 16777216 % 256)]]) 1 (.lst .tight 1 [.int .u8 15, .int .u8 183]) rfl, .len 3 2147483648 (by decide), tT, tT, .get ([.lst .tight 1 [.int .u8 r17], .lst .tight 1 [.int .u8 15, .int .u8 183], .lst .no 1 [.int .u8 (128 + 8 * (dst % 8) + base % 8), .int .u8 36, .int .u8 (disp % 256), .int .u8 (disp / 256 % 256), .int .u8 (disp / 65536 % 256), .int .u8 (disp / 16777216 % 256)]]) 2 (.lst .no 1 [.int .u8 (128 + 8 * (dst % 8) + base % 8), .int .u8 36, .int .u8 (disp % 256), .int .u8 (disp / 256 % 256), .int .u8 (disp / 65536 % 256), .int .u8 (disp / 16777216 % 256)]) rfl, .len 9 2147483648 (by decide), tF]) (by kernel_rfl)).to (by clear E1 E2; subst_vars; (try simp only [beq_dec] at *); (try simp only [beq_iff_eq] at h); (try simp only [decide_eq_true_eq, decide_eq_false_iff_not] at *); simp_all [wk, wkL, wkO, bytesM, show shapeM 26 = 7 from rfl, codeM, bD, rexM, memM, fourM, w_u8])
   have c21 := @mMem_n_ok dst base disp d0 d1 b0 b1 p0 p1 h19
   exact (o102 (d := .tup [.lst (.fresh 1) 1 [.int .u8 r17, .int .u8 15, .int .u8 183, .int .u8 (128 + 8 * (dst % 8) + base % 8), .int .u8 (disp % 256), .int .u8 (disp / 256 % 256), .int .u8 (disp / 65536 % 256), .int .u8 (disp / 16777216 % 256)], .int .i64 0]) (E2 ++ [tT, .ret _ _ _ c16, .inl, .ret _ _ _ c21, .inl, .go 64, tT, tT, .get ([.lst .tight 1 [.int .u8 r17], .lst .tight 1 [.int .u8 15, .int .u8 183], .lst .no 1 [.int .u8 (128 + 8 * (dst % 8) + base % 8), .int .u8 (disp % 256), .int .u8 (disp / 256 % 256), .int .u8 (disp / 65536 % 256), .int .u8 (disp / 16777216 % 256)]]) 0 (.lst .tight 1 [.int .u8 r17]) rfl, .len 1 2147483648 (by decide), tT, tT, .get ([.lst .tight 1 [.int .u8 r17], .lst .tight 1 [.int .u8 15, .int .u8 183], .lst .no 1 [.int .u8 (128 + 8 * (dst % 8) + base % 8), .int .u8 (disp % 256), .int .u8 (disp / 256 % 256), .int .u8 (disp / 65536 % 256), .int .u8 (disp / 16777216 % 256)]]) 1 (.lst .tight 1 [.int .u8 15, .int .u8 183]) rfl, .len 3 2147483648 (by decide), tT, tT, .get ([.lst .tight 1 [.int .u8 r17], .lst .tight 1 [.int .u8 15, .int .u8 183], .lst .no 1 [.int .u8 (128 + 8 * (dst % 8) + base % 8), .int .u8 (disp % 256), .int .u8 (disp / 256 % 256), .int .u8 (disp / 65536 % 256), .int .u8 (disp / 16777216 % 256)]]) 2 (.lst .no 1 [.int .u8 (128 + 8 * (dst % 8) + base % 8), .int .u8 (disp % 256), .int .u8 (disp / 256 % 256), .int .u8 (disp / 65536 % 256), .int .u8 (disp / 16777216 % 256)]) rfl, .len 8 2147483648 (by decide), tF]) (by kernel_rfl)).to (by clear E1 E2; subst_vars; (try simp only [beq_dec] at *); (try simp only [beq_iff_eq] at h); (try simp only [decide_eq_true_eq, decide_eq_false_iff_not] at *); simp_all [wk, wkL, wkO, bytesM, show shapeM 26 = 7 from rfl, codeM, bD, rexM, memM, fourM, w_u8])
  have c22 := @rex_no_ok dst base d0 d1 b0 b1 false false h15
  rcases bft (decide (base % 8 = 4)) with h23 | h23
  ·have c24 := @mMem_4_ok dst base disp d0 d1 b0 b1 p0 p1 h23
   exact (o102 (d := .tup [.lst (.fresh 1) 1 [.int .u8 15, .int .u8 183, .int .u8 (128 + 8 * (dst % 8) + base % 8), .int .u8 36, .int .u8 (disp % 256), .int .u8 (disp / 256 % 256), .int .u8 (disp / 65536 % 256), .int .u8 (disp / 16777216 % 256)], .int .i64 0]) (E2 ++ [tT, .ret _ _ _ c22, .inl, .ret _ _ _ c24, .inl, .go 64, tT, tT, .get ([.lst .tight 1 [], .lst .tight 1 [.int .u8 15, .int .u8 183], .lst .no 1 [.int .u8 (128 + 8 * (dst % 8) + base % 8), .int .u8 36, .int .u8 (disp % 256), .int .u8 (disp / 256 % 256), .int .u8 (disp / 65536 % 256), .int .u8 (disp / 16777216 % 256)]]) 0 (.lst .tight 1 []) rfl, .len 0 2147483648 (by decide), tT, tT, .get ([.lst .tight 1 [], .lst .tight 1 [.int .u8 15, .int .u8 183], .lst .no 1 [.int .u8 (128 + 8 * (dst % 8) + base % 8), .int .u8 36, .int .u8 (disp % 256), .int .u8 (disp / 256 % 256), .int .u8 (disp / 65536 % 256), .int .u8 (disp / 16777216 % 256)]]) 1 (.lst .tight 1 [.int .u8 15, .int .u8 183]) rfl, .len 2 2147483648 (by decide), tT, tT, .get ([.lst .tight 1 [], .lst .tight 1 [.int .u8 15, .int .u8 183], .lst .no 1 [.int .u8 (128 + 8 * (dst % 8) + base % 8), .int .u8 36, .int .u8 (disp % 256), .int .u8 (disp / 256 % 256), .int .u8 (disp / 65536 % 256), .int .u8 (disp / 16777216 % 256)]]) 2 (.lst .no 1 [.int .u8 (128 + 8 * (dst % 8) + base % 8), .int .u8 36, .int .u8 (disp % 256), .int .u8 (disp / 256 % 256), .int .u8 (disp / 65536 % 256), .int .u8 (disp / 16777216 % 256)]) rfl, .len 8 2147483648 (by decide), tF]) (by kernel_rfl)).to (by clear E1 E2; subst_vars; (try simp only [beq_dec] at *); (try simp only [beq_iff_eq] at h); (try simp only [decide_eq_true_eq, decide_eq_false_iff_not] at *); simp_all [wk, wkL, wkO, bytesM, show shapeM 26 = 7 from rfl, codeM, bD, rexM, memM, fourM, w_u8])
  have c25 := @mMem_n_ok dst base disp d0 d1 b0 b1 p0 p1 h23
  exact (o102 (d := .tup [.lst (.fresh 1) 1 [.int .u8 15, .int .u8 183, .int .u8 (128 + 8 * (dst % 8) + base % 8), .int .u8 (disp % 256), .int .u8 (disp / 256 % 256), .int .u8 (disp / 65536 % 256), .int .u8 (disp / 16777216 % 256)], .int .i64 0]) (E2 ++ [tT, .ret _ _ _ c22, .inl, .ret _ _ _ c25, .inl, .go 64, tT, tT, .get ([.lst .tight 1 [], .lst .tight 1 [.int .u8 15, .int .u8 183], .lst .no 1 [.int .u8 (128 + 8 * (dst % 8) + base % 8), .int .u8 (disp % 256), .int .u8 (disp / 256 % 256), .int .u8 (disp / 65536 % 256), .int .u8 (disp / 16777216 % 256)]]) 0 (.lst .tight 1 []) rfl, .len 0 2147483648 (by decide), tT, tT, .get ([.lst .tight 1 [], .lst .tight 1 [.int .u8 15, .int .u8 183], .lst .no 1 [.int .u8 (128 + 8 * (dst % 8) + base % 8), .int .u8 (disp % 256), .int .u8 (disp / 256 % 256), .int .u8 (disp / 65536 % 256), .int .u8 (disp / 16777216 % 256)]]) 1 (.lst .tight 1 [.int .u8 15, .int .u8 183]) rfl, .len 2 2147483648 (by decide), tT, tT, .get ([.lst .tight 1 [], .lst .tight 1 [.int .u8 15, .int .u8 183], .lst .no 1 [.int .u8 (128 + 8 * (dst % 8) + base % 8), .int .u8 (disp % 256), .int .u8 (disp / 256 % 256), .int .u8 (disp / 65536 % 256), .int .u8 (disp / 16777216 % 256)]]) 2 (.lst .no 1 [.int .u8 (128 + 8 * (dst % 8) + base % 8), .int .u8 (disp % 256), .int .u8 (disp / 256 % 256), .int .u8 (disp / 65536 % 256), .int .u8 (disp / 16777216 % 256)]) rfl, .len 7 2147483648 (by decide), tF]) (by kernel_rfl)).to (by clear E1 E2; subst_vars; (try simp only [beq_dec] at *); (try simp only [beq_iff_eq] at h); (try simp only [decide_eq_true_eq, decide_eq_false_iff_not] at *); simp_all [wk, wkL, wkO, bytesM, show shapeM 26 = 7 from rfl, codeM, bD, rexM, memM, fourM, w_u8])
 rcases bft (needM (w == 64) dst base false) with h26 | h26
 ·have c27 := @rex_yes_ok dst base d0 d1 b0 b1 (w == 64) false h26
  generalize g29 : rexB (w == 64) dst base = r28 at c27
  rcases bft (decide (base % 8 = 4)) with h30 | h30
  ·have c31 := @mMem_4_ok dst base disp d0 d1 b0 b1 p0 p1 h30
   exact (o102 (d := .tup [.lst (.fresh 1) 1 [.int .u8 r28, .int .u8 139, .int .u8 (128 + 8 * (dst % 8) + base % 8), .int .u8 36, .int .u8 (disp % 256), .int .u8 (disp / 256 % 256), .int .u8 (disp / 65536 % 256), .int .u8 (disp / 16777216 % 256)], .int .i64 0]) (E2 ++ [tC (neOf h14), .ret _ _ _ c27, .inl, .ret _ _ _ c31, .inl, .go 64, tT, tT, .get ([.lst .tight 1 [.int .u8 r28], .lst .tight 1 [.int .u8 139], .lst .no 1 [.int .u8 (128 + 8 * (dst % 8) + base % 8), .int .u8 36, .int .u8 (disp % 256), .int .u8 (disp / 256 % 256), .int .u8 (disp / 65536 % 256), .int .u8 (disp / 16777216 % 256)]]) 0 (.lst .tight 1 [.int .u8 r28]) rfl, .len 1 2147483648 (by decide), tT, tT, .get ([.lst .tight 1 [.int .u8 r28], .lst .tight 1 [.int .u8 139], .lst .no 1 [.int .u8 (128 + 8 * (dst % 8) + base % 8), .int .u8 36, .int .u8 (disp % 256), .int .u8 (disp / 256 % 256), .int .u8 (disp / 65536 % 256), .int .u8 (disp / 16777216 % 256)]]) 1 (.lst .tight 1 [.int .u8 139]) rfl, .len 2 2147483648 (by decide), tT, tT, .get ([.lst .tight 1 [.int .u8 r28], .lst .tight 1 [.int .u8 139], .lst .no 1 [.int .u8 (128 + 8 * (dst % 8) + base % 8), .int .u8 36, .int .u8 (disp % 256), .int .u8 (disp / 256 % 256), .int .u8 (disp / 65536 % 256), .int .u8 (disp / 16777216 % 256)]]) 2 (.lst .no 1 [.int .u8 (128 + 8 * (dst % 8) + base % 8), .int .u8 36, .int .u8 (disp % 256), .int .u8 (disp / 256 % 256), .int .u8 (disp / 65536 % 256), .int .u8 (disp / 16777216 % 256)]) rfl, .len 8 2147483648 (by decide), tF]) (by kernel_rfl)).to (by clear E1 E2; subst_vars; (try simp only [beq_dec] at *); (try simp only [beq_iff_eq] at h); (try simp only [decide_eq_true_eq, decide_eq_false_iff_not] at *); simp_all [wk, wkL, wkO, bytesM, show shapeM 26 = 7 from rfl, codeM, bD, rexM, memM, fourM, w_u8])
  have c32 := @mMem_n_ok dst base disp d0 d1 b0 b1 p0 p1 h30
  exact (o102 (d := .tup [.lst (.fresh 1) 1 [.int .u8 r28, .int .u8 139, .int .u8 (128 + 8 * (dst % 8) + base % 8), .int .u8 (disp % 256), .int .u8 (disp / 256 % 256), .int .u8 (disp / 65536 % 256), .int .u8 (disp / 16777216 % 256)], .int .i64 0]) (E2 ++ [tC (neOf h14), .ret _ _ _ c27, .inl, .ret _ _ _ c32, .inl, .go 64, tT, tT, .get ([.lst .tight 1 [.int .u8 r28], .lst .tight 1 [.int .u8 139], .lst .no 1 [.int .u8 (128 + 8 * (dst % 8) + base % 8), .int .u8 (disp % 256), .int .u8 (disp / 256 % 256), .int .u8 (disp / 65536 % 256), .int .u8 (disp / 16777216 % 256)]]) 0 (.lst .tight 1 [.int .u8 r28]) rfl, .len 1 2147483648 (by decide), tT, tT, .get ([.lst .tight 1 [.int .u8 r28], .lst .tight 1 [.int .u8 139], .lst .no 1 [.int .u8 (128 + 8 * (dst % 8) + base % 8), .int .u8 (disp % 256), .int .u8 (disp / 256 % 256), .int .u8 (disp / 65536 % 256), .int .u8 (disp / 16777216 % 256)]]) 1 (.lst .tight 1 [.int .u8 139]) rfl, .len 2 2147483648 (by decide), tT, tT, .get ([.lst .tight 1 [.int .u8 r28], .lst .tight 1 [.int .u8 139], .lst .no 1 [.int .u8 (128 + 8 * (dst % 8) + base % 8), .int .u8 (disp % 256), .int .u8 (disp / 256 % 256), .int .u8 (disp / 65536 % 256), .int .u8 (disp / 16777216 % 256)]]) 2 (.lst .no 1 [.int .u8 (128 + 8 * (dst % 8) + base % 8), .int .u8 (disp % 256), .int .u8 (disp / 256 % 256), .int .u8 (disp / 65536 % 256), .int .u8 (disp / 16777216 % 256)]) rfl, .len 7 2147483648 (by decide), tF]) (by kernel_rfl)).to (by clear E1 E2; subst_vars; (try simp only [beq_dec] at *); (try simp only [beq_iff_eq] at h); (try simp only [decide_eq_true_eq, decide_eq_false_iff_not] at *); simp_all [wk, wkL, wkO, bytesM, show shapeM 26 = 7 from rfl, codeM, bD, rexM, memM, fourM, w_u8])
 have c33 := @rex_no_ok dst base d0 d1 b0 b1 (w == 64) false h26
 rcases bft (decide (base % 8 = 4)) with h34 | h34
 ·have c35 := @mMem_4_ok dst base disp d0 d1 b0 b1 p0 p1 h34
  exact (o102 (d := .tup [.lst (.fresh 1) 1 [.int .u8 139, .int .u8 (128 + 8 * (dst % 8) + base % 8), .int .u8 36, .int .u8 (disp % 256), .int .u8 (disp / 256 % 256), .int .u8 (disp / 65536 % 256), .int .u8 (disp / 16777216 % 256)], .int .i64 0]) (E2 ++ [tC (neOf h14), .ret _ _ _ c33, .inl, .ret _ _ _ c35, .inl, .go 64, tT, tT, .get ([.lst .tight 1 [], .lst .tight 1 [.int .u8 139], .lst .no 1 [.int .u8 (128 + 8 * (dst % 8) + base % 8), .int .u8 36, .int .u8 (disp % 256), .int .u8 (disp / 256 % 256), .int .u8 (disp / 65536 % 256), .int .u8 (disp / 16777216 % 256)]]) 0 (.lst .tight 1 []) rfl, .len 0 2147483648 (by decide), tT, tT, .get ([.lst .tight 1 [], .lst .tight 1 [.int .u8 139], .lst .no 1 [.int .u8 (128 + 8 * (dst % 8) + base % 8), .int .u8 36, .int .u8 (disp % 256), .int .u8 (disp / 256 % 256), .int .u8 (disp / 65536 % 256), .int .u8 (disp / 16777216 % 256)]]) 1 (.lst .tight 1 [.int .u8 139]) rfl, .len 1 2147483648 (by decide), tT, tT, .get ([.lst .tight 1 [], .lst .tight 1 [.int .u8 139], .lst .no 1 [.int .u8 (128 + 8 * (dst % 8) + base % 8), .int .u8 36, .int .u8 (disp % 256), .int .u8 (disp / 256 % 256), .int .u8 (disp / 65536 % 256), .int .u8 (disp / 16777216 % 256)]]) 2 (.lst .no 1 [.int .u8 (128 + 8 * (dst % 8) + base % 8), .int .u8 36, .int .u8 (disp % 256), .int .u8 (disp / 256 % 256), .int .u8 (disp / 65536 % 256), .int .u8 (disp / 16777216 % 256)]) rfl, .len 7 2147483648 (by decide), tF]) (by kernel_rfl)).to (by clear E1 E2; subst_vars; (try simp only [beq_dec] at *); (try simp only [beq_iff_eq] at h); (try simp only [decide_eq_true_eq, decide_eq_false_iff_not] at *); simp_all [wk, wkL, wkO, bytesM, show shapeM 26 = 7 from rfl, codeM, bD, rexM, memM, fourM, w_u8])
 have c36 := @mMem_n_ok dst base disp d0 d1 b0 b1 p0 p1 h34
 exact (o102 (d := .tup [.lst (.fresh 1) 1 [.int .u8 139, .int .u8 (128 + 8 * (dst % 8) + base % 8), .int .u8 (disp % 256), .int .u8 (disp / 256 % 256), .int .u8 (disp / 65536 % 256), .int .u8 (disp / 16777216 % 256)], .int .i64 0]) (E2 ++ [tC (neOf h14), .ret _ _ _ c33, .inl, .ret _ _ _ c36, .inl, .go 64, tT, tT, .get ([.lst .tight 1 [], .lst .tight 1 [.int .u8 139], .lst .no 1 [.int .u8 (128 + 8 * (dst % 8) + base % 8), .int .u8 (disp % 256), .int .u8 (disp / 256 % 256), .int .u8 (disp / 65536 % 256), .int .u8 (disp / 16777216 % 256)]]) 0 (.lst .tight 1 []) rfl, .len 0 2147483648 (by decide), tT, tT, .get ([.lst .tight 1 [], .lst .tight 1 [.int .u8 139], .lst .no 1 [.int .u8 (128 + 8 * (dst % 8) + base % 8), .int .u8 (disp % 256), .int .u8 (disp / 256 % 256), .int .u8 (disp / 65536 % 256), .int .u8 (disp / 16777216 % 256)]]) 1 (.lst .tight 1 [.int .u8 139]) rfl, .len 1 2147483648 (by decide), tT, tT, .get ([.lst .tight 1 [], .lst .tight 1 [.int .u8 139], .lst .no 1 [.int .u8 (128 + 8 * (dst % 8) + base % 8), .int .u8 (disp % 256), .int .u8 (disp / 256 % 256), .int .u8 (disp / 65536 % 256), .int .u8 (disp / 16777216 % 256)]]) 2 (.lst .no 1 [.int .u8 (128 + 8 * (dst % 8) + base % 8), .int .u8 (disp % 256), .int .u8 (disp / 256 % 256), .int .u8 (disp / 65536 % 256), .int .u8 (disp / 16777216 % 256)]) rfl, .len 6 2147483648 (by decide), tF]) (by kernel_rfl)).to (by clear E1 E2; subst_vars; (try simp only [beq_dec] at *); (try simp only [beq_iff_eq] at h); (try simp only [decide_eq_true_eq, decide_eq_false_iff_not] at *); simp_all [wk, wkL, wkO, bytesM, show shapeM 26 = 7 from rfl, codeM, bD, rexM, memM, fourM, w_u8])
end Go.Proofs.YtojgmjfcfpclbaaGreat
