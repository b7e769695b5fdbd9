/- Contracts and plain laws that a statement's proof leans on (texts merged: XR2c, XR2d, XR2e, XR2f, XRB, XRBy, LQ3, LQ4, LQ5, LQ6, LQ6A, LQ7, XP0, XP1, XP1A, XP2, XP2A, XD1, XD1A, XD2, XD3, XD4, XD4A, LM2, LM2A, LM3, LM3A, XLW). -/
import Derived.Test.YtcngafhpodeenaaP05
import Derived.Test.YtcngafhpodeenaaP06
import Derived.Test.YtcngafhpodeenaaP08
import Derived.Test.YtcngafhpodeenaaP10
import Derived.Test.YtcngafhpodeenaaP11
import Derived.Test.YtcngafhpodeenaaP12
import Derived.Test.YtcngafhpodeenaaP13
set_option linter.unusedVariables false
set_option linter.unusedSimpArgs false
set_option maxRecDepth 100000
set_option maxHeartbeats 8000000
namespace Go.Proofs.Ytcngafhpodeenaa
open Go Go.Ev
def SpXR2c0 (k0_ : Int) : Prop := ∀ (w dst src base disp imm cc : Int) (d0 : 0 ≤ dst) (d1 : dst ≤ 15) (s0 : 0 ≤ src) (s1 : src ≤ 15) (b0 : 0 ≤ base) (b1 : base ≤ 15) (p0 : -2147483648 ≤ disp) (p1 : disp ≤ 2147483647) (i0 : -2147483648 ≤ imm) (i1 : imm ≤ 2147483647) (c0 : 0 ≤ cc) (c1 : cc ≤ 15) (hm : mayX k0_ w dst src base disp imm cc = true), Ret Try.prog 55 ([xD k0_ w dst src base disp imm cc]) (.tup [.lst .no 1 (bD (bytesM k0_ w dst src base disp imm cc)), .int .i64 0])
theorem rbytes_17_ok : SpXR2c0 17 := by
 intro w dst src base disp imm cc d0 d1 s0 s1 b0 b1 p0 p1 i0 i1 c0 c1 hm
 have c0 := @rmayX_ok 17 w dst src base disp imm cc
 rw [hm] at c0
 have c1 := @class_ok 17
 have c2 := @class_ok 17
 have c3 := @class_ok 17
 let E1 : EL := ([.ret _ _ _ c0, tF, .inl] ++ List.replicate 12 tF ++ [tT, tT, tF, .ret _ _ _ c1, tF, tF, .ret _ _ _ c2, tF, .ret _ _ _ c3, tT])
 rcases bft (needM (w == 64) 0 dst false) with h4 | h4
 ·have c5 := @rrex_ok 0 dst (by decide) (by decide) d0 d1 (w == 64) false h4
  generalize g7 : rexB (w == 64) 0 dst = r6 at c5
  have c8 := @rdirect_ok 4 dst (by decide) (by decide) d0 d1
  generalize g10 : regsM 4 dst = r9 at c8
  exact (o55 (d := .tup [.lst (.fresh 1) 1 [.int .u8 r6, .int .u8 193, .int .u8 r9, .int .u8 (IntKind.wrap IntKind.u8 imm)], .int .i64 0]) (E1 ++ [.ret _ _ _ c5, .ret _ _ _ c8, .len 4 2147483648 (by decide)]) (by kernel_rfl)).to (by clear E1; (subst_vars; (try simp only [beq_dec] at *); (try simp only [beq_iff_eq] at h); (try simp only [decide_eq_true_eq, decide_eq_false_iff_not] at *); simp_all [wk, wkL, wkO, bytesM, show shapeM 17 = 4 from rfl, bD, rexM, memM, fourM, w_u8, codeM, numM]; done))
 have c11 := @rrexn_ok 0 dst (by decide) (by decide) d0 d1 (w == 64) false h4
 have c12 := @rdirect_ok 4 dst (by decide) (by decide) d0 d1
 generalize g14 : regsM 4 dst = r13 at c12
 exact (o55 (d := .tup [.lst (.fresh 1) 1 [.int .u8 193, .int .u8 r13, .int .u8 (IntKind.wrap IntKind.u8 imm)], .int .i64 0]) (E1 ++ [.ret _ _ _ c11, .ret _ _ _ c12, .len 3 2147483648 (by decide)]) (by kernel_rfl)).to (by clear E1; (subst_vars; (try simp only [beq_dec] at *); (try simp only [beq_iff_eq] at h); (try simp only [decide_eq_true_eq, decide_eq_false_iff_not] at *); simp_all [wk, wkL, wkO, bytesM, show shapeM 17 = 4 from rfl, bD, rexM, memM, fourM, w_u8, codeM, numM]; done))
theorem rbytes_18_ok : SpXR2c0 18 := by
 intro w dst src base disp imm cc d0 d1 s0 s1 b0 b1 p0 p1 i0 i1 c0 c1 hm
 have c0 := @rmayX_ok 18 w dst src base disp imm cc
 rw [hm] at c0
 have c1 := @class_ok 18
 have c2 := @class_ok 18
 have c3 := @class_ok 18
 let E1 : EL := ([.ret _ _ _ c0, tF, .inl] ++ List.replicate 15 tF ++ [tT, tT, tF, .ret _ _ _ c1, tF, tF, .ret _ _ _ c2, tF, .ret _ _ _ c3, tT])
 rcases bft (needM (w == 64) 0 dst false) with h4 | h4
 ·have c5 := @rrex_ok 0 dst (by decide) (by decide) d0 d1 (w == 64) false h4
  generalize g7 : rexB (w == 64) 0 dst = r6 at c5
  have c8 := @rdirect_ok 5 dst (by decide) (by decide) d0 d1
  generalize g10 : regsM 5 dst = r9 at c8
  exact (o55 (d := .tup [.lst (.fresh 1) 1 [.int .u8 r6, .int .u8 193, .int .u8 r9, .int .u8 (IntKind.wrap IntKind.u8 imm)], .int .i64 0]) (E1 ++ [.ret _ _ _ c5, .ret _ _ _ c8, .len 4 2147483648 (by decide)]) (by kernel_rfl)).to (by clear E1; (subst_vars; (try simp only [beq_dec] at *); (try simp only [beq_iff_eq] at h); (try simp only [decide_eq_true_eq, decide_eq_false_iff_not] at *); simp_all [wk, wkL, wkO, bytesM, show shapeM 18 = 4 from rfl, bD, rexM, memM, fourM, w_u8, codeM, numM]; done))
 have c11 := @rrexn_ok 0 dst (by decide) (by decide) d0 d1 (w == 64) false h4
 have c12 := @rdirect_ok 5 dst (by decide) (by decide) d0 d1
 generalize g14 : regsM 5 dst = r13 at c12
 exact (o55 (d := .tup [.lst (.fresh 1) 1 [.int .u8 193, .int .u8 r13, .int .u8 (IntKind.wrap IntKind.u8 imm)], .int .i64 0]) (E1 ++ [.ret _ _ _ c11, .ret _ _ _ c12, .len 3 2147483648 (by decide)]) (by kernel_rfl)).to (by clear E1; (subst_vars; (try simp only [beq_dec] at *); (try simp only [beq_iff_eq] at h); (try simp only [decide_eq_true_eq, decide_eq_false_iff_not] at *); simp_all [wk, wkL, wkO, bytesM, show shapeM 18 = 4 from rfl, bD, rexM, memM, fourM, w_u8, codeM, numM]; done))
theorem rbytes_19_ok : SpXR2c0 19 := by
 intro w dst src base disp imm cc d0 d1 s0 s1 b0 b1 p0 p1 i0 i1 c0 c1 hm
 have c0 := @rmayX_ok 19 w dst src base disp imm cc
 rw [hm] at c0
 have c1 := @class_ok 19
 have c2 := @class_ok 19
 have c3 := @class_ok 19
 let E1 : EL := ([.ret _ _ _ c0, tF, .inl] ++ List.replicate 20 tF ++ [tT, tT, tF, .ret _ _ _ c1, tF, tF, .ret _ _ _ c2, tF, .ret _ _ _ c3, tT])
 rcases bft (needM (w == 64) 0 dst false) with h4 | h4
 ·have c5 := @rrex_ok 0 dst (by decide) (by decide) d0 d1 (w == 64) false h4
  generalize g7 : rexB (w == 64) 0 dst = r6 at c5
  have c8 := @rdirect_ok 7 dst (by decide) (by decide) d0 d1
  generalize g10 : regsM 7 dst = r9 at c8
  exact (o55 (d := .tup [.lst (.fresh 1) 1 [.int .u8 r6, .int .u8 193, .int .u8 r9, .int .u8 (IntKind.wrap IntKind.u8 imm)], .int .i64 0]) (E1 ++ [.ret _ _ _ c5, .ret _ _ _ c8, .len 4 2147483648 (by decide)]) (by kernel_rfl)).to (by clear E1; (subst_vars; (try simp only [beq_dec] at *); (try simp only [beq_iff_eq] at h); (try simp only [decide_eq_true_eq, decide_eq_false_iff_not] at *); simp_all [wk, wkL, wkO, bytesM, show shapeM 19 = 4 from rfl, bD, rexM, memM, fourM, w_u8, codeM, numM]; done))
 have c11 := @rrexn_ok 0 dst (by decide) (by decide) d0 d1 (w == 64) false h4
 have c12 := @rdirect_ok 7 dst (by decide) (by decide) d0 d1
 generalize g14 : regsM 7 dst = r13 at c12
 exact (o55 (d := .tup [.lst (.fresh 1) 1 [.int .u8 193, .int .u8 r13, .int .u8 (IntKind.wrap IntKind.u8 imm)], .int .i64 0]) (E1 ++ [.ret _ _ _ c11, .ret _ _ _ c12, .len 3 2147483648 (by decide)]) (by kernel_rfl)).to (by clear E1; (subst_vars; (try simp only [beq_dec] at *); (try simp only [beq_iff_eq] at h); (try simp only [decide_eq_true_eq, decide_eq_false_iff_not] at *); simp_all [wk, wkL, wkO, bytesM, show shapeM 19 = 4 from rfl, bD, rexM, memM, fourM, w_u8, codeM, numM]; done))
theorem rbytes_20_ok : SpXR2c0 20 := by
 intro w dst src base disp imm cc d0 d1 s0 s1 b0 b1 p0 p1 i0 i1 c0 c1 hm
 have c0 := @rmayX_ok 20 w dst src base disp imm cc
 rw [hm] at c0
 have c1 := @class_ok 20
 have c2 := @class_ok 20
 have c3 := @class_ok 20
 have c4 := @class_ok 20
 let E1 : EL := ([.ret _ _ _ c0, tF, .inl] ++ List.replicate 13 tF ++ [tT, tF, .ret _ _ _ c1, tF, tF, .ret _ _ _ c2, tF, .ret _ _ _ c3, tF, .ret _ _ _ c4, tT])
 rcases bft (needM (w == 64) 0 dst false) with h5 | h5
 ·have c6 := @rrex_ok 0 dst (by decide) (by decide) d0 d1 (w == 64) false h5
  generalize g8 : rexB (w == 64) 0 dst = r7 at c6
  have c9 := @rdirect_ok 4 dst (by decide) (by decide) d0 d1
  generalize g11 : regsM 4 dst = r10 at c9
  exact (o55 (d := .tup [.lst (.fresh 1) 1 [.int .u8 r7, .int .u8 211, .int .u8 r10], .int .i64 0]) (E1 ++ [.ret _ _ _ c6, tT, tT, tT, tF, tF, .ret _ _ _ c9, .len 3 2147483648 (by decide)]) (by kernel_rfl)).to (by clear E1; (subst_vars; (try simp only [beq_dec] at *); (try simp only [beq_iff_eq] at h); (try simp only [decide_eq_true_eq, decide_eq_false_iff_not] at *); simp_all [wk, wkL, wkO, bytesM, show shapeM 20 = 5 from rfl, bD, rexM, memM, fourM, w_u8, codeM, numM]; done))
 have c12 := @rrexn_ok 0 dst (by decide) (by decide) d0 d1 (w == 64) false h5
 have c13 := @rdirect_ok 4 dst (by decide) (by decide) d0 d1
 generalize g15 : regsM 4 dst = r14 at c13
 exact (o55 (d := .tup [.lst (.fresh 1) 1 [.int .u8 211, .int .u8 r14], .int .i64 0]) (E1 ++ [.ret _ _ _ c12, tT, tT, tT, tF, tF, .ret _ _ _ c13, .len 2 2147483648 (by decide)]) (by kernel_rfl)).to (by clear E1; (subst_vars; (try simp only [beq_dec] at *); (try simp only [beq_iff_eq] at h); (try simp only [decide_eq_true_eq, decide_eq_false_iff_not] at *); simp_all [wk, wkL, wkO, bytesM, show shapeM 20 = 5 from rfl, bD, rexM, memM, fourM, w_u8, codeM, numM]; done))
theorem rbytes_21_ok : SpXR2c0 21 := by
 intro w dst src base disp imm cc d0 d1 s0 s1 b0 b1 p0 p1 i0 i1 c0 c1 hm
 have c0 := @rmayX_ok 21 w dst src base disp imm cc
 rw [hm] at c0
 have c1 := @class_ok 21
 have c2 := @class_ok 21
 have c3 := @class_ok 21
 have c4 := @class_ok 21
 let E1 : EL := ([.ret _ _ _ c0, tF, .inl] ++ List.replicate 16 tF ++ [tT, tF, .ret _ _ _ c1, tF, tF, .ret _ _ _ c2, tF, .ret _ _ _ c3, tF, .ret _ _ _ c4, tT])
 rcases bft (needM (w == 64) 0 dst false) with h5 | h5
 ·have c6 := @rrex_ok 0 dst (by decide) (by decide) d0 d1 (w == 64) false h5
  generalize g8 : rexB (w == 64) 0 dst = r7 at c6
  have c9 := @rdirect_ok 5 dst (by decide) (by decide) d0 d1
  generalize g11 : regsM 5 dst = r10 at c9
  exact (o55 (d := .tup [.lst (.fresh 1) 1 [.int .u8 r7, .int .u8 211, .int .u8 r10], .int .i64 0]) (E1 ++ [.ret _ _ _ c6, tT, tT, tT, tF, tF, .ret _ _ _ c9, .len 3 2147483648 (by decide)]) (by kernel_rfl)).to (by clear E1; (subst_vars; (try simp only [beq_dec] at *); (try simp only [beq_iff_eq] at h); (try simp only [decide_eq_true_eq, decide_eq_false_iff_not] at *); simp_all [wk, wkL, wkO, bytesM, show shapeM 21 = 5 from rfl, bD, rexM, memM, fourM, w_u8, codeM, numM]; done))
 have c12 := @rrexn_ok 0 dst (by decide) (by decide) d0 d1 (w == 64) false h5
 have c13 := @rdirect_ok 5 dst (by decide) (by decide) d0 d1
 generalize g15 : regsM 5 dst = r14 at c13
 exact (o55 (d := .tup [.lst (.fresh 1) 1 [.int .u8 211, .int .u8 r14], .int .i64 0]) (E1 ++ [.ret _ _ _ c12, tT, tT, tT, tF, tF, .ret _ _ _ c13, .len 2 2147483648 (by decide)]) (by kernel_rfl)).to (by clear E1; (subst_vars; (try simp only [beq_dec] at *); (try simp only [beq_iff_eq] at h); (try simp only [decide_eq_true_eq, decide_eq_false_iff_not] at *); simp_all [wk, wkL, wkO, bytesM, show shapeM 21 = 5 from rfl, bD, rexM, memM, fourM, w_u8, codeM, numM]; done))
theorem rbytes_22_ok : SpXR2c0 22 := by
 intro w dst src base disp imm cc d0 d1 s0 s1 b0 b1 p0 p1 i0 i1 c0 c1 hm
 have c0 := @rmayX_ok 22 w dst src base disp imm cc
 rw [hm] at c0
 have c1 := @class_ok 22
 have c2 := @class_ok 22
 have c3 := @class_ok 22
 have c4 := @class_ok 22
 let E1 : EL := ([.ret _ _ _ c0, tF, .inl] ++ List.replicate 21 tF ++ [tT, tF, .ret _ _ _ c1, tF, tF, .ret _ _ _ c2, tF, .ret _ _ _ c3, tF, .ret _ _ _ c4, tT])
 rcases bft (needM (w == 64) 0 dst false) with h5 | h5
 ·have c6 := @rrex_ok 0 dst (by decide) (by decide) d0 d1 (w == 64) false h5
  generalize g8 : rexB (w == 64) 0 dst = r7 at c6
  have c9 := @rdirect_ok 7 dst (by decide) (by decide) d0 d1
  generalize g11 : regsM 7 dst = r10 at c9
  exact (o55 (d := .tup [.lst (.fresh 1) 1 [.int .u8 r7, .int .u8 211, .int .u8 r10], .int .i64 0]) (E1 ++ [.ret _ _ _ c6, tT, tT, tT, tF, tF, .ret _ _ _ c9, .len 3 2147483648 (by decide)]) (by kernel_rfl)).to (by clear E1; (subst_vars; (try simp only [beq_dec] at *); (try simp only [beq_iff_eq] at h); (try simp only [decide_eq_true_eq, decide_eq_false_iff_not] at *); simp_all [wk, wkL, wkO, bytesM, show shapeM 22 = 5 from rfl, bD, rexM, memM, fourM, w_u8, codeM, numM]; done))
 have c12 := @rrexn_ok 0 dst (by decide) (by decide) d0 d1 (w == 64) false h5
 have c13 := @rdirect_ok 7 dst (by decide) (by decide) d0 d1
 generalize g15 : regsM 7 dst = r14 at c13
 exact (o55 (d := .tup [.lst (.fresh 1) 1 [.int .u8 211, .int .u8 r14], .int .i64 0]) (E1 ++ [.ret _ _ _ c12, tT, tT, tT, tF, tF, .ret _ _ _ c13, .len 2 2147483648 (by decide)]) (by kernel_rfl)).to (by clear E1; (subst_vars; (try simp only [beq_dec] at *); (try simp only [beq_iff_eq] at h); (try simp only [decide_eq_true_eq, decide_eq_false_iff_not] at *); simp_all [wk, wkL, wkO, bytesM, show shapeM 22 = 5 from rfl, bD, rexM, memM, fourM, w_u8, codeM, numM]; done))
theorem rbytes_23_ok : SpXR2c0 23 := by
 intro w dst src base disp imm cc d0 d1 s0 s1 b0 b1 p0 p1 i0 i1 c0 c1 hm
 have c0 := @rmayX_ok 23 w dst src base disp imm cc
 rw [hm] at c0
 have c1 := @class_ok 23
 have c2 := @class_ok 23
 have c3 := @class_ok 23
 have c4 := @class_ok 23
 let E1 : EL := ([.ret _ _ _ c0, tF, .inl] ++ List.replicate 22 tF ++ [tT, tF, .ret _ _ _ c1, tF, tF, .ret _ _ _ c2, tF, .ret _ _ _ c3, tF, .ret _ _ _ c4, tT])
 rcases bft (needM (w == 64) 0 dst false) with h5 | h5
 ·have c6 := @rrex_ok 0 dst (by decide) (by decide) d0 d1 (w == 64) false h5
  generalize g8 : rexB (w == 64) 0 dst = r7 at c6
  have c9 := @rdirect_ok 3 dst (by decide) (by decide) d0 d1
  generalize g11 : regsM 3 dst = r10 at c9
  exact (o55 (d := .tup [.lst (.fresh 1) 1 [.int .u8 r7, .int .u8 247, .int .u8 r10], .int .i64 0]) (E1 ++ [.ret _ _ _ c6, tF, tF, tF, tT, tT, .ret _ _ _ c9, .len 3 2147483648 (by decide)]) (by kernel_rfl)).to (by clear E1; (subst_vars; (try simp only [beq_dec] at *); (try simp only [beq_iff_eq] at h); (try simp only [decide_eq_true_eq, decide_eq_false_iff_not] at *); simp_all [wk, wkL, wkO, bytesM, show shapeM 23 = 5 from rfl, bD, rexM, memM, fourM, w_u8, codeM, numM]; done))
 have c12 := @rrexn_ok 0 dst (by decide) (by decide) d0 d1 (w == 64) false h5
 have c13 := @rdirect_ok 3 dst (by decide) (by decide) d0 d1
 generalize g15 : regsM 3 dst = r14 at c13
 exact (o55 (d := .tup [.lst (.fresh 1) 1 [.int .u8 247, .int .u8 r14], .int .i64 0]) (E1 ++ [.ret _ _ _ c12, tF, tF, tF, tT, tT, .ret _ _ _ c13, .len 2 2147483648 (by decide)]) (by kernel_rfl)).to (by clear E1; (subst_vars; (try simp only [beq_dec] at *); (try simp only [beq_iff_eq] at h); (try simp only [decide_eq_true_eq, decide_eq_false_iff_not] at *); simp_all [wk, wkL, wkO, bytesM, show shapeM 23 = 5 from rfl, bD, rexM, memM, fourM, w_u8, codeM, numM]; done))
theorem rbytes_24_ok : SpXR2c0 24 := by
 intro w dst src base disp imm cc d0 d1 s0 s1 b0 b1 p0 p1 i0 i1 c0 c1 hm
 have c0 := @rmayX_ok 24 w dst src base disp imm cc
 rw [hm] at c0
 have c1 := @class_ok 24
 have c2 := @class_ok 24
 have c3 := @class_ok 24
 have c4 := @class_ok 24
 let E1 : EL := ([.ret _ _ _ c0, tF, .inl] ++ List.replicate 18 tF ++ [tT, tF, .ret _ _ _ c1, tF, tF, .ret _ _ _ c2, tF, .ret _ _ _ c3, tF, .ret _ _ _ c4, tT])
 rcases bft (needM (w == 64) 0 dst false) with h5 | h5
 ·have c6 := @rrex_ok 0 dst (by decide) (by decide) d0 d1 (w == 64) false h5
  generalize g8 : rexB (w == 64) 0 dst = r7 at c6
  have c9 := @rdirect_ok 6 dst (by decide) (by decide) d0 d1
  generalize g11 : regsM 6 dst = r10 at c9
  exact (o55 (d := .tup [.lst (.fresh 1) 1 [.int .u8 r7, .int .u8 247, .int .u8 r10], .int .i64 0]) (E1 ++ [.ret _ _ _ c6, tT, tT, tT, tF, tT, .ret _ _ _ c9, .len 3 2147483648 (by decide)]) (by kernel_rfl)).to (by clear E1; (subst_vars; (try simp only [beq_dec] at *); (try simp only [beq_iff_eq] at h); (try simp only [decide_eq_true_eq, decide_eq_false_iff_not] at *); simp_all [wk, wkL, wkO, bytesM, show shapeM 24 = 5 from rfl, bD, rexM, memM, fourM, w_u8, codeM, numM]; done))
 have c12 := @rrexn_ok 0 dst (by decide) (by decide) d0 d1 (w == 64) false h5
 have c13 := @rdirect_ok 6 dst (by decide) (by decide) d0 d1
 generalize g15 : regsM 6 dst = r14 at c13
 exact (o55 (d := .tup [.lst (.fresh 1) 1 [.int .u8 247, .int .u8 r14], .int .i64 0]) (E1 ++ [.ret _ _ _ c12, tT, tT, tT, tF, tT, .ret _ _ _ c13, .len 2 2147483648 (by decide)]) (by kernel_rfl)).to (by clear E1; (subst_vars; (try simp only [beq_dec] at *); (try simp only [beq_iff_eq] at h); (try simp only [decide_eq_true_eq, decide_eq_false_iff_not] at *); simp_all [wk, wkL, wkO, bytesM, show shapeM 24 = 5 from rfl, bD, rexM, memM, fourM, w_u8, codeM, numM]; done))
theorem rbytes_26_ok (w dst src base disp imm cc : Int) (d0 : 0 ≤ dst) (d1 : dst ≤ 15) (s0 : 0 ≤ src) (s1 : src ≤ 15) (b0 : 0 ≤ base) (b1 : base ≤ 15) (p0 : -2147483648 ≤ disp) (p1 : disp ≤ 2147483647) (i0 : -2147483648 ≤ imm) (i1 : imm ≤ 2147483647) (c0 : 0 ≤ cc) (c1 : cc ≤ 15) (hm : mayX 26 w dst src base disp imm cc = true) : Ret Try.prog 55 ([xD 26 w dst src base disp imm cc]) (.tup [.lst .no 1 (bD (bytesM 26 w dst src base disp imm cc)), .int .i64 0]) := by
 have c0 := @rmayX_ok 26 w dst src base disp imm cc
 rw [hm] at c0
 have c1 := @class_ok 26
 have c2 := @class_ok 26
 have c3 := @class_ok 26
 have c4 := @class_ok 26
 let E1 : EL := ([.ret _ _ _ c0, tF, .inl] ++ List.replicate 24 tF ++ [.ret _ _ _ c1, tF, tF, .ret _ _ _ c2, tF, .ret _ _ _ c3, tF, .ret _ _ _ c4, tF, tF, tT])
 rcases bft (needM (w == 64) dst base false) with h5 | h5
 ·have c6 := @rrex_ok dst base d0 d1 b0 b1 (w == 64) false h5
  generalize g8 : rexB (w == 64) dst base = r7 at c6
  let E2 : EL := E1 ++ [.ret _ _ _ c6]
  by_cases h9 : w = 8
  ·subst h9
   let E3 : EL := E2 ++ [tT, .len 3 2147483648 (by decide)]
   rcases bft (decide (base % 8 = 4)) with h10 | h10
   ·have c11 := @rmem4_ok dst base disp d0 d1 b0 b1 p0 p1 h10
    exact (o55 (d := .tup [.lst (.fresh 1) 1 [.int .u8 r7, .int .u8 15, .int .u8 182, .int .u8 (128 + 8 * (dst % 8) + base % 8), .int .u8 36, .int .u8 (disp % 256), .int .u8 (disp / 256 % 256), .int .u8 (disp / 65536 % 256), .int .u8 (disp / 16777216 % 256)], .int .i64 0]) (E3 ++ [.ret _ _ _ c11, .len 9 2147483648 (by decide)]) (by kernel_rfl)).to (by clear E1 E2 E3; (subst_vars; (try simp only [beq_dec] at *); (try simp only [beq_iff_eq] at h); (try simp only [decide_eq_true_eq, decide_eq_false_iff_not] at *); simp_all [wk, wkL, wkO, bytesM, show shapeM 26 = 7 from rfl, bD, rexM, memM, fourM, w_u8, w_i64]; done))
   have c12 := @rmemn_ok dst base disp d0 d1 b0 b1 p0 p1 h10
   exact (o55 (d := .tup [.lst (.fresh 1) 1 [.int .u8 r7, .int .u8 15, .int .u8 182, .int .u8 (128 + 8 * (dst % 8) + base % 8), .int .u8 (disp % 256), .int .u8 (disp / 256 % 256), .int .u8 (disp / 65536 % 256), .int .u8 (disp / 16777216 % 256)], .int .i64 0]) (E3 ++ [.ret _ _ _ c12, .len 8 2147483648 (by decide)]) (by kernel_rfl)).to (by clear E1 E2 E3; (subst_vars; (try simp only [beq_dec] at *); (try simp only [beq_iff_eq] at h); (try simp only [decide_eq_true_eq, decide_eq_false_iff_not] at *); simp_all [wk, wkL, wkO, bytesM, show shapeM 26 = 7 from rfl, bD, rexM, memM, fourM, w_u8, w_i64]; done))
  by_cases h13 : w = 16
  ·subst h13
   let E4 : EL := E2 ++ [tC (neOf h9), tT, .len 3 2147483648 (by decide)]
   rcases bft (decide (base % 8 = 4)) with h14 | h14
   ·have c15 := @rmem4_ok dst base disp d0 d1 b0 b1 p0 p1 h14
    exact (o55 (d := .tup [.lst (.fresh 1) 1 [.int .u8 r7, .int .u8 15, .int .u8 183, .int .u8 (128 + 8 * (dst % 8) + base % 8), .int .u8 36, .int .u8 (disp % 256), .int .u8 (disp / 256 % 256), .int .u8 (disp / 65536 % 256), .int .u8 (disp / 16777216 % 256)], .int .i64 0]) (E4 ++ [.ret _ _ _ c15, .len 9 2147483648 (by decide)]) (by kernel_rfl)).to (by clear E1 E2 E4; (subst_vars; (try simp only [beq_dec] at *); (try simp only [beq_iff_eq] at h); (try simp only [decide_eq_true_eq, decide_eq_false_iff_not] at *); simp_all [wk, wkL, wkO, bytesM, show shapeM 26 = 7 from rfl, bD, rexM, memM, fourM, w_u8, w_i64]; done))
   have c16 := @rmemn_ok dst base disp d0 d1 b0 b1 p0 p1 h14
   exact (o55 (d := .tup [.lst (.fresh 1) 1 [.int .u8 r7, .int .u8 15, .int .u8 183, .int .u8 (128 + 8 * (dst % 8) + base % 8), .int .u8 (disp % 256), .int .u8 (disp / 256 % 256), .int .u8 (disp / 65536 % 256), .int .u8 (disp / 16777216 % 256)], .int .i64 0]) (E4 ++ [.ret _ _ _ c16, .len 8 2147483648 (by decide)]) (by kernel_rfl)).to (by clear E1 E2 E4; (subst_vars; (try simp only [beq_dec] at *); (try simp only [beq_iff_eq] at h); (try simp only [decide_eq_true_eq, decide_eq_false_iff_not] at *); simp_all [wk, wkL, wkO, bytesM, show shapeM 26 = 7 from rfl, bD, rexM, memM, fourM, w_u8, w_i64]; done))
  let E5 : EL := E2 ++ [tC (neOf h9), tC (neOf h13), .len 2 2147483648 (by decide)]
  rcases bft (decide (base % 8 = 4)) with h17 | h17
  ·have c18 := @rmem4_ok dst base disp d0 d1 b0 b1 p0 p1 h17
   exact (o55 (d := .tup [.lst (.fresh 1) 1 [.int .u8 r7, .int .u8 139, .int .u8 (128 + 8 * (dst % 8) + base % 8), .int .u8 36, .int .u8 (disp % 256), .int .u8 (disp / 256 % 256), .int .u8 (disp / 65536 % 256), .int .u8 (disp / 16777216 % 256)], .int .i64 0]) (E5 ++ [.ret _ _ _ c18, .len 8 2147483648 (by decide)]) (by kernel_rfl)).to (by clear E1 E2 E5; (subst_vars; (try simp only [beq_dec] at *); (try simp only [beq_iff_eq] at h); (try simp only [decide_eq_true_eq, decide_eq_false_iff_not] at *); simp_all [wk, wkL, wkO, bytesM, show shapeM 26 = 7 from rfl, bD, rexM, memM, fourM, w_u8, w_i64]; done))
  have c19 := @rmemn_ok dst base disp d0 d1 b0 b1 p0 p1 h17
  exact (o55 (d := .tup [.lst (.fresh 1) 1 [.int .u8 r7, .int .u8 139, .int .u8 (128 + 8 * (dst % 8) + base % 8), .int .u8 (disp % 256), .int .u8 (disp / 256 % 256), .int .u8 (disp / 65536 % 256), .int .u8 (disp / 16777216 % 256)], .int .i64 0]) (E5 ++ [.ret _ _ _ c19, .len 7 2147483648 (by decide)]) (by kernel_rfl)).to (by clear E1 E2 E5; (subst_vars; (try simp only [beq_dec] at *); (try simp only [beq_iff_eq] at h); (try simp only [decide_eq_true_eq, decide_eq_false_iff_not] at *); simp_all [wk, wkL, wkO, bytesM, show shapeM 26 = 7 from rfl, bD, rexM, memM, fourM, w_u8, w_i64]; done))
 have c20 := @rrexn_ok dst base d0 d1 b0 b1 (w == 64) false h5
 let E6 : EL := E1 ++ [.ret _ _ _ c20]
 by_cases h21 : w = 8
 ·subst h21
  let E7 : EL := E6 ++ [tT, .len 2 2147483648 (by decide)]
  rcases bft (decide (base % 8 = 4)) with h22 | h22
  ·have c23 := @rmem4_ok dst base disp d0 d1 b0 b1 p0 p1 h22
   exact (o55 (d := .tup [.lst (.fresh 1) 1 [.int .u8 15, .int .u8 182, .int .u8 (128 + 8 * (dst % 8) + base % 8), .int .u8 36, .int .u8 (disp % 256), .int .u8 (disp / 256 % 256), .int .u8 (disp / 65536 % 256), .int .u8 (disp / 16777216 % 256)], .int .i64 0]) (E7 ++ [.ret _ _ _ c23, .len 8 2147483648 (by decide)]) (by kernel_rfl)).to (by clear E1 E6 E7; (subst_vars; (try simp only [beq_dec] at *); (try simp only [beq_iff_eq] at h); (try simp only [decide_eq_true_eq, decide_eq_false_iff_not] at *); simp_all [wk, wkL, wkO, bytesM, show shapeM 26 = 7 from rfl, bD, rexM, memM, fourM, w_u8, w_i64]; done))
  have c24 := @rmemn_ok dst base disp d0 d1 b0 b1 p0 p1 h22
  exact (o55 (d := .tup [.lst (.fresh 1) 1 [.int .u8 15, .int .u8 182, .int .u8 (128 + 8 * (dst % 8) + base % 8), .int .u8 (disp % 256), .int .u8 (disp / 256 % 256), .int .u8 (disp / 65536 % 256), .int .u8 (disp / 16777216 % 256)], .int .i64 0]) (E7 ++ [.ret _ _ _ c24, .len 7 2147483648 (by decide)]) (by kernel_rfl)).to (by clear E1 E6 E7; (subst_vars; (try simp only [beq_dec] at *); (try simp only [beq_iff_eq] at h); (try simp only [decide_eq_true_eq, decide_eq_false_iff_not] at *); simp_all [wk, wkL, wkO, bytesM, show shapeM 26 = 7 from rfl, bD, rexM, memM, fourM, w_u8, w_i64]; done))
 by_cases h25 : w = 16
 ·subst h25
  let E8 : EL := E6 ++ [tC (neOf h21), tT, .len 2 2147483648 (by decide)]
  rcases bft (decide (base % 8 = 4)) with h26 | h26
  ·have c27 := @rmem4_ok dst base disp d0 d1 b0 b1 p0 p1 h26
   exact (o55 (d := .tup [.lst (.fresh 1) 1 [.int .u8 15, .int .u8 183, .int .u8 (128 + 8 * (dst % 8) + base % 8), .int .u8 36, .int .u8 (disp % 256), .int .u8 (disp / 256 % 256), .int .u8 (disp / 65536 % 256), .int .u8 (disp / 16777216 % 256)], .int .i64 0]) (E8 ++ [.ret _ _ _ c27, .len 8 2147483648 (by decide)]) (by kernel_rfl)).to (by clear E1 E6 E8; (subst_vars; (try simp only [beq_dec] at *); (try simp only [beq_iff_eq] at h); (try simp only [decide_eq_true_eq, decide_eq_false_iff_not] at *); simp_all [wk, wkL, wkO, bytesM, show shapeM 26 = 7 from rfl, bD, rexM, memM, fourM, w_u8, w_i64]; done))
  have c28 := @rmemn_ok dst base disp d0 d1 b0 b1 p0 p1 h26
  exact (o55 (d := .tup [.lst (.fresh 1) 1 [.int .u8 15, .int .u8 183, .int .u8 (128 + 8 * (dst % 8) + base % 8), .int .u8 (disp % 256), .int .u8 (disp / 256 % 256), .int .u8 (disp / 65536 % 256), .int .u8 (disp / 16777216 % 256)], .int .i64 0]) (E8 ++ [.ret _ _ _ c28, .len 7 2147483648 (by decide)]) (by kernel_rfl)).to (by clear E1 E6 E8; (subst_vars; (try simp only [beq_dec] at *); (try simp only [beq_iff_eq] at h); (try simp only [decide_eq_true_eq, decide_eq_false_iff_not] at *); simp_all [wk, wkL, wkO, bytesM, show shapeM 26 = 7 from rfl, bD, rexM, memM, fourM, w_u8, w_i64]; done))
 let E9 : EL := E6 ++ [tC (neOf h21), tC (neOf h25), .len 1 2147483648 (by decide)]
 rcases bft (decide (base % 8 = 4)) with h29 | h29
 ·have c30 := @rmem4_ok dst base disp d0 d1 b0 b1 p0 p1 h29
  exact (o55 (d := .tup [.lst (.fresh 1) 1 [.int .u8 139, .int .u8 (128 + 8 * (dst % 8) + base % 8), .int .u8 36, .int .u8 (disp % 256), .int .u8 (disp / 256 % 256), .int .u8 (disp / 65536 % 256), .int .u8 (disp / 16777216 % 256)], .int .i64 0]) (E9 ++ [.ret _ _ _ c30, .len 7 2147483648 (by decide)]) (by kernel_rfl)).to (by clear E1 E6 E9; (subst_vars; (try simp only [beq_dec] at *); (try simp only [beq_iff_eq] at h); (try simp only [decide_eq_true_eq, decide_eq_false_iff_not] at *); simp_all [wk, wkL, wkO, bytesM, show shapeM 26 = 7 from rfl, bD, rexM, memM, fourM, w_u8, w_i64]; done))
 have c31 := @rmemn_ok dst base disp d0 d1 b0 b1 p0 p1 h29
 exact (o55 (d := .tup [.lst (.fresh 1) 1 [.int .u8 139, .int .u8 (128 + 8 * (dst % 8) + base % 8), .int .u8 (disp % 256), .int .u8 (disp / 256 % 256), .int .u8 (disp / 65536 % 256), .int .u8 (disp / 16777216 % 256)], .int .i64 0]) (E9 ++ [.ret _ _ _ c31, .len 6 2147483648 (by decide)]) (by kernel_rfl)).to (by clear E1 E6 E9; (subst_vars; (try simp only [beq_dec] at *); (try simp only [beq_iff_eq] at h); (try simp only [decide_eq_true_eq, decide_eq_false_iff_not] at *); simp_all [wk, wkL, wkO, bytesM, show shapeM 26 = 7 from rfl, bD, rexM, memM, fourM, w_u8, w_i64]; done))
theorem rbytes_27_ok (w dst src base disp imm cc : Int) (d0 : 0 ≤ dst) (d1 : dst ≤ 15) (s0 : 0 ≤ src) (s1 : src ≤ 15) (b0 : 0 ≤ base) (b1 : base ≤ 15) (p0 : -2147483648 ≤ disp) (p1 : disp ≤ 2147483647) (i0 : -2147483648 ≤ imm) (i1 : imm ≤ 2147483647) (c0 : 0 ≤ cc) (c1 : cc ≤ 15) (hm : mayX 27 w dst src base disp imm cc = true) : Ret Try.prog 55 ([xD 27 w dst src base disp imm cc]) (.tup [.lst .no 1 (bD (bytesM 27 w dst src base disp imm cc)), .int .i64 0]) := by
 have c0 := @rmayX_ok 27 w dst src base disp imm cc
 rw [hm] at c0
 have c1 := @class_ok 27
 have c2 := @class_ok 27
 have c3 := @class_ok 27
 have c4 := @class_ok 27
 let E1 : EL := ([.ret _ _ _ c0, tF, .inl] ++ List.replicate 24 tF ++ [.ret _ _ _ c1, tF, tF, .ret _ _ _ c2, tF, .ret _ _ _ c3, tF, .ret _ _ _ c4, tF, tF, tF, tT])
 by_cases h5 : w = 16
 ·subst h5
  let E2 : EL := E1 ++ [tT, .len 1 2147483648 (by decide)]
  rcases bft (needM false src base false) with h6 | h6
  ·have c7 := @rrex_ok src base s0 s1 b0 b1 false false h6
   generalize g9 : rexB false src base = r8 at c7
   let E3 : EL := E2 ++ [.ret _ _ _ c7, .len 2 2147483648 (by decide), tF, .len 3 2147483648 (by decide)]
   rcases bft (decide (base % 8 = 4)) with h10 | h10
   ·have c11 := @rmem4_ok src base disp s0 s1 b0 b1 p0 p1 h10
    exact (o55 (d := .tup [.lst (.fresh (1 : Nat)) (1 : Nat) [.int .u8 102, .int .u8 r8, .int .u8 137, .int .u8 (128 + 8 * (src % 8) + base % 8), .int .u8 36, .int .u8 (disp % 256), .int .u8 (disp / 256 % 256), .int .u8 (disp / 65536 % 256), .int .u8 (disp / 16777216 % 256)], .int .i64 0]) (E3 ++ [.ret _ _ _ c11, .len 9 2147483648 (by decide)]) (by kernel_rfl)).to (by clear E1 E2 E3; ((try simp only [and7]); subst_vars; (try simp only [beq_dec] at *); (try simp only [beq_iff_eq] at h); (try simp only [decide_eq_true_eq, decide_eq_false_iff_not] at *); simp_all [wk, wkL, wkO, bytesM, show shapeM 27 = 8 from rfl, bD, rexM, memM, fourM, w_u8, w_i64, w_i8]; done))
   have c12 := @rmemn_ok src base disp s0 s1 b0 b1 p0 p1 h10
   exact (o55 (d := .tup [.lst (.fresh (1 : Nat)) (1 : Nat) [.int .u8 102, .int .u8 r8, .int .u8 137, .int .u8 (128 + 8 * (src % 8) + base % 8), .int .u8 (disp % 256), .int .u8 (disp / 256 % 256), .int .u8 (disp / 65536 % 256), .int .u8 (disp / 16777216 % 256)], .int .i64 0]) (E3 ++ [.ret _ _ _ c12, .len 8 2147483648 (by decide)]) (by kernel_rfl)).to (by clear E1 E2 E3; ((try simp only [and7]); subst_vars; (try simp only [beq_dec] at *); (try simp only [beq_iff_eq] at h); (try simp only [decide_eq_true_eq, decide_eq_false_iff_not] at *); simp_all [wk, wkL, wkO, bytesM, show shapeM 27 = 8 from rfl, bD, rexM, memM, fourM, w_u8, w_i64, w_i8]; done))
  have c13 := @rrexn_ok src base s0 s1 b0 b1 false false h6
  let E4 : EL := E2 ++ [.ret _ _ _ c13, .len 1 2147483648 (by decide), tF, .len 2 2147483648 (by decide)]
  rcases bft (decide (base % 8 = 4)) with h14 | h14
  ·have c15 := @rmem4_ok src base disp s0 s1 b0 b1 p0 p1 h14
   exact (o55 (d := .tup [.lst (.fresh (1 : Nat)) (1 : Nat) [.int .u8 102, .int .u8 137, .int .u8 (128 + 8 * (src % 8) + base % 8), .int .u8 36, .int .u8 (disp % 256), .int .u8 (disp / 256 % 256), .int .u8 (disp / 65536 % 256), .int .u8 (disp / 16777216 % 256)], .int .i64 0]) (E4 ++ [.ret _ _ _ c15, .len 8 2147483648 (by decide)]) (by kernel_rfl)).to (by clear E1 E2 E4; ((try simp only [and7]); subst_vars; (try simp only [beq_dec] at *); (try simp only [beq_iff_eq] at h); (try simp only [decide_eq_true_eq, decide_eq_false_iff_not] at *); simp_all [wk, wkL, wkO, bytesM, show shapeM 27 = 8 from rfl, bD, rexM, memM, fourM, w_u8, w_i64, w_i8]; done))
  have c16 := @rmemn_ok src base disp s0 s1 b0 b1 p0 p1 h14
  exact (o55 (d := .tup [.lst (.fresh (1 : Nat)) (1 : Nat) [.int .u8 102, .int .u8 137, .int .u8 (128 + 8 * (src % 8) + base % 8), .int .u8 (disp % 256), .int .u8 (disp / 256 % 256), .int .u8 (disp / 65536 % 256), .int .u8 (disp / 16777216 % 256)], .int .i64 0]) (E4 ++ [.ret _ _ _ c16, .len 7 2147483648 (by decide)]) (by kernel_rfl)).to (by clear E1 E2 E4; ((try simp only [and7]); subst_vars; (try simp only [beq_dec] at *); (try simp only [beq_iff_eq] at h); (try simp only [decide_eq_true_eq, decide_eq_false_iff_not] at *); simp_all [wk, wkL, wkO, bytesM, show shapeM 27 = 8 from rfl, bD, rexM, memM, fourM, w_u8, w_i64, w_i8]; done))
 let E5 : EL := E1 ++ [tC (neOf h5)]
 rcases bft (needM (w == 64) src base (w == 8)) with h17 | h17
 ·have c18 := @rrex_ok src base s0 s1 b0 b1 (w == 64) (w == 8) h17
  generalize g20 : rexB (w == 64) src base = r19 at c18
  let E6 : EL := E5 ++ [.ret _ _ _ c18, .len 1 2147483648 (by decide)]
  by_cases h21 : w = 8
  ·subst h21
   let E7 : EL := E6 ++ [tT, .len 2 2147483648 (by decide)]
   rcases bft (decide (base % 8 = 4)) with h22 | h22
   ·have c23 := @rmem4_ok src base disp s0 s1 b0 b1 p0 p1 h22
    exact (o55 (d := .tup [.lst (.fresh (1 : Nat)) (1 : Nat) [.int .u8 r19, .int .u8 136, .int .u8 (128 + 8 * (src % 8) + base % 8), .int .u8 36, .int .u8 (disp % 256), .int .u8 (disp / 256 % 256), .int .u8 (disp / 65536 % 256), .int .u8 (disp / 16777216 % 256)], .int .i64 0]) (E7 ++ [.ret _ _ _ c23, .len 8 2147483648 (by decide)]) (by kernel_rfl)).to (by clear E1 E5 E6 E7; ((try simp only [and7]); subst_vars; (try simp only [beq_dec] at *); (try simp only [beq_iff_eq] at h); (try simp only [decide_eq_true_eq, decide_eq_false_iff_not] at *); simp_all [wk, wkL, wkO, bytesM, show shapeM 27 = 8 from rfl, bD, rexM, memM, fourM, w_u8, w_i64, w_i8]; done))
   have c24 := @rmemn_ok src base disp s0 s1 b0 b1 p0 p1 h22
   exact (o55 (d := .tup [.lst (.fresh (1 : Nat)) (1 : Nat) [.int .u8 r19, .int .u8 136, .int .u8 (128 + 8 * (src % 8) + base % 8), .int .u8 (disp % 256), .int .u8 (disp / 256 % 256), .int .u8 (disp / 65536 % 256), .int .u8 (disp / 16777216 % 256)], .int .i64 0]) (E7 ++ [.ret _ _ _ c24, .len 7 2147483648 (by decide)]) (by kernel_rfl)).to (by clear E1 E5 E6 E7; ((try simp only [and7]); subst_vars; (try simp only [beq_dec] at *); (try simp only [beq_iff_eq] at h); (try simp only [decide_eq_true_eq, decide_eq_false_iff_not] at *); simp_all [wk, wkL, wkO, bytesM, show shapeM 27 = 8 from rfl, bD, rexM, memM, fourM, w_u8, w_i64, w_i8]; done))
  let E8 : EL := E6 ++ [tC (neOf h21), .len 2 2147483648 (by decide)]
  rcases bft (decide (base % 8 = 4)) with h25 | h25
  ·have c26 := @rmem4_ok src base disp s0 s1 b0 b1 p0 p1 h25
   exact (o55 (d := .tup [.lst (.fresh (1 : Nat)) (1 : Nat) [.int .u8 r19, .int .u8 137, .int .u8 (128 + 8 * (src % 8) + base % 8), .int .u8 36, .int .u8 (disp % 256), .int .u8 (disp / 256 % 256), .int .u8 (disp / 65536 % 256), .int .u8 (disp / 16777216 % 256)], .int .i64 0]) (E8 ++ [.ret _ _ _ c26, .len 8 2147483648 (by decide)]) (by kernel_rfl)).to (by clear E1 E5 E6 E8; ((try simp only [and7]); subst_vars; (try simp only [beq_dec] at *); (try simp only [beq_iff_eq] at h); (try simp only [decide_eq_true_eq, decide_eq_false_iff_not] at *); simp_all [wk, wkL, wkO, bytesM, show shapeM 27 = 8 from rfl, bD, rexM, memM, fourM, w_u8, w_i64, w_i8]; done))
  have c27 := @rmemn_ok src base disp s0 s1 b0 b1 p0 p1 h25
  exact (o55 (d := .tup [.lst (.fresh (1 : Nat)) (1 : Nat) [.int .u8 r19, .int .u8 137, .int .u8 (128 + 8 * (src % 8) + base % 8), .int .u8 (disp % 256), .int .u8 (disp / 256 % 256), .int .u8 (disp / 65536 % 256), .int .u8 (disp / 16777216 % 256)], .int .i64 0]) (E8 ++ [.ret _ _ _ c27, .len 7 2147483648 (by decide)]) (by kernel_rfl)).to (by clear E1 E5 E6 E8; ((try simp only [and7]); subst_vars; (try simp only [beq_dec] at *); (try simp only [beq_iff_eq] at h); (try simp only [decide_eq_true_eq, decide_eq_false_iff_not] at *); simp_all [wk, wkL, wkO, bytesM, show shapeM 27 = 8 from rfl, bD, rexM, memM, fourM, w_u8, w_i64, w_i8]; done))
 have c28 := @rrexn_ok src base s0 s1 b0 b1 (w == 64) (w == 8) h17
 let E9 : EL := E5 ++ [.ret _ _ _ c28, .len 0 2147483648 (by decide)]
 by_cases h29 : w = 8
 ·subst h29
  let E10 : EL := E9 ++ [tT, .len 1 2147483648 (by decide)]
  rcases bft (decide (base % 8 = 4)) with h30 | h30
  ·have c31 := @rmem4_ok src base disp s0 s1 b0 b1 p0 p1 h30
   exact (o55 (d := .tup [.lst (.fresh (1 : Nat)) (1 : Nat) [.int .u8 136, .int .u8 (128 + 8 * (src % 8) + base % 8), .int .u8 36, .int .u8 (disp % 256), .int .u8 (disp / 256 % 256), .int .u8 (disp / 65536 % 256), .int .u8 (disp / 16777216 % 256)], .int .i64 0]) (E10 ++ [.ret _ _ _ c31, .len 7 2147483648 (by decide)]) (by kernel_rfl)).to (by clear E1 E5 E9 E10; ((try simp only [and7]); subst_vars; (try simp only [beq_dec] at *); (try simp only [beq_iff_eq] at h); (try simp only [decide_eq_true_eq, decide_eq_false_iff_not] at *); simp_all [wk, wkL, wkO, bytesM, show shapeM 27 = 8 from rfl, bD, rexM, memM, fourM, w_u8, w_i64, w_i8]; done))
  have c32 := @rmemn_ok src base disp s0 s1 b0 b1 p0 p1 h30
  exact (o55 (d := .tup [.lst (.fresh (1 : Nat)) (1 : Nat) [.int .u8 136, .int .u8 (128 + 8 * (src % 8) + base % 8), .int .u8 (disp % 256), .int .u8 (disp / 256 % 256), .int .u8 (disp / 65536 % 256), .int .u8 (disp / 16777216 % 256)], .int .i64 0]) (E10 ++ [.ret _ _ _ c32, .len 6 2147483648 (by decide)]) (by kernel_rfl)).to (by clear E1 E5 E9 E10; ((try simp only [and7]); subst_vars; (try simp only [beq_dec] at *); (try simp only [beq_iff_eq] at h); (try simp only [decide_eq_true_eq, decide_eq_false_iff_not] at *); simp_all [wk, wkL, wkO, bytesM, show shapeM 27 = 8 from rfl, bD, rexM, memM, fourM, w_u8, w_i64, w_i8]; done))
 let E11 : EL := E9 ++ [tC (neOf h29), .len 1 2147483648 (by decide)]
 rcases bft (decide (base % 8 = 4)) with h33 | h33
 ·have c34 := @rmem4_ok src base disp s0 s1 b0 b1 p0 p1 h33
  exact (o55 (d := .tup [.lst (.fresh (1 : Nat)) (1 : Nat) [.int .u8 137, .int .u8 (128 + 8 * (src % 8) + base % 8), .int .u8 36, .int .u8 (disp % 256), .int .u8 (disp / 256 % 256), .int .u8 (disp / 65536 % 256), .int .u8 (disp / 16777216 % 256)], .int .i64 0]) (E11 ++ [.ret _ _ _ c34, .len 7 2147483648 (by decide)]) (by kernel_rfl)).to (by clear E1 E5 E9 E11; ((try simp only [and7]); subst_vars; (try simp only [beq_dec] at *); (try simp only [beq_iff_eq] at h); (try simp only [decide_eq_true_eq, decide_eq_false_iff_not] at *); simp_all [wk, wkL, wkO, bytesM, show shapeM 27 = 8 from rfl, bD, rexM, memM, fourM, w_u8, w_i64, w_i8]; done))
 have c35 := @rmemn_ok src base disp s0 s1 b0 b1 p0 p1 h33
 exact (o55 (d := .tup [.lst (.fresh (1 : Nat)) (1 : Nat) [.int .u8 137, .int .u8 (128 + 8 * (src % 8) + base % 8), .int .u8 (disp % 256), .int .u8 (disp / 256 % 256), .int .u8 (disp / 65536 % 256), .int .u8 (disp / 16777216 % 256)], .int .i64 0]) (E11 ++ [.ret _ _ _ c35, .len 6 2147483648 (by decide)]) (by kernel_rfl)).to (by clear E1 E5 E9 E11; ((try simp only [and7]); subst_vars; (try simp only [beq_dec] at *); (try simp only [beq_iff_eq] at h); (try simp only [decide_eq_true_eq, decide_eq_false_iff_not] at *); simp_all [wk, wkL, wkO, bytesM, show shapeM 27 = 8 from rfl, bD, rexM, memM, fourM, w_u8, w_i64, w_i8]; done))
def SpXR2f0 (k0_ : Int) : Prop := ∀ (w dst src base disp imm cc : Int) (d0 : 0 ≤ dst) (d1 : dst ≤ 15) (s0 : 0 ≤ src) (s1 : src ≤ 15) (b0 : 0 ≤ base) (b1 : base ≤ 15) (p0 : -2147483648 ≤ disp) (p1 : disp ≤ 2147483647) (i0 : -2147483648 ≤ imm) (i1 : imm ≤ 2147483647) (c0 : 0 ≤ cc) (c1 : cc ≤ 15) (hm : mayX k0_ w dst src base disp imm cc = true), Ret Try.prog 55 ([xD k0_ w dst src base disp imm cc]) (.tup [.lst .no 1 (bD (bytesM k0_ w dst src base disp imm cc)), .int .i64 0])
theorem rbytes_28_ok : SpXR2f0 28 := by
 intro w dst src base disp imm cc d0 d1 s0 s1 b0 b1 p0 p1 i0 i1 c0 c1 hm
 have c0 := @Proofs.Ytcngafhpodeenaa.rmayX_ok 28 w dst src base disp imm cc
 rw [show (mayX 28 w dst src base disp imm cc) = true from hm] at c0
 have c1 := @Proofs.Ytcngafhpodeenaa.class_ok 28
 have c2 := @Proofs.Ytcngafhpodeenaa.class_ok 28
 have c3 := @Proofs.Ytcngafhpodeenaa.class_ok 28
 have c4 := @Proofs.Ytcngafhpodeenaa.class_ok 28
 let E1 : EL := ([.ret _ _ _ c0, tF, .inl] ++ List.replicate 24 tF ++ [.ret _ _ _ c1, tF, tF, .ret _ _ _ c2, tF, .ret _ _ _ c3, tF, .ret _ _ _ c4, tF, tF, tF, tF, .inl, tT, tT, tT, tT])
 by_cases h5 : w = 8
 ·subst h5
  exact (o55 (d := D.tup [D.lst Own.tight 1 [D.int IntKind.u8 235, D.int IntKind.u8 (IntKind.wrap IntKind.u8 imm)], D.int IntKind.i64 0]) (E1 ++ [tT]) (by kernel_rfl)).to (by clear E1; ((try simp only [and7]); subst_vars; (try simp only [beq_dec] at *); (try simp only [beq_iff_eq] at h); (try simp only [decide_eq_true_eq, decide_eq_false_iff_not] at *); simp_all [wk, wkL, wkO, bytesM, show shapeM 28 = 9 from rfl, bD, rexM, memM, fourM, w_u8, w_i64, w_i8]; done))
 have c6 := @Proofs.Ytcngafhpodeenaa.rdir2_ok imm
 exact (o55 (d := D.tup [D.lst (Own.fresh (1 : Nat)) (1 : Nat) [D.int IntKind.u8 233, D.int IntKind.u8 (imm % 256), D.int IntKind.u8 (imm / 256 % 256), D.int IntKind.u8 (imm / 65536 % 256), D.int IntKind.u8 (imm / 16777216 % 256)], D.int IntKind.i64 0]) (E1 ++ [tC (neOf h5), tT, .ret _ _ _ c6, .len 5 2147483648 (by decide)]) (by kernel_rfl)).to (by clear E1; ((try simp only [and7]); subst_vars; (try simp only [beq_dec] at *); (try simp only [beq_iff_eq] at h); (try simp only [decide_eq_true_eq, decide_eq_false_iff_not] at *); simp_all [wk, wkL, wkO, bytesM, show shapeM 28 = 9 from rfl, bD, rexM, memM, fourM, w_u8, w_i64, w_i8]; done))
theorem rbytes_29_ok : SpXR2f0 29 := by
 intro w dst src base disp imm cc d0 d1 s0 s1 b0 b1 p0 p1 i0 i1 c0 c1 hm
 have c0 := @Proofs.Ytcngafhpodeenaa.rmayX_ok 29 w dst src base disp imm cc
 rw [show (mayX 29 w dst src base disp imm cc) = true from hm] at c0
 have c1 := @Proofs.Ytcngafhpodeenaa.class_ok 29
 have c2 := @Proofs.Ytcngafhpodeenaa.class_ok 29
 have c3 := @Proofs.Ytcngafhpodeenaa.class_ok 29
 have c4 := @Proofs.Ytcngafhpodeenaa.class_ok 29
 let E1 : EL := ([.ret _ _ _ c0, tF, .inl] ++ List.replicate 24 tF ++ [.ret _ _ _ c1, tF, tF, .ret _ _ _ c2, tF, .ret _ _ _ c3, tF, .ret _ _ _ c4, tF, tF, tF, tF, .inl, tF, tF, tF, tF, tF, tF, tT, tT, tT, tT])
 by_cases h5 : w = 8
 ·subst h5
  exact (o55 (d := D.tup [D.lst Own.tight 1 [D.int IntKind.u8 (IntKind.wrap IntKind.u8 (IntKind.i64.wrap (112 + IntKind.wrap IntKind.i64 cc))), D.int IntKind.u8 (IntKind.wrap IntKind.u8 imm)], D.int IntKind.i64 0]) (E1 ++ [tT]) (by kernel_rfl)).to (by clear E1; ((try simp only [and7]); subst_vars; (try simp only [beq_dec] at *); (try simp only [beq_iff_eq] at h); (try simp only [decide_eq_true_eq, decide_eq_false_iff_not] at *); simp_all [wk, wkL, wkO, bytesM, show shapeM 29 = 10 from rfl, bD, rexM, memM, fourM, w_u8, w_i64, w_i8]; omega))
 have c6 := @Proofs.Ytcngafhpodeenaa.rdir2_ok imm
 exact (o55 (d := D.tup [D.lst (Own.fresh (1 : Nat)) (1 : Nat) [D.int IntKind.u8 15, D.int IntKind.u8 (IntKind.wrap IntKind.u8 (IntKind.i64.wrap (128 + IntKind.wrap IntKind.i64 cc))), D.int IntKind.u8 (imm % 256), D.int IntKind.u8 (imm / 256 % 256), D.int IntKind.u8 (imm / 65536 % 256), D.int IntKind.u8 (imm / 16777216 % 256)], D.int IntKind.i64 0]) (E1 ++ [tC (neOf h5), tT, .ret _ _ _ c6, .len 6 2147483648 (by decide)]) (by kernel_rfl)).to (by clear E1; ((try simp only [and7]); subst_vars; (try simp only [beq_dec] at *); (try simp only [beq_iff_eq] at h); (try simp only [decide_eq_true_eq, decide_eq_false_iff_not] at *); simp_all [wk, wkL, wkO, bytesM, show shapeM 29 = 10 from rfl, bD, rexM, memM, fourM, w_u8, w_i64, w_i8]; omega))
theorem rbytes_30_ok : SpXR2f0 30 := by
 intro w dst src base disp imm cc d0 d1 s0 s1 b0 b1 p0 p1 i0 i1 c0 c1 hm
 have c0 := @Proofs.Ytcngafhpodeenaa.rmayX_ok 30 w dst src base disp imm cc
 rw [show (mayX 30 w dst src base disp imm cc) = true from hm] at c0
 have c1 := @Proofs.Ytcngafhpodeenaa.class_ok 30
 have c2 := @Proofs.Ytcngafhpodeenaa.class_ok 30
 have c3 := @Proofs.Ytcngafhpodeenaa.class_ok 30
 have c4 := @Proofs.Ytcngafhpodeenaa.class_ok 30
 exact (o55 (d := D.tup [D.lst Own.tight 1 [D.int IntKind.u8 195], D.int IntKind.i64 0]) ([.ret _ _ _ c0, tF, .inl] ++ List.replicate 24 tF ++ [.ret _ _ _ c1, tF, tF, .ret _ _ _ c2, tF, .ret _ _ _ c3, tF, .ret _ _ _ c4, tF, tF, tF, tF, .inl] ++ List.replicate 12 tF ++ [tT]) (by kernel_rfl)).to (by ((try simp only [and7]); subst_vars; (try simp only [beq_dec] at *); (try simp only [beq_iff_eq] at h); (try simp only [decide_eq_true_eq, decide_eq_false_iff_not] at *); simp_all [wk, wkL, wkO, bytesM, show shapeM 30 = 11 from rfl, bD, rexM, memM, fourM, w_u8, w_i64, w_i8]; done))
theorem rbytes_31_ok : SpXR2f0 31 := by
 intro w dst src base disp imm cc d0 d1 s0 s1 b0 b1 p0 p1 i0 i1 c0 c1 hm
 have c0 := @Proofs.Ytcngafhpodeenaa.rmayX_ok 31 w dst src base disp imm cc
 rw [show (mayX 31 w dst src base disp imm cc) = true from hm] at c0
 have c1 := @Proofs.Ytcngafhpodeenaa.class_ok 31
 have c2 := @Proofs.Ytcngafhpodeenaa.class_ok 31
 have c3 := @Proofs.Ytcngafhpodeenaa.class_ok 31
 have c4 := @Proofs.Ytcngafhpodeenaa.class_ok 31
 exact (o55 (d := D.tup [D.lst Own.tight 1 [D.int IntKind.u8 15, D.int IntKind.u8 5], D.int IntKind.i64 0]) ([.ret _ _ _ c0, tF, .inl] ++ List.replicate 24 tF ++ [.ret _ _ _ c1, tF, tF, .ret _ _ _ c2, tF, .ret _ _ _ c3, tF, .ret _ _ _ c4, tF, tF, tF, tF, .inl] ++ List.replicate 13 tF) (by kernel_rfl)).to (by ((try simp only [and7]); subst_vars; (try simp only [beq_dec] at *); (try simp only [beq_iff_eq] at h); (try simp only [decide_eq_true_eq, decide_eq_false_iff_not] at *); simp_all [wk, wkL, wkO, bytesM, show shapeM 31 = 11 from rfl, bD, rexM, memM, fourM, w_u8, w_i64, w_i8]; done))
theorem rbytes_no_ok (op w dst src base disp imm cc : Int) (ho : op ≤ 127) (hm : mayX op w dst src base disp imm cc = false) : Ret Try.prog 55 ([xD op w dst src base disp imm cc]) (.tup [.lst .no 1 [], .int .i64 2]) := by
 have c0 := @Proofs.Ytcngafhpodeenaa.rmayX_ok op w dst src base disp imm cc
 rw [show (mayX op w dst src base disp imm cc) = false from hm] at c0
 exact (o55 (d := D.tup [D.lst Own.tight 0 [], D.int IntKind.i64 2]) [.ret _ _ _ c0, tT] (by kernel_rfl)).to (by simp [wk, wkL, wkO])
theorem mov_w {w dst src base disp imm cc : Int} (h : mayX 1 w dst src base disp imm cc = true) : w = 32 ∨ w = 64 := by
 have hs := (mayX_parts h).2
 rw [show shapeM 1 = 3 from rfl] at hs
 exact long_cases (by simp [mayS] at hs; exact hs.1)
theorem rbytes_may_ok (op w dst src base disp imm cc : Int) (hm : mayX op w dst src base disp imm cc = true) :
  Ret Try.prog 55 [xD op w dst src base disp imm cc] (.tup [.lst .no 1 (bD (bytesM op w dst src base disp imm cc)), .int .i64 0]) := by
 obtain ⟨⟨d0, d1, s0, s1, b0, b1, p0, p1, i0, i1⟩, hs⟩ := mayX_parts hm
 obtain ⟨c0, c1⟩ := mayS_cc hs
 rcases shape_ops (mayX_sh hm) with rfl | rfl | rfl | rfl | rfl | rfl | rfl | rfl | rfl | rfl | rfl | rfl | rfl | rfl | rfl | rfl | rfl | rfl | rfl | rfl | rfl | rfl | rfl | rfl | rfl | rfl | rfl | rfl | rfl | rfl | rfl | rfl
 ·exact rbytes_0_ok _ _ _ _ _ _ _ d0 d1 s0 s1 b0 b1 p0 p1 i0 i1 c0 c1 hm
 ·exact rbytes_1_ok _ _ _ _ _ _ _ d0 d1 s0 s1 b0 b1 p0 p1 i0 i1 c0 c1 (mov_w hm) hm
 ·exact rbytes_2_ok _ _ _ _ _ _ _ d0 d1 s0 s1 b0 b1 p0 p1 i0 i1 c0 c1 hm
 ·exact rbytes_3_ok _ _ _ _ _ _ _ d0 d1 s0 s1 b0 b1 p0 p1 i0 i1 c0 c1 hm
 ·exact rbytes_4_ok _ _ _ _ _ _ _ d0 d1 s0 s1 b0 b1 p0 p1 i0 i1 c0 c1 hm
 ·exact rbytes_5_ok _ _ _ _ _ _ _ d0 d1 s0 s1 b0 b1 p0 p1 i0 i1 c0 c1 hm
 ·exact rbytes_6_ok _ _ _ _ _ _ _ d0 d1 s0 s1 b0 b1 p0 p1 i0 i1 c0 c1 hm
 ·exact rbytes_7_ok _ _ _ _ _ _ _ d0 d1 s0 s1 b0 b1 p0 p1 i0 i1 c0 c1 hm
 ·exact rbytes_8_ok _ _ _ _ _ _ _ d0 d1 s0 s1 b0 b1 p0 p1 i0 i1 c0 c1 hm
 ·exact rbytes_9_ok _ _ _ _ _ _ _ d0 d1 s0 s1 b0 b1 p0 p1 i0 i1 c0 c1 hm
 ·exact rbytes_10_ok _ _ _ _ _ _ _ d0 d1 s0 s1 b0 b1 p0 p1 i0 i1 c0 c1 hm
 ·exact rbytes_11_ok _ _ _ _ _ _ _ d0 d1 s0 s1 b0 b1 p0 p1 i0 i1 c0 c1 hm
 ·exact rbytes_12_ok _ _ _ _ _ _ _ d0 d1 s0 s1 b0 b1 p0 p1 i0 i1 c0 c1 hm
 ·exact rbytes_13_ok _ _ _ _ _ _ _ d0 d1 s0 s1 b0 b1 p0 p1 i0 i1 c0 c1 hm
 ·exact rbytes_14_ok _ _ _ _ _ _ _ d0 d1 s0 s1 b0 b1 p0 p1 i0 i1 c0 c1 hm
 ·exact rbytes_15_ok _ _ _ _ _ _ _ d0 d1 s0 s1 b0 b1 p0 p1 i0 i1 c0 c1 hm
 ·exact rbytes_16_ok _ _ _ _ _ _ _ d0 d1 s0 s1 b0 b1 p0 p1 i0 i1 c0 c1 hm
 ·exact rbytes_17_ok _ _ _ _ _ _ _ d0 d1 s0 s1 b0 b1 p0 p1 i0 i1 c0 c1 hm
 ·exact rbytes_18_ok _ _ _ _ _ _ _ d0 d1 s0 s1 b0 b1 p0 p1 i0 i1 c0 c1 hm
 ·exact rbytes_19_ok _ _ _ _ _ _ _ d0 d1 s0 s1 b0 b1 p0 p1 i0 i1 c0 c1 hm
 ·exact rbytes_20_ok _ _ _ _ _ _ _ d0 d1 s0 s1 b0 b1 p0 p1 i0 i1 c0 c1 hm
 ·exact rbytes_21_ok _ _ _ _ _ _ _ d0 d1 s0 s1 b0 b1 p0 p1 i0 i1 c0 c1 hm
 ·exact rbytes_22_ok _ _ _ _ _ _ _ d0 d1 s0 s1 b0 b1 p0 p1 i0 i1 c0 c1 hm
 ·exact rbytes_23_ok _ _ _ _ _ _ _ d0 d1 s0 s1 b0 b1 p0 p1 i0 i1 c0 c1 hm
 ·exact rbytes_24_ok _ _ _ _ _ _ _ d0 d1 s0 s1 b0 b1 p0 p1 i0 i1 c0 c1 hm
 ·exact rbytes_25_ok _ _ _ _ _ _ _ d0 d1 s0 s1 b0 b1 p0 p1 i0 i1 c0 c1 hm
 ·exact rbytes_26_ok _ _ _ _ _ _ _ d0 d1 s0 s1 b0 b1 p0 p1 i0 i1 c0 c1 hm
 ·exact rbytes_27_ok _ _ _ _ _ _ _ d0 d1 s0 s1 b0 b1 p0 p1 i0 i1 c0 c1 hm
 ·exact rbytes_28_ok _ _ _ _ _ _ _ d0 d1 s0 s1 b0 b1 p0 p1 i0 i1 c0 c1 hm
 ·exact rbytes_29_ok _ _ _ _ _ _ _ d0 d1 s0 s1 b0 b1 p0 p1 i0 i1 c0 c1 hm
 ·exact rbytes_30_ok _ _ _ _ _ _ _ d0 d1 s0 s1 b0 b1 p0 p1 i0 i1 c0 c1 hm
 ·exact rbytes_31_ok _ _ _ _ _ _ _ d0 d1 s0 s1 b0 b1 p0 p1 i0 i1 c0 c1 hm
theorem rbytes_any_ok (op w dst src base disp imm cc : Int) (ho : op ≤ 127) : Ret Try.prog 55 [xD op w dst src base disp imm cc] (.tup [.lst .no 1 (bytesL op w dst src base disp imm cc), .int .i64 (bytesE op w dst src base disp imm cc)]) := by
 unfold bytesL bytesE
 cases h : mayX op w dst src base disp imm cc
 ·simp only [Bool.false_eq_true, if_false]
  exact rbytes_no_ok op w dst src base disp imm cc ho h
 ·simp only [if_true]
  exact rbytes_may_ok op w dst src base disp imm cc h
theorem rlen_any (x : XS) (ho : x.op ≤ 127) : Ret Try.prog 187 [xsD x] (.int .i64 (lenX x.op x.w x.dst x.src x.base x.disp x.imm x.cc)) :=
 rdlen_ok x _ _ (rbytes_any_ok x.op x.w x.dst x.src x.base x.disp x.imm x.cc ho)
theorem rsize_any {p : PaS} (h : DOK p) (ht : p.j = true → 0 ≤ p.to) : Ret Try.prog 160 [.agg p.dc] (.int .i64 (lenP p)) := by
 cases hj : p.j with
 | false =>
  rw [dc_n hj]
  exact dz_n_ok p.x _ (rlen_any p.x h.op)
 | true =>
  rw [dc_j hj]
  have hi := h.im hj
  rcases h.w hj with hw | hw
  ·have := rlen_any ⟨p.x.op, 8, p.x.dst, p.x.src, p.x.base, p.x.disp, 0, p.x.cc⟩ h.op
   unfold lenP
   rw [hw, hi]
   exact dz_8_ok p.x p.to _ (ht hj) this
  ·have := rlen_any ⟨p.x.op, 32, p.x.dst, p.x.src, p.x.base, p.x.disp, 0, p.x.cc⟩ h.op
   unfold lenP
   rw [hw, hi]
   exact dz_32_ok p.x p.to _ (ht hj) this
theorem do_rounds (m : Nat) (hm : m ≤ 2000) (ps : List PaS) (hl : ps.length = m) (nb : Nat) (ho : AllPa nb ps) (hd : AllDO ps) : ∀ (j k : Nat), k + j = m →
  Rounds Try.prog (loopB Try.f130 0) 3 (doT (intsD (offM 0 (ps.take k))) m k) (dS2 (daC ps)) (.exit 0) (doU (intsD (offM 0 ps))) (dS2 (daC ps))
 | 0, k, hk => by
  have hkm : k = m := by omega
  subst hkm
  rw [List.take_of_length_le (by omega)]
  have := do_end (daC ps) (offM 0 ps) k k (daC_clean _) hm (by rw [intsD_len, offM_len]; omega) (Nat.le_refl _)
  rw [daC_demote] at this
  exact Rounds.last this (fun h => by cases h)
 | j + 1, k, hk => by
  have hlt : k < ps.length := by omega
  have ih := do_rounds m hm ps hl nb ho hd j (k + 1) (by omega)
  have hp := ho _ (List.getElem_mem hlt)
  have hlo : (offM 0 (ps.take k)).length = k + 1 := by rw [offM_len, List.length_take]; omega
  have hsp : ps = ps.take k ++ ps[k] :: ps.drop (k + 1) := by rw [← List.drop_eq_getElem_cons hlt, List.take_append_drop]
  have hA := daC_gets (ps.take k) (ps.drop (k + 1)) ps[k] 10 (by decide)
  rw [← hsp, List.length_take, Nat.min_eq_left (by omega)] at hA
  have hv : (intsD (offM 0 (ps.take k)))[k]? = some (.int .i64 (totM (ps.take k))) := by
   refine intsD_get ?_
   rw [offM_get _ _ _ (by rw [List.length_take]; omega), List.take_take, Nat.min_self, Int.zero_add]
  have hsz := rsize_any (hd _ (List.getElem_mem hlt)) hp.to0
  have t1 := totM_le (ps.take k)
  have t2 := lenP_le ps[k]
  have hw : IntKind.i64.wrap (totM (ps.take k) + lenP ps[k]) = totM (ps.take k) + lenP ps[k] := by
   rw [List.length_take] at t1
   rw [w_i64]
   omega
  have hR : RoundRun Try.prog (loopB Try.f130 0) ⟨[0, 4], [2, 1000001], [(3, 1)]⟩ 3 (doT (intsD (offM 0 (ps.take k))) m k) (dS2 (daC ps)) .norm (doT (intsD (offM 0 (ps.take (k + 1)))) m (k + 1)) (dS2 (daC ps)) := by
   have e : intsD (offM 0 (ps.take (k + 1))) = intsD (offM 0 (ps.take k)) ++ [.int .i64 (IntKind.i64.wrap (totM (ps.take k) + lenP ps[k]))] := by
    rw [List.take_succ_eq_append_getElem hlt, offM_snoc, Int.zero_add, ← intsD_snoc', hw]
   rw [e]
   cases hj : ps[k].j with
   | false =>
    rw [dc_n hj] at hA hsz
    have := do_in (daC ps) (offM 0 (ps.take k)) m k (daC_clean _) hm (by rw [intsD_len, hlo]; omega) (by omega) _ _ hv _ _ _ _ _ _ _ _ _ _ hA hsz
    rw [daC_demote, nxt (by omega)] at this
    exact this
   | true =>
    rw [dc_j hj] at hA hsz
    have := do_in (daC ps) (offM 0 (ps.take k)) m k (daC_clean _) hm (by rw [intsD_len, hlo]; omega) (by omega) _ _ hv _ _ _ _ _ _ _ _ _ _ hA hsz
    rw [daC_demote, nxt (by omega)] at this
    exact this
  exact Rounds.more hR ih
theorem offs_any (m : Nat) (hm : m ≤ 2000) (ps : List PaS) (hl : ps.length = m) (nb : Nat) (ho : AllPa nb ps) (hd : AllDO ps) :
  CallRun Try.prog 130 [.slc 1 10 m] (dS (daC ps)) (.lst (.tok 3 0) 1 (intsD (offM 0 ps))) (dS2 (daC ps)) := by
 have h := LoopRun.of_rounds (show 3 ≤ 4 by decide) (do_rounds m hm ps hl nb ho hd m 0 (by omega))
 refine offs_ok (daC ps) (intsD (offM 0 ps)) m hm (daC_clean _) ?_
 rw [daC_demote]
 exact h
theorem dj_rounds (m : Nat) (hm : m ≤ 2000) (ps : List PaS) (hl : ps.length = m) (nb : Nat) (ho : AllPa nb ps) (hd : AllDO ps) (q : List Int) (hq : BegOK q nb m) : ∀ (j k : Nat) (more : Bool), k + j = m → more = moreL (offM 0 ps) q 0 (ps.take k) →
  Rounds Try.prog (loopB Try.f68 1) 4 (djT (intsD q) (intsD (offM 0 ps)) more m k) (dS2 (daC (jumpL (offM 0 ps) q 0 (ps.take k) ++ ps.drop k))) (.exit 2) (djU (intsD q) (intsD (offM 0 ps)) (moreL (offM 0 ps) q 0 ps) m) (dS2 (daC (jumpL (offM 0 ps) q 0 ps)))
 | 0, k, more, hk, hmo => by
  have hkm : k = m := by omega
  subst hkm
  have e1 : ps.take k = ps := List.take_of_length_le (by omega)
  rw [e1] at hmo
  rw [e1, List.drop_eq_nil_of_le (by omega), List.append_nil, ← hmo]
  have := dj_end (intsD q) (daC (jumpL (offM 0 ps) q 0 ps)) (intsD (offM 0 ps)) more k k (daC_clean _) hm (by rw [intsD_len, offM_len]; omega) (by rw [daC_len, jumpL_len]; omega) (Nat.le_refl _)
  rw [daC_demote] at this
  exact Rounds.last this (fun h => by cases h)
 | j + 1, k, more, hk, hmo => by
  have hlt : k < ps.length := by omega
  have hp := ho _ (List.getElem_mem hlt)
  have hdo := hd _ (List.getElem_mem hlt)
  have hJl : (jumpL (offM 0 ps) q 0 (ps.take k)).length = k := by rw [jumpL_len, List.length_take]; omega
  have hdr : ps.drop k = ps[k] :: ps.drop (k + 1) := List.drop_eq_getElem_cons hlt
  have hlen : (jumpL (offM 0 ps) q 0 (ps.take k) ++ ps[k] :: ps.drop (k + 1)).length = m := by simp only [List.length_append, hJl, List.length_cons, List.length_drop]; omega
  have hmt : moreL (offM 0 ps) q 0 (ps.take (k + 1)) = (more || turnM (offM 0 ps) q k ps[k]) := by
   rw [List.take_succ_eq_append_getElem hlt, moreL_snoc, ← hmo, List.length_take, Nat.min_eq_left (by omega), Nat.zero_add]
  have hJt : jumpL (offM 0 ps) q 0 (ps.take (k + 1)) = jumpL (offM 0 ps) q 0 (ps.take k) ++ [stepJ (offM 0 ps) q k ps[k]] := by
   rw [List.take_succ_eq_append_getElem hlt, jumpL_snoc, List.length_take, Nat.min_eq_left (by omega), Nat.zero_add]
  have ih := dj_rounds m hm ps hl nb ho hd q hq j (k + 1) (more || turnM (offM 0 ps) q k ps[k]) (by omega) hmt.symm
  rw [hJt, List.append_assoc, List.singleton_append] at ih
  rw [hdr]
  obtain ⟨J, hJ⟩ : ∃ J, J = jumpL (offM 0 ps) q 0 (ps.take k) := ⟨_, rfl⟩
  rw [← hJ] at ih hJl hlen ⊢
  have c1 := daC_clean (J ++ ps[k] :: ps.drop (k + 1))
  have c3 : (intsD (offM 0 ps)).length = m + 1 := by rw [intsD_len, offM_len, hl]
  have c4 : (daC (J ++ ps[k] :: ps.drop (k + 1))).length = m * 10 := by rw [daC_len, hlen]
  have g8 := daC_get J (ps.drop (k + 1)) ps[k] 8 (by decide)
  have g9 := daC_get J (ps.drop (k + 1)) ps[k] 9 (by decide)
  rw [hJl] at g8 g9
  cases hj : ps[k].j with
  | false =>
   have ht : turnM (offM 0 ps) q k ps[k] = false := by unfold turnM; rw [hj]; rfl
   have hs : stepJ (offM 0 ps) q k ps[k] = ps[k] := by unfold stepJ; rw [hj]; rfl
   rw [dc_n hj] at g8
   have := dj_no (intsD q) _ (intsD (offM 0 ps)) more m k c1 hm c3 c4 (by omega) g8
   rw [daC_demote, nxt (by omega)] at this
   rw [hs, ht, Bool.or_false] at ih
   exact Rounds.more this ih
  | true =>
   rw [dc_j hj] at g8 g9
   obtain ⟨hql, hqm⟩ := hq
   have to0 := hp.to0 hj
   have to1 := hp.to1 hj
   obtain ⟨to, hto⟩ : ∃ to : Nat, ps[k].to = (to : Int) := ⟨ps[k].to.toNat, by omega⟩
   have htl : to < q.length := by omega
   have hqe : q[to]? = some q[to] := List.getElem?_eq_getElem htl
   obtain ⟨b0, b1⟩ := hqm q[to] (List.getElem_mem htl)
   obtain ⟨bg, hbg⟩ : ∃ bg : Nat, q[to] = (bg : Int) := ⟨q[to].toNat, by omega⟩
   have hbm : bg ≤ m := by omega
   have hu : (offM 0 ps)[bg]? = some (totM (ps.take bg)) := by rw [offM_get _ _ _ (by omega), Int.zero_add]
   have hv : (offM 0 ps)[k + 1]? = some (totM (ps.take (k + 1))) := by rw [offM_get _ _ _ (by omega), Int.zero_add]
   have u1 := totM_le (ps.take bg)
   have v1 := totM_le (ps.take (k + 1))
   rw [List.length_take] at u1 v1
   have hway : wayM (offM 0 ps) q k ps[k].to = totM (ps.take bg) - totM (ps.take (k + 1)) := by
    unfold wayM atI
    rw [hto, Int.toNat_natCast, List.getD_eq_getElem?_getD, List.getD_eq_getElem?_getD, List.getD_eq_getElem?_getD, hqe, Option.getD_some, hbg, Int.toNat_natCast, hu, hv]
    rfl
   have hqq : (intsD q)[to]? = some (.int .i64 (bg : Int)) := intsD_get (by rw [hqe, hbg])
   have huu : (intsD (offM 0 ps))[bg]? = some (.int .i64 (totM (ps.take bg))) := intsD_get hu
   have hvv : (intsD (offM 0 ps))[Int.toNat (IntKind.i64.wrap ((k : Int) + 1))]? = some (.int .i64 (totM (ps.take (k + 1)))) := by rw [nxt (by omega), Int.toNat_natCast]; exact intsD_get hv
   have g8' : (daC (J ++ ps[k] :: ps.drop (k + 1)))[k * 10 + 8]? = some (.int .i64 (to : Int)) := by rw [g8, ← hto]; rfl
   by_cases h8 : ps[k].x.w = 8
   ·have g9' : (daC (J ++ ps[k] :: ps.drop (k + 1)))[k * 10 + 9]? = some (.bool false) := by rw [g9]; simp [h8]
    have hnr := daC_near hj J (ps.drop (k + 1))
    rw [hJl] at hnr
    by_cases hlo : totM (ps.take bg) - totM (ps.take (k + 1)) < -128
    ·have ht : turnM (offM 0 ps) q k ps[k] = true := by unfold turnM farB; rw [hj, hway]; simp [h8, hlo]
     have hs : stepJ (offM 0 ps) q k ps[k] = (ps[k].imm 0).w 32 := by unfold stepJ; rw [hj, ht]; rfl
     have := dj_lo (intsD q) _ (intsD (offM 0 ps)) more m k c1 hm c3 c4 (by omega) to g8' g9' bg _ _ hqq hbm huu hvv (by omega) (by omega) (by omega) (by omega) hlo
     rw [Int.toNat_natCast, hnr, daC_demote, nxt (by omega)] at this
     rw [hs, ht, Bool.or_true] at ih
     exact Rounds.more this ih
    ·by_cases hhi : 127 < totM (ps.take bg) - totM (ps.take (k + 1))
     ·have ht : turnM (offM 0 ps) q k ps[k] = true := by unfold turnM farB; rw [hj, hway]; simp [h8, hhi]
      have hs : stepJ (offM 0 ps) q k ps[k] = (ps[k].imm 0).w 32 := by unfold stepJ; rw [hj, ht]; rfl
      have := dj_hi (intsD q) _ (intsD (offM 0 ps)) more m k c1 hm c3 c4 (by omega) to g8' g9' bg _ _ hqq hbm huu hvv (by omega) (by omega) (by omega) (by omega) hhi
      rw [Int.toNat_natCast, hnr, daC_demote, nxt (by omega)] at this
      rw [hs, ht, Bool.or_true] at ih
      exact Rounds.more this ih
     ·have ht : turnM (offM 0 ps) q k ps[k] = false := by unfold turnM farB; rw [hj, hway]; simp [h8, hlo, hhi]
      have hs : stepJ (offM 0 ps) q k ps[k] = ps[k].imm 0 := by unfold stepJ; rw [hj, ht]; rfl
      have := dj_in (intsD q) _ (intsD (offM 0 ps)) more m k c1 hm c3 c4 (by omega) to g8' g9' bg _ _ hqq hbm huu hvv (by omega) (by omega) (by omega) (by omega) (by omega) (by omega)
      rw [daC_demote, nxt (by omega)] at this
      rw [hs, ht, Bool.or_false, daC_imm hj] at ih
      exact Rounds.more this ih
   ·have ht : turnM (offM 0 ps) q k ps[k] = false := by unfold turnM; rw [hj]; simp [h8]
    have hs : stepJ (offM 0 ps) q k ps[k] = ps[k].imm 0 := by unfold stepJ; rw [hj, ht]; rfl
    have g9' : (daC (J ++ ps[k] :: ps.drop (k + 1)))[k * 10 + 9]? = some (.bool true) := by rw [g9]; simp [h8]
    have := dj_nr (intsD q) _ (intsD (offM 0 ps)) more m k c1 hm c3 c4 (by omega) to g8' g9'
    rw [daC_demote, nxt (by omega)] at this
    rw [hs, ht, Bool.or_false, daC_imm hj] at ih
    exact Rounds.more this ih
theorem dj_loop (m : Nat) (hm : m ≤ 2000) (ps : List PaS) (hl : ps.length = m) (nb : Nat) (ho : AllPa nb ps) (hd : AllDO ps) (q : List Int) (hq : BegOK q nb m) :
  LoopRun Try.prog 4 (.loop (loopB Try.f68 1)) (djT (intsD q) (intsD (offM 0 ps)) false m 0) (dS2 (daC ps)) (.exit 2) (djU (intsD q) (intsD (offM 0 ps)) (moreL (offM 0 ps) q 0 ps) m) (dS2 (daC (jumpL (offM 0 ps) q 0 ps))) :=
 LoopRun.of_rounds (Nat.le_refl 4) (dj_rounds m hm ps hl nb ho hd q hq m 0 false (by omega) rfl)
theorem dy_more (qs ps ps2 av : List D) (m : Nat) (hm : m ≤ 2000) (hps : ∀ c ∈ ps, c.clean = true) (hps2 : ∀ c ∈ ps2, c.clean = true) (dps : ps.map D.demote = ps) (ho : CallRun Try.prog 130 [.slc 1 10 m] [.dead, .box ps, .fam 0 1] (.lst (.tok 3 0) 1 av) [.dead, .box ps, .fam 0 1, .fam 0 1]) (hj : LoopRun Try.prog 4 (.loop (loopB Try.f68 1)) (djT qs av false m 0) (dS2 (List.map D.demote ps)) (.exit 2) (djU qs av true m) (dS2 ps2))  : RoundRun Try.prog (loopB Try.f68 0) ⟨[0, 1], [2, 1000001], []⟩ 3 ((.slc 1 10 m) :: (.lst (.tok 2 0) 1 qs) :: (un 58)) [.dead, .box ps, .fam 0 1] .norm ((.slc 1 10 m) :: (.lst (.tok 2 0) 1 qs) :: (un 58)) ([.dead, .box (List.map D.demote ps2), .fam 0 1]) := by
 have c0 := @run_id (nat_lit 4) _ (((.slc 1 10 m) :: (.lst (.tok 2 0) 1 qs) :: (D.undef) :: (D.undef) :: (D.undef) :: (.lst (.tok 3 0) 1 av) :: (.bool false) :: (.int .i64 0) :: (un 52))) ([.dead, .box (List.map D.demote ps), .fam 0 1, .fam 0 1]) _ _ _ hj
 exact RoundRun.of_eval mixed [.callR _ _ _ _ _ (@callid_ok _ ([.slc 1 10 m]) ([.dead, .box ps, .fam 0 1]) _ _ ho), .head ⟨[0, 1, 5, 6, 7], [2, 3, 1000001], []⟩ _ _ _ _ _ _ _ c0, .cl (ps) (by first | exact clAll rfl | exact hps | exact hps2), tF, .cl (ps2) (by first | exact clAll rfl | exact hps | exact hps2)] (by kernel_rfl)
theorem dy_end (qs ps ps2 av : List D) (m : Nat) (hm : m ≤ 2000) (hps : ∀ c ∈ ps, c.clean = true) (hps2 : ∀ c ∈ ps2, c.clean = true) (dps : ps.map D.demote = ps) (ho : CallRun Try.prog 130 [.slc 1 10 m] [.dead, .box ps, .fam 0 1] (.lst (.tok 3 0) 1 av) [.dead, .box ps, .fam 0 1, .fam 0 1]) (hj : LoopRun Try.prog 4 (.loop (loopB Try.f68 1)) (djT qs av false m 0) (dS2 (List.map D.demote ps)) (.exit 2) (djU qs av false m) (dS2 ps2))  : RoundRun Try.prog (loopB Try.f68 0) ⟨[], [2, 1000001], [(4, 1)]⟩ 3 ((.slc 1 10 m) :: (.lst (.tok 2 0) 1 qs) :: (un 58)) [.dead, .box ps, .fam 0 1] (Ex.ret) (un 4 ++ (.lst (.tok 3 0) 1 av) :: (un 55)) ([.dead, .box (List.map D.demote ps2), .fam 0 1, .fam 0 1]) := by
 have c0 := @run_id (nat_lit 4) _ (((.slc 1 10 m) :: (.lst (.tok 2 0) 1 qs) :: (D.undef) :: (D.undef) :: (D.undef) :: (.lst (.tok 3 0) 1 av) :: (.bool false) :: (.int .i64 0) :: (un 52))) ([.dead, .box (List.map D.demote ps), .fam 0 1, .fam 0 1]) _ _ _ hj
 exact RoundRun.of_eval mixed [.callR _ _ _ _ _ (@callid_ok _ ([.slc 1 10 m]) ([.dead, .box ps, .fam 0 1]) _ _ ho), .head ⟨[0, 1, 5, 6, 7], [2, 3, 1000001], []⟩ _ _ _ _ _ _ _ c0, .cl (ps) (by first | exact clAll rfl | exact hps | exact hps2), tT, .cl (ps2) (by first | exact clAll rfl | exact hps | exact hps2)] (by kernel_rfl)
theorem rlx_ok (qs ps ps2 av : List D) (m : Nat) (hm : m ≤ 2000) (hps : ∀ c ∈ ps, c.clean = true) (h0 : LoopRun Try.prog 3 (.loop (loopB Try.f68 0)) (dyT qs m) (dS (List.map D.demote ps)) .ret (dyU av) (dS2 ps2))  : CallRun Try.prog 68 ([.slc 1 10 m, .lst (.tok 2 0) 1 qs]) ([.dead, .box ps, .fam 0 1]) (.lst (.tok 3 0) 1 av) ([.dead, .box ps2, .fam 0 1, .fam 0 1]) := by
 have c0 := @run_id (nat_lit 3) _ (((.slc 1 10 m) :: (.lst (.tok 2 0) 1 qs) :: (un 58))) ([.dead, .box (List.map D.demote ps), .fam 0 1]) _ _ _ h0
 exact CallRun.of_eval (keep := [1, 2, 3]) mixed [.head ⟨[0, 1], [2, 1000001], []⟩ _ _ _ _ _ _ _ c0, .cl (ps) (by first | exact clAll rfl | exact hps)] (by kernel_rfl)
theorem rlx_nil_ok (q : List Int) : Ret Try.prog 68 ([.lst .tight 0 [], .lst .no 1 (intsD q)]) (.lst .no 1 [.int .i64 0]) := by
 exact (Ret.of_eval (d := .lst .tight 1 [.int .i64 0]) mixed Try.func68 (by kernel_rfl) [.go 64, .inl, .go 64, tF, .go 64, tF, tT] (by kernel_rfl)).to (by first | rfl | (simp [wk, wkL, wkO]; done) | exact ⟨rfl, .inl rfl, rfl, .inl rfl⟩)
theorem dy_rounds (m : Nat) (hm : m ≤ 2000) (nb : Nat) (q : List Int) (hq : BegOK q nb m) : ∀ (n : Nat) (ps : List PaS), shortN ps < n → ps.length = m → AllPa nb ps → AllDO ps →
  Rounds Try.prog (loopB Try.f68 0) 3 (dyT (intsD q) m) (dS (daC ps)) .ret (dyU (intsD (relaxM q n ps).2)) (dS2 (daC (relaxM q n ps).1))
 | 0, ps, hn, hl, ho, hd => by omega
 | n + 1, ps, hn, hl, ho, hd => by
  have hk := offs_any m hm ps hl nb ho hd
  have hj := dj_loop m hm ps hl nb ho hd q hq
  cases hmo : moreL (offM 0 ps) q 0 ps with
  | false =>
   rw [hmo] at hj
   have := dy_end (intsD q) (daC ps) (daC (jumpL (offM 0 ps) q 0 ps)) (intsD (offM 0 ps)) m hm (daC_clean _) (daC_clean _) (daC_demote _) hk (by rw [daC_demote]; exact hj)
   rw [daC_demote] at this
   have e : relaxM q (n + 1) ps = (jumpL (offM 0 ps) q 0 ps, offM 0 ps) := by simp only [relaxM, hmo]; rfl
   rw [e]
   exact Rounds.last this (fun h => by cases h)
  | true =>
   rw [hmo] at hj
   have := dy_more (intsD q) (daC ps) (daC (jumpL (offM 0 ps) q 0 ps)) (intsD (offM 0 ps)) m hm (daC_clean _) (daC_clean _) (daC_demote _) hk (by rw [daC_demote]; exact hj)
   rw [daC_demote] at this
   have hs := short_less (offM 0 ps) q ps 0
   rw [hmo] at hs
   simp only [if_true] at hs
   have e : relaxM q (n + 1) ps = relaxM q n (jumpL (offM 0 ps) q 0 ps) := by simp only [relaxM, hmo]; rfl
   rw [e]
   exact Rounds.more this (dy_rounds m hm nb q hq n (jumpL (offM 0 ps) q 0 ps) (by omega) (by rw [jumpL_len]; exact hl) (AllPa.jumpL _ _ _ ho) (AllDO.jumpL _ _ _ hd))
theorem rlx_any (ps : List PaS) (hm : ps.length ≤ 2000) (nb : Nat) (ho : AllPa nb ps) (hd : AllDO ps) (q : List Int) (hq : BegOK q nb ps.length) :
  CallRun Try.prog 68 [.slc 1 10 ps.length, .lst (.tok 2 0) 1 (intsD q)] (dS (daC ps)) (.lst (.tok 3 0) 1 (intsD (offF q ps))) (dS2 (daC (finM q ps))) := by
 have h := LoopRun.of_rounds (show 3 ≤ 3 by decide) (dy_rounds ps.length hm nb q hq (shortN ps + 1) ps (by omega) rfl ho hd)
 have e : daC (finM q ps) = daC (relaxM q (shortN ps + 1) ps).1 := by unfold finM; exact daC_wayL _ _ _ _
 rw [e]
 refine rlx_ok (intsD q) (daC ps) _ _ ps.length hm (daC_clean _) ?_
 rw [daC_demote]
 exact h
theorem dc_end (c : List Int) (qs ps av : List D) (m k : Nat) (hps : ∀ c ∈ ps, c.clean = true) (hm : m ≤ 2000) (hc : ((bD c).length : Int) ≤ 100000) (h : m ≤ k)  : RoundRun Try.prog (loopB Try.f27 0) ⟨[8, 10], [2, 3], [(11, 1)]⟩ 4 (un 7 ++ (.slc 1 10 m) :: (.lst (.tok 2 0) 1 qs) :: (uu) :: (.lst (.tok 3 0) 1 av) :: (.lst (.tok 4 0) 1 (bD c)) :: (.int .i64 (↑k : Int)) :: (un 92)) [.dead, .box ps, .fam 0 1, .fam 0 1, .fam 0 1] (.exit 0) (un 8 ++ (.lst (.tok 2 0) 1 qs) :: (uu) :: (.lst (.tok 3 0) 1 av) :: (.lst (.tok 4 0) 1 (bD c)) :: (un 93)) ([.dead, .dead, .fam 0 1, .fam 0 1, .fam 0 1]) := by
 exact RoundRun.of_eval mixed [tC (by ((try simp only [sL] at *); (try unfold big at *); omega) : (decide ((↑k : Int) < (↑m : Int))) = false)] (by kernel_rfl)
theorem dc_n (c : List Int) (qs ps av : List D) (m k : Nat) (hps : ∀ c ∈ ps, c.clean = true) (hm : m ≤ 2000) (hc : ((bD c).length : Int) ≤ 100000) (hk : k < m) (x : XS) (bs : List Int) (e : Int) (hA : GetsA ps (k * 10) 8 [.int .i8 x.op, .int .i8 x.w, .int .i8 x.dst, .int .i8 x.src, .int .i8 x.base, .int .i64 x.disp, .int .i64 x.imm, .int .i8 x.cc]) (ht : ps[k * 10 + 8]? = some (.int .i64 (-1))) (hbs : ((bD bs).length : Int) ≤ 100) (hb : Ret Try.prog 55 [xD x.op x.w x.dst x.src x.base x.disp x.imm x.cc] (.tup [.lst .no 1 (bD bs), .int .i64 e]))  : RoundRun Try.prog (loopB Try.f27 0) ⟨[7, 8, 10, 12], [2, 3, 1000001], [(11, 1)]⟩ 4 (un 7 ++ (.slc 1 10 m) :: (.lst (.tok 2 0) 1 qs) :: (uu) :: (.lst (.tok 3 0) 1 av) :: (.lst (.tok 4 0) 1 (bD c)) :: (.int .i64 (↑k : Int)) :: (un 92)) [.dead, .box ps, .fam 0 1, .fam 0 1, .fam 0 1] .norm (un 7 ++ (.slc 1 10 m) :: (.lst (.tok 2 0) 1 qs) :: (uu) :: (.lst (.tok 3 0) 1 av) :: (.lst (.tok 4 0) 1 (bD c ++ bD bs)) :: (.int .i64 (IntKind.i64.wrap ((↑k : Int) + 1))) :: (un 92)) ([.dead, .box (List.map D.demote ps), .fam 0 1, .fam 0 1, .fam 0 1]) := by
 exact RoundRun.of_eval mixed [tC (by ((try simp only [sL] at *); (try unfold big at *); omega) : (decide ((↑k : Int) < (↑m : Int))) = true), .tst (decide (0 ≤ (↑k : Int) ∧ (↑k : Int) < (↑m : Int))) true (by ((try simp only [sL] at *); (try unfold big at *); omega)), .getA _ _ _ _ (@gets_id ps (Int.toNat (↑k : Int) * (10 : Nat) + (0 : Nat)) ((8 : Nat)) _ hA), .tst (decide (0 ≤ (↑k : Int) ∧ (↑k : Int) < (↑m : Int))) true (by ((try simp only [sL] at *); (try unfold big at *); omega)), .get _ _ _ ht, tF, .ret _ _ _ hb, .len (List.length (bD c) + List.length (bD bs)) ((2147483648 : Nat)) (by first | decide | omega | (simp; omega)), .cl ps (by first | exact clAll rfl | exact hps)] (by kernel_rfl)
theorem dc_8 (c : List Int) (qs ps av : List D) (m k : Nat) (hps : ∀ c ∈ ps, c.clean = true) (hm : m ≤ 2000) (hc : ((bD c).length : Int) ≤ 100000) (hk : k < m) (x : XS) (bs : List Int) (e : Int) (to bg : Nat) (u v : Int) (hA : GetsA ps (k * 10) 8 [.int .i8 x.op, .int .i8 0, .int .i8 x.dst, .int .i8 x.src, .int .i8 x.base, .int .i64 x.disp, .int .i64 0, .int .i8 x.cc]) (ht : ps[k * 10 + 8]? = some (.int .i64 (to : Int))) (hq : qs[to]? = some (.int .i64 (bg : Int))) (hu : av[bg]? = some (.int .i64 u)) (hv : av[Int.toNat (IntKind.i64.wrap ((k : Int) + 1))]? = some (.int .i64 v)) (hal : av.length = m + 1) (u0 : 0 ≤ u) (u1 : u ≤ 100000) (v0 : 0 ≤ v) (v1 : v ≤ 100000) (hn : ps[k * 10 + 9]? = some (.bool false)) (hbs : ((bD bs).length : Int) ≤ 100) (hb : Ret Try.prog 55 [xD x.op 8 x.dst x.src x.base x.disp (IntKind.i64.wrap (u - v)) x.cc] (.tup [.lst .no 1 (bD bs), .int .i64 e]))  : RoundRun Try.prog (loopB Try.f27 0) ⟨[7, 8, 10, 12], [2, 3, 1000001], [(11, 1)]⟩ 4 (un 7 ++ (.slc 1 10 m) :: (.lst (.tok 2 0) 1 qs) :: (uu) :: (.lst (.tok 3 0) 1 av) :: (.lst (.tok 4 0) 1 (bD c)) :: (.int .i64 (↑k : Int)) :: (un 92)) [.dead, .box ps, .fam 0 1, .fam 0 1, .fam 0 1] .norm (un 7 ++ (.slc 1 10 m) :: (.lst (.tok 2 0) 1 qs) :: (uu) :: (.lst (.tok 3 0) 1 av) :: (.lst (.tok 4 0) 1 (bD c ++ bD bs)) :: (.int .i64 (IntKind.i64.wrap ((↑k : Int) + 1))) :: (un 92)) ([.dead, .box (List.map D.demote ps), .fam 0 1, .fam 0 1, .fam 0 1]) := by
 exact RoundRun.of_eval mixed [tC (by ((try simp only [sL] at *); (try unfold big at *); omega) : (decide ((↑k : Int) < (↑m : Int))) = true), .tst (decide (0 ≤ (↑k : Int) ∧ (↑k : Int) < (↑m : Int))) true (by ((try simp only [sL] at *); (try unfold big at *); omega)), .getA _ _ _ _ (@gets_id ps (Int.toNat (↑k : Int) * (10 : Nat) + (0 : Nat)) ((8 : Nat)) _ hA), .tst (decide (0 ≤ (↑k : Int) ∧ (↑k : Int) < (↑m : Int))) true (by ((try simp only [sL] at *); (try unfold big at *); omega)), .get _ _ _ ht, tT, .tst (decide (0 ≤ (↑k : Int) ∧ (↑k : Int) < (↑m : Int))) true (by ((try simp only [sL] at *); (try unfold big at *); omega)), .get _ _ _ hn, tF, .tst (decide (0 ≤ (↑k : Int) ∧ (↑k : Int) < (↑m : Int))) true (by ((try simp only [sL] at *); (try unfold big at *); omega)), .get _ _ _ ht, tT, .get _ _ _ hq, tT, .get _ _ _ hu, .tst (decide (0 ≤ IntKind.i64.wrap ((↑k : Int) + 1))) true (by ((try simp only [sL] at *); (try unfold big at *); omega)), .get _ _ _ hv, .ret _ _ _ hb, .len (List.length (bD c) + List.length (bD bs)) ((2147483648 : Nat)) (by first | decide | omega | (simp; omega)), .cl ps (by first | exact clAll rfl | exact hps)] (by kernel_rfl)
theorem dc_32 (c : List Int) (qs ps av : List D) (m k : Nat) (hps : ∀ c ∈ ps, c.clean = true) (hm : m ≤ 2000) (hc : ((bD c).length : Int) ≤ 100000) (hk : k < m) (x : XS) (bs : List Int) (e : Int) (to bg : Nat) (u v : Int) (hA : GetsA ps (k * 10) 8 [.int .i8 x.op, .int .i8 0, .int .i8 x.dst, .int .i8 x.src, .int .i8 x.base, .int .i64 x.disp, .int .i64 0, .int .i8 x.cc]) (ht : ps[k * 10 + 8]? = some (.int .i64 (to : Int))) (hq : qs[to]? = some (.int .i64 (bg : Int))) (hu : av[bg]? = some (.int .i64 u)) (hv : av[Int.toNat (IntKind.i64.wrap ((k : Int) + 1))]? = some (.int .i64 v)) (hal : av.length = m + 1) (u0 : 0 ≤ u) (u1 : u ≤ 100000) (v0 : 0 ≤ v) (v1 : v ≤ 100000) (hn : ps[k * 10 + 9]? = some (.bool true)) (hbs : ((bD bs).length : Int) ≤ 100) (hb : Ret Try.prog 55 [xD x.op 32 x.dst x.src x.base x.disp (IntKind.i64.wrap (u - v)) x.cc] (.tup [.lst .no 1 (bD bs), .int .i64 e]))  : RoundRun Try.prog (loopB Try.f27 0) ⟨[7, 8, 10, 12], [2, 3, 1000001], [(11, 1)]⟩ 4 (un 7 ++ (.slc 1 10 m) :: (.lst (.tok 2 0) 1 qs) :: (uu) :: (.lst (.tok 3 0) 1 av) :: (.lst (.tok 4 0) 1 (bD c)) :: (.int .i64 (↑k : Int)) :: (un 92)) [.dead, .box ps, .fam 0 1, .fam 0 1, .fam 0 1] .norm (un 7 ++ (.slc 1 10 m) :: (.lst (.tok 2 0) 1 qs) :: (uu) :: (.lst (.tok 3 0) 1 av) :: (.lst (.tok 4 0) 1 (bD c ++ bD bs)) :: (.int .i64 (IntKind.i64.wrap ((↑k : Int) + 1))) :: (un 92)) ([.dead, .box (List.map D.demote ps), .fam 0 1, .fam 0 1, .fam 0 1]) := by
 exact RoundRun.of_eval mixed [tC (by ((try simp only [sL] at *); (try unfold big at *); omega) : (decide ((↑k : Int) < (↑m : Int))) = true), .tst (decide (0 ≤ (↑k : Int) ∧ (↑k : Int) < (↑m : Int))) true (by ((try simp only [sL] at *); (try unfold big at *); omega)), .getA _ _ _ _ (@gets_id ps (Int.toNat (↑k : Int) * (10 : Nat) + (0 : Nat)) ((8 : Nat)) _ hA), .tst (decide (0 ≤ (↑k : Int) ∧ (↑k : Int) < (↑m : Int))) true (by ((try simp only [sL] at *); (try unfold big at *); omega)), .get _ _ _ ht, tT, .tst (decide (0 ≤ (↑k : Int) ∧ (↑k : Int) < (↑m : Int))) true (by ((try simp only [sL] at *); (try unfold big at *); omega)), .get _ _ _ hn, tT, .tst (decide (0 ≤ (↑k : Int) ∧ (↑k : Int) < (↑m : Int))) true (by ((try simp only [sL] at *); (try unfold big at *); omega)), .get _ _ _ ht, tT, .get _ _ _ hq, tT, .get _ _ _ hu, .tst (decide (0 ≤ IntKind.i64.wrap ((↑k : Int) + 1))) true (by ((try simp only [sL] at *); (try unfold big at *); omega)), .get _ _ _ hv, .ret _ _ _ hb, .len (List.length (bD c) + List.length (bD bs)) ((2147483648 : Nat)) (by first | decide | omega | (simp; omega)), .cl ps (by first | exact clAll rfl | exact hps)] (by kernel_rfl)
theorem da_end (cs qs av : List D) (o : List Int) (k : Nat) (hq : qs.length ≤ 1000) (ho : (intsD o).length ≤ 1000) (h : qs.length ≤ k)  : RoundRun Try.prog (loopB Try.f27 1) ⟨[11], [4], [(16, 1)]⟩ 5 (un 8 ++ (.lst (.tok 2 0) 1 qs) :: (uu) :: (.lst (.tok 3 0) 1 av) :: (.lst (.tok 4 0) 1 cs) :: (un 4 ++ (.lst (.tok 5 0) 1 (intsD o)) :: (.int .i64 (↑k : Int)) :: (un 87))) [.dead, .dead, .fam 0 1, .fam 0 1, .fam 0 1, .fam 0 1] (.exit 2) (un 11 ++ (.lst (.tok 4 0) 1 cs) :: (un 4 ++ (.lst (.tok 5 0) 1 (intsD o)) :: (un 88))) ([.dead, .dead, .dead, .dead, .fam 0 1, .fam 0 1]) := by
 exact RoundRun.of_eval mixed [tC (by ((try simp only [sL] at *); (try unfold big at *); omega) : (decide ((↑k : Int) < (↑(List.length qs) : Int))) = false)] (by kernel_rfl)
theorem da_in (cs qs av : List D) (o : List Int) (k : Nat) (hq : qs.length ≤ 1000) (ho : (intsD o).length ≤ 1000) (hk : k < qs.length) (bg : Nat) (u : Int) (hb : qs[k]? = some (.int .i64 (bg : Int))) (hu : av[bg]? = some (.int .i64 u))  : RoundRun Try.prog (loopB Try.f27 1) ⟨[8, 10, 11, 17], [2, 3, 4], [(16, 1)]⟩ 5 (un 8 ++ (.lst (.tok 2 0) 1 qs) :: (uu) :: (.lst (.tok 3 0) 1 av) :: (.lst (.tok 4 0) 1 cs) :: (un 4 ++ (.lst (.tok 5 0) 1 (intsD o)) :: (.int .i64 (↑k : Int)) :: (un 87))) [.dead, .dead, .fam 0 1, .fam 0 1, .fam 0 1, .fam 0 1] .norm (un 8 ++ (.lst (.tok 2 0) 1 qs) :: (uu) :: (.lst (.tok 3 0) 1 av) :: (.lst (.tok 4 0) 1 cs) :: (un 4 ++ (.lst (.tok 5 0) 1 (intsD o ++ [.int .i64 u])) :: (.int .i64 (IntKind.i64.wrap ((↑k : Int) + 1))) :: (un 87))) ([.dead, .dead, .fam 0 1, .fam 0 1, .fam 0 1, .fam 0 1]) := by
 exact RoundRun.of_eval mixed [tC (by ((try simp only [sL] at *); (try unfold big at *); omega) : (decide ((↑k : Int) < (↑(List.length qs) : Int))) = true), tT, .get _ _ _ hb, tT, .get _ _ _ hu, .len (List.length (intsD o) + (1 : Nat)) ((2147483648 : Nat)) (by first | decide | omega | (simp; omega))] (by kernel_rfl)
theorem dn_end (qs : List D) (o : List Int) (k : Nat) (hq : qs.length ≤ 1000) (ho : (intsD o).length ≤ 1000) (h : qs.length ≤ k)  : RoundRun Try.prog (loopB Try.f27 1) ⟨[11], [], [(16, 1)]⟩ 2 (un 8 ++ (.lst .no 1 qs) :: (uu) :: (.lst .no 1 [.int .i64 0]) :: (.lst .tight 0 []) :: (un 4 ++ (.lst (.tok 2 0) 1 (intsD o)) :: (.int .i64 (↑k : Int)) :: (un 87))) [.dead, .dead, .fam 0 1] (.exit 2) (un 11 ++ (.lst .tight 0 []) :: (un 4 ++ (.lst (.tok 2 0) 1 (intsD o)) :: (un 88))) ([.dead, .dead, .fam 0 1]) := by
 exact RoundRun.of_eval mixed [tC (by ((try simp only [sL] at *); (try unfold big at *); omega) : (decide ((↑k : Int) < (↑(List.length qs) : Int))) = false)] (by kernel_rfl)
theorem dn_in (qs : List D) (o : List Int) (k : Nat) (hq : qs.length ≤ 1000) (ho : (intsD o).length ≤ 1000) (hk : k < qs.length) (hb : qs[k]? = some (.int .i64 0))  : RoundRun Try.prog (loopB Try.f27 1) ⟨[8, 10, 11, 17], [], [(16, 1)]⟩ 2 (un 8 ++ (.lst .no 1 qs) :: (uu) :: (.lst .no 1 [.int .i64 0]) :: (.lst .tight 0 []) :: (un 4 ++ (.lst (.tok 2 0) 1 (intsD o)) :: (.int .i64 (↑k : Int)) :: (un 87))) [.dead, .dead, .fam 0 1] .norm (un 8 ++ (.lst .no 1 qs) :: (uu) :: (.lst .no 1 [.int .i64 0]) :: (.lst .tight 0 []) :: (un 4 ++ (.lst (.tok 2 0) 1 (intsD o ++ [.int .i64 0])) :: (.int .i64 (IntKind.i64.wrap ((↑k : Int) + 1))) :: (un 87))) ([.dead, .dead, .fam 0 1]) := by
 exact RoundRun.of_eval mixed [tC (by ((try simp only [sL] at *); (try unfold big at *); omega) : (decide ((↑k : Int) < (↑(List.length qs) : Int))) = true), tT, .get _ _ _ hb, tT, .get ([.int .i64 0]) 0 (.int .i64 0) rfl, .len (List.length (intsD o) + (1 : Nat)) ((2147483648 : Nat)) (by first | decide | omega | (simp; omega))] (by kernel_rfl)
theorem dsz_end (ps : List D) (m k : Nat) (a b : Int) (a0 : 0 ≤ a) (a1 : a ≤ 100000) (b0 : 0 ≤ b) (b1 : b ≤ 100000) (hps : ∀ c ∈ ps, c.clean = true) (hm : m ≤ 2000) (h : m ≤ k)  : RoundRun Try.prog (loopB Try.f29 0) ⟨[13, 14], [], []⟩ 4 (un 10 ++ (.slc 1 10 m) :: (uu) :: (uu) :: (.int .i64 a) :: (.int .i64 b) :: (.int .i64 (↑k : Int)) :: (un 45)) [.dead, .box ps, .dead, .dead] (.exit 0) (un 13 ++ (.int .i64 a) :: (.int .i64 b) :: (un 46)) ([.dead, .dead, .dead, .dead]) := by
 exact RoundRun.of_eval mixed [tC (by ((try simp only [sL] at *); (try unfold big at *); omega) : (decide ((↑k : Int) < (↑m : Int))) = false)] (by kernel_rfl)
theorem dsz_n (ps : List D) (m k : Nat) (a b : Int) (a0 : 0 ≤ a) (a1 : a ≤ 100000) (b0 : 0 ≤ b) (b1 : b ≤ 100000) (hps : ∀ c ∈ ps, c.clean = true) (hm : m ≤ 2000) (hk : k < m) (ht : ps[k * 10 + 8]? = some (.int .i64 (-1)))  : RoundRun Try.prog (loopB Try.f29 0) ⟨[10, 13, 14, 15], [1000001], []⟩ 4 (un 10 ++ (.slc 1 10 m) :: (uu) :: (uu) :: (.int .i64 a) :: (.int .i64 b) :: (.int .i64 (↑k : Int)) :: (un 45)) [.dead, .box ps, .dead, .dead] .norm (un 10 ++ (.slc 1 10 m) :: (uu) :: (uu) :: (.int .i64 a) :: (.int .i64 b) :: (.int .i64 (IntKind.i64.wrap ((↑k : Int) + 1))) :: (un 45)) ([.dead, .box (List.map D.demote ps), .dead, .dead]) := by
 exact RoundRun.of_eval mixed [tC (by ((try simp only [sL] at *); (try unfold big at *); omega) : (decide ((↑k : Int) < (↑m : Int))) = true), .tst (decide (0 ≤ (↑k : Int) ∧ (↑k : Int) < (↑m : Int))) true (by ((try simp only [sL] at *); (try unfold big at *); omega)), .get _ _ _ ht, tT, .cl ps (by first | exact clAll rfl | exact hps)] (by kernel_rfl)
theorem dsz_s (ps : List D) (m k : Nat) (a b : Int) (a0 : 0 ≤ a) (a1 : a ≤ 100000) (b0 : 0 ≤ b) (b1 : b ≤ 100000) (hps : ∀ c ∈ ps, c.clean = true) (hm : m ≤ 2000) (hk : k < m) (to : Int) (t0 : 0 ≤ to) (ht : ps[k * 10 + 8]? = some (.int .i64 to)) (hn : ps[k * 10 + 9]? = some (.bool false))  : RoundRun Try.prog (loopB Try.f29 0) ⟨[10, 13, 14, 15], [1000001], []⟩ 4 (un 10 ++ (.slc 1 10 m) :: (uu) :: (uu) :: (.int .i64 a) :: (.int .i64 b) :: (.int .i64 (↑k : Int)) :: (un 45)) [.dead, .box ps, .dead, .dead] .norm (un 10 ++ (.slc 1 10 m) :: (uu) :: (uu) :: (.int .i64 (IntKind.i64.wrap (a + 1))) :: (.int .i64 b) :: (.int .i64 (IntKind.i64.wrap ((↑k : Int) + 1))) :: (un 45)) ([.dead, .box (List.map D.demote ps), .dead, .dead]) := by
 exact RoundRun.of_eval mixed [tC (by ((try simp only [sL] at *); (try unfold big at *); omega) : (decide ((↑k : Int) < (↑m : Int))) = true), .tst (decide (0 ≤ (↑k : Int) ∧ (↑k : Int) < (↑m : Int))) true (by ((try simp only [sL] at *); (try unfold big at *); omega)), .get _ _ _ ht, tC (decide_eq_false (Int.not_lt.2 t0)), .tst (decide (0 ≤ (↑k : Int) ∧ (↑k : Int) < (↑m : Int))) true (by ((try simp only [sL] at *); (try unfold big at *); omega)), .get _ _ _ hn, tF, .cl ps (by first | exact clAll rfl | exact hps)] (by kernel_rfl)
theorem dsz_r (ps : List D) (m k : Nat) (a b : Int) (a0 : 0 ≤ a) (a1 : a ≤ 100000) (b0 : 0 ≤ b) (b1 : b ≤ 100000) (hps : ∀ c ∈ ps, c.clean = true) (hm : m ≤ 2000) (hk : k < m) (to : Int) (t0 : 0 ≤ to) (ht : ps[k * 10 + 8]? = some (.int .i64 to)) (hn : ps[k * 10 + 9]? = some (.bool true))  : RoundRun Try.prog (loopB Try.f29 0) ⟨[10, 13, 14, 15], [1000001], []⟩ 4 (un 10 ++ (.slc 1 10 m) :: (uu) :: (uu) :: (.int .i64 a) :: (.int .i64 b) :: (.int .i64 (↑k : Int)) :: (un 45)) [.dead, .box ps, .dead, .dead] .norm (un 10 ++ (.slc 1 10 m) :: (uu) :: (uu) :: (.int .i64 a) :: (.int .i64 (IntKind.i64.wrap (b + 1))) :: (.int .i64 (IntKind.i64.wrap ((↑k : Int) + 1))) :: (un 45)) ([.dead, .box (List.map D.demote ps), .dead, .dead]) := by
 exact RoundRun.of_eval mixed [tC (by ((try simp only [sL] at *); (try unfold big at *); omega) : (decide ((↑k : Int) < (↑m : Int))) = true), .tst (decide (0 ≤ (↑k : Int) ∧ (↑k : Int) < (↑m : Int))) true (by ((try simp only [sL] at *); (try unfold big at *); omega)), .get _ _ _ ht, tC (decide_eq_false (Int.not_lt.2 t0)), .tst (decide (0 ≤ (↑k : Int) ∧ (↑k : Int) < (↑m : Int))) true (by ((try simp only [sL] at *); (try unfold big at *); omega)), .get _ _ _ hn, tT, .cl ps (by first | exact clAll rfl | exact hps)] (by kernel_rfl)
abbrev dcT (c qs av : List D) (m k : Nat) : List D := (un 7 ++ (.slc 1 10 m) :: (.lst (.tok 2 0) 1 qs) :: (.undef) :: (.lst (.tok 3 0) 1 av) :: (.lst (.tok 4 0) 1 c) :: (.int .i64 (k : Int)) :: (un 92))
abbrev dcU (c qs av : List D) : List D := (un 8 ++ (.lst (.tok 2 0) 1 qs) :: (.undef) :: (.lst (.tok 3 0) 1 av) :: (.lst (.tok 4 0) 1 c) :: (un 93))
abbrev dcS (ps : List D) : List Ob := [.dead, .box ps, .fam 0 1, .fam 0 1, .fam 0 1]
abbrev dcE : List Ob := [.dead, .dead, .fam 0 1, .fam 0 1, .fam 0 1]
abbrev daT (c qs av o : List D) (k : Nat) : List D := (un 8 ++ (.lst (.tok 2 0) 1 qs) :: (.undef) :: (.lst (.tok 3 0) 1 av) :: (.lst (.tok 4 0) 1 c) :: (un 4 ++ (.lst (.tok 5 0) 1 o) :: (.int .i64 (k : Int)) :: (un 87)))
abbrev daU (c o : List D) : List D := (un 11 ++ (.lst (.tok 4 0) 1 c) :: (un 4 ++ (.lst (.tok 5 0) 1 o) :: (un 88)))
abbrev daS : List Ob := [.dead, .dead, .fam 0 1, .fam 0 1, .fam 0 1, .fam 0 1]
abbrev daE : List Ob := [.dead, .dead, .dead, .dead, .fam 0 1, .fam 0 1]
abbrev dnT (qs o : List D) (k : Nat) : List D := (un 8 ++ (.lst .no 1 qs) :: (.undef) :: (.lst .no 1 [.int .i64 0]) :: (.lst .tight 0 []) :: (un 4 ++ (.lst (.tok 2 0) 1 o) :: (.int .i64 (k : Int)) :: (un 87)))
abbrev dnU (o : List D) : List D := (un 11 ++ (.lst .tight 0 []) :: (un 4 ++ (.lst (.tok 2 0) 1 o) :: (un 88)))
abbrev dszT (a b : Int) (m k : Nat) : List D := (un 10 ++ (.slc 1 10 m) :: (.undef) :: (.undef) :: (.int .i64 a) :: (.int .i64 b) :: (.int .i64 (k : Int)) :: (un 45))
abbrev dszU (a b : Int) : List D := (un 13 ++ (.int .i64 a) :: (.int .i64 b) :: (un 46))
abbrev dszS (ps : List D) : List Ob := [.dead, .box ps, .dead, .dead]
abbrev dszE : List Ob := [.dead, .dead, .dead, .dead]
theorem cidDP_ok {ar : List D} {s : List Ob} {d : D} {s' : List Ob} (h : CallRun Try.prog 67 ar s d s') : CallRun Try.prog 67 ar s d s' := h
theorem cidDX_ok {ar : List D} {s : List Ob} {d : D} {s' : List Ob} (h : CallRun Try.prog 68 ar s d s') : CallRun Try.prog 68 ar s d s' := h
theorem cidDR_ok {ar : List D} {s : List Ob} {d : D} {s' : List Ob} (h : CallRun Try.prog 27 ar s d s') : CallRun Try.prog 27 ar s d s' := h
theorem drun_err_ok (pro : List XS) (l : List (List IrS)) (e : Int) (he : e ≠ 0) (hp : Ret Try.prog 67 [.lst .no 8 (xsL pro), .lst .no 1 (rwL l)] (.tup [.lst .tight 0 [], .lst .tight 0 [], .int .i64 e]))  : Ret Try.prog 27 ([.lst .no 8 (xsL pro), .lst .no 1 (rwL l)]) (.tup [.lst .tight 0 [], .lst .tight 0 [], .int .i64 e]) := by
 exact (Ret.of_eval (d := .tup [.lst .tight 0 [], .lst .tight 0 [], .int .i64 e]) mixed Try.func27 (by kernel_rfl) [.ret _ _ _ hp, tC (nt (by ((try simp only [sL] at *); (try unfold big at *); omega) : (e == (0 : Int)) = false))] (by kernel_rfl)).to (by first | rfl | (simp [wk, wkL, wkO]; done) | exact ⟨⟨rfl, .inl rfl, trivial, .inr rfl⟩, ⟨rfl, .inl rfl, trivial, .inr rfl⟩, rfl, trivial⟩ | exact ⟨⟨rfl, .inl rfl, rfl, .inl rfl⟩, ⟨rfl, .inl rfl, trivial, .inr rfl⟩, rfl, trivial⟩)
theorem drun_nil_ok (pro : List XS) (l : List (List IrS)) (q s : List Int) (hp : Ret Try.prog 67 [.lst .no 8 (xsL pro), .lst .no 1 (rwL l)] (.tup [.lst .tight 0 [], .lst .no 1 (intsD q), .int .i64 0])) (hx : Ret Try.prog 68 [.lst .tight 0 [], .lst .no 1 (intsD q)] (.lst .no 1 [.int .i64 0])) (h1 : LoopRun Try.prog 2 (.loop (loopB Try.f27 1)) (dnT (intsD q) [] 0) [.dead, .dead, .fam 0 1] (.exit 2) (dnU (intsD s)) [.dead, .dead, .fam 0 1])  : Ret Try.prog 27 ([.lst .no 8 (xsL pro), .lst .no 1 (rwL l)]) (.tup [.lst .tight 0 [], .lst .no 1 (intsD s), .int .i64 0]) := by
 have c0 := @run_id (nat_lit 2) _ ((un 8 ++ (.lst .no 1 (intsD q)) :: (D.undef) :: (.lst .no 1 [.int .i64 0]) :: (.lst .tight 0 []) :: (un 4 ++ (.lst (.tok 2 0) 1 []) :: (.int .i64 0) :: (un 87)))) ([.dead, .dead, .fam 0 1]) _ _ _ h1
 exact (Ret.of_eval (d := .tup [.lst .tight 0 [], .lst (.fresh 1) 1 (intsD s), .int .i64 0]) mixed Try.func27 (by kernel_rfl) [.ret _ _ _ hp, tF, .ret _ _ _ hx, tT, .get ([.int .i64 0]) 0 (.int .i64 0) rfl, tF, .go 64, tF, .head ⟨[8, 10, 11, 17], [], [(16, 1)]⟩ _ _ _ _ _ _ _ c0] (by kernel_rfl)).to (by first | rfl | (simp [wk, wkL, wkO]; done) | exact ⟨⟨rfl, .inl rfl, trivial, .inr rfl⟩, ⟨rfl, .inl rfl, trivial, .inr rfl⟩, rfl, trivial⟩ | exact ⟨⟨rfl, .inl rfl, rfl, .inl rfl⟩, ⟨rfl, .inl rfl, trivial, .inr rfl⟩, rfl, trivial⟩)
theorem drun_long_ok (pro : List XS) (l : List (List IrS)) (q : List Int) (ps ps2 av : List D) (m : Nat) (hm : m ≤ 2000) (hps2 : ∀ c ∈ ps2, c.clean = true) (t : Int) (ht : av[m]? = some (.int .i64 t)) (hp : CallRun Try.prog 67 [.lst .no 8 (xsL pro), .lst .no 1 (rwL l)] [] (.tup [.slc 1 10 m, .lst (.tok 2 0) 1 (intsD q), .int .i64 0]) [.dead, .box ps, .fam 0 1]) (hx : CallRun Try.prog 68 [.slc 1 10 m, .lst (.tok 2 0) 1 (intsD q)] [.dead, .box ps, .fam 0 1] (.lst (.tok 3 0) 1 av) [.dead, .box ps2, .fam 0 1, .fam 0 1]) (h : 16384 < t)  : Ret Try.prog 27 ([.lst .no 8 (xsL pro), .lst .no 1 (rwL l)]) (.tup [.lst .tight 0 [], .lst .tight 0 [], .int .i64 3]) := by
 exact (Ret.of_eval (d := .tup [.lst .tight 0 [], .lst .tight 0 [], .int .i64 3]) mixed Try.func27 (by kernel_rfl) [.callR _ _ _ _ _ (@cidDP_ok ([.lst .no 8 (xsL pro), .lst .no 1 (rwL l)]) ([]) _ _ hp), tF, .callR _ _ _ _ _ (@cidDX_ok ([.slc 1 10 m, .lst (.tok 2 0) 1 (intsD q)]) ([.dead, .box ps, .fam 0 1]) _ _ hx), tT, .get _ _ _ ht, tC (ltL 16384 (decide_eq_false (by omega : ¬ t < 16385)))] (by kernel_rfl)).to (by first | rfl | (simp [wk, wkL, wkO]; done) | exact ⟨⟨rfl, .inl rfl, trivial, .inr rfl⟩, ⟨rfl, .inl rfl, trivial, .inr rfl⟩, rfl, trivial⟩ | exact ⟨⟨rfl, .inl rfl, rfl, .inl rfl⟩, ⟨rfl, .inl rfl, trivial, .inr rfl⟩, rfl, trivial⟩)
theorem drun_ok_ok (pro : List XS) (l : List (List IrS)) (c s : List Int) (q : List Int) (ps ps2 av : List D) (m : Nat) (hm : m ≤ 2000) (hps2 : ∀ c ∈ ps2, c.clean = true) (t : Int) (ht : av[m]? = some (.int .i64 t)) (hp : CallRun Try.prog 67 [.lst .no 8 (xsL pro), .lst .no 1 (rwL l)] [] (.tup [.slc 1 10 m, .lst (.tok 2 0) 1 (intsD q), .int .i64 0]) [.dead, .box ps, .fam 0 1]) (hx : CallRun Try.prog 68 [.slc 1 10 m, .lst (.tok 2 0) 1 (intsD q)] [.dead, .box ps, .fam 0 1] (.lst (.tok 3 0) 1 av) [.dead, .box ps2, .fam 0 1, .fam 0 1]) (h : t ≤ 16384) (h0 : LoopRun Try.prog 4 (.loop (loopB Try.f27 0)) (dcT [] (intsD q) av m 0) (dcS (List.map D.demote ps2)) (.exit 0) (dcU (bD c) (intsD q) av) dcE) (h1 : LoopRun Try.prog 5 (.loop (loopB Try.f27 1)) (daT (bD c) (intsD q) av [] 0) daS (.exit 2) (daU (bD c) (intsD s)) daE)  : Ret Try.prog 27 ([.lst .no 8 (xsL pro), .lst .no 1 (rwL l)]) (.tup [.lst .no 1 (bD c), .lst .no 1 (intsD s), .int .i64 0]) := by
 have c0 := @run_id (nat_lit 4) _ ((un 7 ++ (.slc 1 10 m) :: (.lst (.tok 2 0) 1 (intsD q)) :: (D.undef) :: (.lst (.tok 3 0) 1 av) :: (.lst (.tok 4 0) 1 []) :: (.int .i64 0) :: (un 92))) ([.dead, .box (List.map D.demote ps2), .fam 0 1, .fam 0 1, .fam 0 1]) _ _ _ h0
 have c1 := @run_id (nat_lit 5) _ ((un 8 ++ (.lst (.tok 2 0) 1 (intsD q)) :: (D.undef) :: (.lst (.tok 3 0) 1 av) :: (.lst (.tok 4 0) 1 (bD c)) :: (un 4 ++ (.lst (.tok 5 0) 1 []) :: (.int .i64 0) :: (un 87)))) ([.dead, .dead, .fam 0 1, .fam 0 1, .fam 0 1, .fam 0 1]) _ _ _ h1
 exact (Ret.of_eval (d := .tup [.lst (.fresh 1) 1 (bD c), .lst (.fresh 1) 1 (intsD s), .int .i64 0]) mixed Try.func27 (by kernel_rfl) [.callR _ _ _ _ _ (@cidDP_ok ([.lst .no 8 (xsL pro), .lst .no 1 (rwL l)]) ([]) _ _ hp), tF, .callR _ _ _ _ _ (@cidDX_ok ([.slc 1 10 m, .lst (.tok 2 0) 1 (intsD q)]) ([.dead, .box ps, .fam 0 1]) _ _ hx), tT, .get _ _ _ ht, tC (ltL 16384 (decide_eq_true (Int.lt_add_one_of_le h))), .head ⟨[7, 8, 10, 12], [2, 3, 1000001], [(11, 1)]⟩ _ _ _ _ _ _ _ c0, .cl (ps2) (by first | exact clAll rfl | exact hps | exact hps2), .head ⟨[8, 10, 11, 17], [2, 3, 4], [(16, 1)]⟩ _ _ _ _ _ _ _ c1] (by kernel_rfl)).to (by first | rfl | (simp [wk, wkL, wkO]; done) | exact ⟨⟨rfl, .inl rfl, trivial, .inr rfl⟩, ⟨rfl, .inl rfl, trivial, .inr rfl⟩, rfl, trivial⟩ | exact ⟨⟨rfl, .inl rfl, rfl, .inl rfl⟩, ⟨rfl, .inl rfl, trivial, .inr rfl⟩, rfl, trivial⟩)
theorem dsize_err_ok (pro : List XS) (l : List (List IrS)) (e : Int) (he : e ≠ 0) (hr : CallRun Try.prog 27 [.lst .no 8 (xsL pro), .lst .no 1 (rwL l)] [] (.tup [.lst .tight 0 [], .lst .tight 0 [], .int .i64 e]) [])  : Ret Try.prog 29 ([.lst .no 8 (xsL pro), .lst .no 1 (rwL l)]) (.tup [.int .i64 0, .int .i64 0, .int .i64 e]) := by
 exact (Ret.of_eval (d := .tup [.int .i64 0, .int .i64 0, .int .i64 e]) mixed Try.func29 (by kernel_rfl) [.callR _ _ _ _ _ (@cidDR_ok ([.lst .no 8 (xsL pro), .lst .no 1 (rwL l)]) ([]) _ _ hr), tC (nt (by ((try simp only [sL] at *); (try unfold big at *); omega) : (e == (0 : Int)) = false))] (by kernel_rfl)).to (by first | rfl | (simp [wk, wkL, wkO]; done))
theorem dsize_nil_ok (pro : List XS) (l : List (List IrS)) (c : List D) (s q : List Int) (sz : Nat) (hr : CallRun Try.prog 27 [.lst .no 8 (xsL pro), .lst .no 1 (rwL l)] [] (.tup [.lst .no sz c, .lst .no 1 (intsD s), .int .i64 0]) []) (hp : Ret Try.prog 67 [.lst .no 8 (xsL pro), .lst .no 1 (rwL l)] (.tup [.lst .tight 0 [], .lst .no 1 (intsD q), .int .i64 0])) (hx : Ret Try.prog 68 [.lst .tight 0 [], .lst .no 1 (intsD q)] (.lst .no 1 [.int .i64 0]))  : Ret Try.prog 29 ([.lst .no 8 (xsL pro), .lst .no 1 (rwL l)]) (.tup [.int .i64 0, .int .i64 0, .int .i64 0]) := by
 exact (Ret.of_eval (d := .tup [.int .i64 0, .int .i64 0, .int .i64 0]) mixed Try.func29 (by kernel_rfl) [.callR _ _ _ _ _ (@cidDR_ok ([.lst .no 8 (xsL pro), .lst .no 1 (rwL l)]) ([]) _ _ hr), tF, .ret _ _ _ hp, .ret _ _ _ hx, .go 64, tF] (by kernel_rfl)).to (by first | rfl | (simp [wk, wkL, wkO]; done))
theorem dsize_ok_ok (pro : List XS) (l : List (List IrS)) (c s : List Int) (q : List Int) (ps ps2 av : List D) (m : Nat) (hm : m ≤ 2000) (hps2 : ∀ c ∈ ps2, c.clean = true) (a b : Int) (hr : CallRun Try.prog 27 [.lst .no 8 (xsL pro), .lst .no 1 (rwL l)] [] (.tup [.lst .no 1 (bD c), .lst .no 1 (intsD s), .int .i64 0]) []) (hp : CallRun Try.prog 67 [.lst .no 8 (xsL pro), .lst .no 1 (rwL l)] [] (.tup [.slc 1 10 m, .lst (.tok 2 0) 1 (intsD q), .int .i64 0]) [.dead, .box ps, .fam 0 1]) (hx : CallRun Try.prog 68 [.slc 1 10 m, .lst (.tok 2 0) 1 (intsD q)] [.dead, .box ps, .fam 0 1] (.lst (.tok 3 0) 1 av) [.dead, .box ps2, .fam 0 1, .fam 0 1]) (h0 : LoopRun Try.prog 4 (.loop (loopB Try.f29 0)) (dszT 0 0 m 0) (dszS (List.map D.demote ps2)) (.exit 0) (dszU a b) dszE)  : Ret Try.prog 29 ([.lst .no 8 (xsL pro), .lst .no 1 (rwL l)]) (.tup [.int .i64 a, .int .i64 b, .int .i64 0]) := by
 have c0 := @run_id (nat_lit 4) _ ((un 10 ++ (.slc 1 10 m) :: (D.undef) :: (D.undef) :: (.int .i64 0) :: (.int .i64 0) :: (.int .i64 0) :: (un 45))) ([.dead, .box (List.map D.demote ps2), .dead, .dead]) _ _ _ h0
 exact (Ret.of_eval (d := .tup [.int .i64 a, .int .i64 b, .int .i64 0]) mixed Try.func29 (by kernel_rfl) [.callR _ _ _ _ _ (@cidDR_ok ([.lst .no 8 (xsL pro), .lst .no 1 (rwL l)]) ([]) _ _ hr), tF, .callR _ _ _ _ _ (@cidDP_ok ([.lst .no 8 (xsL pro), .lst .no 1 (rwL l)]) ([]) _ _ hp), .callR _ _ _ _ _ (@cidDX_ok ([.slc 1 10 m, .lst (.tok 2 0) 1 (intsD q)]) ([.dead, .box ps, .fam 0 1]) _ _ hx), .head ⟨[10, 13, 14, 15], [1000001], []⟩ _ _ _ _ _ _ _ c0, .cl (ps2) (by first | exact clAll rfl | exact hps | exact hps2)] (by kernel_rfl)).to (by first | rfl | (simp [wk, wkL, wkO]; done))
abbrev gT (n : Int) : List D := [.yld 5, .ptr false 4 0, .undef, .ptr false 7 0, .undef, .undef, .undef, .undef, .undef, .undef, .undef, .undef, .undef, .undef, .undef, .agg formsL, .int .i64 n, .undef, .undef, .undef, .undef, .undef, .undef, .undef, .undef, .undef, .undef, .undef, .undef, .undef, .undef, .undef, .undef]
abbrev gU : List D := [.undef, .undef, .undef, .undef, .undef, .undef, .undef, .undef, .undef, .undef, .undef, .undef, .undef, .undef, .undef, .undef, .undef, .undef, .undef, .undef, .undef, .undef, .undef, .undef, .undef, .undef, .undef, .undef, .undef, .undef, .undef, .undef, .undef]
abbrev gLP (ag bd : Code) (k : Lk) : Ob := .lp k [.undef, .ptr false 0 0, .ptr false 1 0, .ptr false 2 0, .ptr false 3 0, .undef, .undef, .undef, .undef, .undef, .undef, .undef, .undef, .undef, .undef, .undef, .undef, .undef, .undef, .undef, .undef, .undef, .undef, .undef, .undef, .undef, .undef, .undef, .undef, .undef, .undef, .undef, .undef, .undef, .undef, .undef, .undef, .undef, .undef] #[10] ag bd
abbrev gX0 : Ob := .box [.int .i8 0, .int .i8 0, .int .i8 0, .int .i8 0, .int .i8 0, .int .i64 0, .int .i64 0, .int .i8 0]
abbrev gS (ag bd : Code) (b : List Int) (s : RawS) : List Ob := [.box [.lst .no 1 (bD b)], gX0, .box [.int .i64 0], .box [.int .i64 0], .box [.lst .no 1 (bD b)], gLP ag bd .ready, .dead,
  .box [.int .i8 s.w, .bool s.long, .int .u8 s.code, .int .i8 s.r, .int .i8 s.m, .int .i64 s.disp, .int .i64 s.imm, .int .i64 s.small, .int .i64 s.near, .int .i64 s.jump, .int .i8 s.high], .dead]
abbrev gEx : Option XS → Ex
  | none => .exit 0
  | some _ => .ret
abbrev gOut (ag bd : Code) : Option XS → List Ob
  | none => [.dead, gX0, .box [.int .i64 0], .box [.int .i64 0], .dead, gLP ag bd .ready, .dead, .dead, .dead]
  | some x => [.dead, .box [.int .i8 x.op, .int .i8 x.w, .int .i8 x.dst, .int .i8 x.src, .int .i8 x.base, .int .i64 x.disp, .int .i64 x.imm, .int .i8 x.cc], .box [.int .i64 (bytesXS x).length], .box [.int .i64 0], .dead, gLP ag bd .ret, .dead, .dead, .dead]
abbrev llT (b : List Int) (p : List XS) : List D := [.lst .no 1 (bD b), .undef, .lst (.tok 0 0) 8 (xsL p), .undef, .undef, .undef, .undef, .undef, .undef, .undef, .undef, .undef, .undef, .undef, .undef, .undef, .undef, .undef, .undef, .undef, .undef, .undef, .undef, .undef, .undef, .undef]
abbrev llU (p : List XS) : List D := [.undef, .undef, .lst (.tok 0 0) 8 (xsL p), .undef, .undef, .undef, .undef, .undef, .undef, .undef, .undef, .undef, .undef, .undef, .undef, .undef, .undef, .undef, .undef, .undef, .undef, .undef, .undef, .undef, .undef, .undef]
abbrev llV : List D := [.undef, .undef, .lst .tight 0 [], .bool false, .undef, .undef, .undef, .undef, .undef, .undef, .undef, .undef, .undef, .undef, .undef, .undef, .undef, .undef, .undef, .undef, .undef, .undef, .undef, .undef, .undef, .undef]
def listD : Option (List XS) → D
  | none => .tup [.lst .tight 0 [], .bool false]
  | some l => .tup [.lst .no 8 (xsL l), .bool true]
theorem lw_may_ok : Ret Try.prog 56 [xD 1 32 0 0 0 0 5 0] (.bool true) := (mayX_ok 1 32 0 0 0 0 5 0 (by decide)).cast rfl (by kernel_rfl)
theorem lw_len5_ok : Ret Try.prog 22 [xD 1 32 0 0 0 0 5 0] (.int .i64 5) := (xlen_ok 1 32 0 0 0 0 5 0 (by decide)).cast rfl (by kernel_rfl)
theorem lw_len2_ok : Ret Try.prog 22 [xD 28 8 0 0 0 0 0 0] (.int .i64 2) := (xlen_ok 28 8 0 0 0 0 0 0 (by decide)).cast rfl (by kernel_rfl)
theorem lw_b5_ok : Ret Try.prog 21 [xD 1 32 0 0 0 0 5 0] (.tup [.lst .no 1 [.int .u8 184, .int .u8 5, .int .u8 0, .int .u8 0, .int .u8 0], .int .i64 0]) := (bytes_any_ok 1 32 0 0 0 0 5 0 (by decide)).cast rfl (by kernel_rfl)
theorem lw_b2_ok : Ret Try.prog 21 [xD 28 8 0 0 0 0 (-7) 0] (.tup [.lst .no 1 [.int .u8 235, .int .u8 249], .int .i64 0]) := (bytes_any_ok 28 8 0 0 0 0 (-7) 0 (by decide)).cast rfl (by kernel_rfl)
end Go.Proofs.Ytcngafhpodeenaa
