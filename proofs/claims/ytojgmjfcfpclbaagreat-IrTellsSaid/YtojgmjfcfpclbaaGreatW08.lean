/- Contracts and plain laws that a statement's proof leans on (texts merged: XB2d, XB2e, XBytes, XB3, XBytes2, XS1, XS2, XW, XRD, MdE, MdP, MdS). -/
import Derived.Test.YtojgmjfcfpclbaaGreatW04
import Derived.Test.YtojgmjfcfpclbaaGreatW07
set_option linter.unusedVariables false
set_option linter.unusedSimpArgs false
namespace Go.Proofs.YtojgmjfcfpclbaaGreat
open Go Go.Ev
set_option maxRecDepth 100000
set_option maxHeartbeats 8000000
theorem bytesO_27_ok (w dst src base disp imm cc : Int) (d0 : 0 ≤ dst) (d1 : dst ≤ 15) (s0 : 0 ≤ src) (s1 : src ≤ 15) (b0 : 0 ≤ base) (b1 : base ≤ 15) (p0 : -2147483648 ≤ disp) (p1 : disp ≤ 2147483647) (i0 : -2147483648 ≤ imm) (i1 : imm ≤ 2147483647) (c0 : 0 ≤ cc) (c1 : cc ≤ 15) (hm : mayX 27 w dst src base disp imm cc = true) : Ret Tryz.prog 102 ([xD 27 w dst src base disp imm cc]) (.tup [.lst .no 1 (bD (bytesM 27 w dst src base disp imm cc)), .int .i64 0]) := by
 have c0 := @mayX_ok 27 w dst src base disp imm cc (by decide)
 rw [hm] at c0
 have c1 := @of_any_ok 27 (by decide)
 let E1 : EL := [.ret _ _ _ c0, tF, .ret _ _ _ c1, tF, tF, tF, tF, tF, tF, tF, tT]
 by_cases h2 : w = 8
 ·subst h2
  have c3 := @rex_yes_ok src base s0 s1 b0 b1 false true (rfl : true = true)
  generalize g5 : rexB false src base = r4 at c3
  rcases bft (decide (base % 8 = 4)) with h6 | h6
  ·have c7 := @mMem_4_ok src base disp s0 s1 b0 b1 p0 p1 h6
   exact (o102 (d := .tup [.lst (.fresh 1) 1 [.int .u8 r4, .int .u8 136, .int .u8 (128 + 8 * (src % 8) + base % 8), .int .u8 36, .int .u8 (disp % 256), .int .u8 (disp / 256 % 256), .int .u8 (disp / 65536 % 256), .int .u8 (disp / 16777216 % 256)], .int .i64 0]) (E1 ++ [tT, .ret _ _ _ c3, .inl, .ret _ _ _ c7, .inl, .go 64, tT, tT, .get ([.lst .tight 0 [], .lst .tight 1 [.int .u8 r4], .lst .tight 1 [.int .u8 136], .lst .no 1 [.int .u8 (128 + 8 * (src % 8) + base % 8), .int .u8 36, .int .u8 (disp % 256), .int .u8 (disp / 256 % 256), .int .u8 (disp / 65536 % 256), .int .u8 (disp / 16777216 % 256)]]) 0 (.lst .tight 0 []) rfl, .len 0 2147483648 (by decide), tT, tT, .get ([.lst .tight 0 [], .lst .tight 1 [.int .u8 r4], .lst .tight 1 [.int .u8 136], .lst .no 1 [.int .u8 (128 + 8 * (src % 8) + base % 8), .int .u8 36, .int .u8 (disp % 256), .int .u8 (disp / 256 % 256), .int .u8 (disp / 65536 % 256), .int .u8 (disp / 16777216 % 256)]]) 1 (.lst .tight 1 [.int .u8 r4]) rfl, .len 1 2147483648 (by decide), tT, tT, .get ([.lst .tight 0 [], .lst .tight 1 [.int .u8 r4], .lst .tight 1 [.int .u8 136], .lst .no 1 [.int .u8 (128 + 8 * (src % 8) + base % 8), .int .u8 36, .int .u8 (disp % 256), .int .u8 (disp / 256 % 256), .int .u8 (disp / 65536 % 256), .int .u8 (disp / 16777216 % 256)]]) 2 (.lst .tight 1 [.int .u8 136]) rfl, .len 2 2147483648 (by decide), tT, tT, .get ([.lst .tight 0 [], .lst .tight 1 [.int .u8 r4], .lst .tight 1 [.int .u8 136], .lst .no 1 [.int .u8 (128 + 8 * (src % 8) + base % 8), .int .u8 36, .int .u8 (disp % 256), .int .u8 (disp / 256 % 256), .int .u8 (disp / 65536 % 256), .int .u8 (disp / 16777216 % 256)]]) 3 (.lst .no 1 [.int .u8 (128 + 8 * (src % 8) + base % 8), .int .u8 36, .int .u8 (disp % 256), .int .u8 (disp / 256 % 256), .int .u8 (disp / 65536 % 256), .int .u8 (disp / 16777216 % 256)]) rfl, .len 8 2147483648 (by decide), tF]) (by kernel_rfl)).to (by clear E1; (subst_vars; (try simp only [beq_dec] at *); (try simp only [beq_iff_eq] at h); (try simp only [decide_eq_true_eq, decide_eq_false_iff_not] at *); simp_all [wk, wkL, wkO, bytesM, bD, rexM, memM, fourM, w_u8, needM, codeM, numM, shapeM]; done))
  have c8 := @mMem_n_ok src base disp s0 s1 b0 b1 p0 p1 h6
  exact (o102 (d := .tup [.lst (.fresh 1) 1 [.int .u8 r4, .int .u8 136, .int .u8 (128 + 8 * (src % 8) + base % 8), .int .u8 (disp % 256), .int .u8 (disp / 256 % 256), .int .u8 (disp / 65536 % 256), .int .u8 (disp / 16777216 % 256)], .int .i64 0]) (E1 ++ [tT, .ret _ _ _ c3, .inl, .ret _ _ _ c8, .inl, .go 64, tT, tT, .get ([.lst .tight 0 [], .lst .tight 1 [.int .u8 r4], .lst .tight 1 [.int .u8 136], .lst .no 1 [.int .u8 (128 + 8 * (src % 8) + base % 8), .int .u8 (disp % 256), .int .u8 (disp / 256 % 256), .int .u8 (disp / 65536 % 256), .int .u8 (disp / 16777216 % 256)]]) 0 (.lst .tight 0 []) rfl, .len 0 2147483648 (by decide), tT, tT, .get ([.lst .tight 0 [], .lst .tight 1 [.int .u8 r4], .lst .tight 1 [.int .u8 136], .lst .no 1 [.int .u8 (128 + 8 * (src % 8) + base % 8), .int .u8 (disp % 256), .int .u8 (disp / 256 % 256), .int .u8 (disp / 65536 % 256), .int .u8 (disp / 16777216 % 256)]]) 1 (.lst .tight 1 [.int .u8 r4]) rfl, .len 1 2147483648 (by decide), tT, tT, .get ([.lst .tight 0 [], .lst .tight 1 [.int .u8 r4], .lst .tight 1 [.int .u8 136], .lst .no 1 [.int .u8 (128 + 8 * (src % 8) + base % 8), .int .u8 (disp % 256), .int .u8 (disp / 256 % 256), .int .u8 (disp / 65536 % 256), .int .u8 (disp / 16777216 % 256)]]) 2 (.lst .tight 1 [.int .u8 136]) rfl, .len 2 2147483648 (by decide), tT, tT, .get ([.lst .tight 0 [], .lst .tight 1 [.int .u8 r4], .lst .tight 1 [.int .u8 136], .lst .no 1 [.int .u8 (128 + 8 * (src % 8) + base % 8), .int .u8 (disp % 256), .int .u8 (disp / 256 % 256), .int .u8 (disp / 65536 % 256), .int .u8 (disp / 16777216 % 256)]]) 3 (.lst .no 1 [.int .u8 (128 + 8 * (src % 8) + base % 8), .int .u8 (disp % 256), .int .u8 (disp / 256 % 256), .int .u8 (disp / 65536 % 256), .int .u8 (disp / 16777216 % 256)]) rfl, .len 7 2147483648 (by decide), tF]) (by kernel_rfl)).to (by clear E1; (subst_vars; (try simp only [beq_dec] at *); (try simp only [beq_iff_eq] at h); (try simp only [decide_eq_true_eq, decide_eq_false_iff_not] at *); simp_all [wk, wkL, wkO, bytesM, bD, rexM, memM, fourM, w_u8, needM, codeM, numM, shapeM]; done))
 let E2 : EL := E1 ++ [tC (neOf h2)]
 by_cases h9 : w = 16
 ·subst h9
  rcases bft (needM false src base false) with h10 | h10
  ·have c11 := @rex_yes_ok src base s0 s1 b0 b1 false false h10
   generalize g13 : rexB false src base = r12 at c11
   rcases bft (decide (base % 8 = 4)) with h14 | h14
   ·have c15 := @mMem_4_ok src base disp s0 s1 b0 b1 p0 p1 h14
    exact (o102 (d := .tup [.lst (.fresh 1) 1 [.int .u8 102, .int .u8 r12, .int .u8 137, .int .u8 (128 + 8 * (src % 8) + base % 8), .int .u8 36, .int .u8 (disp % 256), .int .u8 (disp / 256 % 256), .int .u8 (disp / 65536 % 256), .int .u8 (disp / 16777216 % 256)], .int .i64 0]) (E2 ++ [tT, .ret _ _ _ c11, .inl, .ret _ _ _ c15, .inl, .go 64, tT, tT, .get ([.lst .tight 1 [.int .u8 102], .lst .tight 1 [.int .u8 r12], .lst .tight 1 [.int .u8 137], .lst .no 1 [.int .u8 (128 + 8 * (src % 8) + base % 8), .int .u8 36, .int .u8 (disp % 256), .int .u8 (disp / 256 % 256), .int .u8 (disp / 65536 % 256), .int .u8 (disp / 16777216 % 256)]]) 0 (.lst .tight 1 [.int .u8 102]) rfl, .len 1 2147483648 (by decide), tT, tT, .get ([.lst .tight 1 [.int .u8 102], .lst .tight 1 [.int .u8 r12], .lst .tight 1 [.int .u8 137], .lst .no 1 [.int .u8 (128 + 8 * (src % 8) + base % 8), .int .u8 36, .int .u8 (disp % 256), .int .u8 (disp / 256 % 256), .int .u8 (disp / 65536 % 256), .int .u8 (disp / 16777216 % 256)]]) 1 (.lst .tight 1 [.int .u8 r12]) rfl, .len 2 2147483648 (by decide), tT, tT, .get ([.lst .tight 1 [.int .u8 102], .lst .tight 1 [.int .u8 r12], .lst .tight 1 [.int .u8 137], .lst .no 1 [.int .u8 (128 + 8 * (src % 8) + base % 8), .int .u8 36, .int .u8 (disp % 256), .int .u8 (disp / 256 % 256), .int .u8 (disp / 65536 % 256), .int .u8 (disp / 16777216 % 256)]]) 2 (.lst .tight 1 [.int .u8 137]) rfl, .len 3 2147483648 (by decide), tT, tT, .get ([.lst .tight 1 [.int .u8 102], .lst .tight 1 [.int .u8 r12], .lst .tight 1 [.int .u8 137], .lst .no 1 [.int .u8 (128 + 8 * (src % 8) + base % 8), .int .u8 36, .int .u8 (disp % 256), .int .u8 (disp / 256 % 256), .int .u8 (disp / 65536 % 256), .int .u8 (disp / 16777216 % 256)]]) 3 (.lst .no 1 [.int .u8 (128 + 8 * (src % 8) + base % 8), .int .u8 36, .int .u8 (disp % 256), .int .u8 (disp / 256 % 256), .int .u8 (disp / 65536 % 256), .int .u8 (disp / 16777216 % 256)]) rfl, .len 9 2147483648 (by decide), tF]) (by kernel_rfl)).to (by clear E1 E2; (subst_vars; (try simp only [beq_dec] at *); (try simp only [beq_iff_eq] at h); (try simp only [decide_eq_true_eq, decide_eq_false_iff_not] at *); simp_all [wk, wkL, wkO, bytesM, bD, rexM, memM, fourM, w_u8, needM, codeM, numM, shapeM]; done))
   have c16 := @mMem_n_ok src base disp s0 s1 b0 b1 p0 p1 h14
   exact (o102 (d := .tup [.lst (.fresh 1) 1 [.int .u8 102, .int .u8 r12, .int .u8 137, .int .u8 (128 + 8 * (src % 8) + base % 8), .int .u8 (disp % 256), .int .u8 (disp / 256 % 256), .int .u8 (disp / 65536 % 256), .int .u8 (disp / 16777216 % 256)], .int .i64 0]) (E2 ++ [tT, .ret _ _ _ c11, .inl, .ret _ _ _ c16, .inl, .go 64, tT, tT, .get ([.lst .tight 1 [.int .u8 102], .lst .tight 1 [.int .u8 r12], .lst .tight 1 [.int .u8 137], .lst .no 1 [.int .u8 (128 + 8 * (src % 8) + base % 8), .int .u8 (disp % 256), .int .u8 (disp / 256 % 256), .int .u8 (disp / 65536 % 256), .int .u8 (disp / 16777216 % 256)]]) 0 (.lst .tight 1 [.int .u8 102]) rfl, .len 1 2147483648 (by decide), tT, tT, .get ([.lst .tight 1 [.int .u8 102], .lst .tight 1 [.int .u8 r12], .lst .tight 1 [.int .u8 137], .lst .no 1 [.int .u8 (128 + 8 * (src % 8) + base % 8), .int .u8 (disp % 256), .int .u8 (disp / 256 % 256), .int .u8 (disp / 65536 % 256), .int .u8 (disp / 16777216 % 256)]]) 1 (.lst .tight 1 [.int .u8 r12]) rfl, .len 2 2147483648 (by decide), tT, tT, .get ([.lst .tight 1 [.int .u8 102], .lst .tight 1 [.int .u8 r12], .lst .tight 1 [.int .u8 137], .lst .no 1 [.int .u8 (128 + 8 * (src % 8) + base % 8), .int .u8 (disp % 256), .int .u8 (disp / 256 % 256), .int .u8 (disp / 65536 % 256), .int .u8 (disp / 16777216 % 256)]]) 2 (.lst .tight 1 [.int .u8 137]) rfl, .len 3 2147483648 (by decide), tT, tT, .get ([.lst .tight 1 [.int .u8 102], .lst .tight 1 [.int .u8 r12], .lst .tight 1 [.int .u8 137], .lst .no 1 [.int .u8 (128 + 8 * (src % 8) + base % 8), .int .u8 (disp % 256), .int .u8 (disp / 256 % 256), .int .u8 (disp / 65536 % 256), .int .u8 (disp / 16777216 % 256)]]) 3 (.lst .no 1 [.int .u8 (128 + 8 * (src % 8) + base % 8), .int .u8 (disp % 256), .int .u8 (disp / 256 % 256), .int .u8 (disp / 65536 % 256), .int .u8 (disp / 16777216 % 256)]) rfl, .len 8 2147483648 (by decide), tF]) (by kernel_rfl)).to (by clear E1 E2; (subst_vars; (try simp only [beq_dec] at *); (try simp only [beq_iff_eq] at h); (try simp only [decide_eq_true_eq, decide_eq_false_iff_not] at *); simp_all [wk, wkL, wkO, bytesM, bD, rexM, memM, fourM, w_u8, needM, codeM, numM, shapeM]; done))
  have c17 := @rex_no_ok src base s0 s1 b0 b1 false false h10
  rcases bft (decide (base % 8 = 4)) with h18 | h18
  ·have c19 := @mMem_4_ok src base disp s0 s1 b0 b1 p0 p1 h18
   exact (o102 (d := .tup [.lst (.fresh 1) 1 [.int .u8 102, .int .u8 137, .int .u8 (128 + 8 * (src % 8) + base % 8), .int .u8 36, .int .u8 (disp % 256), .int .u8 (disp / 256 % 256), .int .u8 (disp / 65536 % 256), .int .u8 (disp / 16777216 % 256)], .int .i64 0]) (E2 ++ [tT, .ret _ _ _ c17, .inl, .ret _ _ _ c19, .inl, .go 64, tT, tT, .get ([.lst .tight 1 [.int .u8 102], .lst .tight 1 [], .lst .tight 1 [.int .u8 137], .lst .no 1 [.int .u8 (128 + 8 * (src % 8) + base % 8), .int .u8 36, .int .u8 (disp % 256), .int .u8 (disp / 256 % 256), .int .u8 (disp / 65536 % 256), .int .u8 (disp / 16777216 % 256)]]) 0 (.lst .tight 1 [.int .u8 102]) rfl, .len 1 2147483648 (by decide), tT, tT, .get ([.lst .tight 1 [.int .u8 102], .lst .tight 1 [], .lst .tight 1 [.int .u8 137], .lst .no 1 [.int .u8 (128 + 8 * (src % 8) + base % 8), .int .u8 36, .int .u8 (disp % 256), .int .u8 (disp / 256 % 256), .int .u8 (disp / 65536 % 256), .int .u8 (disp / 16777216 % 256)]]) 1 (.lst .tight 1 []) rfl, .len 1 2147483648 (by decide), tT, tT, .get ([.lst .tight 1 [.int .u8 102], .lst .tight 1 [], .lst .tight 1 [.int .u8 137], .lst .no 1 [.int .u8 (128 + 8 * (src % 8) + base % 8), .int .u8 36, .int .u8 (disp % 256), .int .u8 (disp / 256 % 256), .int .u8 (disp / 65536 % 256), .int .u8 (disp / 16777216 % 256)]]) 2 (.lst .tight 1 [.int .u8 137]) rfl, .len 2 2147483648 (by decide), tT, tT, .get ([.lst .tight 1 [.int .u8 102], .lst .tight 1 [], .lst .tight 1 [.int .u8 137], .lst .no 1 [.int .u8 (128 + 8 * (src % 8) + base % 8), .int .u8 36, .int .u8 (disp % 256), .int .u8 (disp / 256 % 256), .int .u8 (disp / 65536 % 256), .int .u8 (disp / 16777216 % 256)]]) 3 (.lst .no 1 [.int .u8 (128 + 8 * (src % 8) + base % 8), .int .u8 36, .int .u8 (disp % 256), .int .u8 (disp / 256 % 256), .int .u8 (disp / 65536 % 256), .int .u8 (disp / 16777216 % 256)]) rfl, .len 8 2147483648 (by decide), tF]) (by kernel_rfl)).to (by clear E1 E2; (subst_vars; (try simp only [beq_dec] at *); (try simp only [beq_iff_eq] at h); (try simp only [decide_eq_true_eq, decide_eq_false_iff_not] at *); simp_all [wk, wkL, wkO, bytesM, bD, rexM, memM, fourM, w_u8, needM, codeM, numM, shapeM]; done))
  have c20 := @mMem_n_ok src base disp s0 s1 b0 b1 p0 p1 h18
  exact (o102 (d := .tup [.lst (.fresh 1) 1 [.int .u8 102, .int .u8 137, .int .u8 (128 + 8 * (src % 8) + base % 8), .int .u8 (disp % 256), .int .u8 (disp / 256 % 256), .int .u8 (disp / 65536 % 256), .int .u8 (disp / 16777216 % 256)], .int .i64 0]) (E2 ++ [tT, .ret _ _ _ c17, .inl, .ret _ _ _ c20, .inl, .go 64, tT, tT, .get ([.lst .tight 1 [.int .u8 102], .lst .tight 1 [], .lst .tight 1 [.int .u8 137], .lst .no 1 [.int .u8 (128 + 8 * (src % 8) + base % 8), .int .u8 (disp % 256), .int .u8 (disp / 256 % 256), .int .u8 (disp / 65536 % 256), .int .u8 (disp / 16777216 % 256)]]) 0 (.lst .tight 1 [.int .u8 102]) rfl, .len 1 2147483648 (by decide), tT, tT, .get ([.lst .tight 1 [.int .u8 102], .lst .tight 1 [], .lst .tight 1 [.int .u8 137], .lst .no 1 [.int .u8 (128 + 8 * (src % 8) + base % 8), .int .u8 (disp % 256), .int .u8 (disp / 256 % 256), .int .u8 (disp / 65536 % 256), .int .u8 (disp / 16777216 % 256)]]) 1 (.lst .tight 1 []) rfl, .len 1 2147483648 (by decide), tT, tT, .get ([.lst .tight 1 [.int .u8 102], .lst .tight 1 [], .lst .tight 1 [.int .u8 137], .lst .no 1 [.int .u8 (128 + 8 * (src % 8) + base % 8), .int .u8 (disp % 256), .int .u8 (disp / 256 % 256), .int .u8 (disp / 65536 % 256), .int .u8 (disp / 16777216 % 256)]]) 2 (.lst .tight 1 [.int .u8 137]) rfl, .len 2 2147483648 (by decide), tT, tT, .get ([.lst .tight 1 [.int .u8 102], .lst .tight 1 [], .lst .tight 1 [.int .u8 137], .lst .no 1 [.int .u8 (128 + 8 * (src % 8) + base % 8), .int .u8 (disp % 256), .int .u8 (disp / 256 % 256), .int .u8 (disp / 65536 % 256), .int .u8 (disp / 16777216 % 256)]]) 3 (.lst .no 1 [.int .u8 (128 + 8 * (src % 8) + base % 8), .int .u8 (disp % 256), .int .u8 (disp / 256 % 256), .int .u8 (disp / 65536 % 256), .int .u8 (disp / 16777216 % 256)]) rfl, .len 7 2147483648 (by decide), tF]) (by kernel_rfl)).to (by clear E1 E2; (subst_vars; (try simp only [beq_dec] at *); (try simp only [beq_iff_eq] at h); (try simp only [decide_eq_true_eq, decide_eq_false_iff_not] at *); simp_all [wk, wkL, wkO, bytesM, bD, rexM, memM, fourM, w_u8, needM, codeM, numM, shapeM]; done))
 rcases bft (needM (w == 64) src base (w == 8)) with h21 | h21
 ·have c22 := @rex_yes_ok src base s0 s1 b0 b1 (w == 64) (w == 8) h21
  generalize g24 : rexB (w == 64) src base = r23 at c22
  rcases bft (decide (base % 8 = 4)) with h25 | h25
  ·have c26 := @mMem_4_ok src base disp s0 s1 b0 b1 p0 p1 h25
   exact (o102 (d := .tup [.lst (.fresh 1) 1 [.int .u8 r23, .int .u8 137, .int .u8 (128 + 8 * (src % 8) + base % 8), .int .u8 36, .int .u8 (disp % 256), .int .u8 (disp / 256 % 256), .int .u8 (disp / 65536 % 256), .int .u8 (disp / 16777216 % 256)], .int .i64 0]) (E2 ++ [tC (neOf h9), .ret _ _ _ c22, .inl, .ret _ _ _ c26, .inl, .go 64, tT, tT, .get ([.lst .tight 0 [], .lst .tight 1 [.int .u8 r23], .lst .tight 1 [.int .u8 137], .lst .no 1 [.int .u8 (128 + 8 * (src % 8) + base % 8), .int .u8 36, .int .u8 (disp % 256), .int .u8 (disp / 256 % 256), .int .u8 (disp / 65536 % 256), .int .u8 (disp / 16777216 % 256)]]) 0 (.lst .tight 0 []) rfl, .len 0 2147483648 (by decide), tT, tT, .get ([.lst .tight 0 [], .lst .tight 1 [.int .u8 r23], .lst .tight 1 [.int .u8 137], .lst .no 1 [.int .u8 (128 + 8 * (src % 8) + base % 8), .int .u8 36, .int .u8 (disp % 256), .int .u8 (disp / 256 % 256), .int .u8 (disp / 65536 % 256), .int .u8 (disp / 16777216 % 256)]]) 1 (.lst .tight 1 [.int .u8 r23]) rfl, .len 1 2147483648 (by decide), tT, tT, .get ([.lst .tight 0 [], .lst .tight 1 [.int .u8 r23], .lst .tight 1 [.int .u8 137], .lst .no 1 [.int .u8 (128 + 8 * (src % 8) + base % 8), .int .u8 36, .int .u8 (disp % 256), .int .u8 (disp / 256 % 256), .int .u8 (disp / 65536 % 256), .int .u8 (disp / 16777216 % 256)]]) 2 (.lst .tight 1 [.int .u8 137]) rfl, .len 2 2147483648 (by decide), tT, tT, .get ([.lst .tight 0 [], .lst .tight 1 [.int .u8 r23], .lst .tight 1 [.int .u8 137], .lst .no 1 [.int .u8 (128 + 8 * (src % 8) + base % 8), .int .u8 36, .int .u8 (disp % 256), .int .u8 (disp / 256 % 256), .int .u8 (disp / 65536 % 256), .int .u8 (disp / 16777216 % 256)]]) 3 (.lst .no 1 [.int .u8 (128 + 8 * (src % 8) + base % 8), .int .u8 36, .int .u8 (disp % 256), .int .u8 (disp / 256 % 256), .int .u8 (disp / 65536 % 256), .int .u8 (disp / 16777216 % 256)]) rfl, .len 8 2147483648 (by decide), tF]) (by kernel_rfl)).to (by clear E1 E2; (subst_vars; (try simp only [beq_dec] at *); (try simp only [beq_iff_eq] at h); (try simp only [decide_eq_true_eq, decide_eq_false_iff_not] at *); simp_all [wk, wkL, wkO, bytesM, bD, rexM, memM, fourM, w_u8, needM, codeM, numM, shapeM]; done))
  have c27 := @mMem_n_ok src base disp s0 s1 b0 b1 p0 p1 h25
  exact (o102 (d := .tup [.lst (.fresh 1) 1 [.int .u8 r23, .int .u8 137, .int .u8 (128 + 8 * (src % 8) + base % 8), .int .u8 (disp % 256), .int .u8 (disp / 256 % 256), .int .u8 (disp / 65536 % 256), .int .u8 (disp / 16777216 % 256)], .int .i64 0]) (E2 ++ [tC (neOf h9), .ret _ _ _ c22, .inl, .ret _ _ _ c27, .inl, .go 64, tT, tT, .get ([.lst .tight 0 [], .lst .tight 1 [.int .u8 r23], .lst .tight 1 [.int .u8 137], .lst .no 1 [.int .u8 (128 + 8 * (src % 8) + base % 8), .int .u8 (disp % 256), .int .u8 (disp / 256 % 256), .int .u8 (disp / 65536 % 256), .int .u8 (disp / 16777216 % 256)]]) 0 (.lst .tight 0 []) rfl, .len 0 2147483648 (by decide), tT, tT, .get ([.lst .tight 0 [], .lst .tight 1 [.int .u8 r23], .lst .tight 1 [.int .u8 137], .lst .no 1 [.int .u8 (128 + 8 * (src % 8) + base % 8), .int .u8 (disp % 256), .int .u8 (disp / 256 % 256), .int .u8 (disp / 65536 % 256), .int .u8 (disp / 16777216 % 256)]]) 1 (.lst .tight 1 [.int .u8 r23]) rfl, .len 1 2147483648 (by decide), tT, tT, .get ([.lst .tight 0 [], .lst .tight 1 [.int .u8 r23], .lst .tight 1 [.int .u8 137], .lst .no 1 [.int .u8 (128 + 8 * (src % 8) + base % 8), .int .u8 (disp % 256), .int .u8 (disp / 256 % 256), .int .u8 (disp / 65536 % 256), .int .u8 (disp / 16777216 % 256)]]) 2 (.lst .tight 1 [.int .u8 137]) rfl, .len 2 2147483648 (by decide), tT, tT, .get ([.lst .tight 0 [], .lst .tight 1 [.int .u8 r23], .lst .tight 1 [.int .u8 137], .lst .no 1 [.int .u8 (128 + 8 * (src % 8) + base % 8), .int .u8 (disp % 256), .int .u8 (disp / 256 % 256), .int .u8 (disp / 65536 % 256), .int .u8 (disp / 16777216 % 256)]]) 3 (.lst .no 1 [.int .u8 (128 + 8 * (src % 8) + base % 8), .int .u8 (disp % 256), .int .u8 (disp / 256 % 256), .int .u8 (disp / 65536 % 256), .int .u8 (disp / 16777216 % 256)]) rfl, .len 7 2147483648 (by decide), tF]) (by kernel_rfl)).to (by clear E1 E2; (subst_vars; (try simp only [beq_dec] at *); (try simp only [beq_iff_eq] at h); (try simp only [decide_eq_true_eq, decide_eq_false_iff_not] at *); simp_all [wk, wkL, wkO, bytesM, bD, rexM, memM, fourM, w_u8, needM, codeM, numM, shapeM]; done))
 have c28 := @rex_no_ok src base s0 s1 b0 b1 (w == 64) (w == 8) h21
 rcases bft (decide (base % 8 = 4)) with h29 | h29
 ·have c30 := @mMem_4_ok src base disp s0 s1 b0 b1 p0 p1 h29
  exact (o102 (d := .tup [.lst (.fresh 1) 1 [.int .u8 137, .int .u8 (128 + 8 * (src % 8) + base % 8), .int .u8 36, .int .u8 (disp % 256), .int .u8 (disp / 256 % 256), .int .u8 (disp / 65536 % 256), .int .u8 (disp / 16777216 % 256)], .int .i64 0]) (E2 ++ [tC (neOf h9), .ret _ _ _ c28, .inl, .ret _ _ _ c30, .inl, .go 64, tT, tT, .get ([.lst .tight 0 [], .lst .tight 1 [], .lst .tight 1 [.int .u8 137], .lst .no 1 [.int .u8 (128 + 8 * (src % 8) + base % 8), .int .u8 36, .int .u8 (disp % 256), .int .u8 (disp / 256 % 256), .int .u8 (disp / 65536 % 256), .int .u8 (disp / 16777216 % 256)]]) 0 (.lst .tight 0 []) rfl, .len 0 2147483648 (by decide), tT, tT, .get ([.lst .tight 0 [], .lst .tight 1 [], .lst .tight 1 [.int .u8 137], .lst .no 1 [.int .u8 (128 + 8 * (src % 8) + base % 8), .int .u8 36, .int .u8 (disp % 256), .int .u8 (disp / 256 % 256), .int .u8 (disp / 65536 % 256), .int .u8 (disp / 16777216 % 256)]]) 1 (.lst .tight 1 []) rfl, .len 0 2147483648 (by decide), tT, tT, .get ([.lst .tight 0 [], .lst .tight 1 [], .lst .tight 1 [.int .u8 137], .lst .no 1 [.int .u8 (128 + 8 * (src % 8) + base % 8), .int .u8 36, .int .u8 (disp % 256), .int .u8 (disp / 256 % 256), .int .u8 (disp / 65536 % 256), .int .u8 (disp / 16777216 % 256)]]) 2 (.lst .tight 1 [.int .u8 137]) rfl, .len 1 2147483648 (by decide), tT, tT, .get ([.lst .tight 0 [], .lst .tight 1 [], .lst .tight 1 [.int .u8 137], .lst .no 1 [.int .u8 (128 + 8 * (src % 8) + base % 8), .int .u8 36, .int .u8 (disp % 256), .int .u8 (disp / 256 % 256), .int .u8 (disp / 65536 % 256), .int .u8 (disp / 16777216 % 256)]]) 3 (.lst .no 1 [.int .u8 (128 + 8 * (src % 8) + base % 8), .int .u8 36, .int .u8 (disp % 256), .int .u8 (disp / 256 % 256), .int .u8 (disp / 65536 % 256), .int .u8 (disp / 16777216 % 256)]) rfl, .len 7 2147483648 (by decide), tF]) (by kernel_rfl)).to (by clear E1 E2; (subst_vars; (try simp only [beq_dec] at *); (try simp only [beq_iff_eq] at h); (try simp only [decide_eq_true_eq, decide_eq_false_iff_not] at *); simp_all [wk, wkL, wkO, bytesM, bD, rexM, memM, fourM, w_u8, needM, codeM, numM, shapeM]; done))
 have c31 := @mMem_n_ok src base disp s0 s1 b0 b1 p0 p1 h29
 exact (o102 (d := .tup [.lst (.fresh 1) 1 [.int .u8 137, .int .u8 (128 + 8 * (src % 8) + base % 8), .int .u8 (disp % 256), .int .u8 (disp / 256 % 256), .int .u8 (disp / 65536 % 256), .int .u8 (disp / 16777216 % 256)], .int .i64 0]) (E2 ++ [tC (neOf h9), .ret _ _ _ c28, .inl, .ret _ _ _ c31, .inl, .go 64, tT, tT, .get ([.lst .tight 0 [], .lst .tight 1 [], .lst .tight 1 [.int .u8 137], .lst .no 1 [.int .u8 (128 + 8 * (src % 8) + base % 8), .int .u8 (disp % 256), .int .u8 (disp / 256 % 256), .int .u8 (disp / 65536 % 256), .int .u8 (disp / 16777216 % 256)]]) 0 (.lst .tight 0 []) rfl, .len 0 2147483648 (by decide), tT, tT, .get ([.lst .tight 0 [], .lst .tight 1 [], .lst .tight 1 [.int .u8 137], .lst .no 1 [.int .u8 (128 + 8 * (src % 8) + base % 8), .int .u8 (disp % 256), .int .u8 (disp / 256 % 256), .int .u8 (disp / 65536 % 256), .int .u8 (disp / 16777216 % 256)]]) 1 (.lst .tight 1 []) rfl, .len 0 2147483648 (by decide), tT, tT, .get ([.lst .tight 0 [], .lst .tight 1 [], .lst .tight 1 [.int .u8 137], .lst .no 1 [.int .u8 (128 + 8 * (src % 8) + base % 8), .int .u8 (disp % 256), .int .u8 (disp / 256 % 256), .int .u8 (disp / 65536 % 256), .int .u8 (disp / 16777216 % 256)]]) 2 (.lst .tight 1 [.int .u8 137]) rfl, .len 1 2147483648 (by decide), tT, tT, .get ([.lst .tight 0 [], .lst .tight 1 [], .lst .tight 1 [.int .u8 137], .lst .no 1 [.int .u8 (128 + 8 * (src % 8) + base % 8), .int .u8 (disp % 256), .int .u8 (disp / 256 % 256), .int .u8 (disp / 65536 % 256), .int .u8 (disp / 16777216 % 256)]]) 3 (.lst .no 1 [.int .u8 (128 + 8 * (src % 8) + base % 8), .int .u8 (disp % 256), .int .u8 (disp / 256 % 256), .int .u8 (disp / 65536 % 256), .int .u8 (disp / 16777216 % 256)]) rfl, .len 6 2147483648 (by decide), tF]) (by kernel_rfl)).to (by clear E1 E2; (subst_vars; (try simp only [beq_dec] at *); (try simp only [beq_iff_eq] at h); (try simp only [decide_eq_true_eq, decide_eq_false_iff_not] at *); simp_all [wk, wkL, wkO, bytesM, bD, rexM, memM, fourM, w_u8, needM, codeM, numM, shapeM]; done))
end Go.Proofs.YtojgmjfcfpclbaaGreat

namespace Go.Proofs.YtojgmjfcfpclbaaGreat
open Go Go.Ev
set_option maxRecDepth 100000
set_option maxHeartbeats 8000000
def SpXB2e0 (k0_ : Int) : Prop := ∀ (w dst src base disp imm cc : Int) (d0 : 0 ≤ dst) (d1 : dst ≤ 15) (s0 : 0 ≤ src) (s1 : src ≤ 15) (b0 : 0 ≤ base) (b1 : base ≤ 15) (p0 : -2147483648 ≤ disp) (p1 : disp ≤ 2147483647) (i0 : -2147483648 ≤ imm) (i1 : imm ≤ 2147483647) (c0 : 0 ≤ cc) (c1 : cc ≤ 15) (hm : mayX k0_ w dst src base disp imm cc = true), Ret Tryz.prog 102 ([xD k0_ w dst src base disp imm cc]) (.tup [.lst .no 1 (bD (bytesM k0_ w dst src base disp imm cc)), .int .i64 0])
theorem bytesO_28_ok : SpXB2e0 28 := by
 intro w dst src base disp imm cc d0 d1 s0 s1 b0 b1 p0 p1 i0 i1 c0 c1 hm
 have c0 := @mayX_ok 28 w dst src base disp imm cc (by decide)
 rw [show (mayX 28 w dst src base disp imm cc) = true from hm] at c0
 have c1 := @of_any_ok 28 (by decide)
 by_cases h2 : w = 8
 ·subst h2
  exact (o102 (d := .tup [.lst .tight 1 [.int .u8 235, .int .u8 (IntKind.wrap IntKind.u8 imm)], .int .i64 0]) ([.ret _ _ _ c0, tF, .ret _ _ _ c1] ++ List.replicate 8 tF ++ [tT, tT]) (by kernel_rfl)).to (by (subst_vars; (try simp only [beq_dec] at *); (try simp only [beq_iff_eq] at h); (try simp only [decide_eq_true_eq, decide_eq_false_iff_not] at *); simp_all [wk, wkL, wkO, bytesM, show shapeM 28 = 9 from rfl, bD, rexM, memM, fourM, w_u8]; done))
 have c3 := @four_ok imm
 exact (o102 (d := .tup [.lst (.fresh 1) 1 [.int .u8 233, .int .u8 (imm % 256), .int .u8 (imm / 256 % 256), .int .u8 (imm / 65536 % 256), .int .u8 (imm / 16777216 % 256)], .int .i64 0]) ([.ret _ _ _ c0, tF, .ret _ _ _ c1] ++ List.replicate 8 tF ++ [tT, tC (neOf h2), .ret _ _ _ c3, .inl, .go 64, tT, tT, .get ([.lst .tight 1 [.int .u8 233], .lst .no 1 [.int .u8 (imm % 256), .int .u8 (imm / 256 % 256), .int .u8 (imm / 65536 % 256), .int .u8 (imm / 16777216 % 256)]]) 0 (.lst .tight 1 [.int .u8 233]) rfl, .len 1 2147483648 (by decide), tT, tT, .get ([.lst .tight 1 [.int .u8 233], .lst .no 1 [.int .u8 (imm % 256), .int .u8 (imm / 256 % 256), .int .u8 (imm / 65536 % 256), .int .u8 (imm / 16777216 % 256)]]) 1 (.lst .no 1 [.int .u8 (imm % 256), .int .u8 (imm / 256 % 256), .int .u8 (imm / 65536 % 256), .int .u8 (imm / 16777216 % 256)]) rfl, .len 5 2147483648 (by decide), tF]) (by kernel_rfl)).to (by (subst_vars; (try simp only [beq_dec] at *); (try simp only [beq_iff_eq] at h); (try simp only [decide_eq_true_eq, decide_eq_false_iff_not] at *); simp_all [wk, wkL, wkO, bytesM, show shapeM 28 = 9 from rfl, bD, rexM, memM, fourM, w_u8]; done))
theorem bytesO_29_ok : SpXB2e0 29 := by
 intro w dst src base disp imm cc d0 d1 s0 s1 b0 b1 p0 p1 i0 i1 c0 c1 hm
 have c0 := @mayX_ok 29 w dst src base disp imm cc (by decide)
 rw [show (mayX 29 w dst src base disp imm cc) = true from hm] at c0
 have c1 := @of_any_ok 29 (by decide)
 by_cases h2 : w = 8
 ·subst h2
  exact (o102 (d := .tup [.lst .tight 1 [.int .u8 (IntKind.wrap IntKind.u8 (112 + IntKind.wrap IntKind.u8 cc)), .int .u8 (IntKind.wrap IntKind.u8 imm)], .int .i64 0]) ([.ret _ _ _ c0, tF, .ret _ _ _ c1] ++ List.replicate 9 tF ++ [tT, tT]) (by kernel_rfl)).to (by (subst_vars; (try simp only [beq_dec] at *); (try simp only [beq_iff_eq] at h); (try simp only [decide_eq_true_eq, decide_eq_false_iff_not] at *); simp_all [wk, wkL, wkO, bytesM, show shapeM 29 = 10 from rfl, bD, rexM, memM, fourM, w_u8]; omega))
 have c3 := @four_ok imm
 exact (o102 (d := .tup [.lst (.fresh 1) 1 [.int .u8 15, .int .u8 (IntKind.wrap IntKind.u8 (128 + IntKind.wrap IntKind.u8 cc)), .int .u8 (imm % 256), .int .u8 (imm / 256 % 256), .int .u8 (imm / 65536 % 256), .int .u8 (imm / 16777216 % 256)], .int .i64 0]) ([.ret _ _ _ c0, tF, .ret _ _ _ c1] ++ List.replicate 9 tF ++ [tT, tC (neOf h2), .ret _ _ _ c3, .inl, .go 64, tT, tT, .get ([.lst .tight 1 [.int .u8 15, .int .u8 (IntKind.wrap IntKind.u8 (128 + IntKind.wrap IntKind.u8 cc))], .lst .no 1 [.int .u8 (imm % 256), .int .u8 (imm / 256 % 256), .int .u8 (imm / 65536 % 256), .int .u8 (imm / 16777216 % 256)]]) 0 (.lst .tight 1 [.int .u8 15, .int .u8 (IntKind.wrap IntKind.u8 (128 + IntKind.wrap IntKind.u8 cc))]) rfl, .len 2 2147483648 (by decide), tT, tT, .get ([.lst .tight 1 [.int .u8 15, .int .u8 (IntKind.wrap IntKind.u8 (128 + IntKind.wrap IntKind.u8 cc))], .lst .no 1 [.int .u8 (imm % 256), .int .u8 (imm / 256 % 256), .int .u8 (imm / 65536 % 256), .int .u8 (imm / 16777216 % 256)]]) 1 (.lst .no 1 [.int .u8 (imm % 256), .int .u8 (imm / 256 % 256), .int .u8 (imm / 65536 % 256), .int .u8 (imm / 16777216 % 256)]) rfl, .len 6 2147483648 (by decide), tF]) (by kernel_rfl)).to (by (subst_vars; (try simp only [beq_dec] at *); (try simp only [beq_iff_eq] at h); (try simp only [decide_eq_true_eq, decide_eq_false_iff_not] at *); simp_all [wk, wkL, wkO, bytesM, show shapeM 29 = 10 from rfl, bD, rexM, memM, fourM, w_u8]; omega))
theorem bytesO_30_ok : SpXB2e0 30 := by
 intro w dst src base disp imm cc d0 d1 s0 s1 b0 b1 p0 p1 i0 i1 c0 c1 hm
 have c0 := @mayX_ok 30 w dst src base disp imm cc (by decide)
 rw [show (mayX 30 w dst src base disp imm cc) = true from hm] at c0
 have c1 := @of_any_ok 30 (by decide)
 exact (o102 (d := .tup [.lst .tight 1 [.int .u8 195], .int .i64 0]) ([.ret _ _ _ c0, tF, .ret _ _ _ c1] ++ List.replicate 11 tF) (by kernel_rfl)).to (by (subst_vars; (try simp only [beq_dec] at *); (try simp only [beq_iff_eq] at h); (try simp only [decide_eq_true_eq, decide_eq_false_iff_not] at *); simp_all [wk, wkL, wkO, bytesM, show shapeM 30 = 11 from rfl, bD, rexM, memM, fourM, w_u8]; done))
theorem bytesO_31_ok : SpXB2e0 31 := by
 intro w dst src base disp imm cc d0 d1 s0 s1 b0 b1 p0 p1 i0 i1 c0 c1 hm
 have c0 := @mayX_ok 31 w dst src base disp imm cc (by decide)
 rw [show (mayX 31 w dst src base disp imm cc) = true from hm] at c0
 have c1 := @of_any_ok 31 (by decide)
 exact (o102 (d := .tup [.lst .tight 1 [.int .u8 15, .int .u8 5], .int .i64 0]) ([.ret _ _ _ c0, tF, .ret _ _ _ c1] ++ List.replicate 10 tF ++ [tT]) (by kernel_rfl)).to (by (subst_vars; (try simp only [beq_dec] at *); (try simp only [beq_iff_eq] at h); (try simp only [decide_eq_true_eq, decide_eq_false_iff_not] at *); simp_all [wk, wkL, wkO, bytesM, show shapeM 31 = 11 from rfl, bD, rexM, memM, fourM, w_u8]; done))
end Go.Proofs.YtojgmjfcfpclbaaGreat

namespace Go.Proofs.YtojgmjfcfpclbaaGreat
open Go Go.Ev
theorem num_range (op : Int) : 0 ≤ numM op ∧ numM op ≤ 7 := by
 unfold numM
 repeat' split
 all_goals omega
theorem mayX_cc {op w dst src base disp imm cc : Int} (h : mayX op w dst src base disp imm cc = true) : 0 ≤ cc ∧ cc ≤ 15 := by
 have hs := (mayX_parts h).2
 unfold mayS at hs
 repeat' split at hs
 all_goals first | (cases hs; done) | (simp only [ccM, Bool.and_eq_true, decide_eq_true_eq] at hs; omega)
theorem bytes_may_ok (op w dst src base disp imm cc : Int) (ho : op ≤ 127) (hm : mayX op w dst src base disp imm cc = true) :
  Ret Tryz.prog 102 [xD op w dst src base disp imm cc] (.tup [.lst .no 1 (bD (bytesM op w dst src base disp imm cc)), .int .i64 0]) := by
 obtain ⟨⟨d0, d1, s0, s1, b0, b1, p0, p1, i0, i1⟩, hs⟩ := mayX_parts hm
 obtain ⟨c0, c1⟩ := mayX_cc hm
 obtain ⟨n0, n1⟩ := num_range op
 have hsh : shapeM op ≠ 0 := by
  intro e
  rw [e] at hs
  simp [mayS] at hs
 obtain ⟨k, e⟩ := op_fin hsh
 have hin : decide (0 ≤ op ∧ op ≤ 31) = true := by rw [e]; simp; omega
 have hr := shape_range k
 rw [← e] at hr
 rcases hr with h | h | h | h | h | h | h | h | h | h | h
 ·exact bytes_1_ok _ _ _ _ _ _ _ _ ho d0 d1 s0 s1 b0 b1 p0 p1 i0 i1 c0 c1 n0 n1 (by rw [h]; rfl) hin hm
 ·have e2 : op = 16 := by
   rw [e] at h ⊢
   revert h
   exact (by decide +kernel : ∀ n : Fin 32, shapeM (n.val : Int) = 2 → (n.val : Int) = 16) k
  subst e2
  exact bytesO_16_ok _ _ _ _ _ _ _ d0 d1 s0 s1 b0 b1 p0 p1 i0 i1 c0 c1 hm
 ·exact bytes_3_ok _ _ _ _ _ _ _ _ ho d0 d1 s0 s1 b0 b1 p0 p1 i0 i1 c0 c1 n0 n1 (by rw [h]; rfl) hin (long_cases (by rw [h] at hs; simp [mayS] at hs; exact hs.1)) hm
 ·exact bytes_4_ok _ _ _ _ _ _ _ _ ho d0 d1 s0 s1 b0 b1 p0 p1 i0 i1 c0 c1 n0 n1 (by rw [h]; rfl) hin hm
 ·exact bytes_5_ok _ _ _ _ _ _ _ _ ho d0 d1 s0 s1 b0 b1 p0 p1 i0 i1 c0 c1 n0 n1 (by rw [h]; rfl) hin hm
 ·have e2 : op = 25 := by rw [e] at h ⊢; exact shape_6 k h
  subst e2
  exact bytesO_25_ok _ _ _ _ _ _ _ d0 d1 s0 s1 b0 b1 p0 p1 i0 i1 c0 c1 hm
 ·have e2 : op = 26 := by rw [e] at h ⊢; exact shape_7 k h
  subst e2
  exact bytesO_26_ok _ _ _ _ _ _ _ d0 d1 s0 s1 b0 b1 p0 p1 i0 i1 c0 c1 hm
 ·have e2 : op = 27 := by rw [e] at h ⊢; exact shape_8 k h
  subst e2
  exact bytesO_27_ok _ _ _ _ _ _ _ d0 d1 s0 s1 b0 b1 p0 p1 i0 i1 c0 c1 hm
 ·have e2 : op = 28 := by rw [e] at h ⊢; exact shape_9 k h
  subst e2
  exact bytesO_28_ok _ _ _ _ _ _ _ d0 d1 s0 s1 b0 b1 p0 p1 i0 i1 c0 c1 hm
 ·have e2 : op = 29 := by rw [e] at h ⊢; exact shape_10 k h
  subst e2
  exact bytesO_29_ok _ _ _ _ _ _ _ d0 d1 s0 s1 b0 b1 p0 p1 i0 i1 c0 c1 hm
 ·rcases shape_11 k (by rw [e] at h; exact h) with e2 | e2
  ·rw [← e] at e2; subst e2
   exact bytesO_30_ok _ _ _ _ _ _ _ d0 d1 s0 s1 b0 b1 p0 p1 i0 i1 c0 c1 hm
  ·rw [← e] at e2; subst e2
   exact bytesO_31_ok _ _ _ _ _ _ _ d0 d1 s0 s1 b0 b1 p0 p1 i0 i1 c0 c1 hm
end Go.Proofs.YtojgmjfcfpclbaaGreat

namespace Go.Proofs.YtojgmjfcfpclbaaGreat
open Go Go.Ev
set_option maxRecDepth 100000
set_option maxHeartbeats 8000000
theorem bytes_no_ok (op w dst src base disp imm cc : Int) (ho : op ≤ 127) (hm : mayX op w dst src base disp imm cc = false) : Ret Tryz.prog 102 ([xD op w dst src base disp imm cc]) (.tup [.lst .no 1 [], .int .i64 2]) := by
 have c0 := @mayX_ok op w dst src base disp imm cc ho
 rw [show (mayX op w dst src base disp imm cc) = false from hm] at c0
 exact (o102 (d := .tup [.lst .tight 0 [], .int .i64 2]) [.ret _ _ _ c0, tT] (by kernel_rfl)).to (by simp [wk, wkL, wkO])
end Go.Proofs.YtojgmjfcfpclbaaGreat

namespace Go.Proofs.YtojgmjfcfpclbaaGreat
open Go Go.Ev
theorem bytes_any_ok (op w dst src base disp imm cc : Int) (ho : op ≤ 127) : Ret Tryz.prog 102 [xD op w dst src base disp imm cc] (.tup [.lst .no 1 (bytesL op w dst src base disp imm cc), .int .i64 (bytesE op w dst src base disp imm cc)]) := by
 unfold bytesL bytesE
 cases h : mayX op w dst src base disp imm cc
 ·exact bytes_no_ok op w dst src base disp imm cc ho h
 ·exact bytes_may_ok op w dst src base disp imm cc ho h
end Go.Proofs.YtojgmjfcfpclbaaGreat

namespace Go.Proofs.YtojgmjfcfpclbaaGreat
open Go Go.Ev
set_option maxRecDepth 100000
set_option maxHeartbeats 8000000
theorem set1_ok (a : Int) (a0 : 0 ≤ a) (a1 : a ≤ 15) : Ret Tryz.prog 165 ([.lst .tight 1 [.int .i8 a]]) (.int .i64 (sh8 a)) := by
 exact (o165 (d := D.int IntKind.i64 (IntKind.wrap IntKind.i64 (↑(BitVec.toNat (BitVec.ofInt (64 : Nat) 0 ||| BitVec.ofInt (64 : Nat) (IntKind.wrap IntKind.i64 (1 * 2 ^ min (Int.toNat a) (64 : Nat))))) : Int))) [.go 64, tT, tT, .get ([D.int IntKind.i8 a]) 0 (D.int IntKind.i8 a) rfl, tC (v := true) (leL 0 (decide_eq_false (Int.not_lt.2 a0))), tF] (by kernel_rfl)).to (by simp only [wk, D.int.injEq, true_and]; obtain ⟨n_a, rfl⟩ := fin16 a0 a1; clear a0 a1; revert n_a; decide +kernel)
theorem set2_ok (a : Int) (a0 : 0 ≤ a) (a1 : a ≤ 15) (b : Int) (b0 : 0 ≤ b) (b1 : b ≤ 15) : Ret Tryz.prog 165 ([.lst .tight 1 [.int .i8 a, .int .i8 b]]) (.int .i64 (or64 (sh8 a) (sh8 b))) := by
 exact (o165 (d := D.int IntKind.i64 (IntKind.wrap IntKind.i64 (↑(BitVec.toNat (BitVec.ofInt (64 : Nat) (IntKind.wrap IntKind.i64 (↑(BitVec.toNat (BitVec.ofInt (64 : Nat) 0 ||| BitVec.ofInt (64 : Nat) (IntKind.wrap IntKind.i64 (1 * 2 ^ min (Int.toNat a) (64 : Nat))))) : Int)) ||| BitVec.ofInt (64 : Nat) (IntKind.wrap IntKind.i64 (1 * 2 ^ min (Int.toNat b) (64 : Nat))))) : Int))) [.go 64, tT, tT, .get ([D.int IntKind.i8 a, D.int IntKind.i8 b]) 0 (D.int IntKind.i8 a) rfl, tC (v := true) (leL 0 (decide_eq_false (Int.not_lt.2 a0))), tT, tT, .get ([D.int IntKind.i8 a, D.int IntKind.i8 b]) 1 (D.int IntKind.i8 b) rfl, tC (v := true) (leL 0 (decide_eq_false (Int.not_lt.2 b0))), tF] (by kernel_rfl)).to (by simp only [wk, D.int.injEq, true_and]; obtain ⟨n_a, rfl⟩ := fin16 a0 a1; obtain ⟨n_b, rfl⟩ := fin16 b0 b1; clear a0 a1 b0 b1; revert n_a n_b; decide +kernel)
theorem set3_ok (a : Int) (a0 : 0 ≤ a) (a1 : a ≤ 15) : Ret Tryz.prog 165 ([.lst .tight 1 [.int .i8 a, .int .i8 0, .int .i8 2]]) (.int .i64 (or64 (or64 (sh8 a) (sh8 0)) (sh8 2))) := by
 exact (o165 (d := D.int IntKind.i64 (IntKind.wrap IntKind.i64 (↑(BitVec.toNat (BitVec.ofInt (64 : Nat) (IntKind.wrap IntKind.i64 (↑(BitVec.toNat (BitVec.ofInt (64 : Nat) (IntKind.wrap IntKind.i64 (↑(BitVec.toNat (BitVec.ofInt (64 : Nat) 0 ||| BitVec.ofInt (64 : Nat) (IntKind.wrap IntKind.i64 (1 * 2 ^ min (Int.toNat a) (64 : Nat))))) : Int)) ||| BitVec.ofInt (64 : Nat) 1)) : Int)) ||| BitVec.ofInt (64 : Nat) 4)) : Int))) [.go 64, tT, tT, .get ([D.int IntKind.i8 a, D.int IntKind.i8 0, D.int IntKind.i8 2]) 0 (D.int IntKind.i8 a) rfl, tC (v := true) (leL 0 (decide_eq_false (Int.not_lt.2 a0))), tT, tT, .get ([D.int IntKind.i8 a, D.int IntKind.i8 0, D.int IntKind.i8 2]) 1 (D.int IntKind.i8 0) rfl, tT, tT, tT, .get ([D.int IntKind.i8 a, D.int IntKind.i8 0, D.int IntKind.i8 2]) 2 (D.int IntKind.i8 2) rfl, tT, tF] (by kernel_rfl)).to (by simp only [wk, D.int.injEq, true_and]; obtain ⟨n_a, rfl⟩ := fin16 a0 a1; clear a0 a1; revert n_a; decide +kernel)
theorem rbit_ok (a : Int) (a0 : 0 ≤ a) (a1 : a ≤ 15) : Ret Tryz.prog 135 ([.int .i8 a]) (.int .i64 (sh8 a)) := by
 exact (o135 (d := D.int IntKind.i64 (IntKind.wrap IntKind.i64 (1 * 2 ^ min (Int.toNat (IntKind.wrap IntKind.u64 a)) (64 : Nat)))) [tC (v := true) (@nn_u64 a)] (by kernel_rfl)).to (by simp only [wk, D.int.injEq, true_and]; obtain ⟨n_a, rfl⟩ := fin16 a0 a1; clear a0 a1; revert n_a; decide +kernel)
end Go.Proofs.YtojgmjfcfpclbaaGreat

namespace Go.Proofs.YtojgmjfcfpclbaaGreat
open Go Go.Ev
set_option maxRecDepth 100000
set_option maxHeartbeats 8000000
def SpXS20 (k0_ : Int) (k1_ : Nat) : Prop := ∀ (w dst src base disp imm cc : Int) (d0 : 0 ≤ dst) (d1 : dst ≤ 15) (s0 : 0 ≤ src) (s1 : src ≤ 15) (b0 : 0 ≤ base) (b1 : base ≤ 15) (hm : mayX k0_ w dst src base disp imm cc = true), Ret Tryz.prog k1_ ([xD k0_ w dst src base disp imm cc]) (.int .i64 (readsX k0_ dst src base))
theorem reads_0_ok : SpXS20 0 130 := by
 intro w dst src base disp imm cc d0 d1 s0 s1 b0 b1 hm
 have c0 := @mayX_ok 0 w dst src base disp imm cc (by decide)
 rw [hm] at c0
 have c1 := @of_any_ok 0 (by decide)
 have c2 := @set1_ok src s0 s1
 exact (o130 (d := .int .i64 (sh8 src)) [.ret _ _ _ c0, tF, .ret _ _ _ c1, tT, tT, tT, .ret _ _ _ c2] (by kernel_rfl)).to (by rfl)
theorem reads_1_ok : SpXS20 1 130 := by
 intro w dst src base disp imm cc d0 d1 s0 s1 b0 b1 hm
 have c0 := @mayX_ok 1 w dst src base disp imm cc (by decide)
 rw [hm] at c0
 have c1 := @of_any_ok 1 (by decide)
 exact (o130 (d := .int .i64 0) [.ret _ _ _ c0, tF, .ret _ _ _ c1, tF, tF, tF, tT, tT, tT] (by kernel_rfl)).to (by rfl)
theorem reads_2_ok : SpXS20 2 130 := by
 intro w dst src base disp imm cc d0 d1 s0 s1 b0 b1 hm
 have c0 := @mayX_ok 2 w dst src base disp imm cc (by decide)
 rw [hm] at c0
 have c1 := @of_any_ok 2 (by decide)
 have c2 := @set2_ok dst d0 d1 src s0 s1
 exact (o130 (d := .int .i64 (or64 (sh8 dst) (sh8 src))) [.ret _ _ _ c0, tF, .ret _ _ _ c1, tT, tT, tF, .ret _ _ _ c2] (by kernel_rfl)).to (by rfl)
theorem reads_3_ok : SpXS20 3 130 := by
 intro w dst src base disp imm cc d0 d1 s0 s1 b0 b1 hm
 have c0 := @mayX_ok 3 w dst src base disp imm cc (by decide)
 rw [hm] at c0
 have c1 := @of_any_ok 3 (by decide)
 have c2 := @set2_ok dst d0 d1 src s0 s1
 exact (o130 (d := .int .i64 (or64 (sh8 dst) (sh8 src))) [.ret _ _ _ c0, tF, .ret _ _ _ c1, tT, tT, tF, .ret _ _ _ c2] (by kernel_rfl)).to (by rfl)
theorem reads_4_ok : SpXS20 4 130 := by
 intro w dst src base disp imm cc d0 d1 s0 s1 b0 b1 hm
 have c0 := @mayX_ok 4 w dst src base disp imm cc (by decide)
 rw [hm] at c0
 have c1 := @of_any_ok 4 (by decide)
 have c2 := @set2_ok dst d0 d1 src s0 s1
 exact (o130 (d := .int .i64 (or64 (sh8 dst) (sh8 src))) [.ret _ _ _ c0, tF, .ret _ _ _ c1, tT, tT, tF, .ret _ _ _ c2] (by kernel_rfl)).to (by rfl)
theorem reads_5_ok : SpXS20 5 130 := by
 intro w dst src base disp imm cc d0 d1 s0 s1 b0 b1 hm
 have c0 := @mayX_ok 5 w dst src base disp imm cc (by decide)
 rw [hm] at c0
 have c1 := @of_any_ok 5 (by decide)
 have c2 := @set2_ok dst d0 d1 src s0 s1
 exact (o130 (d := .int .i64 (or64 (sh8 dst) (sh8 src))) [.ret _ _ _ c0, tF, .ret _ _ _ c1, tT, tT, tF, .ret _ _ _ c2] (by kernel_rfl)).to (by rfl)
theorem reads_6_ok : SpXS20 6 130 := by
 intro w dst src base disp imm cc d0 d1 s0 s1 b0 b1 hm
 have c0 := @mayX_ok 6 w dst src base disp imm cc (by decide)
 rw [hm] at c0
 have c1 := @of_any_ok 6 (by decide)
 have c2 := @set2_ok dst d0 d1 src s0 s1
 exact (o130 (d := .int .i64 (or64 (sh8 dst) (sh8 src))) [.ret _ _ _ c0, tF, .ret _ _ _ c1, tT, tT, tF, .ret _ _ _ c2] (by kernel_rfl)).to (by rfl)
theorem reads_7_ok : SpXS20 7 130 := by
 intro w dst src base disp imm cc d0 d1 s0 s1 b0 b1 hm
 have c0 := @mayX_ok 7 w dst src base disp imm cc (by decide)
 rw [hm] at c0
 have c1 := @of_any_ok 7 (by decide)
 have c2 := @set2_ok dst d0 d1 src s0 s1
 exact (o130 (d := .int .i64 (or64 (sh8 dst) (sh8 src))) [.ret _ _ _ c0, tF, .ret _ _ _ c1, tT, tT, tF, .ret _ _ _ c2] (by kernel_rfl)).to (by rfl)
theorem reads_8_ok : SpXS20 8 130 := by
 intro w dst src base disp imm cc d0 d1 s0 s1 b0 b1 hm
 have c0 := @mayX_ok 8 w dst src base disp imm cc (by decide)
 rw [hm] at c0
 have c1 := @of_any_ok 8 (by decide)
 have c2 := @set2_ok dst d0 d1 src s0 s1
 exact (o130 (d := .int .i64 (or64 (sh8 dst) (sh8 src))) [.ret _ _ _ c0, tF, .ret _ _ _ c1, tT, tT, tF, .ret _ _ _ c2] (by kernel_rfl)).to (by rfl)
theorem reads_9_ok : SpXS20 9 130 := by
 intro w dst src base disp imm cc d0 d1 s0 s1 b0 b1 hm
 have c0 := @mayX_ok 9 w dst src base disp imm cc (by decide)
 rw [hm] at c0
 have c1 := @of_any_ok 9 (by decide)
 have c2 := @set1_ok dst d0 d1
 exact (o130 (d := .int .i64 (sh8 dst)) [.ret _ _ _ c0, tF, .ret _ _ _ c1, tF, tF, tF, tT, tT, tF, .ret _ _ _ c2] (by kernel_rfl)).to (by rfl)
theorem reads_10_ok : SpXS20 10 130 := by
 intro w dst src base disp imm cc d0 d1 s0 s1 b0 b1 hm
 have c0 := @mayX_ok 10 w dst src base disp imm cc (by decide)
 rw [hm] at c0
 have c1 := @of_any_ok 10 (by decide)
 have c2 := @set1_ok dst d0 d1
 exact (o130 (d := .int .i64 (sh8 dst)) [.ret _ _ _ c0, tF, .ret _ _ _ c1, tF, tF, tF, tT, tT, tF, .ret _ _ _ c2] (by kernel_rfl)).to (by rfl)
theorem reads_11_ok : SpXS20 11 130 := by
 intro w dst src base disp imm cc d0 d1 s0 s1 b0 b1 hm
 have c0 := @mayX_ok 11 w dst src base disp imm cc (by decide)
 rw [hm] at c0
 have c1 := @of_any_ok 11 (by decide)
 have c2 := @set1_ok dst d0 d1
 exact (o130 (d := .int .i64 (sh8 dst)) [.ret _ _ _ c0, tF, .ret _ _ _ c1, tF, tF, tF, tT, tT, tF, .ret _ _ _ c2] (by kernel_rfl)).to (by rfl)
theorem reads_12_ok : SpXS20 12 130 := by
 intro w dst src base disp imm cc d0 d1 s0 s1 b0 b1 hm
 have c0 := @mayX_ok 12 w dst src base disp imm cc (by decide)
 rw [hm] at c0
 have c1 := @of_any_ok 12 (by decide)
 have c2 := @set1_ok dst d0 d1
 exact (o130 (d := .int .i64 (sh8 dst)) [.ret _ _ _ c0, tF, .ret _ _ _ c1, tF, tF, tF, tT, tT, tF, .ret _ _ _ c2] (by kernel_rfl)).to (by rfl)
theorem reads_13_ok : SpXS20 13 130 := by
 intro w dst src base disp imm cc d0 d1 s0 s1 b0 b1 hm
 have c0 := @mayX_ok 13 w dst src base disp imm cc (by decide)
 rw [hm] at c0
 have c1 := @of_any_ok 13 (by decide)
 have c2 := @set1_ok dst d0 d1
 exact (o130 (d := .int .i64 (sh8 dst)) [.ret _ _ _ c0, tF, .ret _ _ _ c1, tF, tF, tF, tT, tT, tF, .ret _ _ _ c2] (by kernel_rfl)).to (by rfl)
theorem reads_14_ok : SpXS20 14 130 := by
 intro w dst src base disp imm cc d0 d1 s0 s1 b0 b1 hm
 have c0 := @mayX_ok 14 w dst src base disp imm cc (by decide)
 rw [hm] at c0
 have c1 := @of_any_ok 14 (by decide)
 have c2 := @set1_ok dst d0 d1
 exact (o130 (d := .int .i64 (sh8 dst)) [.ret _ _ _ c0, tF, .ret _ _ _ c1, tF, tF, tF, tT, tT, tF, .ret _ _ _ c2] (by kernel_rfl)).to (by rfl)
theorem reads_15_ok : SpXS20 15 130 := by
 intro w dst src base disp imm cc d0 d1 s0 s1 b0 b1 hm
 have c0 := @mayX_ok 15 w dst src base disp imm cc (by decide)
 rw [hm] at c0
 have c1 := @of_any_ok 15 (by decide)
 have c2 := @set1_ok dst d0 d1
 exact (o130 (d := .int .i64 (sh8 dst)) [.ret _ _ _ c0, tF, .ret _ _ _ c1, tF, tF, tF, tT, tT, tF, .ret _ _ _ c2] (by kernel_rfl)).to (by rfl)
theorem reads_16_ok : SpXS20 16 130 := by
 intro w dst src base disp imm cc d0 d1 s0 s1 b0 b1 hm
 have c0 := @mayX_ok 16 w dst src base disp imm cc (by decide)
 rw [hm] at c0
 have c1 := @of_any_ok 16 (by decide)
 have c2 := @set2_ok dst d0 d1 src s0 s1
 exact (o130 (d := .int .i64 (or64 (sh8 dst) (sh8 src))) [.ret _ _ _ c0, tF, .ret _ _ _ c1, tF, tT, tT, tF, .ret _ _ _ c2] (by kernel_rfl)).to (by rfl)
theorem reads_17_ok : SpXS20 17 130 := by
 intro w dst src base disp imm cc d0 d1 s0 s1 b0 b1 hm
 have c0 := @mayX_ok 17 w dst src base disp imm cc (by decide)
 rw [hm] at c0
 have c1 := @of_any_ok 17 (by decide)
 have c2 := @set1_ok dst d0 d1
 exact (o130 (d := .int .i64 (sh8 dst)) [.ret _ _ _ c0, tF, .ret _ _ _ c1, tF, tF, tF, tF, tT, tF, .ret _ _ _ c2] (by kernel_rfl)).to (by rfl)
theorem reads_18_ok : SpXS20 18 130 := by
 intro w dst src base disp imm cc d0 d1 s0 s1 b0 b1 hm
 have c0 := @mayX_ok 18 w dst src base disp imm cc (by decide)
 rw [hm] at c0
 have c1 := @of_any_ok 18 (by decide)
 have c2 := @set1_ok dst d0 d1
 exact (o130 (d := .int .i64 (sh8 dst)) [.ret _ _ _ c0, tF, .ret _ _ _ c1, tF, tF, tF, tF, tT, tF, .ret _ _ _ c2] (by kernel_rfl)).to (by rfl)
theorem reads_19_ok : SpXS20 19 130 := by
 intro w dst src base disp imm cc d0 d1 s0 s1 b0 b1 hm
 have c0 := @mayX_ok 19 w dst src base disp imm cc (by decide)
 rw [hm] at c0
 have c1 := @of_any_ok 19 (by decide)
 have c2 := @set1_ok dst d0 d1
 exact (o130 (d := .int .i64 (sh8 dst)) [.ret _ _ _ c0, tF, .ret _ _ _ c1, tF, tF, tF, tF, tT, tF, .ret _ _ _ c2] (by kernel_rfl)).to (by rfl)
theorem reads_20_ok : SpXS20 20 130 := by
 intro w dst src base disp imm cc d0 d1 s0 s1 b0 b1 hm
 have c0 := @mayX_ok 20 w dst src base disp imm cc (by decide)
 rw [hm] at c0
 have c1 := @of_any_ok 20 (by decide)
 have c2 := @set2_ok dst d0 d1 1 (by decide) (by decide)
 exact (o130 (d := .int .i64 (or64 (sh8 dst) 2)) [.ret _ _ _ c0, tF, .ret _ _ _ c1, tF, tF, tF, tF, tF, tT, tF, tF, .ret _ _ _ c2] (by kernel_rfl)).to (by rfl)
theorem reads_21_ok : SpXS20 21 130 := by
 intro w dst src base disp imm cc d0 d1 s0 s1 b0 b1 hm
 have c0 := @mayX_ok 21 w dst src base disp imm cc (by decide)
 rw [hm] at c0
 have c1 := @of_any_ok 21 (by decide)
 have c2 := @set2_ok dst d0 d1 1 (by decide) (by decide)
 exact (o130 (d := .int .i64 (or64 (sh8 dst) 2)) [.ret _ _ _ c0, tF, .ret _ _ _ c1, tF, tF, tF, tF, tF, tT, tF, tF, .ret _ _ _ c2] (by kernel_rfl)).to (by rfl)
theorem reads_22_ok : SpXS20 22 130 := by
 intro w dst src base disp imm cc d0 d1 s0 s1 b0 b1 hm
 have c0 := @mayX_ok 22 w dst src base disp imm cc (by decide)
 rw [hm] at c0
 have c1 := @of_any_ok 22 (by decide)
 have c2 := @set2_ok dst d0 d1 1 (by decide) (by decide)
 exact (o130 (d := .int .i64 (or64 (sh8 dst) 2)) [.ret _ _ _ c0, tF, .ret _ _ _ c1, tF, tF, tF, tF, tF, tT, tF, tF, .ret _ _ _ c2] (by kernel_rfl)).to (by rfl)
theorem reads_23_ok : SpXS20 23 130 := by
 intro w dst src base disp imm cc d0 d1 s0 s1 b0 b1 hm
 have c0 := @mayX_ok 23 w dst src base disp imm cc (by decide)
 rw [hm] at c0
 have c1 := @of_any_ok 23 (by decide)
 have c2 := @set1_ok dst d0 d1
 exact (o130 (d := .int .i64 (sh8 dst)) [.ret _ _ _ c0, tF, .ret _ _ _ c1, tF, tF, tF, tF, tF, tT, tT, .ret _ _ _ c2] (by kernel_rfl)).to (by rfl)
theorem reads_24_ok : SpXS20 24 130 := by
 intro w dst src base disp imm cc d0 d1 s0 s1 b0 b1 hm
 have c0 := @mayX_ok 24 w dst src base disp imm cc (by decide)
 rw [hm] at c0
 have c1 := @of_any_ok 24 (by decide)
 have c2 := @set3_ok dst d0 d1
 exact (o130 (d := .int .i64 (or64 (or64 (sh8 dst) 1) 4)) [.ret _ _ _ c0, tF, .ret _ _ _ c1, tF, tF, tF, tF, tF, tT, tF, tT, .ret _ _ _ c2] (by kernel_rfl)).to (by rfl)
theorem reads_25_ok : SpXS20 25 130 := by
 intro w dst src base disp imm cc d0 d1 s0 s1 b0 b1 hm
 have c0 := @mayX_ok 25 w dst src base disp imm cc (by decide)
 rw [hm] at c0
 have c1 := @of_any_ok 25 (by decide)
 have c2 := @set2_ok dst d0 d1 src s0 s1
 exact (o130 (d := .int .i64 (or64 (sh8 dst) (sh8 src))) [.ret _ _ _ c0, tF, .ret _ _ _ c1, tF, tF, tT, tF, .ret _ _ _ c2] (by kernel_rfl)).to (by rfl)
theorem reads_26_ok : SpXS20 26 130 := by
 intro w dst src base disp imm cc d0 d1 s0 s1 b0 b1 hm
 have c0 := @mayX_ok 26 w dst src base disp imm cc (by decide)
 rw [hm] at c0
 have c1 := @of_any_ok 26 (by decide)
 have c2 := @set1_ok base b0 b1
 exact (o130 (d := .int .i64 (sh8 base)) [.ret _ _ _ c0, tF, .ret _ _ _ c1, tF, tF, tF, tF, tF, tF, tT, .ret _ _ _ c2] (by kernel_rfl)).to (by rfl)
theorem reads_27_ok : SpXS20 27 130 := by
 intro w dst src base disp imm cc d0 d1 s0 s1 b0 b1 hm
 have c0 := @mayX_ok 27 w dst src base disp imm cc (by decide)
 rw [hm] at c0
 have c1 := @of_any_ok 27 (by decide)
 have c2 := @set2_ok base b0 b1 src s0 s1
 exact (o130 (d := .int .i64 (or64 (sh8 base) (sh8 src))) [.ret _ _ _ c0, tF, .ret _ _ _ c1, tF, tF, tF, tF, tF, tF, tF, tT, .ret _ _ _ c2] (by kernel_rfl)).to (by rfl)
theorem reads_28_ok : SpXS20 28 130 := by
 intro w dst src base disp imm cc d0 d1 s0 s1 b0 b1 hm
 have c0 := @mayX_ok 28 w dst src base disp imm cc (by decide)
 rw [hm] at c0
 have c1 := @of_any_ok 28 (by decide)
 exact (o130 (d := .int .i64 0) ([.ret _ _ _ c0, tF, .ret _ _ _ c1] ++ List.replicate 9 tF) (by kernel_rfl)).to (by rfl)
theorem reads_29_ok : SpXS20 29 130 := by
 intro w dst src base disp imm cc d0 d1 s0 s1 b0 b1 hm
 have c0 := @mayX_ok 29 w dst src base disp imm cc (by decide)
 rw [hm] at c0
 have c1 := @of_any_ok 29 (by decide)
 exact (o130 (d := .int .i64 0) ([.ret _ _ _ c0, tF, .ret _ _ _ c1] ++ List.replicate 9 tF) (by kernel_rfl)).to (by rfl)
theorem reads_30_ok : SpXS20 30 130 := by
 intro w dst src base disp imm cc d0 d1 s0 s1 b0 b1 hm
 have c0 := @mayX_ok 30 w dst src base disp imm cc (by decide)
 rw [hm] at c0
 have c1 := @of_any_ok 30 (by decide)
 have c2 := @set2_ok 4 (by decide) (by decide) 0 (by decide) (by decide)
 exact (o130 (d := .int .i64 17) ([.ret _ _ _ c0, tF, .ret _ _ _ c1] ++ List.replicate 8 tF ++ [tT, tT, .ret _ _ _ c2]) (by kernel_rfl)).to (by rfl)
theorem reads_31_ok : SpXS20 31 130 := by
 intro w dst src base disp imm cc d0 d1 s0 s1 b0 b1 hm
 have c0 := @mayX_ok 31 w dst src base disp imm cc (by decide)
 rw [hm] at c0
 have c1 := @of_any_ok 31 (by decide)
 exact (o130 (d := .int .i64 1477) ([.ret _ _ _ c0, tF, .ret _ _ _ c1] ++ List.replicate 8 tF ++ [tT, tF, .inl, .go 64, tT, tT, .get ([.int .i8 0, .int .i8 7, .int .i8 6, .int .i8 2, .int .i8 10, .int .i8 8]) 0 (.int .i8 0) rfl, tT, tT, tT, .get ([.int .i8 0, .int .i8 7, .int .i8 6, .int .i8 2, .int .i8 10, .int .i8 8]) 1 (.int .i8 7) rfl, tT, tT, tT, .get ([.int .i8 0, .int .i8 7, .int .i8 6, .int .i8 2, .int .i8 10, .int .i8 8]) 2 (.int .i8 6) rfl, tT, tT, tT, .get ([.int .i8 0, .int .i8 7, .int .i8 6, .int .i8 2, .int .i8 10, .int .i8 8]) 3 (.int .i8 2) rfl, tT, tT, tT, .get ([.int .i8 0, .int .i8 7, .int .i8 6, .int .i8 2, .int .i8 10, .int .i8 8]) 4 (.int .i8 10) rfl, tT, tT, tT, .get ([.int .i8 0, .int .i8 7, .int .i8 6, .int .i8 2, .int .i8 10, .int .i8 8]) 5 (.int .i8 8) rfl, tT, tF]) (by kernel_rfl)).to (by rfl)
def SpXS21 (k0_ : Nat) : Prop := ∀ (op w dst src base disp imm cc : Int) (ho : op ≤ 127) (hm : mayX op w dst src base disp imm cc = false), Ret Tryz.prog k0_ ([xD op w dst src base disp imm cc]) (.int .i64 0)
theorem reads_no_ok : SpXS21 130 := by
 intro op w dst src base disp imm cc ho hm
 have c0 := @mayX_ok op w dst src base disp imm cc ho
 rw [hm] at c0
 exact (o130 (d := .int .i64 0) [.ret _ _ _ c0, tT] (by kernel_rfl)).to (by simp [wk])
def SpXS22 (k0_ : Int) (k1_ : Nat) : Prop := ∀ (w dst src base disp imm cc : Int) (d0 : 0 ≤ dst) (d1 : dst ≤ 15) (s0 : 0 ≤ src) (s1 : src ≤ 15) (b0 : 0 ≤ base) (b1 : base ≤ 15) (hm : mayX k0_ w dst src base disp imm cc = true), Ret Tryz.prog k1_ ([xD k0_ w dst src base disp imm cc]) (.int .i64 (writesX k0_ dst))
theorem writes_0_ok : SpXS22 0 111 := by
 intro w dst src base disp imm cc d0 d1 s0 s1 b0 b1 hm
 have c0 := @mayX_ok 0 w dst src base disp imm cc (by decide)
 rw [hm] at c0
 have c1 := @set1_ok dst d0 d1
 exact (o111 (d := .int .i64 (sh8 dst)) ([.ret _ _ _ c0] ++ List.replicate 11 tF ++ [.ret _ _ _ c1]) (by kernel_rfl)).to (by rfl)
theorem writes_1_ok : SpXS22 1 111 := by
 intro w dst src base disp imm cc d0 d1 s0 s1 b0 b1 hm
 have c0 := @mayX_ok 1 w dst src base disp imm cc (by decide)
 rw [hm] at c0
 have c1 := @set1_ok dst d0 d1
 exact (o111 (d := .int .i64 (sh8 dst)) ([.ret _ _ _ c0] ++ List.replicate 11 tF ++ [.ret _ _ _ c1]) (by kernel_rfl)).to (by rfl)
theorem writes_2_ok : SpXS22 2 111 := by
 intro w dst src base disp imm cc d0 d1 s0 s1 b0 b1 hm
 have c0 := @mayX_ok 2 w dst src base disp imm cc (by decide)
 rw [hm] at c0
 have c1 := @set1_ok dst d0 d1
 exact (o111 (d := .int .i64 (sh8 dst)) ([.ret _ _ _ c0] ++ List.replicate 11 tF ++ [.ret _ _ _ c1]) (by kernel_rfl)).to (by rfl)
theorem writes_3_ok : SpXS22 3 111 := by
 intro w dst src base disp imm cc d0 d1 s0 s1 b0 b1 hm
 have c0 := @mayX_ok 3 w dst src base disp imm cc (by decide)
 rw [hm] at c0
 have c1 := @set1_ok dst d0 d1
 exact (o111 (d := .int .i64 (sh8 dst)) ([.ret _ _ _ c0] ++ List.replicate 11 tF ++ [.ret _ _ _ c1]) (by kernel_rfl)).to (by rfl)
theorem writes_4_ok : SpXS22 4 111 := by
 intro w dst src base disp imm cc d0 d1 s0 s1 b0 b1 hm
 have c0 := @mayX_ok 4 w dst src base disp imm cc (by decide)
 rw [hm] at c0
 have c1 := @set1_ok dst d0 d1
 exact (o111 (d := .int .i64 (sh8 dst)) ([.ret _ _ _ c0] ++ List.replicate 11 tF ++ [.ret _ _ _ c1]) (by kernel_rfl)).to (by rfl)
theorem writes_5_ok : SpXS22 5 111 := by
 intro w dst src base disp imm cc d0 d1 s0 s1 b0 b1 hm
 have c0 := @mayX_ok 5 w dst src base disp imm cc (by decide)
 rw [hm] at c0
 have c1 := @set1_ok dst d0 d1
 exact (o111 (d := .int .i64 (sh8 dst)) ([.ret _ _ _ c0] ++ List.replicate 11 tF ++ [.ret _ _ _ c1]) (by kernel_rfl)).to (by rfl)
theorem writes_6_ok : SpXS22 6 111 := by
 intro w dst src base disp imm cc d0 d1 s0 s1 b0 b1 hm
 have c0 := @mayX_ok 6 w dst src base disp imm cc (by decide)
 rw [hm] at c0
 have c1 := @set1_ok dst d0 d1
 exact (o111 (d := .int .i64 (sh8 dst)) ([.ret _ _ _ c0] ++ List.replicate 11 tF ++ [.ret _ _ _ c1]) (by kernel_rfl)).to (by rfl)
theorem writes_7_ok : SpXS22 7 111 := by
 intro w dst src base disp imm cc d0 d1 s0 s1 b0 b1 hm
 have c0 := @mayX_ok 7 w dst src base disp imm cc (by decide)
 rw [hm] at c0
 exact (o111 (d := .int .i64 0) [.ret _ _ _ c0, tF, tT, tT] (by kernel_rfl)).to (by rfl)
theorem writes_8_ok : SpXS22 8 111 := by
 intro w dst src base disp imm cc d0 d1 s0 s1 b0 b1 hm
 have c0 := @mayX_ok 8 w dst src base disp imm cc (by decide)
 rw [hm] at c0
 exact (o111 (d := .int .i64 0) [.ret _ _ _ c0, tF, tF, tT, tT] (by kernel_rfl)).to (by rfl)
theorem writes_9_ok : SpXS22 9 111 := by
 intro w dst src base disp imm cc d0 d1 s0 s1 b0 b1 hm
 have c0 := @mayX_ok 9 w dst src base disp imm cc (by decide)
 rw [hm] at c0
 have c1 := @set1_ok dst d0 d1
 exact (o111 (d := .int .i64 (sh8 dst)) ([.ret _ _ _ c0] ++ List.replicate 11 tF ++ [.ret _ _ _ c1]) (by kernel_rfl)).to (by rfl)
theorem writes_10_ok : SpXS22 10 111 := by
 intro w dst src base disp imm cc d0 d1 s0 s1 b0 b1 hm
 have c0 := @mayX_ok 10 w dst src base disp imm cc (by decide)
 rw [hm] at c0
 have c1 := @set1_ok dst d0 d1
 exact (o111 (d := .int .i64 (sh8 dst)) ([.ret _ _ _ c0] ++ List.replicate 11 tF ++ [.ret _ _ _ c1]) (by kernel_rfl)).to (by rfl)
theorem writes_11_ok : SpXS22 11 111 := by
 intro w dst src base disp imm cc d0 d1 s0 s1 b0 b1 hm
 have c0 := @mayX_ok 11 w dst src base disp imm cc (by decide)
 rw [hm] at c0
 have c1 := @set1_ok dst d0 d1
 exact (o111 (d := .int .i64 (sh8 dst)) ([.ret _ _ _ c0] ++ List.replicate 11 tF ++ [.ret _ _ _ c1]) (by kernel_rfl)).to (by rfl)
theorem writes_12_ok : SpXS22 12 111 := by
 intro w dst src base disp imm cc d0 d1 s0 s1 b0 b1 hm
 have c0 := @mayX_ok 12 w dst src base disp imm cc (by decide)
 rw [hm] at c0
 have c1 := @set1_ok dst d0 d1
 exact (o111 (d := .int .i64 (sh8 dst)) ([.ret _ _ _ c0] ++ List.replicate 11 tF ++ [.ret _ _ _ c1]) (by kernel_rfl)).to (by rfl)
theorem writes_13_ok : SpXS22 13 111 := by
 intro w dst src base disp imm cc d0 d1 s0 s1 b0 b1 hm
 have c0 := @mayX_ok 13 w dst src base disp imm cc (by decide)
 rw [hm] at c0
 have c1 := @set1_ok dst d0 d1
 exact (o111 (d := .int .i64 (sh8 dst)) ([.ret _ _ _ c0] ++ List.replicate 11 tF ++ [.ret _ _ _ c1]) (by kernel_rfl)).to (by rfl)
theorem writes_14_ok : SpXS22 14 111 := by
 intro w dst src base disp imm cc d0 d1 s0 s1 b0 b1 hm
 have c0 := @mayX_ok 14 w dst src base disp imm cc (by decide)
 rw [hm] at c0
 exact (o111 (d := .int .i64 0) [.ret _ _ _ c0, tF, tF, tF, tT, tT] (by kernel_rfl)).to (by rfl)
theorem writes_15_ok : SpXS22 15 111 := by
 intro w dst src base disp imm cc d0 d1 s0 s1 b0 b1 hm
 have c0 := @mayX_ok 15 w dst src base disp imm cc (by decide)
 rw [hm] at c0
 exact (o111 (d := .int .i64 0) [.ret _ _ _ c0, tF, tF, tF, tF, tT, tT] (by kernel_rfl)).to (by rfl)
theorem writes_16_ok : SpXS22 16 111 := by
 intro w dst src base disp imm cc d0 d1 s0 s1 b0 b1 hm
 have c0 := @mayX_ok 16 w dst src base disp imm cc (by decide)
 rw [hm] at c0
 have c1 := @set1_ok dst d0 d1
 exact (o111 (d := .int .i64 (sh8 dst)) ([.ret _ _ _ c0] ++ List.replicate 11 tF ++ [.ret _ _ _ c1]) (by kernel_rfl)).to (by rfl)
theorem writes_17_ok : SpXS22 17 111 := by
 intro w dst src base disp imm cc d0 d1 s0 s1 b0 b1 hm
 have c0 := @mayX_ok 17 w dst src base disp imm cc (by decide)
 rw [hm] at c0
 have c1 := @set1_ok dst d0 d1
 exact (o111 (d := .int .i64 (sh8 dst)) ([.ret _ _ _ c0] ++ List.replicate 11 tF ++ [.ret _ _ _ c1]) (by kernel_rfl)).to (by rfl)
theorem writes_18_ok : SpXS22 18 111 := by
 intro w dst src base disp imm cc d0 d1 s0 s1 b0 b1 hm
 have c0 := @mayX_ok 18 w dst src base disp imm cc (by decide)
 rw [hm] at c0
 have c1 := @set1_ok dst d0 d1
 exact (o111 (d := .int .i64 (sh8 dst)) ([.ret _ _ _ c0] ++ List.replicate 11 tF ++ [.ret _ _ _ c1]) (by kernel_rfl)).to (by rfl)
theorem writes_19_ok : SpXS22 19 111 := by
 intro w dst src base disp imm cc d0 d1 s0 s1 b0 b1 hm
 have c0 := @mayX_ok 19 w dst src base disp imm cc (by decide)
 rw [hm] at c0
 have c1 := @set1_ok dst d0 d1
 exact (o111 (d := .int .i64 (sh8 dst)) ([.ret _ _ _ c0] ++ List.replicate 11 tF ++ [.ret _ _ _ c1]) (by kernel_rfl)).to (by rfl)
theorem writes_20_ok : SpXS22 20 111 := by
 intro w dst src base disp imm cc d0 d1 s0 s1 b0 b1 hm
 have c0 := @mayX_ok 20 w dst src base disp imm cc (by decide)
 rw [hm] at c0
 have c1 := @set1_ok dst d0 d1
 exact (o111 (d := .int .i64 (sh8 dst)) ([.ret _ _ _ c0] ++ List.replicate 11 tF ++ [.ret _ _ _ c1]) (by kernel_rfl)).to (by rfl)
theorem writes_21_ok : SpXS22 21 111 := by
 intro w dst src base disp imm cc d0 d1 s0 s1 b0 b1 hm
 have c0 := @mayX_ok 21 w dst src base disp imm cc (by decide)
 rw [hm] at c0
 have c1 := @set1_ok dst d0 d1
 exact (o111 (d := .int .i64 (sh8 dst)) ([.ret _ _ _ c0] ++ List.replicate 11 tF ++ [.ret _ _ _ c1]) (by kernel_rfl)).to (by rfl)
theorem writes_22_ok : SpXS22 22 111 := by
 intro w dst src base disp imm cc d0 d1 s0 s1 b0 b1 hm
 have c0 := @mayX_ok 22 w dst src base disp imm cc (by decide)
 rw [hm] at c0
 have c1 := @set1_ok dst d0 d1
 exact (o111 (d := .int .i64 (sh8 dst)) ([.ret _ _ _ c0] ++ List.replicate 11 tF ++ [.ret _ _ _ c1]) (by kernel_rfl)).to (by rfl)
theorem writes_23_ok : SpXS22 23 111 := by
 intro w dst src base disp imm cc d0 d1 s0 s1 b0 b1 hm
 have c0 := @mayX_ok 23 w dst src base disp imm cc (by decide)
 rw [hm] at c0
 have c1 := @set1_ok dst d0 d1
 exact (o111 (d := .int .i64 (sh8 dst)) ([.ret _ _ _ c0] ++ List.replicate 11 tF ++ [.ret _ _ _ c1]) (by kernel_rfl)).to (by rfl)
theorem writes_24_ok : SpXS22 24 111 := by
 intro w dst src base disp imm cc d0 d1 s0 s1 b0 b1 hm
 have c0 := @mayX_ok 24 w dst src base disp imm cc (by decide)
 rw [hm] at c0
 have c1 := @set2_ok 0 (by decide) (by decide) 2 (by decide) (by decide)
 exact (o111 (d := .int .i64 5) ([.ret _ _ _ c0] ++ List.replicate 8 tF ++ [tT, .ret _ _ _ c1]) (by kernel_rfl)).to (by rfl)
theorem writes_25_ok : SpXS22 25 111 := by
 intro w dst src base disp imm cc d0 d1 s0 s1 b0 b1 hm
 have c0 := @mayX_ok 25 w dst src base disp imm cc (by decide)
 rw [hm] at c0
 have c1 := @set1_ok dst d0 d1
 exact (o111 (d := .int .i64 (sh8 dst)) ([.ret _ _ _ c0] ++ List.replicate 11 tF ++ [.ret _ _ _ c1]) (by kernel_rfl)).to (by rfl)
theorem writes_26_ok : SpXS22 26 111 := by
 intro w dst src base disp imm cc d0 d1 s0 s1 b0 b1 hm
 have c0 := @mayX_ok 26 w dst src base disp imm cc (by decide)
 rw [hm] at c0
 have c1 := @set1_ok dst d0 d1
 exact (o111 (d := .int .i64 (sh8 dst)) ([.ret _ _ _ c0] ++ List.replicate 11 tF ++ [.ret _ _ _ c1]) (by kernel_rfl)).to (by rfl)
theorem writes_27_ok : SpXS22 27 111 := by
 intro w dst src base disp imm cc d0 d1 s0 s1 b0 b1 hm
 have c0 := @mayX_ok 27 w dst src base disp imm cc (by decide)
 rw [hm] at c0
 exact (o111 (d := .int .i64 0) [.ret _ _ _ c0, tF, tF, tF, tF, tF, tT, tT] (by kernel_rfl)).to (by rfl)
theorem writes_28_ok : SpXS22 28 111 := by
 intro w dst src base disp imm cc d0 d1 s0 s1 b0 b1 hm
 have c0 := @mayX_ok 28 w dst src base disp imm cc (by decide)
 rw [hm] at c0
 exact (o111 (d := .int .i64 0) [.ret _ _ _ c0, tF, tF, tF, tF, tF, tF, tT, tT] (by kernel_rfl)).to (by rfl)
theorem writes_29_ok : SpXS22 29 111 := by
 intro w dst src base disp imm cc d0 d1 s0 s1 b0 b1 hm
 have c0 := @mayX_ok 29 w dst src base disp imm cc (by decide)
 rw [hm] at c0
 exact (o111 (d := .int .i64 0) [.ret _ _ _ c0, tF, tF, tF, tF, tF, tF, tF, tT] (by kernel_rfl)).to (by rfl)
theorem writes_30_ok : SpXS22 30 111 := by
 intro w dst src base disp imm cc d0 d1 s0 s1 b0 b1 hm
 have c0 := @mayX_ok 30 w dst src base disp imm cc (by decide)
 rw [hm] at c0
 have c1 := @set1_ok 4 (by decide) (by decide)
 exact (o111 (d := .int .i64 16) ([.ret _ _ _ c0] ++ List.replicate 9 tF ++ [tT, .ret _ _ _ c1]) (by kernel_rfl)).to (by rfl)
theorem writes_31_ok : SpXS22 31 111 := by
 intro w dst src base disp imm cc d0 d1 s0 s1 b0 b1 hm
 have c0 := @mayX_ok 31 w dst src base disp imm cc (by decide)
 rw [hm] at c0
 exact (o111 (d := .int .i64 2051) ([.ret _ _ _ c0] ++ List.replicate 10 tF ++ [tT, .inl, .go 64, tT, tT, .get ([.int .i8 0, .int .i8 1, .int .i8 11]) 0 (.int .i8 0) rfl, tT, tT, tT, .get ([.int .i8 0, .int .i8 1, .int .i8 11]) 1 (.int .i8 1) rfl, tT, tT, tT, .get ([.int .i8 0, .int .i8 1, .int .i8 11]) 2 (.int .i8 11) rfl, tT, tF]) (by kernel_rfl)).to (by rfl)
theorem writes_no_ok : SpXS21 111 := by
 intro op w dst src base disp imm cc ho hm
 have c0 := @mayX_ok op w dst src base disp imm cc ho
 rw [hm] at c0
 exact (o111 (d := .int .i64 0) [.ret _ _ _ c0, tT] (by kernel_rfl)).to (by simp [wk])
theorem rreads_0_ok : SpXS20 0 78 := by
 intro w dst src base disp imm cc d0 d1 s0 s1 b0 b1 hm
 have c0 := @rmayX_ok 0 w dst src base disp imm cc
 rw [hm] at c0
 have c1 := @rbit_ok src s0 s1
 exact (o78 (d := .int .i64 (sh8 src)) [.ret _ _ _ c0, tF, tT, .ret _ _ _ c1] (by kernel_rfl)).to (by rfl)
theorem rreads_1_ok : SpXS20 1 78 := by
 intro w dst src base disp imm cc d0 d1 s0 s1 b0 b1 hm
 have c0 := @rmayX_ok 1 w dst src base disp imm cc
 rw [hm] at c0
 exact (o78 (d := .int .i64 0) [.ret _ _ _ c0, tF, tF, tT, tT] (by kernel_rfl)).to (by rfl)
theorem rreads_2_ok : SpXS20 2 78 := by
 intro w dst src base disp imm cc d0 d1 s0 s1 b0 b1 hm
 have c0 := @rmayX_ok 2 w dst src base disp imm cc
 rw [hm] at c0
 have c1 := @class_ok 2
 have c2 := @rbit_ok dst d0 d1
 have c3 := @rbit_ok src s0 s1
 exact (o78 (d := .int .i64 (IntKind.wrap IntKind.i64 (↑(BitVec.toNat (BitVec.ofInt (64 : Nat) (sh8 dst) ||| BitVec.ofInt (64 : Nat) (sh8 src))) : Int))) ([.ret _ _ _ c0] ++ List.replicate 13 tF ++ [.ret _ _ _ c1, tF, tF, tT, tT, .ret _ _ _ c2, .ret _ _ _ c3]) (by kernel_rfl)).to (by rfl)
theorem rreads_3_ok : SpXS20 3 78 := by
 intro w dst src base disp imm cc d0 d1 s0 s1 b0 b1 hm
 have c0 := @rmayX_ok 3 w dst src base disp imm cc
 rw [hm] at c0
 have c1 := @class_ok 3
 have c2 := @rbit_ok dst d0 d1
 have c3 := @rbit_ok src s0 s1
 exact (o78 (d := .int .i64 (IntKind.wrap IntKind.i64 (↑(BitVec.toNat (BitVec.ofInt (64 : Nat) (sh8 dst) ||| BitVec.ofInt (64 : Nat) (sh8 src))) : Int))) ([.ret _ _ _ c0] ++ List.replicate 13 tF ++ [.ret _ _ _ c1, tF, tF, tT, tT, .ret _ _ _ c2, .ret _ _ _ c3]) (by kernel_rfl)).to (by rfl)
theorem rreads_4_ok : SpXS20 4 78 := by
 intro w dst src base disp imm cc d0 d1 s0 s1 b0 b1 hm
 have c0 := @rmayX_ok 4 w dst src base disp imm cc
 rw [hm] at c0
 have c1 := @class_ok 4
 have c2 := @rbit_ok dst d0 d1
 have c3 := @rbit_ok src s0 s1
 exact (o78 (d := .int .i64 (IntKind.wrap IntKind.i64 (↑(BitVec.toNat (BitVec.ofInt (64 : Nat) (sh8 dst) ||| BitVec.ofInt (64 : Nat) (sh8 src))) : Int))) ([.ret _ _ _ c0] ++ List.replicate 13 tF ++ [.ret _ _ _ c1, tF, tF, tT, tT, .ret _ _ _ c2, .ret _ _ _ c3]) (by kernel_rfl)).to (by rfl)
theorem rreads_5_ok : SpXS20 5 78 := by
 intro w dst src base disp imm cc d0 d1 s0 s1 b0 b1 hm
 have c0 := @rmayX_ok 5 w dst src base disp imm cc
 rw [hm] at c0
 have c1 := @class_ok 5
 have c2 := @rbit_ok dst d0 d1
 have c3 := @rbit_ok src s0 s1
 exact (o78 (d := .int .i64 (IntKind.wrap IntKind.i64 (↑(BitVec.toNat (BitVec.ofInt (64 : Nat) (sh8 dst) ||| BitVec.ofInt (64 : Nat) (sh8 src))) : Int))) ([.ret _ _ _ c0] ++ List.replicate 13 tF ++ [.ret _ _ _ c1, tF, tF, tT, tT, .ret _ _ _ c2, .ret _ _ _ c3]) (by kernel_rfl)).to (by rfl)
theorem rreads_6_ok : SpXS20 6 78 := by
 intro w dst src base disp imm cc d0 d1 s0 s1 b0 b1 hm
 have c0 := @rmayX_ok 6 w dst src base disp imm cc
 rw [hm] at c0
 have c1 := @class_ok 6
 have c2 := @rbit_ok dst d0 d1
 have c3 := @rbit_ok src s0 s1
 exact (o78 (d := .int .i64 (IntKind.wrap IntKind.i64 (↑(BitVec.toNat (BitVec.ofInt (64 : Nat) (sh8 dst) ||| BitVec.ofInt (64 : Nat) (sh8 src))) : Int))) ([.ret _ _ _ c0] ++ List.replicate 13 tF ++ [.ret _ _ _ c1, tF, tF, tT, tT, .ret _ _ _ c2, .ret _ _ _ c3]) (by kernel_rfl)).to (by rfl)
theorem rreads_7_ok : SpXS20 7 78 := by
 intro w dst src base disp imm cc d0 d1 s0 s1 b0 b1 hm
 have c0 := @rmayX_ok 7 w dst src base disp imm cc
 rw [hm] at c0
 have c1 := @class_ok 7
 have c2 := @rbit_ok dst d0 d1
 have c3 := @rbit_ok src s0 s1
 exact (o78 (d := .int .i64 (IntKind.wrap IntKind.i64 (↑(BitVec.toNat (BitVec.ofInt (64 : Nat) (sh8 dst) ||| BitVec.ofInt (64 : Nat) (sh8 src))) : Int))) ([.ret _ _ _ c0] ++ List.replicate 13 tF ++ [.ret _ _ _ c1, tF, tF, tT, tT, .ret _ _ _ c2, .ret _ _ _ c3]) (by kernel_rfl)).to (by rfl)
theorem rreads_8_ok : SpXS20 8 78 := by
 intro w dst src base disp imm cc d0 d1 s0 s1 b0 b1 hm
 have c0 := @rmayX_ok 8 w dst src base disp imm cc
 rw [hm] at c0
 have c1 := @class_ok 8
 have c2 := @rbit_ok dst d0 d1
 have c3 := @rbit_ok src s0 s1
 exact (o78 (d := .int .i64 (IntKind.wrap IntKind.i64 (↑(BitVec.toNat (BitVec.ofInt (64 : Nat) (sh8 dst) ||| BitVec.ofInt (64 : Nat) (sh8 src))) : Int))) ([.ret _ _ _ c0] ++ List.replicate 13 tF ++ [.ret _ _ _ c1, tF, tF, tT, tT, .ret _ _ _ c2, .ret _ _ _ c3]) (by kernel_rfl)).to (by rfl)
theorem rreads_9_ok : SpXS20 9 78 := by
 intro w dst src base disp imm cc d0 d1 s0 s1 b0 b1 hm
 have c0 := @rmayX_ok 9 w dst src base disp imm cc
 rw [hm] at c0
 have c1 := @class_ok 9
 have c2 := @rbit_ok dst d0 d1
 exact (o78 (d := .int .i64 (sh8 dst)) ([.ret _ _ _ c0] ++ List.replicate 13 tF ++ [.ret _ _ _ c1, tT, tT, tF, tF, .ret _ _ _ c2]) (by kernel_rfl)).to (by rfl)
theorem rreads_10_ok : SpXS20 10 78 := by
 intro w dst src base disp imm cc d0 d1 s0 s1 b0 b1 hm
 have c0 := @rmayX_ok 10 w dst src base disp imm cc
 rw [hm] at c0
 have c1 := @class_ok 10
 have c2 := @rbit_ok dst d0 d1
 exact (o78 (d := .int .i64 (sh8 dst)) ([.ret _ _ _ c0] ++ List.replicate 13 tF ++ [.ret _ _ _ c1, tT, tT, tF, tF, .ret _ _ _ c2]) (by kernel_rfl)).to (by rfl)
theorem rreads_11_ok : SpXS20 11 78 := by
 intro w dst src base disp imm cc d0 d1 s0 s1 b0 b1 hm
 have c0 := @rmayX_ok 11 w dst src base disp imm cc
 rw [hm] at c0
 have c1 := @class_ok 11
 have c2 := @rbit_ok dst d0 d1
 exact (o78 (d := .int .i64 (sh8 dst)) ([.ret _ _ _ c0] ++ List.replicate 13 tF ++ [.ret _ _ _ c1, tT, tT, tF, tF, .ret _ _ _ c2]) (by kernel_rfl)).to (by rfl)
theorem rreads_12_ok : SpXS20 12 78 := by
 intro w dst src base disp imm cc d0 d1 s0 s1 b0 b1 hm
 have c0 := @rmayX_ok 12 w dst src base disp imm cc
 rw [hm] at c0
 have c1 := @class_ok 12
 have c2 := @rbit_ok dst d0 d1
 exact (o78 (d := .int .i64 (sh8 dst)) ([.ret _ _ _ c0] ++ List.replicate 13 tF ++ [.ret _ _ _ c1, tT, tT, tF, tF, .ret _ _ _ c2]) (by kernel_rfl)).to (by rfl)
theorem rreads_13_ok : SpXS20 13 78 := by
 intro w dst src base disp imm cc d0 d1 s0 s1 b0 b1 hm
 have c0 := @rmayX_ok 13 w dst src base disp imm cc
 rw [hm] at c0
 have c1 := @class_ok 13
 have c2 := @rbit_ok dst d0 d1
 exact (o78 (d := .int .i64 (sh8 dst)) ([.ret _ _ _ c0] ++ List.replicate 13 tF ++ [.ret _ _ _ c1, tT, tT, tF, tF, .ret _ _ _ c2]) (by kernel_rfl)).to (by rfl)
theorem rreads_14_ok : SpXS20 14 78 := by
 intro w dst src base disp imm cc d0 d1 s0 s1 b0 b1 hm
 have c0 := @rmayX_ok 14 w dst src base disp imm cc
 rw [hm] at c0
 have c1 := @class_ok 14
 have c2 := @rbit_ok dst d0 d1
 exact (o78 (d := .int .i64 (sh8 dst)) ([.ret _ _ _ c0] ++ List.replicate 13 tF ++ [.ret _ _ _ c1, tT, tT, tF, tF, .ret _ _ _ c2]) (by kernel_rfl)).to (by rfl)
theorem rreads_15_ok : SpXS20 15 78 := by
 intro w dst src base disp imm cc d0 d1 s0 s1 b0 b1 hm
 have c0 := @rmayX_ok 15 w dst src base disp imm cc
 rw [hm] at c0
 have c1 := @class_ok 15
 have c2 := @rbit_ok dst d0 d1
 exact (o78 (d := .int .i64 (sh8 dst)) ([.ret _ _ _ c0] ++ List.replicate 13 tF ++ [.ret _ _ _ c1, tT, tT, tF, tF, .ret _ _ _ c2]) (by kernel_rfl)).to (by rfl)
theorem rreads_16_ok : SpXS20 16 78 := by
 intro w dst src base disp imm cc d0 d1 s0 s1 b0 b1 hm
 have c0 := @rmayX_ok 16 w dst src base disp imm cc
 rw [hm] at c0
 have c1 := @class_ok 16
 have c2 := @rbit_ok dst d0 d1
 have c3 := @rbit_ok src s0 s1
 exact (o78 (d := .int .i64 (IntKind.wrap IntKind.i64 (↑(BitVec.toNat (BitVec.ofInt (64 : Nat) (sh8 dst) ||| BitVec.ofInt (64 : Nat) (sh8 src))) : Int))) ([.ret _ _ _ c0] ++ List.replicate 13 tF ++ [.ret _ _ _ c1, tF, tF, tT, tT, .ret _ _ _ c2, .ret _ _ _ c3]) (by kernel_rfl)).to (by rfl)
theorem rreads_17_ok : SpXS20 17 78 := by
 intro w dst src base disp imm cc d0 d1 s0 s1 b0 b1 hm
 have c0 := @rmayX_ok 17 w dst src base disp imm cc
 rw [hm] at c0
 have c1 := @class_ok 17
 have c2 := @rbit_ok dst d0 d1
 exact (o78 (d := .int .i64 (sh8 dst)) ([.ret _ _ _ c0] ++ List.replicate 13 tF ++ [.ret _ _ _ c1, tT, tT, tF, tF, .ret _ _ _ c2]) (by kernel_rfl)).to (by rfl)
theorem rreads_18_ok : SpXS20 18 78 := by
 intro w dst src base disp imm cc d0 d1 s0 s1 b0 b1 hm
 have c0 := @rmayX_ok 18 w dst src base disp imm cc
 rw [hm] at c0
 have c1 := @class_ok 18
 have c2 := @rbit_ok dst d0 d1
 exact (o78 (d := .int .i64 (sh8 dst)) ([.ret _ _ _ c0] ++ List.replicate 13 tF ++ [.ret _ _ _ c1, tT, tT, tF, tF, .ret _ _ _ c2]) (by kernel_rfl)).to (by rfl)
theorem rreads_19_ok : SpXS20 19 78 := by
 intro w dst src base disp imm cc d0 d1 s0 s1 b0 b1 hm
 have c0 := @rmayX_ok 19 w dst src base disp imm cc
 rw [hm] at c0
 have c1 := @class_ok 19
 have c2 := @rbit_ok dst d0 d1
 exact (o78 (d := .int .i64 (sh8 dst)) ([.ret _ _ _ c0] ++ List.replicate 13 tF ++ [.ret _ _ _ c1, tT, tT, tF, tF, .ret _ _ _ c2]) (by kernel_rfl)).to (by rfl)
theorem rreads_20_ok : SpXS20 20 78 := by
 intro w dst src base disp imm cc d0 d1 s0 s1 b0 b1 hm
 have c0 := @rmayX_ok 20 w dst src base disp imm cc
 rw [hm] at c0
 have c1 := @rbit_ok dst d0 d1
 have c2 := @rbit_ok 1 (by decide) (by decide)
 exact (o78 (d := .int .i64 (IntKind.wrap IntKind.i64 (↑(BitVec.toNat (BitVec.ofInt (64 : Nat) (sh8 dst) ||| BitVec.ofInt (64 : Nat) 2)) : Int))) [.ret _ _ _ c0, tF, tF, tF, tF, tF, tT, tT, .ret _ _ _ c1, .ret _ _ _ c2] (by kernel_rfl)).to (by rfl)
theorem rreads_21_ok : SpXS20 21 78 := by
 intro w dst src base disp imm cc d0 d1 s0 s1 b0 b1 hm
 have c0 := @rmayX_ok 21 w dst src base disp imm cc
 rw [hm] at c0
 have c1 := @rbit_ok dst d0 d1
 have c2 := @rbit_ok 1 (by decide) (by decide)
 exact (o78 (d := .int .i64 (IntKind.wrap IntKind.i64 (↑(BitVec.toNat (BitVec.ofInt (64 : Nat) (sh8 dst) ||| BitVec.ofInt (64 : Nat) 2)) : Int))) [.ret _ _ _ c0, tF, tF, tF, tF, tF, tF, tT, tT, .ret _ _ _ c1, .ret _ _ _ c2] (by kernel_rfl)).to (by rfl)
theorem rreads_22_ok : SpXS20 22 78 := by
 intro w dst src base disp imm cc d0 d1 s0 s1 b0 b1 hm
 have c0 := @rmayX_ok 22 w dst src base disp imm cc
 rw [hm] at c0
 have c1 := @rbit_ok dst d0 d1
 have c2 := @rbit_ok 1 (by decide) (by decide)
 exact (o78 (d := .int .i64 (IntKind.wrap IntKind.i64 (↑(BitVec.toNat (BitVec.ofInt (64 : Nat) (sh8 dst) ||| BitVec.ofInt (64 : Nat) 2)) : Int))) [.ret _ _ _ c0, tF, tF, tF, tF, tF, tF, tF, tT, .ret _ _ _ c1, .ret _ _ _ c2] (by kernel_rfl)).to (by rfl)
theorem rreads_23_ok : SpXS20 23 78 := by
 intro w dst src base disp imm cc d0 d1 s0 s1 b0 b1 hm
 have c0 := @rmayX_ok 23 w dst src base disp imm cc
 rw [hm] at c0
 have c1 := @class_ok 23
 have c2 := @rbit_ok dst d0 d1
 exact (o78 (d := .int .i64 (sh8 dst)) ([.ret _ _ _ c0] ++ List.replicate 13 tF ++ [.ret _ _ _ c1, tT, tT, tF, tF, .ret _ _ _ c2]) (by kernel_rfl)).to (by rfl)
theorem rreads_24_ok : SpXS20 24 78 := by
 intro w dst src base disp imm cc d0 d1 s0 s1 b0 b1 hm
 have c0 := @rmayX_ok 24 w dst src base disp imm cc
 rw [hm] at c0
 have c1 := @rbit_ok dst d0 d1
 have c2 := @rbit_ok 0 (by decide) (by decide)
 have c3 := @rbit_ok 2 (by decide) (by decide)
 exact (o78 (d := .int .i64 (IntKind.wrap IntKind.i64 (↑(BitVec.toNat (BitVec.ofInt (64 : Nat) (IntKind.wrap IntKind.i64 (↑(BitVec.toNat (BitVec.ofInt (64 : Nat) (sh8 dst) ||| BitVec.ofInt (64 : Nat) 1)) : Int)) ||| BitVec.ofInt (64 : Nat) 4)) : Int))) ([.ret _ _ _ c0] ++ List.replicate 8 tF ++ [tT, .ret _ _ _ c1, .ret _ _ _ c2, .ret _ _ _ c3]) (by kernel_rfl)).to (by rfl)
theorem rreads_25_ok : SpXS20 25 78 := by
 intro w dst src base disp imm cc d0 d1 s0 s1 b0 b1 hm
 have c0 := @rmayX_ok 25 w dst src base disp imm cc
 rw [hm] at c0
 have c1 := @class_ok 25
 have c2 := @rbit_ok dst d0 d1
 have c3 := @rbit_ok src s0 s1
 exact (o78 (d := .int .i64 (IntKind.wrap IntKind.i64 (↑(BitVec.toNat (BitVec.ofInt (64 : Nat) (sh8 dst) ||| BitVec.ofInt (64 : Nat) (sh8 src))) : Int))) ([.ret _ _ _ c0] ++ List.replicate 13 tF ++ [.ret _ _ _ c1, tT, tT, tF, tT, .ret _ _ _ c2, .ret _ _ _ c3]) (by kernel_rfl)).to (by rfl)
theorem rreads_26_ok : SpXS20 26 78 := by
 intro w dst src base disp imm cc d0 d1 s0 s1 b0 b1 hm
 have c0 := @rmayX_ok 26 w dst src base disp imm cc
 rw [hm] at c0
 have c1 := @rbit_ok base b0 b1
 exact (o78 (d := .int .i64 (sh8 base)) ([.ret _ _ _ c0] ++ List.replicate 9 tF ++ [tT, .ret _ _ _ c1]) (by kernel_rfl)).to (by rfl)
theorem rreads_27_ok : SpXS20 27 78 := by
 intro w dst src base disp imm cc d0 d1 s0 s1 b0 b1 hm
 have c0 := @rmayX_ok 27 w dst src base disp imm cc
 rw [hm] at c0
 have c1 := @rbit_ok base b0 b1
 have c2 := @rbit_ok src s0 s1
 exact (o78 (d := .int .i64 (IntKind.wrap IntKind.i64 (↑(BitVec.toNat (BitVec.ofInt (64 : Nat) (sh8 base) ||| BitVec.ofInt (64 : Nat) (sh8 src))) : Int))) ([.ret _ _ _ c0] ++ List.replicate 10 tF ++ [tT, .ret _ _ _ c1, .ret _ _ _ c2]) (by kernel_rfl)).to (by rfl)
theorem rreads_28_ok : SpXS20 28 78 := by
 intro w dst src base disp imm cc d0 d1 s0 s1 b0 b1 hm
 have c0 := @rmayX_ok 28 w dst src base disp imm cc
 rw [hm] at c0
 exact (o78 (d := .int .i64 0) [.ret _ _ _ c0, tF, tF, tF, tT, tT] (by kernel_rfl)).to (by rfl)
theorem rreads_29_ok : SpXS20 29 78 := by
 intro w dst src base disp imm cc d0 d1 s0 s1 b0 b1 hm
 have c0 := @rmayX_ok 29 w dst src base disp imm cc
 rw [hm] at c0
 exact (o78 (d := .int .i64 0) [.ret _ _ _ c0, tF, tF, tF, tF, tT] (by kernel_rfl)).to (by rfl)
theorem rreads_30_ok : SpXS20 30 78 := by
 intro w dst src base disp imm cc d0 d1 s0 s1 b0 b1 hm
 have c0 := @rmayX_ok 30 w dst src base disp imm cc
 rw [hm] at c0
 have c1 := @rbit_ok 4 (by decide) (by decide)
 have c2 := @rbit_ok 0 (by decide) (by decide)
 exact (o78 (d := .int .i64 17) ([.ret _ _ _ c0] ++ List.replicate 11 tF ++ [tT, .ret _ _ _ c1, .ret _ _ _ c2]) (by kernel_rfl)).to (by rfl)
theorem rreads_31_ok : SpXS20 31 78 := by
 intro w dst src base disp imm cc d0 d1 s0 s1 b0 b1 hm
 have c0 := @rmayX_ok 31 w dst src base disp imm cc
 rw [hm] at c0
 have c1 := @rbit_ok 0 (by decide) (by decide)
 have c2 := @rbit_ok 7 (by decide) (by decide)
 have c3 := @rbit_ok 6 (by decide) (by decide)
 have c4 := @rbit_ok 2 (by decide) (by decide)
 have c5 := @rbit_ok 10 (by decide) (by decide)
 have c6 := @rbit_ok 8 (by decide) (by decide)
 exact (o78 (d := .int .i64 1477) ([.ret _ _ _ c0] ++ List.replicate 12 tF ++ [tT, .ret _ _ _ c1, .ret _ _ _ c2, .ret _ _ _ c3, .ret _ _ _ c4, .ret _ _ _ c5, .ret _ _ _ c6]) (by kernel_rfl)).to (by rfl)
theorem rreads_no_ok : SpXS21 78 := by
 intro op w dst src base disp imm cc ho hm
 have c0 := @rmayX_ok op w dst src base disp imm cc
 rw [hm] at c0
 exact (o78 (d := .int .i64 0) [.ret _ _ _ c0, tT] (by kernel_rfl)).to (by simp [wk])
theorem rwrites_0_ok : SpXS22 0 79 := by
 intro w dst src base disp imm cc d0 d1 s0 s1 b0 b1 hm
 have c0 := @rmayX_ok 0 w dst src base disp imm cc
 rw [hm] at c0
 have c1 := @rbit_ok dst d0 d1
 exact (o79 (d := .int .i64 (sh8 dst)) ([.ret _ _ _ c0] ++ List.replicate 11 tF ++ [.ret _ _ _ c1]) (by kernel_rfl)).to (by rfl)
theorem rwrites_1_ok : SpXS22 1 79 := by
 intro w dst src base disp imm cc d0 d1 s0 s1 b0 b1 hm
 have c0 := @rmayX_ok 1 w dst src base disp imm cc
 rw [hm] at c0
 have c1 := @rbit_ok dst d0 d1
 exact (o79 (d := .int .i64 (sh8 dst)) ([.ret _ _ _ c0] ++ List.replicate 11 tF ++ [.ret _ _ _ c1]) (by kernel_rfl)).to (by rfl)
theorem rwrites_2_ok : SpXS22 2 79 := by
 intro w dst src base disp imm cc d0 d1 s0 s1 b0 b1 hm
 have c0 := @rmayX_ok 2 w dst src base disp imm cc
 rw [hm] at c0
 have c1 := @rbit_ok dst d0 d1
 exact (o79 (d := .int .i64 (sh8 dst)) ([.ret _ _ _ c0] ++ List.replicate 11 tF ++ [.ret _ _ _ c1]) (by kernel_rfl)).to (by rfl)
theorem rwrites_3_ok : SpXS22 3 79 := by
 intro w dst src base disp imm cc d0 d1 s0 s1 b0 b1 hm
 have c0 := @rmayX_ok 3 w dst src base disp imm cc
 rw [hm] at c0
 have c1 := @rbit_ok dst d0 d1
 exact (o79 (d := .int .i64 (sh8 dst)) ([.ret _ _ _ c0] ++ List.replicate 11 tF ++ [.ret _ _ _ c1]) (by kernel_rfl)).to (by rfl)
theorem rwrites_4_ok : SpXS22 4 79 := by
 intro w dst src base disp imm cc d0 d1 s0 s1 b0 b1 hm
 have c0 := @rmayX_ok 4 w dst src base disp imm cc
 rw [hm] at c0
 have c1 := @rbit_ok dst d0 d1
 exact (o79 (d := .int .i64 (sh8 dst)) ([.ret _ _ _ c0] ++ List.replicate 11 tF ++ [.ret _ _ _ c1]) (by kernel_rfl)).to (by rfl)
theorem rwrites_5_ok : SpXS22 5 79 := by
 intro w dst src base disp imm cc d0 d1 s0 s1 b0 b1 hm
 have c0 := @rmayX_ok 5 w dst src base disp imm cc
 rw [hm] at c0
 have c1 := @rbit_ok dst d0 d1
 exact (o79 (d := .int .i64 (sh8 dst)) ([.ret _ _ _ c0] ++ List.replicate 11 tF ++ [.ret _ _ _ c1]) (by kernel_rfl)).to (by rfl)
theorem rwrites_6_ok : SpXS22 6 79 := by
 intro w dst src base disp imm cc d0 d1 s0 s1 b0 b1 hm
 have c0 := @rmayX_ok 6 w dst src base disp imm cc
 rw [hm] at c0
 have c1 := @rbit_ok dst d0 d1
 exact (o79 (d := .int .i64 (sh8 dst)) ([.ret _ _ _ c0] ++ List.replicate 11 tF ++ [.ret _ _ _ c1]) (by kernel_rfl)).to (by rfl)
theorem rwrites_7_ok : SpXS22 7 79 := by
 intro w dst src base disp imm cc d0 d1 s0 s1 b0 b1 hm
 have c0 := @rmayX_ok 7 w dst src base disp imm cc
 rw [hm] at c0
 exact (o79 (d := .int .i64 0) [.ret _ _ _ c0, tF, tT, tT] (by kernel_rfl)).to (by rfl)
theorem rwrites_8_ok : SpXS22 8 79 := by
 intro w dst src base disp imm cc d0 d1 s0 s1 b0 b1 hm
 have c0 := @rmayX_ok 8 w dst src base disp imm cc
 rw [hm] at c0
 exact (o79 (d := .int .i64 0) [.ret _ _ _ c0, tF, tF, tT, tT] (by kernel_rfl)).to (by rfl)
theorem rwrites_9_ok : SpXS22 9 79 := by
 intro w dst src base disp imm cc d0 d1 s0 s1 b0 b1 hm
 have c0 := @rmayX_ok 9 w dst src base disp imm cc
 rw [hm] at c0
 have c1 := @rbit_ok dst d0 d1
 exact (o79 (d := .int .i64 (sh8 dst)) ([.ret _ _ _ c0] ++ List.replicate 11 tF ++ [.ret _ _ _ c1]) (by kernel_rfl)).to (by rfl)
theorem rwrites_10_ok : SpXS22 10 79 := by
 intro w dst src base disp imm cc d0 d1 s0 s1 b0 b1 hm
 have c0 := @rmayX_ok 10 w dst src base disp imm cc
 rw [hm] at c0
 have c1 := @rbit_ok dst d0 d1
 exact (o79 (d := .int .i64 (sh8 dst)) ([.ret _ _ _ c0] ++ List.replicate 11 tF ++ [.ret _ _ _ c1]) (by kernel_rfl)).to (by rfl)
theorem rwrites_11_ok : SpXS22 11 79 := by
 intro w dst src base disp imm cc d0 d1 s0 s1 b0 b1 hm
 have c0 := @rmayX_ok 11 w dst src base disp imm cc
 rw [hm] at c0
 have c1 := @rbit_ok dst d0 d1
 exact (o79 (d := .int .i64 (sh8 dst)) ([.ret _ _ _ c0] ++ List.replicate 11 tF ++ [.ret _ _ _ c1]) (by kernel_rfl)).to (by rfl)
theorem rwrites_12_ok : SpXS22 12 79 := by
 intro w dst src base disp imm cc d0 d1 s0 s1 b0 b1 hm
 have c0 := @rmayX_ok 12 w dst src base disp imm cc
 rw [hm] at c0
 have c1 := @rbit_ok dst d0 d1
 exact (o79 (d := .int .i64 (sh8 dst)) ([.ret _ _ _ c0] ++ List.replicate 11 tF ++ [.ret _ _ _ c1]) (by kernel_rfl)).to (by rfl)
theorem rwrites_13_ok : SpXS22 13 79 := by
 intro w dst src base disp imm cc d0 d1 s0 s1 b0 b1 hm
 have c0 := @rmayX_ok 13 w dst src base disp imm cc
 rw [hm] at c0
 have c1 := @rbit_ok dst d0 d1
 exact (o79 (d := .int .i64 (sh8 dst)) ([.ret _ _ _ c0] ++ List.replicate 11 tF ++ [.ret _ _ _ c1]) (by kernel_rfl)).to (by rfl)
theorem rwrites_14_ok : SpXS22 14 79 := by
 intro w dst src base disp imm cc d0 d1 s0 s1 b0 b1 hm
 have c0 := @rmayX_ok 14 w dst src base disp imm cc
 rw [hm] at c0
 exact (o79 (d := .int .i64 0) [.ret _ _ _ c0, tF, tF, tF, tT, tT] (by kernel_rfl)).to (by rfl)
theorem rwrites_15_ok : SpXS22 15 79 := by
 intro w dst src base disp imm cc d0 d1 s0 s1 b0 b1 hm
 have c0 := @rmayX_ok 15 w dst src base disp imm cc
 rw [hm] at c0
 exact (o79 (d := .int .i64 0) [.ret _ _ _ c0, tF, tF, tF, tF, tT, tT] (by kernel_rfl)).to (by rfl)
theorem rwrites_16_ok : SpXS22 16 79 := by
 intro w dst src base disp imm cc d0 d1 s0 s1 b0 b1 hm
 have c0 := @rmayX_ok 16 w dst src base disp imm cc
 rw [hm] at c0
 have c1 := @rbit_ok dst d0 d1
 exact (o79 (d := .int .i64 (sh8 dst)) ([.ret _ _ _ c0] ++ List.replicate 11 tF ++ [.ret _ _ _ c1]) (by kernel_rfl)).to (by rfl)
theorem rwrites_17_ok : SpXS22 17 79 := by
 intro w dst src base disp imm cc d0 d1 s0 s1 b0 b1 hm
 have c0 := @rmayX_ok 17 w dst src base disp imm cc
 rw [hm] at c0
 have c1 := @rbit_ok dst d0 d1
 exact (o79 (d := .int .i64 (sh8 dst)) ([.ret _ _ _ c0] ++ List.replicate 11 tF ++ [.ret _ _ _ c1]) (by kernel_rfl)).to (by rfl)
theorem rwrites_18_ok : SpXS22 18 79 := by
 intro w dst src base disp imm cc d0 d1 s0 s1 b0 b1 hm
 have c0 := @rmayX_ok 18 w dst src base disp imm cc
 rw [hm] at c0
 have c1 := @rbit_ok dst d0 d1
 exact (o79 (d := .int .i64 (sh8 dst)) ([.ret _ _ _ c0] ++ List.replicate 11 tF ++ [.ret _ _ _ c1]) (by kernel_rfl)).to (by rfl)
theorem rwrites_19_ok : SpXS22 19 79 := by
 intro w dst src base disp imm cc d0 d1 s0 s1 b0 b1 hm
 have c0 := @rmayX_ok 19 w dst src base disp imm cc
 rw [hm] at c0
 have c1 := @rbit_ok dst d0 d1
 exact (o79 (d := .int .i64 (sh8 dst)) ([.ret _ _ _ c0] ++ List.replicate 11 tF ++ [.ret _ _ _ c1]) (by kernel_rfl)).to (by rfl)
theorem rwrites_20_ok : SpXS22 20 79 := by
 intro w dst src base disp imm cc d0 d1 s0 s1 b0 b1 hm
 have c0 := @rmayX_ok 20 w dst src base disp imm cc
 rw [hm] at c0
 have c1 := @rbit_ok dst d0 d1
 exact (o79 (d := .int .i64 (sh8 dst)) ([.ret _ _ _ c0] ++ List.replicate 11 tF ++ [.ret _ _ _ c1]) (by kernel_rfl)).to (by rfl)
theorem rwrites_21_ok : SpXS22 21 79 := by
 intro w dst src base disp imm cc d0 d1 s0 s1 b0 b1 hm
 have c0 := @rmayX_ok 21 w dst src base disp imm cc
 rw [hm] at c0
 have c1 := @rbit_ok dst d0 d1
 exact (o79 (d := .int .i64 (sh8 dst)) ([.ret _ _ _ c0] ++ List.replicate 11 tF ++ [.ret _ _ _ c1]) (by kernel_rfl)).to (by rfl)
theorem rwrites_22_ok : SpXS22 22 79 := by
 intro w dst src base disp imm cc d0 d1 s0 s1 b0 b1 hm
 have c0 := @rmayX_ok 22 w dst src base disp imm cc
 rw [hm] at c0
 have c1 := @rbit_ok dst d0 d1
 exact (o79 (d := .int .i64 (sh8 dst)) ([.ret _ _ _ c0] ++ List.replicate 11 tF ++ [.ret _ _ _ c1]) (by kernel_rfl)).to (by rfl)
theorem rwrites_23_ok : SpXS22 23 79 := by
 intro w dst src base disp imm cc d0 d1 s0 s1 b0 b1 hm
 have c0 := @rmayX_ok 23 w dst src base disp imm cc
 rw [hm] at c0
 have c1 := @rbit_ok dst d0 d1
 exact (o79 (d := .int .i64 (sh8 dst)) ([.ret _ _ _ c0] ++ List.replicate 11 tF ++ [.ret _ _ _ c1]) (by kernel_rfl)).to (by rfl)
theorem rwrites_24_ok : SpXS22 24 79 := by
 intro w dst src base disp imm cc d0 d1 s0 s1 b0 b1 hm
 have c0 := @rmayX_ok 24 w dst src base disp imm cc
 rw [hm] at c0
 have c1 := @rbit_ok 0 (by decide) (by decide)
 have c2 := @rbit_ok 2 (by decide) (by decide)
 exact (o79 (d := .int .i64 5) ([.ret _ _ _ c0] ++ List.replicate 8 tF ++ [tT, .ret _ _ _ c1, .ret _ _ _ c2]) (by kernel_rfl)).to (by rfl)
theorem rwrites_25_ok : SpXS22 25 79 := by
 intro w dst src base disp imm cc d0 d1 s0 s1 b0 b1 hm
 have c0 := @rmayX_ok 25 w dst src base disp imm cc
 rw [hm] at c0
 have c1 := @rbit_ok dst d0 d1
 exact (o79 (d := .int .i64 (sh8 dst)) ([.ret _ _ _ c0] ++ List.replicate 11 tF ++ [.ret _ _ _ c1]) (by kernel_rfl)).to (by rfl)
theorem rwrites_26_ok : SpXS22 26 79 := by
 intro w dst src base disp imm cc d0 d1 s0 s1 b0 b1 hm
 have c0 := @rmayX_ok 26 w dst src base disp imm cc
 rw [hm] at c0
 have c1 := @rbit_ok dst d0 d1
 exact (o79 (d := .int .i64 (sh8 dst)) ([.ret _ _ _ c0] ++ List.replicate 11 tF ++ [.ret _ _ _ c1]) (by kernel_rfl)).to (by rfl)
theorem rwrites_27_ok : SpXS22 27 79 := by
 intro w dst src base disp imm cc d0 d1 s0 s1 b0 b1 hm
 have c0 := @rmayX_ok 27 w dst src base disp imm cc
 rw [hm] at c0
 exact (o79 (d := .int .i64 0) [.ret _ _ _ c0, tF, tF, tF, tF, tF, tT, tT] (by kernel_rfl)).to (by rfl)
theorem rwrites_28_ok : SpXS22 28 79 := by
 intro w dst src base disp imm cc d0 d1 s0 s1 b0 b1 hm
 have c0 := @rmayX_ok 28 w dst src base disp imm cc
 rw [hm] at c0
 exact (o79 (d := .int .i64 0) [.ret _ _ _ c0, tF, tF, tF, tF, tF, tF, tT, tT] (by kernel_rfl)).to (by rfl)
theorem rwrites_29_ok : SpXS22 29 79 := by
 intro w dst src base disp imm cc d0 d1 s0 s1 b0 b1 hm
 have c0 := @rmayX_ok 29 w dst src base disp imm cc
 rw [hm] at c0
 exact (o79 (d := .int .i64 0) [.ret _ _ _ c0, tF, tF, tF, tF, tF, tF, tF, tT] (by kernel_rfl)).to (by rfl)
theorem rwrites_30_ok : SpXS22 30 79 := by
 intro w dst src base disp imm cc d0 d1 s0 s1 b0 b1 hm
 have c0 := @rmayX_ok 30 w dst src base disp imm cc
 rw [hm] at c0
 have c1 := @rbit_ok 4 (by decide) (by decide)
 exact (o79 (d := .int .i64 16) ([.ret _ _ _ c0] ++ List.replicate 9 tF ++ [tT, .ret _ _ _ c1]) (by kernel_rfl)).to (by rfl)
theorem rwrites_31_ok : SpXS22 31 79 := by
 intro w dst src base disp imm cc d0 d1 s0 s1 b0 b1 hm
 have c0 := @rmayX_ok 31 w dst src base disp imm cc
 rw [hm] at c0
 have c1 := @rbit_ok 0 (by decide) (by decide)
 have c2 := @rbit_ok 1 (by decide) (by decide)
 have c3 := @rbit_ok 11 (by decide) (by decide)
 exact (o79 (d := .int .i64 2051) ([.ret _ _ _ c0] ++ List.replicate 10 tF ++ [tT, .ret _ _ _ c1, .ret _ _ _ c2, .ret _ _ _ c3]) (by kernel_rfl)).to (by rfl)
theorem rwrites_no_ok : SpXS21 79 := by
 intro op w dst src base disp imm cc ho hm
 have c0 := @rmayX_ok op w dst src base disp imm cc
 rw [hm] at c0
 exact (o79 (d := .int .i64 0) [.ret _ _ _ c0, tT] (by kernel_rfl)).to (by simp [wk])
end Go.Proofs.YtojgmjfcfpclbaaGreat

namespace Go.Proofs.YtojgmjfcfpclbaaGreat
open Go Go.Ev
theorem mayX_sh {op w dst src base disp imm cc : Int} (h : mayX op w dst src base disp imm cc = true) : shapeM op ≠ 0 := by
 have hs := (mayX_parts h).2
 intro e
 rw [e] at hs
 simp [mayS] at hs
theorem writes_any_ok (op w dst src base disp imm cc : Int) (ho : op ≤ 127) : Ret Tryz.prog 111 [xD op w dst src base disp imm cc] (.int .i64 (writesXX op w dst src base disp imm cc)) := by
 unfold writesXX
 cases h : mayX op w dst src base disp imm cc
 ·simp only [Bool.false_eq_true, if_false]
  exact writes_no_ok op w dst src base disp imm cc ho h
 ·simp only [if_true]
  obtain ⟨⟨d0, d1, s0, s1, b0, b1, p0, p1, i0, i1⟩, hs⟩ := mayX_parts h
  have hsh := mayX_sh h
  clear hs
  rcases shape_ops hsh with rfl | rfl | rfl | rfl | rfl | rfl | rfl | rfl | rfl | rfl | rfl | rfl | rfl | rfl | rfl | rfl | rfl | rfl | rfl | rfl | rfl | rfl | rfl | rfl | rfl | rfl | rfl | rfl | rfl | rfl | rfl | rfl
  ·exact writes_0_ok _ _ _ _ _ _ _ d0 d1 s0 s1 b0 b1 h
  ·exact writes_1_ok _ _ _ _ _ _ _ d0 d1 s0 s1 b0 b1 h
  ·exact writes_2_ok _ _ _ _ _ _ _ d0 d1 s0 s1 b0 b1 h
  ·exact writes_3_ok _ _ _ _ _ _ _ d0 d1 s0 s1 b0 b1 h
  ·exact writes_4_ok _ _ _ _ _ _ _ d0 d1 s0 s1 b0 b1 h
  ·exact writes_5_ok _ _ _ _ _ _ _ d0 d1 s0 s1 b0 b1 h
  ·exact writes_6_ok _ _ _ _ _ _ _ d0 d1 s0 s1 b0 b1 h
  ·exact writes_7_ok _ _ _ _ _ _ _ d0 d1 s0 s1 b0 b1 h
  ·exact writes_8_ok _ _ _ _ _ _ _ d0 d1 s0 s1 b0 b1 h
  ·exact writes_9_ok _ _ _ _ _ _ _ d0 d1 s0 s1 b0 b1 h
  ·exact writes_10_ok _ _ _ _ _ _ _ d0 d1 s0 s1 b0 b1 h
  ·exact writes_11_ok _ _ _ _ _ _ _ d0 d1 s0 s1 b0 b1 h
  ·exact writes_12_ok _ _ _ _ _ _ _ d0 d1 s0 s1 b0 b1 h
  ·exact writes_13_ok _ _ _ _ _ _ _ d0 d1 s0 s1 b0 b1 h
  ·exact writes_14_ok _ _ _ _ _ _ _ d0 d1 s0 s1 b0 b1 h
  ·exact writes_15_ok _ _ _ _ _ _ _ d0 d1 s0 s1 b0 b1 h
  ·exact writes_16_ok _ _ _ _ _ _ _ d0 d1 s0 s1 b0 b1 h
  ·exact writes_17_ok _ _ _ _ _ _ _ d0 d1 s0 s1 b0 b1 h
  ·exact writes_18_ok _ _ _ _ _ _ _ d0 d1 s0 s1 b0 b1 h
  ·exact writes_19_ok _ _ _ _ _ _ _ d0 d1 s0 s1 b0 b1 h
  ·exact writes_20_ok _ _ _ _ _ _ _ d0 d1 s0 s1 b0 b1 h
  ·exact writes_21_ok _ _ _ _ _ _ _ d0 d1 s0 s1 b0 b1 h
  ·exact writes_22_ok _ _ _ _ _ _ _ d0 d1 s0 s1 b0 b1 h
  ·exact writes_23_ok _ _ _ _ _ _ _ d0 d1 s0 s1 b0 b1 h
  ·exact writes_24_ok _ _ _ _ _ _ _ d0 d1 s0 s1 b0 b1 h
  ·exact writes_25_ok _ _ _ _ _ _ _ d0 d1 s0 s1 b0 b1 h
  ·exact writes_26_ok _ _ _ _ _ _ _ d0 d1 s0 s1 b0 b1 h
  ·exact writes_27_ok _ _ _ _ _ _ _ d0 d1 s0 s1 b0 b1 h
  ·exact writes_28_ok _ _ _ _ _ _ _ d0 d1 s0 s1 b0 b1 h
  ·exact writes_29_ok _ _ _ _ _ _ _ d0 d1 s0 s1 b0 b1 h
  ·exact writes_30_ok _ _ _ _ _ _ _ d0 d1 s0 s1 b0 b1 h
  ·exact writes_31_ok _ _ _ _ _ _ _ d0 d1 s0 s1 b0 b1 h
end Go.Proofs.YtojgmjfcfpclbaaGreat

namespace Go.Proofs.YtojgmjfcfpclbaaGreat
open Go Go.Ev
theorem reads_any_ok (op w dst src base disp imm cc : Int) (ho : op ≤ 127) : Ret Tryz.prog 130 [xD op w dst src base disp imm cc] (.int .i64 (readsXX op w dst src base disp imm cc)) := by
 unfold readsXX
 cases h : mayX op w dst src base disp imm cc
 ·simp only [Bool.false_eq_true, if_false]
  exact reads_no_ok op w dst src base disp imm cc ho h
 ·simp only [if_true]
  obtain ⟨⟨d0, d1, s0, s1, b0, b1, p0, p1, i0, i1⟩, hs⟩ := mayX_parts h
  have hsh := mayX_sh h
  clear hs
  rcases shape_ops hsh with rfl | rfl | rfl | rfl | rfl | rfl | rfl | rfl | rfl | rfl | rfl | rfl | rfl | rfl | rfl | rfl | rfl | rfl | rfl | rfl | rfl | rfl | rfl | rfl | rfl | rfl | rfl | rfl | rfl | rfl | rfl | rfl
  ·exact reads_0_ok _ _ _ _ _ _ _ d0 d1 s0 s1 b0 b1 h
  ·exact reads_1_ok _ _ _ _ _ _ _ d0 d1 s0 s1 b0 b1 h
  ·exact reads_2_ok _ _ _ _ _ _ _ d0 d1 s0 s1 b0 b1 h
  ·exact reads_3_ok _ _ _ _ _ _ _ d0 d1 s0 s1 b0 b1 h
  ·exact reads_4_ok _ _ _ _ _ _ _ d0 d1 s0 s1 b0 b1 h
  ·exact reads_5_ok _ _ _ _ _ _ _ d0 d1 s0 s1 b0 b1 h
  ·exact reads_6_ok _ _ _ _ _ _ _ d0 d1 s0 s1 b0 b1 h
  ·exact reads_7_ok _ _ _ _ _ _ _ d0 d1 s0 s1 b0 b1 h
  ·exact reads_8_ok _ _ _ _ _ _ _ d0 d1 s0 s1 b0 b1 h
  ·exact reads_9_ok _ _ _ _ _ _ _ d0 d1 s0 s1 b0 b1 h
  ·exact reads_10_ok _ _ _ _ _ _ _ d0 d1 s0 s1 b0 b1 h
  ·exact reads_11_ok _ _ _ _ _ _ _ d0 d1 s0 s1 b0 b1 h
  ·exact reads_12_ok _ _ _ _ _ _ _ d0 d1 s0 s1 b0 b1 h
  ·exact reads_13_ok _ _ _ _ _ _ _ d0 d1 s0 s1 b0 b1 h
  ·exact reads_14_ok _ _ _ _ _ _ _ d0 d1 s0 s1 b0 b1 h
  ·exact reads_15_ok _ _ _ _ _ _ _ d0 d1 s0 s1 b0 b1 h
  ·exact reads_16_ok _ _ _ _ _ _ _ d0 d1 s0 s1 b0 b1 h
  ·exact reads_17_ok _ _ _ _ _ _ _ d0 d1 s0 s1 b0 b1 h
  ·exact reads_18_ok _ _ _ _ _ _ _ d0 d1 s0 s1 b0 b1 h
  ·exact reads_19_ok _ _ _ _ _ _ _ d0 d1 s0 s1 b0 b1 h
  ·exact reads_20_ok _ _ _ _ _ _ _ d0 d1 s0 s1 b0 b1 h
  ·exact reads_21_ok _ _ _ _ _ _ _ d0 d1 s0 s1 b0 b1 h
  ·exact reads_22_ok _ _ _ _ _ _ _ d0 d1 s0 s1 b0 b1 h
  ·exact reads_23_ok _ _ _ _ _ _ _ d0 d1 s0 s1 b0 b1 h
  ·exact reads_24_ok _ _ _ _ _ _ _ d0 d1 s0 s1 b0 b1 h
  ·exact reads_25_ok _ _ _ _ _ _ _ d0 d1 s0 s1 b0 b1 h
  ·exact reads_26_ok _ _ _ _ _ _ _ d0 d1 s0 s1 b0 b1 h
  ·exact reads_27_ok _ _ _ _ _ _ _ d0 d1 s0 s1 b0 b1 h
  ·exact reads_28_ok _ _ _ _ _ _ _ d0 d1 s0 s1 b0 b1 h
  ·exact reads_29_ok _ _ _ _ _ _ _ d0 d1 s0 s1 b0 b1 h
  ·exact reads_30_ok _ _ _ _ _ _ _ d0 d1 s0 s1 b0 b1 h
  ·exact reads_31_ok _ _ _ _ _ _ _ d0 d1 s0 s1 b0 b1 h
theorem rreads_any_ok (op w dst src base disp imm cc : Int) (ho : op ≤ 127) : Ret Tryz.prog 78 [xD op w dst src base disp imm cc] (.int .i64 (readsXX op w dst src base disp imm cc)) := by
 unfold readsXX
 cases h : mayX op w dst src base disp imm cc
 ·simp only [Bool.false_eq_true, if_false]
  exact rreads_no_ok op w dst src base disp imm cc ho h
 ·simp only [if_true]
  obtain ⟨⟨d0, d1, s0, s1, b0, b1, p0, p1, i0, i1⟩, hs⟩ := mayX_parts h
  have hsh := mayX_sh h
  clear hs
  rcases shape_ops hsh with rfl | rfl | rfl | rfl | rfl | rfl | rfl | rfl | rfl | rfl | rfl | rfl | rfl | rfl | rfl | rfl | rfl | rfl | rfl | rfl | rfl | rfl | rfl | rfl | rfl | rfl | rfl | rfl | rfl | rfl | rfl | rfl
  ·exact rreads_0_ok _ _ _ _ _ _ _ d0 d1 s0 s1 b0 b1 h
  ·exact rreads_1_ok _ _ _ _ _ _ _ d0 d1 s0 s1 b0 b1 h
  ·exact rreads_2_ok _ _ _ _ _ _ _ d0 d1 s0 s1 b0 b1 h
  ·exact rreads_3_ok _ _ _ _ _ _ _ d0 d1 s0 s1 b0 b1 h
  ·exact rreads_4_ok _ _ _ _ _ _ _ d0 d1 s0 s1 b0 b1 h
  ·exact rreads_5_ok _ _ _ _ _ _ _ d0 d1 s0 s1 b0 b1 h
  ·exact rreads_6_ok _ _ _ _ _ _ _ d0 d1 s0 s1 b0 b1 h
  ·exact rreads_7_ok _ _ _ _ _ _ _ d0 d1 s0 s1 b0 b1 h
  ·exact rreads_8_ok _ _ _ _ _ _ _ d0 d1 s0 s1 b0 b1 h
  ·exact rreads_9_ok _ _ _ _ _ _ _ d0 d1 s0 s1 b0 b1 h
  ·exact rreads_10_ok _ _ _ _ _ _ _ d0 d1 s0 s1 b0 b1 h
  ·exact rreads_11_ok _ _ _ _ _ _ _ d0 d1 s0 s1 b0 b1 h
  ·exact rreads_12_ok _ _ _ _ _ _ _ d0 d1 s0 s1 b0 b1 h
  ·exact rreads_13_ok _ _ _ _ _ _ _ d0 d1 s0 s1 b0 b1 h
  ·exact rreads_14_ok _ _ _ _ _ _ _ d0 d1 s0 s1 b0 b1 h
  ·exact rreads_15_ok _ _ _ _ _ _ _ d0 d1 s0 s1 b0 b1 h
  ·exact rreads_16_ok _ _ _ _ _ _ _ d0 d1 s0 s1 b0 b1 h
  ·exact rreads_17_ok _ _ _ _ _ _ _ d0 d1 s0 s1 b0 b1 h
  ·exact rreads_18_ok _ _ _ _ _ _ _ d0 d1 s0 s1 b0 b1 h
  ·exact rreads_19_ok _ _ _ _ _ _ _ d0 d1 s0 s1 b0 b1 h
  ·exact rreads_20_ok _ _ _ _ _ _ _ d0 d1 s0 s1 b0 b1 h
  ·exact rreads_21_ok _ _ _ _ _ _ _ d0 d1 s0 s1 b0 b1 h
  ·exact rreads_22_ok _ _ _ _ _ _ _ d0 d1 s0 s1 b0 b1 h
  ·exact rreads_23_ok _ _ _ _ _ _ _ d0 d1 s0 s1 b0 b1 h
  ·exact rreads_24_ok _ _ _ _ _ _ _ d0 d1 s0 s1 b0 b1 h
  ·exact rreads_25_ok _ _ _ _ _ _ _ d0 d1 s0 s1 b0 b1 h
  ·exact rreads_26_ok _ _ _ _ _ _ _ d0 d1 s0 s1 b0 b1 h
  ·exact rreads_27_ok _ _ _ _ _ _ _ d0 d1 s0 s1 b0 b1 h
  ·exact rreads_28_ok _ _ _ _ _ _ _ d0 d1 s0 s1 b0 b1 h
  ·exact rreads_29_ok _ _ _ _ _ _ _ d0 d1 s0 s1 b0 b1 h
  ·exact rreads_30_ok _ _ _ _ _ _ _ d0 d1 s0 s1 b0 b1 h
  ·exact rreads_31_ok _ _ _ _ _ _ _ d0 d1 s0 s1 b0 b1 h
theorem rwrites_any_ok (op w dst src base disp imm cc : Int) (ho : op ≤ 127) : Ret Tryz.prog 79 [xD op w dst src base disp imm cc] (.int .i64 (writesXX op w dst src base disp imm cc)) := by
 unfold writesXX
 cases h : mayX op w dst src base disp imm cc
 ·simp only [Bool.false_eq_true, if_false]
  exact rwrites_no_ok op w dst src base disp imm cc ho h
 ·simp only [if_true]
  obtain ⟨⟨d0, d1, s0, s1, b0, b1, p0, p1, i0, i1⟩, hs⟩ := mayX_parts h
  have hsh := mayX_sh h
  clear hs
  rcases shape_ops hsh with rfl | rfl | rfl | rfl | rfl | rfl | rfl | rfl | rfl | rfl | rfl | rfl | rfl | rfl | rfl | rfl | rfl | rfl | rfl | rfl | rfl | rfl | rfl | rfl | rfl | rfl | rfl | rfl | rfl | rfl | rfl | rfl
  ·exact rwrites_0_ok _ _ _ _ _ _ _ d0 d1 s0 s1 b0 b1 h
  ·exact rwrites_1_ok _ _ _ _ _ _ _ d0 d1 s0 s1 b0 b1 h
  ·exact rwrites_2_ok _ _ _ _ _ _ _ d0 d1 s0 s1 b0 b1 h
  ·exact rwrites_3_ok _ _ _ _ _ _ _ d0 d1 s0 s1 b0 b1 h
  ·exact rwrites_4_ok _ _ _ _ _ _ _ d0 d1 s0 s1 b0 b1 h
  ·exact rwrites_5_ok _ _ _ _ _ _ _ d0 d1 s0 s1 b0 b1 h
  ·exact rwrites_6_ok _ _ _ _ _ _ _ d0 d1 s0 s1 b0 b1 h
  ·exact rwrites_7_ok _ _ _ _ _ _ _ d0 d1 s0 s1 b0 b1 h
  ·exact rwrites_8_ok _ _ _ _ _ _ _ d0 d1 s0 s1 b0 b1 h
  ·exact rwrites_9_ok _ _ _ _ _ _ _ d0 d1 s0 s1 b0 b1 h
  ·exact rwrites_10_ok _ _ _ _ _ _ _ d0 d1 s0 s1 b0 b1 h
  ·exact rwrites_11_ok _ _ _ _ _ _ _ d0 d1 s0 s1 b0 b1 h
  ·exact rwrites_12_ok _ _ _ _ _ _ _ d0 d1 s0 s1 b0 b1 h
  ·exact rwrites_13_ok _ _ _ _ _ _ _ d0 d1 s0 s1 b0 b1 h
  ·exact rwrites_14_ok _ _ _ _ _ _ _ d0 d1 s0 s1 b0 b1 h
  ·exact rwrites_15_ok _ _ _ _ _ _ _ d0 d1 s0 s1 b0 b1 h
  ·exact rwrites_16_ok _ _ _ _ _ _ _ d0 d1 s0 s1 b0 b1 h
  ·exact rwrites_17_ok _ _ _ _ _ _ _ d0 d1 s0 s1 b0 b1 h
  ·exact rwrites_18_ok _ _ _ _ _ _ _ d0 d1 s0 s1 b0 b1 h
  ·exact rwrites_19_ok _ _ _ _ _ _ _ d0 d1 s0 s1 b0 b1 h
  ·exact rwrites_20_ok _ _ _ _ _ _ _ d0 d1 s0 s1 b0 b1 h
  ·exact rwrites_21_ok _ _ _ _ _ _ _ d0 d1 s0 s1 b0 b1 h
  ·exact rwrites_22_ok _ _ _ _ _ _ _ d0 d1 s0 s1 b0 b1 h
  ·exact rwrites_23_ok _ _ _ _ _ _ _ d0 d1 s0 s1 b0 b1 h
  ·exact rwrites_24_ok _ _ _ _ _ _ _ d0 d1 s0 s1 b0 b1 h
  ·exact rwrites_25_ok _ _ _ _ _ _ _ d0 d1 s0 s1 b0 b1 h
  ·exact rwrites_26_ok _ _ _ _ _ _ _ d0 d1 s0 s1 b0 b1 h
  ·exact rwrites_27_ok _ _ _ _ _ _ _ d0 d1 s0 s1 b0 b1 h
  ·exact rwrites_28_ok _ _ _ _ _ _ _ d0 d1 s0 s1 b0 b1 h
  ·exact rwrites_29_ok _ _ _ _ _ _ _ d0 d1 s0 s1 b0 b1 h
  ·exact rwrites_30_ok _ _ _ _ _ _ _ d0 d1 s0 s1 b0 b1 h
  ·exact rwrites_31_ok _ _ _ _ _ _ _ d0 d1 s0 s1 b0 b1 h
end Go.Proofs.YtojgmjfcfpclbaaGreat

namespace Go.Ev
open Go
def inU (n : Int) : Prop := 0 ≤ n ∧ n ≤ 18446744073709551615
theorem cut_cut (v w : Int) : cutM (cutM v w) w = cutM v w := by
 unfold cutM
 split
 ·omega
 ·split
  ·omega
  ·split
   ·omega
   ·rfl
def bitOf (w k : Int) : Int := IntKind.i64.wrap ((BitVec.ofInt 64 (w.fdiv (2 ^ (min k.toNat 64))) &&& BitVec.ofInt 64 1).toNat : Int)
def mayP (w dst src : Int) : Bool := longM w && regM dst && regM src
end Go.Ev

namespace Go.Ev
open Go
theorem cases16 {p : Int → Prop} (h0 : p 0) (h1 : p 1) (h2 : p 2) (h3 : p 3) (h4 : p 4) (h5 : p 5) (h6 : p 6) (h7 : p 7) (h8 : p 8) (h9 : p 9) (h10 : p 10) (h11 : p 11) (h12 : p 12) (h13 : p 13) (h14 : p 14) (h15 : p 15) : ∀ k : Int, 0 ≤ k → k ≤ 15 → p k := by
 intro k k0 k1
 have : k = 0 ∨ k = 1 ∨ k = 2 ∨ k = 3 ∨ k = 4 ∨ k = 5 ∨ k = 6 ∨ k = 7 ∨ k = 8 ∨ k = 9 ∨ k = 10 ∨ k = 11 ∨ k = 12 ∨ k = 13 ∨ k = 14 ∨ k = 15 := by omega
 rcases this with rfl | rfl | rfl | rfl | rfl | rfl | rfl | rfl | rfl | rfl | rfl | rfl | rfl | rfl | rfl | rfl
 ·exact h0
 ·exact h1
 ·exact h2
 ·exact h3
 ·exact h4
 ·exact h5
 ·exact h6
 ·exact h7
 ·exact h8
 ·exact h9
 ·exact h10
 ·exact h11
 ·exact h12
 ·exact h13
 ·exact h14
 ·exact h15
theorem may_long {sh w dst src base disp imm cc : Int} (h : mayS sh w dst src base disp imm cc = true) (hs : sh = 1 ∨ sh = 2 ∨ sh = 3 ∨ sh = 4 ∨ sh = 5 ∨ sh = 6) : longM w = true := by
 rcases hs with rfl | rfl | rfl | rfl | rfl | rfl <;> simp [mayS] at h <;> first | exact h.1 | exact h.1.1 | exact h
theorem may_cc {w dst src base disp imm cc : Int} (h : mayS 6 w dst src base disp imm cc = true) : ccM cc = true := by
 simp [mayS] at h; exact h.2
theorem may_cc' {w dst src base disp imm cc : Int} (h : mayS 10 w dst src base disp imm cc = true) : ccM cc = true := by
 simp [mayS] at h; exact h.2
end Go.Ev

namespace Go.Ev
open Go
structure MachS where
  (q0 q1 q2 q3 q4 q5 q6 q7 q8 q9 q10 q11 q12 q13 q14 q15 : Int)
  (fk fc fz fs fo : Bool)
  (pc : Int)
deriving DecidableEq
def MachS.d (m : MachS) : D := .agg [.int .u64 m.q0, .int .u64 m.q1, .int .u64 m.q2, .int .u64 m.q3, .int .u64 m.q4, .int .u64 m.q5, .int .u64 m.q6, .int .u64 m.q7, .int .u64 m.q8, .int .u64 m.q9, .int .u64 m.q10, .int .u64 m.q11, .int .u64 m.q12, .int .u64 m.q13, .int .u64 m.q14, .int .u64 m.q15, .bool m.fk, .bool m.fc, .bool m.fz, .bool m.fs, .bool m.fo, .int .u64 m.pc]
def MachS.rl (m : MachS) : List Int := [m.q0, m.q1, m.q2, m.q3, m.q4, m.q5, m.q6, m.q7, m.q8, m.q9, m.q10, m.q11, m.q12, m.q13, m.q14, m.q15]
def MachS.put (m : MachS) (i v : Int) : MachS := ⟨st 0 i v m.q0, st 1 i v m.q1, st 2 i v m.q2, st 3 i v m.q3, st 4 i v m.q4, st 5 i v m.q5, st 6 i v m.q6, st 7 i v m.q7, st 8 i v m.q8, st 9 i v m.q9, st 10 i v m.q10, st 11 i v m.q11, st 12 i v m.q12, st 13 i v m.q13, st 14 i v m.q14, st 15 i v m.q15, m.fk, m.fc, m.fz, m.fs, m.fo, m.pc⟩
def MachS.flags (m : MachS) (k c z s o : Bool) : MachS := ⟨m.q0, m.q1, m.q2, m.q3, m.q4, m.q5, m.q6, m.q7, m.q8, m.q9, m.q10, m.q11, m.q12, m.q13, m.q14, m.q15, k, c, z, s, o, m.pc⟩
def MachS.at (m : MachS) (v : Int) : MachS := ⟨m.q0, m.q1, m.q2, m.q3, m.q4, m.q5, m.q6, m.q7, m.q8, m.q9, m.q10, m.q11, m.q12, m.q13, m.q14, m.q15, m.fk, m.fc, m.fz, m.fs, m.fo, v⟩
def MachS.zero : MachS := ⟨0, 0, 0, 0, 0, 0, 0, 0, 0, 0, 0, 0, 0, 0, 0, 0, false, false, false, false, false, 0⟩
def XS.len (x : XS) : Int := lenX x.op x.w x.dst x.src x.base x.disp x.imm x.cc
def XS.may (x : XS) : Bool := mayX x.op x.w x.dst x.src x.base x.disp x.imm x.cc
def sopM (op : Int) : Option (Int × Int) :=
  match op with
  | 2 => some (0, 0)
  | 3 => some (4, 0)
  | 4 => some (5, 0)
  | 5 => some (1, 0)
  | 6 => some (10, 0)
  | 7 => some (1, 0)
  | 8 => some (5, 0)
  | 9 => some (0, 1)
  | 10 => some (4, 1)
  | 11 => some (5, 1)
  | 12 => some (1, 1)
  | 13 => some (10, 1)
  | 14 => some (1, 1)
  | 15 => some (5, 1)
  | 16 => some (2, 0)
  | 17 => some (6, 1)
  | 18 => some (7, 1)
  | 19 => some (12, 1)
  | 20 => some (6, 2)
  | 21 => some (7, 2)
  | 22 => some (12, 2)
  | 23 => some (8, 0)
  | _ => none
def secS (m : MachS) (x : XS) (k : Int) : Int := match k with
  | 2 => m.q1
  | 1 => u64 x.imm
  | _ => rg m.rl x.src
def flagS (m : MachS) (s w a b v : Int) : MachS := match s with
  | 0 => m.flags true (addC w a b) (cutM (u64 (a + b)) w == 0) (negM (u64 (a + b)) w) (addO w a b)
  | 1 => m.flags true (subC w a b) (cutM (u64 (a - b)) w == 0) (negM (u64 (a - b)) w) (subO w a b)
  | 8 => m.flags true (subC w 0 a) (cutM (u64 (0 - a)) w == 0) (negM (u64 (0 - a)) w) (subO w 0 a)
  | 4 => m.flags true false (cutM v w == 0) (negM v w) false
  | 5 => m.flags true false (cutM v w == 0) (negM v w) false
  | 10 => m.flags true false (cutM v w == 0) (negM v w) false
  | _ => m.flags false false false false false
def keepOp (op : Int) : Bool := match op with
  | 7 => true
  | 8 => true
  | 14 => true
  | 15 => true
  | _ => false
def doS (m : MachS) (x : XS) (ld : Int) : MachS × Int := match sopM x.op with
  | some (s, k) =>
    let a := rg m.rl x.dst
    let b := secS m x k
    let v := doM s x.w a b
    match keepOp x.op with
    | true => (flagS m s x.w a b v, 0)
    | false => ((flagS m s x.w a b v).put x.dst v, 0)
  | none => match x.op with
    | 0 => (m.put x.dst (cutM (rg m.rl x.src) x.w), 0)
    | 1 => (m.put x.dst (cutM (u64 x.imm) x.w), 0)
    | 24 => match cutM (rg m.rl x.dst) x.w == 0 with
      | true => (.zero, 20)
      | false => match cutM m.q2 x.w == 0 with
        | false => (.zero, 20)
        | true => (({ m with q0 := u64 ((cutM m.q0 x.w).tdiv (cutM (rg m.rl x.dst) x.w)), q2 := (cutM m.q0 x.w).tmod (cutM (rg m.rl x.dst) x.w) }).flags false false false false false, 0)
    | 25 => match m.fk with
      | false => (.zero, 20)
      | true => (m.put x.dst (cutM (if holdM x.cc m.fc m.fz m.fs m.fo then rg m.rl x.src else rg m.rl x.dst) x.w), 0)
    | 26 => (m.put x.dst (cutM ld x.w), 0)
    | 28 => (m.at (u64 (m.pc + u64 x.imm)), 0)
    | 29 => match m.fk with
      | false => (.zero, 20)
      | true => (m.at (if holdM x.cc m.fc m.fz m.fs m.fo then u64 (m.pc + u64 x.imm) else m.pc), 0)
    | 30 => (({ m with q4 := u64 (m.q4 + 8) }).at ld, 0)
    | 31 => ({ m with q0 := ld, q1 := 0, q11 := 0 }, 0)
    | _ => (m, 0)
def execS (m : MachS) (x : XS) (ld : Int) : MachS × Int := match x.may with
  | false => (.zero, 2)
  | true => doS (m.at (u64 (m.pc + u64 x.len))) x ld
def execM (m : MachS) (x : XS) (ld : Int) : MachS := (execS m x ld).1
def execE (m : MachS) (x : XS) (ld : Int) : Int := (execS m x ld).2
theorem execS_no {m : MachS} {x : XS} {ld : Int} (h : x.may = false) : execS m x ld = (.zero, 2) := by unfold execS; rw [h]
theorem execS_may {m : MachS} {x : XS} {ld : Int} (h : x.may = true) : execS m x ld = doS (m.at (u64 (m.pc + u64 x.len))) x ld := by unfold execS; rw [h]
def pcX (m : MachS) (op w dst src base disp imm cc : Int) : Int := u64 (m.pc + u64 (lenX op w dst src base disp imm cc))
def xT (op w dst src base disp imm cc ld : Int) : List D := [.int .i8 op, .int .i8 w, .int .i8 dst, .int .i8 src, .int .i8 base, .int .i64 disp, .int .i64 imm, .int .i8 cc, .int .u64 ld]
def fT (m : MachS) (p : Int) (tl : List D) : List D := .bool m.fk :: .bool m.fc :: .bool m.fz :: .bool m.fs :: .bool m.fo :: .int .u64 p :: tl
def zC : List D := [.int .u64 0, .int .u64 0, .int .u64 0, .int .u64 0, .int .u64 0, .int .u64 0, .int .u64 0, .int .u64 0, .int .u64 0, .int .u64 0, .int .u64 0, .int .u64 0, .int .u64 0, .int .u64 0, .int .u64 0, .int .u64 0, .bool false, .bool false, .bool false, .bool false, .bool false, .int .u64 0]
def MachS.cw (m : MachS) (p : Int) (tl : List D) : List D := .int .u64 m.q0 :: .int .u64 m.q1 :: .int .u64 m.q2 :: .int .u64 m.q3 :: .int .u64 m.q4 :: .int .u64 m.q5 :: .int .u64 m.q6 :: .int .u64 m.q7 :: .int .u64 m.q8 :: .int .u64 m.q9 :: .int .u64 m.q10 :: .int .u64 m.q11 :: .int .u64 m.q12 :: .int .u64 m.q13 :: .int .u64 m.q14 :: .int .u64 m.q15 :: .bool m.fk :: .bool m.fc :: .bool m.fz :: .bool m.fs :: .bool m.fo :: .int .u64 p :: tl
theorem get_regm (m : MachS) (i : Int) (tl : List D) (h0 : 0 ≤ i) (h1 : i ≤ 15) : (D.int .u64 m.q0 :: D.int .u64 m.q1 :: D.int .u64 m.q2 :: D.int .u64 m.q3 :: D.int .u64 m.q4 :: D.int .u64 m.q5 :: D.int .u64 m.q6 :: D.int .u64 m.q7 :: D.int .u64 m.q8 :: D.int .u64 m.q9 :: D.int .u64 m.q10 :: D.int .u64 m.q11 :: D.int .u64 m.q12 :: D.int .u64 m.q13 :: D.int .u64 m.q14 :: D.int .u64 m.q15 :: tl : List D)[0 + i.toNat * 1]? = some (.int .u64 (rg m.rl i)) := get_reg h0 h1
theorem put_regm (m : MachS) (i v : Int) (tl : List D) (h0 : 0 ≤ i) (h1 : i ≤ 15) : PutsA (D.int .u64 m.q0 :: D.int .u64 m.q1 :: D.int .u64 m.q2 :: D.int .u64 m.q3 :: D.int .u64 m.q4 :: D.int .u64 m.q5 :: D.int .u64 m.q6 :: D.int .u64 m.q7 :: D.int .u64 m.q8 :: D.int .u64 m.q9 :: D.int .u64 m.q10 :: D.int .u64 m.q11 :: D.int .u64 m.q12 :: D.int .u64 m.q13 :: D.int .u64 m.q14 :: D.int .u64 m.q15 :: tl : List D) (0 + i.toNat * 1) [D.int .u64 v] (D.int .u64 (m.put i v).q0 :: D.int .u64 (m.put i v).q1 :: D.int .u64 (m.put i v).q2 :: D.int .u64 (m.put i v).q3 :: D.int .u64 (m.put i v).q4 :: D.int .u64 (m.put i v).q5 :: D.int .u64 (m.put i v).q6 :: D.int .u64 (m.put i v).q7 :: D.int .u64 (m.put i v).q8 :: D.int .u64 (m.put i v).q9 :: D.int .u64 (m.put i v).q10 :: D.int .u64 (m.put i v).q11 :: D.int .u64 (m.put i v).q12 :: D.int .u64 (m.put i v).q13 :: D.int .u64 (m.put i v).q14 :: D.int .u64 (m.put i v).q15 :: tl) := put_reg h0 h1
def addrS (m : MachS) (x : XS) : Int × Int × Bool :=
  if x.may = true ∧ (x.op = 26 ∨ x.op = 27) then (u64 (rg m.rl x.base + u64 x.disp), x.w / 8, true)
  else if x.may = true ∧ x.op = 30 then (m.q4, 8, true)
  else (0, 0, false)
def storedS (m : MachS) (x : XS) : Int := if x.may = true ∧ x.op = 27 then cutM (rg m.rl x.src) x.w else 0
def numS (m : MachS) : Int × Bool := if 16 ≤ m.q0 then (0, false) else (IntKind.i64.wrap m.q0, true)
def numV (q : Int) : Int := if 16 ≤ q then 0 else IntKind.i64.wrap q
def numB (q : Int) : Bool := !decide (16 ≤ q)
def argsS (m : MachS) : List Int := if 16 ≤ m.q0 then [] else [m.q7, m.q6, m.q2, m.q10, m.q8].take (m.q0.toNat % 6)
def wD (l : List Int) : List D := l.map (fun x => .int .u64 x)
def toccM (cc : Int) : Int × Bool :=
  if cc = 0 then (4, true) else if cc = 1 then (5, true) else if cc = 2 then (7, true) else if cc = 3 then (3, true) else if cc = 4 then (2, true) else if cc = 5 then (6, true)
  else if cc = 6 then (15, true) else if cc = 7 then (13, true) else if cc = 8 then (12, true) else if cc = 9 then (14, true) else if cc = 10 then (5, true) else (0, false)
def ccM' (cc : Int) : Int × Bool :=
  if cc = 4 then (0, true) else if cc = 5 then (1, true) else if cc = 7 then (2, true) else if cc = 3 then (3, true) else if cc = 2 then (4, true) else if cc = 6 then (5, true)
  else if cc = 15 then (6, true) else if cc = 13 then (7, true) else if cc = 12 then (8, true) else if cc = 14 then (9, true) else (0, false)
end Go.Ev
