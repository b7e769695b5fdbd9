/- Contracts and plain laws that a statement's proof leans on (texts merged: XB2d, XB2e, XBytes, XB3, XBytes2, XLen, XD2, XD3, XD4, XD4A, EvR). -/
import Derived.ProofKit
import Derived.Carry
import Derived.SizedLaws
import Derived.Test.YtcngafhpodeenaaS04
import Derived.Test.YtcngafhpodeenaaS05
import Derived.Test.YtcngafhpodeenaaS06
import Derived.Test.YtcngafhpodeenaaS08
set_option linter.unusedVariables false
set_option linter.unusedSimpArgs false
namespace Go.Proofs.Ytcngafhpodeenaa
open Go Go.Ev
set_option maxRecDepth 100000
set_option maxHeartbeats 8000000
theorem bytesO_27_ok (w dst src base disp imm cc : Int) (d0 : 0 ≤ dst) (d1 : dst ≤ 15) (s0 : 0 ≤ src) (s1 : src ≤ 15) (b0 : 0 ≤ base) (b1 : base ≤ 15) (p0 : -2147483648 ≤ disp) (p1 : disp ≤ 2147483647) (i0 : -2147483648 ≤ imm) (i1 : imm ≤ 2147483647) (c0 : 0 ≤ cc) (c1 : cc ≤ 15) (hm : mayX 27 w dst src base disp imm cc = true) : Ret Try.prog 21 ([xD 27 w dst src base disp imm cc]) (.tup [.lst .no 1 (bD (bytesM 27 w dst src base disp imm cc)), .int .i64 0]) := by
 have c0 := @mayX_ok 27 w dst src base disp imm cc (by decide)
 rw [hm] at c0
 have c1 := @of_any_ok 27 (by decide)
 let E1 : EL := [.ret _ _ _ c0, tF, .ret _ _ _ c1, tF, tF, tF, tF, tF, tF, tF, tT]
 by_cases h2 : w = 8
 ·subst h2
  have c3 := @rex_yes_ok src base s0 s1 b0 b1 false true (rfl : true = true)
  generalize g5 : rexB false src base = r4 at c3
  rcases bft (decide (base % 8 = 4)) with h6 | h6
  ·have c7 := @mMem_4_ok src base disp s0 s1 b0 b1 p0 p1 h6
   exact (o21 (d := .tup [.lst (.fresh 1) 1 [.int .u8 r4, .int .u8 136, .int .u8 (128 + 8 * (src % 8) + base % 8), .int .u8 36, .int .u8 (disp % 256), .int .u8 (disp / 256 % 256), .int .u8 (disp / 65536 % 256), .int .u8 (disp / 16777216 % 256)], .int .i64 0]) (E1 ++ [tT, .ret _ _ _ c3, .inl, .ret _ _ _ c7, .inl, .go 64, tT, tT, .get ([.lst .tight 0 [], .lst .tight 1 [.int .u8 r4], .lst .tight 1 [.int .u8 136], .lst .no 1 [.int .u8 (128 + 8 * (src % 8) + base % 8), .int .u8 36, .int .u8 (disp % 256), .int .u8 (disp / 256 % 256), .int .u8 (disp / 65536 % 256), .int .u8 (disp / 16777216 % 256)]]) 0 (.lst .tight 0 []) rfl, .len 0 2147483648 (by decide), tT, tT, .get ([.lst .tight 0 [], .lst .tight 1 [.int .u8 r4], .lst .tight 1 [.int .u8 136], .lst .no 1 [.int .u8 (128 + 8 * (src % 8) + base % 8), .int .u8 36, .int .u8 (disp % 256), .int .u8 (disp / 256 % 256), .int .u8 (disp / 65536 % 256), .int .u8 (disp / 16777216 % 256)]]) 1 (.lst .tight 1 [.int .u8 r4]) rfl, .len 1 2147483648 (by decide), tT, tT, .get ([.lst .tight 0 [], .lst .tight 1 [.int .u8 r4], .lst .tight 1 [.int .u8 136], .lst .no 1 [.int .u8 (128 + 8 * (src % 8) + base % 8), .int .u8 36, .int .u8 (disp % 256), .int .u8 (disp / 256 % 256), .int .u8 (disp / 65536 % 256), .int .u8 (disp / 16777216 % 256)]]) 2 (.lst .tight 1 [.int .u8 136]) rfl, .len 2 2147483648 (by decide), tT, tT, .get ([.lst .tight 0 [], .lst .tight 1 [.int .u8 r4], .lst .tight 1 [.int .u8 136], .lst .no 1 [.int .u8 (128 + 8 * (src % 8) + base % 8), .int .u8 36, .int .u8 (disp % 256), .int .u8 (disp / 256 % 256), .int .u8 (disp / 65536 % 256), .int .u8 (disp / 16777216 % 256)]]) 3 (.lst .no 1 [.int .u8 (128 + 8 * (src % 8) + base % 8), .int .u8 36, .int .u8 (disp % 256), .int .u8 (disp / 256 % 256), .int .u8 (disp / 65536 % 256), .int .u8 (disp / 16777216 % 256)]) rfl, .len 8 2147483648 (by decide), tF]) (by kernel_rfl)).to (by clear E1; (subst_vars; (try simp only [beq_dec] at *); (try simp only [beq_iff_eq] at h); (try simp only [decide_eq_true_eq, decide_eq_false_iff_not] at *); simp_all [wk, wkL, wkO, bytesM, bD, rexM, memM, fourM, w_u8, needM, codeM, numM, shapeM]; done))
  have c8 := @mMem_n_ok src base disp s0 s1 b0 b1 p0 p1 h6
  exact (o21 (d := .tup [.lst (.fresh 1) 1 [.int .u8 r4, .int .u8 136, .int .u8 (128 + 8 * (src % 8) + base % 8), .int .u8 (disp % 256), .int .u8 (disp / 256 % 256), .int .u8 (disp / 65536 % 256), .int .u8 (disp / 16777216 % 256)], .int .i64 0]) (E1 ++ [tT, .ret _ _ _ c3, .inl, .ret _ _ _ c8, .inl, .go 64, tT, tT, .get ([.lst .tight 0 [], .lst .tight 1 [.int .u8 r4], .lst .tight 1 [.int .u8 136], .lst .no 1 [.int .u8 (128 + 8 * (src % 8) + base % 8), .int .u8 (disp % 256), .int .u8 (disp / 256 % 256), .int .u8 (disp / 65536 % 256), .int .u8 (disp / 16777216 % 256)]]) 0 (.lst .tight 0 []) rfl, .len 0 2147483648 (by decide), tT, tT, .get ([.lst .tight 0 [], .lst .tight 1 [.int .u8 r4], .lst .tight 1 [.int .u8 136], .lst .no 1 [.int .u8 (128 + 8 * (src % 8) + base % 8), .int .u8 (disp % 256), .int .u8 (disp / 256 % 256), .int .u8 (disp / 65536 % 256), .int .u8 (disp / 16777216 % 256)]]) 1 (.lst .tight 1 [.int .u8 r4]) rfl, .len 1 2147483648 (by decide), tT, tT, .get ([.lst .tight 0 [], .lst .tight 1 [.int .u8 r4], .lst .tight 1 [.int .u8 136], .lst .no 1 [.int .u8 (128 + 8 * (src % 8) + base % 8), .int .u8 (disp % 256), .int .u8 (disp / 256 % 256), .int .u8 (disp / 65536 % 256), .int .u8 (disp / 16777216 % 256)]]) 2 (.lst .tight 1 [.int .u8 136]) rfl, .len 2 2147483648 (by decide), tT, tT, .get ([.lst .tight 0 [], .lst .tight 1 [.int .u8 r4], .lst .tight 1 [.int .u8 136], .lst .no 1 [.int .u8 (128 + 8 * (src % 8) + base % 8), .int .u8 (disp % 256), .int .u8 (disp / 256 % 256), .int .u8 (disp / 65536 % 256), .int .u8 (disp / 16777216 % 256)]]) 3 (.lst .no 1 [.int .u8 (128 + 8 * (src % 8) + base % 8), .int .u8 (disp % 256), .int .u8 (disp / 256 % 256), .int .u8 (disp / 65536 % 256), .int .u8 (disp / 16777216 % 256)]) rfl, .len 7 2147483648 (by decide), tF]) (by kernel_rfl)).to (by clear E1; (subst_vars; (try simp only [beq_dec] at *); (try simp only [beq_iff_eq] at h); (try simp only [decide_eq_true_eq, decide_eq_false_iff_not] at *); simp_all [wk, wkL, wkO, bytesM, bD, rexM, memM, fourM, w_u8, needM, codeM, numM, shapeM]; done))
 let E2 : EL := E1 ++ [tC (neOf h2)]
 by_cases h9 : w = 16
 ·subst h9
  rcases bft (needM false src base false) with h10 | h10
  ·have c11 := @rex_yes_ok src base s0 s1 b0 b1 false false h10
   generalize g13 : rexB false src base = r12 at c11
   rcases bft (decide (base % 8 = 4)) with h14 | h14
   ·have c15 := @mMem_4_ok src base disp s0 s1 b0 b1 p0 p1 h14
    exact (o21 (d := .tup [.lst (.fresh 1) 1 [.int .u8 102, .int .u8 r12, .int .u8 137, .int .u8 (128 + 8 * (src % 8) + base % 8), .int .u8 36, .int .u8 (disp % 256), .int .u8 (disp / 256 % 256), .int .u8 (disp / 65536 % 256), .int .u8 (disp / 16777216 % 256)], .int .i64 0]) (E2 ++ [tT, .ret _ _ _ c11, .inl, .ret _ _ _ c15, .inl, .go 64, tT, tT, .get ([.lst .tight 1 [.int .u8 102], .lst .tight 1 [.int .u8 r12], .lst .tight 1 [.int .u8 137], .lst .no 1 [.int .u8 (128 + 8 * (src % 8) + base % 8), .int .u8 36, .int .u8 (disp % 256), .int .u8 (disp / 256 % 256), .int .u8 (disp / 65536 % 256), .int .u8 (disp / 16777216 % 256)]]) 0 (.lst .tight 1 [.int .u8 102]) rfl, .len 1 2147483648 (by decide), tT, tT, .get ([.lst .tight 1 [.int .u8 102], .lst .tight 1 [.int .u8 r12], .lst .tight 1 [.int .u8 137], .lst .no 1 [.int .u8 (128 + 8 * (src % 8) + base % 8), .int .u8 36, .int .u8 (disp % 256), .int .u8 (disp / 256 % 256), .int .u8 (disp / 65536 % 256), .int .u8 (disp / 16777216 % 256)]]) 1 (.lst .tight 1 [.int .u8 r12]) rfl, .len 2 2147483648 (by decide), tT, tT, .get ([.lst .tight 1 [.int .u8 102], .lst .tight 1 [.int .u8 r12], .lst .tight 1 [.int .u8 137], .lst .no 1 [.int .u8 (128 + 8 * (src % 8) + base % 8), .int .u8 36, .int .u8 (disp % 256), .int .u8 (disp / 256 % 256), .int .u8 (disp / 65536 % 256), .int .u8 (disp / 16777216 % 256)]]) 2 (.lst .tight 1 [.int .u8 137]) rfl, .len 3 2147483648 (by decide), tT, tT, .get ([.lst .tight 1 [.int .u8 102], .lst .tight 1 [.int .u8 r12], .lst .tight 1 [.int .u8 137], .lst .no 1 [.int .u8 (128 + 8 * (src % 8) + base % 8), .int .u8 36, .int .u8 (disp % 256), .int .u8 (disp / 256 % 256), .int .u8 (disp / 65536 % 256), .int .u8 (disp / 16777216 % 256)]]) 3 (.lst .no 1 [.int .u8 (128 + 8 * (src % 8) + base % 8), .int .u8 36, .int .u8 (disp % 256), .int .u8 (disp / 256 % 256), .int .u8 (disp / 65536 % 256), .int .u8 (disp / 16777216 % 256)]) rfl, .len 9 2147483648 (by decide), tF]) (by kernel_rfl)).to (by clear E1 E2; (subst_vars; (try simp only [beq_dec] at *); (try simp only [beq_iff_eq] at h); (try simp only [decide_eq_true_eq, decide_eq_false_iff_not] at *); simp_all [wk, wkL, wkO, bytesM, bD, rexM, memM, fourM, w_u8, needM, codeM, numM, shapeM]; done))
   have c16 := @mMem_n_ok src base disp s0 s1 b0 b1 p0 p1 h14
   exact (o21 (d := .tup [.lst (.fresh 1) 1 [.int .u8 102, .int .u8 r12, .int .u8 137, .int .u8 (128 + 8 * (src % 8) + base % 8), .int .u8 (disp % 256), .int .u8 (disp / 256 % 256), .int .u8 (disp / 65536 % 256), .int .u8 (disp / 16777216 % 256)], .int .i64 0]) (E2 ++ [tT, .ret _ _ _ c11, .inl, .ret _ _ _ c16, .inl, .go 64, tT, tT, .get ([.lst .tight 1 [.int .u8 102], .lst .tight 1 [.int .u8 r12], .lst .tight 1 [.int .u8 137], .lst .no 1 [.int .u8 (128 + 8 * (src % 8) + base % 8), .int .u8 (disp % 256), .int .u8 (disp / 256 % 256), .int .u8 (disp / 65536 % 256), .int .u8 (disp / 16777216 % 256)]]) 0 (.lst .tight 1 [.int .u8 102]) rfl, .len 1 2147483648 (by decide), tT, tT, .get ([.lst .tight 1 [.int .u8 102], .lst .tight 1 [.int .u8 r12], .lst .tight 1 [.int .u8 137], .lst .no 1 [.int .u8 (128 + 8 * (src % 8) + base % 8), .int .u8 (disp % 256), .int .u8 (disp / 256 % 256), .int .u8 (disp / 65536 % 256), .int .u8 (disp / 16777216 % 256)]]) 1 (.lst .tight 1 [.int .u8 r12]) rfl, .len 2 2147483648 (by decide), tT, tT, .get ([.lst .tight 1 [.int .u8 102], .lst .tight 1 [.int .u8 r12], .lst .tight 1 [.int .u8 137], .lst .no 1 [.int .u8 (128 + 8 * (src % 8) + base % 8), .int .u8 (disp % 256), .int .u8 (disp / 256 % 256), .int .u8 (disp / 65536 % 256), .int .u8 (disp / 16777216 % 256)]]) 2 (.lst .tight 1 [.int .u8 137]) rfl, .len 3 2147483648 (by decide), tT, tT, .get ([.lst .tight 1 [.int .u8 102], .lst .tight 1 [.int .u8 r12], .lst .tight 1 [.int .u8 137], .lst .no 1 [.int .u8 (128 + 8 * (src % 8) + base % 8), .int .u8 (disp % 256), .int .u8 (disp / 256 % 256), .int .u8 (disp / 65536 % 256), .int .u8 (disp / 16777216 % 256)]]) 3 (.lst .no 1 [.int .u8 (128 + 8 * (src % 8) + base % 8), .int .u8 (disp % 256), .int .u8 (disp / 256 % 256), .int .u8 (disp / 65536 % 256), .int .u8 (disp / 16777216 % 256)]) rfl, .len 8 2147483648 (by decide), tF]) (by kernel_rfl)).to (by clear E1 E2; (subst_vars; (try simp only [beq_dec] at *); (try simp only [beq_iff_eq] at h); (try simp only [decide_eq_true_eq, decide_eq_false_iff_not] at *); simp_all [wk, wkL, wkO, bytesM, bD, rexM, memM, fourM, w_u8, needM, codeM, numM, shapeM]; done))
  have c17 := @rex_no_ok src base s0 s1 b0 b1 false false h10
  rcases bft (decide (base % 8 = 4)) with h18 | h18
  ·have c19 := @mMem_4_ok src base disp s0 s1 b0 b1 p0 p1 h18
   exact (o21 (d := .tup [.lst (.fresh 1) 1 [.int .u8 102, .int .u8 137, .int .u8 (128 + 8 * (src % 8) + base % 8), .int .u8 36, .int .u8 (disp % 256), .int .u8 (disp / 256 % 256), .int .u8 (disp / 65536 % 256), .int .u8 (disp / 16777216 % 256)], .int .i64 0]) (E2 ++ [tT, .ret _ _ _ c17, .inl, .ret _ _ _ c19, .inl, .go 64, tT, tT, .get ([.lst .tight 1 [.int .u8 102], .lst .tight 1 [], .lst .tight 1 [.int .u8 137], .lst .no 1 [.int .u8 (128 + 8 * (src % 8) + base % 8), .int .u8 36, .int .u8 (disp % 256), .int .u8 (disp / 256 % 256), .int .u8 (disp / 65536 % 256), .int .u8 (disp / 16777216 % 256)]]) 0 (.lst .tight 1 [.int .u8 102]) rfl, .len 1 2147483648 (by decide), tT, tT, .get ([.lst .tight 1 [.int .u8 102], .lst .tight 1 [], .lst .tight 1 [.int .u8 137], .lst .no 1 [.int .u8 (128 + 8 * (src % 8) + base % 8), .int .u8 36, .int .u8 (disp % 256), .int .u8 (disp / 256 % 256), .int .u8 (disp / 65536 % 256), .int .u8 (disp / 16777216 % 256)]]) 1 (.lst .tight 1 []) rfl, .len 1 2147483648 (by decide), tT, tT, .get ([.lst .tight 1 [.int .u8 102], .lst .tight 1 [], .lst .tight 1 [.int .u8 137], .lst .no 1 [.int .u8 (128 + 8 * (src % 8) + base % 8), .int .u8 36, .int .u8 (disp % 256), .int .u8 (disp / 256 % 256), .int .u8 (disp / 65536 % 256), .int .u8 (disp / 16777216 % 256)]]) 2 (.lst .tight 1 [.int .u8 137]) rfl, .len 2 2147483648 (by decide), tT, tT, .get ([.lst .tight 1 [.int .u8 102], .lst .tight 1 [], .lst .tight 1 [.int .u8 137], .lst .no 1 [.int .u8 (128 + 8 * (src % 8) + base % 8), .int .u8 36, .int .u8 (disp % 256), .int .u8 (disp / 256 % 256), .int .u8 (disp / 65536 % 256), .int .u8 (disp / 16777216 % 256)]]) 3 (.lst .no 1 [.int .u8 (128 + 8 * (src % 8) + base % 8), .int .u8 36, .int .u8 (disp % 256), .int .u8 (disp / 256 % 256), .int .u8 (disp / 65536 % 256), .int .u8 (disp / 16777216 % 256)]) rfl, .len 8 2147483648 (by decide), tF]) (by kernel_rfl)).to (by clear E1 E2; (subst_vars; (try simp only [beq_dec] at *); (try simp only [beq_iff_eq] at h); (try simp only [decide_eq_true_eq, decide_eq_false_iff_not] at *); simp_all [wk, wkL, wkO, bytesM, bD, rexM, memM, fourM, w_u8, needM, codeM, numM, shapeM]; done))
  have c20 := @mMem_n_ok src base disp s0 s1 b0 b1 p0 p1 h18
  exact (o21 (d := .tup [.lst (.fresh 1) 1 [.int .u8 102, .int .u8 137, .int .u8 (128 + 8 * (src % 8) + base % 8), .int .u8 (disp % 256), .int .u8 (disp / 256 % 256), .int .u8 (disp / 65536 % 256), .int .u8 (disp / 16777216 % 256)], .int .i64 0]) (E2 ++ [tT, .ret _ _ _ c17, .inl, .ret _ _ _ c20, .inl, .go 64, tT, tT, .get ([.lst .tight 1 [.int .u8 102], .lst .tight 1 [], .lst .tight 1 [.int .u8 137], .lst .no 1 [.int .u8 (128 + 8 * (src % 8) + base % 8), .int .u8 (disp % 256), .int .u8 (disp / 256 % 256), .int .u8 (disp / 65536 % 256), .int .u8 (disp / 16777216 % 256)]]) 0 (.lst .tight 1 [.int .u8 102]) rfl, .len 1 2147483648 (by decide), tT, tT, .get ([.lst .tight 1 [.int .u8 102], .lst .tight 1 [], .lst .tight 1 [.int .u8 137], .lst .no 1 [.int .u8 (128 + 8 * (src % 8) + base % 8), .int .u8 (disp % 256), .int .u8 (disp / 256 % 256), .int .u8 (disp / 65536 % 256), .int .u8 (disp / 16777216 % 256)]]) 1 (.lst .tight 1 []) rfl, .len 1 2147483648 (by decide), tT, tT, .get ([.lst .tight 1 [.int .u8 102], .lst .tight 1 [], .lst .tight 1 [.int .u8 137], .lst .no 1 [.int .u8 (128 + 8 * (src % 8) + base % 8), .int .u8 (disp % 256), .int .u8 (disp / 256 % 256), .int .u8 (disp / 65536 % 256), .int .u8 (disp / 16777216 % 256)]]) 2 (.lst .tight 1 [.int .u8 137]) rfl, .len 2 2147483648 (by decide), tT, tT, .get ([.lst .tight 1 [.int .u8 102], .lst .tight 1 [], .lst .tight 1 [.int .u8 137], .lst .no 1 [.int .u8 (128 + 8 * (src % 8) + base % 8), .int .u8 (disp % 256), .int .u8 (disp / 256 % 256), .int .u8 (disp / 65536 % 256), .int .u8 (disp / 16777216 % 256)]]) 3 (.lst .no 1 [.int .u8 (128 + 8 * (src % 8) + base % 8), .int .u8 (disp % 256), .int .u8 (disp / 256 % 256), .int .u8 (disp / 65536 % 256), .int .u8 (disp / 16777216 % 256)]) rfl, .len 7 2147483648 (by decide), tF]) (by kernel_rfl)).to (by clear E1 E2; (subst_vars; (try simp only [beq_dec] at *); (try simp only [beq_iff_eq] at h); (try simp only [decide_eq_true_eq, decide_eq_false_iff_not] at *); simp_all [wk, wkL, wkO, bytesM, bD, rexM, memM, fourM, w_u8, needM, codeM, numM, shapeM]; done))
 rcases bft (needM (w == 64) src base (w == 8)) with h21 | h21
 ·have c22 := @rex_yes_ok src base s0 s1 b0 b1 (w == 64) (w == 8) h21
  generalize g24 : rexB (w == 64) src base = r23 at c22
  rcases bft (decide (base % 8 = 4)) with h25 | h25
  ·have c26 := @mMem_4_ok src base disp s0 s1 b0 b1 p0 p1 h25
   exact (o21 (d := .tup [.lst (.fresh 1) 1 [.int .u8 r23, .int .u8 137, .int .u8 (128 + 8 * (src % 8) + base % 8), .int .u8 36, .int .u8 (disp % 256), .int .u8 (disp / 256 % 256), .int .u8 (disp / 65536 % 256), .int .u8 (disp / 16777216 % 256)], .int .i64 0]) (E2 ++ [tC (neOf h9), .ret _ _ _ c22, .inl, .ret _ _ _ c26, .inl, .go 64, tT, tT, .get ([.lst .tight 0 [], .lst .tight 1 [.int .u8 r23], .lst .tight 1 [.int .u8 137], .lst .no 1 [.int .u8 (128 + 8 * (src % 8) + base % 8), .int .u8 36, .int .u8 (disp % 256), .int .u8 (disp / 256 % 256), .int .u8 (disp / 65536 % 256), .int .u8 (disp / 16777216 % 256)]]) 0 (.lst .tight 0 []) rfl, .len 0 2147483648 (by decide), tT, tT, .get ([.lst .tight 0 [], .lst .tight 1 [.int .u8 r23], .lst .tight 1 [.int .u8 137], .lst .no 1 [.int .u8 (128 + 8 * (src % 8) + base % 8), .int .u8 36, .int .u8 (disp % 256), .int .u8 (disp / 256 % 256), .int .u8 (disp / 65536 % 256), .int .u8 (disp / 16777216 % 256)]]) 1 (.lst .tight 1 [.int .u8 r23]) rfl, .len 1 2147483648 (by decide), tT, tT, .get ([.lst .tight 0 [], .lst .tight 1 [.int .u8 r23], .lst .tight 1 [.int .u8 137], .lst .no 1 [.int .u8 (128 + 8 * (src % 8) + base % 8), .int .u8 36, .int .u8 (disp % 256), .int .u8 (disp / 256 % 256), .int .u8 (disp / 65536 % 256), .int .u8 (disp / 16777216 % 256)]]) 2 (.lst .tight 1 [.int .u8 137]) rfl, .len 2 2147483648 (by decide), tT, tT, .get ([.lst .tight 0 [], .lst .tight 1 [.int .u8 r23], .lst .tight 1 [.int .u8 137], .lst .no 1 [.int .u8 (128 + 8 * (src % 8) + base % 8), .int .u8 36, .int .u8 (disp % 256), .int .u8 (disp / 256 % 256), .int .u8 (disp / 65536 % 256), .int .u8 (disp / 16777216 % 256)]]) 3 (.lst .no 1 [.int .u8 (128 + 8 * (src % 8) + base % 8), .int .u8 36, .int .u8 (disp % 256), .int .u8 (disp / 256 % 256), .int .u8 (disp / 65536 % 256), .int .u8 (disp / 16777216 % 256)]) rfl, .len 8 2147483648 (by decide), tF]) (by kernel_rfl)).to (by clear E1 E2; (subst_vars; (try simp only [beq_dec] at *); (try simp only [beq_iff_eq] at h); (try simp only [decide_eq_true_eq, decide_eq_false_iff_not] at *); simp_all [wk, wkL, wkO, bytesM, bD, rexM, memM, fourM, w_u8, needM, codeM, numM, shapeM]; done))
  have c27 := @mMem_n_ok src base disp s0 s1 b0 b1 p0 p1 h25
  exact (o21 (d := .tup [.lst (.fresh 1) 1 [.int .u8 r23, .int .u8 137, .int .u8 (128 + 8 * (src % 8) + base % 8), .int .u8 (disp % 256), .int .u8 (disp / 256 % 256), .int .u8 (disp / 65536 % 256), .int .u8 (disp / 16777216 % 256)], .int .i64 0]) (E2 ++ [tC (neOf h9), .ret _ _ _ c22, .inl, .ret _ _ _ c27, .inl, .go 64, tT, tT, .get ([.lst .tight 0 [], .lst .tight 1 [.int .u8 r23], .lst .tight 1 [.int .u8 137], .lst .no 1 [.int .u8 (128 + 8 * (src % 8) + base % 8), .int .u8 (disp % 256), .int .u8 (disp / 256 % 256), .int .u8 (disp / 65536 % 256), .int .u8 (disp / 16777216 % 256)]]) 0 (.lst .tight 0 []) rfl, .len 0 2147483648 (by decide), tT, tT, .get ([.lst .tight 0 [], .lst .tight 1 [.int .u8 r23], .lst .tight 1 [.int .u8 137], .lst .no 1 [.int .u8 (128 + 8 * (src % 8) + base % 8), .int .u8 (disp % 256), .int .u8 (disp / 256 % 256), .int .u8 (disp / 65536 % 256), .int .u8 (disp / 16777216 % 256)]]) 1 (.lst .tight 1 [.int .u8 r23]) rfl, .len 1 2147483648 (by decide), tT, tT, .get ([.lst .tight 0 [], .lst .tight 1 [.int .u8 r23], .lst .tight 1 [.int .u8 137], .lst .no 1 [.int .u8 (128 + 8 * (src % 8) + base % 8), .int .u8 (disp % 256), .int .u8 (disp / 256 % 256), .int .u8 (disp / 65536 % 256), .int .u8 (disp / 16777216 % 256)]]) 2 (.lst .tight 1 [.int .u8 137]) rfl, .len 2 2147483648 (by decide), tT, tT, .get ([.lst .tight 0 [], .lst .tight 1 [.int .u8 r23], .lst .tight 1 [.int .u8 137], .lst .no 1 [.int .u8 (128 + 8 * (src % 8) + base % 8), .int .u8 (disp % 256), .int .u8 (disp / 256 % 256), .int .u8 (disp / 65536 % 256), .int .u8 (disp / 16777216 % 256)]]) 3 (.lst .no 1 [.int .u8 (128 + 8 * (src % 8) + base % 8), .int .u8 (disp % 256), .int .u8 (disp / 256 % 256), .int .u8 (disp / 65536 % 256), .int .u8 (disp / 16777216 % 256)]) rfl, .len 7 2147483648 (by decide), tF]) (by kernel_rfl)).to (by clear E1 E2; (subst_vars; (try simp only [beq_dec] at *); (try simp only [beq_iff_eq] at h); (try simp only [decide_eq_true_eq, decide_eq_false_iff_not] at *); simp_all [wk, wkL, wkO, bytesM, bD, rexM, memM, fourM, w_u8, needM, codeM, numM, shapeM]; done))
 have c28 := @rex_no_ok src base s0 s1 b0 b1 (w == 64) (w == 8) h21
 rcases bft (decide (base % 8 = 4)) with h29 | h29
 ·have c30 := @mMem_4_ok src base disp s0 s1 b0 b1 p0 p1 h29
  exact (o21 (d := .tup [.lst (.fresh 1) 1 [.int .u8 137, .int .u8 (128 + 8 * (src % 8) + base % 8), .int .u8 36, .int .u8 (disp % 256), .int .u8 (disp / 256 % 256), .int .u8 (disp / 65536 % 256), .int .u8 (disp / 16777216 % 256)], .int .i64 0]) (E2 ++ [tC (neOf h9), .ret _ _ _ c28, .inl, .ret _ _ _ c30, .inl, .go 64, tT, tT, .get ([.lst .tight 0 [], .lst .tight 1 [], .lst .tight 1 [.int .u8 137], .lst .no 1 [.int .u8 (128 + 8 * (src % 8) + base % 8), .int .u8 36, .int .u8 (disp % 256), .int .u8 (disp / 256 % 256), .int .u8 (disp / 65536 % 256), .int .u8 (disp / 16777216 % 256)]]) 0 (.lst .tight 0 []) rfl, .len 0 2147483648 (by decide), tT, tT, .get ([.lst .tight 0 [], .lst .tight 1 [], .lst .tight 1 [.int .u8 137], .lst .no 1 [.int .u8 (128 + 8 * (src % 8) + base % 8), .int .u8 36, .int .u8 (disp % 256), .int .u8 (disp / 256 % 256), .int .u8 (disp / 65536 % 256), .int .u8 (disp / 16777216 % 256)]]) 1 (.lst .tight 1 []) rfl, .len 0 2147483648 (by decide), tT, tT, .get ([.lst .tight 0 [], .lst .tight 1 [], .lst .tight 1 [.int .u8 137], .lst .no 1 [.int .u8 (128 + 8 * (src % 8) + base % 8), .int .u8 36, .int .u8 (disp % 256), .int .u8 (disp / 256 % 256), .int .u8 (disp / 65536 % 256), .int .u8 (disp / 16777216 % 256)]]) 2 (.lst .tight 1 [.int .u8 137]) rfl, .len 1 2147483648 (by decide), tT, tT, .get ([.lst .tight 0 [], .lst .tight 1 [], .lst .tight 1 [.int .u8 137], .lst .no 1 [.int .u8 (128 + 8 * (src % 8) + base % 8), .int .u8 36, .int .u8 (disp % 256), .int .u8 (disp / 256 % 256), .int .u8 (disp / 65536 % 256), .int .u8 (disp / 16777216 % 256)]]) 3 (.lst .no 1 [.int .u8 (128 + 8 * (src % 8) + base % 8), .int .u8 36, .int .u8 (disp % 256), .int .u8 (disp / 256 % 256), .int .u8 (disp / 65536 % 256), .int .u8 (disp / 16777216 % 256)]) rfl, .len 7 2147483648 (by decide), tF]) (by kernel_rfl)).to (by clear E1 E2; (subst_vars; (try simp only [beq_dec] at *); (try simp only [beq_iff_eq] at h); (try simp only [decide_eq_true_eq, decide_eq_false_iff_not] at *); simp_all [wk, wkL, wkO, bytesM, bD, rexM, memM, fourM, w_u8, needM, codeM, numM, shapeM]; done))
 have c31 := @mMem_n_ok src base disp s0 s1 b0 b1 p0 p1 h29
 exact (o21 (d := .tup [.lst (.fresh 1) 1 [.int .u8 137, .int .u8 (128 + 8 * (src % 8) + base % 8), .int .u8 (disp % 256), .int .u8 (disp / 256 % 256), .int .u8 (disp / 65536 % 256), .int .u8 (disp / 16777216 % 256)], .int .i64 0]) (E2 ++ [tC (neOf h9), .ret _ _ _ c28, .inl, .ret _ _ _ c31, .inl, .go 64, tT, tT, .get ([.lst .tight 0 [], .lst .tight 1 [], .lst .tight 1 [.int .u8 137], .lst .no 1 [.int .u8 (128 + 8 * (src % 8) + base % 8), .int .u8 (disp % 256), .int .u8 (disp / 256 % 256), .int .u8 (disp / 65536 % 256), .int .u8 (disp / 16777216 % 256)]]) 0 (.lst .tight 0 []) rfl, .len 0 2147483648 (by decide), tT, tT, .get ([.lst .tight 0 [], .lst .tight 1 [], .lst .tight 1 [.int .u8 137], .lst .no 1 [.int .u8 (128 + 8 * (src % 8) + base % 8), .int .u8 (disp % 256), .int .u8 (disp / 256 % 256), .int .u8 (disp / 65536 % 256), .int .u8 (disp / 16777216 % 256)]]) 1 (.lst .tight 1 []) rfl, .len 0 2147483648 (by decide), tT, tT, .get ([.lst .tight 0 [], .lst .tight 1 [], .lst .tight 1 [.int .u8 137], .lst .no 1 [.int .u8 (128 + 8 * (src % 8) + base % 8), .int .u8 (disp % 256), .int .u8 (disp / 256 % 256), .int .u8 (disp / 65536 % 256), .int .u8 (disp / 16777216 % 256)]]) 2 (.lst .tight 1 [.int .u8 137]) rfl, .len 1 2147483648 (by decide), tT, tT, .get ([.lst .tight 0 [], .lst .tight 1 [], .lst .tight 1 [.int .u8 137], .lst .no 1 [.int .u8 (128 + 8 * (src % 8) + base % 8), .int .u8 (disp % 256), .int .u8 (disp / 256 % 256), .int .u8 (disp / 65536 % 256), .int .u8 (disp / 16777216 % 256)]]) 3 (.lst .no 1 [.int .u8 (128 + 8 * (src % 8) + base % 8), .int .u8 (disp % 256), .int .u8 (disp / 256 % 256), .int .u8 (disp / 65536 % 256), .int .u8 (disp / 16777216 % 256)]) rfl, .len 6 2147483648 (by decide), tF]) (by kernel_rfl)).to (by clear E1 E2; (subst_vars; (try simp only [beq_dec] at *); (try simp only [beq_iff_eq] at h); (try simp only [decide_eq_true_eq, decide_eq_false_iff_not] at *); simp_all [wk, wkL, wkO, bytesM, bD, rexM, memM, fourM, w_u8, needM, codeM, numM, shapeM]; done))
end Go.Proofs.Ytcngafhpodeenaa

namespace Go.Proofs.Ytcngafhpodeenaa
open Go Go.Ev
set_option maxRecDepth 100000
set_option maxHeartbeats 8000000
def SpXB2e0 (k0_ : Int) : Prop := ∀ (w dst src base disp imm cc : Int) (d0 : 0 ≤ dst) (d1 : dst ≤ 15) (s0 : 0 ≤ src) (s1 : src ≤ 15) (b0 : 0 ≤ base) (b1 : base ≤ 15) (p0 : -2147483648 ≤ disp) (p1 : disp ≤ 2147483647) (i0 : -2147483648 ≤ imm) (i1 : imm ≤ 2147483647) (c0 : 0 ≤ cc) (c1 : cc ≤ 15) (hm : mayX k0_ w dst src base disp imm cc = true), Ret Try.prog 21 ([xD k0_ w dst src base disp imm cc]) (.tup [.lst .no 1 (bD (bytesM k0_ w dst src base disp imm cc)), .int .i64 0])
theorem bytesO_28_ok : SpXB2e0 28 := by
 intro w dst src base disp imm cc d0 d1 s0 s1 b0 b1 p0 p1 i0 i1 c0 c1 hm
 have c0 := @mayX_ok 28 w dst src base disp imm cc (by decide)
 rw [show (mayX 28 w dst src base disp imm cc) = true from hm] at c0
 have c1 := @of_any_ok 28 (by decide)
 by_cases h2 : w = 8
 ·subst h2
  exact (o21 (d := .tup [.lst .tight 1 [.int .u8 235, .int .u8 (IntKind.wrap IntKind.u8 imm)], .int .i64 0]) ([.ret _ _ _ c0, tF, .ret _ _ _ c1] ++ List.replicate 8 tF ++ [tT, tT]) (by kernel_rfl)).to (by (subst_vars; (try simp only [beq_dec] at *); (try simp only [beq_iff_eq] at h); (try simp only [decide_eq_true_eq, decide_eq_false_iff_not] at *); simp_all [wk, wkL, wkO, bytesM, show shapeM 28 = 9 from rfl, bD, rexM, memM, fourM, w_u8]; done))
 have c3 := @four_ok imm
 exact (o21 (d := .tup [.lst (.fresh 1) 1 [.int .u8 233, .int .u8 (imm % 256), .int .u8 (imm / 256 % 256), .int .u8 (imm / 65536 % 256), .int .u8 (imm / 16777216 % 256)], .int .i64 0]) ([.ret _ _ _ c0, tF, .ret _ _ _ c1] ++ List.replicate 8 tF ++ [tT, tC (neOf h2), .ret _ _ _ c3, .inl, .go 64, tT, tT, .get ([.lst .tight 1 [.int .u8 233], .lst .no 1 [.int .u8 (imm % 256), .int .u8 (imm / 256 % 256), .int .u8 (imm / 65536 % 256), .int .u8 (imm / 16777216 % 256)]]) 0 (.lst .tight 1 [.int .u8 233]) rfl, .len 1 2147483648 (by decide), tT, tT, .get ([.lst .tight 1 [.int .u8 233], .lst .no 1 [.int .u8 (imm % 256), .int .u8 (imm / 256 % 256), .int .u8 (imm / 65536 % 256), .int .u8 (imm / 16777216 % 256)]]) 1 (.lst .no 1 [.int .u8 (imm % 256), .int .u8 (imm / 256 % 256), .int .u8 (imm / 65536 % 256), .int .u8 (imm / 16777216 % 256)]) rfl, .len 5 2147483648 (by decide), tF]) (by kernel_rfl)).to (by (subst_vars; (try simp only [beq_dec] at *); (try simp only [beq_iff_eq] at h); (try simp only [decide_eq_true_eq, decide_eq_false_iff_not] at *); simp_all [wk, wkL, wkO, bytesM, show shapeM 28 = 9 from rfl, bD, rexM, memM, fourM, w_u8]; done))
theorem bytesO_29_ok : SpXB2e0 29 := by
 intro w dst src base disp imm cc d0 d1 s0 s1 b0 b1 p0 p1 i0 i1 c0 c1 hm
 have c0 := @mayX_ok 29 w dst src base disp imm cc (by decide)
 rw [show (mayX 29 w dst src base disp imm cc) = true from hm] at c0
 have c1 := @of_any_ok 29 (by decide)
 by_cases h2 : w = 8
 ·subst h2
  exact (o21 (d := .tup [.lst .tight 1 [.int .u8 (IntKind.wrap IntKind.u8 (112 + IntKind.wrap IntKind.u8 cc)), .int .u8 (IntKind.wrap IntKind.u8 imm)], .int .i64 0]) ([.ret _ _ _ c0, tF, .ret _ _ _ c1] ++ List.replicate 9 tF ++ [tT, tT]) (by kernel_rfl)).to (by (subst_vars; (try simp only [beq_dec] at *); (try simp only [beq_iff_eq] at h); (try simp only [decide_eq_true_eq, decide_eq_false_iff_not] at *); simp_all [wk, wkL, wkO, bytesM, show shapeM 29 = 10 from rfl, bD, rexM, memM, fourM, w_u8]; omega))
 have c3 := @four_ok imm
 exact (o21 (d := .tup [.lst (.fresh 1) 1 [.int .u8 15, .int .u8 (IntKind.wrap IntKind.u8 (128 + IntKind.wrap IntKind.u8 cc)), .int .u8 (imm % 256), .int .u8 (imm / 256 % 256), .int .u8 (imm / 65536 % 256), .int .u8 (imm / 16777216 % 256)], .int .i64 0]) ([.ret _ _ _ c0, tF, .ret _ _ _ c1] ++ List.replicate 9 tF ++ [tT, tC (neOf h2), .ret _ _ _ c3, .inl, .go 64, tT, tT, .get ([.lst .tight 1 [.int .u8 15, .int .u8 (IntKind.wrap IntKind.u8 (128 + IntKind.wrap IntKind.u8 cc))], .lst .no 1 [.int .u8 (imm % 256), .int .u8 (imm / 256 % 256), .int .u8 (imm / 65536 % 256), .int .u8 (imm / 16777216 % 256)]]) 0 (.lst .tight 1 [.int .u8 15, .int .u8 (IntKind.wrap IntKind.u8 (128 + IntKind.wrap IntKind.u8 cc))]) rfl, .len 2 2147483648 (by decide), tT, tT, .get ([.lst .tight 1 [.int .u8 15, .int .u8 (IntKind.wrap IntKind.u8 (128 + IntKind.wrap IntKind.u8 cc))], .lst .no 1 [.int .u8 (imm % 256), .int .u8 (imm / 256 % 256), .int .u8 (imm / 65536 % 256), .int .u8 (imm / 16777216 % 256)]]) 1 (.lst .no 1 [.int .u8 (imm % 256), .int .u8 (imm / 256 % 256), .int .u8 (imm / 65536 % 256), .int .u8 (imm / 16777216 % 256)]) rfl, .len 6 2147483648 (by decide), tF]) (by kernel_rfl)).to (by (subst_vars; (try simp only [beq_dec] at *); (try simp only [beq_iff_eq] at h); (try simp only [decide_eq_true_eq, decide_eq_false_iff_not] at *); simp_all [wk, wkL, wkO, bytesM, show shapeM 29 = 10 from rfl, bD, rexM, memM, fourM, w_u8]; omega))
theorem bytesO_30_ok : SpXB2e0 30 := by
 intro w dst src base disp imm cc d0 d1 s0 s1 b0 b1 p0 p1 i0 i1 c0 c1 hm
 have c0 := @mayX_ok 30 w dst src base disp imm cc (by decide)
 rw [show (mayX 30 w dst src base disp imm cc) = true from hm] at c0
 have c1 := @of_any_ok 30 (by decide)
 exact (o21 (d := .tup [.lst .tight 1 [.int .u8 195], .int .i64 0]) ([.ret _ _ _ c0, tF, .ret _ _ _ c1] ++ List.replicate 11 tF) (by kernel_rfl)).to (by (subst_vars; (try simp only [beq_dec] at *); (try simp only [beq_iff_eq] at h); (try simp only [decide_eq_true_eq, decide_eq_false_iff_not] at *); simp_all [wk, wkL, wkO, bytesM, show shapeM 30 = 11 from rfl, bD, rexM, memM, fourM, w_u8]; done))
theorem bytesO_31_ok : SpXB2e0 31 := by
 intro w dst src base disp imm cc d0 d1 s0 s1 b0 b1 p0 p1 i0 i1 c0 c1 hm
 have c0 := @mayX_ok 31 w dst src base disp imm cc (by decide)
 rw [show (mayX 31 w dst src base disp imm cc) = true from hm] at c0
 have c1 := @of_any_ok 31 (by decide)
 exact (o21 (d := .tup [.lst .tight 1 [.int .u8 15, .int .u8 5], .int .i64 0]) ([.ret _ _ _ c0, tF, .ret _ _ _ c1] ++ List.replicate 10 tF ++ [tT]) (by kernel_rfl)).to (by (subst_vars; (try simp only [beq_dec] at *); (try simp only [beq_iff_eq] at h); (try simp only [decide_eq_true_eq, decide_eq_false_iff_not] at *); simp_all [wk, wkL, wkO, bytesM, show shapeM 31 = 11 from rfl, bD, rexM, memM, fourM, w_u8]; done))
end Go.Proofs.Ytcngafhpodeenaa

namespace Go.Proofs.Ytcngafhpodeenaa
open Go Go.Ev
theorem num_range (op : Int) : 0 ≤ numM op ∧ numM op ≤ 7 := by
 unfold numM
 repeat' split
 all_goals omega
theorem mayX_cc {op w dst src base disp imm cc : Int} (h : mayX op w dst src base disp imm cc = true) : 0 ≤ cc ∧ cc ≤ 15 := by
 have hs := (mayX_parts h).2
 unfold mayS at hs
 repeat' split at hs
 all_goals first | (cases hs; done) | (simp only [ccM, Bool.and_eq_true, decide_eq_true_eq] at hs; omega)
theorem bytes_may_ok (op w dst src base disp imm cc : Int) (ho : op ≤ 127) (hm : mayX op w dst src base disp imm cc = true) :
  Ret Try.prog 21 [xD op w dst src base disp imm cc] (.tup [.lst .no 1 (bD (bytesM op w dst src base disp imm cc)), .int .i64 0]) := by
 obtain ⟨⟨d0, d1, s0, s1, b0, b1, p0, p1, i0, i1⟩, hs⟩ := mayX_parts hm
 obtain ⟨c0, c1⟩ := mayX_cc hm
 obtain ⟨n0, n1⟩ := num_range op
 have hsh : shapeM op ≠ 0 := by
  intro e
  rw [e] at hs
  simp [mayS] at hs
 obtain ⟨k, e⟩ := op_fin hsh
 have hin : decide (0 ≤ op ∧ op ≤ 31) = true := by rw [e]; simp; omega
 have hr := shape_range k
 rw [← e] at hr
 rcases hr with h | h | h | h | h | h | h | h | h | h | h
 ·exact bytes_1_ok _ _ _ _ _ _ _ _ ho d0 d1 s0 s1 b0 b1 p0 p1 i0 i1 c0 c1 n0 n1 (by rw [h]; rfl) hin hm
 ·have e2 : op = 16 := by
   rw [e] at h ⊢
   revert h
   exact (by decide +kernel : ∀ n : Fin 32, shapeM (n.val : Int) = 2 → (n.val : Int) = 16) k
  subst e2
  exact bytesO_16_ok _ _ _ _ _ _ _ d0 d1 s0 s1 b0 b1 p0 p1 i0 i1 c0 c1 hm
 ·exact bytes_3_ok _ _ _ _ _ _ _ _ ho d0 d1 s0 s1 b0 b1 p0 p1 i0 i1 c0 c1 n0 n1 (by rw [h]; rfl) hin (long_cases (by rw [h] at hs; simp [mayS] at hs; exact hs.1)) hm
 ·exact bytes_4_ok _ _ _ _ _ _ _ _ ho d0 d1 s0 s1 b0 b1 p0 p1 i0 i1 c0 c1 n0 n1 (by rw [h]; rfl) hin hm
 ·exact bytes_5_ok _ _ _ _ _ _ _ _ ho d0 d1 s0 s1 b0 b1 p0 p1 i0 i1 c0 c1 n0 n1 (by rw [h]; rfl) hin hm
 ·have e2 : op = 25 := by rw [e] at h ⊢; exact shape_6 k h
  subst e2
  exact bytesO_25_ok _ _ _ _ _ _ _ d0 d1 s0 s1 b0 b1 p0 p1 i0 i1 c0 c1 hm
 ·have e2 : op = 26 := by rw [e] at h ⊢; exact shape_7 k h
  subst e2
  exact bytesO_26_ok _ _ _ _ _ _ _ d0 d1 s0 s1 b0 b1 p0 p1 i0 i1 c0 c1 hm
 ·have e2 : op = 27 := by rw [e] at h ⊢; exact shape_8 k h
  subst e2
  exact bytesO_27_ok _ _ _ _ _ _ _ d0 d1 s0 s1 b0 b1 p0 p1 i0 i1 c0 c1 hm
 ·have e2 : op = 28 := by rw [e] at h ⊢; exact shape_9 k h
  subst e2
  exact bytesO_28_ok _ _ _ _ _ _ _ d0 d1 s0 s1 b0 b1 p0 p1 i0 i1 c0 c1 hm
 ·have e2 : op = 29 := by rw [e] at h ⊢; exact shape_10 k h
  subst e2
  exact bytesO_29_ok _ _ _ _ _ _ _ d0 d1 s0 s1 b0 b1 p0 p1 i0 i1 c0 c1 hm
 ·rcases shape_11 k (by rw [e] at h; exact h) with e2 | e2
  ·rw [← e] at e2; subst e2
   exact bytesO_30_ok _ _ _ _ _ _ _ d0 d1 s0 s1 b0 b1 p0 p1 i0 i1 c0 c1 hm
  ·rw [← e] at e2; subst e2
   exact bytesO_31_ok _ _ _ _ _ _ _ d0 d1 s0 s1 b0 b1 p0 p1 i0 i1 c0 c1 hm
end Go.Proofs.Ytcngafhpodeenaa

namespace Go.Proofs.Ytcngafhpodeenaa
open Go Go.Ev
set_option maxRecDepth 100000
set_option maxHeartbeats 8000000
theorem bytes_no_ok (op w dst src base disp imm cc : Int) (ho : op ≤ 127) (hm : mayX op w dst src base disp imm cc = false) : Ret Try.prog 21 ([xD op w dst src base disp imm cc]) (.tup [.lst .no 1 [], .int .i64 2]) := by
 have c0 := @mayX_ok op w dst src base disp imm cc ho
 rw [show (mayX op w dst src base disp imm cc) = false from hm] at c0
 exact (o21 (d := .tup [.lst .tight 0 [], .int .i64 2]) [.ret _ _ _ c0, tT] (by kernel_rfl)).to (by simp [wk, wkL, wkO])
end Go.Proofs.Ytcngafhpodeenaa

namespace Go.Proofs.Ytcngafhpodeenaa
open Go Go.Ev
theorem bytes_any_ok (op w dst src base disp imm cc : Int) (ho : op ≤ 127) : Ret Try.prog 21 [xD op w dst src base disp imm cc] (.tup [.lst .no 1 (bytesL op w dst src base disp imm cc), .int .i64 (bytesE op w dst src base disp imm cc)]) := by
 unfold bytesL bytesE
 cases h : mayX op w dst src base disp imm cc
 ·exact bytes_no_ok op w dst src base disp imm cc ho h
 ·exact bytes_may_ok op w dst src base disp imm cc ho h
end Go.Proofs.Ytcngafhpodeenaa

namespace Go.Proofs.Ytcngafhpodeenaa
open Go Go.Ev
set_option maxRecDepth 100000
set_option maxHeartbeats 8000000
theorem xlen_ok (op w dst src base disp imm cc : Int) (ho : op ≤ 127) : Ret Try.prog 22 ([xD op w dst src base disp imm cc]) (.int .i64 (lenX op w dst src base disp imm cc)) := by
 have c0 := @bytes_any_ok op w dst src base disp imm cc ho
 exact (o22 (d := .int .i64 (↑(List.length (bytesL op w dst src base disp imm cc)) : Int)) [.ret _ _ _ c0] (by kernel_rfl)).to (by simp [wk, lenX])
end Go.Proofs.Ytcngafhpodeenaa

namespace Go.Proofs.Ytcngafhpodeenaa
open Go Go.Ev
set_option maxRecDepth 100000
set_option maxHeartbeats 8000000
theorem rd_end (b : List Int) (s : RawS) : RoundRun Try.prog (loopB Try.f95 0) ⟨[], [1, 2, 3, 5], []⟩ 9 [D.yld (5 : Nat), D.ptr false 4 0, uu, D.ptr false 7 0, uu, uu, uu, uu, uu, uu, uu, uu, uu, uu, uu, .agg formsL, .int .i64 32, uu, uu, uu, uu, uu, uu, uu, uu, uu, uu, uu, uu, uu, uu, uu, uu] [Ob.box [.lst .no 1 (bD b)], Ob.box [.int .i8 0, .int .i8 0, .int .i8 0, .int .i8 0, .int .i8 0, .int .i64 0, .int .i64 0, .int .i8 0], Ob.box [.int .i64 0], Ob.box [.int .i64 0], Ob.box [.lst .no 1 (bD b)],
 Ob.lp Lk.ready
  (let y :=
   let y :=
    let y := [uu, uu, uu, uu, uu];
    uu :: uu :: uu :: uu :: uu :: y;
   let y := uu :: uu :: uu :: uu :: uu :: y;
   uu :: uu :: uu :: uu :: uu :: y;
  let y :=
   let y := uu :: uu :: uu :: uu :: uu :: y;
   uu :: uu :: uu :: uu :: uu :: y;
  let y := D.ptr false 3 0 :: uu :: uu :: uu :: uu :: y;
  uu :: D.ptr false 0 0 :: D.ptr false 1 0 :: D.ptr false 2 0 :: y)
  #[(10 : Nat)] (rngA Try.f19 (0 : Nat)) (rngB Try.f19 (0 : Nat)),
 Ob.dead, Ob.box [.int .i8 (RawS.w s), .bool (RawS.long s), .int .u8 (RawS.code s), .int .i8 (RawS.r s), .int .i8 (RawS.m s), .int .i64 (RawS.disp s), .int .i64 (RawS.imm s), .int .i64 (RawS.small s), .int .i64 (RawS.near s), .int .i64 (RawS.jump s), .int .i8 (RawS.high s)], Ob.dead] (Ex.exit (0 : Nat)) [uu, uu, uu, uu, uu, uu, uu, uu, uu, uu, uu, uu, uu, uu, uu, uu, uu, uu, uu, uu, uu, uu, uu, uu, uu, uu, uu, uu, uu, uu, uu, uu, uu] ([Ob.dead, Ob.box [.int .i8 0, .int .i8 0, .int .i8 0, .int .i8 0, .int .i8 0, .int .i64 0, .int .i64 0, .int .i8 0], Ob.box [.int .i64 0], Ob.box [.int .i64 0], Ob.dead, Ob.lp Lk.ready [uu, D.ptr false 0 0, D.ptr false 1 0, D.ptr false 2 0, D.ptr false 3 0, uu, uu, uu, uu, uu, uu, uu, uu, uu, uu, uu, uu, uu, uu, uu, uu, uu, uu, uu, uu, uu, uu, uu, uu, uu, uu, uu, uu, uu, uu, uu, uu, uu, uu] #[(10 : Nat)] (rngA Try.f19 (0 : Nat)) (rngB Try.f19 (0 : Nat)), Ob.dead, Ob.dead, Ob.dead]) := by
 exact (RoundRun.of_eval (sp := ⟨[], [1, 2, 3, 5], []⟩) (n0 := 9) (ex := Ex.exit (0 : Nat)) (t' := [uu, uu, uu, uu, uu, uu, uu, uu, uu, uu, uu, uu, uu, uu, uu, uu, uu, uu, uu, uu, uu, uu, uu, uu, uu, uu, uu, uu, uu, uu, uu, uu, uu]) (s' := [Ob.dead, Ob.box [.int .i8 0, .int .i8 0, .int .i8 0, .int .i8 0, .int .i8 0, .int .i64 0, .int .i64 0, .int .i8 0], Ob.box [.int .i64 0], Ob.box [.int .i64 0], Ob.dead, Ob.lp Lk.ready [uu, D.ptr false 0 0, D.ptr false 1 0, D.ptr false 2 0, D.ptr false 3 0, uu, uu, uu, uu, uu, uu, uu, uu, uu, uu, uu, uu, uu, uu, uu, uu, uu, uu, uu, uu, uu, uu, uu, uu, uu, uu, uu, uu, uu, uu, uu, uu, uu, uu] #[(10 : Nat)] (rngA Try.f19 (0 : Nat)) (rngB Try.f19 (0 : Nat)), Ob.dead, Ob.dead, Ob.dead]) mixed [tF] (by kernel_rfl)).cast (by rfl) (by rfl)
theorem rd_may (b own : List Int) (s : RawS) (k : Int) (k0 : 0 ≤ k) (k1 : k ≤ 31) (v0 : 0 ≤ s.code) (v1 : s.code ≤ 255) (hh : s.high = 0 ∨ s.high = 8) (hy : Ret Try.prog 56 [xsD (asM s k)] (.bool false))  : RoundRun Try.prog (loopB Try.f95 0) ⟨[0, 1, 3, 15, 16], [0, 1, 2, 3, 4, 5, 7], []⟩ 9 [D.yld (5 : Nat), D.ptr false 4 0, uu, D.ptr false 7 0, uu, uu, uu, uu, uu, uu, uu, uu, uu, uu, uu, .agg formsL, .int .i64 k, uu, uu, uu, uu, uu, uu, uu, uu, uu, uu, uu, uu, uu, uu, uu, uu] [Ob.box [.lst .no 1 (bD b)], Ob.box [.int .i8 0, .int .i8 0, .int .i8 0, .int .i8 0, .int .i8 0, .int .i64 0, .int .i64 0, .int .i8 0], Ob.box [.int .i64 0], Ob.box [.int .i64 0], Ob.box [.lst .no 1 (bD b)],
 Ob.lp Lk.ready
  (let y :=
   let y :=
    let y := [uu, uu, uu, uu, uu];
    uu :: uu :: uu :: uu :: uu :: y;
   let y := uu :: uu :: uu :: uu :: uu :: y;
   uu :: uu :: uu :: uu :: uu :: y;
  let y :=
   let y := uu :: uu :: uu :: uu :: uu :: y;
   uu :: uu :: uu :: uu :: uu :: y;
  let y := D.ptr false 3 0 :: uu :: uu :: uu :: uu :: y;
  uu :: D.ptr false 0 0 :: D.ptr false 1 0 :: D.ptr false 2 0 :: y)
  #[(10 : Nat)] (rngA Try.f19 (0 : Nat)) (rngB Try.f19 (0 : Nat)),
 Ob.dead, Ob.box [.int .i8 (RawS.w s), .bool (RawS.long s), .int .u8 (RawS.code s), .int .i8 (RawS.r s), .int .i8 (RawS.m s), .int .i64 (RawS.disp s), .int .i64 (RawS.imm s), .int .i64 (RawS.small s), .int .i64 (RawS.near s), .int .i64 (RawS.jump s), .int .i8 (RawS.high s)], Ob.dead] (Ex.norm) [D.yld (5 : Nat), D.ptr false 4 0, uu, D.ptr false 7 0, uu, uu, uu, uu, uu, uu, uu, uu, uu, uu, uu, .agg formsL, .int .i64 (IntKind.wrap IntKind.i64 (k + 1)), uu, uu, uu, uu, uu, uu, uu, uu, uu, uu, uu, uu, uu, uu, uu, uu] ([.box [.lst .no 1 (bD b)], .box [.int .i8 0, .int .i8 0, .int .i8 0, .int .i8 0, .int .i8 0, .int .i64 0, .int .i64 0, .int .i8 0], .box [.int .i64 0], .box [.int .i64 0], .box [.lst .no 1 (bD b)], .lp .ready [uu, .ptr false 0 0, .ptr false 1 0, .ptr false 2 0, .ptr false 3 0, uu, uu, uu, uu, uu, uu, uu, uu, uu, uu, uu, uu, uu, uu, uu, uu, uu, uu, uu, uu, uu, uu, uu, uu, uu, uu, uu, uu, uu, uu, uu, uu, uu, uu] #[10] (rngA Try.f19 0) (rngB Try.f19 0), .dead, .box [.int .i8 (RawS.w s), .bool  (RawS.long s), .int .u8 (RawS.code s), .int .i8 (RawS.r s), .int .i8 (RawS.m s), .int .i64 (RawS.disp s), .int .i64 (RawS.imm s), .int .i64 (RawS.small s), .int .i64 (RawS.near s), .int .i64 (RawS.jump s), .int .i8 (RawS.high s)], .dead]) := by
 exact (RoundRun.of_eval (sp := ⟨[0, 1, 3, 15, 16], [0, 1, 2, 3, 4, 5, 7], []⟩) (n0 := 9) (ex := Ex.norm) (t' := [D.yld (5 : Nat), D.ptr false 4 0, uu, D.ptr false 7 0, uu, uu, uu, uu, uu, uu, uu, uu, uu, uu, uu, .agg formsL, .int .i64 (IntKind.wrap IntKind.i64 (k + 1)), uu, uu, uu, uu, uu, uu, uu, uu, uu, uu, uu, uu, uu, uu, uu, uu]) (s' := [Ob.box [.lst .no 1 (bD b)], Ob.box [.int .i8 0, .int .i8 0, .int .i8 0, .int .i8 0, .int .i8 0, .int .i64 0, .int .i64 0, .int .i8 0], Ob.box [.int .i64 0], Ob.box [.int .i64 0], Ob.box [.lst .no 1 (bD b)], Ob.lp Lk.ready [uu, D.ptr false 0 0, D.ptr false 1 0, D.ptr false 2 0, D.ptr false 3 0, uu, uu, uu, uu, uu, uu, uu, uu, uu, uu, uu, uu, uu, uu, uu, uu, uu, uu, uu, uu, uu, uu, uu, uu, uu, uu, uu, uu, uu, uu, uu, uu, uu, uu] #[(10 : Nat)] (rngA Try.f19 (0 : Nat)) (rngB Try.f19 (0 : Nat)), Ob.dead, Ob.box [.int .i8 (RawS.w s), .bool (RawS.long s), .int .u8 (RawS.code s), .int .i8 (RawS.r s), .int .i8 (RawS.m s), .int .i64 (RawS.disp s), .int .i64 (RawS.imm s), .int .i64 (RawS.small s), .int .i64 (RawS.near s), .int .i64 (RawS.jump s), .int .i8 (RawS.high s)], Ob.dead]) mixed [tC (decide_eq_true (Int.lt_add_one_of_le k1)), .tst (decide (0 ≤ k ∧ k < (↑(32 : Nat) : Int))) true (by (simp only [sl2] at *; omega)), .getA _ _ _ _ (@get_form k k0 k1), .callR _ _ _ _ _ (@as_ok s k k0 k1 v0 v1 hh (Ob.box [.lst .no 1 (bD b)]) (Ob.box [.int .i8 0, .int .i8 0, .int .i8 0, .int .i8 0, .int .i8 0, .int .i64 0, .int .i64 0, .int .i8 0]) (Ob.box [.int .i64 0]) (Ob.box [.int .i64 0]) (Ob.box [.lst .no 1 (bD b)]) (Ob.lp Lk.ready [uu, D.ptr false 0 0, D.ptr false 1 0, D.ptr false 2 0, D.ptr false 3 0, uu, uu, uu, uu, uu, uu, uu, uu, uu, uu, uu, uu, uu, uu, uu, uu, uu, uu, uu, uu, uu, uu, uu, uu, uu, uu, uu, uu, uu, uu, uu, uu, uu, uu] #[(10 : Nat)] (rngA Try.f19 (0 : Nat)) (rngB Try.f19 (0 : Nat))) (Ob.dead) (Ob.dead) (Ob.box [.int .i8 (shapeM k), .int .u8 (codeM k), .int .i8 (numM k)])), .ret _ _ _ hy, tF, tF, tF, tF, tF, tF] (by kernel_rfl)).cast (by rfl) (by rfl)
theorem rd_long (b own : List Int) (s : RawS) (k : Int) (k0 : 0 ≤ k) (k1 : k ≤ 31) (v0 : 0 ≤ s.code) (v1 : s.code ≤ 255) (hh : s.high = 0 ∨ s.high = 8) (hy : Ret Try.prog 56 [xsD (asM s k)] (.bool true)) (hb : Ret Try.prog 21 [xsD (asM s k)] (.tup [.lst .no 1 (bD own), .int .i64 0])) (hl : ((bD b).length : Int) < ((bD own).length : Int)) : RoundRun Try.prog (loopB Try.f95 0) ⟨[0, 1, 3, 15, 16], [0, 1, 2, 3, 4, 5, 7], []⟩ 9 [D.yld (5 : Nat), D.ptr false 4 0, uu, D.ptr false 7 0, uu, uu, uu, uu, uu, uu, uu, uu, uu, uu, uu, .agg formsL, .int .i64 k, uu, uu, uu, uu, uu, uu, uu, uu, uu, uu, uu, uu, uu, uu, uu, uu] [Ob.box [.lst .no 1 (bD b)], Ob.box [.int .i8 0, .int .i8 0, .int .i8 0, .int .i8 0, .int .i8 0, .int .i64 0, .int .i64 0, .int .i8 0], Ob.box [.int .i64 0], Ob.box [.int .i64 0], Ob.box [.lst .no 1 (bD b)],
 Ob.lp Lk.ready
  (let y :=
   let y :=
    let y := [uu, uu, uu, uu, uu];
    uu :: uu :: uu :: uu :: uu :: y;
   let y := uu :: uu :: uu :: uu :: uu :: y;
   uu :: uu :: uu :: uu :: uu :: y;
  let y :=
   let y := uu :: uu :: uu :: uu :: uu :: y;
   uu :: uu :: uu :: uu :: uu :: y;
  let y := D.ptr false 3 0 :: uu :: uu :: uu :: uu :: y;
  uu :: D.ptr false 0 0 :: D.ptr false 1 0 :: D.ptr false 2 0 :: y)
  #[(10 : Nat)] (rngA Try.f19 (0 : Nat)) (rngB Try.f19 (0 : Nat)),
 Ob.dead, Ob.box [.int .i8 (RawS.w s), .bool (RawS.long s), .int .u8 (RawS.code s), .int .i8 (RawS.r s), .int .i8 (RawS.m s), .int .i64 (RawS.disp s), .int .i64 (RawS.imm s), .int .i64 (RawS.small s), .int .i64 (RawS.near s), .int .i64 (RawS.jump s), .int .i8 (RawS.high s)], Ob.dead] (Ex.norm) [D.yld (5 : Nat), D.ptr false 4 0, uu, D.ptr false 7 0, uu, uu, uu, uu, uu, uu, uu, uu, uu, uu, uu, .agg formsL, .int .i64 (IntKind.wrap IntKind.i64 (k + 1)), uu, uu, uu, uu, uu, uu, uu, uu, uu, uu, uu, uu, uu, uu, uu, uu] ([.box [.lst .no 1 (bD b)], .box [.int .i8 0, .int .i8 0, .int .i8 0, .int .i8 0, .int .i8 0, .int .i64 0, .int .i64 0, .int .i8 0], .box [.int .i64 0], .box [.int .i64 0], .box [.lst .no 1 (bD b)], .lp .ready [uu, .ptr false 0 0, .ptr false 1 0, .ptr false 2 0, .ptr false 3 0, uu, uu, uu, uu, uu, uu, uu, uu, uu, uu, uu, uu, uu, uu, uu, uu, uu, uu, uu, uu, uu, uu, uu, uu, uu, uu, uu, uu, uu, uu, uu, uu, uu, uu] #[10] (rngA Try.f19 0) (rngB Try.f19 0), .dead, .box [.int .i8 (RawS.w s), .bool  (RawS.long s), .int .u8 (RawS.code s), .int .i8 (RawS.r s), .int .i8 (RawS.m s), .int .i64 (RawS.disp s), .int .i64 (RawS.imm s), .int .i64 (RawS.small s), .int .i64 (RawS.near s), .int .i64 (RawS.jump s), .int .i8 (RawS.high s)], .dead]) := by
 exact (RoundRun.of_eval (sp := ⟨[0, 1, 3, 15, 16], [0, 1, 2, 3, 4, 5, 7], []⟩) (n0 := 9) (ex := Ex.norm) (t' := [D.yld (5 : Nat), D.ptr false 4 0, uu, D.ptr false 7 0, uu, uu, uu, uu, uu, uu, uu, uu, uu, uu, uu, .agg formsL, .int .i64 (IntKind.wrap IntKind.i64 (k + 1)), uu, uu, uu, uu, uu, uu, uu, uu, uu, uu, uu, uu, uu, uu, uu, uu]) (s' := [Ob.box [.lst .no 1 (bD b)], Ob.box [.int .i8 0, .int .i8 0, .int .i8 0, .int .i8 0, .int .i8 0, .int .i64 0, .int .i64 0, .int .i8 0], Ob.box [.int .i64 0], Ob.box [.int .i64 0], Ob.box [.lst .no 1 (bD b)], Ob.lp Lk.ready [uu, D.ptr false 0 0, D.ptr false 1 0, D.ptr false 2 0, D.ptr false 3 0, uu, uu, uu, uu, uu, uu, uu, uu, uu, uu, uu, uu, uu, uu, uu, uu, uu, uu, uu, uu, uu, uu, uu, uu, uu, uu, uu, uu, uu, uu, uu, uu, uu, uu] #[(10 : Nat)] (rngA Try.f19 (0 : Nat)) (rngB Try.f19 (0 : Nat)), Ob.dead, Ob.box [.int .i8 (RawS.w s), .bool (RawS.long s), .int .u8 (RawS.code s), .int .i8 (RawS.r s), .int .i8 (RawS.m s), .int .i64 (RawS.disp s), .int .i64 (RawS.imm s), .int .i64 (RawS.small s), .int .i64 (RawS.near s), .int .i64 (RawS.jump s), .int .i8 (RawS.high s)], Ob.dead]) mixed ([tC (decide_eq_true (Int.lt_add_one_of_le k1)), .tst (decide (0 ≤ k ∧ k < (↑(32 : Nat) : Int))) true (by (simp only [sl2] at *; omega)), .getA _ _ _ _ (@get_form k k0 k1), .callR _ _ _ _ _ (@as_ok s k k0 k1 v0 v1 hh (Ob.box [.lst .no 1 (bD b)]) (Ob.box [.int .i8 0, .int .i8 0, .int .i8 0, .int .i8 0, .int .i8 0, .int .i64 0, .int .i64 0, .int .i8 0]) (Ob.box [.int .i64 0]) (Ob.box [.int .i64 0]) (Ob.box [.lst .no 1 (bD b)]) (Ob.lp Lk.ready [uu, D.ptr false 0 0, D.ptr false 1 0, D.ptr false 2 0, D.ptr false 3 0, uu, uu, uu, uu, uu, uu, uu, uu, uu, uu, uu, uu, uu, uu, uu, uu, uu, uu, uu, uu, uu, uu, uu, uu, uu, uu, uu, uu, uu, uu, uu, uu, uu, uu] #[(10 : Nat)] (rngA Try.f19 (0 : Nat)) (rngB Try.f19 (0 : Nat))) (Ob.dead) (Ob.dead) (Ob.box [.int .i8 (shapeM k), .int .u8 (codeM k), .int .i8 (numM k)])), .ret _ _ _ hy, tT, tT, tT, .inl, .ret _ _ _ hb, tT, tT, tT, tT, tT, tT] ++ [tC (eT (by (simp only [sl2] at *; omega) : (decide ((↑(List.length (bD own)) : Int) ≤ (↑(List.length (bD b)) : Int))) = false)), tC (eT (by (simp only [sl2] at *; omega) : (decide ((↑(List.length (bD own)) : Int) ≤ (↑(List.length (bD b)) : Int))) = false)), tC (eT (by (simp only [sl2] at *; omega) : (decide ((↑(List.length (bD own)) : Int) ≤ (↑(List.length (bD b)) : Int))) = false)), tC (eT (by (simp only [sl2] at *; omega) : (decide ((↑(List.length (bD own)) : Int) ≤ (↑(List.length (bD b)) : Int))) = false)), tC (eT (by (simp only [sl2] at *; omega) : (decide ((↑(List.length (bD own)) : Int) ≤ (↑(List.length (bD b)) : Int))) = false)), tC (eT (by (simp only [sl2] at *; omega) : (decide ((↑(List.length (bD own)) : Int) ≤ (↑(List.length (bD b)) : Int))) = false)), tC (eT (by (simp only [sl2] at *; omega) : (decide ((↑(List.length (bD own)) : Int) ≤ (↑(List.length (bD b)) : Int))) = false)), tC (eT (by (simp only [sl2] at *; omega) : (decide ((↑(List.length (bD own)) : Int) ≤ (↑(List.length (bD b)) : Int))) = false)), tC (by (simp only [sl2] at *; omega) : (decide ((↑(List.length (bD own)) : Int) ≤ (↑(List.length (bD b)) : Int))) = false), tF, tT, tT, tF]) (by kernel_rfl)).cast (by rfl) (by rfl)
theorem rd_not (b own : List Int) (s : RawS) (k : Int) (k0 : 0 ≤ k) (k1 : k ≤ 31) (v0 : 0 ≤ s.code) (v1 : s.code ≤ 255) (hh : s.high = 0 ∨ s.high = 8) (hy : Ret Try.prog 56 [xsD (asM s k)] (.bool true)) (hb : Ret Try.prog 21 [xsD (asM s k)] (.tup [.lst .no 1 (bD own), .int .i64 0])) (hl : ((bD own).length : Int) ≤ ((bD b).length : Int)) (hs : ((strD (bD own)).toList == (strD (List.take (Int.toNat ((List.length (bD own) : Nat) : Int)) (bD b))).toList) = false) : RoundRun Try.prog (loopB Try.f95 0) ⟨[0, 1, 3, 15, 16], [0, 1, 2, 3, 4, 5, 7], []⟩ 9 [D.yld (5 : Nat), D.ptr false 4 0, uu, D.ptr false 7 0, uu, uu, uu, uu, uu, uu, uu, uu, uu, uu, uu, .agg formsL, .int .i64 k, uu, uu, uu, uu, uu, uu, uu, uu, uu, uu, uu, uu, uu, uu, uu, uu] [Ob.box [.lst .no 1 (bD b)], Ob.box [.int .i8 0, .int .i8 0, .int .i8 0, .int .i8 0, .int .i8 0, .int .i64 0, .int .i64 0, .int .i8 0], Ob.box [.int .i64 0], Ob.box [.int .i64 0], Ob.box [.lst .no 1 (bD b)],
 Ob.lp Lk.ready
  (let y :=
   let y :=
    let y := [uu, uu, uu, uu, uu];
    uu :: uu :: uu :: uu :: uu :: y;
   let y := uu :: uu :: uu :: uu :: uu :: y;
   uu :: uu :: uu :: uu :: uu :: y;
  let y :=
   let y := uu :: uu :: uu :: uu :: uu :: y;
   uu :: uu :: uu :: uu :: uu :: y;
  let y := D.ptr false 3 0 :: uu :: uu :: uu :: uu :: y;
  uu :: D.ptr false 0 0 :: D.ptr false 1 0 :: D.ptr false 2 0 :: y)
  #[(10 : Nat)] (rngA Try.f19 (0 : Nat)) (rngB Try.f19 (0 : Nat)),
 Ob.dead, Ob.box [.int .i8 (RawS.w s), .bool (RawS.long s), .int .u8 (RawS.code s), .int .i8 (RawS.r s), .int .i8 (RawS.m s), .int .i64 (RawS.disp s), .int .i64 (RawS.imm s), .int .i64 (RawS.small s), .int .i64 (RawS.near s), .int .i64 (RawS.jump s), .int .i8 (RawS.high s)], Ob.dead] (Ex.norm) [D.yld (5 : Nat), D.ptr false 4 0, uu, D.ptr false 7 0, uu, uu, uu, uu, uu, uu, uu, uu, uu, uu, uu, .agg formsL, .int .i64 (IntKind.wrap IntKind.i64 (k + 1)), uu, uu, uu, uu, uu, uu, uu, uu, uu, uu, uu, uu, uu, uu, uu, uu] ([.box [.lst .no 1 (bD b)], .box [.int .i8 0, .int .i8 0, .int .i8 0, .int .i8 0, .int .i8 0, .int .i64 0, .int .i64 0, .int .i8 0], .box [.int .i64 0], .box [.int .i64 0], .box [.lst .no 1 (bD b)], .lp .ready [uu, .ptr false 0 0, .ptr false 1 0, .ptr false 2 0, .ptr false 3 0, uu, uu, uu, uu, uu, uu, uu, uu, uu, uu, uu, uu, uu, uu, uu, uu, uu, uu, uu, uu, uu, uu, uu, uu, uu, uu, uu, uu, uu, uu, uu, uu, uu, uu] #[10] (rngA Try.f19 0) (rngB Try.f19 0), .dead, .box [.int .i8 (RawS.w s), .bool  (RawS.long s), .int .u8 (RawS.code s), .int .i8 (RawS.r s), .int .i8 (RawS.m s), .int .i64 (RawS.disp s), .int .i64 (RawS.imm s), .int .i64 (RawS.small s), .int .i64 (RawS.near s), .int .i64 (RawS.jump s), .int .i8 (RawS.high s)], .dead]) := by
 exact (RoundRun.of_eval (sp := ⟨[0, 1, 3, 15, 16], [0, 1, 2, 3, 4, 5, 7], []⟩) (n0 := 9) (ex := Ex.norm) (t' := [D.yld (5 : Nat), D.ptr false 4 0, uu, D.ptr false 7 0, uu, uu, uu, uu, uu, uu, uu, uu, uu, uu, uu, .agg formsL, .int .i64 (IntKind.wrap IntKind.i64 (k + 1)), uu, uu, uu, uu, uu, uu, uu, uu, uu, uu, uu, uu, uu, uu, uu, uu]) (s' := [Ob.box [.lst .no 1 (bD b)], Ob.box [.int .i8 0, .int .i8 0, .int .i8 0, .int .i8 0, .int .i8 0, .int .i64 0, .int .i64 0, .int .i8 0], Ob.box [.int .i64 0], Ob.box [.int .i64 0], Ob.box [.lst .no 1 (bD b)], Ob.lp Lk.ready [uu, D.ptr false 0 0, D.ptr false 1 0, D.ptr false 2 0, D.ptr false 3 0, uu, uu, uu, uu, uu, uu, uu, uu, uu, uu, uu, uu, uu, uu, uu, uu, uu, uu, uu, uu, uu, uu, uu, uu, uu, uu, uu, uu, uu, uu, uu, uu, uu, uu] #[(10 : Nat)] (rngA Try.f19 (0 : Nat)) (rngB Try.f19 (0 : Nat)), Ob.dead, Ob.box [.int .i8 (RawS.w s), .bool (RawS.long s), .int .u8 (RawS.code s), .int .i8 (RawS.r s), .int .i8 (RawS.m s), .int .i64 (RawS.disp s), .int .i64 (RawS.imm s), .int .i64 (RawS.small s), .int .i64 (RawS.near s), .int .i64 (RawS.jump s), .int .i8 (RawS.high s)], Ob.dead]) mixed ([tC (decide_eq_true (Int.lt_add_one_of_le k1)), .tst (decide (0 ≤ k ∧ k < (↑(32 : Nat) : Int))) true (by (simp only [sl2] at *; omega)), .getA _ _ _ _ (@get_form k k0 k1), .callR _ _ _ _ _ (@as_ok s k k0 k1 v0 v1 hh (Ob.box [.lst .no 1 (bD b)]) (Ob.box [.int .i8 0, .int .i8 0, .int .i8 0, .int .i8 0, .int .i8 0, .int .i64 0, .int .i64 0, .int .i8 0]) (Ob.box [.int .i64 0]) (Ob.box [.int .i64 0]) (Ob.box [.lst .no 1 (bD b)]) (Ob.lp Lk.ready [uu, D.ptr false 0 0, D.ptr false 1 0, D.ptr false 2 0, D.ptr false 3 0, uu, uu, uu, uu, uu, uu, uu, uu, uu, uu, uu, uu, uu, uu, uu, uu, uu, uu, uu, uu, uu, uu, uu, uu, uu, uu, uu, uu, uu, uu, uu, uu, uu, uu] #[(10 : Nat)] (rngA Try.f19 (0 : Nat)) (rngB Try.f19 (0 : Nat))) (Ob.dead) (Ob.dead) (Ob.box [.int .i8 (shapeM k), .int .u8 (codeM k), .int .i8 (numM k)])), .ret _ _ _ hy, tT, tT, tT, .inl, .ret _ _ _ hb, tT, tT, tT, tT, tT, tT] ++ [tC (eT (by (simp only [sl2] at *; omega) : (decide ((↑(List.length (bD own)) : Int) ≤ (↑(List.length (bD b)) : Int))) = true)), tC (eT (by (simp only [sl2] at *; omega) : (decide ((↑(List.length (bD own)) : Int) ≤ (↑(List.length (bD b)) : Int))) = true)), tC (v := true) (@allB own), tC (eT (by (simp only [sl2] at *; omega) : (decide ((↑(List.length (bD own)) : Int) ≤ (↑(List.length (bD b)) : Int))) = true)), tC (eT (by (simp only [sl2] at *; omega) : (decide ((↑(List.length (bD own)) : Int) ≤ (↑(List.length (bD b)) : Int))) = true)), tC (eT (by (simp only [sl2] at *; omega) : (decide ((↑(List.length (bD own)) : Int) ≤ (↑(List.length (bD b)) : Int))) = true)), tC (eT (by (simp only [sl2] at *; omega) : (decide ((↑(List.length (bD own)) : Int) ≤ (↑(List.length (bD b)) : Int))) = true)), .tst (decide (0 ≤ (↑(List.length (bD own)) : Int) ∧ (↑(List.length (bD own)) : Int) ≤ (↑(List.length (bD b)) : Int))) true (by (simp only [sl2] at *; omega)), tC (eT (by (simp only [sl2] at *; omega) : (decide ((↑(List.length (bD own)) : Int) ≤ (↑(List.length (bD b)) : Int))) = true)), tC (v := true) (@allB_take b (Int.toNat (↑(List.length (bD own)) : Int))), tC (eT (by (simp only [sl2] at *; omega) : (decide ((↑(List.length (bD own)) : Int) ≤ (↑(List.length (bD b)) : Int))) = true)), tC (by (simp only [sl2] at *; omega) : (decide ((↑(List.length (bD own)) : Int) ≤ (↑(List.length (bD b)) : Int))) = true), tC hs, tT, tT, tF]) (by kernel_rfl)).cast (by rfl) (by rfl)
theorem rd_fit (b own : List Int) (s : RawS) (k : Int) (k0 : 0 ≤ k) (k1 : k ≤ 31) (v0 : 0 ≤ s.code) (v1 : s.code ≤ 255) (hh : s.high = 0 ∨ s.high = 8) (hy : Ret Try.prog 56 [xsD (asM s k)] (.bool true)) (hb : Ret Try.prog 21 [xsD (asM s k)] (.tup [.lst .no 1 (bD own), .int .i64 0])) (hl : ((bD own).length : Int) ≤ ((bD b).length : Int)) (hs : ((strD (bD own)).toList == (strD (List.take (Int.toNat ((List.length (bD own) : Nat) : Int)) (bD b))).toList) = true) : RoundRun Try.prog (loopB Try.f95 0) ⟨[], [1, 2, 3, 5], []⟩ 9 [D.yld (5 : Nat), D.ptr false 4 0, uu, D.ptr false 7 0, uu, uu, uu, uu, uu, uu, uu, uu, uu, uu, uu, .agg formsL, .int .i64 k, uu, uu, uu, uu, uu, uu, uu, uu, uu, uu, uu, uu, uu, uu, uu, uu] [Ob.box [.lst .no 1 (bD b)], Ob.box [.int .i8 0, .int .i8 0, .int .i8 0, .int .i8 0, .int .i8 0, .int .i64 0, .int .i64 0, .int .i8 0], Ob.box [.int .i64 0], Ob.box [.int .i64 0], Ob.box [.lst .no 1 (bD b)],
 Ob.lp Lk.ready
  (let y :=
   let y :=
    let y := [uu, uu, uu, uu, uu];
    uu :: uu :: uu :: uu :: uu :: y;
   let y := uu :: uu :: uu :: uu :: uu :: y;
   uu :: uu :: uu :: uu :: uu :: y;
  let y :=
   let y := uu :: uu :: uu :: uu :: uu :: y;
   uu :: uu :: uu :: uu :: uu :: y;
  let y := D.ptr false 3 0 :: uu :: uu :: uu :: uu :: y;
  uu :: D.ptr false 0 0 :: D.ptr false 1 0 :: D.ptr false 2 0 :: y)
  #[(10 : Nat)] (rngA Try.f19 (0 : Nat)) (rngB Try.f19 (0 : Nat)),
 Ob.dead, Ob.box [.int .i8 (RawS.w s), .bool (RawS.long s), .int .u8 (RawS.code s), .int .i8 (RawS.r s), .int .i8 (RawS.m s), .int .i64 (RawS.disp s), .int .i64 (RawS.imm s), .int .i64 (RawS.small s), .int .i64 (RawS.near s), .int .i64 (RawS.jump s), .int .i8 (RawS.high s)], Ob.dead] (Ex.ret) [uu, uu, uu, uu, uu, uu, uu, uu, uu, uu, uu, uu, uu, uu, uu, uu, uu, uu, uu, uu, uu, uu, uu, uu, uu, uu, uu, uu, uu, uu, uu, uu, uu] ([Ob.dead, Ob.box [.int .i8 (XS.op (asM s k)), .int .i8 (XS.w (asM s k)), .int .i8 (XS.dst (asM s k)), .int .i8 (XS.src (asM s k)), .int .i8 (XS.base (asM s k)), .int .i64 (XS.disp (asM s k)), .int .i64 (XS.imm (asM s k)), .int .i8 (XS.cc (asM s k))], Ob.box [.int .i64 (↑(List.length (bD own)) : Int)], Ob.box [.int .i64 0], Ob.dead, Ob.lp Lk.ret [uu, D.ptr false 0 0, D.ptr false 1 0, D.ptr false 2 0, D.ptr false 3 0, uu, uu, uu, uu, uu, uu, uu, uu, uu, uu, uu, uu, uu, uu, uu, uu, uu, uu, uu, uu, uu, uu, uu, uu, uu, uu, uu, uu, uu, uu, uu, uu, uu, uu] #[(10 : Nat)] (rngA Try.f19 (0 : Nat)) (rngB Try.f19 (0 : Nat)), Ob.dead, Ob.dead, Ob.dead]) := by
 exact (RoundRun.of_eval (sp := ⟨[], [1, 2, 3, 5], []⟩) (n0 := 9) (ex := Ex.ret) (t' := [uu, uu, uu, uu, uu, uu, uu, uu, uu, uu, uu, uu, uu, uu, uu, uu, uu, uu, uu, uu, uu, uu, uu, uu, uu, uu, uu, uu, uu, uu, uu, uu, uu]) (s' := [Ob.dead, Ob.box [.int .i8 (XS.op (asM s k)), .int .i8 (XS.w (asM s k)), .int .i8 (XS.dst (asM s k)), .int .i8 (XS.src (asM s k)), .int .i8 (XS.base (asM s k)), .int .i64 (XS.disp (asM s k)), .int .i64 (XS.imm (asM s k)), .int .i8 (XS.cc (asM s k))], Ob.box [.int .i64 (↑(List.length (bD own)) : Int)], Ob.box [.int .i64 0], Ob.dead, Ob.lp Lk.ret [uu, D.ptr false 0 0, D.ptr false 1 0, D.ptr false 2 0, D.ptr false 3 0, uu, uu, uu, uu, uu, uu, uu, uu, uu, uu, uu, uu, uu, uu, uu, uu, uu, uu, uu, uu, uu, uu, uu, uu, uu, uu, uu, uu, uu, uu, uu, uu, uu, uu] #[(10 : Nat)] (rngA Try.f19 (0 : Nat)) (rngB Try.f19 (0 : Nat)), Ob.dead, Ob.dead, Ob.dead]) mixed ([tC (decide_eq_true (Int.lt_add_one_of_le k1)), .tst (decide (0 ≤ k ∧ k < (↑(32 : Nat) : Int))) true (by (simp only [sl2] at *; omega)), .getA _ _ _ _ (@get_form k k0 k1), .callR _ _ _ _ _ (@as_ok s k k0 k1 v0 v1 hh (Ob.box [.lst .no 1 (bD b)]) (Ob.box [.int .i8 0, .int .i8 0, .int .i8 0, .int .i8 0, .int .i8 0, .int .i64 0, .int .i64 0, .int .i8 0]) (Ob.box [.int .i64 0]) (Ob.box [.int .i64 0]) (Ob.box [.lst .no 1 (bD b)]) (Ob.lp Lk.ready [uu, D.ptr false 0 0, D.ptr false 1 0, D.ptr false 2 0, D.ptr false 3 0, uu, uu, uu, uu, uu, uu, uu, uu, uu, uu, uu, uu, uu, uu, uu, uu, uu, uu, uu, uu, uu, uu, uu, uu, uu, uu, uu, uu, uu, uu, uu, uu, uu, uu] #[(10 : Nat)] (rngA Try.f19 (0 : Nat)) (rngB Try.f19 (0 : Nat))) (Ob.dead) (Ob.dead) (Ob.box [.int .i8 (shapeM k), .int .u8 (codeM k), .int .i8 (numM k)])), .ret _ _ _ hy, tT, tT, tT, .inl, .ret _ _ _ hb, tT, tT, tT, tT, tT, tT] ++ [tC (eT (by (simp only [sl2] at *; omega) : (decide ((↑(List.length (bD own)) : Int) ≤ (↑(List.length (bD b)) : Int))) = true)), tC (eT (by (simp only [sl2] at *; omega) : (decide ((↑(List.length (bD own)) : Int) ≤ (↑(List.length (bD b)) : Int))) = true)), tC (v := true) (@allB own), tC (eT (by (simp only [sl2] at *; omega) : (decide ((↑(List.length (bD own)) : Int) ≤ (↑(List.length (bD b)) : Int))) = true)), tC (eT (by (simp only [sl2] at *; omega) : (decide ((↑(List.length (bD own)) : Int) ≤ (↑(List.length (bD b)) : Int))) = true)), tC (eT (by (simp only [sl2] at *; omega) : (decide ((↑(List.length (bD own)) : Int) ≤ (↑(List.length (bD b)) : Int))) = true)), tC (eT (by (simp only [sl2] at *; omega) : (decide ((↑(List.length (bD own)) : Int) ≤ (↑(List.length (bD b)) : Int))) = true)), .tst (decide (0 ≤ (↑(List.length (bD own)) : Int) ∧ (↑(List.length (bD own)) : Int) ≤ (↑(List.length (bD b)) : Int))) true (by (simp only [sl2] at *; omega)), tC (eT (by (simp only [sl2] at *; omega) : (decide ((↑(List.length (bD own)) : Int) ≤ (↑(List.length (bD b)) : Int))) = true)), tC (v := true) (@allB_take b (Int.toNat (↑(List.length (bD own)) : Int))), tC (eT (by (simp only [sl2] at *; omega) : (decide ((↑(List.length (bD own)) : Int) ≤ (↑(List.length (bD b)) : Int))) = true)), tC (by (simp only [sl2] at *; omega) : (decide ((↑(List.length (bD own)) : Int) ≤ (↑(List.length (bD b)) : Int))) = true), tC hs, tT, tT, tT]) (by kernel_rfl)).cast (by rfl) (by rfl)
end Go.Proofs.Ytcngafhpodeenaa

namespace Go.Proofs.Ytcngafhpodeenaa
open Go Go.Ev
set_option maxRecDepth 100000
abbrev gT (n : Int) : List D := [.yld 5, .ptr false 4 0, .undef, .ptr false 7 0, .undef, .undef, .undef, .undef, .undef, .undef, .undef, .undef, .undef, .undef, .undef, .agg formsL, .int .i64 n, .undef, .undef, .undef, .undef, .undef, .undef, .undef, .undef, .undef, .undef, .undef, .undef, .undef, .undef, .undef, .undef]
abbrev gU : List D := [.undef, .undef, .undef, .undef, .undef, .undef, .undef, .undef, .undef, .undef, .undef, .undef, .undef, .undef, .undef, .undef, .undef, .undef, .undef, .undef, .undef, .undef, .undef, .undef, .undef, .undef, .undef, .undef, .undef, .undef, .undef, .undef, .undef]
abbrev gLP (ag bd : Code) (k : Lk) : Ob := .lp k [.undef, .ptr false 0 0, .ptr false 1 0, .ptr false 2 0, .ptr false 3 0, .undef, .undef, .undef, .undef, .undef, .undef, .undef, .undef, .undef, .undef, .undef, .undef, .undef, .undef, .undef, .undef, .undef, .undef, .undef, .undef, .undef, .undef, .undef, .undef, .undef, .undef, .undef, .undef, .undef, .undef, .undef, .undef, .undef, .undef] #[10] ag bd
abbrev gX0 : Ob := .box [.int .i8 0, .int .i8 0, .int .i8 0, .int .i8 0, .int .i8 0, .int .i64 0, .int .i64 0, .int .i8 0]
abbrev gS (ag bd : Code) (b : List Int) (s : RawS) : List Ob := [.box [.lst .no 1 (bD b)], gX0, .box [.int .i64 0], .box [.int .i64 0], .box [.lst .no 1 (bD b)], gLP ag bd .ready, .dead,
  .box [.int .i8 s.w, .bool s.long, .int .u8 s.code, .int .i8 s.r, .int .i8 s.m, .int .i64 s.disp, .int .i64 s.imm, .int .i64 s.small, .int .i64 s.near, .int .i64 s.jump, .int .i8 s.high], .dead]
abbrev gEx : Option XS → Ex
  | none => .exit 0
  | some _ => .ret
abbrev gOut (ag bd : Code) : Option XS → List Ob
  | none => [.dead, gX0, .box [.int .i64 0], .box [.int .i64 0], .dead, gLP ag bd .ready, .dead, .dead, .dead]
  | some x => [.dead, .box [.int .i8 x.op, .int .i8 x.w, .int .i8 x.dst, .int .i8 x.src, .int .i8 x.base, .int .i64 x.disp, .int .i64 x.imm, .int .i8 x.cc], .box [.int .i64 (bytesXS x).length], .box [.int .i64 0], .dead, gLP ag bd .ret, .dead, .dead, .dead]
theorem guess_rounds (b : List Int) (hb : isB b) (s : RawS) (v0 : 0 ≤ s.code) (v1 : s.code ≤ 255) (hh : s.high = 0 ∨ s.high = 8) : ∀ (m n : Nat), n + m = 32 →
  Rounds Try.prog (loopB Try.f95 0) 9 (gT n) (gS (rngA Try.f19 0) (rngB Try.f19 0) b s) (gEx (firstX b s (ops32.drop n))) gU (gOut (rngA Try.f19 0) (rngB Try.f19 0) (firstX b s (ops32.drop n)))
 | 0, n, hn => by
  obtain rfl : n = 32 := by omega
  exact Rounds.last (rd_end b s) (fun h => by cases h)
 | m + 1, n, hn => by
  have hlt : n < 32 := by omega
  rw [ops_drop hlt]
  have hop := asM_op s (n : Int)
  have hle : (asM s (n : Int)).op ≤ 127 := by rw [hop]; omega
  have hw : IntKind.i64.wrap ((n : Int) + 1) = ((n + 1 : Nat) : Int) := by rw [w_i64]; omega
  have ih := guess_rounds b hb s v0 v1 hh m (n + 1) (by omega)
  have hy : Ret Try.prog 56 [xsD (asM s (n : Int))] (.bool (mayXS (asM s (n : Int)))) := mayX_ok _ _ _ _ _ _ _ _ hle
  have go : ∀ {t2 : List D} {s2 : List Ob}, RoundRun Try.prog (loopB Try.f95 0) ⟨[0, 1, 3, 15, 16], [0, 1, 2, 3, 4, 5, 7], []⟩ 9 (gT n) (gS (rngA Try.f19 0) (rngB Try.f19 0) b s) .norm (gT (IntKind.i64.wrap ((n : Int) + 1))) (gS (rngA Try.f19 0) (rngB Try.f19 0) b s) → fitsX b (asM s (n : Int)) = false →
    Rounds Try.prog (loopB Try.f95 0) 9 (gT n) (gS (rngA Try.f19 0) (rngB Try.f19 0) b s) (gEx (firstX b s ((n : Int) :: ops32.drop (n + 1)))) gU (gOut (rngA Try.f19 0) (rngB Try.f19 0) (firstX b s ((n : Int) :: ops32.drop (n + 1)))) := by
   intro _ _ h hf
   have e : firstX b s ((n : Int) :: ops32.drop (n + 1)) = firstX b s (ops32.drop (n + 1)) := by simp only [firstX, hf, Bool.false_eq_true, if_false]
   rw [e]
   rw [hw] at h
   exact Rounds.more h ih
  cases hm : mayXS (asM s (n : Int)) with
  | false =>
   rw [hm] at hy
   exact go (t2 := []) (s2 := []) (rd_may b [] s n (by omega) (by omega) v0 v1 hh hy) (by simp [fitsX, hm])
  | true =>
   rw [hm] at hy
   have ho := bytesXS_isB hm
   have hbt : Ret Try.prog 21 [xsD (asM s (n : Int))] (.tup [.lst .no 1 (bD (bytesXS (asM s (n : Int)))), .int .i64 0]) := by
    have := bytes_any_ok (asM s (n : Int)).op (asM s (n : Int)).w (asM s (n : Int)).dst (asM s (n : Int)).src (asM s (n : Int)).base (asM s (n : Int)).disp (asM s (n : Int)).imm (asM s (n : Int)).cc hle
    have hm' : mayX (asM s (n : Int)).op (asM s (n : Int)).w (asM s (n : Int)).dst (asM s (n : Int)).src (asM s (n : Int)).base (asM s (n : Int)).disp (asM s (n : Int)).imm (asM s (n : Int)).cc = true := hm
    simp only [bytesL, bytesE, hm', if_true] at this
    exact this
   have hfit := fit_str ho hb
   by_cases hp : (bytesXS (asM s (n : Int))).isPrefixOf b = true
   ·obtain ⟨h1, h2⟩ := hfit.1 hp
    have e : firstX b s ((n : Int) :: ops32.drop (n + 1)) = some (asM s (n : Int)) := by simp only [firstX, fitsX, hm, hp, Bool.and_self, if_true]
    rw [e]
    have := rd_fit b (bytesXS (asM s (n : Int))) s n (by omega) (by omega) v0 v1 hh hy hbt h1 h2
    rw [len_bD] at this
    exact Rounds.last this (fun h => by cases h)
   ·have hf : fitsX b (asM s (n : Int)) = false := by simp [fitsX, hm, hp]
    by_cases hl : ((bD (bytesXS (asM s (n : Int)))).length : Int) ≤ ((bD b).length : Int)
    ·have hs : ((strD (bD (bytesXS (asM s (n : Int))))).toList == (strD (List.take (Int.toNat ((List.length (bD (bytesXS (asM s (n : Int)))) : Nat) : Int)) (bD b))).toList) = false := by
      cases e : ((strD (bD (bytesXS (asM s (n : Int))))).toList == (strD (List.take (Int.toNat ((List.length (bD (bytesXS (asM s (n : Int)))) : Nat) : Int)) (bD b))).toList) with
      | false => rfl
      | true => exact absurd (hfit.2 ⟨hl, e⟩) hp
     exact go (t2 := []) (s2 := []) (rd_not b _ s n (by omega) (by omega) v0 v1 hh hy hbt hl hs) hf
    ·exact go (t2 := []) (s2 := []) (rd_long b _ s n (by omega) (by omega) v0 v1 hh hy hbt (by omega)) hf
theorem guess_none (b : List Int) (hb : isB b) (s : RawS) (v0 : 0 ≤ s.code) (v1 : s.code ≤ 255) (hh : s.high = 0 ∨ s.high = 8) (hf : firstX b s ops32 = none) :
  LoopRun Try.prog 9 (.loop (loopB Try.f95 0)) (gT 0) (gS (rngA Try.f19 0) (rngB Try.f19 0) b s) (.exit 0) gU (gOut (rngA Try.f19 0) (rngB Try.f19 0) none) := by
 have h := guess_rounds b hb s v0 v1 hh 32 0 rfl
 rw [List.drop_zero, hf] at h
 exact LoopRun.of_rounds (Nat.le_refl _) h
theorem guess_some (b : List Int) (hb : isB b) (s : RawS) (v0 : 0 ≤ s.code) (v1 : s.code ≤ 255) (hh : s.high = 0 ∨ s.high = 8) (x : XS) (hf : firstX b s ops32 = some x) :
  LoopRun Try.prog 9 (.loop (loopB Try.f95 0)) (gT 0) (gS (rngA Try.f19 0) (rngB Try.f19 0) b s) .ret gU (gOut (rngA Try.f19 0) (rngB Try.f19 0) (some x)) := by
 have h := guess_rounds b hb s v0 v1 hh 32 0 rfl
 rw [List.drop_zero, hf] at h
 exact LoopRun.of_rounds (Nat.le_refl _) h
end Go.Proofs.Ytcngafhpodeenaa

namespace Go.Proofs.Ytcngafhpodeenaa
open Go Go.Ev
set_option maxRecDepth 100000
set_option maxHeartbeats 8000000
theorem readF_ok (b : List Int) (s : RawS) (hp : Ret Try.prog 96 [.lst .no 1 (bD b)] (.tup [rawD s, .bool false])) : Ret Try.prog 19 ([.lst .no 1 (bD b)]) (.tup [xD 0 0 0 0 0 0 0 0, .int .i64 0, .int .i64 30]) := by
 exact (Ret.of_eval (d := .tup [(xD 0 0 0 0 0 0 0 0), .int .i64 0, .int .i64 30]) mixed Try.func19 (by kernel_rfl) [.inl, .rng [1, 2, 3, 4], .ret _ _ _ hp, tT] (by kernel_rfl)).to (by simp [wk, wkL, xsD])
theorem readN_ok (b : List Int) (hb : isB b) (s : RawS) (v0 : 0 ≤ s.code) (v1 : s.code ≤ 255) (hh : s.high = 0 ∨ s.high = 8) (hp : Ret Try.prog 96 [.lst .no 1 (bD b)] (.tup [rawD s, .bool true])) (hf : firstX b s ops32 = none) : Ret Try.prog 19 ([.lst .no 1 (bD b)]) (.tup [xD 0 0 0 0 0 0 0 0, .int .i64 0, .int .i64 30]) := by
 have c0 := @guess_none (b) hb (s) v0 v1 hh hf
 exact (Ret.of_eval (d := .tup [(xD 0 0 0 0 0 0 0 0), .int .i64 0, .int .i64 30]) mixed Try.func19 (by kernel_rfl) [.inl, .rng [1, 2, 3, 4], .ret _ _ _ hp, tF, .inl, .head ⟨[0, 1, 3, 15, 16], [0, 1, 2, 3, 4, 5, 7], []⟩ _ _ _ _ _ _ _ c0] (by kernel_rfl)).to (by simp [wk, wkL, xsD])
theorem readS_ok (b : List Int) (hb : isB b) (s : RawS) (v0 : 0 ≤ s.code) (v1 : s.code ≤ 255) (hh : s.high = 0 ∨ s.high = 8) (hp : Ret Try.prog 96 [.lst .no 1 (bD b)] (.tup [rawD s, .bool true])) (x : XS) (hf : firstX b s ops32 = some x) : Ret Try.prog 19 ([.lst .no 1 (bD b)]) (.tup [xsD x, .int .i64 (bytesXS x).length, .int .i64 0]) := by
 have c0 := @guess_some (b) hb (s) v0 v1 hh _ hf
 exact (Ret.of_eval (d := .tup [(xD (XS.op x) (XS.w x) (XS.dst x) (XS.src x) (XS.base x) (XS.disp x) (XS.imm x) (XS.cc x)), .int .i64 (↑(List.length (bytesXS x)) : Int), .int .i64 0]) mixed Try.func19 (by kernel_rfl) [.inl, .rng [1, 2, 3, 4], .ret _ _ _ hp, tF, .inl, .head ⟨[0, 1, 3, 15, 16], [0, 1, 2, 3, 4, 5, 7], []⟩ _ _ _ _ _ _ _ c0] (by kernel_rfl)).to (by simp [wk, wkL, xsD])
end Go.Proofs.Ytcngafhpodeenaa

namespace Go.Proofs.Ytcngafhpodeenaa
open Go Go.Ev
set_option maxRecDepth 100000
theorem read_any (b : List Int) (hb : isB b) : Ret Try.prog 19 [.lst .no 1 (bD b)] (readD (readM b)) := by
 obtain ⟨s, hp, hs⟩ := parse_ok b hb
 cases e : parM b with
 | none =>
  rw [e] at hp
  rw [read_none e]
  obtain ⟨x, hx⟩ : ∃ x : RawS, x = ⟨s.w, s.long, 0, s.r, s.m, s.disp, s.imm, s.small, s.near, s.jump, s.high⟩ := ⟨_, rfl⟩
  exact readF_ok b s hp
 | some s' =>
  obtain rfl := hs s' e
  rw [e] at hp
  obtain ⟨v0, v1, hh⟩ := par_small hb e
  rw [← first_read e]
  cases hf : firstX b s ops32 with
  | none => exact readN_ok b hb s v0 v1 hh hp hf
  | some x => exact readS_ok b hb s v0 v1 hh hp x hf
end Go.Proofs.Ytcngafhpodeenaa

namespace Go.Ev
open Go Go.RowKit Go.ChangeShapes Go.WideShapes
theorem trodAll_below {H : Type} {enc : TypeId × Value → H} {P : Program} (hl : laidOutB P = true) {W W' : World} (hb : Below W.heap.size W W') : ∀ {ts : List TypeId} {vs : List Value} {ds : List (DataW H)} {ps : List MemPlace},
  (∀ t ∈ ts, P.readableRec t = true ∧ t < P.types.size) → DataW.TrodAll enc P W 0 (fun _ => true) true ts vs ds ps → (∀ x ∈ ps, x.block < W.heap.size) → DataW.TrodAll enc P W' 0 (fun b => decide (b < W.heap.size)) true ts vs ds ps
 | [], vs, ds, ps, _, h, _ => by
  obtain ⟨rfl, rfl, rfl⟩ := trodAll_nil h
  rfl
 | t :: ts, vs, ds, ps, hr, h, hp => by
  obtain ⟨v, vs', d, ds', p, q, rfl, rfl, rfl, h1, h2⟩ := trodAll_cons h
  have hrt := hr t (by simp)
  exact ⟨p, q, Below.trod hl hrt.1 hrt.2 h1 hb (fun x hx => hp x (by simp [hx])), trodAll_below hl hb (fun t ht => hr t (by simp [ht])) h2 (fun x hx => hp x (by simp [hx])), rfl⟩
theorem trodAll_lengths {H : Type} {enc : TypeId × Value → H} {P : Program} {W : World} {b : Nat} {sp : Nat → Bool} {hd : Bool} : ∀ {ts : List TypeId} {vs : List Value} {ds : List (DataW H)} {ps : List MemPlace}, DataW.TrodAll enc P W b sp hd ts vs ds ps → vs.length = ts.length ∧ ds.length = ts.length
 | [], vs, ds, ps, h => by
  obtain ⟨rfl, rfl, rfl⟩ := trodAll_nil h
  exact ⟨rfl, rfl⟩
 | t :: ts, vs, ds, ps, h => by
  obtain ⟨v, vs', d, ds', p, q, rfl, rfl, rfl, h1, h2⟩ := trodAll_cons h
  obtain ⟨k1, k2⟩ := trodAll_lengths h2
  exact ⟨by simp [k1], by simp [k2]⟩
theorem law_lifted {a : Assume} {H : Type} {enc : TypeId × Value → H} {C : Checked} {os : Os} {f : FuncId} {fn : Func} {s : ChangeSpec} {conds : List PathCond} {fresh handsOn : Bool} {tb : TypeId}
  (own : ownKnob C.prog.godebug = none) (started : os.Started) (noInit : C.prog.inits.idxOf? f = none) (hfn : C.prog.funcs[f]? = some fn) (hl : laidOutB C.prog = true) (hvars : s.vars = [])
  (hparams : ∀ t ∈ fn.params.toList, C.prog.readableRec t = true ∧ t < C.prog.types.size) (hres : fn.resultTypes = #[tb]) (htb : C.prog.underlying tb = some .bool)
  (hspec : ∀ ds : List (DataW H), ds.length = fn.params.toList.length → (s.fn H ds).results = [.lit (.bool true)] ∧ (s.fn H ds).args = ds ∧ (s.fn H ds).vars = [])
  (witness : ∃ (w : World) (tape : Tape) (i : Input), w.os = os ∧ (w.forCall tape i).Shaped C.prog ∧ i.vars = [] ∧ Input.okWide C.prog (w.forCall tape i) .any w.heap.size f i ∧
   s.pre6 enc C.prog fn conds false (w.forCall tape i).memory i.args ∧ a.holds C.prog (lone (Frame.enter C.prog f i.args .normal) [] (w.forCall tape i)))
  (law : ∀ (W : World) (base : Nat) (args : Array Value) (ds : List (DataW H)) (ps : List MemPlace), (∀ (j : Nat) t v, fn.params[j]? = some t → args[j]? = some v → Value.okWide C.prog W .any base t v) →
   args.toList.length = fn.params.toList.length → DataW.TrodAll enc C.prog W 0 (fun _ => true) true fn.params.toList args.toList ds ps → (DataW.weightsEach C.prog fn.params.toList ds).all (· ≤ reachBytes) = true →
   Calls C.prog f args W fun e W' => e = .returned (.bool true) ∧ Below W.heap.size W W') :
  ReturnsInHanded a C os f .any (s.pre6 enc C.prog fn conds false) (s.post enc C.prog fn false fresh handsOn false) := by
 refine returnsInHanded_of_change_sized own started noInit hfn witness ?_
 intro W base args ds gs before hval hW _ hz _
 have hW' := hW
 obtain ⟨p, q, hA, hV, rfl, hfz, hnd⟩ := hW
 rw [hvars] at hV
 obtain ⟨rfl, rfl⟩ := trodVars_none hV
 obtain ⟨l1, l2⟩ := trodAll_lengths hA
 have hz' : (DataW.weightsEach C.prog fn.params.toList ds).all (· ≤ reachBytes) = true := by
  have e : s.plain.varTypes C.prog = [] := by simp [ChangeSpec.plain, DataSpec.varTypes, hvars]
  rw [e, List.append_nil, List.append_nil] at hz
  exact hz
 refine (law W base args ds p hval l1 hA hz').mono fun e W' ⟨he, hb⟩ => ?_
 subst he
 refine ⟨_, rfl, ds, [], p ++ [], [], p, [], hW', ?_⟩
 rw [List.append_nil]
 obtain ⟨s1, s2, s3⟩ := hspec ds l2
 rw [s1, s2, s3, hres, hvars]
 refine ⟨?_, trodAll_below hl hb hparams hA (fun x hx => by simpa using hW'.lt x (by simpa using hx)), rfl, Below.frame hb _, fun h => nomatch h⟩
 exact trodAll_mk1 (shut_bool htb true)
def okL : List LK → List D → Prop
  | [], ds => ds = []
  | .bool :: ks, ds => ∃ (b : Bool) (r : List D), ds = .bool b :: r ∧ okL ks r
  | .int k :: ks, ds => ∃ (n : Int) (r : List D), ds = .int k n :: r ∧ k.has n ∧ okL ks r
  | .str :: ks, ds => ∃ (b : ByteArray) (r : List D), ds = .str b :: r ∧ (b.size : Int) ≤ IntKind.i64.max ∧ okL ks r
def kindOf (P : Program) (t : TypeId) : Option LK := match P.underlying t with
  | some .bool => some .bool
  | some (.int k) => some (.int k)
  | some .string => some .str
  | _ => none
def kindsOf (P : Program) : List TypeId → Option (List LK)
  | [] => some []
  | t :: r => match kindOf P t, kindsOf P r with
    | some k, some l => some (k :: l)
    | _, _ => none
def allOf (w : World) : Nat → Nat → Option Value := fun b o => w.cell? ⟨b, o, none⟩
theorem Ret.law {P : Program} {f : FuncId} {args : List D} (h : Ret P f args (.bool true)) {W : World} {vs : Array Value} (hr : RepL (bareOf (allOf W)) args vs) : Calls P f vs W fun e W' => e = .returned (.bool true) ∧ Below W.heap.size W W' := by
 refine Calls.mono (h.run W (allOf W) vs (fun b o v k => k) hr) ?_
 rintro e W' ⟨v, C', rfl, hext, hrep, _⟩
 cases hrep
 exact ⟨rfl, hext.below⟩
end Go.Ev
