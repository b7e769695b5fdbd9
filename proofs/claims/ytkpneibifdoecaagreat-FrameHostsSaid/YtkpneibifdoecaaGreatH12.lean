/- Contracts and plain laws that a statement's proof leans on (texts merged: XB2c, XB2d, XB2e, XBytes, XB3, XBytes2, XLen, XS1, XS2, XRW, Y1a, Y1b, Y1c). -/
import Derived.Test.YtkpneibifdoecaaGreatH05
import Derived.Test.YtkpneibifdoecaaGreatH07
import Derived.Test.YtkpneibifdoecaaGreatH10
import Derived.Test.YtkpneibifdoecaaGreatH11
set_option linter.unusedVariables false
set_option linter.unusedSimpArgs false
set_option maxRecDepth 100000
set_option maxHeartbeats 8000000
namespace Go.Proofs.YtkpneibifdoecaaGreat
open Go Go.Ev
theorem bytesO_26_ok (w dst src base disp imm cc : Int) (d0 : 0 ≤ dst) (d1 : dst ≤ 15) (s0 : 0 ≤ src) (s1 : src ≤ 15) (b0 : 0 ≤ base) (b1 : base ≤ 15) (p0 : -2147483648 ≤ disp) (p1 : disp ≤ 2147483647) (i0 : -2147483648 ≤ imm) (i1 : imm ≤ 2147483647) (c0 : 0 ≤ cc) (c1 : cc ≤ 15) (hm : mayX 26 w dst src base disp imm cc = true) : Ret Tryz.prog 105 ([xD 26 w dst src base disp imm cc]) (.tup [.lst .no 1 (bD (bytesM 26 w dst src base disp imm cc)), .int .i64 0]) := by
 have c0 := @mayX_ok 26 w dst src base disp imm cc (by decide)
 rw [hm] at c0
 have c1 := @of_any_ok 26 (by decide)
 let E1 : EL := [.ret _ _ _ c0, tF, .ret _ _ _ c1, tF, tF, tF, tF, tF, tF, tT]
 by_cases h2 : w = 8
 ·subst h2
  rcases bft (needM false dst base false) with h3 | h3
  ·have c4 := @rex_yes_ok dst base d0 d1 b0 b1 false false h3
   generalize g6 : rexB false dst base = r5 at c4
   rcases bft (decide (base % 8 = 4)) with h7 | h7
   ·have c8 := @mMem_4_ok dst base disp d0 d1 b0 b1 p0 p1 h7
    exact (o105 (d := .tup [.lst (.fresh 1) 1 [.int .u8 r5, .int .u8 15, .int .u8 182, .int .u8 (128 + 8 * (dst % 8) + base % 8), .int .u8 36, .int .u8 (disp % 256), .int .u8 (disp / 256 % 256), .int .u8 (disp / 65536 % 256), .int .u8 (disp / 16777216 % 256)], .int .i64 0]) (E1 ++ [tT, .ret _ _ _ c4, .inl, .ret _ _ _ c8, .inl, .go 64, tT, tT, .get ([.lst .tight 1 [.int .u8 r5], .lst .tight 1 [.int .u8 15, .int .u8 182], .lst .no 1 [.int .u8 (128 + 8 * (dst % 8) + base % 8), .int .u8 36, .int .u8 (disp % 256), .int .u8 (disp / 256 % 256), .int .u8 (disp / 65536 % 256), .int .u8 (disp / 16777216 % 256)]]) 0 (.lst .tight 1 [.int .u8 r5]) rfl, .len 1 2147483648 (by decide), tT, tT, .get ([.lst .tight 1 [.int .u8 r5], .lst .tight 1 [.int .u8 15, .int .u8 182], .lst .no 1 [.int .u8 (128 + 8 * (dst % 8) + base % 8), .int .u8 36, .int .u8 (disp % 256), .int .u8 (disp / 256 % 256), .int .u8 (disp / 65536 % 256), .int .u8 (disp / 16777216 % 256)]]) 1 (.lst .tight 1 [.int .u8 15, .int .u8 182]) rfl, .len 3 2147483648 (by decide), tT, tT, .get ([.lst .tight 1 [.int .u8 r5], .lst .tight 1 [.int .u8 15, .int .u8 182], .lst .no 1 [.int .u8 (128 + 8 * (dst % 8) + base % 8), .int .u8 36, .int .u8 (disp % 256), .int .u8 (disp / 256 % 256), .int .u8 (disp / 65536 % 256), .int .u8 (disp / 16777216 % 256)]]) 2 (.lst .no 1 [.int .u8 (128 + 8 * (dst % 8) + base % 8), .int .u8 36, .int .u8 (disp % 256), .int .u8 (disp / 256 % 256), .int .u8 (disp / 65536 % 256), .int .u8 (disp / 16777216 % 256)]) rfl, .len 9 2147483648 (by decide), tF]) (by kernel_rfl)).to (by clear E1; subst_vars; (try simp only [beq_dec] at *); (try simp only [beq_iff_eq] at h); (try simp only [decide_eq_true_eq, decide_eq_false_iff_not] at *); simp_all [wk, wkL, wkO, bytesM, show shapeM 26 = 7 from rfl, codeM, bD, rexM, memM, fourM, w_u8])
   have c9 := @mMem_n_ok dst base disp d0 d1 b0 b1 p0 p1 h7
   exact (o105 (d := .tup [.lst (.fresh 1) 1 [.int .u8 r5, .int .u8 15, .int .u8 182, .int .u8 (128 + 8 * (dst % 8) + base % 8), .int .u8 (disp % 256), .int .u8 (disp / 256 % 256), .int .u8 (disp / 65536 % 256), .int .u8 (disp / 16777216 % 256)], .int .i64 0]) (E1 ++ [tT, .ret _ _ _ c4, .inl, .ret _ _ _ c9, .inl, .go 64, tT, tT, .get ([.lst .tight 1 [.int .u8 r5], .lst .tight 1 [.int .u8 15, .int .u8 182], .lst .no 1 [.int .u8 (128 + 8 * (dst % 8) + base % 8), .int .u8 (disp % 256), .int .u8 (disp / 256 % 256), .int .u8 (disp / 65536 % 256), .int .u8 (disp / 16777216 % 256)]]) 0 (.lst .tight 1 [.int .u8 r5]) rfl, .len 1 2147483648 (by decide), tT, tT, .get ([.lst .tight 1 [.int .u8 r5], .lst .tight 1 [.int .u8 15, .int .u8 182], .lst .no 1 [.int .u8 (128 + 8 * (dst % 8) + base % 8), .int .u8 (disp % 256), .int .u8 (disp / 256 % 256), .int .u8 (disp / 65536 % 256), .int .u8 (disp / 16777216 % 256)]]) 1 (.lst .tight 1 [.int .u8 15, .int .u8 182]) rfl, .len 3 2147483648 (by decide), tT, tT, .get ([.lst .tight 1 [.int .u8 r5], .lst .tight 1 [.int .u8 15, .int .u8 182], .lst .no 1 [.int .u8 (128 + 8 * (dst % 8) + base % 8), .int .u8 (disp % 256), .int .u8 (disp / 256 % 256), .int .u8 (disp / 65536 % 256), .int .u8 (disp / 16777216 % 256)]]) 2 (.lst .no 1 [.int .u8 (128 + 8 * (dst % 8) + base % 8), .int .u8 (disp % 256), .int .u8 (disp / 256 % 256), .int .u8 (disp / 65536 % 256), .int .u8 (disp / 16777216 % 256)]) rfl, .len 8 2147483648 (by decide), tF]) (by kernel_rfl)).to (by clear E1; subst_vars; (try simp only [beq_dec] at *); (try simp only [beq_iff_eq] at h); (try simp only [decide_eq_true_eq, decide_eq_false_iff_not] at *); simp_all [wk, wkL, wkO, bytesM, show shapeM 26 = 7 from rfl, codeM, bD, rexM, memM, fourM, w_u8])
  have c10 := @rex_no_ok dst base d0 d1 b0 b1 false false h3
  rcases bft (decide (base % 8 = 4)) with h11 | h11
  ·have c12 := @mMem_4_ok dst base disp d0 d1 b0 b1 p0 p1 h11
   exact (o105 (d := .tup [.lst (.fresh 1) 1 [.int .u8 15, .int .u8 182, .int .u8 (128 + 8 * (dst % 8) + base % 8), .int .u8 36, .int .u8 (disp % 256), .int .u8 (disp / 256 % 256), .int .u8 (disp / 65536 % 256), .int .u8 (disp / 16777216 % 256)], .int .i64 0]) (E1 ++ [tT, .ret _ _ _ c10, .inl, .ret _ _ _ c12, .inl, .go 64, tT, tT, .get ([.lst .tight 1 [], .lst .tight 1 [.int .u8 15, .int .u8 182], .lst .no 1 [.int .u8 (128 + 8 * (dst % 8) + base % 8), .int .u8 36, .int .u8 (disp % 256), .int .u8 (disp / 256 % 256), .int .u8 (disp / 65536 % 256), .int .u8 (disp / 16777216 % 256)]]) 0 (.lst .tight 1 []) rfl, .len 0 2147483648 (by decide), tT, tT, .get ([.lst .tight 1 [], .lst .tight 1 [.int .u8 15, .int .u8 182], .lst .no 1 [.int .u8 (128 + 8 * (dst % 8) + base % 8), .int .u8 36, .int .u8 (disp % 256), .int .u8 (disp / 256 % 256), .int .u8 (disp / 65536 % 256), .int .u8 (disp / 16777216 % 256)]]) 1 (.lst .tight 1 [.int .u8 15, .int .u8 182]) rfl, .len 2 2147483648 (by decide), tT, tT, .get ([.lst .tight 1 [], .lst .tight 1 [.int .u8 15, .int .u8 182], .lst .no 1 [.int .u8 (128 + 8 * (dst % 8) + base % 8), .int .u8 36, .int .u8 (disp % 256), .int .u8 (disp / 256 % 256), .int .u8 (disp / 65536 % 256), .int .u8 (disp / 16777216 % 256)]]) 2 (.lst .no 1 [.int .u8 (128 + 8 * (dst % 8) + base % 8), .int .u8 36, .int .u8 (disp % 256), .int .u8 (disp / 256 % 256), .int .u8 (disp / 65536 % 256), .int .u8 (disp / 16777216 % 256)]) rfl, .len 8 2147483648 (by decide), tF]) (by kernel_rfl)).to (by clear E1; subst_vars; (try simp only [beq_dec] at *); (try simp only [beq_iff_eq] at h); (try simp only [decide_eq_true_eq, decide_eq_false_iff_not] at *); simp_all [wk, wkL, wkO, bytesM, show shapeM 26 = 7 from rfl, codeM, bD, rexM, memM, fourM, w_u8])
  have c13 := @mMem_n_ok dst base disp d0 d1 b0 b1 p0 p1 h11
  exact (o105 (d := .tup [.lst (.fresh 1) 1 [.int .u8 15, .int .u8 182, .int .u8 (128 + 8 * (dst % 8) + base % 8), .int .u8 (disp % 256), .int .u8 (disp / 256 % 256), .int .u8 (disp / 65536 % 256), .int .u8 (disp / 16777216 % 256)], .int .i64 0]) (E1 ++ [tT, .ret _ _ _ c10, .inl, .ret _ _ _ c13, .inl, .go 64, tT, tT, .get ([.lst .tight 1 [], .lst .tight 1 [.int .u8 15, .int .u8 182], .lst .no 1 [.int .u8 (128 + 8 * (dst % 8) + base % 8), .int .u8 (disp % 256), .int .u8 (disp / 256 % 256), .int .u8 (disp / 65536 % 256), .int .u8 (disp / 16777216 % 256)]]) 0 (.lst .tight 1 []) rfl, .len 0 2147483648 (by decide), tT, tT, .get ([.lst .tight 1 [], .lst .tight 1 [.int .u8 15, .int .u8 182], .lst .no 1 [.int .u8 (128 + 8 * (dst % 8) + base % 8), .int .u8 (disp % 256), .int .u8 (disp / 256 % 256), .int .u8 (disp / 65536 % 256), .int .u8 (disp / 16777216 % 256)]]) 1 (.lst .tight 1 [.int .u8 15, .int .u8 182]) rfl, .len 2 2147483648 (by decide), tT, tT, .get ([.lst .tight 1 [], .lst .tight 1 [.int .u8 15, .int .u8 182], .lst .no 1 [.int .u8 (128 + 8 * (dst % 8) + base % 8), .int .u8 (disp % 256), .int .u8 (disp / 256 % 256), .int .u8 (disp / 65536 % 256), .int .u8 (disp / 16777216 % 256)]]) 2 (.lst .no 1 [.int .u8 (128 + 8 * (dst % 8) + base % 8), .int .u8 (disp % 256), .int .u8 (disp / 256 % 256), .int .u8 (disp / 65536 % 256), .int .u8 (disp / 16777216 % 256)]) rfl, .len 7 2147483648 (by decide), tF]) (by kernel_rfl)).to (by clear E1; subst_vars; (try simp only [beq_dec] at *); (try simp only [beq_iff_eq] at h); (try simp only [decide_eq_true_eq, decide_eq_false_iff_not] at *); simp_all [wk, wkL, wkO, bytesM, show shapeM 26 = 7 from rfl, codeM, bD, rexM, memM, fourM, w_u8])
 let E2 : EL := E1 ++ [tC (neOf h2)]
 by_cases h14 : w = 16
 ·subst h14
  rcases bft (needM false dst base false) with h15 | h15
  ·have c16 := @rex_yes_ok dst base d0 d1 b0 b1 false false h15
   generalize g18 : rexB false dst base = r17 at c16
   rcases bft (decide (base % 8 = 4)) with h19 | h19
   ·have c20 := @mMem_4_ok dst base disp d0 d1 b0 b1 p0 p1 h19
    exact (o105 (d := .tup [.lst (.fresh 1) 1 [.int .u8 r17, .int .u8 15, .int .u8 183, .int .u8 (128 + 8 * (dst % 8) + base % 8), .int .u8 36, .int .u8 (disp % 256), .int .u8 (disp / 256 % 256), .int .u8 (disp / 65536 % 256), .int .u8 (disp / 16777216 % 256)], .int .i64 0]) (E2 ++ [tT, .ret _ _ _ c16, .inl, .ret _ _ _ c20, .inl, .go 64, tT, tT, .get ([.lst .tight 1 [.int .u8 r17], .lst .tight 1 [.int .u8 15, .int .u8 183], .lst .no 1 [.int .u8 (128 + 8 * (dst % 8) + base % 8), .int .u8 36, .int .u8 (disp % 256), .int .u8 (disp / 256 % 256), .int .u8 (disp / 65536 % 256), .int .u8 (disp / 16777216 % 256)]]) 0 (.lst .tight 1 [.int .u8 r17]) rfl, .len 1 2147483648 (by decide), tT, tT, .get ([.lst .tight 1 [.int .u8 r17], .lst .tight 1 [.int .u8 15, .int .u8 183], .lst .no 1 [.int .u8 (128 + 8 * (dst % 8) + base % 8), .int .u8 36, .int .u8 (disp % 256), .int .u8 (disp / 256 % 256), .int .u8 (disp / 65536 % 256), .int .u8 (disp / 16777216 % 256)]]) 1 (.lst .tight 1 [.int .u8 15, .int .u8 183]) rfl, .len 3 2147483648 (by decide), tT, tT, .get ([.lst .tight 1 [.int .u8 r17], .lst .tight 1 [.int .u8 15, .int .u8 183], .lst .no 1 [.int .u8 (128 + 8 * (dst % 8) + base % 8), .int .u8 36, .int .u8 (disp % 256), .int .u8 (disp / 256 % 256), .int .u8 (disp / 65536 % 256), .int .u8 (disp / 16777216 % 256)]]) 2 (.lst .no 1 [.int .u8 (128 + 8 * (dst % 8) + base % 8), .int .u8 36, .int .u8 (disp % 256), .int .u8 (disp / 256 % 256), .int .u8 (disp / 65536 % 256), .int .u8 (disp / 16777216 % 256)]) rfl, .len 9 2147483648 (by decide), tF]) (by kernel_rfl)).to (by clear E1 E2; subst_vars; (try simp only [beq_dec] at *); (try simp only [beq_iff_eq] at h); (try simp only [decide_eq_true_eq, decide_eq_false_iff_not] at *); simp_all [wk, wkL, wkO, bytesM, show shapeM 26 = 7 from rfl, codeM, bD, rexM, memM, fourM, w_u8])
   have c21 := @mMem_n_ok dst base disp d0 d1 b0 b1 p0 p1 h19
   exact (o105 (d := .tup [.lst (.fresh 1) 1 [.int .u8 r17, .int .u8 15, .int .u8 183, .int .u8 (128 + 8 * (dst % 8) + base % 8), .int .u8 (disp % 256), .int .u8 (disp / 256 % 256), .int .u8 (disp / 65536 % 256), .int .u8 (disp / 16777216 % 256)], .int .i64 0]) (E2 ++ [tT, .ret _ _ _ c16, .inl, .ret _ _ _ c21, .inl, .go 64, tT, tT, .get ([.lst .tight 1 [.int .u8 r17], .lst .tight 1 [.int .u8 15, .int .u8 183], .lst .no 1 [.int .u8 (128 + 8 * (dst % 8) + base % 8), .int .u8 (disp % 256), .int .u8 (disp / 256 % 256), .int .u8 (disp / 65536 % 256), .int .u8 (disp / 16777216 % 256)]]) 0 (.lst .tight 1 [.int .u8 r17]) rfl, .len 1 2147483648 (by decide), tT, tT, .get ([.lst .tight 1 [.int .u8 r17], .lst .tight 1 [.int .u8 15, .int .u8 183], .lst .no 1 [.int .u8 (128 + 8 * (dst % 8) + base % 8), .int .u8 (disp % 256), .int .u8 (disp / 256 % 256), .int .u8 (disp / 65536 % 256), .int .u8 (disp / 16777216 % 256)]]) 1 (.lst .tight 1 [.int .u8 15, .int .u8 183]) rfl, .len 3 2147483648 (by decide), tT, tT, .get ([.lst .tight 1 [.int .u8 r17], .lst .tight 1 [.int .u8 15, .int .u8 183], .lst .no 1 [.int .u8 (128 + 8 * (dst % 8) + base % 8), .int .u8 (disp % 256), .int .u8 (disp / 256 % 256), .int .u8 (disp / 65536 % 256), .int .u8 (disp / 16777216 % 256)]]) 2 (.lst .no 1 [.int .u8 (128 + 8 * (dst % 8) + base % 8), .int .u8 (disp % 256), .int .u8 (disp / 256 % 256), .int .u8 (disp / 65536 % 256), .int .u8 (disp / 16777216 % 256)]) rfl, .len 8 2147483648 (by decide), tF]) (by kernel_rfl)).to (by clear E1 E2; subst_vars; (try simp only [beq_dec] at *); (try simp only [beq_iff_eq] at h); (try simp only [decide_eq_true_eq, decide_eq_false_iff_not] at *); simp_all [wk, wkL, wkO, bytesM, show shapeM 26 = 7 from rfl, codeM, bD, rexM, memM, fourM, w_u8])
  have c22 := @rex_no_ok dst base d0 d1 b0 b1 false false h15
  rcases bft (decide (base % 8 = 4)) with h23 | h23
  ·have c24 := @mMem_4_ok dst base disp d0 d1 b0 b1 p0 p1 h23
   exact (o105 (d := .tup [.lst (.fresh 1) 1 [.int .u8 15, .int .u8 183, .int .u8 (128 + 8 * (dst % 8) + base % 8), .int .u8 36, .int .u8 (disp % 256), .int .u8 (disp / 256 % 256), .int .u8 (disp / 65536 % 256), .int .u8 (disp / 16777216 % 256)], .int .i64 0]) (E2 ++ [tT, .ret _ _ _ c22, .inl, .ret _ _ _ c24, .inl, .go 64, tT, tT, .get ([.lst .tight 1 [], .lst .tight 1 [.int .u8 15, .int .u8 183], .lst .no 1 [.int .u8 (128 + 8 * (dst % 8) + base % 8), .int .u8 36, .int .u8 (disp % 256), .int .u8 (disp / 256 % 256), .int .u8 (disp / 65536 % 256), .int .u8 (disp / 16777216 % 256)]]) 0 (.lst .tight 1 []) rfl, .len 0 2147483648 (by decide), tT, tT, .get ([.lst .tight 1 [], .lst .tight 1 [.int .u8 15, .int .u8 183], .lst .no 1 [.int .u8 (128 + 8 * (dst % 8) + base % 8), .int .u8 36, .int .u8 (disp % 256), .int .u8 (disp / 256 % 256), .int .u8 (disp / 65536 % 256), .int .u8 (disp / 16777216 % 256)]]) 1 (.lst .tight 1 [.int .u8 15, .int .u8 183]) rfl, .len 2 2147483648 (by decide), tT, tT, .get ([.lst .tight 1 [], .lst .tight 1 [.int .u8 15, .int .u8 183], .lst .no 1 [.int .u8 (128 + 8 * (dst % 8) + base % 8), .int .u8 36, .int .u8 (disp % 256), .int .u8 (disp / 256 % 256), .int .u8 (disp / 65536 % 256), .int .u8 (disp / 16777216 % 256)]]) 2 (.lst .no 1 [.int .u8 (128 + 8 * (dst % 8) + base % 8), .int .u8 36, .int .u8 (disp % 256), .int .u8 (disp / 256 % 256), .int .u8 (disp / 65536 % 256), .int .u8 (disp / 16777216 % 256)]) rfl, .len 8 2147483648 (by decide), tF]) (by kernel_rfl)).to (by clear E1 E2; subst_vars; (try simp only [beq_dec] at *); (try simp only [beq_iff_eq] at h); (try simp only [decide_eq_true_eq, decide_eq_false_iff_not] at *); simp_all [wk, wkL, wkO, bytesM, show shapeM 26 = 7 from rfl, codeM, bD, rexM, memM, fourM, w_u8])
  have c25 := @mMem_n_ok dst base disp d0 d1 b0 b1 p0 p1 h23
  exact (o105 (d := .tup [.lst (.fresh 1) 1 [.int .u8 15, .int .u8 183, .int .u8 (128 + 8 * (dst % 8) + base % 8), .int .u8 (disp % 256), .int .u8 (disp / 256 % 256), .int .u8 (disp / 65536 % 256), .int .u8 (disp / 16777216 % 256)], .int .i64 0]) (E2 ++ [tT, .ret _ _ _ c22, .inl, .ret _ _ _ c25, .inl, .go 64, tT, tT, .get ([.lst .tight 1 [], .lst .tight 1 [.int .u8 15, .int .u8 183], .lst .no 1 [.int .u8 (128 + 8 * (dst % 8) + base % 8), .int .u8 (disp % 256), .int .u8 (disp / 256 % 256), .int .u8 (disp / 65536 % 256), .int .u8 (disp / 16777216 % 256)]]) 0 (.lst .tight 1 []) rfl, .len 0 2147483648 (by decide), tT, tT, .get ([.lst .tight 1 [], .lst .tight 1 [.int .u8 15, .int .u8 183], .lst .no 1 [.int .u8 (128 + 8 * (dst % 8) + base % 8), .int .u8 (disp % 256), .int .u8 (disp / 256 % 256), .int .u8 (disp / 65536 % 256), .int .u8 (disp / 16777216 % 256)]]) 1 (.lst .tight 1 [.int .u8 15, .int .u8 183]) rfl, .len 2 2147483648 (by decide), tT, tT, .get ([.lst .tight 1 [], .lst .tight 1 [.int .u8 15, .int .u8 183], .lst .no 1 [.int .u8 (128 + 8 * (dst % 8) + base % 8), .int .u8 (disp % 256), .int .u8 (disp / 256 % 256), .int .u8 (disp / 65536 % 256), .int .u8 (disp / 16777216 % 256)]]) 2 (.lst .no 1 [.int .u8 (128 + 8 * (dst % 8) + base % 8), .int .u8 (disp % 256), .int .u8 (disp / 256 % 256), .int .u8 (disp / 65536 % 256), .int .u8 (disp / 16777216 % 256)]) rfl, .len 7 2147483648 (by decide), tF]) (by kernel_rfl)).to (by clear E1 E2; subst_vars; (try simp only [beq_dec] at *); (try simp only [beq_iff_eq] at h); (try simp only [decide_eq_true_eq, decide_eq_false_iff_not] at *); simp_all [wk, wkL, wkO, bytesM, show shapeM 26 = 7 from rfl, codeM, bD, rexM, memM, fourM, w_u8])
 rcases bft (needM (w == 64) dst base false) with h26 | h26
 ·have c27 := @rex_yes_ok dst base d0 d1 b0 b1 (w == 64) false h26
  generalize g29 : rexB (w == 64) dst base = r28 at c27
  rcases bft (decide (base % 8 = 4)) with h30 | h30
  ·have c31 := @mMem_4_ok dst base disp d0 d1 b0 b1 p0 p1 h30
   exact (o105 (d := .tup [.lst (.fresh 1) 1 [.int .u8 r28, .int .u8 139, .int .u8 (128 + 8 * (dst % 8) + base % 8), .int .u8 36, .int .u8 (disp % 256), .int .u8 (disp / 256 % 256), .int .u8 (disp / 65536 % 256), .int .u8 (disp / 16777216 % 256)], .int .i64 0]) (E2 ++ [tC (neOf h14), .ret _ _ _ c27, .inl, .ret _ _ _ c31, .inl, .go 64, tT, tT, .get ([.lst .tight 1 [.int .u8 r28], .lst .tight 1 [.int .u8 139], .lst .no 1 [.int .u8 (128 + 8 * (dst % 8) + base % 8), .int .u8 36, .int .u8 (disp % 256), .int .u8 (disp / 256 % 256), .int .u8 (disp / 65536 % 256), .int .u8 (disp / 16777216 % 256)]]) 0 (.lst .tight 1 [.int .u8 r28]) rfl, .len 1 2147483648 (by decide), tT, tT, .get ([.lst .tight 1 [.int .u8 r28], .lst .tight 1 [.int .u8 139], .lst .no 1 [.int .u8 (128 + 8 * (dst % 8) + base % 8), .int .u8 36, .int .u8 (disp % 256), .int .u8 (disp / 256 % 256), .int .u8 (disp / 65536 % 256), .int .u8 (disp / 16777216 % 256)]]) 1 (.lst .tight 1 [.int .u8 139]) rfl, .len 2 2147483648 (by decide), tT, tT, .get ([.lst .tight 1 [.int .u8 r28], .lst .tight 1 [.int .u8 139], .lst .no 1 [.int .u8 (128 + 8 * (dst % 8) + base % 8), .int .u8 36, .int .u8 (disp % 256), .int .u8 (disp / 256 % 256), .int .u8 (disp / 65536 % 256), .int .u8 (disp / 16777216 % 256)]]) 2 (.lst .no 1 [.int .u8 (128 + 8 * (dst % 8) + base % 8), .int .u8 36, .int .u8 (disp % 256), .int .u8 (disp / 256 % 256), .int .u8 (disp / 65536 % 256), .int .u8 (disp / 16777216 % 256)]) rfl, .len 8 2147483648 (by decide), tF]) (by kernel_rfl)).to (by clear E1 E2; subst_vars; (try simp only [beq_dec] at *); (try simp only [beq_iff_eq] at h); (try simp only [decide_eq_true_eq, decide_eq_false_iff_not] at *); simp_all [wk, wkL, wkO, bytesM, show shapeM 26 = 7 from rfl, codeM, bD, rexM, memM, fourM, w_u8])
  have c32 := @mMem_n_ok dst base disp d0 d1 b0 b1 p0 p1 h30
  exact (o105 (d := .tup [.lst (.fresh 1) 1 [.int .u8 r28, .int .u8 139, .int .u8 (128 + 8 * (dst % 8) + base % 8), .int .u8 (disp % 256), .int .u8 (disp / 256 % 256), .int .u8 (disp / 65536 % 256), .int .u8 (disp / 16777216 % 256)], .int .i64 0]) (E2 ++ [tC (neOf h14), .ret _ _ _ c27, .inl, .ret _ _ _ c32, .inl, .go 64, tT, tT, .get ([.lst .tight 1 [.int .u8 r28], .lst .tight 1 [.int .u8 139], .lst .no 1 [.int .u8 (128 + 8 * (dst % 8) + base % 8), .int .u8 (disp % 256), .int .u8 (disp / 256 % 256), .int .u8 (disp / 65536 % 256), .int .u8 (disp / 16777216 % 256)]]) 0 (.lst .tight 1 [.int .u8 r28]) rfl, .len 1 2147483648 (by decide), tT, tT, .get ([.lst .tight 1 [.int .u8 r28], .lst .tight 1 [.int .u8 139], .lst .no 1 [.int .u8 (128 + 8 * (dst % 8) + base % 8), .int .u8 (disp % 256), .int .u8 (disp / 256 % 256), .int .u8 (disp / 65536 % 256), .int .u8 (disp / 16777216 % 256)]]) 1 (.lst .tight 1 [.int .u8 139]) rfl, .len 2 2147483648 (by decide), tT, tT, .get ([.lst .tight 1 [.int .u8 r28], .lst .tight 1 [.int .u8 139], .lst .no 1 [.int .u8 (128 + 8 * (dst % 8) + base % 8), .int .u8 (disp % 256), .int .u8 (disp / 256 % 256), .int .u8 (disp / 65536 % 256), .int .u8 (disp / 16777216 % 256)]]) 2 (.lst .no 1 [.int .u8 (128 + 8 * (dst % 8) + base % 8), .int .u8 (disp % 256), .int .u8 (disp / 256 % 256), .int .u8 (disp / 65536 % 256), .int .u8 (disp / 16777216 % 256)]) rfl, .len 7 2147483648 (by decide), tF]) (by kernel_rfl)).to (by clear E1 E2; subst_vars; (try simp only [beq_dec] at *); (try simp only [beq_iff_eq] at h); (try simp only [decide_eq_true_eq, decide_eq_false_iff_not] at *); simp_all [wk, wkL, wkO, bytesM, show shapeM 26 = 7 from rfl, codeM, bD, rexM, memM, fourM, w_u8])
 have c33 := @rex_no_ok dst base d0 d1 b0 b1 (w == 64) false h26
 rcases bft (decide (base % 8 = 4)) with h34 | h34
 ·have c35 := @mMem_4_ok dst base disp d0 d1 b0 b1 p0 p1 h34
  exact (o105 (d := .tup [.lst (.fresh 1) 1 [.int .u8 139, .int .u8 (128 + 8 * (dst % 8) + base % 8), .int .u8 36, .int .u8 (disp % 256), .int .u8 (disp / 256 % 256), .int .u8 (disp / 65536 % 256), .int .u8 (disp / 16777216 % 256)], .int .i64 0]) (E2 ++ [tC (neOf h14), .ret _ _ _ c33, .inl, .ret _ _ _ c35, .inl, .go 64, tT, tT, .get ([.lst .tight 1 [], .lst .tight 1 [.int .u8 139], .lst .no 1 [.int .u8 (128 + 8 * (dst % 8) + base % 8), .int .u8 36, .int .u8 (disp % 256), .int .u8 (disp / 256 % 256), .int .u8 (disp / 65536 % 256), .int .u8 (disp / 16777216 % 256)]]) 0 (.lst .tight 1 []) rfl, .len 0 2147483648 (by decide), tT, tT, .get ([.lst .tight 1 [], .lst .tight 1 [.int .u8 139], .lst .no 1 [.int .u8 (128 + 8 * (dst % 8) + base % 8), .int .u8 36, .int .u8 (disp % 256), .int .u8 (disp / 256 % 256), .int .u8 (disp / 65536 % 256), .int .u8 (disp / 16777216 % 256)]]) 1 (.lst .tight 1 [.int .u8 139]) rfl, .len 1 2147483648 (by decide), tT, tT, .get ([.lst .tight 1 [], .lst .tight 1 [.int .u8 139], .lst .no 1 [.int .u8 (128 + 8 * (dst % 8) + base % 8), .int .u8 36, .int .u8 (disp % 256), .int .u8 (disp / 256 % 256), .int .u8 (disp / 65536 % 256), .int .u8 (disp / 16777216 % 256)]]) 2 (.lst .no 1 [.int .u8 (128 + 8 * (dst % 8) + base % 8), .int .u8 36, .int .u8 (disp % 256), .int .u8 (disp / 256 % 256), .int .u8 (disp / 65536 % 256), .int .u8 (disp / 16777216 % 256)]) rfl, .len 7 2147483648 (by decide), tF]) (by kernel_rfl)).to (by clear E1 E2; subst_vars; (try simp only [beq_dec] at *); (try simp only [beq_iff_eq] at h); (try simp only [decide_eq_true_eq, decide_eq_false_iff_not] at *); simp_all [wk, wkL, wkO, bytesM, show shapeM 26 = 7 from rfl, codeM, bD, rexM, memM, fourM, w_u8])
 have c36 := @mMem_n_ok dst base disp d0 d1 b0 b1 p0 p1 h34
 exact (o105 (d := .tup [.lst (.fresh 1) 1 [.int .u8 139, .int .u8 (128 + 8 * (dst % 8) + base % 8), .int .u8 (disp % 256), .int .u8 (disp / 256 % 256), .int .u8 (disp / 65536 % 256), .int .u8 (disp / 16777216 % 256)], .int .i64 0]) (E2 ++ [tC (neOf h14), .ret _ _ _ c33, .inl, .ret _ _ _ c36, .inl, .go 64, tT, tT, .get ([.lst .tight 1 [], .lst .tight 1 [.int .u8 139], .lst .no 1 [.int .u8 (128 + 8 * (dst % 8) + base % 8), .int .u8 (disp % 256), .int .u8 (disp / 256 % 256), .int .u8 (disp / 65536 % 256), .int .u8 (disp / 16777216 % 256)]]) 0 (.lst .tight 1 []) rfl, .len 0 2147483648 (by decide), tT, tT, .get ([.lst .tight 1 [], .lst .tight 1 [.int .u8 139], .lst .no 1 [.int .u8 (128 + 8 * (dst % 8) + base % 8), .int .u8 (disp % 256), .int .u8 (disp / 256 % 256), .int .u8 (disp / 65536 % 256), .int .u8 (disp / 16777216 % 256)]]) 1 (.lst .tight 1 [.int .u8 139]) rfl, .len 1 2147483648 (by decide), tT, tT, .get ([.lst .tight 1 [], .lst .tight 1 [.int .u8 139], .lst .no 1 [.int .u8 (128 + 8 * (dst % 8) + base % 8), .int .u8 (disp % 256), .int .u8 (disp / 256 % 256), .int .u8 (disp / 65536 % 256), .int .u8 (disp / 16777216 % 256)]]) 2 (.lst .no 1 [.int .u8 (128 + 8 * (dst % 8) + base % 8), .int .u8 (disp % 256), .int .u8 (disp / 256 % 256), .int .u8 (disp / 65536 % 256), .int .u8 (disp / 16777216 % 256)]) rfl, .len 6 2147483648 (by decide), tF]) (by kernel_rfl)).to (by clear E1 E2; subst_vars; (try simp only [beq_dec] at *); (try simp only [beq_iff_eq] at h); (try simp only [decide_eq_true_eq, decide_eq_false_iff_not] at *); simp_all [wk, wkL, wkO, bytesM, show shapeM 26 = 7 from rfl, codeM, bD, rexM, memM, fourM, w_u8])
theorem bytesO_27_ok (w dst src base disp imm cc : Int) (d0 : 0 ≤ dst) (d1 : dst ≤ 15) (s0 : 0 ≤ src) (s1 : src ≤ 15) (b0 : 0 ≤ base) (b1 : base ≤ 15) (p0 : -2147483648 ≤ disp) (p1 : disp ≤ 2147483647) (i0 : -2147483648 ≤ imm) (i1 : imm ≤ 2147483647) (c0 : 0 ≤ cc) (c1 : cc ≤ 15) (hm : mayX 27 w dst src base disp imm cc = true) : Ret Tryz.prog 105 ([xD 27 w dst src base disp imm cc]) (.tup [.lst .no 1 (bD (bytesM 27 w dst src base disp imm cc)), .int .i64 0]) := by
 have c0 := @mayX_ok 27 w dst src base disp imm cc (by decide)
 rw [hm] at c0
 have c1 := @of_any_ok 27 (by decide)
 let E1 : EL := [.ret _ _ _ c0, tF, .ret _ _ _ c1, tF, tF, tF, tF, tF, tF, tF, tT]
 by_cases h2 : w = 8
 ·subst h2
  have c3 := @rex_yes_ok src base s0 s1 b0 b1 false true (rfl : true = true)
  generalize g5 : rexB false src base = r4 at c3
  rcases bft (decide (base % 8 = 4)) with h6 | h6
  ·have c7 := @mMem_4_ok src base disp s0 s1 b0 b1 p0 p1 h6
   exact (o105 (d := .tup [.lst (.fresh 1) 1 [.int .u8 r4, .int .u8 136, .int .u8 (128 + 8 * (src % 8) + base % 8), .int .u8 36, .int .u8 (disp % 256), .int .u8 (disp / 256 % 256), .int .u8 (disp / 65536 % 256), .int .u8 (disp / 16777216 % 256)], .int .i64 0]) (E1 ++ [tT, .ret _ _ _ c3, .inl, .ret _ _ _ c7, .inl, .go 64, tT, tT, .get ([.lst .tight 0 [], .lst .tight 1 [.int .u8 r4], .lst .tight 1 [.int .u8 136], .lst .no 1 [.int .u8 (128 + 8 * (src % 8) + base % 8), .int .u8 36, .int .u8 (disp % 256), .int .u8 (disp / 256 % 256), .int .u8 (disp / 65536 % 256), .int .u8 (disp / 16777216 % 256)]]) 0 (.lst .tight 0 []) rfl, .len 0 2147483648 (by decide), tT, tT, .get ([.lst .tight 0 [], .lst .tight 1 [.int .u8 r4], .lst .tight 1 [.int .u8 136], .lst .no 1 [.int .u8 (128 + 8 * (src % 8) + base % 8), .int .u8 36, .int .u8 (disp % 256), .int .u8 (disp / 256 % 256), .int .u8 (disp / 65536 % 256), .int .u8 (disp / 16777216 % 256)]]) 1 (.lst .tight 1 [.int .u8 r4]) rfl, .len 1 2147483648 (by decide), tT, tT, .get ([.lst .tight 0 [], .lst .tight 1 [.int .u8 r4], .lst .tight 1 [.int .u8 136], .lst .no 1 [.int .u8 (128 + 8 * (src % 8) + base % 8), .int .u8 36, .int .u8 (disp % 256), .int .u8 (disp / 256 % 256), .int .u8 (disp / 65536 % 256), .int .u8 (disp / 16777216 % 256)]]) 2 (.lst .tight 1 [.int .u8 136]) rfl, .len 2 2147483648 (by decide), tT, tT, .get ([.lst .tight 0 [], .lst .tight 1 [.int .u8 r4], .lst .tight 1 [.int .u8 136], .lst .no 1 [.int .u8 (128 + 8 * (src % 8) + base % 8), .int .u8 36, .int .u8 (disp % 256), .int .u8 (disp / 256 % 256), .int .u8 (disp / 65536 % 256), .int .u8 (disp / 16777216 % 256)]]) 3 (.lst .no 1 [.int .u8 (128 + 8 * (src % 8) + base % 8), .int .u8 36, .int .u8 (disp % 256), .int .u8 (disp / 256 % 256), .int .u8 (disp / 65536 % 256), .int .u8 (disp / 16777216 % 256)]) rfl, .len 8 2147483648 (by decide), tF]) (by kernel_rfl)).to (by clear E1; (subst_vars; (try simp only [beq_dec] at *); (try simp only [beq_iff_eq] at h); (try simp only [decide_eq_true_eq, decide_eq_false_iff_not] at *); simp_all [wk, wkL, wkO, bytesM, bD, rexM, memM, fourM, w_u8, needM, codeM, numM, shapeM]; done))
  have c8 := @mMem_n_ok src base disp s0 s1 b0 b1 p0 p1 h6
  exact (o105 (d := .tup [.lst (.fresh 1) 1 [.int .u8 r4, .int .u8 136, .int .u8 (128 + 8 * (src % 8) + base % 8), .int .u8 (disp % 256), .int .u8 (disp / 256 % 256), .int .u8 (disp / 65536 % 256), .int .u8 (disp / 16777216 % 256)], .int .i64 0]) (E1 ++ [tT, .ret _ _ _ c3, .inl, .ret _ _ _ c8, .inl, .go 64, tT, tT, .get ([.lst .tight 0 [], .lst .tight 1 [.int .u8 r4], .lst .tight 1 [.int .u8 136], .lst .no 1 [.int .u8 (128 + 8 * (src % 8) + base % 8), .int .u8 (disp % 256), .int .u8 (disp / 256 % 256), .int .u8 (disp / 65536 % 256), .int .u8 (disp / 16777216 % 256)]]) 0 (.lst .tight 0 []) rfl, .len 0 2147483648 (by decide), tT, tT, .get ([.lst .tight 0 [], .lst .tight 1 [.int .u8 r4], .lst .tight 1 [.int .u8 136], .lst .no 1 [.int .u8 (128 + 8 * (src % 8) + base % 8), .int .u8 (disp % 256), .int .u8 (disp / 256 % 256), .int .u8 (disp / 65536 % 256), .int .u8 (disp / 16777216 % 256)]]) 1 (.lst .tight 1 [.int .u8 r4]) rfl, .len 1 2147483648 (by decide), tT, tT, .get ([.lst .tight 0 [], .lst .tight 1 [.int .u8 r4], .lst .tight 1 [.int .u8 136], .lst .no 1 [.int .u8 (128 + 8 * (src % 8) + base % 8), .int .u8 (disp % 256), .int .u8 (disp / 256 % 256), .int .u8 (disp / 65536 % 256), .int .u8 (disp / 16777216 % 256)]]) 2 (.lst .tight 1 [.int .u8 136]) rfl, .len 2 2147483648 (by decide), tT, tT, .get ([.lst .tight 0 [], .lst .tight 1 [.int .u8 r4], .lst .tight 1 [.int .u8 136], .lst .no 1 [.int .u8 (128 + 8 * (src % 8) + base % 8), .int .u8 (disp % 256), .int .u8 (disp / 256 % 256), .int .u8 (disp / 65536 % 256), .int .u8 (disp / 16777216 % 256)]]) 3 (.lst .no 1 [.int .u8 (128 + 8 * (src % 8) + base % 8), .int .u8 (disp % 256), .int .u8 (disp / 256 % 256), .int .u8 (disp / 65536 % 256), .int .u8 (disp / 16777216 % 256)]) rfl, .len 7 2147483648 (by decide), tF]) (by kernel_rfl)).to (by clear E1; (subst_vars; (try simp only [beq_dec] at *); (try simp only [beq_iff_eq] at h); (try simp only [decide_eq_true_eq, decide_eq_false_iff_not] at *); simp_all [wk, wkL, wkO, bytesM, bD, rexM, memM, fourM, w_u8, needM, codeM, numM, shapeM]; done))
 let E2 : EL := E1 ++ [tC (neOf h2)]
 by_cases h9 : w = 16
 ·subst h9
  rcases bft (needM false src base false) with h10 | h10
  ·have c11 := @rex_yes_ok src base s0 s1 b0 b1 false false h10
   generalize g13 : rexB false src base = r12 at c11
   rcases bft (decide (base % 8 = 4)) with h14 | h14
   ·have c15 := @mMem_4_ok src base disp s0 s1 b0 b1 p0 p1 h14
    exact (o105 (d := .tup [.lst (.fresh 1) 1 [.int .u8 102, .int .u8 r12, .int .u8 137, .int .u8 (128 + 8 * (src % 8) + base % 8), .int .u8 36, .int .u8 (disp % 256), .int .u8 (disp / 256 % 256), .int .u8 (disp / 65536 % 256), .int .u8 (disp / 16777216 % 256)], .int .i64 0]) (E2 ++ [tT, .ret _ _ _ c11, .inl, .ret _ _ _ c15, .inl, .go 64, tT, tT, .get ([.lst .tight 1 [.int .u8 102], .lst .tight 1 [.int .u8 r12], .lst .tight 1 [.int .u8 137], .lst .no 1 [.int .u8 (128 + 8 * (src % 8) + base % 8), .int .u8 36, .int .u8 (disp % 256), .int .u8 (disp / 256 % 256), .int .u8 (disp / 65536 % 256), .int .u8 (disp / 16777216 % 256)]]) 0 (.lst .tight 1 [.int .u8 102]) rfl, .len 1 2147483648 (by decide), tT, tT, .get ([.lst .tight 1 [.int .u8 102], .lst .tight 1 [.int .u8 r12], .lst .tight 1 [.int .u8 137], .lst .no 1 [.int .u8 (128 + 8 * (src % 8) + base % 8), .int .u8 36, .int .u8 (disp % 256), .int .u8 (disp / 256 % 256), .int .u8 (disp / 65536 % 256), .int .u8 (disp / 16777216 % 256)]]) 1 (.lst .tight 1 [.int .u8 r12]) rfl, .len 2 2147483648 (by decide), tT, tT, .get ([.lst .tight 1 [.int .u8 102], .lst .tight 1 [.int .u8 r12], .lst .tight 1 [.int .u8 137], .lst .no 1 [.int .u8 (128 + 8 * (src % 8) + base % 8), .int .u8 36, .int .u8 (disp % 256), .int .u8 (disp / 256 % 256), .int .u8 (disp / 65536 % 256), .int .u8 (disp / 16777216 % 256)]]) 2 (.lst .tight 1 [.int .u8 137]) rfl, .len 3 2147483648 (by decide), tT, tT, .get ([.lst .tight 1 [.int .u8 102], .lst .tight 1 [.int .u8 r12], .lst .tight 1 [.int .u8 137], .lst .no 1 [.int .u8 (128 + 8 * (src % 8) + base % 8), .int .u8 36, .int .u8 (disp % 256), .int .u8 (disp / 256 % 256), .int .u8 (disp / 65536 % 256), .int .u8 (disp / 16777216 % 256)]]) 3 (.lst .no 1 [.int .u8 (128 + 8 * (src % 8) + base % 8), .int .u8 36, .int .u8 (disp % 256), .int .u8 (disp / 256 % 256), .int .u8 (disp / 65536 % 256), .int .u8 (disp / 16777216 % 256)]) rfl, .len 9 2147483648 (by decide), tF]) (by kernel_rfl)).to (by clear E1 E2; (subst_vars; (try simp only [beq_dec] at *); (try simp only [beq_iff_eq] at h); (try simp only [decide_eq_true_eq, decide_eq_false_iff_not] at *); simp_all [wk, wkL, wkO, bytesM, bD, rexM, memM, fourM, w_u8, needM, codeM, numM, shapeM]; done))
   have c16 := @mMem_n_ok src base disp s0 s1 b0 b1 p0 p1 h14
   exact (o105 (d := .tup [.lst (.fresh 1) 1 [.int .u8 102, .int .u8 r12, .int .u8 137, .int .u8 (128 + 8 * (src % 8) + base % 8), .int .u8 (disp % 256), .int .u8 (disp / 256 % 256), .int .u8 (disp / 65536 % 256), .int .u8 (disp / 16777216 % 256)], .int .i64 0]) (E2 ++ [tT, .ret _ _ _ c11, .inl, .ret _ _ _ c16, .inl, .go 64, tT, tT, .get ([.lst .tight 1 [.int .u8 102], .lst .tight 1 [.int .u8 r12], .lst .tight 1 [.int .u8 137], .lst .no 1 [.int .u8 (128 + 8 * (src % 8) + base % 8), .int .u8 (disp % 256), .int .u8 (disp / 256 % 256), .int .u8 (disp / 65536 % 256), .int .u8 (disp / 16777216 % 256)]]) 0 (.lst .tight 1 [.int .u8 102]) rfl, .len 1 2147483648 (by decide), tT, tT, .get ([.lst .tight 1 [.int .u8 102], .lst .tight 1 [.int .u8 r12], .lst .tight 1 [.int .u8 137], .lst .no 1 [.int .u8 (128 + 8 * (src % 8) + base % 8), .int .u8 (disp % 256), .int .u8 (disp / 256 % 256), .int .u8 (disp / 65536 % 256), .int .u8 (disp / 16777216 % 256)]]) 1 (.lst .tight 1 [.int .u8 r12]) rfl, .len 2 2147483648 (by decide), tT, tT, .get ([.lst .tight 1 [.int .u8 102], .lst .tight 1 [.int .u8 r12], .lst .tight 1 [.int .u8 137], .lst .no 1 [.int .u8 (128 + 8 * (src % 8) + base % 8), .int .u8 (disp % 256), .int .u8 (disp / 256 % 256), .int .u8 (disp / 65536 % 256), .int .u8 (disp / 16777216 % 256)]]) 2 (.lst .tight 1 [.int .u8 137]) rfl, .len 3 2147483648 (by decide), tT, tT, .get ([.lst .tight 1 [.int .u8 102], .lst .tight 1 [.int .u8 r12], .lst .tight 1 [.int .u8 137], .lst .no 1 [.int .u8 (128 + 8 * (src % 8) + base % 8), .int .u8 (disp % 256), .int .u8 (disp / 256 % 256), .int .u8 (disp / 65536 % 256), .int .u8 (disp / 16777216 % 256)]]) 3 (.lst .no 1 [.int .u8 (128 + 8 * (src % 8) + base % 8), .int .u8 (disp % 256), .int .u8 (disp / 256 % 256), .int .u8 (disp / 65536 % 256), .int .u8 (disp / 16777216 % 256)]) rfl, .len 8 2147483648 (by decide), tF]) (by kernel_rfl)).to (by clear E1 E2; (subst_vars; (try simp only [beq_dec] at *); (try simp only [beq_iff_eq] at h); (try simp only [decide_eq_true_eq, decide_eq_false_iff_not] at *); simp_all [wk, wkL, wkO, bytesM, bD, rexM, memM, fourM, w_u8, needM, codeM, numM, shapeM]; done))
  have c17 := @rex_no_ok src base s0 s1 b0 b1 false false h10
  rcases bft (decide (base % 8 = 4)) with h18 | h18
  ·have c19 := @mMem_4_ok src base disp s0 s1 b0 b1 p0 p1 h18
   exact (o105 (d := .tup [.lst (.fresh 1) 1 [.int .u8 102, .int .u8 137, .int .u8 (128 + 8 * (src % 8) + base % 8), .int .u8 36, .int .u8 (disp % 256), .int .u8 (disp / 256 % 256), .int .u8 (disp / 65536 % 256), .int .u8 (disp / 16777216 % 256)], .int .i64 0]) (E2 ++ [tT, .ret _ _ _ c17, .inl, .ret _ _ _ c19, .inl, .go 64, tT, tT, .get ([.lst .tight 1 [.int .u8 102], .lst .tight 1 [], .lst .tight 1 [.int .u8 137], .lst .no 1 [.int .u8 (128 + 8 * (src % 8) + base % 8), .int .u8 36, .int .u8 (disp % 256), .int .u8 (disp / 256 % 256), .int .u8 (disp / 65536 % 256), .int .u8 (disp / 16777216 % 256)]]) 0 (.lst .tight 1 [.int .u8 102]) rfl, .len 1 2147483648 (by decide), tT, tT, .get ([.lst .tight 1 [.int .u8 102], .lst .tight 1 [], .lst .tight 1 [.int .u8 137], .lst .no 1 [.int .u8 (128 + 8 * (src % 8) + base % 8), .int .u8 36, .int .u8 (disp % 256), .int .u8 (disp / 256 % 256), .int .u8 (disp / 65536 % 256), .int .u8 (disp / 16777216 % 256)]]) 1 (.lst .tight 1 []) rfl, .len 1 2147483648 (by decide), tT, tT, .get ([.lst .tight 1 [.int .u8 102], .lst .tight 1 [], .lst .tight 1 [.int .u8 137], .lst .no 1 [.int .u8 (128 + 8 * (src % 8) + base % 8), .int .u8 36, .int .u8 (disp % 256), .int .u8 (disp / 256 % 256), .int .u8 (disp / 65536 % 256), .int .u8 (disp / 16777216 % 256)]]) 2 (.lst .tight 1 [.int .u8 137]) rfl, .len 2 2147483648 (by decide), tT, tT, .get ([.lst .tight 1 [.int .u8 102], .lst .tight 1 [], .lst .tight 1 [.int .u8 137], .lst .no 1 [.int .u8 (128 + 8 * (src % 8) + base % 8), .int .u8 36, .int .u8 (disp % 256), .int .u8 (disp / 256 % 256), .int .u8 (disp / 65536 % 256), .int .u8 (disp / 16777216 % 256)]]) 3 (.lst .no 1 [.int .u8 (128 + 8 * (src % 8) + base % 8), .int .u8 36, .int .u8 (disp % 256), .int .u8 (disp / 256 % 256), .int .u8 (disp / 65536 % 256), .int .u8 (disp / 16777216 % 256)]) rfl, .len 8 2147483648 (by decide), tF]) (by kernel_rfl)).to (by clear E1 E2; (subst_vars; (try simp only [beq_dec] at *); (try simp only [beq_iff_eq] at h); (try simp only [decide_eq_true_eq, decide_eq_false_iff_not] at *); simp_all [wk, wkL, wkO, bytesM, bD, rexM, memM, fourM, w_u8, needM, codeM, numM, shapeM]; done))
  have c20 := @mMem_n_ok src base disp s0 s1 b0 b1 p0 p1 h18
  exact (o105 (d := .tup [.lst (.fresh 1) 1 [.int .u8 102, .int .u8 137, .int .u8 (128 + 8 * (src % 8) + base % 8), .int .u8 (disp % 256), .int .u8 (disp / 256 % 256), .int .u8 (disp / 65536 % 256), .int .u8 (disp / 16777216 % 256)], .int .i64 0]) (E2 ++ [tT, .ret _ _ _ c17, .inl, .ret _ _ _ c20, .inl, .go 64, tT, tT, .get ([.lst .tight 1 [.int .u8 102], .lst .tight 1 [], .lst .tight 1 [.int .u8 137], .lst .no 1 [.int .u8 (128 + 8 * (src % 8) + base % 8), .int .u8 (disp % 256), .int .u8 (disp / 256 % 256), .int .u8 (disp / 65536 % 256), .int .u8 (disp / 16777216 % 256)]]) 0 (.lst .tight 1 [.int .u8 102]) rfl, .len 1 2147483648 (by decide), tT, tT, .get ([.lst .tight 1 [.int .u8 102], .lst .tight 1 [], .lst .tight 1 [.int .u8 137], .lst .no 1 [.int .u8 (128 + 8 * (src % 8) + base % 8), .int .u8 (disp % 256), .int .u8 (disp / 256 % 256), .int .u8 (disp / 65536 % 256), .int .u8 (disp / 16777216 % 256)]]) 1 (.lst .tight 1 []) rfl, .len 1 2147483648 (by decide), tT, tT, .get ([.lst .tight 1 [.int .u8 102], .lst .tight 1 [], .lst .tight 1 [.int .u8 137], .lst .no 1 [.int .u8 (128 + 8 * (src % 8) + base % 8), .int .u8 (disp % 256), .int .u8 (disp / 256 % 256), .int .u8 (disp / 65536 % 256), .int .u8 (disp / 16777216 % 256)]]) 2 (.lst .tight 1 [.int .u8 137]) rfl, .len 2 2147483648 (by decide), tT, tT, .get ([.lst .tight 1 [.int .u8 102], .lst .tight 1 [], .lst .tight 1 [.int .u8 137], .lst .no 1 [.int .u8 (128 + 8 * (src % 8) + base % 8), .int .u8 (disp % 256), .int .u8 (disp / 256 % 256), .int .u8 (disp / 65536 % 256), .int .u8 (disp / 16777216 % 256)]]) 3 (.lst .no 1 [.int .u8 (128 + 8 * (src % 8) + base % 8), .int .u8 (disp % 256), .int .u8 (disp / 256 % 256), .int .u8 (disp / 65536 % 256), .int .u8 (disp / 16777216 % 256)]) rfl, .len 7 2147483648 (by decide), tF]) (by kernel_rfl)).to (by clear E1 E2; (subst_vars; (try simp only [beq_dec] at *); (try simp only [beq_iff_eq] at h); (try simp only [decide_eq_true_eq, decide_eq_false_iff_not] at *); simp_all [wk, wkL, wkO, bytesM, bD, rexM, memM, fourM, w_u8, needM, codeM, numM, shapeM]; done))
 rcases bft (needM (w == 64) src base (w == 8)) with h21 | h21
 ·have c22 := @rex_yes_ok src base s0 s1 b0 b1 (w == 64) (w == 8) h21
  generalize g24 : rexB (w == 64) src base = r23 at c22
  rcases bft (decide (base % 8 = 4)) with h25 | h25
  ·have c26 := @mMem_4_ok src base disp s0 s1 b0 b1 p0 p1 h25
   exact (o105 (d := .tup [.lst (.fresh 1) 1 [.int .u8 r23, .int .u8 137, .int .u8 (128 + 8 * (src % 8) + base % 8), .int .u8 36, .int .u8 (disp % 256), .int .u8 (disp / 256 % 256), .int .u8 (disp / 65536 % 256), .int .u8 (disp / 16777216 % 256)], .int .i64 0]) (E2 ++ [tC (neOf h9), .ret _ _ _ c22, .inl, .ret _ _ _ c26, .inl, .go 64, tT, tT, .get ([.lst .tight 0 [], .lst .tight 1 [.int .u8 r23], .lst .tight 1 [.int .u8 137], .lst .no 1 [.int .u8 (128 + 8 * (src % 8) + base % 8), .int .u8 36, .int .u8 (disp % 256), .int .u8 (disp / 256 % 256), .int .u8 (disp / 65536 % 256), .int .u8 (disp / 16777216 % 256)]]) 0 (.lst .tight 0 []) rfl, .len 0 2147483648 (by decide), tT, tT, .get ([.lst .tight 0 [], .lst .tight 1 [.int .u8 r23], .lst .tight 1 [.int .u8 137], .lst .no 1 [.int .u8 (128 + 8 * (src % 8) + base % 8), .int .u8 36, .int .u8 (disp % 256), .int .u8 (disp / 256 % 256), .int .u8 (disp / 65536 % 256), .int .u8 (disp / 16777216 % 256)]]) 1 (.lst .tight 1 [.int .u8 r23]) rfl, .len 1 2147483648 (by decide), tT, tT, .get ([.lst .tight 0 [], .lst .tight 1 [.int .u8 r23], .lst .tight 1 [.int .u8 137], .lst .no 1 [.int .u8 (128 + 8 * (src % 8) + base % 8), .int .u8 36, .int .u8 (disp % 256), .int .u8 (disp / 256 % 256), .int .u8 (disp / 65536 % 256), .int .u8 (disp / 16777216 % 256)]]) 2 (.lst .tight 1 [.int .u8 137]) rfl, .len 2 2147483648 (by decide), tT, tT, .get ([.lst .tight 0 [], .lst .tight 1 [.int .u8 r23], .lst .tight 1 [.int .u8 137], .lst .no 1 [.int .u8 (128 + 8 * (src % 8) + base % 8), .int .u8 36, .int .u8 (disp % 256), .int .u8 (disp / 256 % 256), .int .u8 (disp / 65536 % 256), .int .u8 (disp / 16777216 % 256)]]) 3 (.lst .no 1 [.int .u8 (128 + 8 * (src % 8) + base % 8), .int .u8 36, .int .u8 (disp % 256), .int .u8 (disp / 256 % 256), .int .u8 (disp / 65536 % 256), .int .u8 (disp / 16777216 % 256)]) rfl, .len 8 2147483648 (by decide), tF]) (by kernel_rfl)).to (by clear E1 E2; (subst_vars; (try simp only [beq_dec] at *); (try simp only [beq_iff_eq] at h); (try simp only [decide_eq_true_eq, decide_eq_false_iff_not] at *); simp_all [wk, wkL, wkO, bytesM, bD, rexM, memM, fourM, w_u8, needM, codeM, numM, shapeM]; done))
  have c27 := @mMem_n_ok src base disp s0 s1 b0 b1 p0 p1 h25
  exact (o105 (d := .tup [.lst (.fresh 1) 1 [.int .u8 r23, .int .u8 137, .int .u8 (128 + 8 * (src % 8) + base % 8), .int .u8 (disp % 256), .int .u8 (disp / 256 % 256), .int .u8 (disp / 65536 % 256), .int .u8 (disp / 16777216 % 256)], .int .i64 0]) (E2 ++ [tC (neOf h9), .ret _ _ _ c22, .inl, .ret _ _ _ c27, .inl, .go 64, tT, tT, .get ([.lst .tight 0 [], .lst .tight 1 [.int .u8 r23], .lst .tight 1 [.int .u8 137], .lst .no 1 [.int .u8 (128 + 8 * (src % 8) + base % 8), .int .u8 (disp % 256), .int .u8 (disp / 256 % 256), .int .u8 (disp / 65536 % 256), .int .u8 (disp / 16777216 % 256)]]) 0 (.lst .tight 0 []) rfl, .len 0 2147483648 (by decide), tT, tT, .get ([.lst .tight 0 [], .lst .tight 1 [.int .u8 r23], .lst .tight 1 [.int .u8 137], .lst .no 1 [.int .u8 (128 + 8 * (src % 8) + base % 8), .int .u8 (disp % 256), .int .u8 (disp / 256 % 256), .int .u8 (disp / 65536 % 256), .int .u8 (disp / 16777216 % 256)]]) 1 (.lst .tight 1 [.int .u8 r23]) rfl, .len 1 2147483648 (by decide), tT, tT, .get ([.lst .tight 0 [], .lst .tight 1 [.int .u8 r23], .lst .tight 1 [.int .u8 137], .lst .no 1 [.int .u8 (128 + 8 * (src % 8) + base % 8), .int .u8 (disp % 256), .int .u8 (disp / 256 % 256), .int .u8 (disp / 65536 % 256), .int .u8 (disp / 16777216 % 256)]]) 2 (.lst .tight 1 [.int .u8 137]) rfl, .len 2 2147483648 (by decide), tT, tT, .get ([.lst .tight 0 [], .lst .tight 1 [.int .u8 r23], .lst .tight 1 [.int .u8 137], .lst .no 1 [.int .u8 (128 + 8 * (src % 8) + base % 8), .int .u8 (disp % 256), .int .u8 (disp / 256 % 256), .int .u8 (disp / 65536 % 256), .int .u8 (disp / 16777216 % 256)]]) 3 (.lst .no 1 [.int .u8 (128 + 8 * (src % 8) + base % 8), .int .u8 (disp % 256), .int .u8 (disp / 256 % 256), .int .u8 (disp / 65536 % 256), .int .u8 (disp / 16777216 % 256)]) rfl, .len 7 2147483648 (by decide), tF]) (by kernel_rfl)).to (by clear E1 E2; (subst_vars; (try simp only [beq_dec] at *); (try simp only [beq_iff_eq] at h); (try simp only [decide_eq_true_eq, decide_eq_false_iff_not] at *); simp_all [wk, wkL, wkO, bytesM, bD, rexM, memM, fourM, w_u8, needM, codeM, numM, shapeM]; done))
 have c28 := @rex_no_ok src base s0 s1 b0 b1 (w == 64) (w == 8) h21
 rcases bft (decide (base % 8 = 4)) with h29 | h29
 ·have c30 := @mMem_4_ok src base disp s0 s1 b0 b1 p0 p1 h29
  exact (o105 (d := .tup [.lst (.fresh 1) 1 [.int .u8 137, .int .u8 (128 + 8 * (src % 8) + base % 8), .int .u8 36, .int .u8 (disp % 256), .int .u8 (disp / 256 % 256), .int .u8 (disp / 65536 % 256), .int .u8 (disp / 16777216 % 256)], .int .i64 0]) (E2 ++ [tC (neOf h9), .ret _ _ _ c28, .inl, .ret _ _ _ c30, .inl, .go 64, tT, tT, .get ([.lst .tight 0 [], .lst .tight 1 [], .lst .tight 1 [.int .u8 137], .lst .no 1 [.int .u8 (128 + 8 * (src % 8) + base % 8), .int .u8 36, .int .u8 (disp % 256), .int .u8 (disp / 256 % 256), .int .u8 (disp / 65536 % 256), .int .u8 (disp / 16777216 % 256)]]) 0 (.lst .tight 0 []) rfl, .len 0 2147483648 (by decide), tT, tT, .get ([.lst .tight 0 [], .lst .tight 1 [], .lst .tight 1 [.int .u8 137], .lst .no 1 [.int .u8 (128 + 8 * (src % 8) + base % 8), .int .u8 36, .int .u8 (disp % 256), .int .u8 (disp / 256 % 256), .int .u8 (disp / 65536 % 256), .int .u8 (disp / 16777216 % 256)]]) 1 (.lst .tight 1 []) rfl, .len 0 2147483648 (by decide), tT, tT, .get ([.lst .tight 0 [], .lst .tight 1 [], .lst .tight 1 [.int .u8 137], .lst .no 1 [.int .u8 (128 + 8 * (src % 8) + base % 8), .int .u8 36, .int .u8 (disp % 256), .int .u8 (disp / 256 % 256), .int .u8 (disp / 65536 % 256), .int .u8 (disp / 16777216 % 256)]]) 2 (.lst .tight 1 [.int .u8 137]) rfl, .len 1 2147483648 (by decide), tT, tT, .get ([.lst .tight 0 [], .lst .tight 1 [], .lst .tight 1 [.int .u8 137], .lst .no 1 [.int .u8 (128 + 8 * (src % 8) + base % 8), .int .u8 36, .int .u8 (disp % 256), .int .u8 (disp / 256 % 256), .int .u8 (disp / 65536 % 256), .int .u8 (disp / 16777216 % 256)]]) 3 (.lst .no 1 [.int .u8 (128 + 8 * (src % 8) + base % 8), .int .u8 36, .int .u8 (disp % 256), .int .u8 (disp / 256 % 256), .int .u8 (disp / 65536 % 256), .int .u8 (disp / 16777216 % 256)]) rfl, .len 7 2147483648 (by decide), tF]) (by kernel_rfl)).to (by clear E1 E2; (subst_vars; (try simp only [beq_dec] at *); (try simp only [beq_iff_eq] at h); (try simp only [decide_eq_true_eq, decide_eq_false_iff_not] at *); simp_all [wk, wkL, wkO, bytesM, bD, rexM, memM, fourM, w_u8, needM, codeM, numM, shapeM]; done))
 have c31 := @mMem_n_ok src base disp s0 s1 b0 b1 p0 p1 h29
 exact (o105 (d := .tup [.lst (.fresh 1) 1 [.int .u8 137, .int .u8 (128 + 8 * (src % 8) + base % 8), .int .u8 (disp % 256), .int .u8 (disp / 256 % 256), .int .u8 (disp / 65536 % 256), .int .u8 (disp / 16777216 % 256)], .int .i64 0]) (E2 ++ [tC (neOf h9), .ret _ _ _ c28, .inl, .ret _ _ _ c31, .inl, .go 64, tT, tT, .get ([.lst .tight 0 [], .lst .tight 1 [], .lst .tight 1 [.int .u8 137], .lst .no 1 [.int .u8 (128 + 8 * (src % 8) + base % 8), .int .u8 (disp % 256), .int .u8 (disp / 256 % 256), .int .u8 (disp / 65536 % 256), .int .u8 (disp / 16777216 % 256)]]) 0 (.lst .tight 0 []) rfl, .len 0 2147483648 (by decide), tT, tT, .get ([.lst .tight 0 [], .lst .tight 1 [], .lst .tight 1 [.int .u8 137], .lst .no 1 [.int .u8 (128 + 8 * (src % 8) + base % 8), .int .u8 (disp % 256), .int .u8 (disp / 256 % 256), .int .u8 (disp / 65536 % 256), .int .u8 (disp / 16777216 % 256)]]) 1 (.lst .tight 1 []) rfl, .len 0 2147483648 (by decide), tT, tT, .get ([.lst .tight 0 [], .lst .tight 1 [], .lst .tight 1 [.int .u8 137], .lst .no 1 [.int .u8 (128 + 8 * (src % 8) + base % 8), .int .u8 (disp % 256), .int .u8 (disp / 256 % 256), .int .u8 (disp / 65536 % 256), .int .u8 (disp / 16777216 % 256)]]) 2 (.lst .tight 1 [.int .u8 137]) rfl, .len 1 2147483648 (by decide), tT, tT, .get ([.lst .tight 0 [], .lst .tight 1 [], .lst .tight 1 [.int .u8 137], .lst .no 1 [.int .u8 (128 + 8 * (src % 8) + base % 8), .int .u8 (disp % 256), .int .u8 (disp / 256 % 256), .int .u8 (disp / 65536 % 256), .int .u8 (disp / 16777216 % 256)]]) 3 (.lst .no 1 [.int .u8 (128 + 8 * (src % 8) + base % 8), .int .u8 (disp % 256), .int .u8 (disp / 256 % 256), .int .u8 (disp / 65536 % 256), .int .u8 (disp / 16777216 % 256)]) rfl, .len 6 2147483648 (by decide), tF]) (by kernel_rfl)).to (by clear E1 E2; (subst_vars; (try simp only [beq_dec] at *); (try simp only [beq_iff_eq] at h); (try simp only [decide_eq_true_eq, decide_eq_false_iff_not] at *); simp_all [wk, wkL, wkO, bytesM, bD, rexM, memM, fourM, w_u8, needM, codeM, numM, shapeM]; done))
def SpXB2e0 (k0_ : Int) : Prop := ∀ (w dst src base disp imm cc : Int) (d0 : 0 ≤ dst) (d1 : dst ≤ 15) (s0 : 0 ≤ src) (s1 : src ≤ 15) (b0 : 0 ≤ base) (b1 : base ≤ 15) (p0 : -2147483648 ≤ disp) (p1 : disp ≤ 2147483647) (i0 : -2147483648 ≤ imm) (i1 : imm ≤ 2147483647) (c0 : 0 ≤ cc) (c1 : cc ≤ 15) (hm : mayX k0_ w dst src base disp imm cc = true), Ret Tryz.prog 105 ([xD k0_ w dst src base disp imm cc]) (.tup [.lst .no 1 (bD (bytesM k0_ w dst src base disp imm cc)), .int .i64 0])
theorem bytesO_28_ok : SpXB2e0 28 := by
 intro w dst src base disp imm cc d0 d1 s0 s1 b0 b1 p0 p1 i0 i1 c0 c1 hm
 have c0 := @mayX_ok 28 w dst src base disp imm cc (by decide)
 rw [show (mayX 28 w dst src base disp imm cc) = true from hm] at c0
 have c1 := @of_any_ok 28 (by decide)
 by_cases h2 : w = 8
 ·subst h2
  exact (o105 (d := .tup [.lst .tight 1 [.int .u8 235, .int .u8 (IntKind.wrap IntKind.u8 imm)], .int .i64 0]) ([.ret _ _ _ c0, tF, .ret _ _ _ c1] ++ List.replicate 8 tF ++ [tT, tT]) (by kernel_rfl)).to (by (subst_vars; (try simp only [beq_dec] at *); (try simp only [beq_iff_eq] at h); (try simp only [decide_eq_true_eq, decide_eq_false_iff_not] at *); simp_all [wk, wkL, wkO, bytesM, show shapeM 28 = 9 from rfl, bD, rexM, memM, fourM, w_u8]; done))
 have c3 := @four_ok imm
 exact (o105 (d := .tup [.lst (.fresh 1) 1 [.int .u8 233, .int .u8 (imm % 256), .int .u8 (imm / 256 % 256), .int .u8 (imm / 65536 % 256), .int .u8 (imm / 16777216 % 256)], .int .i64 0]) ([.ret _ _ _ c0, tF, .ret _ _ _ c1] ++ List.replicate 8 tF ++ [tT, tC (neOf h2), .ret _ _ _ c3, .inl, .go 64, tT, tT, .get ([.lst .tight 1 [.int .u8 233], .lst .no 1 [.int .u8 (imm % 256), .int .u8 (imm / 256 % 256), .int .u8 (imm / 65536 % 256), .int .u8 (imm / 16777216 % 256)]]) 0 (.lst .tight 1 [.int .u8 233]) rfl, .len 1 2147483648 (by decide), tT, tT, .get ([.lst .tight 1 [.int .u8 233], .lst .no 1 [.int .u8 (imm % 256), .int .u8 (imm / 256 % 256), .int .u8 (imm / 65536 % 256), .int .u8 (imm / 16777216 % 256)]]) 1 (.lst .no 1 [.int .u8 (imm % 256), .int .u8 (imm / 256 % 256), .int .u8 (imm / 65536 % 256), .int .u8 (imm / 16777216 % 256)]) rfl, .len 5 2147483648 (by decide), tF]) (by kernel_rfl)).to (by (subst_vars; (try simp only [beq_dec] at *); (try simp only [beq_iff_eq] at h); (try simp only [decide_eq_true_eq, decide_eq_false_iff_not] at *); simp_all [wk, wkL, wkO, bytesM, show shapeM 28 = 9 from rfl, bD, rexM, memM, fourM, w_u8]; done))
theorem bytesO_29_ok : SpXB2e0 29 := by
 intro w dst src base disp imm cc d0 d1 s0 s1 b0 b1 p0 p1 i0 i1 c0 c1 hm
 have c0 := @mayX_ok 29 w dst src base disp imm cc (by decide)
 rw [show (mayX 29 w dst src base disp imm cc) = true from hm] at c0
 have c1 := @of_any_ok 29 (by decide)
 by_cases h2 : w = 8
 ·subst h2
  exact (o105 (d := .tup [.lst .tight 1 [.int .u8 (IntKind.wrap IntKind.u8 (112 + IntKind.wrap IntKind.u8 cc)), .int .u8 (IntKind.wrap IntKind.u8 imm)], .int .i64 0]) ([.ret _ _ _ c0, tF, .ret _ _ _ c1] ++ List.replicate 9 tF ++ [tT, tT]) (by kernel_rfl)).to (by (subst_vars; (try simp only [beq_dec] at *); (try simp only [beq_iff_eq] at h); (try simp only [decide_eq_true_eq, decide_eq_false_iff_not] at *); simp_all [wk, wkL, wkO, bytesM, show shapeM 29 = 10 from rfl, bD, rexM, memM, fourM, w_u8]; omega))
 have c3 := @four_ok imm
 exact (o105 (d := .tup [.lst (.fresh 1) 1 [.int .u8 15, .int .u8 (IntKind.wrap IntKind.u8 (128 + IntKind.wrap IntKind.u8 cc)), .int .u8 (imm % 256), .int .u8 (imm / 256 % 256), .int .u8 (imm / 65536 % 256), .int .u8 (imm / 16777216 % 256)], .int .i64 0]) ([.ret _ _ _ c0, tF, .ret _ _ _ c1] ++ List.replicate 9 tF ++ [tT, tC (neOf h2), .ret _ _ _ c3, .inl, .go 64, tT, tT, .get ([.lst .tight 1 [.int .u8 15, .int .u8 (IntKind.wrap IntKind.u8 (128 + IntKind.wrap IntKind.u8 cc))], .lst .no 1 [.int .u8 (imm % 256), .int .u8 (imm / 256 % 256), .int .u8 (imm / 65536 % 256), .int .u8 (imm / 16777216 % 256)]]) 0 (.lst .tight 1 [.int .u8 15, .int .u8 (IntKind.wrap IntKind.u8 (128 + IntKind.wrap IntKind.u8 cc))]) rfl, .len 2 2147483648 (by decide), tT, tT, .get ([.lst .tight 1 [.int .u8 15, .int .u8 (IntKind.wrap IntKind.u8 (128 + IntKind.wrap IntKind.u8 cc))], .lst .no 1 [.int .u8 (imm % 256), .int .u8 (imm / 256 % 256), .int .u8 (imm / 65536 % 256), .int .u8 (imm / 16777216 % 256)]]) 1 (.lst .no 1 [.int .u8 (imm % 256), .int .u8 (imm / 256 % 256), .int .u8 (imm / 65536 % 256), .int .u8 (imm / 16777216 % 256)]) rfl, .len 6 2147483648 (by decide), tF]) (by kernel_rfl)).to (by (subst_vars; (try simp only [beq_dec] at *); (try simp only [beq_iff_eq] at h); (try simp only [decide_eq_true_eq, decide_eq_false_iff_not] at *); simp_all [wk, wkL, wkO, bytesM, show shapeM 29 = 10 from rfl, bD, rexM, memM, fourM, w_u8]; omega))
theorem bytesO_30_ok : SpXB2e0 30 := by
 intro w dst src base disp imm cc d0 d1 s0 s1 b0 b1 p0 p1 i0 i1 c0 c1 hm
 have c0 := @mayX_ok 30 w dst src base disp imm cc (by decide)
 rw [show (mayX 30 w dst src base disp imm cc) = true from hm] at c0
 have c1 := @of_any_ok 30 (by decide)
 exact (o105 (d := .tup [.lst .tight 1 [.int .u8 195], .int .i64 0]) ([.ret _ _ _ c0, tF, .ret _ _ _ c1] ++ List.replicate 11 tF) (by kernel_rfl)).to (by (subst_vars; (try simp only [beq_dec] at *); (try simp only [beq_iff_eq] at h); (try simp only [decide_eq_true_eq, decide_eq_false_iff_not] at *); simp_all [wk, wkL, wkO, bytesM, show shapeM 30 = 11 from rfl, bD, rexM, memM, fourM, w_u8]; done))
theorem bytesO_31_ok : SpXB2e0 31 := by
 intro w dst src base disp imm cc d0 d1 s0 s1 b0 b1 p0 p1 i0 i1 c0 c1 hm
 have c0 := @mayX_ok 31 w dst src base disp imm cc (by decide)
 rw [show (mayX 31 w dst src base disp imm cc) = true from hm] at c0
 have c1 := @of_any_ok 31 (by decide)
 exact (o105 (d := .tup [.lst .tight 1 [.int .u8 15, .int .u8 5], .int .i64 0]) ([.ret _ _ _ c0, tF, .ret _ _ _ c1] ++ List.replicate 10 tF ++ [tT]) (by kernel_rfl)).to (by (subst_vars; (try simp only [beq_dec] at *); (try simp only [beq_iff_eq] at h); (try simp only [decide_eq_true_eq, decide_eq_false_iff_not] at *); simp_all [wk, wkL, wkO, bytesM, show shapeM 31 = 11 from rfl, bD, rexM, memM, fourM, w_u8]; done))
theorem num_range (op : Int) : 0 ≤ numM op ∧ numM op ≤ 7 := by
 unfold numM
 repeat' split
 all_goals omega
theorem mayX_cc {op w dst src base disp imm cc : Int} (h : mayX op w dst src base disp imm cc = true) : 0 ≤ cc ∧ cc ≤ 15 := by
 have hs := (mayX_parts h).2
 unfold mayS at hs
 repeat' split at hs
 all_goals first | (cases hs; done) | (simp only [ccM, Bool.and_eq_true, decide_eq_true_eq] at hs; omega)
theorem bytes_may_ok (op w dst src base disp imm cc : Int) (ho : op ≤ 127) (hm : mayX op w dst src base disp imm cc = true) :
  Ret Tryz.prog 105 [xD op w dst src base disp imm cc] (.tup [.lst .no 1 (bD (bytesM op w dst src base disp imm cc)), .int .i64 0]) := by
 obtain ⟨⟨d0, d1, s0, s1, b0, b1, p0, p1, i0, i1⟩, hs⟩ := mayX_parts hm
 obtain ⟨c0, c1⟩ := mayX_cc hm
 obtain ⟨n0, n1⟩ := num_range op
 have hsh : shapeM op ≠ 0 := by
  intro e
  rw [e] at hs
  simp [mayS] at hs
 obtain ⟨k, e⟩ := op_fin hsh
 have hin : decide (0 ≤ op ∧ op ≤ 31) = true := by rw [e]; simp; omega
 have hr := shape_range k
 rw [← e] at hr
 rcases hr with h | h | h | h | h | h | h | h | h | h | h
 ·exact bytes_1_ok _ _ _ _ _ _ _ _ ho d0 d1 s0 s1 b0 b1 p0 p1 i0 i1 c0 c1 n0 n1 (by rw [h]; rfl) hin hm
 ·have e2 : op = 16 := by
   rw [e] at h ⊢
   revert h
   exact (by decide +kernel : ∀ n : Fin 32, shapeM (n.val : Int) = 2 → (n.val : Int) = 16) k
  subst e2
  exact bytesO_16_ok _ _ _ _ _ _ _ d0 d1 s0 s1 b0 b1 p0 p1 i0 i1 c0 c1 hm
 ·exact bytes_3_ok _ _ _ _ _ _ _ _ ho d0 d1 s0 s1 b0 b1 p0 p1 i0 i1 c0 c1 n0 n1 (by rw [h]; rfl) hin (long_cases (by rw [h] at hs; simp [mayS] at hs; exact hs.1)) hm
 ·exact bytes_4_ok _ _ _ _ _ _ _ _ ho d0 d1 s0 s1 b0 b1 p0 p1 i0 i1 c0 c1 n0 n1 (by rw [h]; rfl) hin hm
 ·exact bytes_5_ok _ _ _ _ _ _ _ _ ho d0 d1 s0 s1 b0 b1 p0 p1 i0 i1 c0 c1 n0 n1 (by rw [h]; rfl) hin hm
 ·have e2 : op = 25 := by rw [e] at h ⊢; exact shape_6 k h
  subst e2
  exact bytesO_25_ok _ _ _ _ _ _ _ d0 d1 s0 s1 b0 b1 p0 p1 i0 i1 c0 c1 hm
 ·have e2 : op = 26 := by rw [e] at h ⊢; exact shape_7 k h
  subst e2
  exact bytesO_26_ok _ _ _ _ _ _ _ d0 d1 s0 s1 b0 b1 p0 p1 i0 i1 c0 c1 hm
 ·have e2 : op = 27 := by rw [e] at h ⊢; exact shape_8 k h
  subst e2
  exact bytesO_27_ok _ _ _ _ _ _ _ d0 d1 s0 s1 b0 b1 p0 p1 i0 i1 c0 c1 hm
 ·have e2 : op = 28 := by rw [e] at h ⊢; exact shape_9 k h
  subst e2
  exact bytesO_28_ok _ _ _ _ _ _ _ d0 d1 s0 s1 b0 b1 p0 p1 i0 i1 c0 c1 hm
 ·have e2 : op = 29 := by rw [e] at h ⊢; exact shape_10 k h
  subst e2
  exact bytesO_29_ok _ _ _ _ _ _ _ d0 d1 s0 s1 b0 b1 p0 p1 i0 i1 c0 c1 hm
 ·rcases shape_11 k (by rw [e] at h; exact h) with e2 | e2
  ·rw [← e] at e2; subst e2
   exact bytesO_30_ok _ _ _ _ _ _ _ d0 d1 s0 s1 b0 b1 p0 p1 i0 i1 c0 c1 hm
  ·rw [← e] at e2; subst e2
   exact bytesO_31_ok _ _ _ _ _ _ _ d0 d1 s0 s1 b0 b1 p0 p1 i0 i1 c0 c1 hm
theorem bytes_no_ok (op w dst src base disp imm cc : Int) (ho : op ≤ 127) (hm : mayX op w dst src base disp imm cc = false) : Ret Tryz.prog 105 ([xD op w dst src base disp imm cc]) (.tup [.lst .no 1 [], .int .i64 2]) := by
 have c0 := @mayX_ok op w dst src base disp imm cc ho
 rw [show (mayX op w dst src base disp imm cc) = false from hm] at c0
 exact (o105 (d := .tup [.lst .tight 0 [], .int .i64 2]) [.ret _ _ _ c0, tT] (by kernel_rfl)).to (by simp [wk, wkL, wkO])
theorem bytes_any_ok (op w dst src base disp imm cc : Int) (ho : op ≤ 127) : Ret Tryz.prog 105 [xD op w dst src base disp imm cc] (.tup [.lst .no 1 (bytesL op w dst src base disp imm cc), .int .i64 (bytesE op w dst src base disp imm cc)]) := by
 unfold bytesL bytesE
 cases h : mayX op w dst src base disp imm cc
 ·exact bytes_no_ok op w dst src base disp imm cc ho h
 ·exact bytes_may_ok op w dst src base disp imm cc ho h
theorem xlen_ok (op w dst src base disp imm cc : Int) (ho : op ≤ 127) : Ret Tryz.prog 73 ([xD op w dst src base disp imm cc]) (.int .i64 (lenX op w dst src base disp imm cc)) := by
 have c0 := @bytes_any_ok op w dst src base disp imm cc ho
 exact (o73 (d := .int .i64 (↑(List.length (bytesL op w dst src base disp imm cc)) : Int)) [.ret _ _ _ c0] (by kernel_rfl)).to (by simp [wk, lenX])
theorem set1_ok (a : Int) (a0 : 0 ≤ a) (a1 : a ≤ 15) : Ret Tryz.prog 145 ([.lst .tight 1 [.int .i8 a]]) (.int .i64 (sh8 a)) := by
 exact (o145 (d := D.int IntKind.i64 (IntKind.i64.wrap (↑(BitVec.toNat (BitVec.ofInt (64 : Nat) 0 ||| BitVec.ofInt (64 : Nat) (IntKind.i64.wrap (1 * 2 ^ min (Int.toNat a) (64 : Nat))))) : Int))) [.go 64, tT, tT, .get ([D.int IntKind.i8 a]) 0 (D.int IntKind.i8 a) rfl, tC (v := true) (leL 0 (decide_eq_false (Int.not_lt.2 a0))), tF] (by kernel_rfl)).to (by simp only [wk, D.int.injEq, true_and]; obtain ⟨n_a, rfl⟩ := fin16 a0 a1; clear a0 a1; revert n_a; decide +kernel)
theorem set2_ok (a : Int) (a0 : 0 ≤ a) (a1 : a ≤ 15) (b : Int) (b0 : 0 ≤ b) (b1 : b ≤ 15) : Ret Tryz.prog 145 ([.lst .tight 1 [.int .i8 a, .int .i8 b]]) (.int .i64 (or64 (sh8 a) (sh8 b))) := by
 exact (o145 (d := D.int IntKind.i64 (IntKind.i64.wrap (↑(BitVec.toNat (BitVec.ofInt (64 : Nat) (IntKind.i64.wrap (↑(BitVec.toNat (BitVec.ofInt (64 : Nat) 0 ||| BitVec.ofInt (64 : Nat) (IntKind.i64.wrap (1 * 2 ^ min (Int.toNat a) (64 : Nat))))) : Int)) ||| BitVec.ofInt (64 : Nat) (IntKind.i64.wrap (1 * 2 ^ min (Int.toNat b) (64 : Nat))))) : Int))) [.go 64, tT, tT, .get ([D.int IntKind.i8 a, D.int IntKind.i8 b]) 0 (D.int IntKind.i8 a) rfl, tC (v := true) (leL 0 (decide_eq_false (Int.not_lt.2 a0))), tT, tT, .get ([D.int IntKind.i8 a, D.int IntKind.i8 b]) 1 (D.int IntKind.i8 b) rfl, tC (v := true) (leL 0 (decide_eq_false (Int.not_lt.2 b0))), tF] (by kernel_rfl)).to (by simp only [wk, D.int.injEq, true_and]; obtain ⟨n_a, rfl⟩ := fin16 a0 a1; obtain ⟨n_b, rfl⟩ := fin16 b0 b1; clear a0 a1 b0 b1; revert n_a n_b; decide +kernel)
def SpXS20 (k0_ : Int) : Prop := ∀ (w dst src base disp imm cc : Int) (d0 : 0 ≤ dst) (d1 : dst ≤ 15) (s0 : 0 ≤ src) (s1 : src ≤ 15) (b0 : 0 ≤ base) (b1 : base ≤ 15) (hm : mayX k0_ w dst src base disp imm cc = true), Ret Tryz.prog 115 ([xD k0_ w dst src base disp imm cc]) (.int .i64 (writesX k0_ dst))
theorem writes_0_ok : SpXS20 0 := by
 intro w dst src base disp imm cc d0 d1 s0 s1 b0 b1 hm
 have c0 := @mayX_ok 0 w dst src base disp imm cc (by decide)
 rw [hm] at c0
 have c1 := @set1_ok dst d0 d1
 exact (o115 (d := .int .i64 (sh8 dst)) ([.ret _ _ _ c0] ++ List.replicate 11 tF ++ [.ret _ _ _ c1]) (by kernel_rfl)).to (by rfl)
theorem writes_1_ok : SpXS20 1 := by
 intro w dst src base disp imm cc d0 d1 s0 s1 b0 b1 hm
 have c0 := @mayX_ok 1 w dst src base disp imm cc (by decide)
 rw [hm] at c0
 have c1 := @set1_ok dst d0 d1
 exact (o115 (d := .int .i64 (sh8 dst)) ([.ret _ _ _ c0] ++ List.replicate 11 tF ++ [.ret _ _ _ c1]) (by kernel_rfl)).to (by rfl)
theorem writes_2_ok : SpXS20 2 := by
 intro w dst src base disp imm cc d0 d1 s0 s1 b0 b1 hm
 have c0 := @mayX_ok 2 w dst src base disp imm cc (by decide)
 rw [hm] at c0
 have c1 := @set1_ok dst d0 d1
 exact (o115 (d := .int .i64 (sh8 dst)) ([.ret _ _ _ c0] ++ List.replicate 11 tF ++ [.ret _ _ _ c1]) (by kernel_rfl)).to (by rfl)
theorem writes_3_ok : SpXS20 3 := by
 intro w dst src base disp imm cc d0 d1 s0 s1 b0 b1 hm
 have c0 := @mayX_ok 3 w dst src base disp imm cc (by decide)
 rw [hm] at c0
 have c1 := @set1_ok dst d0 d1
 exact (o115 (d := .int .i64 (sh8 dst)) ([.ret _ _ _ c0] ++ List.replicate 11 tF ++ [.ret _ _ _ c1]) (by kernel_rfl)).to (by rfl)
theorem writes_4_ok : SpXS20 4 := by
 intro w dst src base disp imm cc d0 d1 s0 s1 b0 b1 hm
 have c0 := @mayX_ok 4 w dst src base disp imm cc (by decide)
 rw [hm] at c0
 have c1 := @set1_ok dst d0 d1
 exact (o115 (d := .int .i64 (sh8 dst)) ([.ret _ _ _ c0] ++ List.replicate 11 tF ++ [.ret _ _ _ c1]) (by kernel_rfl)).to (by rfl)
theorem writes_5_ok : SpXS20 5 := by
 intro w dst src base disp imm cc d0 d1 s0 s1 b0 b1 hm
 have c0 := @mayX_ok 5 w dst src base disp imm cc (by decide)
 rw [hm] at c0
 have c1 := @set1_ok dst d0 d1
 exact (o115 (d := .int .i64 (sh8 dst)) ([.ret _ _ _ c0] ++ List.replicate 11 tF ++ [.ret _ _ _ c1]) (by kernel_rfl)).to (by rfl)
theorem writes_6_ok : SpXS20 6 := by
 intro w dst src base disp imm cc d0 d1 s0 s1 b0 b1 hm
 have c0 := @mayX_ok 6 w dst src base disp imm cc (by decide)
 rw [hm] at c0
 have c1 := @set1_ok dst d0 d1
 exact (o115 (d := .int .i64 (sh8 dst)) ([.ret _ _ _ c0] ++ List.replicate 11 tF ++ [.ret _ _ _ c1]) (by kernel_rfl)).to (by rfl)
theorem writes_7_ok : SpXS20 7 := by
 intro w dst src base disp imm cc d0 d1 s0 s1 b0 b1 hm
 have c0 := @mayX_ok 7 w dst src base disp imm cc (by decide)
 rw [hm] at c0
 exact (o115 (d := .int .i64 0) [.ret _ _ _ c0, tF, tT, tT] (by kernel_rfl)).to (by rfl)
theorem writes_8_ok : SpXS20 8 := by
 intro w dst src base disp imm cc d0 d1 s0 s1 b0 b1 hm
 have c0 := @mayX_ok 8 w dst src base disp imm cc (by decide)
 rw [hm] at c0
 exact (o115 (d := .int .i64 0) [.ret _ _ _ c0, tF, tF, tT, tT] (by kernel_rfl)).to (by rfl)
theorem writes_9_ok : SpXS20 9 := by
 intro w dst src base disp imm cc d0 d1 s0 s1 b0 b1 hm
 have c0 := @mayX_ok 9 w dst src base disp imm cc (by decide)
 rw [hm] at c0
 have c1 := @set1_ok dst d0 d1
 exact (o115 (d := .int .i64 (sh8 dst)) ([.ret _ _ _ c0] ++ List.replicate 11 tF ++ [.ret _ _ _ c1]) (by kernel_rfl)).to (by rfl)
theorem writes_10_ok : SpXS20 10 := by
 intro w dst src base disp imm cc d0 d1 s0 s1 b0 b1 hm
 have c0 := @mayX_ok 10 w dst src base disp imm cc (by decide)
 rw [hm] at c0
 have c1 := @set1_ok dst d0 d1
 exact (o115 (d := .int .i64 (sh8 dst)) ([.ret _ _ _ c0] ++ List.replicate 11 tF ++ [.ret _ _ _ c1]) (by kernel_rfl)).to (by rfl)
theorem writes_11_ok : SpXS20 11 := by
 intro w dst src base disp imm cc d0 d1 s0 s1 b0 b1 hm
 have c0 := @mayX_ok 11 w dst src base disp imm cc (by decide)
 rw [hm] at c0
 have c1 := @set1_ok dst d0 d1
 exact (o115 (d := .int .i64 (sh8 dst)) ([.ret _ _ _ c0] ++ List.replicate 11 tF ++ [.ret _ _ _ c1]) (by kernel_rfl)).to (by rfl)
theorem writes_12_ok : SpXS20 12 := by
 intro w dst src base disp imm cc d0 d1 s0 s1 b0 b1 hm
 have c0 := @mayX_ok 12 w dst src base disp imm cc (by decide)
 rw [hm] at c0
 have c1 := @set1_ok dst d0 d1
 exact (o115 (d := .int .i64 (sh8 dst)) ([.ret _ _ _ c0] ++ List.replicate 11 tF ++ [.ret _ _ _ c1]) (by kernel_rfl)).to (by rfl)
theorem writes_13_ok : SpXS20 13 := by
 intro w dst src base disp imm cc d0 d1 s0 s1 b0 b1 hm
 have c0 := @mayX_ok 13 w dst src base disp imm cc (by decide)
 rw [hm] at c0
 have c1 := @set1_ok dst d0 d1
 exact (o115 (d := .int .i64 (sh8 dst)) ([.ret _ _ _ c0] ++ List.replicate 11 tF ++ [.ret _ _ _ c1]) (by kernel_rfl)).to (by rfl)
theorem writes_14_ok : SpXS20 14 := by
 intro w dst src base disp imm cc d0 d1 s0 s1 b0 b1 hm
 have c0 := @mayX_ok 14 w dst src base disp imm cc (by decide)
 rw [hm] at c0
 exact (o115 (d := .int .i64 0) [.ret _ _ _ c0, tF, tF, tF, tT, tT] (by kernel_rfl)).to (by rfl)
theorem writes_15_ok : SpXS20 15 := by
 intro w dst src base disp imm cc d0 d1 s0 s1 b0 b1 hm
 have c0 := @mayX_ok 15 w dst src base disp imm cc (by decide)
 rw [hm] at c0
 exact (o115 (d := .int .i64 0) [.ret _ _ _ c0, tF, tF, tF, tF, tT, tT] (by kernel_rfl)).to (by rfl)
theorem writes_16_ok : SpXS20 16 := by
 intro w dst src base disp imm cc d0 d1 s0 s1 b0 b1 hm
 have c0 := @mayX_ok 16 w dst src base disp imm cc (by decide)
 rw [hm] at c0
 have c1 := @set1_ok dst d0 d1
 exact (o115 (d := .int .i64 (sh8 dst)) ([.ret _ _ _ c0] ++ List.replicate 11 tF ++ [.ret _ _ _ c1]) (by kernel_rfl)).to (by rfl)
theorem writes_17_ok : SpXS20 17 := by
 intro w dst src base disp imm cc d0 d1 s0 s1 b0 b1 hm
 have c0 := @mayX_ok 17 w dst src base disp imm cc (by decide)
 rw [hm] at c0
 have c1 := @set1_ok dst d0 d1
 exact (o115 (d := .int .i64 (sh8 dst)) ([.ret _ _ _ c0] ++ List.replicate 11 tF ++ [.ret _ _ _ c1]) (by kernel_rfl)).to (by rfl)
theorem writes_18_ok : SpXS20 18 := by
 intro w dst src base disp imm cc d0 d1 s0 s1 b0 b1 hm
 have c0 := @mayX_ok 18 w dst src base disp imm cc (by decide)
 rw [hm] at c0
 have c1 := @set1_ok dst d0 d1
 exact (o115 (d := .int .i64 (sh8 dst)) ([.ret _ _ _ c0] ++ List.replicate 11 tF ++ [.ret _ _ _ c1]) (by kernel_rfl)).to (by rfl)
theorem writes_19_ok : SpXS20 19 := by
 intro w dst src base disp imm cc d0 d1 s0 s1 b0 b1 hm
 have c0 := @mayX_ok 19 w dst src base disp imm cc (by decide)
 rw [hm] at c0
 have c1 := @set1_ok dst d0 d1
 exact (o115 (d := .int .i64 (sh8 dst)) ([.ret _ _ _ c0] ++ List.replicate 11 tF ++ [.ret _ _ _ c1]) (by kernel_rfl)).to (by rfl)
theorem writes_20_ok : SpXS20 20 := by
 intro w dst src base disp imm cc d0 d1 s0 s1 b0 b1 hm
 have c0 := @mayX_ok 20 w dst src base disp imm cc (by decide)
 rw [hm] at c0
 have c1 := @set1_ok dst d0 d1
 exact (o115 (d := .int .i64 (sh8 dst)) ([.ret _ _ _ c0] ++ List.replicate 11 tF ++ [.ret _ _ _ c1]) (by kernel_rfl)).to (by rfl)
theorem writes_21_ok : SpXS20 21 := by
 intro w dst src base disp imm cc d0 d1 s0 s1 b0 b1 hm
 have c0 := @mayX_ok 21 w dst src base disp imm cc (by decide)
 rw [hm] at c0
 have c1 := @set1_ok dst d0 d1
 exact (o115 (d := .int .i64 (sh8 dst)) ([.ret _ _ _ c0] ++ List.replicate 11 tF ++ [.ret _ _ _ c1]) (by kernel_rfl)).to (by rfl)
theorem writes_22_ok : SpXS20 22 := by
 intro w dst src base disp imm cc d0 d1 s0 s1 b0 b1 hm
 have c0 := @mayX_ok 22 w dst src base disp imm cc (by decide)
 rw [hm] at c0
 have c1 := @set1_ok dst d0 d1
 exact (o115 (d := .int .i64 (sh8 dst)) ([.ret _ _ _ c0] ++ List.replicate 11 tF ++ [.ret _ _ _ c1]) (by kernel_rfl)).to (by rfl)
theorem writes_23_ok : SpXS20 23 := by
 intro w dst src base disp imm cc d0 d1 s0 s1 b0 b1 hm
 have c0 := @mayX_ok 23 w dst src base disp imm cc (by decide)
 rw [hm] at c0
 have c1 := @set1_ok dst d0 d1
 exact (o115 (d := .int .i64 (sh8 dst)) ([.ret _ _ _ c0] ++ List.replicate 11 tF ++ [.ret _ _ _ c1]) (by kernel_rfl)).to (by rfl)
theorem writes_24_ok : SpXS20 24 := by
 intro w dst src base disp imm cc d0 d1 s0 s1 b0 b1 hm
 have c0 := @mayX_ok 24 w dst src base disp imm cc (by decide)
 rw [hm] at c0
 have c1 := @set2_ok 0 (by decide) (by decide) 2 (by decide) (by decide)
 exact (o115 (d := .int .i64 5) ([.ret _ _ _ c0] ++ List.replicate 8 tF ++ [tT, .ret _ _ _ c1]) (by kernel_rfl)).to (by rfl)
theorem writes_25_ok : SpXS20 25 := by
 intro w dst src base disp imm cc d0 d1 s0 s1 b0 b1 hm
 have c0 := @mayX_ok 25 w dst src base disp imm cc (by decide)
 rw [hm] at c0
 have c1 := @set1_ok dst d0 d1
 exact (o115 (d := .int .i64 (sh8 dst)) ([.ret _ _ _ c0] ++ List.replicate 11 tF ++ [.ret _ _ _ c1]) (by kernel_rfl)).to (by rfl)
theorem writes_26_ok : SpXS20 26 := by
 intro w dst src base disp imm cc d0 d1 s0 s1 b0 b1 hm
 have c0 := @mayX_ok 26 w dst src base disp imm cc (by decide)
 rw [hm] at c0
 have c1 := @set1_ok dst d0 d1
 exact (o115 (d := .int .i64 (sh8 dst)) ([.ret _ _ _ c0] ++ List.replicate 11 tF ++ [.ret _ _ _ c1]) (by kernel_rfl)).to (by rfl)
theorem writes_27_ok : SpXS20 27 := by
 intro w dst src base disp imm cc d0 d1 s0 s1 b0 b1 hm
 have c0 := @mayX_ok 27 w dst src base disp imm cc (by decide)
 rw [hm] at c0
 exact (o115 (d := .int .i64 0) [.ret _ _ _ c0, tF, tF, tF, tF, tF, tT, tT] (by kernel_rfl)).to (by rfl)
theorem writes_28_ok : SpXS20 28 := by
 intro w dst src base disp imm cc d0 d1 s0 s1 b0 b1 hm
 have c0 := @mayX_ok 28 w dst src base disp imm cc (by decide)
 rw [hm] at c0
 exact (o115 (d := .int .i64 0) [.ret _ _ _ c0, tF, tF, tF, tF, tF, tF, tT, tT] (by kernel_rfl)).to (by rfl)
theorem writes_29_ok : SpXS20 29 := by
 intro w dst src base disp imm cc d0 d1 s0 s1 b0 b1 hm
 have c0 := @mayX_ok 29 w dst src base disp imm cc (by decide)
 rw [hm] at c0
 exact (o115 (d := .int .i64 0) [.ret _ _ _ c0, tF, tF, tF, tF, tF, tF, tF, tT] (by kernel_rfl)).to (by rfl)
theorem writes_30_ok : SpXS20 30 := by
 intro w dst src base disp imm cc d0 d1 s0 s1 b0 b1 hm
 have c0 := @mayX_ok 30 w dst src base disp imm cc (by decide)
 rw [hm] at c0
 have c1 := @set1_ok 4 (by decide) (by decide)
 exact (o115 (d := .int .i64 16) ([.ret _ _ _ c0] ++ List.replicate 9 tF ++ [tT, .ret _ _ _ c1]) (by kernel_rfl)).to (by rfl)
theorem writes_31_ok : SpXS20 31 := by
 intro w dst src base disp imm cc d0 d1 s0 s1 b0 b1 hm
 have c0 := @mayX_ok 31 w dst src base disp imm cc (by decide)
 rw [hm] at c0
 exact (o115 (d := .int .i64 2051) ([.ret _ _ _ c0] ++ List.replicate 10 tF ++ [tT, .inl, .go 64, tT, tT, .get ([.int .i8 0, .int .i8 1, .int .i8 11]) 0 (.int .i8 0) rfl, tT, tT, tT, .get ([.int .i8 0, .int .i8 1, .int .i8 11]) 1 (.int .i8 1) rfl, tT, tT, tT, .get ([.int .i8 0, .int .i8 1, .int .i8 11]) 2 (.int .i8 11) rfl, tT, tF]) (by kernel_rfl)).to (by rfl)
theorem writes_no_ok (op w dst src base disp imm cc : Int) (ho : op ≤ 127) (hm : mayX op w dst src base disp imm cc = false) : Ret Tryz.prog 115 ([xD op w dst src base disp imm cc]) (.int .i64 0) := by
 have c0 := @mayX_ok op w dst src base disp imm cc ho
 rw [hm] at c0
 exact (o115 (d := .int .i64 0) [.ret _ _ _ c0, tT] (by kernel_rfl)).to (by simp [wk])
theorem mayX_sh {op w dst src base disp imm cc : Int} (h : mayX op w dst src base disp imm cc = true) : shapeM op ≠ 0 := by
 have hs := (mayX_parts h).2
 intro e
 rw [e] at hs
 simp [mayS] at hs
theorem writes_any_ok (op w dst src base disp imm cc : Int) (ho : op ≤ 127) : Ret Tryz.prog 115 [xD op w dst src base disp imm cc] (.int .i64 (writesXX op w dst src base disp imm cc)) := by
 unfold writesXX
 cases h : mayX op w dst src base disp imm cc
 ·simp only [Bool.false_eq_true, if_false]
  exact writes_no_ok op w dst src base disp imm cc ho h
 ·simp only [if_true]
  obtain ⟨⟨d0, d1, s0, s1, b0, b1, p0, p1, i0, i1⟩, hs⟩ := mayX_parts h
  have hsh := mayX_sh h
  clear hs
  rcases shape_ops hsh with rfl | rfl | rfl | rfl | rfl | rfl | rfl | rfl | rfl | rfl | rfl | rfl | rfl | rfl | rfl | rfl | rfl | rfl | rfl | rfl | rfl | rfl | rfl | rfl | rfl | rfl | rfl | rfl | rfl | rfl | rfl | rfl
  ·exact writes_0_ok _ _ _ _ _ _ _ d0 d1 s0 s1 b0 b1 h
  ·exact writes_1_ok _ _ _ _ _ _ _ d0 d1 s0 s1 b0 b1 h
  ·exact writes_2_ok _ _ _ _ _ _ _ d0 d1 s0 s1 b0 b1 h
  ·exact writes_3_ok _ _ _ _ _ _ _ d0 d1 s0 s1 b0 b1 h
  ·exact writes_4_ok _ _ _ _ _ _ _ d0 d1 s0 s1 b0 b1 h
  ·exact writes_5_ok _ _ _ _ _ _ _ d0 d1 s0 s1 b0 b1 h
  ·exact writes_6_ok _ _ _ _ _ _ _ d0 d1 s0 s1 b0 b1 h
  ·exact writes_7_ok _ _ _ _ _ _ _ d0 d1 s0 s1 b0 b1 h
  ·exact writes_8_ok _ _ _ _ _ _ _ d0 d1 s0 s1 b0 b1 h
  ·exact writes_9_ok _ _ _ _ _ _ _ d0 d1 s0 s1 b0 b1 h
  ·exact writes_10_ok _ _ _ _ _ _ _ d0 d1 s0 s1 b0 b1 h
  ·exact writes_11_ok _ _ _ _ _ _ _ d0 d1 s0 s1 b0 b1 h
  ·exact writes_12_ok _ _ _ _ _ _ _ d0 d1 s0 s1 b0 b1 h
  ·exact writes_13_ok _ _ _ _ _ _ _ d0 d1 s0 s1 b0 b1 h
  ·exact writes_14_ok _ _ _ _ _ _ _ d0 d1 s0 s1 b0 b1 h
  ·exact writes_15_ok _ _ _ _ _ _ _ d0 d1 s0 s1 b0 b1 h
  ·exact writes_16_ok _ _ _ _ _ _ _ d0 d1 s0 s1 b0 b1 h
  ·exact writes_17_ok _ _ _ _ _ _ _ d0 d1 s0 s1 b0 b1 h
  ·exact writes_18_ok _ _ _ _ _ _ _ d0 d1 s0 s1 b0 b1 h
  ·exact writes_19_ok _ _ _ _ _ _ _ d0 d1 s0 s1 b0 b1 h
  ·exact writes_20_ok _ _ _ _ _ _ _ d0 d1 s0 s1 b0 b1 h
  ·exact writes_21_ok _ _ _ _ _ _ _ d0 d1 s0 s1 b0 b1 h
  ·exact writes_22_ok _ _ _ _ _ _ _ d0 d1 s0 s1 b0 b1 h
  ·exact writes_23_ok _ _ _ _ _ _ _ d0 d1 s0 s1 b0 b1 h
  ·exact writes_24_ok _ _ _ _ _ _ _ d0 d1 s0 s1 b0 b1 h
  ·exact writes_25_ok _ _ _ _ _ _ _ d0 d1 s0 s1 b0 b1 h
  ·exact writes_26_ok _ _ _ _ _ _ _ d0 d1 s0 s1 b0 b1 h
  ·exact writes_27_ok _ _ _ _ _ _ _ d0 d1 s0 s1 b0 b1 h
  ·exact writes_28_ok _ _ _ _ _ _ _ d0 d1 s0 s1 b0 b1 h
  ·exact writes_29_ok _ _ _ _ _ _ _ d0 d1 s0 s1 b0 b1 h
  ·exact writes_30_ok _ _ _ _ _ _ _ d0 d1 s0 s1 b0 b1 h
  ·exact writes_31_ok _ _ _ _ _ _ _ d0 d1 s0 s1 b0 b1 h
theorem exec_2_ok (m : MachS) (w dst src base disp imm cc ld : Int) (d0 : 0 ≤ dst) (d1 : dst ≤ 15) (s0 : 0 ≤ src) (s1 : src ≤ 15) (b0 : 0 ≤ base) (b1 : base ≤ 15) (hm : mayX 2 w dst src base disp imm cc = true) (hw : longM w = true)  : Ret Tryz.prog 55 ([m.d, xD 2 w dst src base disp imm cc, .int .u64 ld]) (.tup [(doS (m.at (u64 (m.pc + u64 (lenX 2 w dst src base disp imm cc)))) ⟨2, w, dst, src, base, disp, imm, cc⟩ ld).1.d, .int .i64 0]) := by
 have c0 := @mayX_ok 2 w dst src base disp imm cc (by decide)
 rw [show (mayX 2 w dst src base disp imm cc) = true from hm] at c0
 have c1 := @xlen_ok 2 w dst src base disp imm cc (by decide)
 have c2 := @bdo_0_ok w (rg (MachS.rl m) dst) (rg (MachS.rl m) src) hw
 have c3 := @fadd_ok w (rg (MachS.rl m) dst) (rg (MachS.rl m) src) hw
 have c4 := @writes_any_ok 2 w dst src base disp imm cc (by decide)
 exact (o55 (d := .tup [(doS (m.at (u64 (m.pc + u64 (lenX 2 w dst src base disp imm cc)))) ⟨2, w, dst, src, base, disp, imm, cc⟩ ld).1.d, .int .i64 0]) ([.ret _ _ _ c0, tF, .ret _ _ _ c1, tT, .get ([D.fn (Fn.func 74) [.ptr false 4 0] [], D.fn (Fn.func 75) [.ptr false 4 0] [], D.nilf, D.nilf, D.nilf, D.nilf, D.nilf, D.nilf, D.nilf, D.nilf, D.nilf, D.nilf, D.nilf, D.nilf, D.nilf, D.nilf, D.nilf, D.nilf, D.nilf, D.nilf, D.nilf, D.nilf, D.nilf, D.nilf, D.fn (Fn.func 76) [.ptr false 4 0] [], D.fn (Fn.func 77) [.ptr false 4 0] [], D.fn (Fn.func 78) [.ptr false 4 0] [], D.fn (Fn.func 79) [.ptr false 4 0] [], D.fn (Fn.func 80) [.ptr false 4 0] [], D.fn (Fn.func 81) [.ptr false 4 0] [], D.fn (Fn.func 82) [.ptr false 4 0] [], D.fn (Fn.func 83) [.ptr false 4 0] []]) 2 (D.nilf) rfl, tT, .inl, .inl, .keep [(4, .box (MachS.cw m (pcX m 2 w dst src base disp imm cc) (xT 2 w dst src base disp imm cc ld)))], .mget ([(2, .int .i8 0), (9, .int .i8 0), (3, .int .i8 4), (10, .int .i8 4), (4, .int .i8 5), (11, .int .i8 5), (8, .int .i8 5), (15, .int .i8 5), (5, .int .i8 1), (12, .int .i8 1), (7, .int .i8 1), (14, .int .i8 1), (6, .int .i8 10), (13, .int .i8 10), (16, .int .i8 2), (17, .int .i8 6), (20, .int .i8 6), (18, .int .i8 7), (21, .int .i8 7), (19, .int .i8 12), (22, .int .i8 12), (23, .int .i8 8)]) 2 (some (.int .i8 0)) rfl, .tst _ true (in16 d0 d1), .get _ _ _ (@get_regm m dst ((fT m (pcX m 2 w dst src base disp imm cc) (xT 2 w dst src base disp imm cc ld))) d0 d1), .inl] ++ List.replicate 24 tF ++ [.tst _ true (in16 s0 s1), .get _ _ _ (@get_regm m src ((fT m (pcX m 2 w dst src base disp imm cc) (xT 2 w dst src base disp imm cc ld))) s0 s1), .keep [(4, .box (MachS.cw m (pcX m 2 w dst src base disp imm cc) (xT 2 w dst src base disp imm cc ld)))], .ret _ _ _ c2, tF, tT, .ret _ _ _ c3, .ret _ _ _ c4, tC (nt (@wr_nz 2 w dst src base disp imm cc hm d0 d1 (rfl : true = true))), .tst _ true (in16 d0 d1), .putA _ _ _ _ (@put_regm m dst (doM 0 w (rg (MachS.rl m) dst) (rg (MachS.rl m) src)) ([.bool true, .bool (addC w (rg (MachS.rl m) dst) (rg (MachS.rl m) src)), .bool (cutM (u64 (rg (MachS.rl m) dst + rg (MachS.rl m) src)) w == 0), .bool (negM (u64 (rg (MachS.rl m) dst + rg (MachS.rl m) src)) w), .bool (addO w (rg (MachS.rl m) dst) (rg (MachS.rl m) src)), .int .u64 (pcX m 2 w dst src base disp imm cc), .int .i8 2, .int .i8 w, .int .i8 dst, .int .i8 src, .int .i8 base, .int .i64 disp, .int .i64 imm, .int .i8 cc, .int .u64 ld]) d0 d1), tF]) (by kernel_rfl))
def tbYb0 : List D := [D.fn (Fn.func 74) [.ptr false 4 0] [], D.fn (Fn.func 75) [.ptr false 4 0] [], D.nilf, D.nilf, D.nilf, D.nilf, D.nilf, D.nilf, D.nilf, D.nilf, D.nilf, D.nilf, D.nilf, D.nilf, D.nilf, D.nilf, D.nilf, D.nilf, D.nilf, D.nilf, D.nilf, D.nilf, D.nilf, D.nilf, D.fn (Fn.func 76) [.ptr false 4 0] [], D.fn (Fn.func 77) [.ptr false 4 0] [], D.fn (Fn.func 78) [.ptr false 4 0] [], D.fn (Fn.func 79) [.ptr false 4 0] [], D.fn (Fn.func 80) [.ptr false 4 0] [], D.fn (Fn.func 81) [.ptr false 4 0] [], D.fn (Fn.func 82) [.ptr false 4 0] [], D.fn (Fn.func 83) [.ptr false 4 0] []]
def tbYb1 : List (Int × D) := [((2 : Int), .int .i8 0), ((9 : Int), .int .i8 0), ((3 : Int), .int .i8 4), ((10 : Int), .int .i8 4), ((4 : Int), .int .i8 5), ((11 : Int), .int .i8 5), ((8 : Int), .int .i8 5), ((15 : Int), .int .i8 5), ((5 : Int), .int .i8 1), ((12 : Int), .int .i8 1), ((7 : Int), .int .i8 1), ((14 : Int), .int .i8 1), ((6 : Int), .int .i8 10), ((13 : Int), .int .i8 10), ((16 : Int), .int .i8 2), ((17 : Int), .int .i8 6), ((20 : Int), .int .i8 6), ((18 : Int), .int .i8 7), ((21 : Int), .int .i8 7), ((19 : Int), .int .i8 12), ((22 : Int), .int .i8 12), ((23 : Int), .int .i8 8)]
def SpY1b0 (k0_ : Int) : Prop := ∀ (m : MachS) (w dst src base disp imm cc ld : Int) (d0 : 0 ≤ dst) (d1 : dst ≤ 15) (s0 : 0 ≤ src) (s1 : src ≤ 15) (b0 : 0 ≤ base) (b1 : base ≤ 15) (hm : mayX k0_ w dst src base disp imm cc = true) (hw : longM w = true), Ret Tryz.prog 55 ([m.d, xD k0_ w dst src base disp imm cc, .int .u64 ld]) (.tup [(doS (m.at (u64 (m.pc + u64 (lenX k0_ w dst src base disp imm cc)))) ⟨k0_, w, dst, src, base, disp, imm, cc⟩ ld).1.d, .int .i64 0])
theorem exec_3_ok : SpY1b0 3 := by
 intro m w dst src base disp imm cc ld d0 d1 s0 s1 b0 b1 hm hw
 have c0 := @mayX_ok 3 w dst src base disp imm cc (by decide)
 rw [hm] at c0
 have c1 := @xlen_ok 3 w dst src base disp imm cc (by decide)
 have c2 := @bdo_4_ok w (rg (MachS.rl m) dst) (rg (MachS.rl m) src) hw
 have c3 := @fof_ok w (doM 4 w (rg (MachS.rl m) dst) (rg (MachS.rl m) src)) hw
 have c4 := @writes_any_ok 3 w dst src base disp imm cc (by decide)
 exact (o55 (d := .tup [(doS (m.at (u64 (m.pc + u64 (lenX 3 w dst src base disp imm cc)))) ⟨3, w, dst, src, base, disp, imm, cc⟩ ld).1.d, .int .i64 0]) ([.ret _ _ _ c0, tF, .ret _ _ _ c1, tT, .get tbYb0 3 (.nilf) rfl, tT, .inl, .inl, .keep [(4, .box (MachS.cw m (pcX m 3 w dst src base disp imm cc) (xT 3 w dst src base disp imm cc ld)))], .mget tbYb1 3 (some (.int .i8 4)) rfl, .tst _ true (in16 d0 d1), .get _ _ _ (@get_regm m dst ((fT m (pcX m 3 w dst src base disp imm cc) (xT 3 w dst src base disp imm cc ld))) d0 d1), .inl] ++ List.replicate 24 tF ++ [.tst _ true (in16 s0 s1), .get _ _ _ (@get_regm m src ((fT m (pcX m 3 w dst src base disp imm cc) (xT 3 w dst src base disp imm cc ld))) s0 s1), .keep [(4, .box (MachS.cw m (pcX m 3 w dst src base disp imm cc) (xT 3 w dst src base disp imm cc ld)))], .ret _ _ _ c2, tF, tF, tF, tF, tT, tT, .ret _ _ _ c3, .ret _ _ _ c4, tC (nt (@wr_nz 3 w dst src base disp imm cc hm d0 d1 (rfl : true = true))), .tst _ true (in16 d0 d1), .putA _ _ _ _ (@put_regm m dst (doM 4 w (rg (MachS.rl m) dst) (rg (MachS.rl m) src)) ([.bool true, .bool false, .bool (cutM (doM 4 w (rg (MachS.rl m) dst) (rg (MachS.rl m) src)) w == 0), .bool (negM (doM 4 w (rg (MachS.rl m) dst) (rg (MachS.rl m) src)) w), .bool false, .int .u64 (pcX m 3 w dst src base disp imm cc), .int .i8 3, .int .i8 w, .int .i8 dst, .int .i8 src, .int .i8 base, .int .i64 disp, .int .i64 imm, .int .i8 cc, .int .u64 ld]) d0 d1), tF]) (by kernel_rfl))
theorem exec_4_ok : SpY1b0 4 := by
 intro m w dst src base disp imm cc ld d0 d1 s0 s1 b0 b1 hm hw
 have c0 := @mayX_ok 4 w dst src base disp imm cc (by decide)
 rw [hm] at c0
 have c1 := @xlen_ok 4 w dst src base disp imm cc (by decide)
 have c2 := @bdo_5_ok w (rg (MachS.rl m) dst) (rg (MachS.rl m) src) hw
 have c3 := @fof_ok w (doM 5 w (rg (MachS.rl m) dst) (rg (MachS.rl m) src)) hw
 have c4 := @writes_any_ok 4 w dst src base disp imm cc (by decide)
 exact (o55 (d := .tup [(doS (m.at (u64 (m.pc + u64 (lenX 4 w dst src base disp imm cc)))) ⟨4, w, dst, src, base, disp, imm, cc⟩ ld).1.d, .int .i64 0]) ([.ret _ _ _ c0, tF, .ret _ _ _ c1, tT, .get tbYb0 4 (.nilf) rfl, tT, .inl, .inl, .keep [(4, .box (MachS.cw m (pcX m 4 w dst src base disp imm cc) (xT 4 w dst src base disp imm cc ld)))], .mget tbYb1 4 (some (.int .i8 5)) rfl, .tst _ true (in16 d0 d1), .get _ _ _ (@get_regm m dst ((fT m (pcX m 4 w dst src base disp imm cc) (xT 4 w dst src base disp imm cc ld))) d0 d1), .inl] ++ List.replicate 24 tF ++ [.tst _ true (in16 s0 s1), .get _ _ _ (@get_regm m src ((fT m (pcX m 4 w dst src base disp imm cc) (xT 4 w dst src base disp imm cc ld))) s0 s1), .keep [(4, .box (MachS.cw m (pcX m 4 w dst src base disp imm cc) (xT 4 w dst src base disp imm cc ld)))], .ret _ _ _ c2, tF, tF, tF, tF, tF, tT, tT, .ret _ _ _ c3, .ret _ _ _ c4, tC (nt (@wr_nz 4 w dst src base disp imm cc hm d0 d1 (rfl : true = true))), .tst _ true (in16 d0 d1), .putA _ _ _ _ (@put_regm m dst (doM 5 w (rg (MachS.rl m) dst) (rg (MachS.rl m) src)) ([.bool true, .bool false, .bool (cutM (doM 5 w (rg (MachS.rl m) dst) (rg (MachS.rl m) src)) w == 0), .bool (negM (doM 5 w (rg (MachS.rl m) dst) (rg (MachS.rl m) src)) w), .bool false, .int .u64 (pcX m 4 w dst src base disp imm cc), .int .i8 4, .int .i8 w, .int .i8 dst, .int .i8 src, .int .i8 base, .int .i64 disp, .int .i64 imm, .int .i8 cc, .int .u64 ld]) d0 d1), tF]) (by kernel_rfl))
theorem exec_5_ok : SpY1b0 5 := by
 intro m w dst src base disp imm cc ld d0 d1 s0 s1 b0 b1 hm hw
 have c0 := @mayX_ok 5 w dst src base disp imm cc (by decide)
 rw [hm] at c0
 have c1 := @xlen_ok 5 w dst src base disp imm cc (by decide)
 have c2 := @bdo_1_ok w (rg (MachS.rl m) dst) (rg (MachS.rl m) src) hw
 have c3 := @fsub_ok w (rg (MachS.rl m) dst) (rg (MachS.rl m) src) hw
 have c4 := @writes_any_ok 5 w dst src base disp imm cc (by decide)
 exact (o55 (d := .tup [(doS (m.at (u64 (m.pc + u64 (lenX 5 w dst src base disp imm cc)))) ⟨5, w, dst, src, base, disp, imm, cc⟩ ld).1.d, .int .i64 0]) ([.ret _ _ _ c0, tF, .ret _ _ _ c1, tT, .get tbYb0 5 (.nilf) rfl, tT, .inl, .inl, .keep [(4, .box (MachS.cw m (pcX m 5 w dst src base disp imm cc) (xT 5 w dst src base disp imm cc ld)))], .mget tbYb1 5 (some (.int .i8 1)) rfl, .tst _ true (in16 d0 d1), .get _ _ _ (@get_regm m dst ((fT m (pcX m 5 w dst src base disp imm cc) (xT 5 w dst src base disp imm cc ld))) d0 d1), .inl] ++ List.replicate 24 tF ++ [.tst _ true (in16 s0 s1), .get _ _ _ (@get_regm m src ((fT m (pcX m 5 w dst src base disp imm cc) (xT 5 w dst src base disp imm cc ld))) s0 s1), .keep [(4, .box (MachS.cw m (pcX m 5 w dst src base disp imm cc) (xT 5 w dst src base disp imm cc ld)))], .ret _ _ _ c2, tF, tF, tT, .ret _ _ _ c3, .ret _ _ _ c4, tC (nt (@wr_nz 5 w dst src base disp imm cc hm d0 d1 (rfl : true = true))), .tst _ true (in16 d0 d1), .putA _ _ _ _ (@put_regm m dst (doM 1 w (rg (MachS.rl m) dst) (rg (MachS.rl m) src)) ([.bool true, .bool (subC w (rg (MachS.rl m) dst) (rg (MachS.rl m) src)), .bool (cutM (u64 (rg (MachS.rl m) dst - rg (MachS.rl m) src)) w == 0), .bool (negM (u64 (rg (MachS.rl m) dst - rg (MachS.rl m) src)) w), .bool (subO w (rg (MachS.rl m) dst) (rg (MachS.rl m) src)), .int .u64 (pcX m 5 w dst src base disp imm cc), .int .i8 5, .int .i8 w, .int .i8 dst, .int .i8 src, .int .i8 base, .int .i64 disp, .int .i64 imm, .int .i8 cc, .int .u64 ld]) d0 d1), tF]) (by kernel_rfl))
theorem exec_6_ok : SpY1b0 6 := by
 intro m w dst src base disp imm cc ld d0 d1 s0 s1 b0 b1 hm hw
 have c0 := @mayX_ok 6 w dst src base disp imm cc (by decide)
 rw [hm] at c0
 have c1 := @xlen_ok 6 w dst src base disp imm cc (by decide)
 have c2 := @bdo_10_ok w (rg (MachS.rl m) dst) (rg (MachS.rl m) src) hw
 have c3 := @fof_ok w (doM 10 w (rg (MachS.rl m) dst) (rg (MachS.rl m) src)) hw
 have c4 := @writes_any_ok 6 w dst src base disp imm cc (by decide)
 exact (o55 (d := .tup [(doS (m.at (u64 (m.pc + u64 (lenX 6 w dst src base disp imm cc)))) ⟨6, w, dst, src, base, disp, imm, cc⟩ ld).1.d, .int .i64 0]) ([.ret _ _ _ c0, tF, .ret _ _ _ c1, tT, .get tbYb0 6 (.nilf) rfl, tT, .inl, .inl, .keep [(4, .box (MachS.cw m (pcX m 6 w dst src base disp imm cc) (xT 6 w dst src base disp imm cc ld)))], .mget tbYb1 6 (some (.int .i8 10)) rfl, .tst _ true (in16 d0 d1), .get _ _ _ (@get_regm m dst ((fT m (pcX m 6 w dst src base disp imm cc) (xT 6 w dst src base disp imm cc ld))) d0 d1), .inl] ++ List.replicate 24 tF ++ [.tst _ true (in16 s0 s1), .get _ _ _ (@get_regm m src ((fT m (pcX m 6 w dst src base disp imm cc) (xT 6 w dst src base disp imm cc ld))) s0 s1), .keep [(4, .box (MachS.cw m (pcX m 6 w dst src base disp imm cc) (xT 6 w dst src base disp imm cc ld)))], .ret _ _ _ c2, tF, tF, tF, tF, tF, tF, tT, .ret _ _ _ c3, .ret _ _ _ c4, tC (nt (@wr_nz 6 w dst src base disp imm cc hm d0 d1 (rfl : true = true))), .tst _ true (in16 d0 d1), .putA _ _ _ _ (@put_regm m dst (doM 10 w (rg (MachS.rl m) dst) (rg (MachS.rl m) src)) ([.bool true, .bool false, .bool (cutM (doM 10 w (rg (MachS.rl m) dst) (rg (MachS.rl m) src)) w == 0), .bool (negM (doM 10 w (rg (MachS.rl m) dst) (rg (MachS.rl m) src)) w), .bool false, .int .u64 (pcX m 6 w dst src base disp imm cc), .int .i8 6, .int .i8 w, .int .i8 dst, .int .i8 src, .int .i8 base, .int .i64 disp, .int .i64 imm, .int .i8 cc, .int .u64 ld]) d0 d1), tF]) (by kernel_rfl))
theorem exec_7_ok : SpY1b0 7 := by
 intro m w dst src base disp imm cc ld d0 d1 s0 s1 b0 b1 hm hw
 have c0 := @mayX_ok 7 w dst src base disp imm cc (by decide)
 rw [hm] at c0
 have c1 := @xlen_ok 7 w dst src base disp imm cc (by decide)
 have c2 := @bdo_1_ok w (rg (MachS.rl m) dst) (rg (MachS.rl m) src) hw
 have c3 := @fsub_ok w (rg (MachS.rl m) dst) (rg (MachS.rl m) src) hw
 have c4 := @writes_any_ok 7 w dst src base disp imm cc (by decide)
 exact (o55 (d := .tup [(doS (m.at (u64 (m.pc + u64 (lenX 7 w dst src base disp imm cc)))) ⟨7, w, dst, src, base, disp, imm, cc⟩ ld).1.d, .int .i64 0]) ([.ret _ _ _ c0, tF, .ret _ _ _ c1, tT, .get tbYb0 7 (.nilf) rfl, tT, .inl, .inl, .keep [(4, .box (MachS.cw m (pcX m 7 w dst src base disp imm cc) (xT 7 w dst src base disp imm cc ld)))], .mget tbYb1 7 (some (.int .i8 1)) rfl, .tst _ true (in16 d0 d1), .get _ _ _ (@get_regm m dst ((fT m (pcX m 7 w dst src base disp imm cc) (xT 7 w dst src base disp imm cc ld))) d0 d1), .inl] ++ List.replicate 24 tF ++ [.tst _ true (in16 s0 s1), .get _ _ _ (@get_regm m src ((fT m (pcX m 7 w dst src base disp imm cc) (xT 7 w dst src base disp imm cc ld))) s0 s1), .keep [(4, .box (MachS.cw m (pcX m 7 w dst src base disp imm cc) (xT 7 w dst src base disp imm cc ld)))], .ret _ _ _ c2, tF, tF, tT, .ret _ _ _ c3, .ret _ _ _ c4, tC (nt (eqI 0 true (eq_of_beq (@wr_z 7 w dst src base disp imm cc (rfl : false = false))))), tF]) (by kernel_rfl))
theorem exec_8_ok : SpY1b0 8 := by
 intro m w dst src base disp imm cc ld d0 d1 s0 s1 b0 b1 hm hw
 have c0 := @mayX_ok 8 w dst src base disp imm cc (by decide)
 rw [hm] at c0
 have c1 := @xlen_ok 8 w dst src base disp imm cc (by decide)
 have c2 := @bdo_5_ok w (rg (MachS.rl m) dst) (rg (MachS.rl m) src) hw
 have c3 := @fof_ok w (doM 5 w (rg (MachS.rl m) dst) (rg (MachS.rl m) src)) hw
 have c4 := @writes_any_ok 8 w dst src base disp imm cc (by decide)
 exact (o55 (d := .tup [(doS (m.at (u64 (m.pc + u64 (lenX 8 w dst src base disp imm cc)))) ⟨8, w, dst, src, base, disp, imm, cc⟩ ld).1.d, .int .i64 0]) ([.ret _ _ _ c0, tF, .ret _ _ _ c1, tT, .get tbYb0 8 (.nilf) rfl, tT, .inl, .inl, .keep [(4, .box (MachS.cw m (pcX m 8 w dst src base disp imm cc) (xT 8 w dst src base disp imm cc ld)))], .mget tbYb1 8 (some (.int .i8 5)) rfl, .tst _ true (in16 d0 d1), .get _ _ _ (@get_regm m dst ((fT m (pcX m 8 w dst src base disp imm cc) (xT 8 w dst src base disp imm cc ld))) d0 d1), .inl] ++ List.replicate 24 tF ++ [.tst _ true (in16 s0 s1), .get _ _ _ (@get_regm m src ((fT m (pcX m 8 w dst src base disp imm cc) (xT 8 w dst src base disp imm cc ld))) s0 s1), .keep [(4, .box (MachS.cw m (pcX m 8 w dst src base disp imm cc) (xT 8 w dst src base disp imm cc ld)))], .ret _ _ _ c2, tF, tF, tF, tF, tF, tT, tT, .ret _ _ _ c3, .ret _ _ _ c4, tC (nt (eqI 0 true (eq_of_beq (@wr_z 8 w dst src base disp imm cc (rfl : false = false))))), tF]) (by kernel_rfl))
theorem exec_12_ok : SpY1b0 12 := by
 intro m w dst src base disp imm cc ld d0 d1 s0 s1 b0 b1 hm hw
 have c0 := @mayX_ok 12 w dst src base disp imm cc (by decide)
 rw [hm] at c0
 have c1 := @xlen_ok 12 w dst src base disp imm cc (by decide)
 have c2 := @bdo_1_ok w (rg (MachS.rl m) dst) (IntKind.wrap IntKind.u64 imm) hw
 have c3 := @fsub_ok w (rg (MachS.rl m) dst) (IntKind.wrap IntKind.u64 imm) hw
 have c4 := @writes_any_ok 12 w dst src base disp imm cc (by decide)
 exact (o55 (d := .tup [(doS (m.at (u64 (m.pc + u64 (lenX 12 w dst src base disp imm cc)))) ⟨12, w, dst, src, base, disp, imm, cc⟩ ld).1.d, .int .i64 0]) ([.ret _ _ _ c0, tF, .ret _ _ _ c1, tT, .get tbYb0 12 (.nilf) rfl, tT, .inl, .inl, .keep [(4, .box (MachS.cw m (pcX m 12 w dst src base disp imm cc) (xT 12 w dst src base disp imm cc ld)))], .mget tbYb1 12 (some (.int .i8 1)) rfl, .tst _ true (in16 d0 d1), .get _ _ _ (@get_regm m dst ((fT m (pcX m 12 w dst src base disp imm cc) (xT 12 w dst src base disp imm cc ld))) d0 d1), .inl] ++ List.replicate 8 tF ++ List.replicate 9 tT ++ [.keep [(4, .box (MachS.cw m (pcX m 12 w dst src base disp imm cc) (xT 12 w dst src base disp imm cc ld)))], .ret _ _ _ c2, tF, tF, tT, .ret _ _ _ c3, .ret _ _ _ c4, tC (nt (@wr_nz 12 w dst src base disp imm cc hm d0 d1 (rfl : true = true))), .tst _ true (in16 d0 d1), .putA _ _ _ _ (@put_regm m dst (doM 1 w (rg (MachS.rl m) dst) (IntKind.wrap IntKind.u64 imm)) ([.bool true, .bool (subC w (rg (MachS.rl m) dst) (IntKind.wrap IntKind.u64 imm)), .bool (cutM (u64 (rg (MachS.rl m) dst - IntKind.wrap IntKind.u64 imm)) w == 0), .bool (negM (u64 (rg (MachS.rl m) dst - IntKind.wrap IntKind.u64 imm)) w), .bool (subO w (rg (MachS.rl m) dst) (IntKind.wrap IntKind.u64 imm)), .int .u64 (pcX m 12 w dst src base disp imm cc), .int .i8 12, .int .i8 w, .int .i8 dst, .int .i8 src, .int .i8 base, .int .i64 disp, .int .i64 imm, .int .i8 cc, .int .u64 ld]) d0 d1), tF]) (by kernel_rfl))
def tbYc0 : List D := [D.fn (Fn.func 74) [.ptr false 4 0] [], D.fn (Fn.func 75) [.ptr false 4 0] [], D.nilf, D.nilf, D.nilf, D.nilf, D.nilf, D.nilf, D.nilf, D.nilf, D.nilf, D.nilf, D.nilf, D.nilf, D.nilf, D.nilf, D.nilf, D.nilf, D.nilf, D.nilf, D.nilf, D.nilf, D.nilf, D.nilf, D.fn (Fn.func 76) [.ptr false 4 0] [], D.fn (Fn.func 77) [.ptr false 4 0] [], D.fn (Fn.func 78) [.ptr false 4 0] [], D.fn (Fn.func 79) [.ptr false 4 0] [], D.fn (Fn.func 80) [.ptr false 4 0] [], D.fn (Fn.func 81) [.ptr false 4 0] [], D.fn (Fn.func 82) [.ptr false 4 0] [], D.fn (Fn.func 83) [.ptr false 4 0] []]
def tbYc1 : List (Int × D) := [((2 : Int), .int .i8 0), ((9 : Int), .int .i8 0), ((3 : Int), .int .i8 4), ((10 : Int), .int .i8 4), ((4 : Int), .int .i8 5), ((11 : Int), .int .i8 5), ((8 : Int), .int .i8 5), ((15 : Int), .int .i8 5), ((5 : Int), .int .i8 1), ((12 : Int), .int .i8 1), ((7 : Int), .int .i8 1), ((14 : Int), .int .i8 1), ((6 : Int), .int .i8 10), ((13 : Int), .int .i8 10), ((16 : Int), .int .i8 2), ((17 : Int), .int .i8 6), ((20 : Int), .int .i8 6), ((18 : Int), .int .i8 7), ((21 : Int), .int .i8 7), ((19 : Int), .int .i8 12), ((22 : Int), .int .i8 12), ((23 : Int), .int .i8 8)]
def SpY1c0 (k0_ : Int) : Prop := ∀ (m : MachS) (w dst src base disp imm cc ld : Int) (d0 : 0 ≤ dst) (d1 : dst ≤ 15) (s0 : 0 ≤ src) (s1 : src ≤ 15) (b0 : 0 ≤ base) (b1 : base ≤ 15) (hm : mayX k0_ w dst src base disp imm cc = true) (hw : longM w = true), Ret Tryz.prog 55 ([m.d, xD k0_ w dst src base disp imm cc, .int .u64 ld]) (.tup [(doS (m.at (u64 (m.pc + u64 (lenX k0_ w dst src base disp imm cc)))) ⟨k0_, w, dst, src, base, disp, imm, cc⟩ ld).1.d, .int .i64 0])
theorem exec_17_ok : SpY1c0 17 := by
 intro m w dst src base disp imm cc ld d0 d1 s0 s1 b0 b1 hm hw
 have c0 := @mayX_ok 17 w dst src base disp imm cc (by decide)
 rw [hm] at c0
 have c1 := @xlen_ok 17 w dst src base disp imm cc (by decide)
 have c2 := @bdo_6_ok w (rg (MachS.rl m) dst) (IntKind.wrap IntKind.u64 imm) hw
 have c3 := @fnone_ok
 have c4 := @writes_any_ok 17 w dst src base disp imm cc (by decide)
 exact (o55 (d := .tup [(doS (m.at (u64 (m.pc + u64 (lenX 17 w dst src base disp imm cc)))) ⟨17, w, dst, src, base, disp, imm, cc⟩ ld).1.d, .int .i64 0]) ([.ret _ _ _ c0, tF, .ret _ _ _ c1, tT, .get tbYc0 17 (.nilf) rfl, tT, .inl, .inl, .keep [(4, .box (MachS.cw m (pcX m 17 w dst src base disp imm cc) (xT 17 w dst src base disp imm cc ld)))], .mget tbYc1 17 (some (.int .i8 6)) rfl, .tst _ true (in16 d0 d1), .get _ _ _ (@get_regm m dst ((fT m (pcX m 17 w dst src base disp imm cc) (xT 17 w dst src base disp imm cc ld))) d0 d1), .inl] ++ List.replicate 8 tF ++ [tT, tT, tT, tT, tT, tT, tT, tF] ++ List.replicate 8 tT ++ [.keep [(4, .box (MachS.cw m (pcX m 17 w dst src base disp imm cc) (xT 17 w dst src base disp imm cc ld)))], .ret _ _ _ c2, tF, tF, tF, tF, tF, tF, tF, .ret _ _ _ c3, .ret _ _ _ c4, tC (nt (@wr_nz 17 w dst src base disp imm cc hm d0 d1 (rfl : true = true))), .tst _ true (in16 d0 d1), .putA _ _ _ _ (@put_regm m dst (doM 6 w (rg (MachS.rl m) dst) (IntKind.wrap IntKind.u64 imm)) ([.bool false, .bool false, .bool false, .bool false, .bool false, .int .u64 (pcX m 17 w dst src base disp imm cc), .int .i8 17, .int .i8 w, .int .i8 dst, .int .i8 src, .int .i8 base, .int .i64 disp, .int .i64 imm, .int .i8 cc, .int .u64 ld]) d0 d1), tF]) (by kernel_rfl))
theorem exec_18_ok : SpY1c0 18 := by
 intro m w dst src base disp imm cc ld d0 d1 s0 s1 b0 b1 hm hw
 have c0 := @mayX_ok 18 w dst src base disp imm cc (by decide)
 rw [hm] at c0
 have c1 := @xlen_ok 18 w dst src base disp imm cc (by decide)
 have c2 := @bdo_7_ok w (rg (MachS.rl m) dst) (IntKind.wrap IntKind.u64 imm) hw
 have c3 := @fnone_ok
 have c4 := @writes_any_ok 18 w dst src base disp imm cc (by decide)
 exact (o55 (d := .tup [(doS (m.at (u64 (m.pc + u64 (lenX 18 w dst src base disp imm cc)))) ⟨18, w, dst, src, base, disp, imm, cc⟩ ld).1.d, .int .i64 0]) ([.ret _ _ _ c0, tF, .ret _ _ _ c1, tT, .get tbYc0 18 (.nilf) rfl, tT, .inl, .inl, .keep [(4, .box (MachS.cw m (pcX m 18 w dst src base disp imm cc) (xT 18 w dst src base disp imm cc ld)))], .mget tbYc1 18 (some (.int .i8 7)) rfl, .tst _ true (in16 d0 d1), .get _ _ _ (@get_regm m dst ((fT m (pcX m 18 w dst src base disp imm cc) (xT 18 w dst src base disp imm cc ld))) d0 d1), .inl] ++ List.replicate 8 tF ++ [tT, tT, tT, tT, tT, tT, tT, tF] ++ List.replicate 8 tT ++ [.keep [(4, .box (MachS.cw m (pcX m 18 w dst src base disp imm cc) (xT 18 w dst src base disp imm cc ld)))], .ret _ _ _ c2, tF, tF, tF, tF, tF, tF, tF, .ret _ _ _ c3, .ret _ _ _ c4, tC (nt (@wr_nz 18 w dst src base disp imm cc hm d0 d1 (rfl : true = true))), .tst _ true (in16 d0 d1), .putA _ _ _ _ (@put_regm m dst (doM 7 w (rg (MachS.rl m) dst) (IntKind.wrap IntKind.u64 imm)) ([.bool false, .bool false, .bool false, .bool false, .bool false, .int .u64 (pcX m 18 w dst src base disp imm cc), .int .i8 18, .int .i8 w, .int .i8 dst, .int .i8 src, .int .i8 base, .int .i64 disp, .int .i64 imm, .int .i8 cc, .int .u64 ld]) d0 d1), tF]) (by kernel_rfl))
theorem exec_19_ok : SpY1c0 19 := by
 intro m w dst src base disp imm cc ld d0 d1 s0 s1 b0 b1 hm hw
 have c0 := @mayX_ok 19 w dst src base disp imm cc (by decide)
 rw [hm] at c0
 have c1 := @xlen_ok 19 w dst src base disp imm cc (by decide)
 have c2 := @bdo_12_ok w (rg (MachS.rl m) dst) (IntKind.wrap IntKind.u64 imm) hw
 have c3 := @fnone_ok
 have c4 := @writes_any_ok 19 w dst src base disp imm cc (by decide)
 exact (o55 (d := .tup [(doS (m.at (u64 (m.pc + u64 (lenX 19 w dst src base disp imm cc)))) ⟨19, w, dst, src, base, disp, imm, cc⟩ ld).1.d, .int .i64 0]) ([.ret _ _ _ c0, tF, .ret _ _ _ c1, tT, .get tbYc0 19 (.nilf) rfl, tT, .inl, .inl, .keep [(4, .box (MachS.cw m (pcX m 19 w dst src base disp imm cc) (xT 19 w dst src base disp imm cc ld)))], .mget tbYc1 19 (some (.int .i8 12)) rfl, .tst _ true (in16 d0 d1), .get _ _ _ (@get_regm m dst ((fT m (pcX m 19 w dst src base disp imm cc) (xT 19 w dst src base disp imm cc ld))) d0 d1), .inl] ++ List.replicate 8 tF ++ [tT, tT, tT, tT, tT, tT, tT, tF] ++ List.replicate 8 tT ++ [.keep [(4, .box (MachS.cw m (pcX m 19 w dst src base disp imm cc) (xT 19 w dst src base disp imm cc ld)))], .ret _ _ _ c2, tF, tF, tF, tF, tF, tF, tF, .ret _ _ _ c3, .ret _ _ _ c4, tC (nt (@wr_nz 19 w dst src base disp imm cc hm d0 d1 (rfl : true = true))), .tst _ true (in16 d0 d1), .putA _ _ _ _ (@put_regm m dst (doM 12 w (rg (MachS.rl m) dst) (IntKind.wrap IntKind.u64 imm)) ([.bool false, .bool false, .bool false, .bool false, .bool false, .int .u64 (pcX m 19 w dst src base disp imm cc), .int .i8 19, .int .i8 w, .int .i8 dst, .int .i8 src, .int .i8 base, .int .i64 disp, .int .i64 imm, .int .i8 cc, .int .u64 ld]) d0 d1), tF]) (by kernel_rfl))
theorem exec_20_ok : SpY1c0 20 := by
 intro m w dst src base disp imm cc ld d0 d1 s0 s1 b0 b1 hm hw
 have c0 := @mayX_ok 20 w dst src base disp imm cc (by decide)
 rw [hm] at c0
 have c1 := @xlen_ok 20 w dst src base disp imm cc (by decide)
 have c2 := @bdo_6_ok w (rg (MachS.rl m) dst) (MachS.q1 m) hw
 have c3 := @fnone_ok
 have c4 := @writes_any_ok 20 w dst src base disp imm cc (by decide)
 exact (o55 (d := .tup [(doS (m.at (u64 (m.pc + u64 (lenX 20 w dst src base disp imm cc)))) ⟨20, w, dst, src, base, disp, imm, cc⟩ ld).1.d, .int .i64 0]) ([.ret _ _ _ c0, tF, .ret _ _ _ c1, tT, .get tbYc0 20 (.nilf) rfl, tT, .inl, .inl, .keep [(4, .box (MachS.cw m (pcX m 20 w dst src base disp imm cc) (xT 20 w dst src base disp imm cc ld)))], .mget tbYc1 20 (some (.int .i8 6)) rfl, .tst _ true (in16 d0 d1), .get _ _ _ (@get_regm m dst ((fT m (pcX m 20 w dst src base disp imm cc) (xT 20 w dst src base disp imm cc ld))) d0 d1), .inl] ++ List.replicate 8 tT ++ [.keep [(4, .box (MachS.cw m (pcX m 20 w dst src base disp imm cc) (xT 20 w dst src base disp imm cc ld)))], .ret _ _ _ c2, tF, tF, tF, tF, tF, tF, tF, .ret _ _ _ c3, .ret _ _ _ c4, tC (nt (@wr_nz 20 w dst src base disp imm cc hm d0 d1 (rfl : true = true))), .tst _ true (in16 d0 d1), .putA _ _ _ _ (@put_regm m dst (doM 6 w (rg (MachS.rl m) dst) (MachS.q1 m)) ([.bool false, .bool false, .bool false, .bool false, .bool false, .int .u64 (pcX m 20 w dst src base disp imm cc), .int .i8 20, .int .i8 w, .int .i8 dst, .int .i8 src, .int .i8 base, .int .i64 disp, .int .i64 imm, .int .i8 cc, .int .u64 ld]) d0 d1), tF]) (by kernel_rfl))
theorem exec_21_ok : SpY1c0 21 := by
 intro m w dst src base disp imm cc ld d0 d1 s0 s1 b0 b1 hm hw
 have c0 := @mayX_ok 21 w dst src base disp imm cc (by decide)
 rw [hm] at c0
 have c1 := @xlen_ok 21 w dst src base disp imm cc (by decide)
 have c2 := @bdo_7_ok w (rg (MachS.rl m) dst) (MachS.q1 m) hw
 have c3 := @fnone_ok
 have c4 := @writes_any_ok 21 w dst src base disp imm cc (by decide)
 exact (o55 (d := .tup [(doS (m.at (u64 (m.pc + u64 (lenX 21 w dst src base disp imm cc)))) ⟨21, w, dst, src, base, disp, imm, cc⟩ ld).1.d, .int .i64 0]) ([.ret _ _ _ c0, tF, .ret _ _ _ c1, tT, .get tbYc0 21 (.nilf) rfl, tT, .inl, .inl, .keep [(4, .box (MachS.cw m (pcX m 21 w dst src base disp imm cc) (xT 21 w dst src base disp imm cc ld)))], .mget tbYc1 21 (some (.int .i8 7)) rfl, .tst _ true (in16 d0 d1), .get _ _ _ (@get_regm m dst ((fT m (pcX m 21 w dst src base disp imm cc) (xT 21 w dst src base disp imm cc ld))) d0 d1), .inl] ++ List.replicate 8 tT ++ [.keep [(4, .box (MachS.cw m (pcX m 21 w dst src base disp imm cc) (xT 21 w dst src base disp imm cc ld)))], .ret _ _ _ c2, tF, tF, tF, tF, tF, tF, tF, .ret _ _ _ c3, .ret _ _ _ c4, tC (nt (@wr_nz 21 w dst src base disp imm cc hm d0 d1 (rfl : true = true))), .tst _ true (in16 d0 d1), .putA _ _ _ _ (@put_regm m dst (doM 7 w (rg (MachS.rl m) dst) (MachS.q1 m)) ([.bool false, .bool false, .bool false, .bool false, .bool false, .int .u64 (pcX m 21 w dst src base disp imm cc), .int .i8 21, .int .i8 w, .int .i8 dst, .int .i8 src, .int .i8 base, .int .i64 disp, .int .i64 imm, .int .i8 cc, .int .u64 ld]) d0 d1), tF]) (by kernel_rfl))
theorem exec_22_ok : SpY1c0 22 := by
 intro m w dst src base disp imm cc ld d0 d1 s0 s1 b0 b1 hm hw
 have c0 := @mayX_ok 22 w dst src base disp imm cc (by decide)
 rw [hm] at c0
 have c1 := @xlen_ok 22 w dst src base disp imm cc (by decide)
 have c2 := @bdo_12_ok w (rg (MachS.rl m) dst) (MachS.q1 m) hw
 have c3 := @fnone_ok
 have c4 := @writes_any_ok 22 w dst src base disp imm cc (by decide)
 exact (o55 (d := .tup [(doS (m.at (u64 (m.pc + u64 (lenX 22 w dst src base disp imm cc)))) ⟨22, w, dst, src, base, disp, imm, cc⟩ ld).1.d, .int .i64 0]) ([.ret _ _ _ c0, tF, .ret _ _ _ c1, tT, .get tbYc0 22 (.nilf) rfl, tT, .inl, .inl, .keep [(4, .box (MachS.cw m (pcX m 22 w dst src base disp imm cc) (xT 22 w dst src base disp imm cc ld)))], .mget tbYc1 22 (some (.int .i8 12)) rfl, .tst _ true (in16 d0 d1), .get _ _ _ (@get_regm m dst ((fT m (pcX m 22 w dst src base disp imm cc) (xT 22 w dst src base disp imm cc ld))) d0 d1), .inl] ++ List.replicate 8 tT ++ [.keep [(4, .box (MachS.cw m (pcX m 22 w dst src base disp imm cc) (xT 22 w dst src base disp imm cc ld)))], .ret _ _ _ c2, tF, tF, tF, tF, tF, tF, tF, .ret _ _ _ c3, .ret _ _ _ c4, tC (nt (@wr_nz 22 w dst src base disp imm cc hm d0 d1 (rfl : true = true))), .tst _ true (in16 d0 d1), .putA _ _ _ _ (@put_regm m dst (doM 12 w (rg (MachS.rl m) dst) (MachS.q1 m)) ([.bool false, .bool false, .bool false, .bool false, .bool false, .int .u64 (pcX m 22 w dst src base disp imm cc), .int .i8 22, .int .i8 w, .int .i8 dst, .int .i8 src, .int .i8 base, .int .i64 disp, .int .i64 imm, .int .i8 cc, .int .u64 ld]) d0 d1), tF]) (by kernel_rfl))
theorem exec_23_ok : SpY1c0 23 := by
 intro m w dst src base disp imm cc ld d0 d1 s0 s1 b0 b1 hm hw
 have c0 := @mayX_ok 23 w dst src base disp imm cc (by decide)
 rw [hm] at c0
 have c1 := @xlen_ok 23 w dst src base disp imm cc (by decide)
 have c2 := @bdo_8_ok w (rg (MachS.rl m) dst) (rg (MachS.rl m) src) hw
 have c3 := @fsub_ok w 0 (rg (MachS.rl m) dst) hw
 have c4 := @writes_any_ok 23 w dst src base disp imm cc (by decide)
 exact (o55 (d := .tup [(doS (m.at (u64 (m.pc + u64 (lenX 23 w dst src base disp imm cc)))) ⟨23, w, dst, src, base, disp, imm, cc⟩ ld).1.d, .int .i64 0]) ([.ret _ _ _ c0, tF, .ret _ _ _ c1, tT, .get tbYc0 23 (.nilf) rfl, tT, .inl, .inl, .keep [(4, .box (MachS.cw m (pcX m 23 w dst src base disp imm cc) (xT 23 w dst src base disp imm cc ld)))], .mget tbYc1 23 (some (.int .i8 8)) rfl, .tst _ true (in16 d0 d1), .get _ _ _ (@get_regm m dst ((fT m (pcX m 23 w dst src base disp imm cc) (xT 23 w dst src base disp imm cc ld))) d0 d1), .inl, tT, tT, tT, tT, tT, tT, tT, tF, tT, tT, tT, tT, tT, tT, tT, tF, tT, tT, tT, tT, tT, tT, tT, tF, .tst _ true (in16 s0 s1), .get _ _ _ (@get_regm m src ((fT m (pcX m 23 w dst src base disp imm cc) (xT 23 w dst src base disp imm cc ld))) s0 s1), .keep [(4, .box (MachS.cw m (pcX m 23 w dst src base disp imm cc) (xT 23 w dst src base disp imm cc ld)))], .ret _ _ _ c2, tF, tF, tF, tT, .ret _ _ _ c3, .ret _ _ _ c4, tC (nt (@wr_nz 23 w dst src base disp imm cc hm d0 d1 (rfl : true = true))), .tst _ true (in16 d0 d1), .putA _ _ _ _ (@put_regm m dst (doM 8 w (rg (MachS.rl m) dst) (rg (MachS.rl m) src)) ([.bool true, .bool (subC w 0 (rg (MachS.rl m) dst)), .bool (cutM (u64 (0 - rg (MachS.rl m) dst)) w == 0), .bool (negM (u64 (0 - rg (MachS.rl m) dst)) w), .bool (subO w 0 (rg (MachS.rl m) dst)), .int .u64 (pcX m 23 w dst src base disp imm cc), .int .i8 23, .int .i8 w, .int .i8 dst, .int .i8 src, .int .i8 base, .int .i64 disp, .int .i64 imm, .int .i8 cc, .int .u64 ld]) d0 d1)] ++ [tF]) (by kernel_rfl))
end Go.Proofs.YtkpneibifdoecaaGreat
