/- Contracts and plain laws that a statement's proof leans on (texts merged: XB2c, XB2d, XB2e, XBytes, XB3, XBytes2, XLen, LR1, LR2, LB3, LB3A, LR2A). -/
import Derived.Test.YtcngafhpodeenaaP05
import Derived.Test.YtcngafhpodeenaaP08
import Derived.Test.YtcngafhpodeenaaP09
set_option linter.unusedVariables false
set_option linter.unusedSimpArgs false
set_option maxRecDepth 100000
set_option maxHeartbeats 8000000
namespace Go.Proofs.Ytcngafhpodeenaa
open Go Go.Ev
theorem bytesO_26_ok (w dst src base disp imm cc : Int) (d0 : 0 ≤ dst) (d1 : dst ≤ 15) (s0 : 0 ≤ src) (s1 : src ≤ 15) (b0 : 0 ≤ base) (b1 : base ≤ 15) (p0 : -2147483648 ≤ disp) (p1 : disp ≤ 2147483647) (i0 : -2147483648 ≤ imm) (i1 : imm ≤ 2147483647) (c0 : 0 ≤ cc) (c1 : cc ≤ 15) (hm : mayX 26 w dst src base disp imm cc = true) : Ret Try.prog 21 ([xD 26 w dst src base disp imm cc]) (.tup [.lst .no 1 (bD (bytesM 26 w dst src base disp imm cc)), .int .i64 0]) := by
 have c0 := @mayX_ok 26 w dst src base disp imm cc (by decide)
 rw [hm] at c0
 have c1 := @of_any_ok 26 (by decide)
 let E1 : EL := [.ret _ _ _ c0, tF, .ret _ _ _ c1, tF, tF, tF, tF, tF, tF, tT]
 by_cases h2 : w = 8
 ·subst h2
  rcases bft (needM false dst base false) with h3 | h3
  ·have c4 := @rex_yes_ok dst base d0 d1 b0 b1 false false h3
   generalize g6 : rexB false dst base = r5 at c4
   rcases bft (decide (base % 8 = 4)) with h7 | h7
   ·have c8 := @mMem_4_ok dst base disp d0 d1 b0 b1 p0 p1 h7
    exact (o21 (d := .tup [.lst (.fresh 1) 1 [.int .u8 r5, .int .u8 15, .int .u8 182, .int .u8 (128 + 8 * (dst % 8) + base % 8), .int .u8 36, .int .u8 (disp % 256), .int .u8 (disp / 256 % 256), .int .u8 (disp / 65536 % 256), .int .u8 (disp / 16777216 % 256)], .int .i64 0]) (E1 ++ [tT, .ret _ _ _ c4, .inl, .ret _ _ _ c8, .inl, .go 64, tT, tT, .get ([.lst .tight 1 [.int .u8 r5], .lst .tight 1 [.int .u8 15, .int .u8 182], .lst .no 1 [.int .u8 (128 + 8 * (dst % 8) + base % 8), .int .u8 36, .int .u8 (disp % 256), .int .u8 (disp / 256 % 256), .int .u8 (disp / 65536 % 256), .int .u8 (disp / 16777216 % 256)]]) 0 _ rfl, .len 1 2147483648 (by decide), tT, tT, .get ([.lst .tight 1 [.int .u8 r5], .lst .tight 1 [.int .u8 15, .int .u8 182], .lst .no 1 [.int .u8 (128 + 8 * (dst % 8) + base % 8), .int .u8 36, .int .u8 (disp % 256), .int .u8 (disp / 256 % 256), .int .u8 (disp / 65536 % 256), .int .u8 (disp / 16777216 % 256)]]) 1 _ rfl, .len 3 2147483648 (by decide), tT, tT, .get ([.lst .tight 1 [.int .u8 r5], .lst .tight 1 [.int .u8 15, .int .u8 182], .lst .no 1 [.int .u8 (128 + 8 * (dst % 8) + base % 8), .int .u8 36, .int .u8 (disp % 256), .int .u8 (disp / 256 % 256), .int .u8 (disp / 65536 % 256), .int .u8 (disp / 16777216 % 256)]]) 2 _ rfl, .len 9 2147483648 (by decide), tF]) (by kernel_rfl)).to (by clear E1; subst_vars; (try simp only [beq_dec] at *); (try simp only [beq_iff_eq] at h); (try simp only [decide_eq_true_eq, decide_eq_false_iff_not] at *); simp_all [wk, wkL, wkO, bytesM, show shapeM 26 = 7 from rfl, codeM, bD, rexM, memM, fourM, w_u8])
   have c9 := @mMem_n_ok dst base disp d0 d1 b0 b1 p0 p1 h7
   exact (o21 (d := .tup [.lst (.fresh 1) 1 [.int .u8 r5, .int .u8 15, .int .u8 182, .int .u8 (128 + 8 * (dst % 8) + base % 8), .int .u8 (disp % 256), .int .u8 (disp / 256 % 256), .int .u8 (disp / 65536 % 256), .int .u8 (disp / 16777216 % 256)], .int .i64 0]) (E1 ++ [tT, .ret _ _ _ c4, .inl, .ret _ _ _ c9, .inl, .go 64, tT, tT, .get ([.lst .tight 1 [.int .u8 r5], .lst .tight 1 [.int .u8 15, .int .u8 182], .lst .no 1 [.int .u8 (128 + 8 * (dst % 8) + base % 8), .int .u8 (disp % 256), .int .u8 (disp / 256 % 256), .int .u8 (disp / 65536 % 256), .int .u8 (disp / 16777216 % 256)]]) 0 _ rfl, .len 1 2147483648 (by decide), tT, tT, .get ([.lst .tight 1 [.int .u8 r5], .lst .tight 1 [.int .u8 15, .int .u8 182], .lst .no 1 [.int .u8 (128 + 8 * (dst % 8) + base % 8), .int .u8 (disp % 256), .int .u8 (disp / 256 % 256), .int .u8 (disp / 65536 % 256), .int .u8 (disp / 16777216 % 256)]]) 1 _ rfl, .len 3 2147483648 (by decide), tT, tT, .get ([.lst .tight 1 [.int .u8 r5], .lst .tight 1 [.int .u8 15, .int .u8 182], .lst .no 1 [.int .u8 (128 + 8 * (dst % 8) + base % 8), .int .u8 (disp % 256), .int .u8 (disp / 256 % 256), .int .u8 (disp / 65536 % 256), .int .u8 (disp / 16777216 % 256)]]) 2 _ rfl, .len 8 2147483648 (by decide), tF]) (by kernel_rfl)).to (by clear E1; subst_vars; (try simp only [beq_dec] at *); (try simp only [beq_iff_eq] at h); (try simp only [decide_eq_true_eq, decide_eq_false_iff_not] at *); simp_all [wk, wkL, wkO, bytesM, show shapeM 26 = 7 from rfl, codeM, bD, rexM, memM, fourM, w_u8])
  have c10 := @rex_no_ok dst base d0 d1 b0 b1 false false h3
  rcases bft (decide (base % 8 = 4)) with h11 | h11
  ·have c12 := @mMem_4_ok dst base disp d0 d1 b0 b1 p0 p1 h11
   exact (o21 (d := .tup [.lst (.fresh 1) 1 [.int .u8 15, .int .u8 182, .int .u8 (128 + 8 * (dst % 8) + base % 8), .int .u8 36, .int .u8 (disp % 256), .int .u8 (disp / 256 % 256), .int .u8 (disp / 65536 % 256), .int .u8 (disp / 16777216 % 256)], .int .i64 0]) (E1 ++ [tT, .ret _ _ _ c10, .inl, .ret _ _ _ c12, .inl, .go 64, tT, tT, .get ([.lst .tight 1 [], .lst .tight 1 [.int .u8 15, .int .u8 182], .lst .no 1 [.int .u8 (128 + 8 * (dst % 8) + base % 8), .int .u8 36, .int .u8 (disp % 256), .int .u8 (disp / 256 % 256), .int .u8 (disp / 65536 % 256), .int .u8 (disp / 16777216 % 256)]]) 0 _ rfl, .len 0 2147483648 (by decide), tT, tT, .get ([.lst .tight 1 [], .lst .tight 1 [.int .u8 15, .int .u8 182], .lst .no 1 [.int .u8 (128 + 8 * (dst % 8) + base % 8), .int .u8 36, .int .u8 (disp % 256), .int .u8 (disp / 256 % 256), .int .u8 (disp / 65536 % 256), .int .u8 (disp / 16777216 % 256)]]) 1 _ rfl, .len 2 2147483648 (by decide), tT, tT, .get ([.lst .tight 1 [], .lst .tight 1 [.int .u8 15, .int .u8 182], .lst .no 1 [.int .u8 (128 + 8 * (dst % 8) + base % 8), .int .u8 36, .int .u8 (disp % 256), .int .u8 (disp / 256 % 256), .int .u8 (disp / 65536 % 256), .int .u8 (disp / 16777216 % 256)]]) 2 _ rfl, .len 8 2147483648 (by decide), tF]) (by kernel_rfl)).to (by clear E1; subst_vars; (try simp only [beq_dec] at *); (try simp only [beq_iff_eq] at h); (try simp only [decide_eq_true_eq, decide_eq_false_iff_not] at *); simp_all [wk, wkL, wkO, bytesM, show shapeM 26 = 7 from rfl, codeM, bD, rexM, memM, fourM, w_u8])
  have c13 := @mMem_n_ok dst base disp d0 d1 b0 b1 p0 p1 h11
  exact (o21 (d := .tup [.lst (.fresh 1) 1 [.int .u8 15, .int .u8 182, .int .u8 (128 + 8 * (dst % 8) + base % 8), .int .u8 (disp % 256), .int .u8 (disp / 256 % 256), .int .u8 (disp / 65536 % 256), .int .u8 (disp / 16777216 % 256)], .int .i64 0]) (E1 ++ [tT, .ret _ _ _ c10, .inl, .ret _ _ _ c13, .inl, .go 64, tT, tT, .get ([.lst .tight 1 [], .lst .tight 1 [.int .u8 15, .int .u8 182], .lst .no 1 [.int .u8 (128 + 8 * (dst % 8) + base % 8), .int .u8 (disp % 256), .int .u8 (disp / 256 % 256), .int .u8 (disp / 65536 % 256), .int .u8 (disp / 16777216 % 256)]]) 0 _ rfl, .len 0 2147483648 (by decide), tT, tT, .get ([.lst .tight 1 [], .lst .tight 1 [.int .u8 15, .int .u8 182], .lst .no 1 [.int .u8 (128 + 8 * (dst % 8) + base % 8), .int .u8 (disp % 256), .int .u8 (disp / 256 % 256), .int .u8 (disp / 65536 % 256), .int .u8 (disp / 16777216 % 256)]]) 1 _ rfl, .len 2 2147483648 (by decide), tT, tT, .get ([.lst .tight 1 [], .lst .tight 1 [.int .u8 15, .int .u8 182], .lst .no 1 [.int .u8 (128 + 8 * (dst % 8) + base % 8), .int .u8 (disp % 256), .int .u8 (disp / 256 % 256), .int .u8 (disp / 65536 % 256), .int .u8 (disp / 16777216 % 256)]]) 2 _ rfl, .len 7 2147483648 (by decide), tF]) (by kernel_rfl)).to (by clear E1; subst_vars; (try simp only [beq_dec] at *); (try simp only [beq_iff_eq] at h); (try simp only [decide_eq_true_eq, decide_eq_false_iff_not] at *); simp_all [wk, wkL, wkO, bytesM, show shapeM 26 = 7 from rfl, codeM, bD, rexM, memM, fourM, w_u8])
 let E2 : EL := E1 ++ [tC (neOf h2)]
 by_cases h14 : w = 16
 ·subst h14
  rcases bft (needM false dst base false) with h15 | h15
  ·have c16 := @rex_yes_ok dst base d0 d1 b0 b1 false false h15
   generalize g18 : rexB false dst base = r17 at c16
   rcases bft (decide (base % 8 = 4)) with h19 | h19
   ·have c20 := @mMem_4_ok dst base disp d0 d1 b0 b1 p0 p1 h19
    exact (o21 (d := .tup [.lst (.fresh 1) 1 [.int .u8 r17, .int .u8 15, .int .u8 183, .int .u8 (128 + 8 * (dst % 8) + base % 8), .int .u8 36, .int .u8 (disp % 256), .int .u8 (disp / 256 % 256), .int .u8 (disp / 65536 % 256), .int .u8 (disp / 16777216 % 256)], .int .i64 0]) (E2 ++ [tT, .ret _ _ _ c16, .inl, .ret _ _ _ c20, .inl, .go 64, tT, tT, .get ([.lst .tight 1 [.int .u8 r17], .lst .tight 1 [.int .u8 15, .int .u8 183], .lst .no 1 [.int .u8 (128 + 8 * (dst % 8) + base % 8), .int .u8 36, .int .u8 (disp % 256), .int .u8 (disp / 256 % 256), .int .u8 (disp / 65536 % 256), .int .u8 (disp / 16777216 % 256)]]) 0 _ rfl, .len 1 2147483648 (by decide), tT, tT, .get ([.lst .tight 1 [.int .u8 r17], .lst .tight 1 [.int .u8 15, .int .u8 183], .lst .no 1 [.int .u8 (128 + 8 * (dst % 8) + base % 8), .int .u8 36, .int .u8 (disp % 256), .int .u8 (disp / 256 % 256), .int .u8 (disp / 65536 % 256), .int .u8 (disp / 16777216 % 256)]]) 1 _ rfl, .len 3 2147483648 (by decide), tT, tT, .get ([.lst .tight 1 [.int .u8 r17], .lst .tight 1 [.int .u8 15, .int .u8 183], .lst .no 1 [.int .u8 (128 + 8 * (dst % 8) + base % 8), .int .u8 36, .int .u8 (disp % 256), .int .u8 (disp / 256 % 256), .int .u8 (disp / 65536 % 256), .int .u8 (disp / 16777216 % 256)]]) 2 _ rfl, .len 9 2147483648 (by decide), tF]) (by kernel_rfl)).to (by clear E1 E2; subst_vars; (try simp only [beq_dec] at *); (try simp only [beq_iff_eq] at h); (try simp only [decide_eq_true_eq, decide_eq_false_iff_not] at *); simp_all [wk, wkL, wkO, bytesM, show shapeM 26 = 7 from rfl, codeM, bD, rexM, memM, fourM, w_u8])
   have c21 := @mMem_n_ok dst base disp d0 d1 b0 b1 p0 p1 h19
   exact (o21 (d := .tup [.lst (.fresh 1) 1 [.int .u8 r17, .int .u8 15, .int .u8 183, .int .u8 (128 + 8 * (dst % 8) + base % 8), .int .u8 (disp % 256), .int .u8 (disp / 256 % 256), .int .u8 (disp / 65536 % 256), .int .u8 (disp / 16777216 % 256)], .int .i64 0]) (E2 ++ [tT, .ret _ _ _ c16, .inl, .ret _ _ _ c21, .inl, .go 64, tT, tT, .get ([.lst .tight 1 [.int .u8 r17], .lst .tight 1 [.int .u8 15, .int .u8 183], .lst .no 1 [.int .u8 (128 + 8 * (dst % 8) + base % 8), .int .u8 (disp % 256), .int .u8 (disp / 256 % 256), .int .u8 (disp / 65536 % 256), .int .u8 (disp / 16777216 % 256)]]) 0 _ rfl, .len 1 2147483648 (by decide), tT, tT, .get ([.lst .tight 1 [.int .u8 r17], .lst .tight 1 [.int .u8 15, .int .u8 183], .lst .no 1 [.int .u8 (128 + 8 * (dst % 8) + base % 8), .int .u8 (disp % 256), .int .u8 (disp / 256 % 256), .int .u8 (disp / 65536 % 256), .int .u8 (disp / 16777216 % 256)]]) 1 _ rfl, .len 3 2147483648 (by decide), tT, tT, .get ([.lst .tight 1 [.int .u8 r17], .lst .tight 1 [.int .u8 15, .int .u8 183], .lst .no 1 [.int .u8 (128 + 8 * (dst % 8) + base % 8), .int .u8 (disp % 256), .int .u8 (disp / 256 % 256), .int .u8 (disp / 65536 % 256), .int .u8 (disp / 16777216 % 256)]]) 2 _ rfl, .len 8 2147483648 (by decide), tF]) (by kernel_rfl)).to (by clear E1 E2; subst_vars; (try simp only [beq_dec] at *); (try simp only [beq_iff_eq] at h); (try simp only [decide_eq_true_eq, decide_eq_false_iff_not] at *); simp_all [wk, wkL, wkO, bytesM, show shapeM 26 = 7 from rfl, codeM, bD, rexM, memM, fourM, w_u8])
  have c22 := @rex_no_ok dst base d0 d1 b0 b1 false false h15
  rcases bft (decide (base % 8 = 4)) with h23 | h23
  ·have c24 := @mMem_4_ok dst base disp d0 d1 b0 b1 p0 p1 h23
   exact (o21 (d := .tup [.lst (.fresh 1) 1 [.int .u8 15, .int .u8 183, .int .u8 (128 + 8 * (dst % 8) + base % 8), .int .u8 36, .int .u8 (disp % 256), .int .u8 (disp / 256 % 256), .int .u8 (disp / 65536 % 256), .int .u8 (disp / 16777216 % 256)], .int .i64 0]) (E2 ++ [tT, .ret _ _ _ c22, .inl, .ret _ _ _ c24, .inl, .go 64, tT, tT, .get ([.lst .tight 1 [], .lst .tight 1 [.int .u8 15, .int .u8 183], .lst .no 1 [.int .u8 (128 + 8 * (dst % 8) + base % 8), .int .u8 36, .int .u8 (disp % 256), .int .u8 (disp / 256 % 256), .int .u8 (disp / 65536 % 256), .int .u8 (disp / 16777216 % 256)]]) 0 _ rfl, .len 0 2147483648 (by decide), tT, tT, .get ([.lst .tight 1 [], .lst .tight 1 [.int .u8 15, .int .u8 183], .lst .no 1 [.int .u8 (128 + 8 * (dst % 8) + base % 8), .int .u8 36, .int .u8 (disp % 256), .int .u8 (disp / 256 % 256), .int .u8 (disp / 65536 % 256), .int .u8 (disp / 16777216 % 256)]]) 1 _ rfl, .len 2 2147483648 (by decide), tT, tT, .get ([.lst .tight 1 [], .lst .tight 1 [.int .u8 15, .int .u8 183], .lst .no 1 [.int .u8 (128 + 8 * (dst % 8) + base % 8), .int .u8 36, .int .u8 (disp % 256), .int .u8 (disp / 256 % 256), .int .u8 (disp / 65536 % 256), .int .u8 (disp / 16777216 % 256)]]) 2 _ rfl, .len 8 2147483648 (by decide), tF]) (by kernel_rfl)).to (by clear E1 E2; subst_vars; (try simp only [beq_dec] at *); (try simp only [beq_iff_eq] at h); (try simp only [decide_eq_true_eq, decide_eq_false_iff_not] at *); simp_all [wk, wkL, wkO, bytesM, show shapeM 26 = 7 from rfl, codeM, bD, rexM, memM, fourM, w_u8])
  have c25 := @mMem_n_ok dst base disp d0 d1 b0 b1 p0 p1 h23
  exact (o21 (d := .tup [.lst (.fresh 1) 1 [.int .u8 15, .int .u8 183, .int .u8 (128 + 8 * (dst % 8) + base % 8), .int .u8 (disp % 256), .int .u8 (disp / 256 % 256), .int .u8 (disp / 65536 % 256), .int .u8 (disp / 16777216 % 256)], .int .i64 0]) (E2 ++ [tT, .ret _ _ _ c22, .inl, .ret _ _ _ c25, .inl, .go 64, tT, tT, .get ([.lst .tight 1 [], .lst .tight 1 [.int .u8 15, .int .u8 183], .lst .no 1 [.int .u8 (128 + 8 * (dst % 8) + base % 8), .int .u8 (disp % 256), .int .u8 (disp / 256 % 256), .int .u8 (disp / 65536 % 256), .int .u8 (disp / 16777216 % 256)]]) 0 _ rfl, .len 0 2147483648 (by decide), tT, tT, .get ([.lst .tight 1 [], .lst .tight 1 [.int .u8 15, .int .u8 183], .lst .no 1 [.int .u8 (128 + 8 * (dst % 8) + base % 8), .int .u8 (disp % 256), .int .u8 (disp / 256 % 256), .int .u8 (disp / 65536 % 256), .int .u8 (disp / 16777216 % 256)]]) 1 _ rfl, .len 2 2147483648 (by decide), tT, tT, .get ([.lst .tight 1 [], .lst .tight 1 [.int .u8 15, .int .u8 183], .lst .no 1 [.int .u8 (128 + 8 * (dst % 8) + base % 8), .int .u8 (disp % 256), .int .u8 (disp / 256 % 256), .int .u8 (disp / 65536 % 256), .int .u8 (disp / 16777216 % 256)]]) 2 _ rfl, .len 7 2147483648 (by decide), tF]) (by kernel_rfl)).to (by clear E1 E2; subst_vars; (try simp only [beq_dec] at *); (try simp only [beq_iff_eq] at h); (try simp only [decide_eq_true_eq, decide_eq_false_iff_not] at *); simp_all [wk, wkL, wkO, bytesM, show shapeM 26 = 7 from rfl, codeM, bD, rexM, memM, fourM, w_u8])
 rcases bft (needM (w == 64) dst base false) with h26 | h26
 ·have c27 := @rex_yes_ok dst base d0 d1 b0 b1 (w == 64) false h26
  generalize g29 : rexB (w == 64) dst base = r28 at c27
  rcases bft (decide (base % 8 = 4)) with h30 | h30
  ·have c31 := @mMem_4_ok dst base disp d0 d1 b0 b1 p0 p1 h30
   exact (o21 (d := .tup [.lst (.fresh 1) 1 [.int .u8 r28, .int .u8 139, .int .u8 (128 + 8 * (dst % 8) + base % 8), .int .u8 36, .int .u8 (disp % 256), .int .u8 (disp / 256 % 256), .int .u8 (disp / 65536 % 256), .int .u8 (disp / 16777216 % 256)], .int .i64 0]) (E2 ++ [tC (neOf h14), .ret _ _ _ c27, .inl, .ret _ _ _ c31, .inl, .go 64, tT, tT, .get ([.lst .tight 1 [.int .u8 r28], .lst .tight 1 [.int .u8 139], .lst .no 1 [.int .u8 (128 + 8 * (dst % 8) + base % 8), .int .u8 36, .int .u8 (disp % 256), .int .u8 (disp / 256 % 256), .int .u8 (disp / 65536 % 256), .int .u8 (disp / 16777216 % 256)]]) 0 _ rfl, .len 1 2147483648 (by decide), tT, tT, .get ([.lst .tight 1 [.int .u8 r28], .lst .tight 1 [.int .u8 139], .lst .no 1 [.int .u8 (128 + 8 * (dst % 8) + base % 8), .int .u8 36, .int .u8 (disp % 256), .int .u8 (disp / 256 % 256), .int .u8 (disp / 65536 % 256), .int .u8 (disp / 16777216 % 256)]]) 1 _ rfl, .len 2 2147483648 (by decide), tT, tT, .get ([.lst .tight 1 [.int .u8 r28], .lst .tight 1 [.int .u8 139], .lst .no 1 [.int .u8 (128 + 8 * (dst % 8) + base % 8), .int .u8 36, .int .u8 (disp % 256), .int .u8 (disp / 256 % 256), .int .u8 (disp / 65536 % 256), .int .u8 (disp / 16777216 % 256)]]) 2 _ rfl, .len 8 2147483648 (by decide), tF]) (by kernel_rfl)).to (by clear E1 E2; subst_vars; (try simp only [beq_dec] at *); (try simp only [beq_iff_eq] at h); (try simp only [decide_eq_true_eq, decide_eq_false_iff_not] at *); simp_all [wk, wkL, wkO, bytesM, show shapeM 26 = 7 from rfl, codeM, bD, rexM, memM, fourM, w_u8])
  have c32 := @mMem_n_ok dst base disp d0 d1 b0 b1 p0 p1 h30
  exact (o21 (d := .tup [.lst (.fresh 1) 1 [.int .u8 r28, .int .u8 139, .int .u8 (128 + 8 * (dst % 8) + base % 8), .int .u8 (disp % 256), .int .u8 (disp / 256 % 256), .int .u8 (disp / 65536 % 256), .int .u8 (disp / 16777216 % 256)], .int .i64 0]) (E2 ++ [tC (neOf h14), .ret _ _ _ c27, .inl, .ret _ _ _ c32, .inl, .go 64, tT, tT, .get ([.lst .tight 1 [.int .u8 r28], .lst .tight 1 [.int .u8 139], .lst .no 1 [.int .u8 (128 + 8 * (dst % 8) + base % 8), .int .u8 (disp % 256), .int .u8 (disp / 256 % 256), .int .u8 (disp / 65536 % 256), .int .u8 (disp / 16777216 % 256)]]) 0 _ rfl, .len 1 2147483648 (by decide), tT, tT, .get ([.lst .tight 1 [.int .u8 r28], .lst .tight 1 [.int .u8 139], .lst .no 1 [.int .u8 (128 + 8 * (dst % 8) + base % 8), .int .u8 (disp % 256), .int .u8 (disp / 256 % 256), .int .u8 (disp / 65536 % 256), .int .u8 (disp / 16777216 % 256)]]) 1 _ rfl, .len 2 2147483648 (by decide), tT, tT, .get ([.lst .tight 1 [.int .u8 r28], .lst .tight 1 [.int .u8 139], .lst .no 1 [.int .u8 (128 + 8 * (dst % 8) + base % 8), .int .u8 (disp % 256), .int .u8 (disp / 256 % 256), .int .u8 (disp / 65536 % 256), .int .u8 (disp / 16777216 % 256)]]) 2 _ rfl, .len 7 2147483648 (by decide), tF]) (by kernel_rfl)).to (by clear E1 E2; subst_vars; (try simp only [beq_dec] at *); (try simp only [beq_iff_eq] at h); (try simp only [decide_eq_true_eq, decide_eq_false_iff_not] at *); simp_all [wk, wkL, wkO, bytesM, show shapeM 26 = 7 from rfl, codeM, bD, rexM, memM, fourM, w_u8])
 have c33 := @rex_no_ok dst base d0 d1 b0 b1 (w == 64) false h26
 rcases bft (decide (base % 8 = 4)) with h34 | h34
 ·have c35 := @mMem_4_ok dst base disp d0 d1 b0 b1 p0 p1 h34
  exact (o21 (d := .tup [.lst (.fresh 1) 1 [.int .u8 139, .int .u8 (128 + 8 * (dst % 8) + base % 8), .int .u8 36, .int .u8 (disp % 256), .int .u8 (disp / 256 % 256), .int .u8 (disp / 65536 % 256), .int .u8 (disp / 16777216 % 256)], .int .i64 0]) (E2 ++ [tC (neOf h14), .ret _ _ _ c33, .inl, .ret _ _ _ c35, .inl, .go 64, tT, tT, .get ([.lst .tight 1 [], .lst .tight 1 [.int .u8 139], .lst .no 1 [.int .u8 (128 + 8 * (dst % 8) + base % 8), .int .u8 36, .int .u8 (disp % 256), .int .u8 (disp / 256 % 256), .int .u8 (disp / 65536 % 256), .int .u8 (disp / 16777216 % 256)]]) 0 _ rfl, .len 0 2147483648 (by decide), tT, tT, .get ([.lst .tight 1 [], .lst .tight 1 [.int .u8 139], .lst .no 1 [.int .u8 (128 + 8 * (dst % 8) + base % 8), .int .u8 36, .int .u8 (disp % 256), .int .u8 (disp / 256 % 256), .int .u8 (disp / 65536 % 256), .int .u8 (disp / 16777216 % 256)]]) 1 _ rfl, .len 1 2147483648 (by decide), tT, tT, .get ([.lst .tight 1 [], .lst .tight 1 [.int .u8 139], .lst .no 1 [.int .u8 (128 + 8 * (dst % 8) + base % 8), .int .u8 36, .int .u8 (disp % 256), .int .u8 (disp / 256 % 256), .int .u8 (disp / 65536 % 256), .int .u8 (disp / 16777216 % 256)]]) 2 _ rfl, .len 7 2147483648 (by decide), tF]) (by kernel_rfl)).to (by clear E1 E2; subst_vars; (try simp only [beq_dec] at *); (try simp only [beq_iff_eq] at h); (try simp only [decide_eq_true_eq, decide_eq_false_iff_not] at *); simp_all [wk, wkL, wkO, bytesM, show shapeM 26 = 7 from rfl, codeM, bD, rexM, memM, fourM, w_u8])
 have c36 := @mMem_n_ok dst base disp d0 d1 b0 b1 p0 p1 h34
 exact (o21 (d := .tup [.lst (.fresh 1) 1 [.int .u8 139, .int .u8 (128 + 8 * (dst % 8) + base % 8), .int .u8 (disp % 256), .int .u8 (disp / 256 % 256), .int .u8 (disp / 65536 % 256), .int .u8 (disp / 16777216 % 256)], .int .i64 0]) (E2 ++ [tC (neOf h14), .ret _ _ _ c33, .inl, .ret _ _ _ c36, .inl, .go 64, tT, tT, .get ([.lst .tight 1 [], .lst .tight 1 [.int .u8 139], .lst .no 1 [.int .u8 (128 + 8 * (dst % 8) + base % 8), .int .u8 (disp % 256), .int .u8 (disp / 256 % 256), .int .u8 (disp / 65536 % 256), .int .u8 (disp / 16777216 % 256)]]) 0 _ rfl, .len 0 2147483648 (by decide), tT, tT, .get ([.lst .tight 1 [], .lst .tight 1 [.int .u8 139], .lst .no 1 [.int .u8 (128 + 8 * (dst % 8) + base % 8), .int .u8 (disp % 256), .int .u8 (disp / 256 % 256), .int .u8 (disp / 65536 % 256), .int .u8 (disp / 16777216 % 256)]]) 1 _ rfl, .len 1 2147483648 (by decide), tT, tT, .get ([.lst .tight 1 [], .lst .tight 1 [.int .u8 139], .lst .no 1 [.int .u8 (128 + 8 * (dst % 8) + base % 8), .int .u8 (disp % 256), .int .u8 (disp / 256 % 256), .int .u8 (disp / 65536 % 256), .int .u8 (disp / 16777216 % 256)]]) 2 _ rfl, .len 6 2147483648 (by decide), tF]) (by kernel_rfl)).to (by clear E1 E2; subst_vars; (try simp only [beq_dec] at *); (try simp only [beq_iff_eq] at h); (try simp only [decide_eq_true_eq, decide_eq_false_iff_not] at *); simp_all [wk, wkL, wkO, bytesM, show shapeM 26 = 7 from rfl, codeM, bD, rexM, memM, fourM, w_u8])
theorem bytesO_27_ok (w dst src base disp imm cc : Int) (d0 : 0 ≤ dst) (d1 : dst ≤ 15) (s0 : 0 ≤ src) (s1 : src ≤ 15) (b0 : 0 ≤ base) (b1 : base ≤ 15) (p0 : -2147483648 ≤ disp) (p1 : disp ≤ 2147483647) (i0 : -2147483648 ≤ imm) (i1 : imm ≤ 2147483647) (c0 : 0 ≤ cc) (c1 : cc ≤ 15) (hm : mayX 27 w dst src base disp imm cc = true) : Ret Try.prog 21 ([xD 27 w dst src base disp imm cc]) (.tup [.lst .no 1 (bD (bytesM 27 w dst src base disp imm cc)), .int .i64 0]) := by
 have c0 := @mayX_ok 27 w dst src base disp imm cc (by decide)
 rw [hm] at c0
 have c1 := @of_any_ok 27 (by decide)
 let E1 : EL := [.ret _ _ _ c0, tF, .ret _ _ _ c1, tF, tF, tF, tF, tF, tF, tF, tT]
 by_cases h2 : w = 8
 ·subst h2
  have c3 := @rex_yes_ok src base s0 s1 b0 b1 false true (rfl : true = true)
  generalize g5 : rexB false src base = r4 at c3
  rcases bft (decide (base % 8 = 4)) with h6 | h6
  ·have c7 := @mMem_4_ok src base disp s0 s1 b0 b1 p0 p1 h6
   exact (o21 (d := .tup [.lst (.fresh 1) 1 [.int .u8 r4, .int .u8 136, .int .u8 (128 + 8 * (src % 8) + base % 8), .int .u8 36, .int .u8 (disp % 256), .int .u8 (disp / 256 % 256), .int .u8 (disp / 65536 % 256), .int .u8 (disp / 16777216 % 256)], .int .i64 0]) (E1 ++ [tT, .ret _ _ _ c3, .inl, .ret _ _ _ c7, .inl, .go 64, tT, tT, .get ([.lst .tight 0 [], .lst .tight 1 [.int .u8 r4], .lst .tight 1 [.int .u8 136], .lst .no 1 [.int .u8 (128 + 8 * (src % 8) + base % 8), .int .u8 36, .int .u8 (disp % 256), .int .u8 (disp / 256 % 256), .int .u8 (disp / 65536 % 256), .int .u8 (disp / 16777216 % 256)]]) 0 _ rfl, .len 0 2147483648 (by decide), tT, tT, .get ([.lst .tight 0 [], .lst .tight 1 [.int .u8 r4], .lst .tight 1 [.int .u8 136], .lst .no 1 [.int .u8 (128 + 8 * (src % 8) + base % 8), .int .u8 36, .int .u8 (disp % 256), .int .u8 (disp / 256 % 256), .int .u8 (disp / 65536 % 256), .int .u8 (disp / 16777216 % 256)]]) 1 _ rfl, .len 1 2147483648 (by decide), tT, tT, .get ([.lst .tight 0 [], .lst .tight 1 [.int .u8 r4], .lst .tight 1 [.int .u8 136], .lst .no 1 [.int .u8 (128 + 8 * (src % 8) + base % 8), .int .u8 36, .int .u8 (disp % 256), .int .u8 (disp / 256 % 256), .int .u8 (disp / 65536 % 256), .int .u8 (disp / 16777216 % 256)]]) 2 _ rfl, .len 2 2147483648 (by decide), tT, tT, .get ([.lst .tight 0 [], .lst .tight 1 [.int .u8 r4], .lst .tight 1 [.int .u8 136], .lst .no 1 [.int .u8 (128 + 8 * (src % 8) + base % 8), .int .u8 36, .int .u8 (disp % 256), .int .u8 (disp / 256 % 256), .int .u8 (disp / 65536 % 256), .int .u8 (disp / 16777216 % 256)]]) 3 _ rfl, .len 8 2147483648 (by decide), tF]) (by kernel_rfl)).to (by clear E1; (subst_vars; (try simp only [beq_dec] at *); (try simp only [beq_iff_eq] at h); (try simp only [decide_eq_true_eq, decide_eq_false_iff_not] at *); simp_all [wk, wkL, wkO, bytesM, bD, rexM, memM, fourM, w_u8, needM, codeM, numM, shapeM]; done))
  have c8 := @mMem_n_ok src base disp s0 s1 b0 b1 p0 p1 h6
  exact (o21 (d := .tup [.lst (.fresh 1) 1 [.int .u8 r4, .int .u8 136, .int .u8 (128 + 8 * (src % 8) + base % 8), .int .u8 (disp % 256), .int .u8 (disp / 256 % 256), .int .u8 (disp / 65536 % 256), .int .u8 (disp / 16777216 % 256)], .int .i64 0]) (E1 ++ [tT, .ret _ _ _ c3, .inl, .ret _ _ _ c8, .inl, .go 64, tT, tT, .get ([.lst .tight 0 [], .lst .tight 1 [.int .u8 r4], .lst .tight 1 [.int .u8 136], .lst .no 1 [.int .u8 (128 + 8 * (src % 8) + base % 8), .int .u8 (disp % 256), .int .u8 (disp / 256 % 256), .int .u8 (disp / 65536 % 256), .int .u8 (disp / 16777216 % 256)]]) 0 _ rfl, .len 0 2147483648 (by decide), tT, tT, .get ([.lst .tight 0 [], .lst .tight 1 [.int .u8 r4], .lst .tight 1 [.int .u8 136], .lst .no 1 [.int .u8 (128 + 8 * (src % 8) + base % 8), .int .u8 (disp % 256), .int .u8 (disp / 256 % 256), .int .u8 (disp / 65536 % 256), .int .u8 (disp / 16777216 % 256)]]) 1 _ rfl, .len 1 2147483648 (by decide), tT, tT, .get ([.lst .tight 0 [], .lst .tight 1 [.int .u8 r4], .lst .tight 1 [.int .u8 136], .lst .no 1 [.int .u8 (128 + 8 * (src % 8) + base % 8), .int .u8 (disp % 256), .int .u8 (disp / 256 % 256), .int .u8 (disp / 65536 % 256), .int .u8 (disp / 16777216 % 256)]]) 2 _ rfl, .len 2 2147483648 (by decide), tT, tT, .get ([.lst .tight 0 [], .lst .tight 1 [.int .u8 r4], .lst .tight 1 [.int .u8 136], .lst .no 1 [.int .u8 (128 + 8 * (src % 8) + base % 8), .int .u8 (disp % 256), .int .u8 (disp / 256 % 256), .int .u8 (disp / 65536 % 256), .int .u8 (disp / 16777216 % 256)]]) 3 _ rfl, .len 7 2147483648 (by decide), tF]) (by kernel_rfl)).to (by clear E1; (subst_vars; (try simp only [beq_dec] at *); (try simp only [beq_iff_eq] at h); (try simp only [decide_eq_true_eq, decide_eq_false_iff_not] at *); simp_all [wk, wkL, wkO, bytesM, bD, rexM, memM, fourM, w_u8, needM, codeM, numM, shapeM]; done))
 let E2 : EL := E1 ++ [tC (neOf h2)]
 by_cases h9 : w = 16
 ·subst h9
  rcases bft (needM false src base false) with h10 | h10
  ·have c11 := @rex_yes_ok src base s0 s1 b0 b1 false false h10
   generalize g13 : rexB false src base = r12 at c11
   rcases bft (decide (base % 8 = 4)) with h14 | h14
   ·have c15 := @mMem_4_ok src base disp s0 s1 b0 b1 p0 p1 h14
    exact (o21 (d := .tup [.lst (.fresh 1) 1 [.int .u8 102, .int .u8 r12, .int .u8 137, .int .u8 (128 + 8 * (src % 8) + base % 8), .int .u8 36, .int .u8 (disp % 256), .int .u8 (disp / 256 % 256), .int .u8 (disp / 65536 % 256), .int .u8 (disp / 16777216 % 256)], .int .i64 0]) (E2 ++ [tT, .ret _ _ _ c11, .inl, .ret _ _ _ c15, .inl, .go 64, tT, tT, .get ([.lst .tight 1 [.int .u8 102], .lst .tight 1 [.int .u8 r12], .lst .tight 1 [.int .u8 137], .lst .no 1 [.int .u8 (128 + 8 * (src % 8) + base % 8), .int .u8 36, .int .u8 (disp % 256), .int .u8 (disp / 256 % 256), .int .u8 (disp / 65536 % 256), .int .u8 (disp / 16777216 % 256)]]) 0 _ rfl, .len 1 2147483648 (by decide), tT, tT, .get ([.lst .tight 1 [.int .u8 102], .lst .tight 1 [.int .u8 r12], .lst .tight 1 [.int .u8 137], .lst .no 1 [.int .u8 (128 + 8 * (src % 8) + base % 8), .int .u8 36, .int .u8 (disp % 256), .int .u8 (disp / 256 % 256), .int .u8 (disp / 65536 % 256), .int .u8 (disp / 16777216 % 256)]]) 1 _ rfl, .len 2 2147483648 (by decide), tT, tT, .get ([.lst .tight 1 [.int .u8 102], .lst .tight 1 [.int .u8 r12], .lst .tight 1 [.int .u8 137], .lst .no 1 [.int .u8 (128 + 8 * (src % 8) + base % 8), .int .u8 36, .int .u8 (disp % 256), .int .u8 (disp / 256 % 256), .int .u8 (disp / 65536 % 256), .int .u8 (disp / 16777216 % 256)]]) 2 _ rfl, .len 3 2147483648 (by decide), tT, tT, .get ([.lst .tight 1 [.int .u8 102], .lst .tight 1 [.int .u8 r12], .lst .tight 1 [.int .u8 137], .lst .no 1 [.int .u8 (128 + 8 * (src % 8) + base % 8), .int .u8 36, .int .u8 (disp % 256), .int .u8 (disp / 256 % 256), .int .u8 (disp / 65536 % 256), .int .u8 (disp / 16777216 % 256)]]) 3 _ rfl, .len 9 2147483648 (by decide), tF]) (by kernel_rfl)).to (by clear E1 E2; (subst_vars; (try simp only [beq_dec] at *); (try simp only [beq_iff_eq] at h); (try simp only [decide_eq_true_eq, decide_eq_false_iff_not] at *); simp_all [wk, wkL, wkO, bytesM, bD, rexM, memM, fourM, w_u8, needM, codeM, numM, shapeM]; done))
   have c16 := @mMem_n_ok src base disp s0 s1 b0 b1 p0 p1 h14
   exact (o21 (d := .tup [.lst (.fresh 1) 1 [.int .u8 102, .int .u8 r12, .int .u8 137, .int .u8 (128 + 8 * (src % 8) + base % 8), .int .u8 (disp % 256), .int .u8 (disp / 256 % 256), .int .u8 (disp / 65536 % 256), .int .u8 (disp / 16777216 % 256)], .int .i64 0]) (E2 ++ [tT, .ret _ _ _ c11, .inl, .ret _ _ _ c16, .inl, .go 64, tT, tT, .get ([.lst .tight 1 [.int .u8 102], .lst .tight 1 [.int .u8 r12], .lst .tight 1 [.int .u8 137], .lst .no 1 [.int .u8 (128 + 8 * (src % 8) + base % 8), .int .u8 (disp % 256), .int .u8 (disp / 256 % 256), .int .u8 (disp / 65536 % 256), .int .u8 (disp / 16777216 % 256)]]) 0 _ rfl, .len 1 2147483648 (by decide), tT, tT, .get ([.lst .tight 1 [.int .u8 102], .lst .tight 1 [.int .u8 r12], .lst .tight 1 [.int .u8 137], .lst .no 1 [.int .u8 (128 + 8 * (src % 8) + base % 8), .int .u8 (disp % 256), .int .u8 (disp / 256 % 256), .int .u8 (disp / 65536 % 256), .int .u8 (disp / 16777216 % 256)]]) 1 _ rfl, .len 2 2147483648 (by decide), tT, tT, .get ([.lst .tight 1 [.int .u8 102], .lst .tight 1 [.int .u8 r12], .lst .tight 1 [.int .u8 137], .lst .no 1 [.int .u8 (128 + 8 * (src % 8) + base % 8), .int .u8 (disp % 256), .int .u8 (disp / 256 % 256), .int .u8 (disp / 65536 % 256), .int .u8 (disp / 16777216 % 256)]]) 2 _ rfl, .len 3 2147483648 (by decide), tT, tT, .get ([.lst .tight 1 [.int .u8 102], .lst .tight 1 [.int .u8 r12], .lst .tight 1 [.int .u8 137], .lst .no 1 [.int .u8 (128 + 8 * (src % 8) + base % 8), .int .u8 (disp % 256), .int .u8 (disp / 256 % 256), .int .u8 (disp / 65536 % 256), .int .u8 (disp / 16777216 % 256)]]) 3 _ rfl, .len 8 2147483648 (by decide), tF]) (by kernel_rfl)).to (by clear E1 E2; (subst_vars; (try simp only [beq_dec] at *); (try simp only [beq_iff_eq] at h); (try simp only [decide_eq_true_eq, decide_eq_false_iff_not] at *); simp_all [wk, wkL, wkO, bytesM, bD, rexM, memM, fourM, w_u8, needM, codeM, numM, shapeM]; done))
  have c17 := @rex_no_ok src base s0 s1 b0 b1 false false h10
  rcases bft (decide (base % 8 = 4)) with h18 | h18
  ·have c19 := @mMem_4_ok src base disp s0 s1 b0 b1 p0 p1 h18
   exact (o21 (d := .tup [.lst (.fresh 1) 1 [.int .u8 102, .int .u8 137, .int .u8 (128 + 8 * (src % 8) + base % 8), .int .u8 36, .int .u8 (disp % 256), .int .u8 (disp / 256 % 256), .int .u8 (disp / 65536 % 256), .int .u8 (disp / 16777216 % 256)], .int .i64 0]) (E2 ++ [tT, .ret _ _ _ c17, .inl, .ret _ _ _ c19, .inl, .go 64, tT, tT, .get ([.lst .tight 1 [.int .u8 102], .lst .tight 1 [], .lst .tight 1 [.int .u8 137], .lst .no 1 [.int .u8 (128 + 8 * (src % 8) + base % 8), .int .u8 36, .int .u8 (disp % 256), .int .u8 (disp / 256 % 256), .int .u8 (disp / 65536 % 256), .int .u8 (disp / 16777216 % 256)]]) 0 _ rfl, .len 1 2147483648 (by decide), tT, tT, .get ([.lst .tight 1 [.int .u8 102], .lst .tight 1 [], .lst .tight 1 [.int .u8 137], .lst .no 1 [.int .u8 (128 + 8 * (src % 8) + base % 8), .int .u8 36, .int .u8 (disp % 256), .int .u8 (disp / 256 % 256), .int .u8 (disp / 65536 % 256), .int .u8 (disp / 16777216 % 256)]]) 1 _ rfl, .len 1 2147483648 (by decide), tT, tT, .get ([.lst .tight 1 [.int .u8 102], .lst .tight 1 [], .lst .tight 1 [.int .u8 137], .lst .no 1 [.int .u8 (128 + 8 * (src % 8) + base % 8), .int .u8 36, .int .u8 (disp % 256), .int .u8 (disp / 256 % 256), .int .u8 (disp / 65536 % 256), .int .u8 (disp / 16777216 % 256)]]) 2 _ rfl, .len 2 2147483648 (by decide), tT, tT, .get ([.lst .tight 1 [.int .u8 102], .lst .tight 1 [], .lst .tight 1 [.int .u8 137], .lst .no 1 [.int .u8 (128 + 8 * (src % 8) + base % 8), .int .u8 36, .int .u8 (disp % 256), .int .u8 (disp / 256 % 256), .int .u8 (disp / 65536 % 256), .int .u8 (disp / 16777216 % 256)]]) 3 _ rfl, .len 8 2147483648 (by decide), tF]) (by kernel_rfl)).to (by clear E1 E2; (subst_vars; (try simp only [beq_dec] at *); (try simp only [beq_iff_eq] at h); (try simp only [decide_eq_true_eq, decide_eq_false_iff_not] at *); simp_all [wk, wkL, wkO, bytesM, bD, rexM, memM, fourM, w_u8, needM, codeM, numM, shapeM]; done))
  have c20 := @mMem_n_ok src base disp s0 s1 b0 b1 p0 p1 h18
  exact (o21 (d := .tup [.lst (.fresh 1) 1 [.int .u8 102, .int .u8 137, .int .u8 (128 + 8 * (src % 8) + base % 8), .int .u8 (disp % 256), .int .u8 (disp / 256 % 256), .int .u8 (disp / 65536 % 256), .int .u8 (disp / 16777216 % 256)], .int .i64 0]) (E2 ++ [tT, .ret _ _ _ c17, .inl, .ret _ _ _ c20, .inl, .go 64, tT, tT, .get ([.lst .tight 1 [.int .u8 102], .lst .tight 1 [], .lst .tight 1 [.int .u8 137], .lst .no 1 [.int .u8 (128 + 8 * (src % 8) + base % 8), .int .u8 (disp % 256), .int .u8 (disp / 256 % 256), .int .u8 (disp / 65536 % 256), .int .u8 (disp / 16777216 % 256)]]) 0 _ rfl, .len 1 2147483648 (by decide), tT, tT, .get ([.lst .tight 1 [.int .u8 102], .lst .tight 1 [], .lst .tight 1 [.int .u8 137], .lst .no 1 [.int .u8 (128 + 8 * (src % 8) + base % 8), .int .u8 (disp % 256), .int .u8 (disp / 256 % 256), .int .u8 (disp / 65536 % 256), .int .u8 (disp / 16777216 % 256)]]) 1 _ rfl, .len 1 2147483648 (by decide), tT, tT, .get ([.lst .tight 1 [.int .u8 102], .lst .tight 1 [], .lst .tight 1 [.int .u8 137], .lst .no 1 [.int .u8 (128 + 8 * (src % 8) + base % 8), .int .u8 (disp % 256), .int .u8 (disp / 256 % 256), .int .u8 (disp / 65536 % 256), .int .u8 (disp / 16777216 % 256)]]) 2 _ rfl, .len 2 2147483648 (by decide), tT, tT, .get ([.lst .tight 1 [.int .u8 102], .lst .tight 1 [], .lst .tight 1 [.int .u8 137], .lst .no 1 [.int .u8 (128 + 8 * (src % 8) + base % 8), .int .u8 (disp % 256), .int .u8 (disp / 256 % 256), .int .u8 (disp / 65536 % 256), .int .u8 (disp / 16777216 % 256)]]) 3 _ rfl, .len 7 2147483648 (by decide), tF]) (by kernel_rfl)).to (by clear E1 E2; (subst_vars; (try simp only [beq_dec] at *); (try simp only [beq_iff_eq] at h); (try simp only [decide_eq_true_eq, decide_eq_false_iff_not] at *); simp_all [wk, wkL, wkO, bytesM, bD, rexM, memM, fourM, w_u8, needM, codeM, numM, shapeM]; done))
 rcases bft (needM (w == 64) src base (w == 8)) with h21 | h21
 ·have c22 := @rex_yes_ok src base s0 s1 b0 b1 (w == 64) (w == 8) h21
  generalize g24 : rexB (w == 64) src base = r23 at c22
  rcases bft (decide (base % 8 = 4)) with h25 | h25
  ·have c26 := @mMem_4_ok src base disp s0 s1 b0 b1 p0 p1 h25
   exact (o21 (d := .tup [.lst (.fresh 1) 1 [.int .u8 r23, .int .u8 137, .int .u8 (128 + 8 * (src % 8) + base % 8), .int .u8 36, .int .u8 (disp % 256), .int .u8 (disp / 256 % 256), .int .u8 (disp / 65536 % 256), .int .u8 (disp / 16777216 % 256)], .int .i64 0]) (E2 ++ [tC (neOf h9), .ret _ _ _ c22, .inl, .ret _ _ _ c26, .inl, .go 64, tT, tT, .get ([.lst .tight 0 [], .lst .tight 1 [.int .u8 r23], .lst .tight 1 [.int .u8 137], .lst .no 1 [.int .u8 (128 + 8 * (src % 8) + base % 8), .int .u8 36, .int .u8 (disp % 256), .int .u8 (disp / 256 % 256), .int .u8 (disp / 65536 % 256), .int .u8 (disp / 16777216 % 256)]]) 0 _ rfl, .len 0 2147483648 (by decide), tT, tT, .get ([.lst .tight 0 [], .lst .tight 1 [.int .u8 r23], .lst .tight 1 [.int .u8 137], .lst .no 1 [.int .u8 (128 + 8 * (src % 8) + base % 8), .int .u8 36, .int .u8 (disp % 256), .int .u8 (disp / 256 % 256), .int .u8 (disp / 65536 % 256), .int .u8 (disp / 16777216 % 256)]]) 1 _ rfl, .len 1 2147483648 (by decide), tT, tT, .get ([.lst .tight 0 [], .lst .tight 1 [.int .u8 r23], .lst .tight 1 [.int .u8 137], .lst .no 1 [.int .u8 (128 + 8 * (src % 8) + base % 8), .int .u8 36, .int .u8 (disp % 256), .int .u8 (disp / 256 % 256), .int .u8 (disp / 65536 % 256), .int .u8 (disp / 16777216 % 256)]]) 2 _ rfl, .len 2 2147483648 (by decide), tT, tT, .get ([.lst .tight 0 [], .lst .tight 1 [.int .u8 r23], .lst .tight 1 [.int .u8 137], .lst .no 1 [.int .u8 (128 + 8 * (src % 8) + base % 8), .int .u8 36, .int .u8 (disp % 256), .int .u8 (disp / 256 % 256), .int .u8 (disp / 65536 % 256), .int .u8 (disp / 16777216 % 256)]]) 3 _ rfl, .len 8 2147483648 (by decide), tF]) (by kernel_rfl)).to (by clear E1 E2; (subst_vars; (try simp only [beq_dec] at *); (try simp only [beq_iff_eq] at h); (try simp only [decide_eq_true_eq, decide_eq_false_iff_not] at *); simp_all [wk, wkL, wkO, bytesM, bD, rexM, memM, fourM, w_u8, needM, codeM, numM, shapeM]; done))
  have c27 := @mMem_n_ok src base disp s0 s1 b0 b1 p0 p1 h25
  exact (o21 (d := .tup [.lst (.fresh 1) 1 [.int .u8 r23, .int .u8 137, .int .u8 (128 + 8 * (src % 8) + base % 8), .int .u8 (disp % 256), .int .u8 (disp / 256 % 256), .int .u8 (disp / 65536 % 256), .int .u8 (disp / 16777216 % 256)], .int .i64 0]) (E2 ++ [tC (neOf h9), .ret _ _ _ c22, .inl, .ret _ _ _ c27, .inl, .go 64, tT, tT, .get ([.lst .tight 0 [], .lst .tight 1 [.int .u8 r23], .lst .tight 1 [.int .u8 137], .lst .no 1 [.int .u8 (128 + 8 * (src % 8) + base % 8), .int .u8 (disp % 256), .int .u8 (disp / 256 % 256), .int .u8 (disp / 65536 % 256), .int .u8 (disp / 16777216 % 256)]]) 0 _ rfl, .len 0 2147483648 (by decide), tT, tT, .get ([.lst .tight 0 [], .lst .tight 1 [.int .u8 r23], .lst .tight 1 [.int .u8 137], .lst .no 1 [.int .u8 (128 + 8 * (src % 8) + base % 8), .int .u8 (disp % 256), .int .u8 (disp / 256 % 256), .int .u8 (disp / 65536 % 256), .int .u8 (disp / 16777216 % 256)]]) 1 _ rfl, .len 1 2147483648 (by decide), tT, tT, .get ([.lst .tight 0 [], .lst .tight 1 [.int .u8 r23], .lst .tight 1 [.int .u8 137], .lst .no 1 [.int .u8 (128 + 8 * (src % 8) + base % 8), .int .u8 (disp % 256), .int .u8 (disp / 256 % 256), .int .u8 (disp / 65536 % 256), .int .u8 (disp / 16777216 % 256)]]) 2 _ rfl, .len 2 2147483648 (by decide), tT, tT, .get ([.lst .tight 0 [], .lst .tight 1 [.int .u8 r23], .lst .tight 1 [.int .u8 137], .lst .no 1 [.int .u8 (128 + 8 * (src % 8) + base % 8), .int .u8 (disp % 256), .int .u8 (disp / 256 % 256), .int .u8 (disp / 65536 % 256), .int .u8 (disp / 16777216 % 256)]]) 3 _ rfl, .len 7 2147483648 (by decide), tF]) (by kernel_rfl)).to (by clear E1 E2; (subst_vars; (try simp only [beq_dec] at *); (try simp only [beq_iff_eq] at h); (try simp only [decide_eq_true_eq, decide_eq_false_iff_not] at *); simp_all [wk, wkL, wkO, bytesM, bD, rexM, memM, fourM, w_u8, needM, codeM, numM, shapeM]; done))
 have c28 := @rex_no_ok src base s0 s1 b0 b1 (w == 64) (w == 8) h21
 rcases bft (decide (base % 8 = 4)) with h29 | h29
 ·have c30 := @mMem_4_ok src base disp s0 s1 b0 b1 p0 p1 h29
  exact (o21 (d := .tup [.lst (.fresh 1) 1 [.int .u8 137, .int .u8 (128 + 8 * (src % 8) + base % 8), .int .u8 36, .int .u8 (disp % 256), .int .u8 (disp / 256 % 256), .int .u8 (disp / 65536 % 256), .int .u8 (disp / 16777216 % 256)], .int .i64 0]) (E2 ++ [tC (neOf h9), .ret _ _ _ c28, .inl, .ret _ _ _ c30, .inl, .go 64, tT, tT, .get ([.lst .tight 0 [], .lst .tight 1 [], .lst .tight 1 [.int .u8 137], .lst .no 1 [.int .u8 (128 + 8 * (src % 8) + base % 8), .int .u8 36, .int .u8 (disp % 256), .int .u8 (disp / 256 % 256), .int .u8 (disp / 65536 % 256), .int .u8 (disp / 16777216 % 256)]]) 0 _ rfl, .len 0 2147483648 (by decide), tT, tT, .get ([.lst .tight 0 [], .lst .tight 1 [], .lst .tight 1 [.int .u8 137], .lst .no 1 [.int .u8 (128 + 8 * (src % 8) + base % 8), .int .u8 36, .int .u8 (disp % 256), .int .u8 (disp / 256 % 256), .int .u8 (disp / 65536 % 256), .int .u8 (disp / 16777216 % 256)]]) 1 _ rfl, .len 0 2147483648 (by decide), tT, tT, .get ([.lst .tight 0 [], .lst .tight 1 [], .lst .tight 1 [.int .u8 137], .lst .no 1 [.int .u8 (128 + 8 * (src % 8) + base % 8), .int .u8 36, .int .u8 (disp % 256), .int .u8 (disp / 256 % 256), .int .u8 (disp / 65536 % 256), .int .u8 (disp / 16777216 % 256)]]) 2 _ rfl, .len 1 2147483648 (by decide), tT, tT, .get ([.lst .tight 0 [], .lst .tight 1 [], .lst .tight 1 [.int .u8 137], .lst .no 1 [.int .u8 (128 + 8 * (src % 8) + base % 8), .int .u8 36, .int .u8 (disp % 256), .int .u8 (disp / 256 % 256), .int .u8 (disp / 65536 % 256), .int .u8 (disp / 16777216 % 256)]]) 3 _ rfl, .len 7 2147483648 (by decide), tF]) (by kernel_rfl)).to (by clear E1 E2; (subst_vars; (try simp only [beq_dec] at *); (try simp only [beq_iff_eq] at h); (try simp only [decide_eq_true_eq, decide_eq_false_iff_not] at *); simp_all [wk, wkL, wkO, bytesM, bD, rexM, memM, fourM, w_u8, needM, codeM, numM, shapeM]; done))
 have c31 := @mMem_n_ok src base disp s0 s1 b0 b1 p0 p1 h29
 exact (o21 (d := .tup [.lst (.fresh 1) 1 [.int .u8 137, .int .u8 (128 + 8 * (src % 8) + base % 8), .int .u8 (disp % 256), .int .u8 (disp / 256 % 256), .int .u8 (disp / 65536 % 256), .int .u8 (disp / 16777216 % 256)], .int .i64 0]) (E2 ++ [tC (neOf h9), .ret _ _ _ c28, .inl, .ret _ _ _ c31, .inl, .go 64, tT, tT, .get ([.lst .tight 0 [], .lst .tight 1 [], .lst .tight 1 [.int .u8 137], .lst .no 1 [.int .u8 (128 + 8 * (src % 8) + base % 8), .int .u8 (disp % 256), .int .u8 (disp / 256 % 256), .int .u8 (disp / 65536 % 256), .int .u8 (disp / 16777216 % 256)]]) 0 _ rfl, .len 0 2147483648 (by decide), tT, tT, .get ([.lst .tight 0 [], .lst .tight 1 [], .lst .tight 1 [.int .u8 137], .lst .no 1 [.int .u8 (128 + 8 * (src % 8) + base % 8), .int .u8 (disp % 256), .int .u8 (disp / 256 % 256), .int .u8 (disp / 65536 % 256), .int .u8 (disp / 16777216 % 256)]]) 1 _ rfl, .len 0 2147483648 (by decide), tT, tT, .get ([.lst .tight 0 [], .lst .tight 1 [], .lst .tight 1 [.int .u8 137], .lst .no 1 [.int .u8 (128 + 8 * (src % 8) + base % 8), .int .u8 (disp % 256), .int .u8 (disp / 256 % 256), .int .u8 (disp / 65536 % 256), .int .u8 (disp / 16777216 % 256)]]) 2 _ rfl, .len 1 2147483648 (by decide), tT, tT, .get ([.lst .tight 0 [], .lst .tight 1 [], .lst .tight 1 [.int .u8 137], .lst .no 1 [.int .u8 (128 + 8 * (src % 8) + base % 8), .int .u8 (disp % 256), .int .u8 (disp / 256 % 256), .int .u8 (disp / 65536 % 256), .int .u8 (disp / 16777216 % 256)]]) 3 _ rfl, .len 6 2147483648 (by decide), tF]) (by kernel_rfl)).to (by clear E1 E2; (subst_vars; (try simp only [beq_dec] at *); (try simp only [beq_iff_eq] at h); (try simp only [decide_eq_true_eq, decide_eq_false_iff_not] at *); simp_all [wk, wkL, wkO, bytesM, bD, rexM, memM, fourM, w_u8, needM, codeM, numM, shapeM]; done))
def SpXB2e0 (k0_ : Int) : Prop := ∀ (w dst src base disp imm cc : Int) (d0 : 0 ≤ dst) (d1 : dst ≤ 15) (s0 : 0 ≤ src) (s1 : src ≤ 15) (b0 : 0 ≤ base) (b1 : base ≤ 15) (p0 : -2147483648 ≤ disp) (p1 : disp ≤ 2147483647) (i0 : -2147483648 ≤ imm) (i1 : imm ≤ 2147483647) (c0 : 0 ≤ cc) (c1 : cc ≤ 15) (hm : mayX k0_ w dst src base disp imm cc = true), Ret Try.prog 21 ([xD k0_ w dst src base disp imm cc]) (.tup [.lst .no 1 (bD (bytesM k0_ w dst src base disp imm cc)), .int .i64 0])
theorem bytesO_28_ok : SpXB2e0 28 := by
 intro w dst src base disp imm cc d0 d1 s0 s1 b0 b1 p0 p1 i0 i1 c0 c1 hm
 have c0 := @mayX_ok 28 w dst src base disp imm cc (by decide)
 rw [show (mayX 28 w dst src base disp imm cc) = true from hm] at c0
 have c1 := @of_any_ok 28 (by decide)
 by_cases h2 : w = 8
 ·subst h2
  exact (o21 (d := .tup [.lst .tight 1 [.int .u8 235, .int .u8 (IntKind.wrap IntKind.u8 imm)], .int .i64 0]) ([.ret _ _ _ c0, tF, .ret _ _ _ c1] ++ List.replicate 8 tF ++ [tT, tT]) (by kernel_rfl)).to (by (subst_vars; (try simp only [beq_dec] at *); (try simp only [beq_iff_eq] at h); (try simp only [decide_eq_true_eq, decide_eq_false_iff_not] at *); simp_all [wk, wkL, wkO, bytesM, show shapeM 28 = 9 from rfl, bD, rexM, memM, fourM, w_u8]; done))
 have c3 := @four_ok imm
 exact (o21 (d := .tup [.lst (.fresh 1) 1 [.int .u8 233, .int .u8 (imm % 256), .int .u8 (imm / 256 % 256), .int .u8 (imm / 65536 % 256), .int .u8 (imm / 16777216 % 256)], .int .i64 0]) ([.ret _ _ _ c0, tF, .ret _ _ _ c1] ++ List.replicate 8 tF ++ [tT, tC (neOf h2), .ret _ _ _ c3, .inl, .go 64, tT, tT, .get ([.lst .tight 1 [.int .u8 233], .lst .no 1 [.int .u8 (imm % 256), .int .u8 (imm / 256 % 256), .int .u8 (imm / 65536 % 256), .int .u8 (imm / 16777216 % 256)]]) 0 _ rfl, .len 1 2147483648 (by decide), tT, tT, .get ([.lst .tight 1 [.int .u8 233], .lst .no 1 [.int .u8 (imm % 256), .int .u8 (imm / 256 % 256), .int .u8 (imm / 65536 % 256), .int .u8 (imm / 16777216 % 256)]]) 1 _ rfl, .len 5 2147483648 (by decide), tF]) (by kernel_rfl)).to (by (subst_vars; (try simp only [beq_dec] at *); (try simp only [beq_iff_eq] at h); (try simp only [decide_eq_true_eq, decide_eq_false_iff_not] at *); simp_all [wk, wkL, wkO, bytesM, show shapeM 28 = 9 from rfl, bD, rexM, memM, fourM, w_u8]; done))
theorem bytesO_29_ok : SpXB2e0 29 := by
 intro w dst src base disp imm cc d0 d1 s0 s1 b0 b1 p0 p1 i0 i1 c0 c1 hm
 have c0 := @mayX_ok 29 w dst src base disp imm cc (by decide)
 rw [show (mayX 29 w dst src base disp imm cc) = true from hm] at c0
 have c1 := @of_any_ok 29 (by decide)
 by_cases h2 : w = 8
 ·subst h2
  exact (o21 (d := .tup [.lst .tight 1 [.int .u8 (IntKind.wrap IntKind.u8 (112 + IntKind.wrap IntKind.u8 cc)), .int .u8 (IntKind.wrap IntKind.u8 imm)], .int .i64 0]) ([.ret _ _ _ c0, tF, .ret _ _ _ c1] ++ List.replicate 9 tF ++ [tT, tT]) (by kernel_rfl)).to (by (subst_vars; (try simp only [beq_dec] at *); (try simp only [beq_iff_eq] at h); (try simp only [decide_eq_true_eq, decide_eq_false_iff_not] at *); simp_all [wk, wkL, wkO, bytesM, show shapeM 29 = 10 from rfl, bD, rexM, memM, fourM, w_u8]; omega))
 have c3 := @four_ok imm
 exact (o21 (d := .tup [.lst (.fresh 1) 1 [.int .u8 15, .int .u8 (IntKind.wrap IntKind.u8 (128 + IntKind.wrap IntKind.u8 cc)), .int .u8 (imm % 256), .int .u8 (imm / 256 % 256), .int .u8 (imm / 65536 % 256), .int .u8 (imm / 16777216 % 256)], .int .i64 0]) ([.ret _ _ _ c0, tF, .ret _ _ _ c1] ++ List.replicate 9 tF ++ [tT, tC (neOf h2), .ret _ _ _ c3, .inl, .go 64, tT, tT, .get ([.lst .tight 1 [.int .u8 15, .int .u8 (IntKind.wrap IntKind.u8 (128 + IntKind.wrap IntKind.u8 cc))], .lst .no 1 [.int .u8 (imm % 256), .int .u8 (imm / 256 % 256), .int .u8 (imm / 65536 % 256), .int .u8 (imm / 16777216 % 256)]]) 0 _ rfl, .len 2 2147483648 (by decide), tT, tT, .get ([.lst .tight 1 [.int .u8 15, .int .u8 (IntKind.wrap IntKind.u8 (128 + IntKind.wrap IntKind.u8 cc))], .lst .no 1 [.int .u8 (imm % 256), .int .u8 (imm / 256 % 256), .int .u8 (imm / 65536 % 256), .int .u8 (imm / 16777216 % 256)]]) 1 _ rfl, .len 6 2147483648 (by decide), tF]) (by kernel_rfl)).to (by (subst_vars; (try simp only [beq_dec] at *); (try simp only [beq_iff_eq] at h); (try simp only [decide_eq_true_eq, decide_eq_false_iff_not] at *); simp_all [wk, wkL, wkO, bytesM, show shapeM 29 = 10 from rfl, bD, rexM, memM, fourM, w_u8]; omega))
theorem bytesO_30_ok : SpXB2e0 30 := by
 intro w dst src base disp imm cc d0 d1 s0 s1 b0 b1 p0 p1 i0 i1 c0 c1 hm
 have c0 := @mayX_ok 30 w dst src base disp imm cc (by decide)
 rw [show (mayX 30 w dst src base disp imm cc) = true from hm] at c0
 have c1 := @of_any_ok 30 (by decide)
 exact (o21 (d := .tup [.lst .tight 1 [.int .u8 195], .int .i64 0]) ([.ret _ _ _ c0, tF, .ret _ _ _ c1] ++ List.replicate 11 tF) (by kernel_rfl)).to (by (subst_vars; (try simp only [beq_dec] at *); (try simp only [beq_iff_eq] at h); (try simp only [decide_eq_true_eq, decide_eq_false_iff_not] at *); simp_all [wk, wkL, wkO, bytesM, show shapeM 30 = 11 from rfl, bD, rexM, memM, fourM, w_u8]; done))
theorem bytesO_31_ok : SpXB2e0 31 := by
 intro w dst src base disp imm cc d0 d1 s0 s1 b0 b1 p0 p1 i0 i1 c0 c1 hm
 have c0 := @mayX_ok 31 w dst src base disp imm cc (by decide)
 rw [show (mayX 31 w dst src base disp imm cc) = true from hm] at c0
 have c1 := @of_any_ok 31 (by decide)
 exact (o21 (d := .tup [.lst .tight 1 [.int .u8 15, .int .u8 5], .int .i64 0]) ([.ret _ _ _ c0, tF, .ret _ _ _ c1] ++ List.replicate 10 tF ++ [tT]) (by kernel_rfl)).to (by (subst_vars; (try simp only [beq_dec] at *); (try simp only [beq_iff_eq] at h); (try simp only [decide_eq_true_eq, decide_eq_false_iff_not] at *); simp_all [wk, wkL, wkO, bytesM, show shapeM 31 = 11 from rfl, bD, rexM, memM, fourM, w_u8]; done))
theorem num_range (op : Int) : 0 ≤ numM op ∧ numM op ≤ 7 := by
 unfold numM
 repeat' split
 all_goals omega
theorem mayX_cc {op w dst src base disp imm cc : Int} (h : mayX op w dst src base disp imm cc = true) : 0 ≤ cc ∧ cc ≤ 15 := by
 have hs := (mayX_parts h).2
 unfold mayS at hs
 repeat' split at hs
 all_goals first | (cases hs; done) | (simp only [ccM, Bool.and_eq_true, decide_eq_true_eq] at hs; omega)
theorem bytes_may_ok (op w dst src base disp imm cc : Int) (ho : op ≤ 127) (hm : mayX op w dst src base disp imm cc = true) :
  Ret Try.prog 21 [xD op w dst src base disp imm cc] (.tup [.lst .no 1 (bD (bytesM op w dst src base disp imm cc)), .int .i64 0]) := by
 obtain ⟨⟨d0, d1, s0, s1, b0, b1, p0, p1, i0, i1⟩, hs⟩ := mayX_parts hm
 obtain ⟨c0, c1⟩ := mayX_cc hm
 obtain ⟨n0, n1⟩ := num_range op
 have hsh : shapeM op ≠ 0 := by
  intro e
  rw [e] at hs
  simp [mayS] at hs
 obtain ⟨k, e⟩ := op_fin hsh
 have hin : decide (0 ≤ op ∧ op ≤ 31) = true := by rw [e]; simp; omega
 have hr := shape_range k
 rw [← e] at hr
 rcases hr with h | h | h | h | h | h | h | h | h | h | h
 ·exact bytes_1_ok _ _ _ _ _ _ _ _ ho d0 d1 s0 s1 b0 b1 p0 p1 i0 i1 c0 c1 n0 n1 (by rw [h]; rfl) hin hm
 ·have e2 : op = 16 := by
   rw [e] at h ⊢
   revert h
   exact (by decide +kernel : ∀ n : Fin 32, shapeM (n.val : Int) = 2 → (n.val : Int) = 16) k
  subst e2
  exact bytesO_16_ok _ _ _ _ _ _ _ d0 d1 s0 s1 b0 b1 p0 p1 i0 i1 c0 c1 hm
 ·exact bytes_3_ok _ _ _ _ _ _ _ _ ho d0 d1 s0 s1 b0 b1 p0 p1 i0 i1 c0 c1 n0 n1 (by rw [h]; rfl) hin (long_cases (by rw [h] at hs; simp [mayS] at hs; exact hs.1)) hm
 ·exact bytes_4_ok _ _ _ _ _ _ _ _ ho d0 d1 s0 s1 b0 b1 p0 p1 i0 i1 c0 c1 n0 n1 (by rw [h]; rfl) hin hm
 ·exact bytes_5_ok _ _ _ _ _ _ _ _ ho d0 d1 s0 s1 b0 b1 p0 p1 i0 i1 c0 c1 n0 n1 (by rw [h]; rfl) hin hm
 ·have e2 : op = 25 := by rw [e] at h ⊢; exact shape_6 k h
  subst e2
  exact bytesO_25_ok _ _ _ _ _ _ _ d0 d1 s0 s1 b0 b1 p0 p1 i0 i1 c0 c1 hm
 ·have e2 : op = 26 := by rw [e] at h ⊢; exact shape_7 k h
  subst e2
  exact bytesO_26_ok _ _ _ _ _ _ _ d0 d1 s0 s1 b0 b1 p0 p1 i0 i1 c0 c1 hm
 ·have e2 : op = 27 := by rw [e] at h ⊢; exact shape_8 k h
  subst e2
  exact bytesO_27_ok _ _ _ _ _ _ _ d0 d1 s0 s1 b0 b1 p0 p1 i0 i1 c0 c1 hm
 ·have e2 : op = 28 := by rw [e] at h ⊢; exact shape_9 k h
  subst e2
  exact bytesO_28_ok _ _ _ _ _ _ _ d0 d1 s0 s1 b0 b1 p0 p1 i0 i1 c0 c1 hm
 ·have e2 : op = 29 := by rw [e] at h ⊢; exact shape_10 k h
  subst e2
  exact bytesO_29_ok _ _ _ _ _ _ _ d0 d1 s0 s1 b0 b1 p0 p1 i0 i1 c0 c1 hm
 ·rcases shape_11 k (by rw [e] at h; exact h) with e2 | e2
  ·rw [← e] at e2; subst e2
   exact bytesO_30_ok _ _ _ _ _ _ _ d0 d1 s0 s1 b0 b1 p0 p1 i0 i1 c0 c1 hm
  ·rw [← e] at e2; subst e2
   exact bytesO_31_ok _ _ _ _ _ _ _ d0 d1 s0 s1 b0 b1 p0 p1 i0 i1 c0 c1 hm
theorem bytes_no_ok (op w dst src base disp imm cc : Int) (ho : op ≤ 127) (hm : mayX op w dst src base disp imm cc = false) : Ret Try.prog 21 ([xD op w dst src base disp imm cc]) (.tup [.lst .no 1 [], .int .i64 2]) := by
 have c0 := @mayX_ok op w dst src base disp imm cc ho
 rw [show (mayX op w dst src base disp imm cc) = false from hm] at c0
 exact (o21 (d := .tup [.lst .tight 0 [], .int .i64 2]) [.ret _ _ _ c0, tT] (by kernel_rfl)).to (by simp [wk, wkL, wkO])
theorem bytes_any_ok (op w dst src base disp imm cc : Int) (ho : op ≤ 127) : Ret Try.prog 21 [xD op w dst src base disp imm cc] (.tup [.lst .no 1 (bytesL op w dst src base disp imm cc), .int .i64 (bytesE op w dst src base disp imm cc)]) := by
 unfold bytesL bytesE
 cases h : mayX op w dst src base disp imm cc
 ·exact bytes_no_ok op w dst src base disp imm cc ho h
 ·exact bytes_may_ok op w dst src base disp imm cc ho h
theorem xlen_ok (op w dst src base disp imm cc : Int) (ho : op ≤ 127) : Ret Try.prog 22 ([xD op w dst src base disp imm cc]) (.int .i64 (lenX op w dst src base disp imm cc)) := by
 have c0 := @bytes_any_ok op w dst src base disp imm cc ho
 exact (o22 (d := .int .i64 (↑(List.length (bytesL op w dst src base disp imm cc)) : Int)) [.ret _ _ _ c0] (by kernel_rfl)).to (by simp [wk, lenX])
theorem rmay14_ok (cc : Int) : Ret Try.prog 186 ([.int .i8 cc]) (.bool (ccM cc)) := by
 by_cases h0 : cc = 2
 ·subst h0
  exact (Ret.of_eval (d := .bool true) mixed Try.func186 (by kernel_rfl) [tT, tT] (by kernel_rfl)).to (by first | rfl | skip; apply wk_bool; unfold ccM; symm; first | (rw [decide_eq_true_eq]; omega) | (rw [decide_eq_false_iff_not]; omega) | (rw [Bool.eq_iff_iff]; simp only [beq_iff_eq, decide_eq_true_eq]; omega))
 ·skip
  by_cases h1 : cc = 3
  ·subst h1
   exact (Ret.of_eval (d := .bool true) mixed Try.func186 (by kernel_rfl) [tC (neOf h0), tT, tT] (by kernel_rfl)).to (by first | rfl | skip; apply wk_bool; unfold ccM; symm; first | (rw [decide_eq_true_eq]; omega) | (rw [decide_eq_false_iff_not]; omega) | (rw [Bool.eq_iff_iff]; simp only [beq_iff_eq, decide_eq_true_eq]; omega))
  ·skip
   by_cases h2 : cc = 4
   ·subst h2
    exact (Ret.of_eval (d := .bool true) mixed Try.func186 (by kernel_rfl) [tC (neOf h0), tC (neOf h1), tT, tT] (by kernel_rfl)).to (by first | rfl | skip; apply wk_bool; unfold ccM; symm; first | (rw [decide_eq_true_eq]; omega) | (rw [decide_eq_false_iff_not]; omega) | (rw [Bool.eq_iff_iff]; simp only [beq_iff_eq, decide_eq_true_eq]; omega))
   ·skip
    by_cases h3 : cc = 5
    ·subst h3
     exact (Ret.of_eval (d := .bool true) mixed Try.func186 (by kernel_rfl) [tC (neOf h0), tC (neOf h1), tC (neOf h2), tT, tT] (by kernel_rfl)).to (by first | rfl | skip; apply wk_bool; unfold ccM; symm; first | (rw [decide_eq_true_eq]; omega) | (rw [decide_eq_false_iff_not]; omega) | (rw [Bool.eq_iff_iff]; simp only [beq_iff_eq, decide_eq_true_eq]; omega))
    ·skip
     by_cases h4 : cc = 6
     ·subst h4
      exact (Ret.of_eval (d := .bool true) mixed Try.func186 (by kernel_rfl) [tC (neOf h0), tC (neOf h1), tC (neOf h2), tC (neOf h3), tT, tT] (by kernel_rfl)).to (by first | rfl | skip; apply wk_bool; unfold ccM; symm; first | (rw [decide_eq_true_eq]; omega) | (rw [decide_eq_false_iff_not]; omega) | (rw [Bool.eq_iff_iff]; simp only [beq_iff_eq, decide_eq_true_eq]; omega))
     ·skip
      by_cases h5 : cc = 7
      ·subst h5
       exact (Ret.of_eval (d := .bool true) mixed Try.func186 (by kernel_rfl) [tC (neOf h0), tC (neOf h1), tC (neOf h2), tC (neOf h3), tC (neOf h4), tT, tT] (by kernel_rfl)).to (by first | rfl | skip; apply wk_bool; unfold ccM; symm; first | (rw [decide_eq_true_eq]; omega) | (rw [decide_eq_false_iff_not]; omega) | (rw [Bool.eq_iff_iff]; simp only [beq_iff_eq, decide_eq_true_eq]; omega))
      ·skip
       by_cases h6 : cc = 12
       ·subst h6
        exact (Ret.of_eval (d := .bool true) mixed Try.func186 (by kernel_rfl) [tC (neOf h0), tC (neOf h1), tC (neOf h2), tC (neOf h3), tC (neOf h4), tC (neOf h5), tT, tT] (by kernel_rfl)).to (by first | rfl | skip; apply wk_bool; unfold ccM; symm; first | (rw [decide_eq_true_eq]; omega) | (rw [decide_eq_false_iff_not]; omega) | (rw [Bool.eq_iff_iff]; simp only [beq_iff_eq, decide_eq_true_eq]; omega))
       ·skip
        by_cases h7 : cc = 13
        ·subst h7
         exact (Ret.of_eval (d := .bool true) mixed Try.func186 (by kernel_rfl) [tC (neOf h0), tC (neOf h1), tC (neOf h2), tC (neOf h3), tC (neOf h4), tC (neOf h5), tC (neOf h6), tT, tT] (by kernel_rfl)).to (by first | rfl | skip; apply wk_bool; unfold ccM; symm; first | (rw [decide_eq_true_eq]; omega) | (rw [decide_eq_false_iff_not]; omega) | (rw [Bool.eq_iff_iff]; simp only [beq_iff_eq, decide_eq_true_eq]; omega))
        ·skip
         by_cases h8 : cc = 14
         ·subst h8
          exact (Ret.of_eval (d := .bool true) mixed Try.func186 (by kernel_rfl) [tC (neOf h0), tC (neOf h1), tC (neOf h2), tC (neOf h3), tC (neOf h4), tC (neOf h5), tC (neOf h6), tC (neOf h7), tT, tT] (by kernel_rfl)).to (by first | rfl | skip; apply wk_bool; unfold ccM; symm; first | (rw [decide_eq_true_eq]; omega) | (rw [decide_eq_false_iff_not]; omega) | (rw [Bool.eq_iff_iff]; simp only [beq_iff_eq, decide_eq_true_eq]; omega))
         ·skip
          by_cases h9 : cc = 15
          ·subst h9
           exact (Ret.of_eval (d := .bool true) mixed Try.func186 (by kernel_rfl) [tC (neOf h0), tC (neOf h1), tC (neOf h2), tC (neOf h3), tC (neOf h4), tC (neOf h5), tC (neOf h6), tC (neOf h7), tC (neOf h8), tT] (by kernel_rfl)).to (by first | rfl | skip; apply wk_bool; unfold ccM; symm; first | (rw [decide_eq_true_eq]; omega) | (rw [decide_eq_false_iff_not]; omega) | (rw [Bool.eq_iff_iff]; simp only [beq_iff_eq, decide_eq_true_eq]; omega))
          ·skip
           exact (Ret.of_eval (d := .bool false) mixed Try.func186 (by kernel_rfl) [tC (neOf h0), tC (neOf h1), tC (neOf h2), tC (neOf h3), tC (neOf h4), tC (neOf h5), tC (neOf h6), tC (neOf h7), tC (neOf h8), tC (neOf h9)] (by kernel_rfl)).to (by first | rfl | skip; apply wk_bool; unfold ccM; symm; first | (rw [decide_eq_true_eq]; omega) | (rw [decide_eq_false_iff_not]; omega) | (rw [Bool.eq_iff_iff]; simp only [beq_iff_eq, decide_eq_true_eq]; omega))
theorem rimay_4_ok (op w dst src base disp imm cc reg phys num to : Int) (ho : op ≤ 127) (hc : cc ≤ 127) (hp : phys ≤ 127) (g0 : -128 ≤ reg) (g1 : reg ≤ 127)  : Ret Try.prog 159 ([irD 4 op w dst src base disp imm cc reg phys num to]) (.bool (mayI 4 op w dst src base disp imm cc reg phys num to)) := by
 let E1 : EL := [tT, tT, tT, tF, tT, tT, tT, .inl, tF, tF, tF, tF, tT]
 rcases bft (eqCells [.int .i8 4, .int .i8 op, .int .i8 w, .int .i8 dst, .int .i8 src, .int .i8 base, .int .i64 disp, .int .i64 imm, .int .i8 cc, .int .i8 reg, .int .i8 phys, .int .i64 num, .int .i64 to] [.int .i8 4, .int .i8 29, .int .i8 0, .int .i8 0, .int .i8 0, .int .i8 0, .int .i64 0, .int .i64 0, .int .i8 cc, .int .i8 0, .int .i8 0, .int .i64 0, .int .i64 to]) with h0 | h0
 ·have c1 := @rmay14_ok cc
  let E2 : EL := E1 ++ [.keep [(0, .box [.int .i8 4, .int .i8 op, .int .i8 w, .int .i8 dst, .int .i8 src, .int .i8 base, .int .i64 disp, .int .i64 imm, .int .i8 cc, .int .i8 reg, .int .i8 phys, .int .i64 num, .int .i64 to])], tT, .flat _ _ flat_Ir, tF, tC (nt h0), tF, tF, tF, tF, tT, .ret _ _ _ c1]
  rcases bft (ccM cc) with h2 | h2
  ·rcases bft (decide (to < 0)) with h3 | h3
   ·exact (o159 (d := .bool false) (E2 ++ [tC (eT h2), tC (eT h2), tC (eT h2), tC h2] ++ List.replicate 3 (tC (eT (leL 0 h3))) ++ [tC (leL 0 h3)]) (by kernel_rfl)).to (by clear E1 E2; simp only [wk, D.bool.injEq, eq_irc, mayI_4, zeroX, h0, h2, h3, Bool.true_and, Bool.false_and, Bool.and_true, Bool.and_false]; (rw [Bool.eq_iff_iff]; simp only [sl1, eq_irc] at *; first | done | omega | (intro hh; omega) | (simp; done) | (intro hh; simp at hh; omega) | (constructor <;> intro hh <;> omega)))
   exact (o159 (d := .bool (decide (to ≤ 64))) (E2 ++ [tC (eT h2), tC (eT h2), tC (eT h2), tC h2] ++ List.replicate 3 (tC (eT (leL 0 h3))) ++ [tC (leL 0 h3)]) (by kernel_rfl)).to (by clear E1 E2; simp only [wk, D.bool.injEq, eq_irc, mayI_4, zeroX, h0, h2, h3, Bool.true_and, Bool.false_and, Bool.and_true, Bool.and_false]; (rw [Bool.eq_iff_iff]; simp only [sl1, eq_irc] at *; first | done | omega | (intro hh; omega) | (simp; done) | (intro hh; simp at hh; omega) | (constructor <;> intro hh <;> omega)))
  exact (o159 (d := .bool false) (E2 ++ [tC (eT h2), tC (eT h2), tC (eT h2), tC h2, tF, tF, tF, tF]) (by kernel_rfl)).to (by clear E1 E2; simp only [wk, D.bool.injEq, eq_irc, mayI_4, zeroX, h0, h2, Bool.true_and, Bool.false_and, Bool.and_true, Bool.and_false]; done)
 exact (o159 (d := .bool false) (E1 ++ [.keep [(0, .box [.int .i8 4, .int .i8 op, .int .i8 w, .int .i8 dst, .int .i8 src, .int .i8 base, .int .i64 disp, .int .i64 imm, .int .i8 cc, .int .i8 reg, .int .i8 phys, .int .i64 num, .int .i64 to])], tT, .flat _ _ flat_Ir, tF, tC (nt h0)]) (by kernel_rfl)).to (by clear E1; simp only [wk, D.bool.injEq, eq_irc, mayI_4, zeroX, h0, Bool.true_and, Bool.false_and, Bool.and_true, Bool.and_false]; (rw [Bool.eq_iff_iff]; simp only [sl1, eq_irc] at *; first | done | omega | (intro hh; omega) | (simp; done) | (intro hh; simp at hh; omega) | (constructor <;> intro hh <;> omega)))
theorem rimay_5_ok (op w dst src base disp imm cc reg phys num to : Int) (ho : op ≤ 127) (hc : cc ≤ 127) (hp : phys ≤ 127) (g0 : -128 ≤ reg) (g1 : reg ≤ 127)  : Ret Try.prog 159 ([irD 5 op w dst src base disp imm cc reg phys num to]) (.bool (mayI 5 op w dst src base disp imm cc reg phys num to)) := by
 let E1 : EL := [tT, tT, tT, tF, tT, tT, tT, .inl, tF, tF, tF, tF, tF, tT]
 rcases bft (eqCells [.int .i8 5, .int .i8 op, .int .i8 w, .int .i8 dst, .int .i8 src, .int .i8 base, .int .i64 disp, .int .i64 imm, .int .i8 cc, .int .i8 reg, .int .i8 phys, .int .i64 num, .int .i64 to] [.int .i8 5, .int .i8 0, .int .i8 0, .int .i8 0, .int .i8 0, .int .i8 0, .int .i64 0, .int .i64 0, .int .i8 0, .int .i8 0, .int .i8 0, .int .i64 0, .int .i64 to]) with h0 | h0
 ·let E2 : EL := E1 ++ [.keep [(0, .box [.int .i8 5, .int .i8 op, .int .i8 w, .int .i8 dst, .int .i8 src, .int .i8 base, .int .i64 disp, .int .i64 imm, .int .i8 cc, .int .i8 reg, .int .i8 phys, .int .i64 num, .int .i64 to])], tT, .flat _ _ flat_Ir, tF, tC (nt h0), tF, tF, tF, tF, tF, tT]
  rcases bft (decide (to < 0)) with h1 | h1
  ·exact (o159 (d := .bool false) (E2 ++ List.replicate 3 (tC (eT (leL 0 h1))) ++ [tC (leL 0 h1)]) (by kernel_rfl)).to (by clear E1 E2; simp only [wk, D.bool.injEq, eq_irc, mayI_5, zeroX, h0, h1, Bool.true_and, Bool.false_and, Bool.and_true, Bool.and_false]; (rw [Bool.eq_iff_iff]; simp only [sl1, eq_irc] at *; first | done | omega | (intro hh; omega) | (simp; done) | (intro hh; simp at hh; omega) | (constructor <;> intro hh <;> omega)))
  exact (o159 (d := .bool (decide (to ≤ 64))) (E2 ++ List.replicate 3 (tC (eT (leL 0 h1))) ++ [tC (leL 0 h1)]) (by kernel_rfl)).to (by clear E1 E2; simp only [wk, D.bool.injEq, eq_irc, mayI_5, zeroX, h0, h1, Bool.true_and, Bool.false_and, Bool.and_true, Bool.and_false]; (rw [Bool.eq_iff_iff]; simp only [sl1, eq_irc] at *; first | done | omega | (intro hh; omega) | (simp; done) | (intro hh; simp at hh; omega) | (constructor <;> intro hh <;> omega)))
 exact (o159 (d := .bool false) (E1 ++ [.keep [(0, .box [.int .i8 5, .int .i8 op, .int .i8 w, .int .i8 dst, .int .i8 src, .int .i8 base, .int .i64 disp, .int .i64 imm, .int .i8 cc, .int .i8 reg, .int .i8 phys, .int .i64 num, .int .i64 to])], tT, .flat _ _ flat_Ir, tF, tC (nt h0)]) (by kernel_rfl)).to (by clear E1; simp only [wk, D.bool.injEq, eq_irc, mayI_5, zeroX, h0, Bool.true_and, Bool.false_and, Bool.and_true, Bool.and_false]; (rw [Bool.eq_iff_iff]; simp only [sl1, eq_irc] at *; first | done | omega | (intro hh; omega) | (simp; done) | (intro hh; simp at hh; omega) | (constructor <;> intro hh <;> omega)))
theorem rl_0_ok (op w dst src base disp imm cc reg phys num to n : Int) (q : Bool) (hm : Ret Try.prog 54 [xD op w dst src base disp imm cc] (.bool q))  : Ret Try.prog 129 ([irD 0 op w dst src base disp imm cc reg phys num to, .int .i64 n]) (.bool (decide (reg = 0 ∧ phys = 0 ∧ num = 0 ∧ to = 0) && (q && !decide (op = 28 ∨ op = 29)))) := by
 by_cases h0 : reg = 0
 ·subst h0
  let E1 : EL := [tT, tT, tT, tT, tT]
  by_cases h1 : phys = 0
  ·subst h1
   by_cases h2 : num = 0
   ·subst h2
    by_cases h3 : to = 0
    ·subst h3
     let E2 : EL := E1 ++ List.replicate 11 tT ++ [.ret _ _ _ hm, tT]
     cases q
     ·exact (o129 (d := .bool false) (E2 ++ [tF, tF, tF, tF, tF]) (by kernel_rfl)).to (by clear E1 E2; (try simp only [sl0, wk, wkL, wkO, eqCells, eqCell, eq_irc] at *); (simp [wk, wkL, wkO, eqCells, eqCell, eq_irc, *]; done))
     by_cases h4 : op = 28
     ·subst h4
      exact (o129 (d := .bool false) (E2 ++ [tT, tT, tT, .inl, tF, tF, tF, tT, tT, tT]) (by kernel_rfl)).to (by clear E1 E2; (try simp only [sl0, wk, wkL, wkO, eqCells, eqCell, eq_irc] at *); (simp [wk, wkL, wkO, eqCells, eqCell, eq_irc, *]; done))
     exact (o129 (d := .bool !op == 29) (E2 ++ [tT, tT, tT, .inl] ++ List.replicate 3 (tC (eF (neOf h4))) ++ [tC (neOf h4), tT, tT]) (by kernel_rfl)).to (by clear E1 E2; (try simp only [sl0, wk, wkL, wkO, eqCells, eqCell, eq_irc] at *); (rw [Bool.eq_iff_iff]; simp [wk, wkL, wkO, eqCells, eqCell, eq_irc, *]; done))
    exact (o129 (d := .bool false) (E1 ++ List.replicate 8 tT ++ List.replicate 3 (tC (eT (neOf h3))) ++ [tC (neOf h3), tF, tF, tF, tF, tF]) (by kernel_rfl)).to (by clear E1; (try simp only [sl0, wk, wkL, wkO, eqCells, eqCell, eq_irc] at *); (simp [wk, wkL, wkO, eqCells, eqCell, eq_irc, *]; done))
   exact (o129 (d := .bool false) (E1 ++ [tT, tT, tT, tT] ++ List.replicate 3 (tC (eT (neOf h2))) ++ [tC (neOf h2)] ++ List.replicate 9 tF) (by kernel_rfl)).to (by clear E1; (try simp only [sl0, wk, wkL, wkO, eqCells, eqCell, eq_irc] at *); (simp [wk, wkL, wkO, eqCells, eqCell, eq_irc, *]; done))
  exact (o129 (d := .bool false) (E1 ++ List.replicate 3 (tC (eT (neOf h1))) ++ [tC (neOf h1)] ++ List.replicate 13 tF) (by kernel_rfl)).to (by clear E1; (try simp only [sl0, wk, wkL, wkO, eqCells, eqCell, eq_irc] at *); (simp [wk, wkL, wkO, eqCells, eqCell, eq_irc, *]; done))
 exact (o129 (d := .bool false) ([tT] ++ List.replicate 3 (tC (eT (neOf h0))) ++ [tC (neOf h0)] ++ List.replicate 17 tF) (by kernel_rfl)).to (by (try simp only [sl0, wk, wkL, wkO, eqCells, eqCell, eq_irc] at *); (simp [wk, wkL, wkO, eqCells, eqCell, eq_irc, *]; done))
theorem rl_4_ok (op w dst src base disp imm cc reg phys num to n : Int) (q : Bool) (hm : Ret Try.prog 159 [irD 4 op w dst src base disp imm cc reg phys num to] (.bool q))  : Ret Try.prog 129 ([irD 4 op w dst src base disp imm cc reg phys num to, .int .i64 n]) (.bool (q && decide (to < n))) := by
 cases q
 ·exact (o129 (d := .bool false) [tF, tT, tT, .ret _ _ _ hm, tF, tF, tF, tF, tF] (by kernel_rfl)).to (by (try simp only [sl0, wk, wkL, wkO, eqCells, eqCell, eq_irc] at *); (simp [wk, wkL, wkO, eqCells, eqCell, eq_irc, *]; done))
 exact (o129 (d := .bool (decide (to < n))) [tF, tT, tT, .ret _ _ _ hm, tT, tT, tT, tT, tT] (by kernel_rfl)).to (by (try simp only [sl0, wk, wkL, wkO, eqCells, eqCell, eq_irc] at *); (simp [wk, wkL, wkO, eqCells, eqCell, eq_irc, *]; done))
theorem rl_5_ok (op w dst src base disp imm cc reg phys num to n : Int) (q : Bool) (hm : Ret Try.prog 159 [irD 5 op w dst src base disp imm cc reg phys num to] (.bool q))  : Ret Try.prog 129 ([irD 5 op w dst src base disp imm cc reg phys num to, .int .i64 n]) (.bool (q && decide (to < n))) := by
 cases q
 ·exact (o129 (d := .bool false) [tF, tF, tT, .ret _ _ _ hm, tF, tF, tF, tF, tF] (by kernel_rfl)).to (by (try simp only [sl0, wk, wkL, wkO, eqCells, eqCell, eq_irc] at *); (simp [wk, wkL, wkO, eqCells, eqCell, eq_irc, *]; done))
 exact (o129 (d := .bool (decide (to < n))) [tF, tF, tT, .ret _ _ _ hm, tT, tT, tT, tT, tT] (by kernel_rfl)).to (by (try simp only [sl0, wk, wkL, wkO, eqCells, eqCell, eq_irc] at *); (simp [wk, wkL, wkO, eqCells, eqCell, eq_irc, *]; done))
theorem rl_n_ok (kind op w dst src base disp imm cc reg phys num to n : Int) (k0 : kind ≠ 0) (k4 : kind ≠ 4) (k5 : kind ≠ 5)  : Ret Try.prog 129 ([irD kind op w dst src base disp imm cc reg phys num to, .int .i64 n]) (.bool false) := by
 exact (o129 (d := .bool false) [tC (by ((try simp only [sL] at *); (try unfold big at *); omega) : (kind == 0) = false), tC (by ((try simp only [sL] at *); (try unfold big at *); omega) : (kind == 4) = false), tC (by ((try simp only [sL] at *); (try unfold big at *); omega) : (kind == 5) = false)] (by kernel_rfl)).to (by rfl)
theorem dq_end (pro : List XS) (l : List (List IrS)) (n i : Int) (i0 : 0 ≤ i) (i1 : i ≤ 100000) (h : ((xsL pro).length : Int) ≤ i)  : RoundRun Try.prog (loopB Try.f67 0) ⟨[0, 1, 4, 7], [], []⟩ 0 ((.lst .no 8 (xsL pro)) :: (.lst .no 1 (rwL l)) :: (uu) :: (uu) :: (.lst .tight 0 []) :: (uu) :: (uu) :: (.int .i64 n) :: (.int .i64 i) :: (un 169)) [] (.exit 0) ((.lst .no 8 (xsL pro)) :: (.lst .no 1 (rwL l)) :: (uu) :: (uu) :: (.lst .tight 0 []) :: (uu) :: (uu) :: (.int .i64 n) :: (un 170)) ([]) := by
 exact RoundRun.of_eval mixed [tC (by ((try simp only [sL] at *); (try unfold big at *); omega) : (decide (i < (↑(List.length (xsL pro)) : Int))) = false)] (by kernel_rfl)
theorem dq_in (pro : List XS) (l : List (List IrS)) (n i : Int) (i0 : 0 ≤ i) (i1 : i ≤ 100000) (h : i < ((xsL pro).length : Int)) (x : XS) (hx : (xsL pro)[Int.toNat i]? = some (xsD x)) (hm : Ret Try.prog 54 [xsD x] (.bool true)) (j1 : x.op ≠ 28) (j2 : x.op ≠ 29)  : RoundRun Try.prog (loopB Try.f67 0) ⟨[0, 1, 4, 7, 8], [], []⟩ 0 ((.lst .no 8 (xsL pro)) :: (.lst .no 1 (rwL l)) :: (uu) :: (uu) :: (.lst .tight 0 []) :: (uu) :: (uu) :: (.int .i64 n) :: (.int .i64 i) :: (un 169)) [] .norm ((.lst .no 8 (xsL pro)) :: (.lst .no 1 (rwL l)) :: (uu) :: (uu) :: (.lst .tight 0 []) :: (uu) :: (uu) :: (.int .i64 n) :: (.int .i64 (IntKind.i64.wrap (i + 1))) :: (un 169)) ([]) := by
 exact RoundRun.of_eval mixed ([tC (by ((try simp only [sL] at *); (try unfold big at *); omega) : (decide (i < (↑(List.length (xsL pro)) : Int))) = true), tC (v := true) (leL 0 (decide_eq_false (Int.not_lt.2 i0))), .get _ _ _ hx, .ret _ _ _ hm, tT, tT, tT, tC (v := true) (leL 0 (decide_eq_false (Int.not_lt.2 i0))), .get _ _ _ hx, tT, tT, .inl] ++ List.replicate 3 (tC (eF (by ((try simp only [sL] at *); (try unfold big at *); omega) : (XS.op x == 28) = false))) ++ [tC (by ((try simp only [sL] at *); (try unfold big at *); omega) : (XS.op x == 28) = false), tF, tC (by ((try simp only [sL] at *); (try unfold big at *); omega) : (XS.op x == 29) = false)]) (by kernel_rfl)
theorem dq_m (pro : List XS) (l : List (List IrS)) (n i : Int) (i0 : 0 ≤ i) (i1 : i ≤ 100000) (h : i < ((xsL pro).length : Int)) (x : XS) (hx : (xsL pro)[Int.toNat i]? = some (xsD x)) (hm : Ret Try.prog 54 [xsD x] (.bool false))  : RoundRun Try.prog (loopB Try.f67 0) ⟨[4, 5, 6], [], []⟩ 0 ((.lst .no 8 (xsL pro)) :: (.lst .no 1 (rwL l)) :: (uu) :: (uu) :: (.lst .tight 0 []) :: (uu) :: (uu) :: (.int .i64 n) :: (.int .i64 i) :: (un 169)) [] (Ex.ret) (un 4 ++ (.lst .tight 0 []) :: (.lst .tight 0 []) :: (.int .i64 2) :: (un 171)) ([]) := by
 exact RoundRun.of_eval mixed [tC (by ((try simp only [sL] at *); (try unfold big at *); omega) : (decide (i < (↑(List.length (xsL pro)) : Int))) = true), tC (v := true) (leL 0 (decide_eq_false (Int.not_lt.2 i0))), .get _ _ _ hx, .ret _ _ _ hm, tF, tF, tF, tF, tF, tT, tT] (by kernel_rfl)
theorem dq_j1 (pro : List XS) (l : List (List IrS)) (n i : Int) (i0 : 0 ≤ i) (i1 : i ≤ 100000) (h : i < ((xsL pro).length : Int)) (x : XS) (hx : (xsL pro)[Int.toNat i]? = some (xsD x)) (hm : Ret Try.prog 54 [xsD x] (.bool true)) (j1 : x.op = 28)  : RoundRun Try.prog (loopB Try.f67 0) ⟨[4, 5, 6], [], []⟩ 0 ((.lst .no 8 (xsL pro)) :: (.lst .no 1 (rwL l)) :: (uu) :: (uu) :: (.lst .tight 0 []) :: (uu) :: (uu) :: (.int .i64 n) :: (.int .i64 i) :: (un 169)) [] (Ex.ret) (un 4 ++ (.lst .tight 0 []) :: (.lst .tight 0 []) :: (.int .i64 2) :: (un 171)) ([]) := by
 exact RoundRun.of_eval mixed ([tC (by ((try simp only [sL] at *); (try unfold big at *); omega) : (decide (i < (↑(List.length (xsL pro)) : Int))) = true), tC (v := true) (leL 0 (decide_eq_false (Int.not_lt.2 i0))), .get _ _ _ hx, .ret _ _ _ hm, tT, tT, tT, tC (v := true) (leL 0 (decide_eq_false (Int.not_lt.2 i0))), .get _ _ _ hx, tT, tT, .inl] ++ List.replicate 3 (tC (eF (eqI 28 true (by ((try simp only [sL] at *); (try unfold big at *); omega) : XS.op x = 28)))) ++ [tC (eqI 28 true (by ((try simp only [sL] at *); (try unfold big at *); omega) : XS.op x = 28)), tF, tT]) (by kernel_rfl)
theorem dq_j2 (pro : List XS) (l : List (List IrS)) (n i : Int) (i0 : 0 ≤ i) (i1 : i ≤ 100000) (h : i < ((xsL pro).length : Int)) (x : XS) (hx : (xsL pro)[Int.toNat i]? = some (xsD x)) (hm : Ret Try.prog 54 [xsD x] (.bool true)) (j1 : x.op = 29)  : RoundRun Try.prog (loopB Try.f67 0) ⟨[4, 5, 6], [], []⟩ 0 ((.lst .no 8 (xsL pro)) :: (.lst .no 1 (rwL l)) :: (uu) :: (uu) :: (.lst .tight 0 []) :: (uu) :: (uu) :: (.int .i64 n) :: (.int .i64 i) :: (un 169)) [] (Ex.ret) (un 4 ++ (.lst .tight 0 []) :: (.lst .tight 0 []) :: (.int .i64 2) :: (un 171)) ([]) := by
 exact RoundRun.of_eval mixed ([tC (by ((try simp only [sL] at *); (try unfold big at *); omega) : (decide (i < (↑(List.length (xsL pro)) : Int))) = true), tC (v := true) (leL 0 (decide_eq_false (Int.not_lt.2 i0))), .get _ _ _ hx, .ret _ _ _ hm, tT, tT, tT, tC (v := true) (leL 0 (decide_eq_false (Int.not_lt.2 i0))), .get _ _ _ hx, tT, tT, .inl] ++ List.replicate 3 (tC (eF (by ((try simp only [sL] at *); (try unfold big at *); omega) : (XS.op x == 28) = false))) ++ [tC (by ((try simp only [sL] at *); (try unfold big at *); omega) : (XS.op x == 28) = false), tF, tC (eqI 29 true (by ((try simp only [sL] at *); (try unfold big at *); omega) : XS.op x = 29))]) (by kernel_rfl)
theorem ds_end (pro : List XS) (l : List (List IrS)) (n b i : Int) (b0 : 0 ≤ b) (b1 : b ≤ 1000) (i0 : 0 ≤ i) (i1 : i ≤ 100000) (r : List IrS) (hb : (rwL l)[Int.toNat b]? = some (.lst .no 13 (irL r))) (h : ((irL r).length : Int) ≤ i)  : RoundRun Try.prog (loopB Try.f67 2) ⟨[0, 1, 4, 7, 9], [], []⟩ 0 ((.lst .no 8 (xsL pro)) :: (.lst .no 1 (rwL l)) :: (uu) :: (uu) :: (.lst .tight 0 []) :: (uu) :: (uu) :: (.int .i64 n) :: (uu) :: (.int .i64 b) :: (.int .i64 i) :: (un 167)) [] (.exit 4) ((.lst .no 8 (xsL pro)) :: (.lst .no 1 (rwL l)) :: (uu) :: (uu) :: (.lst .tight 0 []) :: (uu) :: (uu) :: (.int .i64 n) :: (uu) :: (.int .i64 b) :: (un 168)) ([]) := by
 exact RoundRun.of_eval mixed [tC (v := true) (leL 0 (decide_eq_false (Int.not_lt.2 b0))), .get _ _ _ hb, tC (by ((try simp only [sL] at *); (try unfold big at *); omega) : (decide (i < (↑(List.length (irL r)) : Int))) = false)] (by kernel_rfl)
theorem ds_in (pro : List XS) (l : List (List IrS)) (n b i : Int) (b0 : 0 ≤ b) (b1 : b ≤ 1000) (i0 : 0 ≤ i) (i1 : i ≤ 100000) (r : List IrS) (hb : (rwL l)[Int.toNat b]? = some (.lst .no 13 (irL r))) (h : i < ((irL r).length : Int)) (s : IrS) (hx : (irL r)[Int.toNat i]? = some (IrS.d s)) (hm : Ret Try.prog 129 [IrS.d s, .int .i64 ((rwL l).length : Int)] (.bool true))  : RoundRun Try.prog (loopB Try.f67 2) ⟨[0, 1, 4, 7, 9, 10], [], []⟩ 0 ((.lst .no 8 (xsL pro)) :: (.lst .no 1 (rwL l)) :: (uu) :: (uu) :: (.lst .tight 0 []) :: (uu) :: (uu) :: (.int .i64 n) :: (uu) :: (.int .i64 b) :: (.int .i64 i) :: (un 167)) [] .norm ((.lst .no 8 (xsL pro)) :: (.lst .no 1 (rwL l)) :: (uu) :: (uu) :: (.lst .tight 0 []) :: (uu) :: (uu) :: (.int .i64 n) :: (uu) :: (.int .i64 b) :: (.int .i64 (IntKind.i64.wrap (i + 1))) :: (un 167)) ([]) := by
 exact RoundRun.of_eval mixed [tC (v := true) (leL 0 (decide_eq_false (Int.not_lt.2 b0))), .get _ _ _ hb, tC (by ((try simp only [sL] at *); (try unfold big at *); omega) : (decide (i < (↑(List.length (irL r)) : Int))) = true), tC (v := true) (leL 0 (decide_eq_false (Int.not_lt.2 b0))), .get _ _ _ hb, tC (v := true) (leL 0 (decide_eq_false (Int.not_lt.2 i0))), .get _ _ _ hx, .ret _ _ _ hm, tF] (by kernel_rfl)
theorem ds_bad (pro : List XS) (l : List (List IrS)) (n b i : Int) (b0 : 0 ≤ b) (b1 : b ≤ 1000) (i0 : 0 ≤ i) (i1 : i ≤ 100000) (r : List IrS) (hb : (rwL l)[Int.toNat b]? = some (.lst .no 13 (irL r))) (h : i < ((irL r).length : Int)) (s : IrS) (hx : (irL r)[Int.toNat i]? = some (IrS.d s)) (hm : Ret Try.prog 129 [IrS.d s, .int .i64 ((rwL l).length : Int)] (.bool false))  : RoundRun Try.prog (loopB Try.f67 2) ⟨[4, 5, 6], [], []⟩ 0 ((.lst .no 8 (xsL pro)) :: (.lst .no 1 (rwL l)) :: (uu) :: (uu) :: (.lst .tight 0 []) :: (uu) :: (uu) :: (.int .i64 n) :: (uu) :: (.int .i64 b) :: (.int .i64 i) :: (un 167)) [] (Ex.ret) (un 4 ++ (.lst .tight 0 []) :: (.lst .tight 0 []) :: (.int .i64 2) :: (un 171)) ([]) := by
 exact RoundRun.of_eval mixed [tC (v := true) (leL 0 (decide_eq_false (Int.not_lt.2 b0))), .get _ _ _ hb, tC (by ((try simp only [sL] at *); (try unfold big at *); omega) : (decide (i < (↑(List.length (irL r)) : Int))) = true), tC (v := true) (leL 0 (decide_eq_false (Int.not_lt.2 b0))), .get _ _ _ hb, tC (v := true) (leL 0 (decide_eq_false (Int.not_lt.2 i0))), .get _ _ _ hx, .ret _ _ _ hm, tT] (by kernel_rfl)
theorem pt_end (l : List (List IrS)) (p : List PaS) (q : List Int) (n c b : Int) (b0 : 0 ≤ b) (hc : c = ((rwL l).length : Int)) (hcl : c ≤ 1000) (hp : ((paL p).length : Int) ≤ 100000) (hq : ((intsD q).length : Int) ≤ 100000) (n0 : 0 ≤ n) (n1 : n ≤ 1000000) (h : c ≤ b)  : RoundRun Try.prog (loopB Try.f64 1) ⟨[7], [], [(4, 10), (5, 1)]⟩ 1 ((uu) :: (.lst .no 1 (rwL l)) :: (uu) :: (uu) :: (.lst (.tok 1 0) 10 (paL p)) :: (.lst (.tok 2 0) 1 (intsD q)) :: (uu) :: (.int .i64 n) :: (un 35 ++ (.int .i64 c) :: (.int .i64 b) :: (un 43))) [.dead, .fam 0 10, .fam 0 1] (.exit 2) (un 4 ++ (.lst (.tok 1 0) 10 (paL p)) :: (.lst (.tok 2 0) 1 (intsD q)) :: (uu) :: (.int .i64 n) :: (un 80)) ([.dead, .fam 0 10, .fam 0 1]) := by
 exact RoundRun.of_eval mixed [tC (by ((try simp only [sL] at *); (try unfold big at *); omega) : (decide (b < c)) = false)] (by kernel_rfl)
theorem pt_bad (l : List (List IrS)) (p : List PaS) (q : List Int) (n c b : Int) (b0 : 0 ≤ b) (hc : c = ((rwL l).length : Int)) (hcl : c ≤ 1000) (hp : ((paL p).length : Int) ≤ 100000) (hq : ((intsD q).length : Int) ≤ 100000) (n0 : 0 ≤ n) (n1 : n ≤ 1000000) (h : b < c) (r : List IrS) (hx : (rwL l)[Int.toNat b]? = some (.lst .no 13 (irL r))) (hr : ((irL r).length : Int) ≤ 100000) (hlo : LoopRun Try.prog 3 (.loop (loopB Try.f64 2)) (ckT l r p q (IntKind.i64.wrap (n + ((irL r).length : Int))) c b ((irL r).length : Int) 0) [.dead, .fam 0 10, .fam 0 1] .ret ckE [.dead, .dead, .dead])  : RoundRun Try.prog (loopB Try.f64 1) ⟨[4, 5, 6], [], []⟩ 1 ((uu) :: (.lst .no 1 (rwL l)) :: (uu) :: (uu) :: (.lst (.tok 1 0) 10 (paL p)) :: (.lst (.tok 2 0) 1 (intsD q)) :: (uu) :: (.int .i64 n) :: (un 35 ++ (.int .i64 c) :: (.int .i64 b) :: (un 43))) [.dead, .fam 0 10, .fam 0 1] (Ex.ret) (un 4 ++ (.lst .tight 0 []) :: (.lst .tight 0 []) :: (.int .i64 2) :: (un 81)) ([.dead]) := by
 have c0 := @run_id (nat_lit 3) _ (((uu) :: (.lst .no 1 (rwL l)) :: (uu) :: (uu) :: (.lst (.tok 1 0) 10 (paL p)) :: (.lst (.tok 2 0) 1 (intsD q)) :: (uu) :: (.int .i64 (IntKind.i64.wrap (n + (↑(List.length (irL r)) : Int)))) :: (uu) :: (uu) :: (.int .i64 b) :: (un 32 ++ (.int .i64 c) :: (.int .i64 b) :: (un 12 ++ (.lst .no 13 (irL r)) :: (.int .i64 (↑(List.length (irL r)) : Int)) :: (.int .i64 0) :: (un 28))))) ([.dead, .fam 0 10, .fam 0 1]) _ _ _ hlo
 exact RoundRun.of_eval mixed [tC (by ((try simp only [sL] at *); (try unfold big at *); omega) : (decide (b < c)) = true), tC (v := true) (leL 0 (decide_eq_false (Int.not_lt.2 b0))), .get _ _ _ hx, tC (v := true) (leL 0 (decide_eq_false (Int.not_lt.2 b0))), .get _ _ _ hx, .head ⟨[1, 4, 5, 7, 10, 43, 44, 57, 58, 59], [1, 2], []⟩ _ _ _ _ _ _ _ c0] (by kernel_rfl)
theorem pt_in (l : List (List IrS)) (p : List PaS) (q : List Int) (n c b : Int) (b0 : 0 ≤ b) (hc : c = ((rwL l).length : Int)) (hcl : c ≤ 1000) (hp : ((paL p).length : Int) ≤ 100000) (hq : ((intsD q).length : Int) ≤ 100000) (n0 : 0 ≤ n) (n1 : n ≤ 1000000) (h : b < c) (r : List IrS) (hx : (rwL l)[Int.toNat b]? = some (.lst .no 13 (irL r))) (hr : ((irL r).length : Int) ≤ 100000) (hlo : LoopRun Try.prog 3 (.loop (loopB Try.f64 2)) (ckT l r p q (IntKind.i64.wrap (n + ((irL r).length : Int))) c b ((irL r).length : Int) 0) [.dead, .fam 0 10, .fam 0 1] (.exit 4) (ckU l p q (IntKind.i64.wrap (n + ((irL r).length : Int))) c b) [.dead, .fam 0 10, .fam 0 1]) (z : List PaS) (hz : ((paL z).length : Int) ≤ 100000) (hbk : Ret Try.prog 126 [.lst .no 13 (irL r), .int .i64 b] (.lst .no 10 (paL z)))  : RoundRun Try.prog (loopB Try.f64 1) ⟨[1, 7, 43, 44], [], [(4, 10), (5, 1)]⟩ 1 ((uu) :: (.lst .no 1 (rwL l)) :: (uu) :: (uu) :: (.lst (.tok 1 0) 10 (paL p)) :: (.lst (.tok 2 0) 1 (intsD q)) :: (uu) :: (.int .i64 n) :: (un 35 ++ (.int .i64 c) :: (.int .i64 b) :: (un 43))) [.dead, .fam 0 10, .fam 0 1] .norm ((uu) :: (.lst .no 1 (rwL l)) :: (uu) :: (uu) :: (.lst (.tok 1 0) 10 (paL p ++ paL z)) :: (.lst (.tok 2 0) 1 (intsD q ++ [.int .i64 (↑(List.length (paL p)) : Int)])) :: (uu) :: (.int .i64 (IntKind.i64.wrap (n + (↑(List.length (irL r)) : Int)))) :: (un 35 ++ (.int .i64 c) :: (.int .i64 (IntKind.i64.wrap (b + 1))) :: (un 43))) ([.dead, .fam 0 10, .fam 0 1]) := by
 have c0 := @run_id (nat_lit 3) _ (((uu) :: (.lst .no 1 (rwL l)) :: (uu) :: (uu) :: (.lst (.tok 1 0) 10 (paL p)) :: (.lst (.tok 2 0) 1 (intsD q)) :: (uu) :: (.int .i64 (IntKind.i64.wrap (n + (↑(List.length (irL r)) : Int)))) :: (uu) :: (uu) :: (.int .i64 b) :: (un 32 ++ (.int .i64 c) :: (.int .i64 b) :: (un 12 ++ (.lst .no 13 (irL r)) :: (.int .i64 (↑(List.length (irL r)) : Int)) :: (.int .i64 0) :: (un 28))))) ([.dead, .fam 0 10, .fam 0 1]) _ _ _ hlo
 generalize g2 : IntKind.i64.wrap (n + (↑(List.length (irL r)) : Int)) = r1 at c0
 exact RoundRun.of_eval mixed [tC (by ((try simp only [sL] at *); (try unfold big at *); omega) : (decide (b < c)) = true), tC (v := true) (leL 0 (decide_eq_false (Int.not_lt.2 b0))), .get _ _ _ hx, tC (v := true) (leL 0 (decide_eq_false (Int.not_lt.2 b0))), .get _ _ _ hx, .head ⟨[1, 4, 5, 7, 10, 43, 44, 57, 58, 59], [1, 2], []⟩ _ _ _ _ _ _ _ c0, .len (List.length (intsD q) + (1 : Nat)) ((2147483648 : Nat)) (by first | decide | omega | (simp; omega)), tC (v := true) (leL 0 (decide_eq_false (Int.not_lt.2 b0))), .get _ _ _ hx, .ret _ _ _ hbk, .inl, .go 64, tT, tT, .get ([.lst .no 10 (paL p), .lst .no 10 (paL z)]) 0 (.lst .no 10 (paL p)) rfl, .len ((0 : Nat) + List.length (paL p)) ((2147483648 : Nat)) (by first | decide | omega | (simp; omega)), tT, tT, .get ([.lst .no 10 (paL p), .lst .no 10 (paL z)]) 1 (.lst .no 10 (paL z)) rfl, .len (List.length (paL p) + List.length (paL z)) ((2147483648 : Nat)) (by first | decide | omega | (simp; omega)), tF] (by kernel_rfl)
theorem pt_lastA (l : List (List IrS)) (p : List PaS) (q : List Int) (n c b : Int) (b0 : 0 ≤ b) (hc : c = ((rwL l).length : Int)) (hcl : c ≤ 1000) (hp : ((paL p).length : Int) ≤ 100000) (hq : ((intsD q).length : Int) ≤ 100000) (n0 : 0 ≤ n) (n1 : n ≤ 1000000) (h : b < c) (r : List IrS) (hx : (rwL l)[Int.toNat b]? = some (.lst .no 13 (irL r))) (hr : ((irL r).length : Int) ≤ 100000) (hlo : LoopRun Try.prog 3 (.loop (loopB Try.f64 2)) (ckT l r p q (IntKind.i64.wrap (n + ((irL r).length : Int))) c b ((irL r).length : Int) 0) [.dead, .fam 0 10, .fam 0 1] (.exit 4) (ckU l p q (IntKind.i64.wrap (n + ((irL r).length : Int))) c b) [.dead, .fam 0 10, .fam 0 1]) (z : List PaS) (hz : ((paL z).length : Int) ≤ 100000) (hbk : Ret Try.prog 126 [.lst .no 13 (irL r), .int .i64 b] (.lst .no 10 (paL z))) (hp0 : Nat.blt 0 (paL p).length = true) (hc1 : cellsOfL (paL p) = some (paC p)) (hc2 : cellsOfL (paL z) = some (paC z)) (hbq : Nat.beq (paC p).length ((paL p).length * 10) = true)  : RoundRun Try.prog (loopB Try.f64 1) ⟨[1, 7, 43, 44], [], [(4, 10), (5, 1)]⟩ 1 ((uu) :: (.lst .no 1 (rwL l)) :: (uu) :: (uu) :: (.lst (.tok 1 0) 10 (paL p)) :: (.lst (.tok 2 0) 1 (intsD q)) :: (uu) :: (.int .i64 n) :: (un 35 ++ (.int .i64 c) :: (.int .i64 b) :: (un 43))) [.dead, .fam 0 10, .fam 0 1] .norm ((uu) :: (.lst .no 1 (rwL l)) :: (uu) :: (uu) :: (.slc 1 10 (List.length (paL p) + List.length (paL z))) :: (.lst (.tok 2 0) 1 (intsD q ++ [.int .i64 (↑(List.length (paL p)) : Int)])) :: (uu) :: (.int .i64 (IntKind.i64.wrap (n + (↑(List.length (irL r)) : Int)))) :: (un 35 ++ (.int .i64 c) :: (.int .i64 (IntKind.i64.wrap (b + 1))) :: (un 43))) ([.dead, .box (List.map D.demote (paC p ++ paC z)), .fam 0 1]) := by
 have c0 := @run_id (nat_lit 3) _ (((uu) :: (.lst .no 1 (rwL l)) :: (uu) :: (uu) :: (.lst (.tok 1 0) 10 (paL p)) :: (.lst (.tok 2 0) 1 (intsD q)) :: (uu) :: (.int .i64 (IntKind.i64.wrap (n + (↑(List.length (irL r)) : Int)))) :: (uu) :: (uu) :: (.int .i64 b) :: (un 32 ++ (.int .i64 c) :: (.int .i64 b) :: (un 12 ++ (.lst .no 13 (irL r)) :: (.int .i64 (↑(List.length (irL r)) : Int)) :: (.int .i64 0) :: (un 28))))) ([.dead, .fam 0 10, .fam 0 1]) _ _ _ hlo
 generalize g2 : IntKind.i64.wrap (n + (↑(List.length (irL r)) : Int)) = r1 at c0
 exact RoundRun.of_eval mixed [tC (by ((try simp only [sL] at *); (try unfold big at *); omega) : (decide (b < c)) = true), tC (v := true) (leL 0 (decide_eq_false (Int.not_lt.2 b0))), .get _ _ _ hx, tC (v := true) (leL 0 (decide_eq_false (Int.not_lt.2 b0))), .get _ _ _ hx, .head ⟨[1, 4, 5, 7, 10, 43, 44, 57, 58, 59], [1, 2], []⟩ _ _ _ _ _ _ _ c0, .len (List.length (intsD q) + (1 : Nat)) ((2147483648 : Nat)) (by first | decide | omega | (simp; omega)), tC (v := true) (leL 0 (decide_eq_false (Int.not_lt.2 b0))), .get _ _ _ hx, .ret _ _ _ hbk, .inl, .go 64, tT, tT, .get ([.lst .no 10 (paL p), .lst .no 10 (paL z)]) 0 (.lst .no 10 (paL p)) rfl, .go 0, .len (List.length (paL p)) ((2147483648 : Nat)) (by first | decide | omega | (simp; omega)), .cel _ _ hc1, tC (v := true) hp0, .raw, tT, tT, .get ([.lst .no 10 (paL p), .lst .no 10 (paL z)]) 1 (.lst .no 10 (paL z)) rfl, .len (List.length (paL p) + List.length (paL z)) ((2147483648 : Nat)) (by first | decide | omega | (simp; omega)), tC (v := true) hbq, .cel _ _ hc2, tF, .cl (paC p ++ paC z) (by exact paC_clean2 _ _)] (by kernel_rfl)
theorem pt_lastB (l : List (List IrS)) (q : List Int) (n c b : Int) (b0 : 0 ≤ b) (hc : c = ((rwL l).length : Int)) (hcl : c ≤ 1000) (hq : ((intsD q).length : Int) ≤ 100000) (n0 : 0 ≤ n) (n1 : n ≤ 1000000) (h : b < c) (r : List IrS) (hx : (rwL l)[Int.toNat b]? = some (.lst .no 13 (irL r))) (hr : ((irL r).length : Int) ≤ 100000) (hlo : LoopRun Try.prog 3 (.loop (loopB Try.f64 2)) (ckT l r [] q (IntKind.i64.wrap (n + ((irL r).length : Int))) c b ((irL r).length : Int) 0) [.dead, .fam 0 10, .fam 0 1] (.exit 4) (ckU l [] q (IntKind.i64.wrap (n + ((irL r).length : Int))) c b) [.dead, .fam 0 10, .fam 0 1]) (z : List PaS) (hz : ((paL z).length : Int) ≤ 100000) (hbk : Ret Try.prog 126 [.lst .no 13 (irL r), .int .i64 b] (.lst .no 10 (paL z))) (hz0 : Nat.blt 0 (paL z).length = true) (hc2 : cellsOfL (paL z) = some (paC z))  : RoundRun Try.prog (loopB Try.f64 1) ⟨[1, 7, 43, 44], [], [(4, 10), (5, 1)]⟩ 1 ((uu) :: (.lst .no 1 (rwL l)) :: (uu) :: (uu) :: (.lst (.tok 1 0) 10 []) :: (.lst (.tok 2 0) 1 (intsD q)) :: (uu) :: (.int .i64 n) :: (un 35 ++ (.int .i64 c) :: (.int .i64 b) :: (un 43))) [.dead, .fam 0 10, .fam 0 1] .norm ((uu) :: (.lst .no 1 (rwL l)) :: (uu) :: (uu) :: (.slc 1 10 (List.length (paL z))) :: (.lst (.tok 2 0) 1 (intsD q ++ [.int .i64 0])) :: (uu) :: (.int .i64 (IntKind.i64.wrap (n + (↑(List.length (irL r)) : Int)))) :: (un 35 ++ (.int .i64 c) :: (.int .i64 (IntKind.i64.wrap (b + 1))) :: (un 43))) ([.dead, .box (List.map D.demote (paC z)), .fam 0 1]) := by
 have c0 := @run_id (nat_lit 3) _ (((uu) :: (.lst .no 1 (rwL l)) :: (uu) :: (uu) :: (.lst (.tok 1 0) 10 []) :: (.lst (.tok 2 0) 1 (intsD q)) :: (uu) :: (.int .i64 (IntKind.i64.wrap (n + (↑(List.length (irL r)) : Int)))) :: (uu) :: (uu) :: (.int .i64 b) :: (un 32 ++ (.int .i64 c) :: (.int .i64 b) :: (un 12 ++ (.lst .no 13 (irL r)) :: (.int .i64 (↑(List.length (irL r)) : Int)) :: (.int .i64 0) :: (un 28))))) ([.dead, .fam 0 10, .fam 0 1]) _ _ _ hlo
 generalize g2 : IntKind.i64.wrap (n + (↑(List.length (irL r)) : Int)) = r1 at c0
 exact RoundRun.of_eval mixed [tC (by ((try simp only [sL] at *); (try unfold big at *); omega) : (decide (b < c)) = true), tC (v := true) (leL 0 (decide_eq_false (Int.not_lt.2 b0))), .get _ _ _ hx, tC (v := true) (leL 0 (decide_eq_false (Int.not_lt.2 b0))), .get _ _ _ hx, .head ⟨[1, 4, 5, 7, 10, 43, 44, 57, 58, 59], [1, 2], []⟩ _ _ _ _ _ _ _ c0, .len (List.length (intsD q) + (1 : Nat)) ((2147483648 : Nat)) (by first | decide | omega | (simp; omega)), tC (v := true) (leL 0 (decide_eq_false (Int.not_lt.2 b0))), .get _ _ _ hx, .ret _ _ _ hbk, .inl, .go 64, tT, tT, .get ([.lst .no 10 [], .lst .no 10 (paL z)]) 0 (.lst .no 10 []) rfl, .go 1, .len 0 2147483648 (by decide), tT, tT, .get ([.lst .no 10 [], .lst .no 10 (paL z)]) 1 (.lst .no 10 (paL z)) rfl, .go 0, .len (List.length (paL z)) ((2147483648 : Nat)) (by first | decide | omega | (simp; omega)), .cel _ _ hc2, tC (v := true) hz0, .raw, tF, .cl (paC z) (by exact paC_clean _)] (by kernel_rfl)
theorem pt_endS (l : List (List IrS)) (p : List PaS) (q : List Int) (n c b : Int) (b0 : 0 ≤ b) (hc : c = ((rwL l).length : Int)) (hcl : c ≤ 1000) (hp : ((paL p).length : Int) ≤ 100000) (hq : ((intsD q).length : Int) ≤ 100000) (n0 : 0 ≤ n) (n1 : n ≤ 1000000) (k : Nat) (h : c ≤ b)  : RoundRun Try.prog (loopB Try.f64 1) ⟨[7], [], [(4, 10), (5, 1)]⟩ 1 ((uu) :: (.lst .no 1 (rwL l)) :: (uu) :: (uu) :: (.slc 1 10 k) :: (.lst (.tok 2 0) 1 (intsD q)) :: (uu) :: (.int .i64 n) :: (un 35 ++ (.int .i64 c) :: (.int .i64 b) :: (un 43))) [.dead, .box (paC p), .fam 0 1] (.exit 2) (un 4 ++ (.slc 1 10 k) :: (.lst (.tok 2 0) 1 (intsD q)) :: (uu) :: (.int .i64 n) :: (un 80)) ([.dead, .box (List.map D.demote (paC p)), .fam 0 1]) := by
 exact RoundRun.of_eval mixed [tC (by ((try simp only [sL] at *); (try unfold big at *); omega) : (decide (b < c)) = false), .cl (paC p) (by exact paC_clean _)] (by kernel_rfl)
abbrev ptT (l : List (List IrS)) (p : List PaS) (q : List Int) (n b : Int) : List D := ((.undef) :: (.lst .no 1 (rwL l)) :: (.undef) :: (.undef) :: (.lst (.tok 1 0) 10 (paL p)) :: (.lst (.tok 2 0) 1 (intsD q)) :: (.undef) :: (.int .i64 n) :: (un 35 ++ (.int .i64 ((rwL l).length : Int)) :: (.int .i64 b) :: (un 43)))
abbrev ptU (p : List PaS) (q : List Int) (n : Int) : List D := (un 4 ++ (.lst (.tok 1 0) 10 (paL p)) :: (.lst (.tok 2 0) 1 (intsD q)) :: (.undef) :: (.int .i64 n) :: (un 80))
abbrev ptV (k : Nat) (q : List Int) (n : Int) : List D := (un 4 ++ (.slc 1 10 k) :: (.lst (.tok 2 0) 1 (intsD q)) :: (.undef) :: (.int .i64 n) :: (un 80))
abbrev ptS : List Ob := [.dead, .fam 0 10, .fam 0 1]
abbrev ptB (p : List PaS) : List Ob := [.dead, .box (paC p), .fam 0 1]
structure BlkIn (pro : List XS) (l : List (List IrS)) : Prop where
  ok : ∀ r ∈ l, AllOk r
  px : AllX pro
  n : pro.length + sumL l ≤ 2500
  b : l.length ≤ 100
def preP (pro : List XS) (l : List (List IrS)) (b : Nat) : List PaS := pro.map inP ++ allP 0 (l.take b)
def preQ (pro : List XS) (l : List (List IrS)) (b : Nat) : List Int := begP pro.length 0 (l.take b)
def preN (pro : List XS) (l : List (List IrS)) (b : Nat) : Int := ((pro.length + sumL (l.take b) : Nat) : Int)
theorem preP_len {pro : List XS} {l : List (List IrS)} (h : BlkIn pro l) (b : Nat) : (preP pro l b).length ≤ 2500 := by
 have h1 := allP_len (l.take b) 0
 have h2 := sumL_take l b
 have := h.n
 unfold preP
 rw [List.length_append, List.length_map]
 omega
theorem preQ_len (pro : List XS) (l : List (List IrS)) (b : Nat) : (preQ pro l b).length ≤ l.length := by
 unfold preQ
 rw [begP_len, List.length_take]
 omega
theorem preP_next (pro : List XS) {l : List (List IrS)} {b : Nat} (h : b < l.length) : preP pro l (b + 1) = preP pro l b ++ blkP l[b] b := by
 unfold preP
 rw [List.take_succ_eq_append_getElem h, allP_snoc, List.append_assoc, List.length_take, Nat.min_eq_left (by omega), Int.zero_add]
theorem preQ_next (pro : List XS) {l : List (List IrS)} {b : Nat} (h : b < l.length) : preQ pro l (b + 1) = preQ pro l b ++ [((preP pro l b).length : Int)] := by
 unfold preQ preP
 rw [List.take_succ_eq_append_getElem h, begP_snoc, List.length_append, List.length_map]
theorem preN_next (pro : List XS) {l : List (List IrS)} {b : Nat} (h : b < l.length) : preN pro l (b + 1) = preN pro l b + (l[b].length : Int) := by
 unfold preN
 rw [List.take_succ_eq_append_getElem h, sumL_snoc]
 omega
def goodB (l : List (List IrS)) (r : List IrS) : Prop := ∀ s ∈ r, mayL s (l.length : Int) = true
theorem goodB_blk {l : List (List IrS)} {r : List IrS} (h : goodB l r) : blkOK r := fun s hs => mayL_kind (h s hs)
theorem intsD_snoc' (q : List Int) (x : Int) : intsD q ++ [.int .i64 x] = intsD (q ++ [x]) := by simp [intsD]
theorem pt_facts {pro : List XS} {l : List (List IrS)} (hb : BlkIn pro l) {b : Nat} (hlt : b < l.length) : ((rwL l).length : Int) ≤ 1000 ∧ ((paL (preP pro l b)).length : Int) ≤ 100000 ∧ ((intsD (preQ pro l b)).length : Int) ≤ 100000 ∧ 0 ≤ preN pro l b ∧ preN pro l b ≤ 1000000 ∧ (b : Int) < ((rwL l).length : Int) ∧ (rwL l)[Int.toNat (b : Int)]? = some (.lst .no 13 (irL l[b])) ∧ ((irL l[b]).length : Int) ≤ 100000 ∧
  IntKind.i64.wrap (preN pro l b + ((irL l[b]).length : Int)) = preN pro l (b + 1) ∧ IntKind.i64.wrap ((b : Int) + 1) = ((b + 1 : Nat) : Int) ∧ ((paL (blkP l[b] b)).length : Int) ≤ 100000 := by
 have h1 := preP_len hb b
 have h2 := preQ_len pro l b
 have h3 := hb.b
 have h4 := hb.n
 have h5 := sumL_take l b
 have h6 := sumL_mem (List.getElem_mem hlt)
 have h7 := blkG_len l[b].length (b : Int) l[b] 0
 have h8 := preN_next pro hlt
 refine ⟨by rw [rwL_len]; omega, by rw [paL_len]; omega, by rw [intsD_len]; omega, by unfold preN; omega, by unfold preN; omega, by rw [rwL_len]; omega, by rw [Int.toNat_natCast]; exact rwL_get l b hlt, by rw [irL_len]; omega, ?_, by rw [w_i64]; omega, by rw [paL_len]; unfold blkP; omega⟩
 rw [irL_len, h8, w_i64]
 unfold preN
 omega
theorem pt_more {pro : List XS} {l : List (List IrS)} (hb : BlkIn pro l) {b : Nat} (hlt : b < l.length) (hg : goodB l l[b]) :
  RoundRun Try.prog (loopB Try.f64 1) ⟨[1, 7, 43, 44], [], [(4, 10), (5, 1)]⟩ 1 (ptT l (preP pro l b) (preQ pro l b) (preN pro l b) b) ptS .norm (ptT l (preP pro l (b + 1)) (preQ pro l (b + 1)) (preN pro l (b + 1)) ((b + 1 : Nat) : Int)) ptS := by
 obtain ⟨f1, f2, f3, f4, f5, f6, f7, f8, f9, f10, f11⟩ := pt_facts hb hlt
 have hn := hb.n
 have hbb := hb.b
 have hlen := sumL_mem (List.getElem_mem hlt)
 have hck := ck_loop l l[b] (preP pro l b) (preQ pro l b) (IntKind.i64.wrap (preN pro l b + ((irL l[b]).length : Int))) ((rwL l).length : Int) b (hb.ok _ (List.getElem_mem hlt)) (by omega) hg
 have hbk := blk_any l[b] b (by omega) (by omega) (goodB_blk hg) (by omega)
 have := pt_in l (preP pro l b) (preQ pro l b) (preN pro l b) _ b (by omega) rfl f1 f2 f3 f4 f5 f6 l[b] f7 f8 hck (blkP l[b] b) f11 hbk
 rw [f9, f10, ← paL_app, ← preP_next pro hlt, paL_len, intsD_snoc', ← preQ_next pro hlt] at this
 exact this
theorem pt_last {pro : List XS} {l : List (List IrS)} (hb : BlkIn pro l) {b : Nat} (hlt : b < l.length) (hg : goodB l l[b]) (hne : preP pro l (b + 1) ≠ []) :
  RoundRun Try.prog (loopB Try.f64 1) ⟨[1, 7, 43, 44], [], [(4, 10), (5, 1)]⟩ 1 (ptT l (preP pro l b) (preQ pro l b) (preN pro l b) b) ptS .norm ((.undef) :: (.lst .no 1 (rwL l)) :: (.undef) :: (.undef) :: (.slc 1 10 (preP pro l (b + 1)).length) :: (.lst (.tok 2 0) 1 (intsD (preQ pro l (b + 1)))) :: (.undef) :: (.int .i64 (preN pro l (b + 1))) :: (un 35 ++ (.int .i64 ((rwL l).length : Int)) :: (.int .i64 ((b + 1 : Nat) : Int)) :: (un 43))) (ptB (preP pro l (b + 1))) := by
 obtain ⟨f1, f2, f3, f4, f5, f6, f7, f8, f9, f10, f11⟩ := pt_facts hb hlt
 have hn := hb.n
 have hbb := hb.b
 have hlen := sumL_mem (List.getElem_mem hlt)
 have hck := fun p => ck_loop l l[b] p (preQ pro l b) (IntKind.i64.wrap (preN pro l b + ((irL l[b]).length : Int))) ((rwL l).length : Int) b (hb.ok _ (List.getElem_mem hlt)) (by omega) hg
 have hbk := blk_any l[b] b (by omega) (by omega) (goodB_blk hg) (by omega)
 have hnx := preP_next pro hlt
 by_cases hp : preP pro l b = []
 ·rw [hp, List.nil_append] at hnx
  have hz : Nat.blt 0 (paL (blkP l[b] b)).length = true := by
   rw [Nat.blt_eq, paL_len, ← hnx]
   exact List.length_pos_iff.2 hne
  have := pt_lastB l (preQ pro l b) (preN pro l b) _ b (by omega) rfl f1 f3 f4 f5 f6 l[b] f7 f8 (hck []) (blkP l[b] b) f11 hbk hz (paL_cells _)
  have hq := preQ_next pro hlt
  rw [hp] at hq
  rw [f9, f10, paC_demote, ← hnx, paL_len, show intsD (preQ pro l b) ++ [D.int .i64 0] = intsD (preQ pro l (b + 1)) by rw [hq]; exact intsD_snoc' _ _] at this
  rw [hp]
  exact this
 ·have hp0 : Nat.blt 0 (paL (preP pro l b)).length = true := by
   rw [Nat.blt_eq, paL_len]
   exact List.length_pos_iff.2 hp
  have := pt_lastA l (preP pro l b) (preQ pro l b) (preN pro l b) _ b (by omega) rfl f1 f2 f3 f4 f5 f6 l[b] f7 f8 (hck _) (blkP l[b] b) f11 hbk hp0 (paL_cells _) (paL_cells _) (by rw [Nat.beq_eq, paC_len, paL_len])
  rw [f9, f10, ← paC_app, ← hnx, paC_demote, paL_len, paL_len, ← List.length_append, ← hnx, intsD_snoc', ← preQ_next pro hlt] at this
  exact this
theorem pt_roundsS {pro : List XS} {l : List (List IrS)} (hb : BlkIn pro l) (hg : ∀ r ∈ l, goodB l r) (hne : preP pro l l.length ≠ []) : ∀ (m b : Nat), b + (m + 1) = l.length →
  Rounds Try.prog (loopB Try.f64 1) 1 (ptT l (preP pro l b) (preQ pro l b) (preN pro l b) b) ptS (.exit 2) (ptV (preP pro l l.length).length (preQ pro l l.length) (preN pro l l.length)) (ptB (preP pro l l.length))
 | 0, b, hm => by
  have hlt : b < l.length := by omega
  have e : b + 1 = l.length := by omega
  have h1 := pt_last hb hlt (hg _ (List.getElem_mem hlt)) (by rw [e]; exact hne)
  obtain ⟨f1, f2, f3, f4, f5, _⟩ := pt_facts hb hlt
  have h2 := pt_endS l (preP pro l (b + 1)) (preQ pro l (b + 1)) (preN pro l (b + 1)) _ ((b + 1 : Nat) : Int) (by omega) rfl f1 (by rw [paL_len]; have := preP_len hb (b + 1); omega) (by rw [intsD_len]; have := preQ_len pro l (b + 1); have := hb.b; omega) (by unfold preN; omega) (by unfold preN; have := sumL_take l (b + 1); have := hb.n; omega) (preP pro l (b + 1)).length (by rw [rwL_len]; omega)
  rw [e] at h1 h2
  rw [paC_demote] at h2
  exact Rounds.more h1 (Rounds.last h2 (fun h => by cases h))
 | m + 1, b, hm => by
  have hlt : b < l.length := by omega
  exact Rounds.more (pt_more hb hlt (hg _ (List.getElem_mem hlt))) (pt_roundsS hb hg hne m (b + 1) (by omega))
theorem pt_roundsL {pro : List XS} {l : List (List IrS)} (hb : BlkIn pro l) (hg : ∀ r ∈ l, goodB l r) : ∀ (m b : Nat), b + m = l.length →
  Rounds Try.prog (loopB Try.f64 1) 1 (ptT l (preP pro l b) (preQ pro l b) (preN pro l b) b) ptS (.exit 2) (ptU (preP pro l l.length) (preQ pro l l.length) (preN pro l l.length)) ptS
 | 0, b, hm => by
  have e : b = l.length := by omega
  subst e
  exact Rounds.last (pt_end l (preP pro l l.length) (preQ pro l l.length) (preN pro l l.length) _ (l.length : Int) (by omega) rfl (by rw [rwL_len]; have := hb.b; omega) (by rw [paL_len]; have := preP_len hb l.length; omega) (by rw [intsD_len]; have := preQ_len pro l l.length; have := hb.b; omega) (by unfold preN; omega) (by unfold preN; have := sumL_take l l.length; have := hb.n; omega) (by rw [rwL_len]; omega)) (fun h => by cases h)
 | m + 1, b, hm => by
  have hlt : b < l.length := by omega
  exact Rounds.more (pt_more hb hlt (hg _ (List.getElem_mem hlt))) (pt_roundsL hb hg m (b + 1) (by omega))
theorem pt_roundsE {pro : List XS} {l : List (List IrS)} (hb : BlkIn pro l) (hg : ¬ ∀ r ∈ l, goodB l r) : ∀ (m b : Nat), b + m = l.length → (∀ r ∈ l.take b, goodB l r) →
  Rounds Try.prog (loopB Try.f64 1) 1 (ptT l (preP pro l b) (preQ pro l b) (preN pro l b) b) ptS .ret ckE [.dead]
 | 0, b, hm, ha => by
  rw [List.take_of_length_le (show l.length ≤ b by omega)] at ha
  exact absurd ha hg
 | m + 1, b, hm, ha => by
  have hlt : b < l.length := by omega
  obtain ⟨f1, f2, f3, f4, f5, f6, f7, f8, f9, f10, f11⟩ := pt_facts hb hlt
  have hn := hb.n
  have hlen := sumL_mem (List.getElem_mem hlt)
  by_cases h0 : goodB l l[b]
  ·exact Rounds.more (pt_more hb hlt h0) (pt_roundsE hb hg m (b + 1) (by omega) (by
    rw [List.take_succ_eq_append_getElem hlt]
    intro x hx
    rcases List.mem_append.1 hx with q | q
    ·exact ha x q
    ·rw [List.mem_singleton] at q
     subst q
     exact h0))
  ·have hck := ck_loopE l l[b] (preP pro l b) (preQ pro l b) (IntKind.i64.wrap (preN pro l b + ((irL l[b]).length : Int))) ((rwL l).length : Int) b (hb.ok _ (List.getElem_mem hlt)) (by omega) h0
   exact Rounds.last (pt_bad l (preP pro l b) (preQ pro l b) (preN pro l b) _ b (by omega) rfl f1 f2 f3 f4 f5 f6 l[b] f7 f8 hck) (fun h => by cases h)
theorem rlmay_ok (s : IrS) (h : s.ok) (n : Int) : Ret Try.prog 129 [s.d, .int .i64 n] (.bool (mayL s n)) := by
 obtain ⟨kind, op, w, dst, src, base, disp, imm, cc, reg, phys, num, to⟩ := s
 obtain ⟨a0, a1, ho, hc, hp, g0, g1⟩ := h
 by_cases h0 : kind = 0
 ·subst h0
  have := rl_0_ok op w dst src base disp imm cc reg phys num to n _ (rmayX_ok op w dst src base disp imm cc)
  unfold mayL
  rw [if_pos rfl]
  exact this
 ·by_cases h4 : kind = 4
  ·subst h4
   have := rl_4_ok op w dst src base disp imm cc reg phys num to n _ (rimay_4_ok op w dst src base disp imm cc reg phys num to ho hc hp g0 g1)
   unfold mayL
   rw [if_neg (show ¬ (4 : Int) = 0 by decide), if_pos (.inl rfl)]
   exact this
  ·by_cases h5 : kind = 5
   ·subst h5
    have := rl_5_ok op w dst src base disp imm cc reg phys num to n _ (rimay_5_ok op w dst src base disp imm cc reg phys num to ho hc hp g0 g1)
    unfold mayL
    rw [if_neg (show ¬ (5 : Int) = 0 by decide), if_pos (.inr rfl)]
    exact this
   ·have := rl_n_ok kind op w dst src base disp imm cc reg phys num to n h0 h4 h5
    unfold mayL
    rw [if_neg h0, if_neg (by intro h; rcases h with h | h; exact h4 h; exact h5 h)]
    exact this
theorem cl_app {a b : List D} (ha : ∀ c ∈ a, c.clean = true) (hb : b.all D.clean = true) : ∀ c ∈ a ++ b, c.clean = true := fun c h => (List.mem_append.1 h).elim (ha c) (clAll hb c)
abbrev dqT (pro : List XS) (l : List (List IrS)) (n i : Int) : List D := ((.lst .no 8 (xsL pro)) :: (.lst .no 1 (rwL l)) :: (.undef) :: (.undef) :: (.lst .tight 0 []) :: (.undef) :: (.undef) :: (.int .i64 n) :: (.int .i64 i) :: (un 169))
abbrev dqU (pro : List XS) (l : List (List IrS)) (n : Int) : List D := ((.lst .no 8 (xsL pro)) :: (.lst .no 1 (rwL l)) :: (.undef) :: (.undef) :: (.lst .tight 0 []) :: (.undef) :: (.undef) :: (.int .i64 n) :: (un 170))
abbrev dsT (pro : List XS) (l : List (List IrS)) (n b i : Int) : List D := ((.lst .no 8 (xsL pro)) :: (.lst .no 1 (rwL l)) :: (.undef) :: (.undef) :: (.lst .tight 0 []) :: (.undef) :: (.undef) :: (.int .i64 n) :: (.undef) :: (.int .i64 b) :: (.int .i64 i) :: (un 167))
abbrev dsU (pro : List XS) (l : List (List IrS)) (n b : Int) : List D := ((.lst .no 8 (xsL pro)) :: (.lst .no 1 (rwL l)) :: (.undef) :: (.undef) :: (.lst .tight 0 []) :: (.undef) :: (.undef) :: (.int .i64 n) :: (.undef) :: (.int .i64 b) :: (un 168))
abbrev dqE : List D := (un 4 ++ (.lst .tight 0 []) :: (.lst .tight 0 []) :: (.int .i64 2) :: (un 171))
theorem dq_rounds (l : List (List IrS)) (pro : List XS) (n : Int) (hl : pro.length ≤ 10000) (ho : ∀ x ∈ pro, proB x = true) : ∀ (m k : Nat), k + m = pro.length →
  Rounds Try.prog (loopB Try.f67 0) 0 (dqT pro l n k) [] (.exit 0) (dqU pro l n) []
 | 0, k, hk => Rounds.last (dq_end pro l n k (by omega) (by omega) (by rw [xsL_len]; omega)) (fun h => by cases h)
 | m + 1, k, hk => by
  have hlt : k < pro.length := by omega
  have ih := dq_rounds l pro n hl ho m (k + 1) (by omega)
  have hp := ho pro[k] (List.getElem_mem hlt)
  unfold proB at hp
  rw [Bool.and_eq_true] at hp
  obtain ⟨hm, hj⟩ := hp
  have hj' : ¬ (pro[k].op = 28 ∨ pro[k].op = 29) := by simpa using hj
  have hmy := rmayX_ok pro[k].op pro[k].w pro[k].dst pro[k].src pro[k].base pro[k].disp pro[k].imm pro[k].cc
  rw [show mayX pro[k].op pro[k].w pro[k].dst pro[k].src pro[k].base pro[k].disp pro[k].imm pro[k].cc = true from hm] at hmy
  have := dq_in pro l n k (by omega) (by omega) (by rw [xsL_len]; omega) pro[k] (by rw [Int.toNat_natCast]; exact xsL_get pro k hlt) hmy (fun h => hj' (.inl h)) (fun h => hj' (.inr h))
  rw [show IntKind.i64.wrap ((k : Int) + 1) = ((k + 1 : Nat) : Int) by rw [w_i64]; omega] at this
  exact Rounds.more this ih
theorem dq_roundsE (l : List (List IrS)) (pro : List XS) (n : Int) (hl : pro.length ≤ 10000) (ho : ¬ ∀ x ∈ pro, proB x = true) : ∀ (m k : Nat), k + m = pro.length → (∀ x ∈ pro.take k, proB x = true) →
  Rounds Try.prog (loopB Try.f67 0) 0 (dqT pro l n k) [] .ret dqE []
 | 0, k, hk, ha => by
  rw [List.take_of_length_le (show pro.length ≤ k by omega)] at ha
  exact absurd ha ho
 | m + 1, k, hk, ha => by
  have hlt : k < pro.length := by omega
  have h2 : (k : Int) < ((xsL pro).length : Int) := by rw [xsL_len]; omega
  have hg : (xsL pro)[Int.toNat (k : Int)]? = some (xsD pro[k]) := by rw [Int.toNat_natCast]; exact xsL_get pro k hlt
  have hmy := rmayX_ok pro[k].op pro[k].w pro[k].dst pro[k].src pro[k].base pro[k].disp pro[k].imm pro[k].cc
  cases hm : mayXS pro[k] with
  | false =>
   rw [show mayX pro[k].op pro[k].w pro[k].dst pro[k].src pro[k].base pro[k].disp pro[k].imm pro[k].cc = false from hm] at hmy
   exact Rounds.last (dq_m pro l n k (by omega) (by omega) h2 pro[k] hg hmy) (fun h => by cases h)
  | true =>
   rw [show mayX pro[k].op pro[k].w pro[k].dst pro[k].src pro[k].base pro[k].disp pro[k].imm pro[k].cc = true from hm] at hmy
   by_cases j1 : pro[k].op = 28
   ·exact Rounds.last (dq_j1 pro l n k (by omega) (by omega) h2 pro[k] hg hmy j1) (fun h => by cases h)
   ·by_cases j2 : pro[k].op = 29
    ·exact Rounds.last (dq_j2 pro l n k (by omega) (by omega) h2 pro[k] hg hmy j2) (fun h => by cases h)
    ·have ih := dq_roundsE l pro n hl ho m (k + 1) (by omega) (by
      rw [List.take_succ_eq_append_getElem hlt]
      intro x hx'
      rcases List.mem_append.1 hx' with q | q
      ·exact ha x q
      ·rw [List.mem_singleton] at q
       subst q
       unfold proB
       rw [hm]
       simp [j1, j2])
     have := dq_in pro l n k (by omega) (by omega) h2 pro[k] hg hmy j1 j2
     rw [show IntKind.i64.wrap ((k : Int) + 1) = ((k + 1 : Nat) : Int) by rw [w_i64]; omega] at this
     exact Rounds.more this ih
theorem ds_rounds (pro : List XS) (l : List (List IrS)) (n : Int) {b : Nat} (hb : b < l.length) (hb2 : b ≤ 1000) (ho : AllOk l[b]) (hl : l[b].length ≤ 10000) (hg : goodB l l[b]) : ∀ (m i : Nat), i + m = l[b].length →
  Rounds Try.prog (loopB Try.f67 2) 0 (dsT pro l n b i) [] (.exit 4) (dsU pro l n b) []
 | 0, i, hi => Rounds.last (ds_end pro l n b i (by omega) (by omega) (by omega) (by omega) l[b] (by rw [Int.toNat_natCast]; exact rwL_get l b hb) (by rw [irL_len]; omega)) (fun h => by cases h)
 | m + 1, i, hi => by
  have hlt : i < l[b].length := by omega
  have hmy := rlmay_ok l[b][i] (ho _ (List.getElem_mem hlt)) ((rwL l).length : Int)
  rw [show mayL l[b][i] ((rwL l).length : Int) = true by rw [rwL_len]; exact hg _ (List.getElem_mem hlt)] at hmy
  have := ds_in pro l n b i (by omega) (by omega) (by omega) (by omega) l[b] (by rw [Int.toNat_natCast]; exact rwL_get l b hb) (by rw [irL_len]; omega) l[b][i] (by rw [Int.toNat_natCast]; exact irL_get _ i hlt) hmy
  rw [show IntKind.i64.wrap ((i : Int) + 1) = ((i + 1 : Nat) : Int) by rw [w_i64]; omega] at this
  exact Rounds.more this (ds_rounds pro l n hb hb2 ho hl hg m (i + 1) (by omega))
theorem ds_roundsE (pro : List XS) (l : List (List IrS)) (n : Int) {b : Nat} (hb : b < l.length) (hb2 : b ≤ 1000) (ho : AllOk l[b]) (hl : l[b].length ≤ 10000) (hg : ¬ goodB l l[b]) : ∀ (m i : Nat), i + m = l[b].length → (∀ s ∈ l[b].take i, mayL s (l.length : Int) = true) →
  Rounds Try.prog (loopB Try.f67 2) 0 (dsT pro l n b i) [] .ret dqE []
 | 0, i, hi, ha => by
  rw [List.take_of_length_le (show l[b].length ≤ i by omega)] at ha
  exact absurd ha hg
 | m + 1, i, hi, ha => by
  have hlt : i < l[b].length := by omega
  have hmy := rlmay_ok l[b][i] (ho _ (List.getElem_mem hlt)) ((rwL l).length : Int)
  have g1 : (rwL l)[Int.toNat (b : Int)]? = some (.lst .no 13 (irL l[b])) := by rw [Int.toNat_natCast]; exact rwL_get l b hb
  have g2 : (i : Int) < ((irL l[b]).length : Int) := by rw [irL_len]; omega
  have g3 : (irL l[b])[Int.toNat (i : Int)]? = some (IrS.d l[b][i]) := by rw [Int.toNat_natCast]; exact irL_get _ i hlt
  cases hm : mayL l[b][i] (l.length : Int) with
  | false =>
   rw [show mayL l[b][i] ((rwL l).length : Int) = false by rw [rwL_len]; exact hm] at hmy
   exact Rounds.last (ds_bad pro l n b i (by omega) (by omega) (by omega) (by omega) l[b] g1 g2 l[b][i] g3 hmy) (fun h => by cases h)
  | true =>
   rw [show mayL l[b][i] ((rwL l).length : Int) = true by rw [rwL_len]; exact hm] at hmy
   have := ds_in pro l n b i (by omega) (by omega) (by omega) (by omega) l[b] g1 g2 l[b][i] g3 hmy
   rw [show IntKind.i64.wrap ((i : Int) + 1) = ((i + 1 : Nat) : Int) by rw [w_i64]; omega] at this
   exact Rounds.more this (ds_roundsE pro l n hb hb2 ho hl hg m (i + 1) (by omega) (by
    rw [List.take_succ_eq_append_getElem hlt]
    intro x hx'
    rcases List.mem_append.1 hx' with q | q
    ·exact ha x q
    ·rw [List.mem_singleton] at q
     subst q
     exact hm))
end Go.Proofs.Ytcngafhpodeenaa
