/- Contracts and plain laws that a statement's proof leans on (texts merged: XB2b, XB2c, XB2d, XB2e, XBytes, XB3, XBytes2, XLen, MdP1, MdP2). -/
import Derived.Test.YtcngafhpodeenaaR04
import Derived.Test.YtcngafhpodeenaaR05
import Derived.Test.YtcngafhpodeenaaR06
set_option linter.unusedVariables false
set_option linter.unusedSimpArgs false
namespace Go.Proofs.Ytcngafhpodeenaa
open Go Go.Ev
set_option maxRecDepth 100000
set_option maxHeartbeats 8000000
theorem bytes_4_ok (op w dst src base disp imm cc : Int) (ho : op ≤ 127) (d0 : 0 ≤ dst) (d1 : dst ≤ 15) (s0 : 0 ≤ src) (s1 : src ≤ 15) (b0 : 0 ≤ base) (b1 : base ≤ 15) (p0 : -2147483648 ≤ disp) (p1 : disp ≤ 2147483647) (i0 : -2147483648 ≤ imm) (i1 : imm ≤ 2147483647) (c0 : 0 ≤ cc) (c1 : cc ≤ 15) (n0 : 0 ≤ numM op) (n1 : numM op ≤ 7) (h : (shapeM op == 4) = true) (hin : decide (0 ≤ op ∧ op ≤ 31) = true) (hm : mayX op w dst src base disp imm cc = true) : Ret Try.prog 21 ([xD op w dst src base disp imm cc]) (.tup [.lst .no 1 (bD (bytesM op w dst src base disp imm cc)), .int .i64 0]) := by
 have c0 := @mayX_ok op w dst src base disp imm cc ho
 rw [hm] at c0
 have c1 := @of_any_ok op ho
 rw [eq_of_beq h] at c1
 generalize g3 : codeM op = r2 at c1
 generalize g5 : numM op = r4 at c1
 rcases bft (needM (w == 64) 0 dst false) with h6 | h6
 ·have c7 := @rex_yes_ok 0 dst (by decide) (by decide) d0 d1 (w == 64) false h6
  generalize g9 : rexB (w == 64) 0 dst = r8 at c7
  have c10 := @two_ok r4 dst (by (simp only [sl2] at *; omega)) (by (simp only [sl2] at *; omega)) d0 d1
  generalize g12 : regsM r4 dst = r11 at c10
  exact (o21 (d := .tup [.lst (.fresh 1) 1 [.int .u8 r8, .int .u8 r2, .int .u8 r11, .int .u8 (IntKind.wrap IntKind.u8 imm)], .int .i64 0]) [.ret _ _ _ c0, tF, .ret _ _ _ c1, tF, tF, tF, tF, tT, .ret _ _ _ c7, .ret _ _ _ c10, .inl, .go 64, tT, tT, .get ([.lst .tight 1 [.int .u8 r8], .lst .tight 1 [.int .u8 r2], .lst .tight 1 [.int .u8 r11], .lst .tight 1 [.int .u8 (IntKind.wrap IntKind.u8 imm)]]) 0 (.lst .tight 1 [.int .u8 r8]) rfl, .len 1 2147483648 (by decide), tT, tT, .get ([.lst .tight 1 [.int .u8 r8], .lst .tight 1 [.int .u8 r2], .lst .tight 1 [.int .u8 r11], .lst .tight 1 [.int .u8 (IntKind.wrap IntKind.u8 imm)]]) 1 (.lst .tight 1 [.int .u8 r2]) rfl, .len 2 2147483648 (by decide), tT, tT, .get ([.lst .tight 1 [.int .u8 r8], .lst .tight 1 [.int .u8 r2], .lst .tight 1 [.int .u8 r11], .lst .tight 1 [.int .u8 (IntKind.wrap IntKind.u8 imm)]]) 2 (.lst .tight 1 [.int .u8 r11]) rfl, .len 3 2147483648 (by decide), tT, tT, .get ([.lst .tight 1 [.int .u8 r8], .lst .tight 1 [.int .u8 r2], .lst .tight 1 [.int .u8 r11], .lst .tight 1 [.int .u8 (IntKind.wrap IntKind.u8 imm)]]) 3 (.lst .tight 1 [.int .u8 (IntKind.wrap IntKind.u8 imm)]) rfl, .len 4 2147483648 (by decide), tF] (by kernel_rfl)).to (by (try rw [or184 d0 d1]); (subst_vars; (try simp only [beq_dec] at *); (try simp only [beq_iff_eq] at h); (try simp only [decide_eq_true_eq, decide_eq_false_iff_not] at *); simp_all [wk, wkL, wkO, bytesM, bD, rexM, memM, fourM, w_u8]; done))
 have c13 := @rex_no_ok 0 dst (by decide) (by decide) d0 d1 (w == 64) false h6
 have c14 := @two_ok r4 dst (by (simp only [sl2] at *; omega)) (by (simp only [sl2] at *; omega)) d0 d1
 generalize g16 : regsM r4 dst = r15 at c14
 exact (o21 (d := .tup [.lst (.fresh 1) 1 [.int .u8 r2, .int .u8 r15, .int .u8 (IntKind.wrap IntKind.u8 imm)], .int .i64 0]) [.ret _ _ _ c0, tF, .ret _ _ _ c1, tF, tF, tF, tF, tT, .ret _ _ _ c13, .ret _ _ _ c14, .inl, .go 64, tT, tT, .get ([.lst .tight 1 [], .lst .tight 1 [.int .u8 r2], .lst .tight 1 [.int .u8 r15], .lst .tight 1 [.int .u8 (IntKind.wrap IntKind.u8 imm)]]) 0 (.lst .tight 1 []) rfl, .len 0 2147483648 (by decide), tT, tT, .get ([.lst .tight 1 [], .lst .tight 1 [.int .u8 r2], .lst .tight 1 [.int .u8 r15], .lst .tight 1 [.int .u8 (IntKind.wrap IntKind.u8 imm)]]) 1 (.lst .tight 1 [.int .u8 r2]) rfl, .len 1 2147483648 (by decide), tT, tT, .get ([.lst .tight 1 [], .lst .tight 1 [.int .u8 r2], .lst .tight 1 [.int .u8 r15], .lst .tight 1 [.int .u8 (IntKind.wrap IntKind.u8 imm)]]) 2 (.lst .tight 1 [.int .u8 r15]) rfl, .len 2 2147483648 (by decide), tT, tT, .get ([.lst .tight 1 [], .lst .tight 1 [.int .u8 r2], .lst .tight 1 [.int .u8 r15], .lst .tight 1 [.int .u8 (IntKind.wrap IntKind.u8 imm)]]) 3 (.lst .tight 1 [.int .u8 (IntKind.wrap IntKind.u8 imm)]) rfl, .len 3 2147483648 (by decide), tF] (by kernel_rfl)).to (by (try rw [or184 d0 d1]); (subst_vars; (try simp only [beq_dec] at *); (try simp only [beq_iff_eq] at h); (try simp only [decide_eq_true_eq, decide_eq_false_iff_not] at *); simp_all [wk, wkL, wkO, bytesM, bD, rexM, memM, fourM, w_u8]; done))
theorem bytes_3_ok (op w dst src base disp imm cc : Int) (ho : op ≤ 127) (d0 : 0 ≤ dst) (d1 : dst ≤ 15) (s0 : 0 ≤ src) (s1 : src ≤ 15) (b0 : 0 ≤ base) (b1 : base ≤ 15) (p0 : -2147483648 ≤ disp) (p1 : disp ≤ 2147483647) (i0 : -2147483648 ≤ imm) (i1 : imm ≤ 2147483647) (c0 : 0 ≤ cc) (c1 : cc ≤ 15) (n0 : 0 ≤ numM op) (n1 : numM op ≤ 7) (h : (shapeM op == 3) = true) (hin : decide (0 ≤ op ∧ op ≤ 31) = true) (hw : w = 32 ∨ w = 64) (hm : mayX op w dst src base disp imm cc = true) : Ret Try.prog 21 ([xD op w dst src base disp imm cc]) (.tup [.lst .no 1 (bD (bytesM op w dst src base disp imm cc)), .int .i64 0]) := by
 have c0 := @mayX_ok op w dst src base disp imm cc ho
 rw [hm] at c0
 have c1 := @of_any_ok op ho
 rw [eq_of_beq h] at c1
 generalize g3 : codeM op = r2 at c1
 generalize g5 : numM op = r4 at c1
 let E1 : EL := [.ret _ _ _ c0, tF, .ret _ _ _ c1, tF, tF, tF, tT]
 by_cases h6 : op = 1
 ·subst h6
  by_cases h7 : w = 64
  ·subst h7
   have c8 := @rex_yes_ok 0 dst n0 (by decide) d0 d1 true false (rfl : true = true)
   generalize g10 : rexB true 0 dst = r9 at c8
   have c11 := @two_ok r4 dst (by (simp only [sl2] at *; omega)) (by (simp only [sl2] at *; omega)) d0 d1
   generalize g13 : regsM r4 dst = r12 at c11
   have c14 := @four_ok imm
   exact (o21 (d := .tup [.lst (.fresh 1) 1 [.int .u8 r9, .int .u8 r2, .int .u8 r12, .int .u8 (imm % 256), .int .u8 (imm / 256 % 256), .int .u8 (imm / 65536 % 256), .int .u8 (imm / 16777216 % 256)], .int .i64 0]) (E1 ++ [tT, tT, tT, tF, .ret _ _ _ c8, .ret _ _ _ c11, .ret _ _ _ c14, .inl, .go 64, tT, tT, .get ([.lst .tight 1 [.int .u8 r9], .lst .tight 1 [.int .u8 r2], .lst .tight 1 [.int .u8 r12], .lst .no 1 [.int .u8 (imm % 256), .int .u8 (imm / 256 % 256), .int .u8 (imm / 65536 % 256), .int .u8 (imm / 16777216 % 256)]]) 0 (.lst .tight 1 [.int .u8 r9]) rfl, .len 1 2147483648 (by decide), tT, tT, .get ([.lst .tight 1 [.int .u8 r9], .lst .tight 1 [.int .u8 r2], .lst .tight 1 [.int .u8 r12], .lst .no 1 [.int .u8 (imm % 256), .int .u8 (imm / 256 % 256), .int .u8 (imm / 65536 % 256), .int .u8 (imm / 16777216 % 256)]]) 1 (.lst .tight 1 [.int .u8 r2]) rfl, .len 2 2147483648 (by decide), tT, tT, .get ([.lst .tight 1 [.int .u8 r9], .lst .tight 1 [.int .u8 r2], .lst .tight 1 [.int .u8 r12], .lst .no 1 [.int .u8 (imm % 256), .int .u8 (imm / 256 % 256), .int .u8 (imm / 65536 % 256), .int .u8 (imm / 16777216 % 256)]]) 2 (.lst .tight 1 [.int .u8 r12]) rfl, .len 3 2147483648 (by decide), tT, tT, .get ([.lst .tight 1 [.int .u8 r9], .lst .tight 1 [.int .u8 r2], .lst .tight 1 [.int .u8 r12], .lst .no 1 [.int .u8 (imm % 256), .int .u8 (imm / 256 % 256), .int .u8 (imm / 65536 % 256), .int .u8 (imm / 16777216 % 256)]]) 3 (.lst .no 1 [.int .u8 (imm % 256), .int .u8 (imm / 256 % 256), .int .u8 (imm / 65536 % 256), .int .u8 (imm / 16777216 % 256)]) rfl, .len 7 2147483648 (by decide), tF]) (by kernel_rfl)).to (by clear E1; (try rw [or184 d0 d1]); (subst_vars; (try simp only [beq_dec] at *); (try simp only [beq_iff_eq] at h); (try simp only [decide_eq_true_eq, decide_eq_false_iff_not] at *); simp_all [wk, wkL, wkO, bytesM, bD, rexM, memM, fourM, w_u8, needM]; done))
  rcases bft (needM false 0 dst false) with h15 | h15
  ·have c16 := @rex_yes_ok 0 dst n0 (by decide) d0 d1 false false h15
   generalize g18 : rexB false 0 dst = r17 at c16
   have c19 := @four_ok imm
   exact (o21 (d := .tup [.lst (.fresh 1) 1 [.int .u8 r17, .int .u8 (IntKind.wrap IntKind.u8 (↑(BitVec.toNat (BitVec.ofInt (8 : Nat) 184 ||| BitVec.ofInt (8 : Nat) (IntKind.wrap IntKind.u8 (IntKind.wrap IntKind.i8 (↑(BitVec.toNat (BitVec.ofInt (8 : Nat) dst &&& BitVec.ofInt (8 : Nat) 7)) : Int))))) : Int)), .int .u8 (imm % 256), .int .u8 (imm / 256 % 256), .int .u8 (imm / 65536 % 256), .int .u8 (imm / 16777216 % 256)], .int .i64 0]) (E1 ++ [tT, tT, tT, tC (nt (neOf h7)), .ret _ _ _ c16, .ret _ _ _ c19, .inl, .go 64, tT, tT, .get ([.lst .tight 1 [.int .u8 r17], .lst .tight 1 [.int .u8 (IntKind.wrap IntKind.u8 (↑(BitVec.toNat (BitVec.ofInt (8 : Nat) 184 ||| BitVec.ofInt (8 : Nat) (IntKind.wrap IntKind.u8 (IntKind.wrap IntKind.i8 (↑(BitVec.toNat (BitVec.ofInt (8 : Nat) dst &&& BitVec.ofInt (8 : Nat) 7)) : Int))))) : Int))], .lst .no 1 [.int .u8 (imm % 256), .int .u8 (imm / 256 % 256), .int .u8 (imm / 65536 % 256), .int .u8 (imm / 16777216 % 256)]]) 0 (.lst .tight 1 [.int .u8 r17]) rfl, .len 1 2147483648 (by decide), tT, tT, .get ([.lst .tight 1 [.int .u8 r17], .lst .tight 1 [.int .u8 (IntKind.wrap IntKind.u8 (↑(BitVec.toNat (BitVec.ofInt (8 : Nat) 184 ||| BitVec.ofInt (8 : Nat) (IntKind.wrap IntKind.u8 (IntKind.wrap IntKind.i8 (↑(BitVec.toNat (BitVec.ofInt (8 : Nat) dst &&& BitVec.ofInt (8 : Nat) 7)) : Int))))) : Int))], .lst .no 1 [.int .u8 (imm % 256), .int .u8 (imm / 256 % 256), .int .u8 (imm / 65536 % 256), .int .u8 (imm / 16777216 % 256)]]) 1 (.lst .tight 1 [.int .u8 (IntKind.wrap IntKind.u8 (↑(BitVec.toNat (BitVec.ofInt (8 : Nat) 184 ||| BitVec.ofInt (8 : Nat) (IntKind.wrap IntKind.u8 (IntKind.wrap IntKind.i8 (↑(BitVec.toNat (BitVec.ofInt (8 : Nat) dst &&& BitVec.ofInt (8 : Nat) 7)) : Int))))) : Int))]) rfl, .len 2 2147483648 (by decide), tT, tT, .get ([.lst .tight 1 [.int .u8 r17], .lst .tight 1 [.int .u8 (IntKind.wrap IntKind.u8 (↑(BitVec.toNat (BitVec.ofInt (8 : Nat) 184 ||| BitVec.ofInt (8 : Nat) (IntKind.wrap IntKind.u8 (IntKind.wrap IntKind.i8 (↑(BitVec.toNat (BitVec.ofInt (8 : Nat) dst &&& BitVec.ofInt (8 : Nat) 7)) : Int))))) : Int))], .lst .no 1 [.int .u8 (imm % 256), .int .u8 (imm / 256 % 256), .int .u8 (imm / 65536 % 256), .int .u8 (imm / 16777216 % 256)]]) 2 (.lst .no 1 [.int .u8 (imm % 256), .int .u8 (imm / 256 % 256), .int .u8 (imm / 65536 % 256), .int .u8 (imm / 16777216 % 256)]) rfl, .len 6 2147483648 (by decide), tF]) (by kernel_rfl)).to (by clear E1; (try rw [or184 d0 d1]); (subst_vars; (try simp only [beq_dec] at *); (try simp only [beq_iff_eq] at h); (try simp only [decide_eq_true_eq, decide_eq_false_iff_not] at *); simp_all [wk, wkL, wkO, bytesM, bD, rexM, memM, fourM, w_u8]; done))
  have c20 := @rex_no_ok 0 dst n0 (by decide) d0 d1 false false h15
  have c21 := @four_ok imm
  exact (o21 (d := .tup [.lst (.fresh 1) 1 [.int .u8 (IntKind.wrap IntKind.u8 (↑(BitVec.toNat (BitVec.ofInt (8 : Nat) 184 ||| BitVec.ofInt (8 : Nat) (IntKind.wrap IntKind.u8 (IntKind.wrap IntKind.i8 (↑(BitVec.toNat (BitVec.ofInt (8 : Nat) dst &&& BitVec.ofInt (8 : Nat) 7)) : Int))))) : Int)), .int .u8 (imm % 256), .int .u8 (imm / 256 % 256), .int .u8 (imm / 65536 % 256), .int .u8 (imm / 16777216 % 256)], .int .i64 0]) (E1 ++ [tT, tT, tT, tC (nt (neOf h7)), .ret _ _ _ c20, .ret _ _ _ c21, .inl, .go 64, tT, tT, .get ([.lst .tight 1 [], .lst .tight 1 [.int .u8 (IntKind.wrap IntKind.u8 (↑(BitVec.toNat (BitVec.ofInt (8 : Nat) 184 ||| BitVec.ofInt (8 : Nat) (IntKind.wrap IntKind.u8 (IntKind.wrap IntKind.i8 (↑(BitVec.toNat (BitVec.ofInt (8 : Nat) dst &&& BitVec.ofInt (8 : Nat) 7)) : Int))))) : Int))], .lst .no 1 [.int .u8 (imm % 256), .int .u8 (imm / 256 % 256), .int .u8 (imm / 65536 % 256), .int .u8 (imm / 16777216 % 256)]]) 0 (.lst .tight 1 []) rfl, .len 0 2147483648 (by decide), tT, tT, .get ([.lst .tight 1 [], .lst .tight 1 [.int .u8 (IntKind.wrap IntKind.u8 (↑(BitVec.toNat (BitVec.ofInt (8 : Nat) 184 ||| BitVec.ofInt (8 : Nat) (IntKind.wrap IntKind.u8 (IntKind.wrap IntKind.i8 (↑(BitVec.toNat (BitVec.ofInt (8 : Nat) dst &&& BitVec.ofInt (8 : Nat) 7)) : Int))))) : Int))], .lst .no 1 [.int .u8 (imm % 256), .int .u8 (imm / 256 % 256), .int .u8 (imm / 65536 % 256), .int .u8 (imm / 16777216 % 256)]]) 1 (.lst .tight 1 [.int .u8 (IntKind.wrap IntKind.u8 (↑(BitVec.toNat (BitVec.ofInt (8 : Nat) 184 ||| BitVec.ofInt (8 : Nat) (IntKind.wrap IntKind.u8 (IntKind.wrap IntKind.i8 (↑(BitVec.toNat (BitVec.ofInt (8 : Nat) dst &&& BitVec.ofInt (8 : Nat) 7)) : Int))))) : Int))]) rfl, .len 1 2147483648 (by decide), tT, tT, .get ([.lst .tight 1 [], .lst .tight 1 [.int .u8 (IntKind.wrap IntKind.u8 (↑(BitVec.toNat (BitVec.ofInt (8 : Nat) 184 ||| BitVec.ofInt (8 : Nat) (IntKind.wrap IntKind.u8 (IntKind.wrap IntKind.i8 (↑(BitVec.toNat (BitVec.ofInt (8 : Nat) dst &&& BitVec.ofInt (8 : Nat) 7)) : Int))))) : Int))], .lst .no 1 [.int .u8 (imm % 256), .int .u8 (imm / 256 % 256), .int .u8 (imm / 65536 % 256), .int .u8 (imm / 16777216 % 256)]]) 2 (.lst .no 1 [.int .u8 (imm % 256), .int .u8 (imm / 256 % 256), .int .u8 (imm / 65536 % 256), .int .u8 (imm / 16777216 % 256)]) rfl, .len 5 2147483648 (by decide), tF]) (by kernel_rfl)).to (by clear E1; (try rw [or184 d0 d1]); (subst_vars; (try simp only [beq_dec] at *); (try simp only [beq_iff_eq] at h); (try simp only [decide_eq_true_eq, decide_eq_false_iff_not] at *); simp_all [wk, wkL, wkO, bytesM, bD, rexM, memM, fourM, w_u8]; done))
 rcases bft (needM (w == 64) 0 dst false) with h22 | h22
 ·have c23 := @rex_yes_ok 0 dst (by decide) (by decide) d0 d1 (w == 64) false h22
  generalize g25 : rexB (w == 64) 0 dst = r24 at c23
  have c26 := @two_ok r4 dst (by (simp only [sl2] at *; omega)) (by (simp only [sl2] at *; omega)) d0 d1
  generalize g28 : regsM r4 dst = r27 at c26
  have c29 := @four_ok imm
  exact (o21 (d := .tup [.lst (.fresh 1) 1 [.int .u8 r24, .int .u8 r2, .int .u8 r27, .int .u8 (imm % 256), .int .u8 (imm / 256 % 256), .int .u8 (imm / 65536 % 256), .int .u8 (imm / 16777216 % 256)], .int .i64 0]) (E1 ++ [tC (eT (neOf h6)), tC (eT (neOf h6)), tC (neOf h6), tF, .ret _ _ _ c23, .ret _ _ _ c26, .ret _ _ _ c29, .inl, .go 64, tT, tT, .get ([.lst .tight 1 [.int .u8 r24], .lst .tight 1 [.int .u8 r2], .lst .tight 1 [.int .u8 r27], .lst .no 1 [.int .u8 (imm % 256), .int .u8 (imm / 256 % 256), .int .u8 (imm / 65536 % 256), .int .u8 (imm / 16777216 % 256)]]) 0 (.lst .tight 1 [.int .u8 r24]) rfl, .len 1 2147483648 (by decide), tT, tT, .get ([.lst .tight 1 [.int .u8 r24], .lst .tight 1 [.int .u8 r2], .lst .tight 1 [.int .u8 r27], .lst .no 1 [.int .u8 (imm % 256), .int .u8 (imm / 256 % 256), .int .u8 (imm / 65536 % 256), .int .u8 (imm / 16777216 % 256)]]) 1 (.lst .tight 1 [.int .u8 r2]) rfl, .len 2 2147483648 (by decide), tT, tT, .get ([.lst .tight 1 [.int .u8 r24], .lst .tight 1 [.int .u8 r2], .lst .tight 1 [.int .u8 r27], .lst .no 1 [.int .u8 (imm % 256), .int .u8 (imm / 256 % 256), .int .u8 (imm / 65536 % 256), .int .u8 (imm / 16777216 % 256)]]) 2 (.lst .tight 1 [.int .u8 r27]) rfl, .len 3 2147483648 (by decide), tT, tT, .get ([.lst .tight 1 [.int .u8 r24], .lst .tight 1 [.int .u8 r2], .lst .tight 1 [.int .u8 r27], .lst .no 1 [.int .u8 (imm % 256), .int .u8 (imm / 256 % 256), .int .u8 (imm / 65536 % 256), .int .u8 (imm / 16777216 % 256)]]) 3 (.lst .no 1 [.int .u8 (imm % 256), .int .u8 (imm / 256 % 256), .int .u8 (imm / 65536 % 256), .int .u8 (imm / 16777216 % 256)]) rfl, .len 7 2147483648 (by decide), tF]) (by kernel_rfl)).to (by clear E1; (try rw [or184 d0 d1]); (subst_vars; (try simp only [beq_dec] at *); (try simp only [beq_iff_eq] at h); (try simp only [decide_eq_true_eq, decide_eq_false_iff_not] at *); simp_all [wk, wkL, wkO, bytesM, bD, rexM, memM, fourM, w_u8]; done))
 have c30 := @rex_no_ok 0 dst (by decide) (by decide) d0 d1 (w == 64) false h22
 have c31 := @two_ok r4 dst (by (simp only [sl2] at *; omega)) (by (simp only [sl2] at *; omega)) d0 d1
 generalize g33 : regsM r4 dst = r32 at c31
 have c34 := @four_ok imm
 exact (o21 (d := .tup [.lst (.fresh 1) 1 [.int .u8 r2, .int .u8 r32, .int .u8 (imm % 256), .int .u8 (imm / 256 % 256), .int .u8 (imm / 65536 % 256), .int .u8 (imm / 16777216 % 256)], .int .i64 0]) (E1 ++ [tC (eT (neOf h6)), tC (eT (neOf h6)), tC (neOf h6), tF, .ret _ _ _ c30, .ret _ _ _ c31, .ret _ _ _ c34, .inl, .go 64, tT, tT, .get ([.lst .tight 1 [], .lst .tight 1 [.int .u8 r2], .lst .tight 1 [.int .u8 r32], .lst .no 1 [.int .u8 (imm % 256), .int .u8 (imm / 256 % 256), .int .u8 (imm / 65536 % 256), .int .u8 (imm / 16777216 % 256)]]) 0 (.lst .tight 1 []) rfl, .len 0 2147483648 (by decide), tT, tT, .get ([.lst .tight 1 [], .lst .tight 1 [.int .u8 r2], .lst .tight 1 [.int .u8 r32], .lst .no 1 [.int .u8 (imm % 256), .int .u8 (imm / 256 % 256), .int .u8 (imm / 65536 % 256), .int .u8 (imm / 16777216 % 256)]]) 1 (.lst .tight 1 [.int .u8 r2]) rfl, .len 1 2147483648 (by decide), tT, tT, .get ([.lst .tight 1 [], .lst .tight 1 [.int .u8 r2], .lst .tight 1 [.int .u8 r32], .lst .no 1 [.int .u8 (imm % 256), .int .u8 (imm / 256 % 256), .int .u8 (imm / 65536 % 256), .int .u8 (imm / 16777216 % 256)]]) 2 (.lst .tight 1 [.int .u8 r32]) rfl, .len 2 2147483648 (by decide), tT, tT, .get ([.lst .tight 1 [], .lst .tight 1 [.int .u8 r2], .lst .tight 1 [.int .u8 r32], .lst .no 1 [.int .u8 (imm % 256), .int .u8 (imm / 256 % 256), .int .u8 (imm / 65536 % 256), .int .u8 (imm / 16777216 % 256)]]) 3 (.lst .no 1 [.int .u8 (imm % 256), .int .u8 (imm / 256 % 256), .int .u8 (imm / 65536 % 256), .int .u8 (imm / 16777216 % 256)]) rfl, .len 6 2147483648 (by decide), tF]) (by kernel_rfl)).to (by clear E1; (try rw [or184 d0 d1]); (subst_vars; (try simp only [beq_dec] at *); (try simp only [beq_iff_eq] at h); (try simp only [decide_eq_true_eq, decide_eq_false_iff_not] at *); simp_all [wk, wkL, wkO, bytesM, bD, rexM, memM, fourM, w_u8]; done))
theorem bytesO_25_ok (w dst src base disp imm cc : Int) (d0 : 0 ≤ dst) (d1 : dst ≤ 15) (s0 : 0 ≤ src) (s1 : src ≤ 15) (b0 : 0 ≤ base) (b1 : base ≤ 15) (p0 : -2147483648 ≤ disp) (p1 : disp ≤ 2147483647) (i0 : -2147483648 ≤ imm) (i1 : imm ≤ 2147483647) (c0 : 0 ≤ cc) (c1 : cc ≤ 15) (hm : mayX 25 w dst src base disp imm cc = true) : Ret Try.prog 21 ([xD 25 w dst src base disp imm cc]) (.tup [.lst .no 1 (bD (bytesM 25 w dst src base disp imm cc)), .int .i64 0]) := by
 have c0 := @mayX_ok 25 w dst src base disp imm cc (by decide)
 rw [hm] at c0
 have c1 := @of_any_ok 25 (by decide)
 rcases bft (needM (w == 64) dst src false) with h2 | h2
 ·have c3 := @rex_yes_ok dst src d0 d1 s0 s1 (w == 64) false h2
  generalize g5 : rexB (w == 64) dst src = r4 at c3
  have c6 := @two_ok dst src d0 d1 s0 s1
  generalize g8 : regsM dst src = r7 at c6
  exact (o21 (d := .tup [.lst (.fresh 1) 1 [.int .u8 r4, .int .u8 15, .int .u8 (IntKind.wrap IntKind.u8 (64 + IntKind.wrap IntKind.u8 cc)), .int .u8 r7], .int .i64 0]) [.ret _ _ _ c0, tF, .ret _ _ _ c1, tF, tF, tT, .ret _ _ _ c3, .ret _ _ _ c6, .inl, .go 64, tT, tT, .get ([.lst .tight 1 [.int .u8 r4], .lst .tight 1 [.int .u8 15, .int .u8 (IntKind.wrap IntKind.u8 (64 + IntKind.wrap IntKind.u8 cc))], .lst .tight 1 [.int .u8 r7]]) 0 (.lst .tight 1 [.int .u8 r4]) rfl, .len 1 2147483648 (by decide), tT, tT, .get ([.lst .tight 1 [.int .u8 r4], .lst .tight 1 [.int .u8 15, .int .u8 (IntKind.wrap IntKind.u8 (64 + IntKind.wrap IntKind.u8 cc))], .lst .tight 1 [.int .u8 r7]]) 1 (.lst .tight 1 [.int .u8 15, .int .u8 (IntKind.wrap IntKind.u8 (64 + IntKind.wrap IntKind.u8 cc))]) rfl, .len 3 2147483648 (by decide), tT, tT, .get ([.lst .tight 1 [.int .u8 r4], .lst .tight 1 [.int .u8 15, .int .u8 (IntKind.wrap IntKind.u8 (64 + IntKind.wrap IntKind.u8 cc))], .lst .tight 1 [.int .u8 r7]]) 2 (.lst .tight 1 [.int .u8 r7]) rfl, .len 4 2147483648 (by decide), tF] (by kernel_rfl)).to (by (try rw [or184 d0 d1]); (subst_vars; (try simp only [beq_dec] at *); (try simp only [beq_iff_eq] at h); (try simp only [decide_eq_true_eq, decide_eq_false_iff_not] at *); simp_all [wk, wkL, wkO, bytesM, bD, rexM, memM, fourM, w_u8, needM, codeM, numM, shapeM]; omega))
 have c9 := @rex_no_ok dst src d0 d1 s0 s1 (w == 64) false h2
 have c10 := @two_ok dst src d0 d1 s0 s1
 generalize g12 : regsM dst src = r11 at c10
 exact (o21 (d := .tup [.lst (.fresh 1) 1 [.int .u8 15, .int .u8 (IntKind.wrap IntKind.u8 (64 + IntKind.wrap IntKind.u8 cc)), .int .u8 r11], .int .i64 0]) [.ret _ _ _ c0, tF, .ret _ _ _ c1, tF, tF, tT, .ret _ _ _ c9, .ret _ _ _ c10, .inl, .go 64, tT, tT, .get ([.lst .tight 1 [], .lst .tight 1 [.int .u8 15, .int .u8 (IntKind.wrap IntKind.u8 (64 + IntKind.wrap IntKind.u8 cc))], .lst .tight 1 [.int .u8 r11]]) 0 (.lst .tight 1 []) rfl, .len 0 2147483648 (by decide), tT, tT, .get ([.lst .tight 1 [], .lst .tight 1 [.int .u8 15, .int .u8 (IntKind.wrap IntKind.u8 (64 + IntKind.wrap IntKind.u8 cc))], .lst .tight 1 [.int .u8 r11]]) 1 (.lst .tight 1 [.int .u8 15, .int .u8 (IntKind.wrap IntKind.u8 (64 + IntKind.wrap IntKind.u8 cc))]) rfl, .len 2 2147483648 (by decide), tT, tT, .get ([.lst .tight 1 [], .lst .tight 1 [.int .u8 15, .int .u8 (IntKind.wrap IntKind.u8 (64 + IntKind.wrap IntKind.u8 cc))], .lst .tight 1 [.int .u8 r11]]) 2 (.lst .tight 1 [.int .u8 r11]) rfl, .len 3 2147483648 (by decide), tF] (by kernel_rfl)).to (by (try rw [or184 d0 d1]); (subst_vars; (try simp only [beq_dec] at *); (try simp only [beq_iff_eq] at h); (try simp only [decide_eq_true_eq, decide_eq_false_iff_not] at *); simp_all [wk, wkL, wkO, bytesM, bD, rexM, memM, fourM, w_u8, codeM, numM, shapeM]; omega))
end Go.Proofs.Ytcngafhpodeenaa

namespace Go.Proofs.Ytcngafhpodeenaa
open Go Go.Ev
set_option maxRecDepth 100000
set_option maxHeartbeats 8000000
theorem bytesO_26_ok (w dst src base disp imm cc : Int) (d0 : 0 ≤ dst) (d1 : dst ≤ 15) (s0 : 0 ≤ src) (s1 : src ≤ 15) (b0 : 0 ≤ base) (b1 : base ≤ 15) (p0 : -2147483648 ≤ disp) (p1 : disp ≤ 2147483647) (i0 : -2147483648 ≤ imm) (i1 : imm ≤ 2147483647) (c0 : 0 ≤ cc) (c1 : cc ≤ 15) (hm : mayX 26 w dst src base disp imm cc = true) : Ret Try.prog 21 ([xD 26 w dst src base disp imm cc]) (.tup [.lst .no 1 (bD (bytesM 26 w dst src base disp imm cc)), .int .i64 0]) := by
 have c0 := @mayX_ok 26 w dst src base disp imm cc (by decide)
 rw [hm] at c0
 have c1 := @of_any_ok 26 (by decide)
 let E1 : EL := [.ret _ _ _ c0, tF, .ret _ _ _ c1, tF, tF, tF, tF, tF, tF, tT]
 by_cases h2 : w = 8
 ·subst h2
  rcases bft (needM false dst base false) with h3 | h3
  ·have c4 := @rex_yes_ok dst base d0 d1 b0 b1 false false h3
   generalize g6 : rexB false dst base = r5 at c4
   rcases bft (decide (base % 8 = 4)) with h7 | h7
   ·have c8 := @mMem_4_ok dst base disp d0 d1 b0 b1 p0 p1 h7
    exact (o21 (d := .tup [.lst (.fresh 1) 1 [.int .u8 r5, .int .u8 15, .int .u8 182, .int .u8 (128 + 8 * (dst % 8) + base % 8), .int .u8 36, .int .u8 (disp % 256), .int .u8 (disp / 256 % 256), .int .u8 (disp / 65536 % 256), .int .u8 (disp / 16777216 % 256)], .int .i64 0]) (E1 ++ [tT, .ret _ _ _ c4, .inl, .ret _ _ _ c8, .inl, .go 64, tT, tT, .get ([.lst .tight 1 [.int .u8 r5], .lst .tight 1 [.int .u8 15, .int .u8 182], .lst .no 1 [.int .u8 (128 + 8 * (dst % 8) + base % 8), .int .u8 36, .int .u8 (disp % 256), .int .u8 (disp / 256 % 256), .int .u8 (disp / 65536 % 256), .int .u8 (disp / 16777216 % 256)]]) 0 (.lst .tight 1 [.int .u8 r5]) rfl, .len 1 2147483648 (by decide), tT, tT, .get ([.lst .tight 1 [.int .u8 r5], .lst .tight 1 [.int .u8 15, .int .u8 182], .lst .no 1 [.int .u8 (128 + 8 * (dst % 8) + base % 8), .int .u8 36, .int .u8 (disp % 256), .int .u8 (disp / 256 % 256), .int .u8 (disp / 65536 % 256), .int .u8 (disp / 16777216 % 256)]]) 1 (.lst .tight 1 [.int .u8 15, .int .u8 182]) rfl, .len 3 2147483648 (by decide), tT, tT, .get ([.lst .tight 1 [.int .u8 r5], .lst .tight 1 [.int .u8 15, .int .u8 182], .lst .no 1 [.int .u8 (128 + 8 * (dst % 8) + base % 8), .int .u8 36, .int .u8 (disp % 256), .int .u8 (disp / 256 % 256), .int .u8 (disp / 65536 % 256), .int .u8 (disp / 16777216 % 256)]]) 2 (.lst .no 1 [.int .u8 (128 + 8 * (dst % 8) + base % 8), .int .u8 36, .int .u8 (disp % 256), .int .u8 (disp / 256 % 256), .int .u8 (disp / 65536 % 256), .int .u8 (disp / 16777216 % 256)]) rfl, .len 9 2147483648 (by decide), tF]) (by kernel_rfl)).to (by clear E1; subst_vars; (try simp only [beq_dec] at *); (try simp only [beq_iff_eq] at h); (try simp only [decide_eq_true_eq, decide_eq_false_iff_not] at *); simp_all [wk, wkL, wkO, bytesM, show shapeM 26 = 7 from rfl, codeM, bD, rexM, memM, fourM, w_u8])
   have c9 := @mMem_n_ok dst base disp d0 d1 b0 b1 p0 p1 h7
   exact (o21 (d := .tup [.lst (.fresh 1) 1 [.int .u8 r5, .int .u8 15, .int .u8 182, .int .u8 (128 + 8 * (dst % 8) + base % 8), .int .u8 (disp % 256), .int .u8 (disp / 256 % 256), .int .u8 (disp / 65536 % 256), .int .u8 (disp / 16777216 % 256)], .int .i64 0]) (E1 ++ [tT, .ret _ _ _ c4, .inl, .ret _ _ _ c9, .inl, .go 64, tT, tT, .get ([.lst .tight 1 [.int .u8 r5], .lst .tight 1 [.int .u8 15, .int .u8 182], .lst .no 1 [.int .u8 (128 + 8 * (dst % 8) + base % 8), .int .u8 (disp % 256), .int .u8 (disp / 256 % 256), .int .u8 (disp / 65536 % 256), .int .u8 (disp / 16777216 % 256)]]) 0 (.lst .tight 1 [.int .u8 r5]) rfl, .len 1 2147483648 (by decide), tT, tT, .get ([.lst .tight 1 [.int .u8 r5], .lst .tight 1 [.int .u8 15, .int .u8 182], .lst .no 1 [.int .u8 (128 + 8 * (dst % 8) + base % 8), .int .u8 (disp % 256), .int .u8 (disp / 256 % 256), .int .u8 (disp / 65536 % 256), .int .u8 (disp / 16777216 % 256)]]) 1 (.lst .tight 1 [.int .u8 15, .int .u8 182]) rfl, .len 3 2147483648 (by decide), tT, tT, .get ([.lst .tight 1 [.int .u8 r5], .lst .tight 1 [.int .u8 15, .int .u8 182], .lst .no 1 [.int .u8 (128 + 8 * (dst % 8) + base % 8), .int .u8 (disp % 256), .int .u8 (disp / 256 % 256), .int .u8 (disp / 65536 % 256), .int .u8 (disp / 16777216 % 256)]]) 2 (.lst .no 1 [.int .u8 (128 + 8 * (dst % 8) + base % 8), .int .u8 (disp % 256), .int .u8 (disp / 256 % 256), .int .u8 (disp / 65536 % 256), .int .u8 (disp / 16777216 % 256)]) rfl, .len 8 2147483648 (by decide), tF]) (by kernel_rfl)).to (by clear E1; subst_vars; (try simp only [beq_dec] at *); (try simp only [beq_iff_eq] at h); (try simp only [decide_eq_true_eq, decide_eq_false_iff_not] at *); simp_all [wk, wkL, wkO, bytesM, show shapeM 26 = 7 from rfl, codeM, bD, rexM, memM, fourM, w_u8])
  have c10 := @rex_no_ok dst base d0 d1 b0 b1 false false h3
  rcases bft (decide (base % 8 = 4)) with h11 | h11
  ·have c12 := @mMem_4_ok dst base disp d0 d1 b0 b1 p0 p1 h11
   exact (o21 (d := .tup [.lst (.fresh 1) 1 [.int .u8 15, .int .u8 182, .int .u8 (128 + 8 * (dst % 8) + base % 8), .int .u8 36, .int .u8 (disp % 256), .int .u8 (disp / 256 % 256), .int .u8 (disp / 65536 % 256), .int .u8 (disp / 16777216 % 256)], .int .i64 0]) (E1 ++ [tT, .ret _ _ _ c10, .inl, .ret _ _ _ c12, .inl, .go 64, tT, tT, .get ([.lst .tight 1 [], .lst .tight 1 [.int .u8 15, .int .u8 182], .lst .no 1 [.int .u8 (128 + 8 * (dst % 8) + base % 8), .int .u8 36, .int .u8 (disp % 256), .int .u8 (disp / 256 % 256), .int .u8 (disp / 65536 % 256), .int .u8 (disp / 16777216 % 256)]]) 0 (.lst .tight 1 []) rfl, .len 0 2147483648 (by decide), tT, tT, .get ([.lst .tight 1 [], .lst .tight 1 [.int .u8 15, .int .u8 182], .lst .no 1 [.int .u8 (128 + 8 * (dst % 8) + base % 8), .int .u8 36, .int .u8 (disp % 256), .int .u8 (disp / 256 % 256), .int .u8 (disp / 65536 % 256), .int .u8 (disp / 16777216 % 256)]]) 1 (.lst .tight 1 [.int .u8 15, .int .u8 182]) rfl, .len 2 2147483648 (by decide), tT, tT, .get ([.lst .tight 1 [], .lst .tight 1 [.int .u8 15, .int .u8 182], .lst .no 1 [.int .u8 (128 + 8 * (dst % 8) + base % 8), .int .u8 36, .int .u8 (disp % 256), .int .u8 (disp / 256 % 256), .int .u8 (disp / 65536 % 256), .int .u8 (disp / 16777216 % 256)]]) 2 (.lst .no 1 [.int .u8 (128 + 8 * (dst % 8) + base % 8), .int .u8 36, .int .u8 (disp % 256), .int .u8 (disp / 256 % 256), .int .u8 (disp / 65536 % 256), .int .u8 (disp / 16777216 % 256)]) rfl, .len 8 2147483648 (by decide), tF]) (by kernel_rfl)).to (by clear E1; subst_vars; (try simp only [beq_dec] at *); (try simp only [beq_iff_eq] at h); (try simp only [decide_eq_true_eq, decide_eq_false_iff_not] at *); simp_all [wk, wkL, wkO, bytesM, show shapeM 26 = 7 from rfl, codeM, bD, rexM, memM, fourM, w_u8])
  have c13 := @mMem_n_ok dst base disp d0 d1 b0 b1 p0 p1 h11
  exact (o21 (d := .tup [.lst (.fresh 1) 1 [.int .u8 15, .int .u8 182, .int .u8 (128 + 8 * (dst % 8) + base % 8), .int .u8 (disp % 256), .int .u8 (disp / 256 % 256), .int .u8 (disp / 65536 % 256), .int .u8 (disp / 16777216 % 256)], .int .i64 0]) (E1 ++ [tT, .ret _ _ _ c10, .inl, .ret _ _ _ c13, .inl, .go 64, tT, tT, .get ([.lst .tight 1 [], .lst .tight 1 [.int .u8 15, .int .u8 182], .lst .no 1 [.int .u8 (128 + 8 * (dst % 8) + base % 8), .int .u8 (disp % 256), .int .u8 (disp / 256 % 256), .int .u8 (disp / 65536 % 256), .int .u8 (disp / 16777216 % 256)]]) 0 (.lst .tight 1 []) rfl, .len 0 2147483648 (by decide), tT, tT, .get ([.lst .tight 1 [], .lst .tight 1 [.int .u8 15, .int .u8 182], .lst .no 1 [.int .u8 (128 + 8 * (dst % 8) + base % 8), .int .u8 (disp % 256), .int .u8 (disp / 256 % 256), .int .u8 (disp / 65536 % 256), .int .u8 (disp / 16777216 % 256)]]) 1 (.lst .tight 1 [.int .u8 15, .int .u8 182]) rfl, .len 2 2147483648 (by decide), tT, tT, .get ([.lst .tight 1 [], .lst .tight 1 [.int .u8 15, .int .u8 182], .lst .no 1 [.int .u8 (128 + 8 * (dst % 8) + base % 8), .int .u8 (disp % 256), .int .u8 (disp / 256 % 256), .int .u8 (disp / 65536 % 256), .int .u8 (disp / 16777216 % 256)]]) 2 (.lst .no 1 [.int .u8 (128 + 8 * (dst % 8) + base % 8), .int .u8 (disp % 256), .int .u8 (disp / 256 % 256), .int .u8 (disp / 65536 % 256), .int .u8 (disp / 16777216 % 256)]) rfl, .len 7 2147483648 (by decide), tF]) (by kernel_rfl)).to (by clear E1; subst_vars; (try simp only [beq_dec] at *); (try simp only [beq_iff_eq] at h); (try simp only [decide_eq_true_eq, decide_eq_false_iff_not] at *); simp_all [wk, wkL, wkO, bytesM, show shapeM 26 = 7 from rfl, codeM, bD, rexM, memM, fourM, w_u8])
 let E2 : EL := E1 ++ [tC (neOf h2)]
 by_cases h14 : w = 16
 ·subst h14
  rcases bft (needM false dst base false) with h15 | h15
  ·have c16 := @rex_yes_ok dst base d0 d1 b0 b1 false false h15
   generalize g18 : rexB false dst base = r17 at c16
   rcases bft (decide (base % 8 = 4)) with h19 | h19
   ·have c20 := @mMem_4_ok dst base disp d0 d1 b0 b1 p0 p1 h19
    exact (o21 (d := .tup [.lst (.fresh 1) 1 [.int .u8 r17, .int .u8 15, .int .u8 183, .int .u8 (128 + 8 * (dst % 8) + base % 8), .int .u8 36, .int .u8 (disp % 256), .int .u8 (disp / 256 % 256), .int .u8 (disp / 65536 % 256), .int .u8 (disp / 16777216 % 256)], .int .i64 0]) (E2 ++ [tT, .ret _ _ _ c16, .inl, .ret _ _ _ c20, .inl, .go 64, tT, tT, .get ([.lst .tight 1 [.int .u8 r17], .lst .tight 1 [.int .u8 15, .int .u8 183], .lst .no 1 [.int .u8 (128 + 8 * (dst % 8) + base % 8), .int .u8 36, .int .u8 (disp % 256), .int .u8 (disp / 256 % 256), .int .u8 (disp / 65536 % 256), .int .u8 (disp / 16777216 % 256)]]) 0 (.lst .tight 1 [.int .u8 r17]) rfl, .len 1 2147483648 (by decide), tT, tT, .get ([.lst .tight 1 [.int .u8 r17], .lst .tight 1 [.int .u8 15, .int .u8 183], .lst .no 1 [.int .u8 (128 + 8 * (dst % 8) + base % 8), .int .u8 36, .int .u8 (disp % 256), .int .u8 (disp / 256 % 256), .int .u8 (disp / 65536 % 256), .int .u8 (disp / 16777216 % 256)]]) 1 (.lst .tight 1 [.int .u8 15, .int .u8 183]) rfl, .len 3 2147483648 (by decide), tT, tT, .get ([.lst .tight 1 [.int .u8 r17], .lst .tight 1 [.int .u8 15, .int .u8 183], .lst .no 1 [.int .u8 (128 + 8 * (dst % 8) + base % 8), .int .u8 36, .int .u8 (disp % 256), .int .u8 (disp / 256 % 256), .int .u8 (disp / 65536 % 256), .int .u8 (disp / 16777216 % 256)]]) 2 (.lst .no 1 [.int .u8 (128 + 8 * (dst % 8) + base % 8), .int .u8 36, .int .u8 (disp % 256), .int .u8 (disp / 256 % 256), .int .u8 (disp / 65536 % 256), .int .u8 (disp / 16777216 % 256)]) rfl, .len 9 2147483648 (by decide), tF]) (by kernel_rfl)).to (by clear E1 E2; subst_vars; (try simp only [beq_dec] at *); (try simp only [beq_iff_eq] at h); (try simp only [decide_eq_true_eq, decide_eq_false_iff_not] at *); simp_all [wk, wkL, wkO, bytesM, show shapeM 26 = 7 from rfl, codeM, bD, rexM, memM, fourM, w_u8])
   have c21 := @mMem_n_ok dst base disp d0 d1 b0 b1 p0 p1 h19
   exact (o21 (d := .tup [.lst (.fresh 1) 1 [.int .u8 r17, .int .u8 15, .int .u8 183, .int .u8 (128 + 8 * (dst % 8) + base % 8), .int .u8 (disp % 256), .int .u8 (disp / 256 % 256), .int .u8 (disp / 65536 % 256), .int .u8 (disp / 16777216 % 256)], .int .i64 0]) (E2 ++ [tT, .ret _ _ _ c16, .inl, .ret _ _ _ c21, .inl, .go 64, tT, tT, .get ([.lst .tight 1 [.int .u8 r17], .lst .tight 1 [.int .u8 15, .int .u8 183], .lst .no 1 [.int .u8 (128 + 8 * (dst % 8) + base % 8), .int .u8 (disp % 256), .int .u8 (disp / 256 % 256), .int .u8 (disp / 65536 % 256), .int .u8 (disp / 16777216 % 256)]]) 0 (.lst .tight 1 [.int .u8 r17]) rfl, .len 1 2147483648 (by decide), tT, tT, .get ([.lst .tight 1 [.int .u8 r17], .lst .tight 1 [.int .u8 15, .int .u8 183], .lst .no 1 [.int .u8 (128 + 8 * (dst % 8) + base % 8), .int .u8 (disp % 256), .int .u8 (disp / 256 % 256), .int .u8 (disp / 65536 % 256), .int .u8 (disp / 16777216 % 256)]]) 1 (.lst .tight 1 [.int .u8 15, .int .u8 183]) rfl, .len 3 2147483648 (by decide), tT, tT, .get ([.lst .tight 1 [.int .u8 r17], .lst .tight 1 [.int .u8 15, .int .u8 183], .lst .no 1 [.int .u8 (128 + 8 * (dst % 8) + base % 8), .int .u8 (disp % 256), .int .u8 (disp / 256 % 256), .int .u8 (disp / 65536 % 256), .int .u8 (disp / 16777216 % 256)]]) 2 (.lst .no 1 [.int .u8 (128 + 8 * (dst % 8) + base % 8), .int .u8 (disp % 256), .int .u8 (disp / 256 % 256), .int .u8 (disp / 65536 % 256), .int .u8 (disp / 16777216 % 256)]) rfl, .len 8 2147483648 (by decide), tF]) (by kernel_rfl)).to (by clear E1 E2; subst_vars; (try simp only [beq_dec] at *); (try simp only [beq_iff_eq] at h); (try simp only [decide_eq_true_eq, decide_eq_false_iff_not] at *); simp_all [wk, wkL, wkO, bytesM, show shapeM 26 = 7 from rfl, codeM, bD, rexM, memM, fourM, w_u8])
  have c22 := @rex_no_ok dst base d0 d1 b0 b1 false false h15
  rcases bft (decide (base % 8 = 4)) with h23 | h23
  ·have c24 := @mMem_4_ok dst base disp d0 d1 b0 b1 p0 p1 h23
   exact (o21 (d := .tup [.lst (.fresh 1) 1 [.int .u8 15, .int .u8 183, .int .u8 (128 + 8 * (dst % 8) + base % 8), .int .u8 36, .int .u8 (disp % 256), .int .u8 (disp / 256 % 256), .int .u8 (disp / 65536 % 256), .int .u8 (disp / 16777216 % 256)], .int .i64 0]) (E2 ++ [tT, .ret _ _ _ c22, .inl, .ret _ _ _ c24, .inl, .go 64, tT, tT, .get ([.lst .tight 1 [], .lst .tight 1 [.int .u8 15, .int .u8 183], .lst .no 1 [.int .u8 (128 + 8 * (dst % 8) + base % 8), .int .u8 36, .int .u8 (disp % 256), .int .u8 (disp / 256 % 256), .int .u8 (disp / 65536 % 256), .int .u8 (disp / 16777216 % 256)]]) 0 (.lst .tight 1 []) rfl, .len 0 2147483648 (by decide), tT, tT, .get ([.lst .tight 1 [], .lst .tight 1 [.int .u8 15, .int .u8 183], .lst .no 1 [.int .u8 (128 + 8 * (dst % 8) + base % 8), .int .u8 36, .int .u8 (disp % 256), .int .u8 (disp / 256 % 256), .int .u8 (disp / 65536 % 256), .int .u8 (disp / 16777216 % 256)]]) 1 (.lst .tight 1 [.int .u8 15, .int .u8 183]) rfl, .len 2 2147483648 (by decide), tT, tT, .get ([.lst .tight 1 [], .lst .tight 1 [.int .u8 15, .int .u8 183], .lst .no 1 [.int .u8 (128 + 8 * (dst % 8) + base % 8), .int .u8 36, .int .u8 (disp % 256), .int .u8 (disp / 256 % 256), .int .u8 (disp / 65536 % 256), .int .u8 (disp / 16777216 % 256)]]) 2 (.lst .no 1 [.int .u8 (128 + 8 * (dst % 8) + base % 8), .int .u8 36, .int .u8 (disp % 256), .int .u8 (disp / 256 % 256), .int .u8 (disp / 65536 % 256), .int .u8 (disp / 16777216 % 256)]) rfl, .len 8 2147483648 (by decide), tF]) (by kernel_rfl)).to (by clear E1 E2; subst_vars; (try simp only [beq_dec] at *); (try simp only [beq_iff_eq] at h); (try simp only [decide_eq_true_eq, decide_eq_false_iff_not] at *); simp_all [wk, wkL, wkO, bytesM, show shapeM 26 = 7 from rfl, codeM, bD, rexM, memM, fourM, w_u8])
  have c25 := @mMem_n_ok dst base disp d0 d1 b0 b1 p0 p1 h23
  exact (o21 (d := .tup [.lst (.fresh 1) 1 [.int .u8 15, .int .u8 183, .int .u8 (128 + 8 * (dst % 8) + base % 8), .int .u8 (disp % 256), .int .u8 (disp / 256 % 256), .int .u8 (disp / 65536 % 256), .int .u8 (disp / 16777216 % 256)], .int .i64 0]) (E2 ++ [tT, .ret _ _ _ c22, .inl, .ret _ _ _ c25, .inl, .go 64, tT, tT, .get ([.lst .tight 1 [], .lst .tight 1 [.int .u8 15, .int .u8 183], .lst .no 1 [.int .u8 (128 + 8 * (dst % 8) + base % 8), .int .u8 (disp % 256), .int .u8 (disp / 256 % 256), .int .u8 (disp / 65536 % 256), .int .u8 (disp / 16777216 % 256)]]) 0 (.lst .tight 1 []) rfl, .len 0 2147483648 (by decide), tT, tT, .get ([.lst .tight 1 [], .lst .tight 1 [.int .u8 15, .int .u8 183], .lst .no 1 [.int .u8 (128 + 8 * (dst % 8) + base % 8), .int .u8 (disp % 256), .int .u8 (disp / 256 % 256), .int .u8 (disp / 65536 % 256), .int .u8 (disp / 16777216 % 256)]]) 1 (.lst .tight 1 [.int .u8 15, .int .u8 183]) rfl, .len 2 2147483648 (by decide), tT, tT, .get ([.lst .tight 1 [], .lst .tight 1 [.int .u8 15, .int .u8 183], .lst .no 1 [.int .u8 (128 + 8 * (dst % 8) + base % 8), .int .u8 (disp % 256), .int .u8 (disp / 256 % 256), .int .u8 (disp / 65536 % 256), .int .u8 (disp / 16777216 % 256)]]) 2 (.lst .no 1 [.int .u8 (128 + 8 * (dst % 8) + base % 8), .int .u8 (disp % 256), .int .u8 (disp / 256 % 256), .int .u8 (disp / 65536 % 256), .int .u8 (disp / 16777216 % 256)]) rfl, .len 7 2147483648 (by decide), tF]) (by kernel_rfl)).to (by clear E1 E2; subst_vars; (try simp only [beq_dec] at *); (try simp only [beq_iff_eq] at h); (try simp only [decide_eq_true_eq, decide_eq_false_iff_not] at *); simp_all [wk, wkL, wkO, bytesM, show shapeM 26 = 7 from rfl, codeM, bD, rexM, memM, fourM, w_u8])
 rcases bft (needM (w == 64) dst base false) with h26 | h26
 ·have c27 := @rex_yes_ok dst base d0 d1 b0 b1 (w == 64) false h26
  generalize g29 : rexB (w == 64) dst base = r28 at c27
  rcases bft (decide (base % 8 = 4)) with h30 | h30
  ·have c31 := @mMem_4_ok dst base disp d0 d1 b0 b1 p0 p1 h30
   exact (o21 (d := .tup [.lst (.fresh 1) 1 [.int .u8 r28, .int .u8 139, .int .u8 (128 + 8 * (dst % 8) + base % 8), .int .u8 36, .int .u8 (disp % 256), .int .u8 (disp / 256 % 256), .int .u8 (disp / 65536 % 256), .int .u8 (disp / 16777216 % 256)], .int .i64 0]) (E2 ++ [tC (neOf h14), .ret _ _ _ c27, .inl, .ret _ _ _ c31, .inl, .go 64, tT, tT, .get ([.lst .tight 1 [.int .u8 r28], .lst .tight 1 [.int .u8 139], .lst .no 1 [.int .u8 (128 + 8 * (dst % 8) + base % 8), .int .u8 36, .int .u8 (disp % 256), .int .u8 (disp / 256 % 256), .int .u8 (disp / 65536 % 256), .int .u8 (disp / 16777216 % 256)]]) 0 (.lst .tight 1 [.int .u8 r28]) rfl, .len 1 2147483648 (by decide), tT, tT, .get ([.lst .tight 1 [.int .u8 r28], .lst .tight 1 [.int .u8 139], .lst .no 1 [.int .u8 (128 + 8 * (dst % 8) + base % 8), .int .u8 36, .int .u8 (disp % 256), .int .u8 (disp / 256 % 256), .int .u8 (disp / 65536 % 256), .int .u8 (disp / 16777216 % 256)]]) 1 (.lst .tight 1 [.int .u8 139]) rfl, .len 2 2147483648 (by decide), tT, tT, .get ([.lst .tight 1 [.int .u8 r28], .lst .tight 1 [.int .u8 139], .lst .no 1 [.int .u8 (128 + 8 * (dst % 8) + base % 8), .int .u8 36, .int .u8 (disp % 256), .int .u8 (disp / 256 % 256), .int .u8 (disp / 65536 % 256), .int .u8 (disp / 16777216 % 256)]]) 2 (.lst .no 1 [.int .u8 (128 + 8 * (dst % 8) + base % 8), .int .u8 36, .int .u8 (disp % 256), .int .u8 (disp / 256 % 256), .int .u8 (disp / 65536 % 256), .int .u8 (disp / 16777216 % 256)]) rfl, .len 8 2147483648 (by decide), tF]) (by kernel_rfl)).to (by clear E1 E2; subst_vars; (try simp only [beq_dec] at *); (try simp only [beq_iff_eq] at h); (try simp only [decide_eq_true_eq, decide_eq_false_iff_not] at *); simp_all [wk, wkL, wkO, bytesM, show shapeM 26 = 7 from rfl, codeM, bD, rexM, memM, fourM, w_u8])
  have c32 := @mMem_n_ok dst base disp d0 d1 b0 b1 p0 p1 h30
  exact (o21 (d := .tup [.lst (.fresh 1) 1 [.int .u8 r28, .int .u8 139, .int .u8 (128 + 8 * (dst % 8) + base % 8), .int .u8 (disp % 256), .int .u8 (disp / 256 % 256), .int .u8 (disp / 65536 % 256), .int .u8 (disp / 16777216 % 256)], .int .i64 0]) (E2 ++ [tC (neOf h14), .ret _ _ _ c27, .inl, .ret _ _ _ c32, .inl, .go 64, tT, tT, .get ([.lst .tight 1 [.int .u8 r28], .lst .tight 1 [.int .u8 139], .lst .no 1 [.int .u8 (128 + 8 * (dst % 8) + base % 8), .int .u8 (disp % 256), .int .u8 (disp / 256 % 256), .int .u8 (disp / 65536 % 256), .int .u8 (disp / 16777216 % 256)]]) 0 (.lst .tight 1 [.int .u8 r28]) rfl, .len 1 2147483648 (by decide), tT, tT, .get ([.lst .tight 1 [.int .u8 r28], .lst .tight 1 [.int .u8 139], .lst .no 1 [.int .u8 (128 + 8 * (dst % 8) + base % 8), .int .u8 (disp % 256), .int .u8 (disp / 256 % 256), .int .u8 (disp / 65536 % 256), .int .u8 (disp / 16777216 % 256)]]) 1 (.lst .tight 1 [.int .u8 139]) rfl, .len 2 2147483648 (by decide), tT, tT, .get ([.lst .tight 1 [.int .u8 r28], .lst .tight 1 [.int .u8 139], .lst .no 1 [.int .u8 (128 + 8 * (dst % 8) + base % 8), .int .u8 (disp % 256), .int .u8 (disp / 256 % 256), .int .u8 (disp / 65536 % 256), .int .u8 (disp / 16777216 % 256)]]) 2 (.lst .no 1 [.int .u8 (128 + 8 * (dst % 8) + base % 8), .int .u8 (disp % 256), .int .u8 (disp / 256 % 256), .int .u8 (disp / 65536 % 256), .int .u8 (disp / 16777216 % 256)]) rfl, .len 7 2147483648 (by decide), tF]) (by kernel_rfl)).to (by clear E1 E2; subst_vars; (try simp only [beq_dec] at *); (try simp only [beq_iff_eq] at h); (try simp only [decide_eq_true_eq, decide_eq_false_iff_not] at *); simp_all [wk, wkL, wkO, bytesM, show shapeM 26 = 7 from rfl, codeM, bD, rexM, memM, fourM, w_u8])
 have c33 := @rex_no_ok dst base d0 d1 b0 b1 (w == 64) false h26
 rcases bft (decide (base % 8 = 4)) with h34 | h34
 ·have c35 := @mMem_4_ok dst base disp d0 d1 b0 b1 p0 p1 h34
  exact (o21 (d := .tup [.lst (.fresh 1) 1 [.int .u8 139, .int .u8 (128 + 8 * (dst % 8) + base % 8), .int .u8 36, .int .u8 (disp % 256), .int .u8 (disp / 256 % 256), .int .u8 (disp / 65536 % 256), .int .u8 (disp / 16777216 % 256)], .int .i64 0]) (E2 ++ [tC (neOf h14), .ret _ _ _ c33, .inl, .ret _ _ _ c35, .inl, .go 64, tT, tT, .get ([.lst .tight 1 [], .lst .tight 1 [.int .u8 139], .lst .no 1 [.int .u8 (128 + 8 * (dst % 8) + base % 8), .int .u8 36, .int .u8 (disp % 256), .int .u8 (disp / 256 % 256), .int .u8 (disp / 65536 % 256), .int .u8 (disp / 16777216 % 256)]]) 0 (.lst .tight 1 []) rfl, .len 0 2147483648 (by decide), tT, tT, .get ([.lst .tight 1 [], .lst .tight 1 [.int .u8 139], .lst .no 1 [.int .u8 (128 + 8 * (dst % 8) + base % 8), .int .u8 36, .int .u8 (disp % 256), .int .u8 (disp / 256 % 256), .int .u8 (disp / 65536 % 256), .int .u8 (disp / 16777216 % 256)]]) 1 (.lst .tight 1 [.int .u8 139]) rfl, .len 1 2147483648 (by decide), tT, tT, .get ([.lst .tight 1 [], .lst .tight 1 [.int .u8 139], .lst .no 1 [.int .u8 (128 + 8 * (dst % 8) + base % 8), .int .u8 36, .int .u8 (disp % 256), .int .u8 (disp / 256 % 256), .int .u8 (disp / 65536 % 256), .int .u8 (disp / 16777216 % 256)]]) 2 (.lst .no 1 [.int .u8 (128 + 8 * (dst % 8) + base % 8), .int .u8 36, .int .u8 (disp % 256), .int .u8 (disp / 256 % 256), .int .u8 (disp / 65536 % 256), .int .u8 (disp / 16777216 % 256)]) rfl, .len 7 2147483648 (by decide), tF]) (by kernel_rfl)).to (by clear E1 E2; subst_vars; (try simp only [beq_dec] at *); (try simp only [beq_iff_eq] at h); (try simp only [decide_eq_true_eq, decide_eq_false_iff_not] at *); simp_all [wk, wkL, wkO, bytesM, show shapeM 26 = 7 from rfl, codeM, bD, rexM, memM, fourM, w_u8])
 have c36 := @mMem_n_ok dst base disp d0 d1 b0 b1 p0 p1 h34
 exact (o21 (d := .tup [.lst (.fresh 1) 1 [.int .u8 139, .int .u8 (128 + 8 * (dst % 8) + base % 8), .int .u8 (disp % 256), .int .u8 (disp / 256 % 256), .int .u8 (disp / 65536 % 256), .int .u8 (disp / 16777216 % 256)], .int .i64 0]) (E2 ++ [tC (neOf h14), .ret _ _ _ c33, .inl, .ret _ _ _ c36, .inl, .go 64, tT, tT, .get ([.lst .tight 1 [], .lst .tight 1 [.int .u8 139], .lst .no 1 [.int .u8 (128 + 8 * (dst % 8) + base % 8), .int .u8 (disp % 256), .int .u8 (disp / 256 % 256), .int .u8 (disp / 65536 % 256), .int .u8 (disp / 16777216 % 256)]]) 0 (.lst .tight 1 []) rfl, .len 0 2147483648 (by decide), tT, tT, .get ([.lst .tight 1 [], .lst .tight 1 [.int .u8 139], .lst .no 1 [.int .u8 (128 + 8 * (dst % 8) + base % 8), .int .u8 (disp % 256), .int .u8 (disp / 256 % 256), .int .u8 (disp / 65536 % 256), .int .u8 (disp / 16777216 % 256)]]) 1 (.lst .tight 1 [.int .u8 139]) rfl, .len 1 2147483648 (by decide), tT, tT, .get ([.lst .tight 1 [], .lst .tight 1 [.int .u8 139], .lst .no 1 [.int .u8 (128 + 8 * (dst % 8) + base % 8), .int .u8 (disp % 256), .int .u8 (disp / 256 % 256), .int .u8 (disp / 65536 % 256), .int .u8 (disp / 16777216 % 256)]]) 2 (.lst .no 1 [.int .u8 (128 + 8 * (dst % 8) + base % 8), .int .u8 (disp % 256), .int .u8 (disp / 256 % 256), .int .u8 (disp / 65536 % 256), .int .u8 (disp / 16777216 % 256)]) rfl, .len 6 2147483648 (by decide), tF]) (by kernel_rfl)).to (by clear E1 E2; subst_vars; (try simp only [beq_dec] at *); (try simp only [beq_iff_eq] at h); (try simp only [decide_eq_true_eq, decide_eq_false_iff_not] at *); simp_all [wk, wkL, wkO, bytesM, show shapeM 26 = 7 from rfl, codeM, bD, rexM, memM, fourM, w_u8])
end Go.Proofs.Ytcngafhpodeenaa

namespace Go.Proofs.Ytcngafhpodeenaa
open Go Go.Ev
set_option maxRecDepth 100000
set_option maxHeartbeats 8000000
theorem bytesO_27_ok (w dst src base disp imm cc : Int) (d0 : 0 ≤ dst) (d1 : dst ≤ 15) (s0 : 0 ≤ src) (s1 : src ≤ 15) (b0 : 0 ≤ base) (b1 : base ≤ 15) (p0 : -2147483648 ≤ disp) (p1 : disp ≤ 2147483647) (i0 : -2147483648 ≤ imm) (i1 : imm ≤ 2147483647) (c0 : 0 ≤ cc) (c1 : cc ≤ 15) (hm : mayX 27 w dst src base disp imm cc = true) : Ret Try.prog 21 ([xD 27 w dst src base disp imm cc]) (.tup [.lst .no 1 (bD (bytesM 27 w dst src base disp imm cc)), .int .i64 0]) := by
 have c0 := @mayX_ok 27 w dst src base disp imm cc (by decide)
 rw [hm] at c0
 have c1 := @of_any_ok 27 (by decide)
 let E1 : EL := [.ret _ _ _ c0, tF, .ret _ _ _ c1, tF, tF, tF, tF, tF, tF, tF, tT]
 by_cases h2 : w = 8
 ·subst h2
  have c3 := @rex_yes_ok src base s0 s1 b0 b1 false true (rfl : true = true)
  generalize g5 : rexB false src base = r4 at c3
  rcases bft (decide (base % 8 = 4)) with h6 | h6
  ·have c7 := @mMem_4_ok src base disp s0 s1 b0 b1 p0 p1 h6
   exact (o21 (d := .tup [.lst (.fresh 1) 1 [.int .u8 r4, .int .u8 136, .int .u8 (128 + 8 * (src % 8) + base % 8), .int .u8 36, .int .u8 (disp % 256), .int .u8 (disp / 256 % 256), .int .u8 (disp / 65536 % 256), .int .u8 (disp / 16777216 % 256)], .int .i64 0]) (E1 ++ [tT, .ret _ _ _ c3, .inl, .ret _ _ _ c7, .inl, .go 64, tT, tT, .get ([.lst .tight 0 [], .lst .tight 1 [.int .u8 r4], .lst .tight 1 [.int .u8 136], .lst .no 1 [.int .u8 (128 + 8 * (src % 8) + base % 8), .int .u8 36, .int .u8 (disp % 256), .int .u8 (disp / 256 % 256), .int .u8 (disp / 65536 % 256), .int .u8 (disp / 16777216 % 256)]]) 0 (.lst .tight 0 []) rfl, .len 0 2147483648 (by decide), tT, tT, .get ([.lst .tight 0 [], .lst .tight 1 [.int .u8 r4], .lst .tight 1 [.int .u8 136], .lst .no 1 [.int .u8 (128 + 8 * (src % 8) + base % 8), .int .u8 36, .int .u8 (disp % 256), .int .u8 (disp / 256 % 256), .int .u8 (disp / 65536 % 256), .int .u8 (disp / 16777216 % 256)]]) 1 (.lst .tight 1 [.int .u8 r4]) rfl, .len 1 2147483648 (by decide), tT, tT, .get ([.lst .tight 0 [], .lst .tight 1 [.int .u8 r4], .lst .tight 1 [.int .u8 136], .lst .no 1 [.int .u8 (128 + 8 * (src % 8) + base % 8), .int .u8 36, .int .u8 (disp % 256), .int .u8 (disp / 256 % 256), .int .u8 (disp / 65536 % 256), .int .u8 (disp / 16777216 % 256)]]) 2 (.lst .tight 1 [.int .u8 136]) rfl, .len 2 2147483648 (by decide), tT, tT, .get ([.lst .tight 0 [], .lst .tight 1 [.int .u8 r4], .lst .tight 1 [.int .u8 136], .lst .no 1 [.int .u8 (128 + 8 * (src % 8) + base % 8), .int .u8 36, .int .u8 (disp % 256), .int .u8 (disp / 256 % 256), .int .u8 (disp / 65536 % 256), .int .u8 (disp / 16777216 % 256)]]) 3 (.lst .no 1 [.int .u8 (128 + 8 * (src % 8) + base % 8), .int .u8 36, .int .u8 (disp % 256), .int .u8 (disp / 256 % 256), .int .u8 (disp / 65536 % 256), .int .u8 (disp / 16777216 % 256)]) rfl, .len 8 2147483648 (by decide), tF]) (by kernel_rfl)).to (by clear E1; (subst_vars; (try simp only [beq_dec] at *); (try simp only [beq_iff_eq] at h); (try simp only [decide_eq_true_eq, decide_eq_false_iff_not] at *); simp_all [wk, wkL, wkO, bytesM, bD, rexM, memM, fourM, w_u8, needM, codeM, numM, shapeM]; done))
  have c8 := @mMem_n_ok src base disp s0 s1 b0 b1 p0 p1 h6
  exact (o21 (d := .tup [.lst (.fresh 1) 1 [.int .u8 r4, .int .u8 136, .int .u8 (128 + 8 * (src % 8) + base % 8), .int .u8 (disp % 256), .int .u8 (disp / 256 % 256), .int .u8 (disp / 65536 % 256), .int .u8 (disp / 16777216 % 256)], .int .i64 0]) (E1 ++ [tT, .ret _ _ _ c3, .inl, .ret _ _ _ c8, .inl, .go 64, tT, tT, .get ([.lst .tight 0 [], .lst .tight 1 [.int .u8 r4], .lst .tight 1 [.int .u8 136], .lst .no 1 [.int .u8 (128 + 8 * (src % 8) + base % 8), .int .u8 (disp % 256), .int .u8 (disp / 256 % 256), .int .u8 (disp / 65536 % 256), .int .u8 (disp / 16777216 % 256)]]) 0 (.lst .tight 0 []) rfl, .len 0 2147483648 (by decide), tT, tT, .get ([.lst .tight 0 [], .lst .tight 1 [.int .u8 r4], .lst .tight 1 [.int .u8 136], .lst .no 1 [.int .u8 (128 + 8 * (src % 8) + base % 8), .int .u8 (disp % 256), .int .u8 (disp / 256 % 256), .int .u8 (disp / 65536 % 256), .int .u8 (disp / 16777216 % 256)]]) 1 (.lst .tight 1 [.int .u8 r4]) rfl, .len 1 2147483648 (by decide), tT, tT, .get ([.lst .tight 0 [], .lst .tight 1 [.int .u8 r4], .lst .tight 1 [.int .u8 136], .lst .no 1 [.int .u8 (128 + 8 * (src % 8) + base % 8), .int .u8 (disp % 256), .int .u8 (disp / 256 % 256), .int .u8 (disp / 65536 % 256), .int .u8 (disp / 16777216 % 256)]]) 2 (.lst .tight 1 [.int .u8 136]) rfl, .len 2 2147483648 (by decide), tT, tT, .get ([.lst .tight 0 [], .lst .tight 1 [.int .u8 r4], .lst .tight 1 [.int .u8 136], .lst .no 1 [.int .u8 (128 + 8 * (src % 8) + base % 8), .int .u8 (disp % 256), .int .u8 (disp / 256 % 256), .int .u8 (disp / 65536 % 256), .int .u8 (disp / 16777216 % 256)]]) 3 (.lst .no 1 [.int .u8 (128 + 8 * (src % 8) + base % 8), .int .u8 (disp % 256), .int .u8 (disp / 256 % 256), .int .u8 (disp / 65536 % 256), .int .u8 (disp / 16777216 % 256)]) rfl, .len 7 2147483648 (by decide), tF]) (by kernel_rfl)).to (by clear E1; (subst_vars; (try simp only [beq_dec] at *); (try simp only [beq_iff_eq] at h); (try simp only [decide_eq_true_eq, decide_eq_false_iff_not] at *); simp_all [wk, wkL, wkO, bytesM, bD, rexM, memM, fourM, w_u8, needM, codeM, numM, shapeM]; done))
 let E2 : EL := E1 ++ [tC (neOf h2)]
 by_cases h9 : w = 16
 ·subst h9
  rcases bft (needM false src base false) with h10 | h10
  ·have c11 := @rex_yes_ok src base s0 s1 b0 b1 false false h10
   generalize g13 : rexB false src base = r12 at c11
   rcases bft (decide (base % 8 = 4)) with h14 | h14
   ·have c15 := @mMem_4_ok src base disp s0 s1 b0 b1 p0 p1 h14
    exact (o21 (d := .tup [.lst (.fresh 1) 1 [.int .u8 102, .int .u8 r12, .int .u8 137, .int .u8 (128 + 8 * (src % 8) + base % 8), .int .u8 36, .int .u8 (disp % 256), .int .u8 (disp / 256 % 256), .int .u8 (disp / 65536 % 256), .int .u8 (disp / 16777216 % 256)], .int .i64 0]) (E2 ++ [tT, .ret _ _ _ c11, .inl, .ret _ _ _ c15, .inl, .go 64, tT, tT, .get ([.lst .tight 1 [.int .u8 102], .lst .tight 1 [.int .u8 r12], .lst .tight 1 [.int .u8 137], .lst .no 1 [.int .u8 (128 + 8 * (src % 8) + base % 8), .int .u8 36, .int .u8 (disp % 256), .int .u8 (disp / 256 % 256), .int .u8 (disp / 65536 % 256), .int .u8 (disp / 16777216 % 256)]]) 0 (.lst .tight 1 [.int .u8 102]) rfl, .len 1 2147483648 (by decide), tT, tT, .get ([.lst .tight 1 [.int .u8 102], .lst .tight 1 [.int .u8 r12], .lst .tight 1 [.int .u8 137], .lst .no 1 [.int .u8 (128 + 8 * (src % 8) + base % 8), .int .u8 36, .int .u8 (disp % 256), .int .u8 (disp / 256 % 256), .int .u8 (disp / 65536 % 256), .int .u8 (disp / 16777216 % 256)]]) 1 (.lst .tight 1 [.int .u8 r12]) rfl, .len 2 2147483648 (by decide), tT, tT, .get ([.lst .tight 1 [.int .u8 102], .lst .tight 1 [.int .u8 r12], .lst .tight 1 [.int .u8 137], .lst .no 1 [.int .u8 (128 + 8 * (src % 8) + base % 8), .int .u8 36, .int .u8 (disp % 256), .int .u8 (disp / 256 % 256), .int .u8 (disp / 65536 % 256), .int .u8 (disp / 16777216 % 256)]]) 2 (.lst .tight 1 [.int .u8 137]) rfl, .len 3 2147483648 (by decide), tT, tT, .get ([.lst .tight 1 [.int .u8 102], .lst .tight 1 [.int .u8 r12], .lst .tight 1 [.int .u8 137], .lst .no 1 [.int .u8 (128 + 8 * (src % 8) + base % 8), .int .u8 36, .int .u8 (disp % 256), .int .u8 (disp / 256 % 256), .int .u8 (disp / 65536 % 256), .int .u8 (disp / 16777216 % 256)]]) 3 (.lst .no 1 [.int .u8 (128 + 8 * (src % 8) + base % 8), .int .u8 36, .int .u8 (disp % 256), .int .u8 (disp / 256 % 256), .int .u8 (disp / 65536 % 256), .int .u8 (disp / 16777216 % 256)]) rfl, .len 9 2147483648 (by decide), tF]) (by kernel_rfl)).to (by clear E1 E2; (subst_vars; (try simp only [beq_dec] at *); (try simp only [beq_iff_eq] at h); (try simp only [decide_eq_true_eq, decide_eq_false_iff_not] at *); simp_all [wk, wkL, wkO, bytesM, bD, rexM, memM, fourM, w_u8, needM, codeM, numM, shapeM]; done))
   have c16 := @mMem_n_ok src base disp s0 s1 b0 b1 p0 p1 h14
   exact (o21 (d := .tup [.lst (.fresh 1) 1 [.int .u8 102, .int .u8 r12, .int .u8 137, .int .u8 (128 + 8 * (src % 8) + base % 8), .int .u8 (disp % 256), .int .u8 (disp / 256 % 256), .int .u8 (disp / 65536 % 256), .int .u8 (disp / 16777216 % 256)], .int .i64 0]) (E2 ++ [tT, .ret _ _ _ c11, .inl, .ret _ _ _ c16, .inl, .go 64, tT, tT, .get ([.lst .tight 1 [.int .u8 102], .lst .tight 1 [.int .u8 r12], .lst .tight 1 [.int .u8 137], .lst .no 1 [.int .u8 (128 + 8 * (src % 8) + base % 8), .int .u8 (disp % 256), .int .u8 (disp / 256 % 256), .int .u8 (disp / 65536 % 256), .int .u8 (disp / 16777216 % 256)]]) 0 (.lst .tight 1 [.int .u8 102]) rfl, .len 1 2147483648 (by decide), tT, tT, .get ([.lst .tight 1 [.int .u8 102], .lst .tight 1 [.int .u8 r12], .lst .tight 1 [.int .u8 137], .lst .no 1 [.int .u8 (128 + 8 * (src % 8) + base % 8), .int .u8 (disp % 256), .int .u8 (disp / 256 % 256), .int .u8 (disp / 65536 % 256), .int .u8 (disp / 16777216 % 256)]]) 1 (.lst .tight 1 [.int .u8 r12]) rfl, .len 2 2147483648 (by decide), tT, tT, .get ([.lst .tight 1 [.int .u8 102], .lst .tight 1 [.int .u8 r12], .lst .tight 1 [.int .u8 137], .lst .no 1 [.int .u8 (128 + 8 * (src % 8) + base % 8), .int .u8 (disp % 256), .int .u8 (disp / 256 % 256), .int .u8 (disp / 65536 % 256), .int .u8 (disp / 16777216 % 256)]]) 2 (.lst .tight 1 [.int .u8 137]) rfl, .len 3 2147483648 (by decide), tT, tT, .get ([.lst .tight 1 [.int .u8 102], .lst .tight 1 [.int .u8 r12], .lst .tight 1 [.int .u8 137], .lst .no 1 [.int .u8 (128 + 8 * (src % 8) + base % 8), .int .u8 (disp % 256), .int .u8 (disp / 256 % 256), .int .u8 (disp / 65536 % 256), .int .u8 (disp / 16777216 % 256)]]) 3 (.lst .no 1 [.int .u8 (128 + 8 * (src % 8) + base % 8), .int .u8 (disp % 256), .int .u8 (disp / 256 % 256), .int .u8 (disp / 65536 % 256), .int .u8 (disp / 16777216 % 256)]) rfl, .len 8 2147483648 (by decide), tF]) (by kernel_rfl)).to (by clear E1 E2; (subst_vars; (try simp only [beq_dec] at *); (try simp only [beq_iff_eq] at h); (try simp only [decide_eq_true_eq, decide_eq_false_iff_not] at *); simp_all [wk, wkL, wkO, bytesM, bD, rexM, memM, fourM, w_u8, needM, codeM, numM, shapeM]; done))
  have c17 := @rex_no_ok src base s0 s1 b0 b1 false false h10
  rcases bft (decide (base % 8 = 4)) with h18 | h18
  ·have c19 := @mMem_4_ok src base disp s0 s1 b0 b1 p0 p1 h18
   exact (o21 (d := .tup [.lst (.fresh 1) 1 [.int .u8 102, .int .u8 137, .int .u8 (128 + 8 * (src % 8) + base % 8), .int .u8 36, .int .u8 (disp % 256), .int .u8 (disp / 256 % 256), .int .u8 (disp / 65536 % 256), .int .u8 (disp / 16777216 % 256)], .int .i64 0]) (E2 ++ [tT, .ret _ _ _ c17, .inl, .ret _ _ _ c19, .inl, .go 64, tT, tT, .get ([.lst .tight 1 [.int .u8 102], .lst .tight 1 [], .lst .tight 1 [.int .u8 137], .lst .no 1 [.int .u8 (128 + 8 * (src % 8) + base % 8), .int .u8 36, .int .u8 (disp % 256), .int .u8 (disp / 256 % 256), .int .u8 (disp / 65536 % 256), .int .u8 (disp / 16777216 % 256)]]) 0 (.lst .tight 1 [.int .u8 102]) rfl, .len 1 2147483648 (by decide), tT, tT, .get ([.lst .tight 1 [.int .u8 102], .lst .tight 1 [], .lst .tight 1 [.int .u8 137], .lst .no 1 [.int .u8 (128 + 8 * (src % 8) + base % 8), .int .u8 36, .int .u8 (disp % 256), .int .u8 (disp / 256 % 256), .int .u8 (disp / 65536 % 256), .int .u8 (disp / 16777216 % 256)]]) 1 (.lst .tight 1 []) rfl, .len 1 2147483648 (by decide), tT, tT, .get ([.lst .tight 1 [.int .u8 102], .lst .tight 1 [], .lst .tight 1 [.int .u8 137], .lst .no 1 [.int .u8 (128 + 8 * (src % 8) + base % 8), .int .u8 36, .int .u8 (disp % 256), .int .u8 (disp / 256 % 256), .int .u8 (disp / 65536 % 256), .int .u8 (disp / 16777216 % 256)]]) 2 (.lst .tight 1 [.int .u8 137]) rfl, .len 2 2147483648 (by decide), tT, tT, .get ([.lst .tight 1 [.int .u8 102], .lst .tight 1 [], .lst .tight 1 [.int .u8 137], .lst .no 1 [.int .u8 (128 + 8 * (src % 8) + base % 8), .int .u8 36, .int .u8 (disp % 256), .int .u8 (disp / 256 % 256), .int .u8 (disp / 65536 % 256), .int .u8 (disp / 16777216 % 256)]]) 3 (.lst .no 1 [.int .u8 (128 + 8 * (src % 8) + base % 8), .int .u8 36, .int .u8 (disp % 256), .int .u8 (disp / 256 % 256), .int .u8 (disp / 65536 % 256), .int .u8 (disp / 16777216 % 256)]) rfl, .len 8 2147483648 (by decide), tF]) (by kernel_rfl)).to (by clear E1 E2; (subst_vars; (try simp only [beq_dec] at *); (try simp only [beq_iff_eq] at h); (try simp only [decide_eq_true_eq, decide_eq_false_iff_not] at *); simp_all [wk, wkL, wkO, bytesM, bD, rexM, memM, fourM, w_u8, needM, codeM, numM, shapeM]; done))
  have c20 := @mMem_n_ok src base disp s0 s1 b0 b1 p0 p1 h18
  exact (o21 (d := .tup [.lst (.fresh 1) 1 [.int .u8 102, .int .u8 137, .int .u8 (128 + 8 * (src % 8) + base % 8), .int .u8 (disp % 256), .int .u8 (disp / 256 % 256), .int .u8 (disp / 65536 % 256), .int .u8 (disp / 16777216 % 256)], .int .i64 0]) (E2 ++ [tT, .ret _ _ _ c17, .inl, .ret _ _ _ c20, .inl, .go 64, tT, tT, .get ([.lst .tight 1 [.int .u8 102], .lst .tight 1 [], .lst .tight 1 [.int .u8 137], .lst .no 1 [.int .u8 (128 + 8 * (src % 8) + base % 8), .int .u8 (disp % 256), .int .u8 (disp / 256 % 256), .int .u8 (disp / 65536 % 256), .int .u8 (disp / 16777216 % 256)]]) 0 (.lst .tight 1 [.int .u8 102]) rfl, .len 1 2147483648 (by decide), tT, tT, .get ([.lst .tight 1 [.int .u8 102], .lst .tight 1 [], .lst .tight 1 [.int .u8 137], .lst .no 1 [.int .u8 (128 + 8 * (src % 8) + base % 8), .int .u8 (disp % 256), .int .u8 (disp / 256 % 256), .int .u8 (disp / 65536 % 256), .int .u8 (disp / 16777216 % 256)]]) 1 (.lst .tight 1 []) rfl, .len 1 2147483648 (by decide), tT, tT, .get ([.lst .tight 1 [.int .u8 102], .lst .tight 1 [], .lst .tight 1 [.int .u8 137], .lst .no 1 [.int .u8 (128 + 8 * (src % 8) + base % 8), .int .u8 (disp % 256), .int .u8 (disp / 256 % 256), .int .u8 (disp / 65536 % 256), .int .u8 (disp / 16777216 % 256)]]) 2 (.lst .tight 1 [.int .u8 137]) rfl, .len 2 2147483648 (by decide), tT, tT, .get ([.lst .tight 1 [.int .u8 102], .lst .tight 1 [], .lst .tight 1 [.int .u8 137], .lst .no 1 [.int .u8 (128 + 8 * (src % 8) + base % 8), .int .u8 (disp % 256), .int .u8 (disp / 256 % 256), .int .u8 (disp / 65536 % 256), .int .u8 (disp / 16777216 % 256)]]) 3 (.lst .no 1 [.int .u8 (128 + 8 * (src % 8) + base % 8), .int .u8 (disp % 256), .int .u8 (disp / 256 % 256), .int .u8 (disp / 65536 % 256), .int .u8 (disp / 16777216 % 256)]) rfl, .len 7 2147483648 (by decide), tF]) (by kernel_rfl)).to (by clear E1 E2; (subst_vars; (try simp only [beq_dec] at *); (try simp only [beq_iff_eq] at h); (try simp only [decide_eq_true_eq, decide_eq_false_iff_not] at *); simp_all [wk, wkL, wkO, bytesM, bD, rexM, memM, fourM, w_u8, needM, codeM, numM, shapeM]; done))
 rcases bft (needM (w == 64) src base (w == 8)) with h21 | h21
 ·have c22 := @rex_yes_ok src base s0 s1 b0 b1 (w == 64) (w == 8) h21
  generalize g24 : rexB (w == 64) src base = r23 at c22
  rcases bft (decide (base % 8 = 4)) with h25 | h25
  ·have c26 := @mMem_4_ok src base disp s0 s1 b0 b1 p0 p1 h25
   exact (o21 (d := .tup [.lst (.fresh 1) 1 [.int .u8 r23, .int .u8 137, .int .u8 (128 + 8 * (src % 8) + base % 8), .int .u8 36, .int .u8 (disp % 256), .int .u8 (disp / 256 % 256), .int .u8 (disp / 65536 % 256), .int .u8 (disp / 16777216 % 256)], .int .i64 0]) (E2 ++ [tC (neOf h9), .ret _ _ _ c22, .inl, .ret _ _ _ c26, .inl, .go 64, tT, tT, .get ([.lst .tight 0 [], .lst .tight 1 [.int .u8 r23], .lst .tight 1 [.int .u8 137], .lst .no 1 [.int .u8 (128 + 8 * (src % 8) + base % 8), .int .u8 36, .int .u8 (disp % 256), .int .u8 (disp / 256 % 256), .int .u8 (disp / 65536 % 256), .int .u8 (disp / 16777216 % 256)]]) 0 (.lst .tight 0 []) rfl, .len 0 2147483648 (by decide), tT, tT, .get ([.lst .tight 0 [], .lst .tight 1 [.int .u8 r23], .lst .tight 1 [.int .u8 137], .lst .no 1 [.int .u8 (128 + 8 * (src % 8) + base % 8), .int .u8 36, .int .u8 (disp % 256), .int .u8 (disp / 256 % 256), .int .u8 (disp / 65536 % 256), .int .u8 (disp / 16777216 % 256)]]) 1 (.lst .tight 1 [.int .u8 r23]) rfl, .len 1 2147483648 (by decide), tT, tT, .get ([.lst .tight 0 [], .lst .tight 1 [.int .u8 r23], .lst .tight 1 [.int .u8 137], .lst .no 1 [.int .u8 (128 + 8 * (src % 8) + base % 8), .int .u8 36, .int .u8 (disp % 256), .int .u8 (disp / 256 % 256), .int .u8 (disp / 65536 % 256), .int .u8 (disp / 16777216 % 256)]]) 2 (.lst .tight 1 [.int .u8 137]) rfl, .len 2 2147483648 (by decide), tT, tT, .get ([.lst .tight 0 [], .lst .tight 1 [.int .u8 r23], .lst .tight 1 [.int .u8 137], .lst .no 1 [.int .u8 (128 + 8 * (src % 8) + base % 8), .int .u8 36, .int .u8 (disp % 256), .int .u8 (disp / 256 % 256), .int .u8 (disp / 65536 % 256), .int .u8 (disp / 16777216 % 256)]]) 3 (.lst .no 1 [.int .u8 (128 + 8 * (src % 8) + base % 8), .int .u8 36, .int .u8 (disp % 256), .int .u8 (disp / 256 % 256), .int .u8 (disp / 65536 % 256), .int .u8 (disp / 16777216 % 256)]) rfl, .len 8 2147483648 (by decide), tF]) (by kernel_rfl)).to (by clear E1 E2; (subst_vars; (try simp only [beq_dec] at *); (try simp only [beq_iff_eq] at h); (try simp only [decide_eq_true_eq, decide_eq_false_iff_not] at *); simp_all [wk, wkL, wkO, bytesM, bD, rexM, memM, fourM, w_u8, needM, codeM, numM, shapeM]; done))
  have c27 := @mMem_n_ok src base disp s0 s1 b0 b1 p0 p1 h25
  exact (o21 (d := .tup [.lst (.fresh 1) 1 [.int .u8 r23, .int .u8 137, .int .u8 (128 + 8 * (src % 8) + base % 8), .int .u8 (disp % 256), .int .u8 (disp / 256 % 256), .int .u8 (disp / 65536 % 256), .int .u8 (disp / 16777216 % 256)], .int .i64 0]) (E2 ++ [tC (neOf h9), .ret _ _ _ c22, .inl, .ret _ _ _ c27, .inl, .go 64, tT, tT, .get ([.lst .tight 0 [], .lst .tight 1 [.int .u8 r23], .lst .tight 1 [.int .u8 137], .lst .no 1 [.int .u8 (128 + 8 * (src % 8) + base % 8), .int .u8 (disp % 256), .int .u8 (disp / 256 % 256), .int .u8 (disp / 65536 % 256), .int .u8 (disp / 16777216 % 256)]]) 0 (.lst .tight 0 []) rfl, .len 0 2147483648 (by decide), tT, tT, .get ([.lst .tight 0 [], .lst .tight 1 [.int .u8 r23], .lst .tight 1 [.int .u8 137], .lst .no 1 [.int .u8 (128 + 8 * (src % 8) + base % 8), .int .u8 (disp % 256), .int .u8 (disp / 256 % 256), .int .u8 (disp / 65536 % 256), .int .u8 (disp / 16777216 % 256)]]) 1 (.lst .tight 1 [.int .u8 r23]) rfl, .len 1 2147483648 (by decide), tT, tT, .get ([.lst .tight 0 [], .lst .tight 1 [.int .u8 r23], .lst .tight 1 [.int .u8 137], .lst .no 1 [.int .u8 (128 + 8 * (src % 8) + base % 8), .int .u8 (disp % 256), .int .u8 (disp / 256 % 256), .int .u8 (disp / 65536 % 256), .int .u8 (disp / 16777216 % 256)]]) 2 (.lst .tight 1 [.int .u8 137]) rfl, .len 2 2147483648 (by decide), tT, tT, .get ([.lst .tight 0 [], .lst .tight 1 [.int .u8 r23], .lst .tight 1 [.int .u8 137], .lst .no 1 [.int .u8 (128 + 8 * (src % 8) + base % 8), .int .u8 (disp % 256), .int .u8 (disp / 256 % 256), .int .u8 (disp / 65536 % 256), .int .u8 (disp / 16777216 % 256)]]) 3 (.lst .no 1 [.int .u8 (128 + 8 * (src % 8) + base % 8), .int .u8 (disp % 256), .int .u8 (disp / 256 % 256), .int .u8 (disp / 65536 % 256), .int .u8 (disp / 16777216 % 256)]) rfl, .len 7 2147483648 (by decide), tF]) (by kernel_rfl)).to (by clear E1 E2; (subst_vars; (try simp only [beq_dec] at *); (try simp only [beq_iff_eq] at h); (try simp only [decide_eq_true_eq, decide_eq_false_iff_not] at *); simp_all [wk, wkL, wkO, bytesM, bD, rexM, memM, fourM, w_u8, needM, codeM, numM, shapeM]; done))
 have c28 := @rex_no_ok src base s0 s1 b0 b1 (w == 64) (w == 8) h21
 rcases bft (decide (base % 8 = 4)) with h29 | h29
 ·have c30 := @mMem_4_ok src base disp s0 s1 b0 b1 p0 p1 h29
  exact (o21 (d := .tup [.lst (.fresh 1) 1 [.int .u8 137, .int .u8 (128 + 8 * (src % 8) + base % 8), .int .u8 36, .int .u8 (disp % 256), .int .u8 (disp / 256 % 256), .int .u8 (disp / 65536 % 256), .int .u8 (disp / 16777216 % 256)], .int .i64 0]) (E2 ++ [tC (neOf h9), .ret _ _ _ c28, .inl, .ret _ _ _ c30, .inl, .go 64, tT, tT, .get ([.lst .tight 0 [], .lst .tight 1 [], .lst .tight 1 [.int .u8 137], .lst .no 1 [.int .u8 (128 + 8 * (src % 8) + base % 8), .int .u8 36, .int .u8 (disp % 256), .int .u8 (disp / 256 % 256), .int .u8 (disp / 65536 % 256), .int .u8 (disp / 16777216 % 256)]]) 0 (.lst .tight 0 []) rfl, .len 0 2147483648 (by decide), tT, tT, .get ([.lst .tight 0 [], .lst .tight 1 [], .lst .tight 1 [.int .u8 137], .lst .no 1 [.int .u8 (128 + 8 * (src % 8) + base % 8), .int .u8 36, .int .u8 (disp % 256), .int .u8 (disp / 256 % 256), .int .u8 (disp / 65536 % 256), .int .u8 (disp / 16777216 % 256)]]) 1 (.lst .tight 1 []) rfl, .len 0 2147483648 (by decide), tT, tT, .get ([.lst .tight 0 [], .lst .tight 1 [], .lst .tight 1 [.int .u8 137], .lst .no 1 [.int .u8 (128 + 8 * (src % 8) + base % 8), .int .u8 36, .int .u8 (disp % 256), .int .u8 (disp / 256 % 256), .int .u8 (disp / 65536 % 256), .int .u8 (disp / 16777216 % 256)]]) 2 (.lst .tight 1 [.int .u8 137]) rfl, .len 1 2147483648 (by decide), tT, tT, .get ([.lst .tight 0 [], .lst .tight 1 [], .lst .tight 1 [.int .u8 137], .lst .no 1 [.int .u8 (128 + 8 * (src % 8) + base % 8), .int .u8 36, .int .u8 (disp % 256), .int .u8 (disp / 256 % 256), .int .u8 (disp / 65536 % 256), .int .u8 (disp / 16777216 % 256)]]) 3 (.lst .no 1 [.int .u8 (128 + 8 * (src % 8) + base % 8), .int .u8 36, .int .u8 (disp % 256), .int .u8 (disp / 256 % 256), .int .u8 (disp / 65536 % 256), .int .u8 (disp / 16777216 % 256)]) rfl, .len 7 2147483648 (by decide), tF]) (by kernel_rfl)).to (by clear E1 E2; (subst_vars; (try simp only [beq_dec] at *); (try simp only [beq_iff_eq] at h); (try simp only [decide_eq_true_eq, decide_eq_false_iff_not] at *); simp_all [wk, wkL, wkO, bytesM, bD, rexM, memM, fourM, w_u8, needM, codeM, numM, shapeM]; done))
 have c31 := @mMem_n_ok src base disp s0 s1 b0 b1 p0 p1 h29
 exact (o21 (d := .tup [.lst (.fresh 1) 1 [.int .u8 137, .int .u8 (128 + 8 * (src % 8) + base % 8), .int .u8 (disp % 256), .int .u8 (disp / 256 % 256), .int .u8 (disp / 65536 % 256), .int .u8 (disp / 16777216 % 256)], .int .i64 0]) (E2 ++ [tC (neOf h9), .ret _ _ _ c28, .inl, .ret _ _ _ c31, .inl, .go 64, tT, tT, .get ([.lst .tight 0 [], .lst .tight 1 [], .lst .tight 1 [.int .u8 137], .lst .no 1 [.int .u8 (128 + 8 * (src % 8) + base % 8), .int .u8 (disp % 256), .int .u8 (disp / 256 % 256), .int .u8 (disp / 65536 % 256), .int .u8 (disp / 16777216 % 256)]]) 0 (.lst .tight 0 []) rfl, .len 0 2147483648 (by decide), tT, tT, .get ([.lst .tight 0 [], .lst .tight 1 [], .lst .tight 1 [.int .u8 137], .lst .no 1 [.int .u8 (128 + 8 * (src % 8) + base % 8), .int .u8 (disp % 256), .int .u8 (disp / 256 % 256), .int .u8 (disp / 65536 % 256), .int .u8 (disp / 16777216 % 256)]]) 1 (.lst .tight 1 []) rfl, .len 0 2147483648 (by decide), tT, tT, .get ([.lst .tight 0 [], .lst .tight 1 [], .lst .tight 1 [.int .u8 137], .lst .no 1 [.int .u8 (128 + 8 * (src % 8) + base % 8), .int .u8 (disp % 256), .int .u8 (disp / 256 % 256), .int .u8 (disp / 65536 % 256), .int .u8 (disp / 16777216 % 256)]]) 2 (.lst .tight 1 [.int .u8 137]) rfl, .len 1 2147483648 (by decide), tT, tT, .get ([.lst .tight 0 [], .lst .tight 1 [], .lst .tight 1 [.int .u8 137], .lst .no 1 [.int .u8 (128 + 8 * (src % 8) + base % 8), .int .u8 (disp % 256), .int .u8 (disp / 256 % 256), .int .u8 (disp / 65536 % 256), .int .u8 (disp / 16777216 % 256)]]) 3 (.lst .no 1 [.int .u8 (128 + 8 * (src % 8) + base % 8), .int .u8 (disp % 256), .int .u8 (disp / 256 % 256), .int .u8 (disp / 65536 % 256), .int .u8 (disp / 16777216 % 256)]) rfl, .len 6 2147483648 (by decide), tF]) (by kernel_rfl)).to (by clear E1 E2; (subst_vars; (try simp only [beq_dec] at *); (try simp only [beq_iff_eq] at h); (try simp only [decide_eq_true_eq, decide_eq_false_iff_not] at *); simp_all [wk, wkL, wkO, bytesM, bD, rexM, memM, fourM, w_u8, needM, codeM, numM, shapeM]; done))
end Go.Proofs.Ytcngafhpodeenaa

namespace Go.Proofs.Ytcngafhpodeenaa
open Go Go.Ev
set_option maxRecDepth 100000
set_option maxHeartbeats 8000000
def SpXB2e0 (k0_ : Int) : Prop := ∀ (w dst src base disp imm cc : Int) (d0 : 0 ≤ dst) (d1 : dst ≤ 15) (s0 : 0 ≤ src) (s1 : src ≤ 15) (b0 : 0 ≤ base) (b1 : base ≤ 15) (p0 : -2147483648 ≤ disp) (p1 : disp ≤ 2147483647) (i0 : -2147483648 ≤ imm) (i1 : imm ≤ 2147483647) (c0 : 0 ≤ cc) (c1 : cc ≤ 15) (hm : mayX k0_ w dst src base disp imm cc = true), Ret Try.prog 21 ([xD k0_ w dst src base disp imm cc]) (.tup [.lst .no 1 (bD (bytesM k0_ w dst src base disp imm cc)), .int .i64 0])
theorem bytesO_28_ok : SpXB2e0 28 := by
 intro w dst src base disp imm cc d0 d1 s0 s1 b0 b1 p0 p1 i0 i1 c0 c1 hm
 have c0 := @mayX_ok 28 w dst src base disp imm cc (by decide)
 rw [show (mayX 28 w dst src base disp imm cc) = true from hm] at c0
 have c1 := @of_any_ok 28 (by decide)
 by_cases h2 : w = 8
 ·subst h2
  exact (o21 (d := .tup [.lst .tight 1 [.int .u8 235, .int .u8 (IntKind.wrap IntKind.u8 imm)], .int .i64 0]) ([.ret _ _ _ c0, tF, .ret _ _ _ c1] ++ List.replicate 8 tF ++ [tT, tT]) (by kernel_rfl)).to (by (subst_vars; (try simp only [beq_dec] at *); (try simp only [beq_iff_eq] at h); (try simp only [decide_eq_true_eq, decide_eq_false_iff_not] at *); simp_all [wk, wkL, wkO, bytesM, show shapeM 28 = 9 from rfl, bD, rexM, memM, fourM, w_u8]; done))
 have c3 := @four_ok imm
 exact (o21 (d := .tup [.lst (.fresh 1) 1 [.int .u8 233, .int .u8 (imm % 256), .int .u8 (imm / 256 % 256), .int .u8 (imm / 65536 % 256), .int .u8 (imm / 16777216 % 256)], .int .i64 0]) ([.ret _ _ _ c0, tF, .ret _ _ _ c1] ++ List.replicate 8 tF ++ [tT, tC (neOf h2), .ret _ _ _ c3, .inl, .go 64, tT, tT, .get ([.lst .tight 1 [.int .u8 233], .lst .no 1 [.int .u8 (imm % 256), .int .u8 (imm / 256 % 256), .int .u8 (imm / 65536 % 256), .int .u8 (imm / 16777216 % 256)]]) 0 (.lst .tight 1 [.int .u8 233]) rfl, .len 1 2147483648 (by decide), tT, tT, .get ([.lst .tight 1 [.int .u8 233], .lst .no 1 [.int .u8 (imm % 256), .int .u8 (imm / 256 % 256), .int .u8 (imm / 65536 % 256), .int .u8 (imm / 16777216 % 256)]]) 1 (.lst .no 1 [.int .u8 (imm % 256), .int .u8 (imm / 256 % 256), .int .u8 (imm / 65536 % 256), .int .u8 (imm / 16777216 % 256)]) rfl, .len 5 2147483648 (by decide), tF]) (by kernel_rfl)).to (by (subst_vars; (try simp only [beq_dec] at *); (try simp only [beq_iff_eq] at h); (try simp only [decide_eq_true_eq, decide_eq_false_iff_not] at *); simp_all [wk, wkL, wkO, bytesM, show shapeM 28 = 9 from rfl, bD, rexM, memM, fourM, w_u8]; done))
theorem bytesO_29_ok : SpXB2e0 29 := by
 intro w dst src base disp imm cc d0 d1 s0 s1 b0 b1 p0 p1 i0 i1 c0 c1 hm
 have c0 := @mayX_ok 29 w dst src base disp imm cc (by decide)
 rw [show (mayX 29 w dst src base disp imm cc) = true from hm] at c0
 have c1 := @of_any_ok 29 (by decide)
 by_cases h2 : w = 8
 ·subst h2
  exact (o21 (d := .tup [.lst .tight 1 [.int .u8 (IntKind.wrap IntKind.u8 (112 + IntKind.wrap IntKind.u8 cc)), .int .u8 (IntKind.wrap IntKind.u8 imm)], .int .i64 0]) ([.ret _ _ _ c0, tF, .ret _ _ _ c1] ++ List.replicate 9 tF ++ [tT, tT]) (by kernel_rfl)).to (by (subst_vars; (try simp only [beq_dec] at *); (try simp only [beq_iff_eq] at h); (try simp only [decide_eq_true_eq, decide_eq_false_iff_not] at *); simp_all [wk, wkL, wkO, bytesM, show shapeM 29 = 10 from rfl, bD, rexM, memM, fourM, w_u8]; omega))
 have c3 := @four_ok imm
 exact (o21 (d := .tup [.lst (.fresh 1) 1 [.int .u8 15, .int .u8 (IntKind.wrap IntKind.u8 (128 + IntKind.wrap IntKind.u8 cc)), .int .u8 (imm % 256), .int .u8 (imm / 256 % 256), .int .u8 (imm / 65536 % 256), .int .u8 (imm / 16777216 % 256)], .int .i64 0]) ([.ret _ _ _ c0, tF, .ret _ _ _ c1] ++ List.replicate 9 tF ++ [tT, tC (neOf h2), .ret _ _ _ c3, .inl, .go 64, tT, tT, .get ([.lst .tight 1 [.int .u8 15, .int .u8 (IntKind.wrap IntKind.u8 (128 + IntKind.wrap IntKind.u8 cc))], .lst .no 1 [.int .u8 (imm % 256), .int .u8 (imm / 256 % 256), .int .u8 (imm / 65536 % 256), .int .u8 (imm / 16777216 % 256)]]) 0 (.lst .tight 1 [.int .u8 15, .int .u8 (IntKind.wrap IntKind.u8 (128 + IntKind.wrap IntKind.u8 cc))]) rfl, .len 2 2147483648 (by decide), tT, tT, .get ([.lst .tight 1 [.int .u8 15, .int .u8 (IntKind.wrap IntKind.u8 (128 + IntKind.wrap IntKind.u8 cc))], .lst .no 1 [.int .u8 (imm % 256), .int .u8 (imm / 256 % 256), .int .u8 (imm / 65536 % 256), .int .u8 (imm / 16777216 % 256)]]) 1 (.lst .no 1 [.int .u8 (imm % 256), .int .u8 (imm / 256 % 256), .int .u8 (imm / 65536 % 256), .int .u8 (imm / 16777216 % 256)]) rfl, .len 6 2147483648 (by decide), tF]) (by kernel_rfl)).to (by (subst_vars; (try simp only [beq_dec] at *); (try simp only [beq_iff_eq] at h); (try simp only [decide_eq_true_eq, decide_eq_false_iff_not] at *); simp_all [wk, wkL, wkO, bytesM, show shapeM 29 = 10 from rfl, bD, rexM, memM, fourM, w_u8]; omega))
theorem bytesO_30_ok : SpXB2e0 30 := by
 intro w dst src base disp imm cc d0 d1 s0 s1 b0 b1 p0 p1 i0 i1 c0 c1 hm
 have c0 := @mayX_ok 30 w dst src base disp imm cc (by decide)
 rw [show (mayX 30 w dst src base disp imm cc) = true from hm] at c0
 have c1 := @of_any_ok 30 (by decide)
 exact (o21 (d := .tup [.lst .tight 1 [.int .u8 195], .int .i64 0]) ([.ret _ _ _ c0, tF, .ret _ _ _ c1] ++ List.replicate 11 tF) (by kernel_rfl)).to (by (subst_vars; (try simp only [beq_dec] at *); (try simp only [beq_iff_eq] at h); (try simp only [decide_eq_true_eq, decide_eq_false_iff_not] at *); simp_all [wk, wkL, wkO, bytesM, show shapeM 30 = 11 from rfl, bD, rexM, memM, fourM, w_u8]; done))
theorem bytesO_31_ok : SpXB2e0 31 := by
 intro w dst src base disp imm cc d0 d1 s0 s1 b0 b1 p0 p1 i0 i1 c0 c1 hm
 have c0 := @mayX_ok 31 w dst src base disp imm cc (by decide)
 rw [show (mayX 31 w dst src base disp imm cc) = true from hm] at c0
 have c1 := @of_any_ok 31 (by decide)
 exact (o21 (d := .tup [.lst .tight 1 [.int .u8 15, .int .u8 5], .int .i64 0]) ([.ret _ _ _ c0, tF, .ret _ _ _ c1] ++ List.replicate 10 tF ++ [tT]) (by kernel_rfl)).to (by (subst_vars; (try simp only [beq_dec] at *); (try simp only [beq_iff_eq] at h); (try simp only [decide_eq_true_eq, decide_eq_false_iff_not] at *); simp_all [wk, wkL, wkO, bytesM, show shapeM 31 = 11 from rfl, bD, rexM, memM, fourM, w_u8]; done))
end Go.Proofs.Ytcngafhpodeenaa

namespace Go.Proofs.Ytcngafhpodeenaa
open Go Go.Ev
theorem num_range (op : Int) : 0 ≤ numM op ∧ numM op ≤ 7 := by
 unfold numM
 repeat' split
 all_goals omega
theorem mayX_cc {op w dst src base disp imm cc : Int} (h : mayX op w dst src base disp imm cc = true) : 0 ≤ cc ∧ cc ≤ 15 := by
 have hs := (mayX_parts h).2
 unfold mayS at hs
 repeat' split at hs
 all_goals first | (cases hs; done) | (simp only [ccM, Bool.and_eq_true, decide_eq_true_eq] at hs; omega)
theorem bytes_may_ok (op w dst src base disp imm cc : Int) (ho : op ≤ 127) (hm : mayX op w dst src base disp imm cc = true) :
  Ret Try.prog 21 [xD op w dst src base disp imm cc] (.tup [.lst .no 1 (bD (bytesM op w dst src base disp imm cc)), .int .i64 0]) := by
 obtain ⟨⟨d0, d1, s0, s1, b0, b1, p0, p1, i0, i1⟩, hs⟩ := mayX_parts hm
 obtain ⟨c0, c1⟩ := mayX_cc hm
 obtain ⟨n0, n1⟩ := num_range op
 have hsh : shapeM op ≠ 0 := by
  intro e
  rw [e] at hs
  simp [mayS] at hs
 obtain ⟨k, e⟩ := op_fin hsh
 have hin : decide (0 ≤ op ∧ op ≤ 31) = true := by rw [e]; simp; omega
 have hr := shape_range k
 rw [← e] at hr
 rcases hr with h | h | h | h | h | h | h | h | h | h | h
 ·exact bytes_1_ok _ _ _ _ _ _ _ _ ho d0 d1 s0 s1 b0 b1 p0 p1 i0 i1 c0 c1 n0 n1 (by rw [h]; rfl) hin hm
 ·have e2 : op = 16 := by
   rw [e] at h ⊢
   revert h
   exact (by decide +kernel : ∀ n : Fin 32, shapeM (n.val : Int) = 2 → (n.val : Int) = 16) k
  subst e2
  exact bytesO_16_ok _ _ _ _ _ _ _ d0 d1 s0 s1 b0 b1 p0 p1 i0 i1 c0 c1 hm
 ·exact bytes_3_ok _ _ _ _ _ _ _ _ ho d0 d1 s0 s1 b0 b1 p0 p1 i0 i1 c0 c1 n0 n1 (by rw [h]; rfl) hin (long_cases (by rw [h] at hs; simp [mayS] at hs; exact hs.1)) hm
 ·exact bytes_4_ok _ _ _ _ _ _ _ _ ho d0 d1 s0 s1 b0 b1 p0 p1 i0 i1 c0 c1 n0 n1 (by rw [h]; rfl) hin hm
 ·exact bytes_5_ok _ _ _ _ _ _ _ _ ho d0 d1 s0 s1 b0 b1 p0 p1 i0 i1 c0 c1 n0 n1 (by rw [h]; rfl) hin hm
 ·have e2 : op = 25 := by rw [e] at h ⊢; exact shape_6 k h
  subst e2
  exact bytesO_25_ok _ _ _ _ _ _ _ d0 d1 s0 s1 b0 b1 p0 p1 i0 i1 c0 c1 hm
 ·have e2 : op = 26 := by rw [e] at h ⊢; exact shape_7 k h
  subst e2
  exact bytesO_26_ok _ _ _ _ _ _ _ d0 d1 s0 s1 b0 b1 p0 p1 i0 i1 c0 c1 hm
 ·have e2 : op = 27 := by rw [e] at h ⊢; exact shape_8 k h
  subst e2
  exact bytesO_27_ok _ _ _ _ _ _ _ d0 d1 s0 s1 b0 b1 p0 p1 i0 i1 c0 c1 hm
 ·have e2 : op = 28 := by rw [e] at h ⊢; exact shape_9 k h
  subst e2
  exact bytesO_28_ok _ _ _ _ _ _ _ d0 d1 s0 s1 b0 b1 p0 p1 i0 i1 c0 c1 hm
 ·have e2 : op = 29 := by rw [e] at h ⊢; exact shape_10 k h
  subst e2
  exact bytesO_29_ok _ _ _ _ _ _ _ d0 d1 s0 s1 b0 b1 p0 p1 i0 i1 c0 c1 hm
 ·rcases shape_11 k (by rw [e] at h; exact h) with e2 | e2
  ·rw [← e] at e2; subst e2
   exact bytesO_30_ok _ _ _ _ _ _ _ d0 d1 s0 s1 b0 b1 p0 p1 i0 i1 c0 c1 hm
  ·rw [← e] at e2; subst e2
   exact bytesO_31_ok _ _ _ _ _ _ _ d0 d1 s0 s1 b0 b1 p0 p1 i0 i1 c0 c1 hm
end Go.Proofs.Ytcngafhpodeenaa

namespace Go.Proofs.Ytcngafhpodeenaa
open Go Go.Ev
set_option maxRecDepth 100000
set_option maxHeartbeats 8000000
theorem bytes_no_ok (op w dst src base disp imm cc : Int) (ho : op ≤ 127) (hm : mayX op w dst src base disp imm cc = false) : Ret Try.prog 21 ([xD op w dst src base disp imm cc]) (.tup [.lst .no 1 [], .int .i64 2]) := by
 have c0 := @mayX_ok op w dst src base disp imm cc ho
 rw [show (mayX op w dst src base disp imm cc) = false from hm] at c0
 exact (o21 (d := .tup [.lst .tight 0 [], .int .i64 2]) [.ret _ _ _ c0, tT] (by kernel_rfl)).to (by simp [wk, wkL, wkO])
end Go.Proofs.Ytcngafhpodeenaa

namespace Go.Proofs.Ytcngafhpodeenaa
open Go Go.Ev
theorem bytes_any_ok (op w dst src base disp imm cc : Int) (ho : op ≤ 127) : Ret Try.prog 21 [xD op w dst src base disp imm cc] (.tup [.lst .no 1 (bytesL op w dst src base disp imm cc), .int .i64 (bytesE op w dst src base disp imm cc)]) := by
 unfold bytesL bytesE
 cases h : mayX op w dst src base disp imm cc
 ·exact bytes_no_ok op w dst src base disp imm cc ho h
 ·exact bytes_may_ok op w dst src base disp imm cc ho h
end Go.Proofs.Ytcngafhpodeenaa

namespace Go.Proofs.Ytcngafhpodeenaa
open Go Go.Ev
set_option maxRecDepth 100000
set_option maxHeartbeats 8000000
end Go.Proofs.Ytcngafhpodeenaa

namespace Go.Ev
open Go
structure RawS where
  w : Int
  long : Bool
  code : Int
  r : Int
  m : Int
  disp : Int
  imm : Int
  small : Int
  near : Int
  jump : Int
  high : Int
def pkM (b : List Int) (i : Nat) : Int := b.getD i 0
def tlM (b : List Int) (i : Nat) : Int := if b.length < i + 4 then 0 else rd4 (b.drop i)
def mrN (b : List Int) : Nat :=
  match b with
  | [] => 0
  | a :: t =>
    if a / 64 = 3 then 1
    else if a / 64 = 2 then
      if a % 8 = 4 then (if 5 ≤ t.length ∧ hd t = 36 then 6 else 0) else (if 4 ≤ t.length then 5 else 0)
    else 0
def mrR (b : List Int) : Int := if mrN b = 0 then 0 else hd b / 8 % 8
def mrB (b : List Int) : Int := if mrN b = 0 then 0 else hd b % 8
def mrD (b : List Int) : Int := if mrN b ≤ 1 then 0 else rd4 (b.drop (mrN b - 4))
def mrE (b : List Int) : Int := if mrN b = 0 then 30 else 0
def parRest (w regs high : Int) (long : Bool) (code : Int) (v : List Int) : RawS :=
  ⟨w, long, code, mrR v + regs, mrB v + high, mrD v, tlM v (mrN v), pkM v (mrN v), tlM v 0, signed1 (pkM v 0), high⟩
def parCode (w regs high : Int) : List Int → Option RawS
  | [] => none
  | c :: v => if c = 15 then (match v with | [] => some (parRest w regs high false 15 []) | d :: z => some (parRest w regs high true d z)) else some (parRest w regs high false c v)
def rexQ (h : Int) : Bool := decide (h / 16 = 4 ∧ h / 2 % 2 = 0)
def parRex (w : Int) : List Int → Option RawS
  | [] => none
  | h :: u => if rexQ h then parCode (if h / 8 % 2 = 1 then 64 else w) (h / 4 % 2 * 8) (h % 2 * 8) u else parCode w 0 0 (h :: u)
def parM (b : List Int) : Option RawS := if hd b = 102 then parRex 16 (b.drop 1) else parRex 32 b
def asS (s : RawS) (op sh : Int) : XS :=
  if sh = 1 then ⟨op, s.w, s.m, s.r, 0, 0, 0, 0⟩
  else if sh = 2 then ⟨op, s.w, s.r, s.m, 0, 0, 0, 0⟩
  else if sh = 3 then (if op = 1 ∧ 184 ≤ s.code ∧ s.code < 192 then ⟨op, s.w, s.code % 8 + s.high, 0, 0, 0, s.near, 0⟩ else ⟨op, s.w, s.m, 0, 0, 0, s.imm, 0⟩)
  else if sh = 4 then ⟨op, s.w, s.m, 0, 0, 0, s.small, 0⟩
  else if sh = 5 then ⟨op, s.w, s.m, 0, 0, 0, 0, 0⟩
  else if sh = 6 then ⟨op, s.w, s.r, s.m, 0, 0, 0, signed1 (s.code - codeM op)⟩
  else if sh = 7 then ⟨op, if s.long then (if s.code % 2 = 1 then 16 else 8) else s.w, s.r, 0, s.m, s.disp, 0, 0⟩
  else if sh = 8 then ⟨op, if s.code = 136 then 8 else s.w, 0, s.r, s.m, s.disp, 0, 0⟩
  else if sh = 9 ∨ sh = 10 then
    (if s.long = false ∧ s.code ≠ 233 then ⟨op, 8, 0, 0, 0, 0, s.jump, if sh = 10 then s.code % 16 else 0⟩ else ⟨op, 32, 0, 0, 0, 0, s.near, if sh = 10 then s.code % 16 else 0⟩)
  else if sh = 11 then ⟨op, 0, 0, 0, 0, 0, 0, 0⟩
  else ⟨op, s.w, 0, 0, 0, 0, 0, 0⟩
def asM (s : RawS) (op : Int) : XS := asS s op (shapeM op)
theorem parRex_rex {wide al : Bool} {r m c w : Int} {t : List Int} (r0 : 0 ≤ r) (r1 : r ≤ 15) (m0 : 0 ≤ m) (m1 : m ≤ 15) (hc : ¬ (64 ≤ c ∧ c ≤ 79)) : parRex w (rexM wide r m al ++ c :: t) = parCode (if wide then 64 else w) (8 * (r / 8)) (8 * (m / 8)) (c :: t) := by
 unfold rexM
 split
 ·simp only [List.cons_append, List.nil_append, parRex]
  have hq : rexQ (rexB wide r m) = true := by
   simp only [rexQ, rexB, decide_eq_true_eq]
   cases wide <;> simp <;> omega
  rw [if_pos hq]
  have h1 : rexB wide r m / 4 % 2 * 8 = 8 * (r / 8) := by simp only [rexB]; cases wide <;> simp <;> omega
  have h2 : rexB wide r m % 2 * 8 = 8 * (m / 8) := by simp only [rexB]; cases wide <;> simp <;> omega
  have h3 : (if rexB wide r m / 8 % 2 = 1 then (64 : Int) else w) = if wide then 64 else w := by
   have h4 : rexB wide r m / 8 % 2 = if wide then 1 else 0 := by simp only [rexB]; cases wide <;> simp <;> omega
   rw [h4]
   cases wide <;> simp
  rw [h1, h2, h3]
 ·rename_i h
  simp only [needM, Bool.or_eq_true, decide_eq_true_eq, not_or, Bool.not_eq_true] at h
  have hq : ¬ rexQ c = true := by simp only [rexQ, decide_eq_true_eq]; omega
  have h1 : r / 8 = 0 := by omega
  have h2 : m / 8 = 0 := by omega
  simp only [List.nil_append, parRex, if_neg hq, h1, h2, h.1.1]
  simp
theorem par_rex {wide al : Bool} {r m c : Int} {t : List Int} (r0 : 0 ≤ r) (r1 : r ≤ 15) (m0 : 0 ≤ m) (m1 : m ≤ 15) (hc : ¬ (64 ≤ c ∧ c ≤ 79)) (h2 : c ≠ 102) : parM (rexM wide r m al ++ c :: t) = parCode (if wide then 64 else 32) (8 * (r / 8)) (8 * (m / 8)) (c :: t) := by
 unfold parM
 rw [if_neg (hd_rex r0 r1 m0 m1 h2), parRex_rex r0 r1 m0 m1 hc]
theorem par_half {wide al : Bool} {r m c : Int} {t : List Int} (r0 : 0 ≤ r) (r1 : r ≤ 15) (m0 : 0 ≤ m) (m1 : m ≤ 15) (hc : ¬ (64 ≤ c ∧ c ≤ 79)) : parM (102 :: (rexM wide r m al ++ c :: t)) = parCode (if wide then 64 else 16) (8 * (r / 8)) (8 * (m / 8)) (c :: t) := by
 unfold parM
 rw [if_pos (show hd (102 :: (rexM wide r m al ++ c :: t)) = 102 from rfl), List.drop_one, List.tail_cons, parRex_rex r0 r1 m0 m1 hc]
theorem par_bare {c : Int} {t : List Int} (hc : ¬ (64 ≤ c ∧ c ≤ 79)) (h2 : c ≠ 102) : parM (c :: t) = parCode 32 0 0 (c :: t) := by
 unfold parM
 have hq : ¬ rexQ c = true := by simp only [rexQ, decide_eq_true_eq]; omega
 rw [if_neg (by simpa [hd] using h2)]
 simp only [parRex, if_neg hq]
theorem parCode_c {w R M c : Int} {v : List Int} (hc : c ≠ 15) : parCode w R M (c :: v) = some (parRest w R M false c v) := by
 simp only [parCode, if_neg hc]
theorem parCode_15 {w R M d : Int} {z : List Int} : parCode w R M (15 :: d :: z) = some (parRest w R M true d z) := rfl
theorem mrN_reg {r m : Int} {t : List Int} (r0 : 0 ≤ r) (m0 : 0 ≤ m) : mrN (regsM r m :: t) = 1 := by
 simp only [mrN]
 rw [if_pos (by simp only [regsM]; omega)]
theorem mrR_reg {r m : Int} {t : List Int} (r0 : 0 ≤ r) (m0 : 0 ≤ m) : mrR (regsM r m :: t) = r % 8 := by
 simp only [mrR, mrN_reg r0 m0]
 rw [if_neg (by decide)]
 simp only [hd, List.headD_cons, regsM]
 omega
theorem mrB_reg {r m : Int} {t : List Int} (r0 : 0 ≤ r) (m0 : 0 ≤ m) : mrB (regsM r m :: t) = m % 8 := by
 simp only [mrB, mrN_reg r0 m0]
 rw [if_neg (by decide)]
 simp only [hd, List.headD_cons, regsM]
 omega
theorem mrN_mem {r b disp : Int} {t : List Int} : mrN (memM r b disp ++ t) = if b % 8 = 4 then 6 else 5 := by
 unfold memM
 split
 ·rename_i h
  simp only [List.cons_append, mrN]
  rw [if_neg (by omega), if_pos (by omega), if_pos (by omega), if_pos (by simp [fourM, hd])]
 ·rename_i h
  simp only [List.cons_append, mrN]
  rw [if_neg (by omega), if_pos (by omega), if_neg (by omega), if_pos (by simp [fourM])]
theorem mrR_mem {r b disp : Int} {t : List Int} : mrR (memM r b disp ++ t) = r % 8 := by
 simp only [mrR, mrN_mem, mem_hd]
 rw [if_neg (by split <;> decide)]
 omega
theorem mrB_mem {r b disp : Int} {t : List Int} : mrB (memM r b disp ++ t) = b % 8 := by
 simp only [mrB, mrN_mem, mem_hd]
 rw [if_neg (by split <;> decide)]
 omega
theorem mrD_mem {r b disp : Int} {t : List Int} (h0 : -2147483648 ≤ disp) (h1 : disp ≤ 2147483647) : mrD (memM r b disp ++ t) = disp := by
 simp only [mrD, mrN_mem]
 rw [if_neg (by split <;> decide)]
 unfold memM
 split
 ·simp only [List.cons_append, List.drop_succ_cons, List.drop_zero]
  exact rd4_four h0 h1
 ·simp only [List.cons_append, List.drop_succ_cons, List.drop_zero]
  exact rd4_four h0 h1
theorem tl_four {n : Int} {t : List Int} (h0 : -2147483648 ≤ n) (h1 : n ≤ 2147483647) : tlM (fourM n ++ t) 0 = n := by
 simp only [tlM, List.drop_zero]
 rw [if_neg (by simp [fourM]), rd4_four h0 h1]
theorem tl_four1 {x n : Int} {t : List Int} (h0 : -2147483648 ≤ n) (h1 : n ≤ 2147483647) : tlM (x :: (fourM n ++ t)) 1 = n := by
 simp only [tlM, List.drop_succ_cons, List.drop_zero]
 rw [if_neg (by simp [fourM]), rd4_four h0 h1]
theorem hi8 {r : Int} (r0 : 0 ≤ r) (r1 : r ≤ 15) : r % 8 + 8 * (r / 8) = r := by omega
theorem par_back {op w dst src base disp imm cc : Int} (h : mayX op w dst src base disp imm cc = true) (t : List Int) : ∃ s, parM (bytesM op w dst src base disp imm cc ++ t) = some s ∧ asM s op = ⟨op, w, dst, src, base, disp, imm, cc⟩ := by
 obtain ⟨⟨d0, d1, s0, s1, b0, b1, p0, p1, i0, i1⟩, hs⟩ := mayX_parts h
 have hsh : shapeM op ≠ 0 := by
  intro e
  rw [e] at hs
  simp [mayS] at hs
 obtain ⟨k, rfl⟩ := op_fin hsh
 unfold mayS at hs
 split at hs
 ·rename_i h12
  simp only [Bool.and_eq_true, decide_eq_true_eq] at hs
  obtain ⟨hw, rfl, rfl, rfl, rfl⟩ := hs
  have ew := w_back hw
  rcases h12 with h1 | h1
  ·
   obtain ⟨c1, c2, c3, c4, c5, c6, c7, c8, c9, c10, c11⟩ := code_pairs k h1
   have e : bytesM (k.val : Int) w dst src 0 0 0 0 = rexM (decide (w = 64)) src dst false ++ [codeM (k.val : Int), regsM src dst] := by simp only [bytesM, h1, if_true]
   rw [e, List.append_assoc, List.cons_append, List.cons_append, List.nil_append, par_rex s0 s1 d0 d1 c2 c3, parCode_c c1]
   refine ⟨_, rfl, ?_⟩
   simp only [asM, h1, asS, if_true, parRest, mrR_reg s0 d0, mrB_reg s0 d0, hi8 s0 s1, hi8 d0 d1, ew]
  ·
   have hk : (k.val : Int) = 16 := by
    have := shape_ops (op := (k.val : Int)) (by omega)
    revert h1
    rcases this with e | e | e | e | e | e | e | e | e | e | e | e | e | e | e | e | e | e | e | e | e | e | e | e | e | e | e | e | e | e | e | e <;> rw [e] <;> decide
   rw [hk]
   have e : bytesM 16 w dst src 0 0 0 0 = rexM (decide (w = 64)) dst src false ++ [15, 175, regsM dst src] := by
    simp only [bytesM, show shapeM 16 = 2 from rfl, show codeM 16 = 175 from rfl, if_true, show ¬ (2 : Int) = 1 by decide, if_false]
   rw [e, List.append_assoc, List.cons_append, List.cons_append, List.cons_append, List.nil_append, par_rex d0 d1 s0 s1 (by decide) (by decide), parCode_15]
   refine ⟨_, rfl, ?_⟩
   simp only [asM, show shapeM 16 = 2 from rfl, asS, if_true, show ¬ (2 : Int) = 1 by decide, if_false, parRest, mrR_reg d0 s0, mrB_reg d0 s0, hi8 s0 s1, hi8 d0 d1, ew]
 ·rename_i n12
  have n1 : ¬ shapeM (k.val : Int) = 1 := fun e => n12 (.inl e)
  have n2 : ¬ shapeM (k.val : Int) = 2 := fun e => n12 (.inr e)
  split at hs
  ·
   rename_i h3
   simp only [Bool.and_eq_true, decide_eq_true_eq] at hs
   obtain ⟨hw, rfl, rfl, rfl, rfl⟩ := hs
   have ew := w_back hw
   by_cases hm : (k.val : Int) = 1 ∧ w = 32
   ·obtain ⟨hm, rfl⟩ := hm
    have e : bytesM (k.val : Int) 32 dst 0 0 0 imm 0 = rexM false 0 dst false ++ ((184 + dst % 8) :: fourM imm) := by
     rw [hm]
     simp [bytesM, show shapeM 1 = 3 from rfl]
    rw [e, List.append_assoc, List.cons_append, par_rex (by omega) (by omega) d0 d1 (by omega) (by omega), parCode_c (by omega)]
    refine ⟨_, rfl, ?_⟩
    rw [hm]
    simp only [asM, show shapeM 1 = 3 from rfl, asS, show ¬ (3 : Int) = 1 by decide, show ¬ (3 : Int) = 2 by decide, if_false, if_true, parRest, tl_four i0 i1, true_and, Bool.false_eq_true]
    rw [if_pos (by omega)]
    congr 1
    omega
   ·obtain ⟨c1, c2, c3, c4, c5, c6, c7, c8, c9, c10, c11, c12, u0, u1⟩ := code_group k (.inl h3)
    have e : bytesM (k.val : Int) w dst 0 0 0 imm 0 = rexM (decide (w = 64)) 0 dst false ++ (codeM (k.val : Int) :: regsM (numM (k.val : Int)) dst :: fourM imm) := by
     simp only [bytesM, h3, if_neg hm, show ¬ (3 : Int) = 1 by decide, show ¬ (3 : Int) = 2 by decide, show ¬ (3 : Int) = 6 by decide, if_false, if_true]
    rw [e, List.append_assoc, List.cons_append, List.cons_append, par_rex (by omega) (by omega) d0 d1 c2 c3, parCode_c c1]
    refine ⟨_, rfl, ?_⟩
    have c4' : ¬ ((k.val : Int) = 1 ∧ 184 ≤ codeM (k.val : Int) ∧ codeM (k.val : Int) < 192) := by omega
    simp only [asM, h3, asS, show ¬ (3 : Int) = 1 by decide, show ¬ (3 : Int) = 2 by decide, if_false, if_true, parRest, if_neg c4', mrN_reg u0 d0, mrB_reg u0 d0, tl_four1 i0 i1, hi8 d0 d1, ew]
  ·rename_i n3
   split at hs
   ·
    rename_i h4
    simp only [Bool.and_eq_true, decide_eq_true_eq] at hs
    obtain ⟨hw, rfl, rfl, rfl, rfl, j0, j1⟩ := hs
    have ew := w_back hw
    have hw' := long_cases hw
    obtain ⟨c1, c2, c3, c4, c5, c6, c7, c8, c9, c10, c11, c12, u0, u1⟩ := code_group k (.inr (.inl h4))
    have e : bytesM (k.val : Int) w dst 0 0 0 imm 0 = rexM (decide (w = 64)) 0 dst false ++ [codeM (k.val : Int), regsM (numM (k.val : Int)) dst, imm % 256] := by
     simp only [bytesM, h4, show ¬ (4 : Int) = 1 by decide, show ¬ (4 : Int) = 2 by decide, show ¬ (4 : Int) = 6 by decide, show ¬ (4 : Int) = 3 by decide, if_false, if_true]
    rw [e, List.append_assoc, List.cons_append, List.cons_append, List.cons_append, List.nil_append, par_rex (by omega) (by omega) d0 d1 c2 c3, parCode_c c1]
    refine ⟨_, rfl, ?_⟩
    have g : pkM (regsM (numM (k.val : Int)) dst :: imm % 256 :: t) 1 = imm := by
     show imm % 256 = imm
     omega
    simp only [asM, h4, asS, show ¬ (4 : Int) = 1 by decide, show ¬ (4 : Int) = 2 by decide, show ¬ (4 : Int) = 3 by decide, if_false, if_true, parRest, mrN_reg u0 d0, mrB_reg u0 d0, g, hi8 d0 d1, ew]
   ·rename_i n4
    split at hs
    ·
     rename_i h5
     simp only [Bool.and_eq_true, decide_eq_true_eq] at hs
     obtain ⟨hw, rfl, rfl, rfl, rfl, rfl⟩ := hs
     have ew := w_back hw
     obtain ⟨c1, c2, c3, c4, c5, c6, c7, c8, c9, c10, c11, c12, u0, u1⟩ := code_group k (.inr (.inr h5))
     have e : bytesM (k.val : Int) w dst 0 0 0 0 0 = rexM (decide (w = 64)) 0 dst false ++ [codeM (k.val : Int), regsM (numM (k.val : Int)) dst] := by
      simp only [bytesM, h5, show ¬ (5 : Int) = 1 by decide, show ¬ (5 : Int) = 2 by decide, show ¬ (5 : Int) = 6 by decide, show ¬ (5 : Int) = 3 by decide, show ¬ (5 : Int) = 4 by decide, if_false, if_true]
     rw [e, List.append_assoc, List.cons_append, List.cons_append, List.nil_append, par_rex (by omega) (by omega) d0 d1 c2 c3, parCode_c c1]
     refine ⟨_, rfl, ?_⟩
     simp only [asM, h5, asS, show ¬ (5 : Int) = 1 by decide, show ¬ (5 : Int) = 2 by decide, show ¬ (5 : Int) = 3 by decide, show ¬ (5 : Int) = 4 by decide, if_false, if_true, parRest, mrB_reg u0 d0, hi8 d0 d1, ew]
    ·rename_i n5
     split at hs
     ·
      rename_i h6
      have hk := shape_6 k h6
      rw [hk] at h6 ⊢
      simp only [Bool.and_eq_true, decide_eq_true_eq] at hs
      obtain ⟨⟨hw, rfl, rfl, rfl⟩, hc⟩ := hs
      have ew := w_back hw
      simp only [ccM, decide_eq_true_eq] at hc
      have e : bytesM 25 w dst src 0 0 0 cc = rexM (decide (w = 64)) dst src false ++ [15, 64 + cc, regsM dst src] := by
       simp [bytesM, show shapeM 25 = 6 from rfl]
      rw [e, List.append_assoc, List.cons_append, List.cons_append, List.cons_append, List.nil_append, par_rex d0 d1 s0 s1 (by decide) (by decide), parCode_15]
      refine ⟨_, rfl, ?_⟩
      have g : signed1 (64 + cc - codeM 25) = cc := by
       show signed1 (64 + cc - 64) = cc
       simp only [signed1]
       omega
      simp only [asM, show shapeM 25 = 6 from rfl, asS, show ¬ (6 : Int) = 1 by decide, show ¬ (6 : Int) = 2 by decide, show ¬ (6 : Int) = 3 by decide, show ¬ (6 : Int) = 4 by decide, show ¬ (6 : Int) = 5 by decide, if_false, if_true, parRest, mrR_reg d0 s0, mrB_reg d0 s0, g, hi8 s0 s1, hi8 d0 d1, ew]
     ·rename_i n6
      split at hs
      ·
       rename_i h7
       have hk := shape_7 k h7
       rw [hk] at h7 ⊢
       simp only [Bool.and_eq_true, decide_eq_true_eq] at hs
       obtain ⟨hw, rfl, rfl, rfl⟩ := hs
       have e : bytesM 26 w dst 0 base disp 0 0 = rexM (decide (w = 64)) dst base false ++ ((if w = 8 then [15, 182] else if w = 16 then [15, 183] else [139]) ++ memM dst base disp) := by
        simp [bytesM, show shapeM 26 = 7 from rfl]
       rw [e]
       have fin7 : ∀ (lw R : Int) (long : Bool) (code : Int), (if long then (if code % 2 = 1 then (16 : Int) else 8) else R) = lw → asM (parRest R (8 * (dst / 8)) (8 * (base / 8)) long code (memM dst base disp ++ t)) 26 = ⟨26, lw, dst, 0, base, disp, 0, 0⟩ := by
        intro lw R long code hl
        simp only [asM, show shapeM 26 = 7 from rfl, asS, show ¬ (7 : Int) = 1 by decide, show ¬ (7 : Int) = 2 by decide, show ¬ (7 : Int) = 3 by decide, show ¬ (7 : Int) = 4 by decide, show ¬ (7 : Int) = 5 by decide, show ¬ (7 : Int) = 6 by decide, if_false, if_true, parRest, mrR_mem, mrB_mem, mrD_mem p0 p1, hi8 d0 d1, hi8 b0 b1, hl]
       rcases width_cases hw with rfl | rfl | rfl | rfl
       ·rw [if_pos rfl, List.append_assoc, List.append_assoc, List.cons_append, par_rex d0 d1 b0 b1 (by decide) (by decide), List.cons_append, List.nil_append, parCode_15]
        exact ⟨_, rfl, fin7 _ _ _ _ (by decide)⟩
       ·rw [if_neg (by decide), if_pos rfl, List.append_assoc, List.append_assoc, List.cons_append, par_rex d0 d1 b0 b1 (by decide) (by decide), List.cons_append, List.nil_append, parCode_15]
        exact ⟨_, rfl, fin7 _ _ _ _ (by decide)⟩
       ·rw [if_neg (by decide), if_neg (by decide), List.append_assoc, List.append_assoc, List.cons_append, List.nil_append, par_rex d0 d1 b0 b1 (by decide) (by decide), parCode_c (by decide)]
        exact ⟨_, rfl, fin7 _ _ _ _ (by decide)⟩
       ·rw [if_neg (by decide), if_neg (by decide), List.append_assoc, List.append_assoc, List.cons_append, List.nil_append, par_rex d0 d1 b0 b1 (by decide) (by decide), parCode_c (by decide)]
        exact ⟨_, rfl, fin7 _ _ _ _ (by decide)⟩
      ·rename_i n7
       split at hs
       ·
        rename_i h8
        have hk := shape_8 k h8
        rw [hk] at h8 ⊢
        simp only [Bool.and_eq_true, decide_eq_true_eq] at hs
        obtain ⟨hw, rfl, rfl, rfl⟩ := hs
        have e : bytesM 27 w 0 src base disp 0 0 = (if w = 16 then [102] else []) ++ (rexM (decide (w = 64)) src base (decide (w = 8)) ++ ((if w = 8 then [136] else [137]) ++ memM src base disp)) := by
         simp [bytesM, show shapeM 27 = 8 from rfl]
        rw [e]
        have fin8 : ∀ (lw R : Int) (code : Int), (if code = 136 then (8 : Int) else R) = lw → asM (parRest R (8 * (src / 8)) (8 * (base / 8)) false code (memM src base disp ++ t)) 27 = ⟨27, lw, 0, src, base, disp, 0, 0⟩ := by
         intro lw R code hl
         simp only [asM, show shapeM 27 = 8 from rfl, asS, show ¬ (8 : Int) = 1 by decide, show ¬ (8 : Int) = 2 by decide, show ¬ (8 : Int) = 3 by decide, show ¬ (8 : Int) = 4 by decide, show ¬ (8 : Int) = 5 by decide, show ¬ (8 : Int) = 6 by decide, show ¬ (8 : Int) = 7 by decide, if_false, if_true, parRest, mrR_mem, mrB_mem, mrD_mem p0 p1, hi8 s0 s1, hi8 b0 b1, hl]
        rcases width_cases hw with rfl | rfl | rfl | rfl
        ·rw [if_neg (by decide), if_pos rfl, List.nil_append, List.append_assoc, List.append_assoc, List.cons_append, List.nil_append, par_rex s0 s1 b0 b1 (by decide) (by decide), parCode_c (by decide)]
         exact ⟨_, rfl, fin8 _ _ _ (by decide)⟩
        ·rw [if_pos rfl, if_neg (by decide), List.append_assoc, List.append_assoc, List.append_assoc, List.cons_append, List.cons_append, List.nil_append, List.nil_append, par_half s0 s1 b0 b1 (by decide), parCode_c (by decide)]
         exact ⟨_, rfl, fin8 _ _ _ (by decide)⟩
        ·rw [if_neg (by decide), if_neg (by decide), List.nil_append, List.append_assoc, List.append_assoc, List.cons_append, List.nil_append, par_rex s0 s1 b0 b1 (by decide) (by decide), parCode_c (by decide)]
         exact ⟨_, rfl, fin8 _ _ _ (by decide)⟩
        ·rw [if_neg (by decide), if_neg (by decide), List.nil_append, List.append_assoc, List.append_assoc, List.cons_append, List.nil_append, par_rex s0 s1 b0 b1 (by decide) (by decide), parCode_c (by decide)]
         exact ⟨_, rfl, fin8 _ _ _ (by decide)⟩
       ·rename_i n8
        have k1 : ∀ {n : Int}, 9 ≤ n → ¬ n = 1 := fun h => by omega
        split at hs
        ·
         rename_i h9
         have hk := shape_9 k h9
         rw [hk] at h9 ⊢
         simp only [Bool.and_eq_true, decide_eq_true_eq, jumpM] at hs
         obtain ⟨hw, rfl, rfl, rfl, rfl, rfl⟩ := hs
         have e : bytesM 28 w 0 0 0 0 imm 0 = if w = 8 then [235, imm % 256] else 233 :: fourM imm := by
          simp [bytesM, show shapeM 28 = 9 from rfl]
         rw [e]
         rcases hw with rfl | ⟨rfl, j0, j1⟩
         ·rw [if_neg (by decide), List.cons_append, par_bare (by decide) (by decide), parCode_c (by decide)]
          refine ⟨_, rfl, ?_⟩
          simp [asM, show shapeM 28 = 9 from rfl, asS, parRest, tl_four i0 i1]
         ·rw [if_pos rfl, List.cons_append, par_bare (by decide) (by decide), parCode_c (by decide)]
          refine ⟨_, rfl, ?_⟩
          have g : signed1 (pkM ([imm % 256] ++ t) 0) = imm := one_back j0 j1
          simp [asM, show shapeM 28 = 9 from rfl, asS, parRest]
          exact g
        ·rename_i n9
         split at hs
         ·
          rename_i h10
          have hk := shape_10 k h10
          rw [hk] at h10 ⊢
          simp only [Bool.and_eq_true, decide_eq_true_eq, jumpM] at hs
          obtain ⟨⟨hw, rfl, rfl, rfl, rfl⟩, hc⟩ := hs
          simp only [ccM, decide_eq_true_eq] at hc
          have e : bytesM 29 w 0 0 0 0 imm cc = if w = 8 then [112 + cc, imm % 256] else 15 :: (128 + cc) :: fourM imm := by
           simp [bytesM, show shapeM 29 = 10 from rfl]
          rw [e]
          rcases hw with rfl | ⟨rfl, j0, j1⟩
          ·rw [if_neg (by decide), List.cons_append, List.cons_append, par_bare (by decide) (by decide), parCode_15]
           refine ⟨_, rfl, ?_⟩
           simp [asM, show shapeM 29 = 10 from rfl, asS, parRest, tl_four i0 i1]
           omega
          ·rw [if_pos rfl, List.cons_append, par_bare (by omega) (by omega), parCode_c (by omega)]
           refine ⟨_, rfl, ?_⟩
           have g : signed1 (pkM ([imm % 256] ++ t) 0) = imm := one_back j0 j1
           have g2 : ¬ 112 + cc = 233 := by omega
           simp only [asM, show shapeM 29 = 10 from rfl, asS, parRest, g]
           simp [g2]
           omega
         ·rename_i n10
          split at hs
          ·rename_i h11
           simp only [decide_eq_true_eq] at hs
           obtain ⟨rfl, rfl, rfl, rfl, rfl, rfl, rfl⟩ := hs
           rcases shape_11 k h11 with hk | hk <;> rw [hk]
           ·have e : bytesM 30 0 0 0 0 0 0 0 = [195] := rfl
            rw [e, List.cons_append, par_bare (by decide) (by decide), parCode_c (by decide)]
            exact ⟨_, rfl, rfl⟩
           ·have e : bytesM 31 0 0 0 0 0 0 0 = [15, 5] := rfl
            rw [e, List.cons_append, List.cons_append, par_bare (by decide) (by decide), parCode_15]
            exact ⟨_, rfl, rfl⟩
          ·cases hs
end Go.Ev

namespace Go.Ev
open Go
theorem fin256 {d : Int} (h0 : 0 ≤ d) (h1 : d ≤ 255) : ∃ n : Fin 256, d = (n.val : Int) := ⟨⟨d.toNat, by omega⟩, by simp; omega⟩
theorem fin8 {d : Int} (h0 : 0 ≤ d) (h1 : d ≤ 7) : ∃ n : Fin 8, d = (n.val : Int) := ⟨⟨d.toNat, by omega⟩, by simp; omega⟩
theorem or_nat (x y : Nat) (h : y < 256) : (x * 256) ||| y = x * 256 + y := by
 rw [show x * 256 = x <<< 8 by rw [Nat.shiftLeft_eq]]
 exact (Nat.shiftLeft_add_eq_or_of_lt (i := 8) h x).symm
theorem or_bv {x y : Int} (x0 : -36028797018963968 ≤ x) (x1 : x < 36028797018963968) (y0 : 0 ≤ y) (y1 : y < 256) : ((BitVec.ofInt 64 (x * 256) ||| BitVec.ofInt 64 y).toNat : Int) = (x * 256 + y) % 18446744073709551616 := by
 rw [BitVec.toNat_or, BitVec.toNat_ofInt, BitVec.toNat_ofInt]
 have hy : (y % ((2 ^ 64 : Nat) : Int)).toNat = y.toNat := by congr 1; omega
 have hx : ((x * 256) % ((2 ^ 64 : Nat) : Int)).toNat = (x % 72057594037927936).toNat * 256 := by omega
 rw [hx, hy, or_nat _ _ (by omega)]
 omega
theorem orb64 {x y : Int} (x0 : 0 ≤ x) (x1 : x < 36028797018963968) (y0 : 0 ≤ y) (y1 : y < 256) : IntKind.u64.wrap ((BitVec.ofInt 64 (IntKind.u64.wrap (x * 256)) ||| BitVec.ofInt 64 (IntKind.u64.wrap y)).toNat : Int) = x * 256 + y := by
 have e1 : IntKind.u64.wrap (x * 256) = x * 256 := by rw [w_u64]; omega
 have e2 : IntKind.u64.wrap y = y := by rw [w_u64]; omega
 rw [e1, e2, or_bv (by omega) x1 y0 y1, w_u64]
 omega
theorem orb64i {x y : Int} (x0 : -36028797018963968 ≤ x) (x1 : x < 36028797018963968) (y0 : 0 ≤ y) (y1 : y < 256) : IntKind.i64.wrap ((BitVec.ofInt 64 (IntKind.i64.wrap (x * 256)) ||| BitVec.ofInt 64 (IntKind.i64.wrap y)).toNat : Int) = x * 256 + y := by
 have e1 : IntKind.i64.wrap (x * 256) = x * 256 := by rw [w_i64]; omega
 have e2 : IntKind.i64.wrap y = y := by rw [w_i64]; omega
 rw [e1, e2, or_bv x0 x1 y0 y1, w_i64]
 omega
theorem orb64z {y : Int} (y0 : 0 ≤ y) (y1 : y < 256) : IntKind.u64.wrap ((BitVec.ofInt 64 0 ||| BitVec.ofInt 64 (IntKind.u64.wrap y)).toNat : Int) = y := by
 have := orb64 (x := 0) (y := y) (by omega) (by omega) y0 y1
 simpa [w_u64] using this
theorem or8 {x y : Int} (x0 : 0 ≤ x) (x1 : x ≤ 7) (hy : y = 0 ∨ y = 8) : IntKind.i8.wrap ((BitVec.ofInt 8 x ||| BitVec.ofInt 8 y).toNat : Int) = x + y := by
 obtain ⟨n, rfl⟩ := fin8 x0 x1
 clear x0 x1
 rcases hy with rfl | rfl <;> (revert n; decide +kernel)
def isB (l : List Int) : Prop := ∀ x ∈ l, 0 ≤ x ∧ x ≤ 255
theorem nilB : isB [] := fun _ h => by cases h
theorem isB_cons {a : Int} {l : List Int} : isB (a :: l) ↔ (0 ≤ a ∧ a ≤ 255) ∧ isB l := by simp [isB]
theorem len_bD (l : List Int) : (bD l).length = l.length := by simp [bD]
theorem get_bD {b : List Int} {i : Int} (h0 : 0 ≤ i) (h1 : i < ((bD b).length : Int)) : (bD b)[i.toNat]? = some (.int .u8 (pkM b i.toNat)) := by
 rw [len_bD] at h1
 simp only [bD, List.getElem?_map, pkM, List.getD_eq_getElem?_getD]
 have : i.toNat < b.length := by omega
 simp [this]
theorem pk_short {b : List Int} {i : Int} (h : ((bD b).length : Int) ≤ i) : pkM b i.toNat = 0 := by
 rw [len_bD] at h
 simp only [pkM, List.getD_eq_getElem?_getD]
 rw [List.getElem?_eq_none (by omega)]
 rfl
theorem fd64 (a : Int) : a.fdiv 64 = a / 64 := Int.fdiv_eq_ediv_of_nonneg _ (by decide)
theorem top3_t {v : Int} (h : v / 64 = 3) : (v.fdiv 64 == 3) = true := by rw [fd64, h]; rfl
theorem top3_f {v : Int} (h : v / 64 = 2) : (v.fdiv 64 == 3) = false := by rw [fd64, h]; rfl
theorem top3_f' {v : Int} (h : v / 64 < 2) : (v.fdiv 64 == 3) = false := by rw [fd64, beq_eq_false_iff_ne]; omega
theorem top2_t {v : Int} (h : v / 64 = 2) : (v.fdiv 64 == 2) = true := by rw [fd64, h]; rfl
theorem top2_f {v : Int} (h : v / 64 < 2) : (v.fdiv 64 == 2) = false := by rw [fd64, beq_eq_false_iff_ne]; omega
theorem low8 (v : Int) : IntKind.i8.wrap (IntKind.u8.wrap ((BitVec.ofInt 8 v &&& BitVec.ofInt 8 7).toNat : Int)) = v % 8 := by
 rw [BitVec.toNat_and, BitVec.toNat_ofInt, BitVec.toNat_ofInt]
 have e : (v % ((2 ^ 8 : Nat) : Int)).toNat &&& (7 % ((2 ^ 8 : Nat) : Int)).toNat = (v % 256).toNat % 8 := by
  have : (7 % ((2 ^ 8 : Nat) : Int)).toNat = 2 ^ 3 - 1 := by decide
  rw [this, Nat.and_two_pow_sub_one_eq_mod]
  rfl
 rw [e, w_u8, w_i8]
 omega
theorem mid8 {v : Int} (v0 : 0 ≤ v) (v1 : v ≤ 255) : IntKind.i8.wrap (IntKind.u8.wrap ((BitVec.ofInt 8 (v.fdiv 8) &&& BitVec.ofInt 8 7).toNat : Int)) = v / 8 % 8 := by
 rw [low8, Int.fdiv_eq_ediv_of_nonneg _ (by decide)]
theorem low4_t {v : Int} (h : v % 8 = 4) : (IntKind.i8.wrap (IntKind.u8.wrap ((BitVec.ofInt 8 v &&& BitVec.ofInt 8 7).toNat : Int)) == 4) = true := by rw [low8, h]; rfl
theorem low4_f {v : Int} (h : ¬ v % 8 = 4) : (IntKind.i8.wrap (IntKind.u8.wrap ((BitVec.ofInt 8 v &&& BitVec.ofInt 8 7).toNat : Int)) == 4) = false := by rw [low8, beq_eq_false_iff_ne]; exact h
def rawD (s : RawS) : D := .agg [.int .i8 s.w, .bool s.long, .int .u8 s.code, .int .i8 s.r, .int .i8 s.m, .int .i64 s.disp, .int .i64 s.imm, .int .i64 s.small, .int .i64 s.near, .int .i64 s.jump, .int .i8 s.high]
theorem pk_bound {v : List Int} (hv : isB v) (i : Nat) : 0 ≤ pkM v i ∧ pkM v i ≤ 255 := by
 simp only [pkM, List.getD_eq_getElem?_getD]
 cases e : v[i]? with
 | none => simp
 | some x => exact hv x (List.mem_of_getElem? e)
theorem hd_bound {v : List Int} (hv : isB v) : 0 ≤ hd v ∧ hd v ≤ 255 := by
 cases v with
 | nil => simp [hd]
 | cons a t => exact hv a (by simp)
theorem mrR_bound {v : List Int} (hv : isB v) : 0 ≤ mrR v ∧ mrR v ≤ 7 := by
 have := hd_bound hv
 unfold mrR
 split <;> omega
theorem mrB_bound {v : List Int} (hv : isB v) : 0 ≤ mrB v ∧ mrB v ≤ 7 := by
 have := hd_bound hv
 unfold mrB
 split <;> omega
theorem or8r {v : List Int} (hv : isB v) {y : Int} (hy : y = 0 ∨ y = 8) : IntKind.i8.wrap ((BitVec.ofInt 8 (mrR v) ||| BitVec.ofInt 8 y).toNat : Int) = mrR v + y := or8 (mrR_bound hv).1 (mrR_bound hv).2 hy
theorem or8b {v : List Int} (hv : isB v) {y : Int} (hy : y = 0 ∨ y = 8) : IntKind.i8.wrap ((BitVec.ofInt 8 (mrB v) ||| BitVec.ofInt 8 y).toNat : Int) = mrB v + y := or8 (mrB_bound hv).1 (mrB_bound hv).2 hy
theorem or8r4 {v : List Int} (hv : isB v) {h : Int} : IntKind.i8.wrap ((BitVec.ofInt 8 (mrR v) ||| BitVec.ofInt 8 (h / 4 % 2 * 8)).toNat : Int) = mrR v + h / 4 % 2 * 8 := or8r hv (by omega)
theorem or8b2 {v : List Int} (hv : isB v) {h : Int} : IntKind.i8.wrap ((BitVec.ofInt 8 (mrB v) ||| BitVec.ofInt 8 (h % 2 * 8)).toNat : Int) = mrB v + h % 2 * 8 := or8b hv (by omega)
theorem mrE_n' {v : List Int} (h : ¬ mrE v = 0) : mrN v = 0 := by
 unfold mrE at h
 split at h
 ·assumption
 ·simp at h
theorem w_small {v : List Int} (hv : isB v) (i : Nat) : IntKind.i64.wrap (pkM v i) = pkM v i := by
 have := pk_bound hv i
 rw [w_i64]; omega
theorem w_jump {v : List Int} (i : Nat) : IntKind.i64.wrap (IntKind.i8.wrap (pkM v i)) = signed1 (pkM v i) := by
 rw [w_i64, w_i8, signed1]; omega
def parF (w high : Int) : RawS := ⟨w, false, 0, 0, 0, 0, 0, 0, 0, 0, high⟩
theorem low_or {c h : Int} (c0 : 0 ≤ c) (c1 : c ≤ 255) (hh : h = 0 ∨ h = 8) : IntKind.i8.wrap ((BitVec.ofInt 8 (IntKind.i8.wrap (IntKind.u8.wrap ((BitVec.ofInt 8 c &&& BitVec.ofInt 8 7).toNat : Int))) ||| BitVec.ofInt 8 h).toNat : Int) = c % 8 + h := by
 rw [low8]
 exact or8 (by omega) (by omega) hh
theorem low15 {c : Int} (c0 : 0 ≤ c) (c1 : c ≤ 255) : IntKind.i8.wrap (IntKind.u8.wrap ((BitVec.ofInt 8 c &&& BitVec.ofInt 8 15).toNat : Int)) = c % 16 := by
 obtain ⟨n, rfl⟩ := fin256 c0 c1
 clear c0 c1
 revert n
 decide +kernel
theorem shl_one {c : Int} (c0 : 0 ≤ c) (c1 : c ≤ 255) : IntKind.i8.wrap (8 * 2 ^ (min (IntKind.u8.wrap ((BitVec.ofInt 8 c &&& BitVec.ofInt 8 1).toNat : Int)).toNat 8)) = if c % 2 = 1 then 16 else 8 := by
 obtain ⟨n, rfl⟩ := fin256 c0 c1
 clear c0 c1
 revert n
 decide +kernel
end Go.Ev
