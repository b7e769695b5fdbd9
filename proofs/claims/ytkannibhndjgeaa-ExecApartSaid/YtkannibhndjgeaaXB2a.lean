/- Contracts: an instruction's bytes, of each shape. -/
import Derived.Test.YtkannibhndjgeaaXB1
namespace Go.Proofs.Ytkannibhndjgeaa
open Go Go.Ev
set_option maxRecDepth 100000
set_option maxHeartbeats 8000000
set_option linter.unusedVariables false
set_option linter.unusedSimpArgs false
theorem bytes_1_ok (op w dst src base disp imm cc : Int) (ho : op ≤ 127) (d0 : 0 ≤ dst) (d1 : dst ≤ 15) (s0 : 0 ≤ src) (s1 : src ≤ 15) (b0 : 0 ≤ base) (b1 : base ≤ 15) (p0 : -2147483648 ≤ disp) (p1 : disp ≤ 2147483647) (i0 : -2147483648 ≤ imm) (i1 : imm ≤ 2147483647) (c0 : 0 ≤ cc) (c1 : cc ≤ 15) (n0 : 0 ≤ numM op) (n1 : numM op ≤ 7) (h : (shapeM op == 1) = true) (hin : decide (0 ≤ op ∧ op ≤ 31) = true) (hm : mayX op w dst src base disp imm cc = true) : Ret Try.prog 37 ([xD op w dst src base disp imm cc]) (.tup [.lst .no 1 (bD (bytesM op w dst src base disp imm cc)), .int .i64 0]) := by
  have c0 := @mayX_ok (op) (w) (dst) (src) (base) (disp) (imm) (cc) ho
  rw [show (mayX op w dst src base disp imm cc) = true from hm] at c0
  have c1 := @of_any_ok (op) ho
  rw [show (shapeM op) = 1 from (eq_of_beq h)] at c1
  generalize g3 : codeM op = r2 at c1
  generalize g5 : numM op = r4 at c1
  rcases Bool.eq_false_or_eq_true (needM (w == (64 : Int)) src dst false) with h6 | h6
  · skip
    have c7 := @rex_yes_ok (src) (dst) s0 s1 d0 d1 (w == (64 : Int)) (false) h6
    generalize g9 : rexB (w == (64 : Int)) src dst = r8 at c7
    have c10 := @two_ok (src) (dst) s0 s1 d0 d1
    generalize g12 : regsM src dst = r11 at c10
    exact (Ret.of_eval (d := .tup [.lst (.fresh 1) 1 [.int .u8 r8, .int .u8 r2, .int .u8 r11], .int .i64 0]) mixed Try.func37 (by kernel_rfl) [.ret _ _ _ c0, tF, .ret _ _ _ c1, tT, .ret _ _ _ c7, .ret _ _ _ c10, .inl, .go 64, tT, tT, .get ([.lst .tight 1 [.int .u8 r8], .lst .tight 1 [.int .u8 r2], .lst .tight 1 [.int .u8 r11]]) 0 (.lst .tight 1 [.int .u8 r8]) rfl, .len ((1 : Nat)) ((2147483648 : Nat)) (by first | decide | omega | (simp; omega)), tT, tT, .get ([.lst .tight 1 [.int .u8 r8], .lst .tight 1 [.int .u8 r2], .lst .tight 1 [.int .u8 r11]]) 1 (.lst .tight 1 [.int .u8 r2]) rfl, .len ((2 : Nat)) ((2147483648 : Nat)) (by first | decide | omega | (simp; omega)), tT, tT, .get ([.lst .tight 1 [.int .u8 r8], .lst .tight 1 [.int .u8 r2], .lst .tight 1 [.int .u8 r11]]) 2 (.lst .tight 1 [.int .u8 r11]) rfl, .len ((3 : Nat)) ((2147483648 : Nat)) (by first | decide | omega | (simp; omega)), tF] (by kernel_rfl)).to (by subst_vars; (try simp only [beq_dec] at *); (try simp only [beq_iff_eq] at h); (try simp only [decide_eq_true_eq, decide_eq_false_iff_not] at *); simp_all [wk, wkL, wkO, bytesM, bD, rexM, memM, fourM, w_u8])
  · skip
    have c13 := @rex_no_ok (src) (dst) s0 s1 d0 d1 (w == (64 : Int)) (false) h6
    have c14 := @two_ok (src) (dst) s0 s1 d0 d1
    generalize g16 : regsM src dst = r15 at c14
    exact (Ret.of_eval (d := .tup [.lst (.fresh 1) 1 [.int .u8 r2, .int .u8 r15], .int .i64 0]) mixed Try.func37 (by kernel_rfl) [.ret _ _ _ c0, tF, .ret _ _ _ c1, tT, .ret _ _ _ c13, .ret _ _ _ c14, .inl, .go 64, tT, tT, .get ([.lst .tight 1 [], .lst .tight 1 [.int .u8 r2], .lst .tight 1 [.int .u8 r15]]) 0 (.lst .tight 1 []) rfl, .len ((0 : Nat)) ((2147483648 : Nat)) (by first | decide | omega | (simp; omega)), tT, tT, .get ([.lst .tight 1 [], .lst .tight 1 [.int .u8 r2], .lst .tight 1 [.int .u8 r15]]) 1 (.lst .tight 1 [.int .u8 r2]) rfl, .len ((1 : Nat)) ((2147483648 : Nat)) (by first | decide | omega | (simp; omega)), tT, tT, .get ([.lst .tight 1 [], .lst .tight 1 [.int .u8 r2], .lst .tight 1 [.int .u8 r15]]) 2 (.lst .tight 1 [.int .u8 r15]) rfl, .len ((2 : Nat)) ((2147483648 : Nat)) (by first | decide | omega | (simp; omega)), tF] (by kernel_rfl)).to (by subst_vars; (try simp only [beq_dec] at *); (try simp only [beq_iff_eq] at h); (try simp only [decide_eq_true_eq, decide_eq_false_iff_not] at *); simp_all [wk, wkL, wkO, bytesM, bD, rexM, memM, fourM, w_u8])

theorem bytesO_16_ok (w dst src base disp imm cc : Int) (d0 : 0 ≤ dst) (d1 : dst ≤ 15) (s0 : 0 ≤ src) (s1 : src ≤ 15) (b0 : 0 ≤ base) (b1 : base ≤ 15) (p0 : -2147483648 ≤ disp) (p1 : disp ≤ 2147483647) (i0 : -2147483648 ≤ imm) (i1 : imm ≤ 2147483647) (c0 : 0 ≤ cc) (c1 : cc ≤ 15) (hm : mayX 16 w dst src base disp imm cc = true) : Ret Try.prog 37 ([xD 16 w dst src base disp imm cc]) (.tup [.lst .no 1 (bD (bytesM 16 w dst src base disp imm cc)), .int .i64 0]) := by
  have c0 := @mayX_ok ((16 : Int)) (w) (dst) (src) (base) (disp) (imm) (cc) (by first | rfl | decide)
  rw [show (mayX (16 : Int) w dst src base disp imm cc) = true from hm] at c0
  have c1 := @of_any_ok ((16 : Int)) (by first | rfl | decide)
  rcases Bool.eq_false_or_eq_true (needM (w == (64 : Int)) dst src false) with h2 | h2
  · skip
    have c3 := @rex_yes_ok (dst) (src) d0 d1 s0 s1 (w == (64 : Int)) (false) h2
    generalize g5 : rexB (w == (64 : Int)) dst src = r4 at c3
    have c6 := @two_ok (dst) (src) d0 d1 s0 s1
    generalize g8 : regsM dst src = r7 at c6
    exact (Ret.of_eval (d := .tup [.lst (.fresh 1) 1 [.int .u8 r4, .int .u8 15, .int .u8 175, .int .u8 r7], .int .i64 0]) mixed Try.func37 (by kernel_rfl) [.ret _ _ _ c0, tF, .ret _ _ _ c1, tF, tT, .ret _ _ _ c3, .ret _ _ _ c6, .inl, .go 64, tT, tT, .get ([.lst .tight 1 [.int .u8 r4], .lst .tight 1 [.int .u8 15], .lst .tight 1 [.int .u8 175], .lst .tight 1 [.int .u8 r7]]) 0 (.lst .tight 1 [.int .u8 r4]) rfl, .len ((1 : Nat)) ((2147483648 : Nat)) (by first | decide | omega | (simp; omega)), tT, tT, .get ([.lst .tight 1 [.int .u8 r4], .lst .tight 1 [.int .u8 15], .lst .tight 1 [.int .u8 175], .lst .tight 1 [.int .u8 r7]]) 1 (.lst .tight 1 [.int .u8 15]) rfl, .len ((2 : Nat)) ((2147483648 : Nat)) (by first | decide | omega | (simp; omega)), tT, tT, .get ([.lst .tight 1 [.int .u8 r4], .lst .tight 1 [.int .u8 15], .lst .tight 1 [.int .u8 175], .lst .tight 1 [.int .u8 r7]]) 2 (.lst .tight 1 [.int .u8 175]) rfl, .len ((3 : Nat)) ((2147483648 : Nat)) (by first | decide | omega | (simp; omega)), tT, tT, .get ([.lst .tight 1 [.int .u8 r4], .lst .tight 1 [.int .u8 15], .lst .tight 1 [.int .u8 175], .lst .tight 1 [.int .u8 r7]]) 3 (.lst .tight 1 [.int .u8 r7]) rfl, .len ((4 : Nat)) ((2147483648 : Nat)) (by first | decide | omega | (simp; omega)), tF] (by kernel_rfl)).to (by subst_vars; (try simp only [beq_dec] at *); (try simp only [beq_iff_eq] at h); (try simp only [decide_eq_true_eq, decide_eq_false_iff_not] at *); simp_all [wk, wkL, wkO, bytesM, show shapeM 16 = 2 from rfl, codeM, bD, rexM, memM, fourM, w_u8])
  · skip
    have c9 := @rex_no_ok (dst) (src) d0 d1 s0 s1 (w == (64 : Int)) (false) h2
    have c10 := @two_ok (dst) (src) d0 d1 s0 s1
    generalize g12 : regsM dst src = r11 at c10
    exact (Ret.of_eval (d := .tup [.lst (.fresh 1) 1 [.int .u8 15, .int .u8 175, .int .u8 r11], .int .i64 0]) mixed Try.func37 (by kernel_rfl) [.ret _ _ _ c0, tF, .ret _ _ _ c1, tF, tT, .ret _ _ _ c9, .ret _ _ _ c10, .inl, .go 64, tT, tT, .get ([.lst .tight 1 [], .lst .tight 1 [.int .u8 15], .lst .tight 1 [.int .u8 175], .lst .tight 1 [.int .u8 r11]]) 0 (.lst .tight 1 []) rfl, .len ((0 : Nat)) ((2147483648 : Nat)) (by first | decide | omega | (simp; omega)), tT, tT, .get ([.lst .tight 1 [], .lst .tight 1 [.int .u8 15], .lst .tight 1 [.int .u8 175], .lst .tight 1 [.int .u8 r11]]) 1 (.lst .tight 1 [.int .u8 15]) rfl, .len ((1 : Nat)) ((2147483648 : Nat)) (by first | decide | omega | (simp; omega)), tT, tT, .get ([.lst .tight 1 [], .lst .tight 1 [.int .u8 15], .lst .tight 1 [.int .u8 175], .lst .tight 1 [.int .u8 r11]]) 2 (.lst .tight 1 [.int .u8 175]) rfl, .len ((2 : Nat)) ((2147483648 : Nat)) (by first | decide | omega | (simp; omega)), tT, tT, .get ([.lst .tight 1 [], .lst .tight 1 [.int .u8 15], .lst .tight 1 [.int .u8 175], .lst .tight 1 [.int .u8 r11]]) 3 (.lst .tight 1 [.int .u8 r11]) rfl, .len ((3 : Nat)) ((2147483648 : Nat)) (by first | decide | omega | (simp; omega)), tF] (by kernel_rfl)).to (by subst_vars; (try simp only [beq_dec] at *); (try simp only [beq_iff_eq] at h); (try simp only [decide_eq_true_eq, decide_eq_false_iff_not] at *); simp_all [wk, wkL, wkO, bytesM, show shapeM 16 = 2 from rfl, codeM, bD, rexM, memM, fourM, w_u8])

theorem bytes_5_ok (op w dst src base disp imm cc : Int) (ho : op ≤ 127) (d0 : 0 ≤ dst) (d1 : dst ≤ 15) (s0 : 0 ≤ src) (s1 : src ≤ 15) (b0 : 0 ≤ base) (b1 : base ≤ 15) (p0 : -2147483648 ≤ disp) (p1 : disp ≤ 2147483647) (i0 : -2147483648 ≤ imm) (i1 : imm ≤ 2147483647) (c0 : 0 ≤ cc) (c1 : cc ≤ 15) (n0 : 0 ≤ numM op) (n1 : numM op ≤ 7) (h : (shapeM op == 5) = true) (hin : decide (0 ≤ op ∧ op ≤ 31) = true) (hm : mayX op w dst src base disp imm cc = true) : Ret Try.prog 37 ([xD op w dst src base disp imm cc]) (.tup [.lst .no 1 (bD (bytesM op w dst src base disp imm cc)), .int .i64 0]) := by
  have c0 := @mayX_ok (op) (w) (dst) (src) (base) (disp) (imm) (cc) ho
  rw [show (mayX op w dst src base disp imm cc) = true from hm] at c0
  have c1 := @of_any_ok (op) ho
  rw [show (shapeM op) = 5 from (eq_of_beq h)] at c1
  generalize g3 : codeM op = r2 at c1
  generalize g5 : numM op = r4 at c1
  rcases Bool.eq_false_or_eq_true (needM (w == (64 : Int)) (0 : Int) dst false) with h6 | h6
  · skip
    have c7 := @rex_yes_ok ((0 : Int)) (dst) (by first | rfl | decide) (by first | rfl | decide) d0 d1 (w == (64 : Int)) (false) h6
    generalize g9 : rexB (w == (64 : Int)) (0 : Int) dst = r8 at c7
    have c10 := @two_ok (r4) (dst) (by (simp only [w_i8, w_u8, w_i64, w_u64, decide_eq_true_eq, decide_eq_false_iff_not, beq_iff_eq, bne_iff_ne, beq_eq_false_iff_ne, bne_eq_false_iff_eq, Bool.not_eq_true', Bool.not_eq_false', Bool.and_eq_true, Bool.or_eq_true] at *; omega)) (by (simp only [w_i8, w_u8, w_i64, w_u64, decide_eq_true_eq, decide_eq_false_iff_not, beq_iff_eq, bne_iff_ne, beq_eq_false_iff_ne, bne_eq_false_iff_eq, Bool.not_eq_true', Bool.not_eq_false', Bool.and_eq_true, Bool.or_eq_true] at *; omega)) d0 d1
    generalize g12 : regsM r4 dst = r11 at c10
    exact (Ret.of_eval (d := .tup [.lst (.fresh 1) 1 [.int .u8 r8, .int .u8 r2, .int .u8 r11], .int .i64 0]) mixed Try.func37 (by kernel_rfl) [.ret _ _ _ c0, tF, .ret _ _ _ c1, tF, tF, tF, tF, tF, tT, .ret _ _ _ c7, .ret _ _ _ c10, .inl, .go 64, tT, tT, .get ([.lst .tight 1 [.int .u8 r8], .lst .tight 1 [.int .u8 r2], .lst .tight 1 [.int .u8 r11]]) 0 (.lst .tight 1 [.int .u8 r8]) rfl, .len ((1 : Nat)) ((2147483648 : Nat)) (by first | decide | omega | (simp; omega)), tT, tT, .get ([.lst .tight 1 [.int .u8 r8], .lst .tight 1 [.int .u8 r2], .lst .tight 1 [.int .u8 r11]]) 1 (.lst .tight 1 [.int .u8 r2]) rfl, .len ((2 : Nat)) ((2147483648 : Nat)) (by first | decide | omega | (simp; omega)), tT, tT, .get ([.lst .tight 1 [.int .u8 r8], .lst .tight 1 [.int .u8 r2], .lst .tight 1 [.int .u8 r11]]) 2 (.lst .tight 1 [.int .u8 r11]) rfl, .len ((3 : Nat)) ((2147483648 : Nat)) (by first | decide | omega | (simp; omega)), tF] (by kernel_rfl)).to (by subst_vars; (try simp only [beq_dec] at *); (try simp only [beq_iff_eq] at h); (try simp only [decide_eq_true_eq, decide_eq_false_iff_not] at *); simp_all [wk, wkL, wkO, bytesM, bD, rexM, memM, fourM, w_u8])
  · skip
    have c13 := @rex_no_ok ((0 : Int)) (dst) (by first | rfl | decide) (by first | rfl | decide) d0 d1 (w == (64 : Int)) (false) h6
    have c14 := @two_ok (r4) (dst) (by (simp only [w_i8, w_u8, w_i64, w_u64, decide_eq_true_eq, decide_eq_false_iff_not, beq_iff_eq, bne_iff_ne, beq_eq_false_iff_ne, bne_eq_false_iff_eq, Bool.not_eq_true', Bool.not_eq_false', Bool.and_eq_true, Bool.or_eq_true] at *; omega)) (by (simp only [w_i8, w_u8, w_i64, w_u64, decide_eq_true_eq, decide_eq_false_iff_not, beq_iff_eq, bne_iff_ne, beq_eq_false_iff_ne, bne_eq_false_iff_eq, Bool.not_eq_true', Bool.not_eq_false', Bool.and_eq_true, Bool.or_eq_true] at *; omega)) d0 d1
    generalize g16 : regsM r4 dst = r15 at c14
    exact (Ret.of_eval (d := .tup [.lst (.fresh 1) 1 [.int .u8 r2, .int .u8 r15], .int .i64 0]) mixed Try.func37 (by kernel_rfl) [.ret _ _ _ c0, tF, .ret _ _ _ c1, tF, tF, tF, tF, tF, tT, .ret _ _ _ c13, .ret _ _ _ c14, .inl, .go 64, tT, tT, .get ([.lst .tight 1 [], .lst .tight 1 [.int .u8 r2], .lst .tight 1 [.int .u8 r15]]) 0 (.lst .tight 1 []) rfl, .len ((0 : Nat)) ((2147483648 : Nat)) (by first | decide | omega | (simp; omega)), tT, tT, .get ([.lst .tight 1 [], .lst .tight 1 [.int .u8 r2], .lst .tight 1 [.int .u8 r15]]) 1 (.lst .tight 1 [.int .u8 r2]) rfl, .len ((1 : Nat)) ((2147483648 : Nat)) (by first | decide | omega | (simp; omega)), tT, tT, .get ([.lst .tight 1 [], .lst .tight 1 [.int .u8 r2], .lst .tight 1 [.int .u8 r15]]) 2 (.lst .tight 1 [.int .u8 r15]) rfl, .len ((2 : Nat)) ((2147483648 : Nat)) (by first | decide | omega | (simp; omega)), tF] (by kernel_rfl)).to (by subst_vars; (try simp only [beq_dec] at *); (try simp only [beq_iff_eq] at h); (try simp only [decide_eq_true_eq, decide_eq_false_iff_not] at *); simp_all [wk, wkL, wkO, bytesM, bD, rexM, memM, fourM, w_u8])

end Go.Proofs.Ytkannibhndjgeaa
