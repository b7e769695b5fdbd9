/- Contracts and plain laws that a statement's proof leans on (texts merged: XD1, MdP3, XD1A, XOf, XOfA, XMay0). -/
import Derived.Test.YtglcgdnaanhddaaGreatN05
import Derived.Test.YtglcgdnaanhddaaGreatN06
set_option linter.unusedVariables false
set_option linter.unusedSimpArgs false
set_option maxRecDepth 100000
set_option maxHeartbeats 8000000
namespace Go.Proofs.YtglcgdnaanhddaaGreat
open Go Go.Ev
abbrev rB (s : RawS) : Ob := .box [.int .i8 s.w, .bool s.long, .int .u8 s.code, .int .i8 s.r, .int .i8 s.m, .int .i64 s.disp, .int .i64 s.imm, .int .i64 s.small, .int .i64 s.near, .int .i64 s.jump, .int .i8 s.high]
theorem as1_ok (s : RawS) (k : Int) (k0 : 0 ≤ k) (k1 : k ≤ 31) (v0 : 0 ≤ s.code) (v1 : s.code ≤ 255) (cd nm : Int) (z0 z1 z2 z3 z4 z5 z6 z8 z9 : Ob)  : CallRun Tryz.prog 84 ([.ptr false 7 0, .int .i8 (IntKind.i8.wrap k), .agg [.int .i8 1, .int .u8 cd, .int .i8 nm]]) ([z0, z1, z2, z3, z4, z5, z6, rB s, z8, z9]) (xD (IntKind.i8.wrap k) (RawS.w s) (RawS.m s) (RawS.r s) 0 0 0 0) ([z0, z1, z2, z3, z4, z5, z6, rB s, z8, z9, .dead, .dead, .dead]) := by
 exact (CallRun.of_eval (keep := [0, 1, 2, 3, 4, 5, 6, 7, 8, 9]) (d := (xD (IntKind.wrap IntKind.i8 k) (RawS.w s) (RawS.m s) (RawS.r s) 0 0 0 0)) (s' := [z0, z1, z2, z3, z4, z5, z6, rB s, z8, z9, .dead, .dead, .dead]) mixed [tT] (by kernel_rfl)).cast (by first | (rfl; done) | (exfalso; (try simp only [decide_eq_true_eq, decide_eq_false_iff_not, beq_iff_eq, beq_eq_false_iff_ne, bne_iff_ne, ne_eq] at *); first | omega | contradiction)) (by rfl)
theorem as2_ok (s : RawS) (k : Int) (k0 : 0 ≤ k) (k1 : k ≤ 31) (v0 : 0 ≤ s.code) (v1 : s.code ≤ 255) (cd nm : Int) (z0 z1 z2 z3 z4 z5 z6 z8 z9 : Ob)  : CallRun Tryz.prog 84 ([.ptr false 7 0, .int .i8 (IntKind.i8.wrap k), .agg [.int .i8 2, .int .u8 cd, .int .i8 nm]]) ([z0, z1, z2, z3, z4, z5, z6, rB s, z8, z9]) (xD (IntKind.i8.wrap k) (RawS.w s) (RawS.r s) (RawS.m s) 0 0 0 0) ([z0, z1, z2, z3, z4, z5, z6, rB s, z8, z9, .dead, .dead, .dead]) := by
 exact (CallRun.of_eval (keep := [0, 1, 2, 3, 4, 5, 6, 7, 8, 9]) (d := (xD (IntKind.wrap IntKind.i8 k) (RawS.w s) (RawS.r s) (RawS.m s) 0 0 0 0)) (s' := [z0, z1, z2, z3, z4, z5, z6, rB s, z8, z9, .dead, .dead, .dead]) mixed [tF, tT] (by kernel_rfl)).cast (by first | (rfl; done) | (exfalso; (try simp only [decide_eq_true_eq, decide_eq_false_iff_not, beq_iff_eq, beq_eq_false_iff_ne, bne_iff_ne, ne_eq] at *); first | omega | contradiction)) (by rfl)
theorem as3n_ok (s : RawS) (k : Int) (k0 : 0 ≤ k) (k1 : k ≤ 31) (v0 : 0 ≤ s.code) (v1 : s.code ≤ 255) (cd nm : Int) (z0 z1 z2 z3 z4 z5 z6 z8 z9 : Ob) (hk : ¬ k = 1)  : CallRun Tryz.prog 84 ([.ptr false 7 0, .int .i8 (IntKind.i8.wrap k), .agg [.int .i8 3, .int .u8 cd, .int .i8 nm]]) ([z0, z1, z2, z3, z4, z5, z6, rB s, z8, z9]) (xD (IntKind.i8.wrap k) (RawS.w s) (RawS.m s) 0 0 0 (RawS.imm s) 0) ([z0, z1, z2, z3, z4, z5, z6, rB s, z8, z9, .dead, .dead, .dead]) := by
 exact (CallRun.of_eval (keep := [0, 1, 2, 3, 4, 5, 6, 7, 8, 9]) (d := (xD (IntKind.wrap IntKind.i8 k) (RawS.w s) (RawS.m s) 0 0 0 (RawS.imm s) 0)) (s' := [z0, z1, z2, z3, z4, z5, z6, rB s, z8, z9, .dead, .dead, .dead]) mixed ([tF, tF, tF, tT, tC (eT (by (simp only [sl2] at *; omega) : (IntKind.wrap IntKind.i8 k == 1) = false)), tC (eT (by (simp only [sl2] at *; omega) : (IntKind.wrap IntKind.i8 k == 1) = false)), tC (eT (by (simp only [sl2] at *; omega) : (IntKind.wrap IntKind.i8 k == 1) = false)), tC (eT (by (simp only [sl2] at *; omega) : (IntKind.wrap IntKind.i8 k == 1) = false)), tC (eT (by (simp only [sl2] at *; omega) : (IntKind.wrap IntKind.i8 k == 1) = false)), tC (by (simp only [sl2] at *; omega) : (IntKind.wrap IntKind.i8 k == 1) = false), tF, tF, tF, tF, tF, tF] ++ [tF]) (by kernel_rfl)).cast (by first | (rfl; done) | (exfalso; (try simp only [decide_eq_true_eq, decide_eq_false_iff_not, beq_iff_eq, beq_eq_false_iff_ne, bne_iff_ne, ne_eq] at *); first | omega | contradiction)) (by rfl)
theorem as3l_ok (s : RawS) (k : Int) (k0 : 0 ≤ k) (k1 : k ≤ 31) (v0 : 0 ≤ s.code) (v1 : s.code ≤ 255) (cd nm : Int) (z0 z1 z2 z3 z4 z5 z6 z8 z9 : Ob) (hk : k = 1) (hc : s.code < 184)  : CallRun Tryz.prog 84 ([.ptr false 7 0, .int .i8 (IntKind.i8.wrap k), .agg [.int .i8 3, .int .u8 cd, .int .i8 nm]]) ([z0, z1, z2, z3, z4, z5, z6, rB s, z8, z9]) (xD (IntKind.i8.wrap k) (RawS.w s) (RawS.m s) 0 0 0 (RawS.imm s) 0) ([z0, z1, z2, z3, z4, z5, z6, rB s, z8, z9, .dead, .dead, .dead]) := by
 exact (CallRun.of_eval (keep := [0, 1, 2, 3, 4, 5, 6, 7, 8, 9]) (d := (xD (IntKind.wrap IntKind.i8 k) (RawS.w s) (RawS.m s) 0 0 0 (RawS.imm s) 0)) (s' := [z0, z1, z2, z3, z4, z5, z6, rB s, z8, z9, .dead, .dead, .dead]) mixed ([tF, tF, tF, tT, tC (eT (eqI 1 true (by (simp only [sl2] at *; omega) : IntKind.wrap IntKind.i8 k = 1))), tC (eT (eqI 1 true (by (simp only [sl2] at *; omega) : IntKind.wrap IntKind.i8 k = 1))), tC (eT (eqI 1 true (by (simp only [sl2] at *; omega) : IntKind.wrap IntKind.i8 k = 1))), tC (eT (eqI 1 true (by (simp only [sl2] at *; omega) : IntKind.wrap IntKind.i8 k = 1))), tC (eT (eqI 1 true (by (simp only [sl2] at *; omega) : IntKind.wrap IntKind.i8 k = 1))), tC (eqI 1 true (by (simp only [sl2] at *; omega) : IntKind.wrap IntKind.i8 k = 1)), tC (eT (leL 184 (decide_eq_true hc))), tC (eT (leL 184 (decide_eq_true hc))), tC (eT (leL 184 (decide_eq_true hc))), tC (eT (leL 184 (decide_eq_true hc))), tC (eT (leL 184 (decide_eq_true hc))), tC (leL 184 (decide_eq_true hc))] ++ [tF]) (by kernel_rfl)).cast (by first | (rfl; done) | (exfalso; (try simp only [decide_eq_true_eq, decide_eq_false_iff_not, beq_iff_eq, beq_eq_false_iff_ne, bne_iff_ne, ne_eq] at *); first | omega | contradiction)) (by rfl)
theorem as3h_ok (s : RawS) (k : Int) (k0 : 0 ≤ k) (k1 : k ≤ 31) (v0 : 0 ≤ s.code) (v1 : s.code ≤ 255) (cd nm : Int) (z0 z1 z2 z3 z4 z5 z6 z8 z9 : Ob) (hk : k = 1) (hc : 192 ≤ s.code)  : CallRun Tryz.prog 84 ([.ptr false 7 0, .int .i8 (IntKind.i8.wrap k), .agg [.int .i8 3, .int .u8 cd, .int .i8 nm]]) ([z0, z1, z2, z3, z4, z5, z6, rB s, z8, z9]) (xD (IntKind.i8.wrap k) (RawS.w s) (RawS.m s) 0 0 0 (RawS.imm s) 0) ([z0, z1, z2, z3, z4, z5, z6, rB s, z8, z9, .dead, .dead, .dead]) := by
 exact (CallRun.of_eval (keep := [0, 1, 2, 3, 4, 5, 6, 7, 8, 9]) (d := (xD (IntKind.wrap IntKind.i8 k) (RawS.w s) (RawS.m s) 0 0 0 (RawS.imm s) 0)) (s' := [z0, z1, z2, z3, z4, z5, z6, rB s, z8, z9, .dead, .dead, .dead]) mixed ([tF, tF, tF, tT, tC (eT (eqI 1 true (by (simp only [sl2] at *; omega) : IntKind.wrap IntKind.i8 k = 1))), tC (eT (eqI 1 true (by (simp only [sl2] at *; omega) : IntKind.wrap IntKind.i8 k = 1))), tC (eT (eqI 1 true (by (simp only [sl2] at *; omega) : IntKind.wrap IntKind.i8 k = 1))), tC (eT (eqI 1 true (by (simp only [sl2] at *; omega) : IntKind.wrap IntKind.i8 k = 1))), tC (eT (eqI 1 true (by (simp only [sl2] at *; omega) : IntKind.wrap IntKind.i8 k = 1))), tC (eqI 1 true (by (simp only [sl2] at *; omega) : IntKind.wrap IntKind.i8 k = 1)), tC (eT (leL 184 (ltD 184 (decide_eq_false (Int.not_lt.2 hc))))), tC (eT (leL 184 (ltD 184 (decide_eq_false (Int.not_lt.2 hc))))), tC (eT (leL 184 (ltD 184 (decide_eq_false (Int.not_lt.2 hc))))), tC (eT (leL 184 (ltD 184 (decide_eq_false (Int.not_lt.2 hc))))), tC (eT (leL 184 (ltD 184 (decide_eq_false (Int.not_lt.2 hc))))), tC (leL 184 (ltD 184 (decide_eq_false (Int.not_lt.2 hc))))] ++ [tC (decide_eq_false (Int.not_lt.2 hc))]) (by kernel_rfl)).cast (by first | (rfl; done) | (exfalso; (try simp only [decide_eq_true_eq, decide_eq_false_iff_not, beq_iff_eq, beq_eq_false_iff_ne, bne_iff_ne, ne_eq] at *); first | omega | contradiction)) (by rfl)
theorem as3m_ok (s : RawS) (k : Int) (k0 : 0 ≤ k) (k1 : k ≤ 31) (v0 : 0 ≤ s.code) (v1 : s.code ≤ 255) (cd nm : Int) (z0 z1 z2 z3 z4 z5 z6 z8 z9 : Ob) (hk : k = 1) (hc : 184 ≤ s.code) (hd : s.code < 192) (hh : s.high = 0 ∨ s.high = 8)  : CallRun Tryz.prog 84 ([.ptr false 7 0, .int .i8 (IntKind.i8.wrap k), .agg [.int .i8 3, .int .u8 cd, .int .i8 nm]]) ([z0, z1, z2, z3, z4, z5, z6, rB s, z8, z9]) (xD (IntKind.i8.wrap k) (RawS.w s) (s.code % 8 + s.high) 0 0 0 (RawS.near s) 0) ([z0, z1, z2, z3, z4, z5, z6, rB s, z8, z9, .dead, .dead, .dead]) := by
 exact (CallRun.of_eval (keep := [0, 1, 2, 3, 4, 5, 6, 7, 8, 9]) (d := (xD (IntKind.wrap IntKind.i8 k) (RawS.w s) (IntKind.wrap IntKind.i8 (↑(BitVec.toNat (BitVec.ofInt (8 : Nat) (IntKind.wrap IntKind.i8 (IntKind.wrap IntKind.u8 (↑(BitVec.toNat (BitVec.ofInt (8 : Nat) (RawS.code s) &&& BitVec.ofInt (8 : Nat) 7)) : Int))) ||| BitVec.ofInt (8 : Nat) (RawS.high s))) : Int)) 0 0 0 (RawS.near s) 0)) (s' := [z0, z1, z2, z3, z4, z5, z6, rB s, z8, z9, .dead, .dead, .dead]) mixed ([tF, tF, tF, tT, tC (eT (eqI 1 true (by (simp only [sl2] at *; omega) : IntKind.wrap IntKind.i8 k = 1))), tC (eT (eqI 1 true (by (simp only [sl2] at *; omega) : IntKind.wrap IntKind.i8 k = 1))), tC (eT (eqI 1 true (by (simp only [sl2] at *; omega) : IntKind.wrap IntKind.i8 k = 1))), tC (eT (eqI 1 true (by (simp only [sl2] at *; omega) : IntKind.wrap IntKind.i8 k = 1))), tC (eT (eqI 1 true (by (simp only [sl2] at *; omega) : IntKind.wrap IntKind.i8 k = 1))), tC (eqI 1 true (by (simp only [sl2] at *; omega) : IntKind.wrap IntKind.i8 k = 1)), tC (eT (leL 184 (decide_eq_false (Int.not_lt.2 hc)))), tC (eT (leL 184 (decide_eq_false (Int.not_lt.2 hc)))), tC (eT (leL 184 (decide_eq_false (Int.not_lt.2 hc)))), tC (eT (leL 184 (decide_eq_false (Int.not_lt.2 hc)))), tC (eT (leL 184 (decide_eq_false (Int.not_lt.2 hc)))), tC (leL 184 (decide_eq_false (Int.not_lt.2 hc)))] ++ [tC (decide_eq_true hd)]) (by kernel_rfl)).cast (by first | (simp only [xD, D.agg.injEq, List.cons.injEq, D.int.injEq, true_and, and_true]; exact low_or v0 v1 hh; done) | (exfalso; (try simp only [decide_eq_true_eq, decide_eq_false_iff_not, beq_iff_eq, beq_eq_false_iff_ne, bne_iff_ne, ne_eq] at *); first | omega | contradiction)) (by rfl)
theorem as4_ok (s : RawS) (k : Int) (k0 : 0 ≤ k) (k1 : k ≤ 31) (v0 : 0 ≤ s.code) (v1 : s.code ≤ 255) (cd nm : Int) (z0 z1 z2 z3 z4 z5 z6 z8 z9 : Ob)  : CallRun Tryz.prog 84 ([.ptr false 7 0, .int .i8 (IntKind.i8.wrap k), .agg [.int .i8 4, .int .u8 cd, .int .i8 nm]]) ([z0, z1, z2, z3, z4, z5, z6, rB s, z8, z9]) (xD (IntKind.i8.wrap k) (RawS.w s) (RawS.m s) 0 0 0 (RawS.small s) 0) ([z0, z1, z2, z3, z4, z5, z6, rB s, z8, z9, .dead, .dead, .dead]) := by
 exact (CallRun.of_eval (keep := [0, 1, 2, 3, 4, 5, 6, 7, 8, 9]) (d := (xD (IntKind.wrap IntKind.i8 k) (RawS.w s) (RawS.m s) 0 0 0 (RawS.small s) 0)) (s' := [z0, z1, z2, z3, z4, z5, z6, rB s, z8, z9, .dead, .dead, .dead]) mixed [tF, tF, tF, tF, tT] (by kernel_rfl)).cast (by first | (rfl; done) | (exfalso; (try simp only [decide_eq_true_eq, decide_eq_false_iff_not, beq_iff_eq, beq_eq_false_iff_ne, bne_iff_ne, ne_eq] at *); first | omega | contradiction)) (by rfl)
theorem as5_ok (s : RawS) (k : Int) (k0 : 0 ≤ k) (k1 : k ≤ 31) (v0 : 0 ≤ s.code) (v1 : s.code ≤ 255) (cd nm : Int) (z0 z1 z2 z3 z4 z5 z6 z8 z9 : Ob)  : CallRun Tryz.prog 84 ([.ptr false 7 0, .int .i8 (IntKind.i8.wrap k), .agg [.int .i8 5, .int .u8 cd, .int .i8 nm]]) ([z0, z1, z2, z3, z4, z5, z6, rB s, z8, z9]) (xD (IntKind.i8.wrap k) (RawS.w s) (RawS.m s) 0 0 0 0 0) ([z0, z1, z2, z3, z4, z5, z6, rB s, z8, z9, .dead, .dead, .dead]) := by
 exact (CallRun.of_eval (keep := [0, 1, 2, 3, 4, 5, 6, 7, 8, 9]) (d := (xD (IntKind.wrap IntKind.i8 k) (RawS.w s) (RawS.m s) 0 0 0 0 0)) (s' := [z0, z1, z2, z3, z4, z5, z6, rB s, z8, z9, .dead, .dead, .dead]) mixed [tF, tF, tF, tF, tF, tT] (by kernel_rfl)).cast (by first | (rfl; done) | (exfalso; (try simp only [decide_eq_true_eq, decide_eq_false_iff_not, beq_iff_eq, beq_eq_false_iff_ne, bne_iff_ne, ne_eq] at *); first | omega | contradiction)) (by rfl)
theorem as6_ok (s : RawS) (k : Int) (k0 : 0 ≤ k) (k1 : k ≤ 31) (v0 : 0 ≤ s.code) (v1 : s.code ≤ 255) (cd nm : Int) (z0 z1 z2 z3 z4 z5 z6 z8 z9 : Ob)  : CallRun Tryz.prog 84 ([.ptr false 7 0, .int .i8 (IntKind.i8.wrap k), .agg [.int .i8 6, .int .u8 cd, .int .i8 nm]]) ([z0, z1, z2, z3, z4, z5, z6, rB s, z8, z9]) (xD (IntKind.i8.wrap k) (RawS.w s) (RawS.r s) (RawS.m s) 0 0 0 (signed1 (s.code - cd))) ([z0, z1, z2, z3, z4, z5, z6, rB s, z8, z9, .dead, .dead, .dead]) := by
 exact (CallRun.of_eval (keep := [0, 1, 2, 3, 4, 5, 6, 7, 8, 9]) (d := (xD (IntKind.wrap IntKind.i8 k) (RawS.w s) (RawS.r s) (RawS.m s) 0 0 0 (IntKind.wrap IntKind.i8 (IntKind.wrap IntKind.u8 (RawS.code s - cd))))) (s' := [z0, z1, z2, z3, z4, z5, z6, rB s, z8, z9, .dead, .dead, .dead]) mixed [tF, tF, tT] (by kernel_rfl)).cast (by first | (simp only [xD, D.agg.injEq, List.cons.injEq, D.int.injEq, true_and, and_true]; rw [w_i8, w_u8, signed1]; omega; done) | (exfalso; (try simp only [decide_eq_true_eq, decide_eq_false_iff_not, beq_iff_eq, beq_eq_false_iff_ne, bne_iff_ne, ne_eq] at *); first | omega | contradiction)) (by rfl)
theorem as7t_ok (s : RawS) (k : Int) (k0 : 0 ≤ k) (k1 : k ≤ 31) (v0 : 0 ≤ s.code) (v1 : s.code ≤ 255) (cd nm : Int) (z0 z1 z2 z3 z4 z5 z6 z8 z9 : Ob) (hl : s.long = true)  : CallRun Tryz.prog 84 ([.ptr false 7 0, .int .i8 (IntKind.i8.wrap k), .agg [.int .i8 7, .int .u8 cd, .int .i8 nm]]) ([z0, z1, z2, z3, z4, z5, z6, .box [.int .i8 (RawS.w s), .bool (RawS.long s), .int .u8 (RawS.code s), .int .i8 (RawS.r s), .int .i8 (RawS.m s), .int .i64 (RawS.disp s), .int .i64 (RawS.imm s), .int .i64 (RawS.small s), .int .i64 (RawS.near s), .int .i64 (RawS.jump s), .int .i8 (RawS.high s)], z8, z9]) (xD (IntKind.i8.wrap k) (if s.code % 2 = 1 then 16 else 8) (RawS.r s) 0 (RawS.m s) (RawS.disp s) 0 0) ([z0, z1, z2, z3, z4, z5, z6, .box [.int .i8 (RawS.w s), .bool (RawS.long s), .int .u8 (RawS.code s), .int .i8 (RawS.r s), .int .i8 (RawS.m s), .int .i64 (RawS.disp s), .int .i64 (RawS.imm s), .int .i64 (RawS.small s), .int .i64 (RawS.near s), .int .i64 (RawS.jump s), .int .i8 (RawS.high s)], z8, z9, .dead, .dead, .dead]) := by
 exact (CallRun.of_eval (keep := [0, 1, 2, 3, 4, 5, 6, 7, 8, 9]) (d := (xD (IntKind.wrap IntKind.i8 k) (IntKind.wrap IntKind.i8 (8 * 2 ^ min (Int.toNat (IntKind.wrap IntKind.u8 (↑(BitVec.toNat (BitVec.ofInt (8 : Nat) (RawS.code s) &&& BitVec.ofInt (8 : Nat) 1)) : Int))) (8 : Nat))) (RawS.r s) 0 (RawS.m s) (RawS.disp s) 0 0)) (s' := [z0, z1, z2, z3, z4, z5, z6, rB s, z8, z9, .dead, .dead, .dead]) mixed [tF, tF, tF, tF, tF, tF, tT, tC hl, tT] (by kernel_rfl)).cast (by first | (simp only [xD, D.agg.injEq, List.cons.injEq, D.int.injEq, true_and, and_true]; exact shl_one v0 v1; done) | (exfalso; (try simp only [decide_eq_true_eq, decide_eq_false_iff_not, beq_iff_eq, beq_eq_false_iff_ne, bne_iff_ne, ne_eq] at *); first | omega | contradiction)) (by rfl)
theorem as7f_ok (s : RawS) (k : Int) (k0 : 0 ≤ k) (k1 : k ≤ 31) (v0 : 0 ≤ s.code) (v1 : s.code ≤ 255) (cd nm : Int) (z0 z1 z2 z3 z4 z5 z6 z8 z9 : Ob) (hl : s.long = false)  : CallRun Tryz.prog 84 ([.ptr false 7 0, .int .i8 (IntKind.i8.wrap k), .agg [.int .i8 7, .int .u8 cd, .int .i8 nm]]) ([z0, z1, z2, z3, z4, z5, z6, .box [.int .i8 (RawS.w s), .bool (RawS.long s), .int .u8 (RawS.code s), .int .i8 (RawS.r s), .int .i8 (RawS.m s), .int .i64 (RawS.disp s), .int .i64 (RawS.imm s), .int .i64 (RawS.small s), .int .i64 (RawS.near s), .int .i64 (RawS.jump s), .int .i8 (RawS.high s)], z8, z9]) (xD (IntKind.i8.wrap k) (RawS.w s) (RawS.r s) 0 (RawS.m s) (RawS.disp s) 0 0) ([z0, z1, z2, z3, z4, z5, z6, .box [.int .i8 (RawS.w s), .bool (RawS.long s), .int .u8 (RawS.code s), .int .i8 (RawS.r s), .int .i8 (RawS.m s), .int .i64 (RawS.disp s), .int .i64 (RawS.imm s), .int .i64 (RawS.small s), .int .i64 (RawS.near s), .int .i64 (RawS.jump s), .int .i8 (RawS.high s)], z8, z9, .dead, .dead, .dead]) := by
 exact (CallRun.of_eval (keep := [0, 1, 2, 3, 4, 5, 6, 7, 8, 9]) (d := (xD (IntKind.wrap IntKind.i8 k) (RawS.w s) (RawS.r s) 0 (RawS.m s) (RawS.disp s) 0 0)) (s' := [z0, z1, z2, z3, z4, z5, z6, rB s, z8, z9, .dead, .dead, .dead]) mixed [tF, tF, tF, tF, tF, tF, tT, tC hl] (by kernel_rfl)).cast (by first | (rfl; done) | (exfalso; (try simp only [decide_eq_true_eq, decide_eq_false_iff_not, beq_iff_eq, beq_eq_false_iff_ne, bne_iff_ne, ne_eq] at *); first | omega | contradiction)) (by rfl)
theorem as8t_ok (s : RawS) (k : Int) (k0 : 0 ≤ k) (k1 : k ≤ 31) (v0 : 0 ≤ s.code) (v1 : s.code ≤ 255) (cd nm : Int) (z0 z1 z2 z3 z4 z5 z6 z8 z9 : Ob) (hc : s.code = 136)  : CallRun Tryz.prog 84 ([.ptr false 7 0, .int .i8 (IntKind.i8.wrap k), .agg [.int .i8 8, .int .u8 cd, .int .i8 nm]]) ([z0, z1, z2, z3, z4, z5, z6, rB s, z8, z9]) (xD (IntKind.i8.wrap k) 8 0 (RawS.r s) (RawS.m s) (RawS.disp s) 0 0) ([z0, z1, z2, z3, z4, z5, z6, rB s, z8, z9, .dead, .dead, .dead]) := by
 by_cases h0 : RawS.code s = 136
 ·exact (CallRun.of_eval (keep := [0, 1, 2, 3, 4, 5, 6, 7, 8, 9]) (d := (xD (IntKind.wrap IntKind.i8 k) 8 0 (RawS.r s) (RawS.m s) (RawS.disp s) 0 0)) (s' := [z0, z1, z2, z3, z4, z5, z6, rB s, z8, z9, .dead, .dead, .dead]) mixed [tF, tF, tF, tF, tF, tF, tF, tT, tC (eqI 136 true h0)] (by kernel_rfl)).cast (by first | (rfl; done) | (exfalso; (try simp only [decide_eq_true_eq, decide_eq_false_iff_not, beq_iff_eq, beq_eq_false_iff_ne, bne_iff_ne, ne_eq] at *); first | omega | contradiction)) (by rfl)
 exact (CallRun.of_eval (keep := [0, 1, 2, 3, 4, 5, 6, 7, 8, 9]) (d := (xD (IntKind.wrap IntKind.i8 k) (RawS.w s) 0 (RawS.r s) (RawS.m s) (RawS.disp s) 0 0)) (s' := [z0, z1, z2, z3, z4, z5, z6, rB s, z8, z9, .dead, .dead, .dead]) mixed [tF, tF, tF, tF, tF, tF, tF, tT, tC (neOf h0)] (by kernel_rfl)).cast (by first | (rfl; done) | (exfalso; (try simp only [decide_eq_true_eq, decide_eq_false_iff_not, beq_iff_eq, beq_eq_false_iff_ne, bne_iff_ne, ne_eq] at *); first | omega | contradiction)) (by rfl)
theorem as8f_ok (s : RawS) (k : Int) (k0 : 0 ≤ k) (k1 : k ≤ 31) (v0 : 0 ≤ s.code) (v1 : s.code ≤ 255) (cd nm : Int) (z0 z1 z2 z3 z4 z5 z6 z8 z9 : Ob) (hc : ¬ s.code = 136)  : CallRun Tryz.prog 84 ([.ptr false 7 0, .int .i8 (IntKind.i8.wrap k), .agg [.int .i8 8, .int .u8 cd, .int .i8 nm]]) ([z0, z1, z2, z3, z4, z5, z6, rB s, z8, z9]) (xD (IntKind.i8.wrap k) (RawS.w s) 0 (RawS.r s) (RawS.m s) (RawS.disp s) 0 0) ([z0, z1, z2, z3, z4, z5, z6, rB s, z8, z9, .dead, .dead, .dead]) := by
 exact (CallRun.of_eval (keep := [0, 1, 2, 3, 4, 5, 6, 7, 8, 9]) (d := (xD (IntKind.wrap IntKind.i8 k) (RawS.w s) 0 (RawS.r s) (RawS.m s) (RawS.disp s) 0 0)) (s' := [z0, z1, z2, z3, z4, z5, z6, rB s, z8, z9, .dead, .dead, .dead]) mixed [tF, tF, tF, tF, tF, tF, tF, tT, tC (by (simp only [sl2] at *; omega) : (RawS.code s == 136) = false)] (by kernel_rfl)).cast (by first | (rfl; done) | (exfalso; (try simp only [decide_eq_true_eq, decide_eq_false_iff_not, beq_iff_eq, beq_eq_false_iff_ne, bne_iff_ne, ne_eq] at *); first | omega | contradiction)) (by rfl)
theorem as9l_ok (s : RawS) (k : Int) (k0 : 0 ≤ k) (k1 : k ≤ 31) (v0 : 0 ≤ s.code) (v1 : s.code ≤ 255) (cd nm : Int) (z0 z1 z2 z3 z4 z5 z6 z8 z9 : Ob) (hl : s.long = true)  : CallRun Tryz.prog 84 ([.ptr false 7 0, .int .i8 (IntKind.i8.wrap k), .agg [.int .i8 9, .int .u8 cd, .int .i8 nm]]) ([z0, z1, z2, z3, z4, z5, z6, .box [.int .i8 (RawS.w s), .bool (RawS.long s), .int .u8 (RawS.code s), .int .i8 (RawS.r s), .int .i8 (RawS.m s), .int .i64 (RawS.disp s), .int .i64 (RawS.imm s), .int .i64 (RawS.small s), .int .i64 (RawS.near s), .int .i64 (RawS.jump s), .int .i8 (RawS.high s)], z8, z9]) (xD (IntKind.i8.wrap k) 32 0 0 0 0 (RawS.near s) 0) ([z0, z1, z2, z3, z4, z5, z6, .box [.int .i8 (RawS.w s), .bool (RawS.long s), .int .u8 (RawS.code s), .int .i8 (RawS.r s), .int .i8 (RawS.m s), .int .i64 (RawS.disp s), .int .i64 (RawS.imm s), .int .i64 (RawS.small s), .int .i64 (RawS.near s), .int .i64 (RawS.jump s), .int .i8 (RawS.high s)], z8, z9, .dead, .dead, .dead]) := by
 exact (CallRun.of_eval (keep := [0, 1, 2, 3, 4, 5, 6, 7, 8, 9]) (d := (xD (IntKind.wrap IntKind.i8 k) 32 0 0 0 0 (RawS.near s) 0)) (s' := [z0, z1, z2, z3, z4, z5, z6, rB s, z8, z9, .dead, .dead, .dead]) mixed ([tF, tF, tF, tF, tF, tF, tF, tF, tT, tT, tF, tC (eT (nt hl)), tC (eT (nt hl)), tC (eT (nt hl)), tC (eT (nt hl)), tC (eT (nt hl))] ++ [tC (nt hl), tF]) (by kernel_rfl)).cast (by first | (rfl; done) | (exfalso; (try simp only [decide_eq_true_eq, decide_eq_false_iff_not, beq_iff_eq, beq_eq_false_iff_ne, bne_iff_ne, ne_eq] at *); first | omega | contradiction)) (by rfl)
theorem as9n_ok (s : RawS) (k : Int) (k0 : 0 ≤ k) (k1 : k ≤ 31) (v0 : 0 ≤ s.code) (v1 : s.code ≤ 255) (cd nm : Int) (z0 z1 z2 z3 z4 z5 z6 z8 z9 : Ob) (hl : s.long = false) (hc : s.code = 233)  : CallRun Tryz.prog 84 ([.ptr false 7 0, .int .i8 (IntKind.i8.wrap k), .agg [.int .i8 9, .int .u8 cd, .int .i8 nm]]) ([z0, z1, z2, z3, z4, z5, z6, .box [.int .i8 (RawS.w s), .bool (RawS.long s), .int .u8 (RawS.code s), .int .i8 (RawS.r s), .int .i8 (RawS.m s), .int .i64 (RawS.disp s), .int .i64 (RawS.imm s), .int .i64 (RawS.small s), .int .i64 (RawS.near s), .int .i64 (RawS.jump s), .int .i8 (RawS.high s)], z8, z9]) (xD (IntKind.i8.wrap k) 32 0 0 0 0 (RawS.near s) 0) ([z0, z1, z2, z3, z4, z5, z6, .box [.int .i8 (RawS.w s), .bool (RawS.long s), .int .u8 (RawS.code s), .int .i8 (RawS.r s), .int .i8 (RawS.m s), .int .i64 (RawS.disp s), .int .i64 (RawS.imm s), .int .i64 (RawS.small s), .int .i64 (RawS.near s), .int .i64 (RawS.jump s), .int .i8 (RawS.high s)], z8, z9, .dead, .dead, .dead]) := by
 by_cases h0 : RawS.code s = 233
 ·exact (CallRun.of_eval (keep := [0, 1, 2, 3, 4, 5, 6, 7, 8, 9]) (d := (xD (IntKind.wrap IntKind.i8 k) 32 0 0 0 0 (RawS.near s) 0)) (s' := [z0, z1, z2, z3, z4, z5, z6, rB s, z8, z9, .dead, .dead, .dead]) mixed ([tF, tF, tF, tF, tF, tF, tF, tF, tT, tT, tF, tC (eT (nt hl)), tC (eT (nt hl)), tC (eT (nt hl)), tC (eT (nt hl)), tC (eT (nt hl))] ++ [tC (nt hl), tC (nt (eqI 233 true h0))]) (by kernel_rfl)).cast (by first | (rfl; done) | (exfalso; (try simp only [decide_eq_true_eq, decide_eq_false_iff_not, beq_iff_eq, beq_eq_false_iff_ne, bne_iff_ne, ne_eq] at *); first | omega | contradiction)) (by rfl)
 exact (CallRun.of_eval (keep := [0, 1, 2, 3, 4, 5, 6, 7, 8, 9]) (d := (xD (IntKind.wrap IntKind.i8 k) 8 0 0 0 0 (RawS.jump s) 0)) (s' := [z0, z1, z2, z3, z4, z5, z6, rB s, z8, z9, .dead, .dead, .dead]) mixed ([tF, tF, tF, tF, tF, tF, tF, tF, tT, tT, tF, tC (eT (nt hl)), tC (eT (nt hl)), tC (eT (nt hl)), tC (eT (nt hl)), tC (eT (nt hl))] ++ [tC (nt hl), tC (nt (neOf h0))]) (by kernel_rfl)).cast (by first | (rfl; done) | (exfalso; (try simp only [decide_eq_true_eq, decide_eq_false_iff_not, beq_iff_eq, beq_eq_false_iff_ne, bne_iff_ne, ne_eq] at *); first | omega | contradiction)) (by rfl)
theorem as9s_ok (s : RawS) (k : Int) (k0 : 0 ≤ k) (k1 : k ≤ 31) (v0 : 0 ≤ s.code) (v1 : s.code ≤ 255) (cd nm : Int) (z0 z1 z2 z3 z4 z5 z6 z8 z9 : Ob) (hl : s.long = false) (hc : ¬ s.code = 233)  : CallRun Tryz.prog 84 ([.ptr false 7 0, .int .i8 (IntKind.i8.wrap k), .agg [.int .i8 9, .int .u8 cd, .int .i8 nm]]) ([z0, z1, z2, z3, z4, z5, z6, .box [.int .i8 (RawS.w s), .bool (RawS.long s), .int .u8 (RawS.code s), .int .i8 (RawS.r s), .int .i8 (RawS.m s), .int .i64 (RawS.disp s), .int .i64 (RawS.imm s), .int .i64 (RawS.small s), .int .i64 (RawS.near s), .int .i64 (RawS.jump s), .int .i8 (RawS.high s)], z8, z9]) (xD (IntKind.i8.wrap k) 8 0 0 0 0 (RawS.jump s) 0) ([z0, z1, z2, z3, z4, z5, z6, .box [.int .i8 (RawS.w s), .bool (RawS.long s), .int .u8 (RawS.code s), .int .i8 (RawS.r s), .int .i8 (RawS.m s), .int .i64 (RawS.disp s), .int .i64 (RawS.imm s), .int .i64 (RawS.small s), .int .i64 (RawS.near s), .int .i64 (RawS.jump s), .int .i8 (RawS.high s)], z8, z9, .dead, .dead, .dead]) := by
 exact (CallRun.of_eval (keep := [0, 1, 2, 3, 4, 5, 6, 7, 8, 9]) (d := (xD (IntKind.wrap IntKind.i8 k) 8 0 0 0 0 (RawS.jump s) 0)) (s' := [z0, z1, z2, z3, z4, z5, z6, rB s, z8, z9, .dead, .dead, .dead]) mixed ([tF, tF, tF, tF, tF, tF, tF, tF, tT, tT, tF, tC (eT (nt hl)), tC (eT (nt hl)), tC (eT (nt hl)), tC (eT (nt hl)), tC (eT (nt hl))] ++ [tC (nt hl), tC (nt (by (simp only [sl2] at *; omega) : (RawS.code s == 233) = false))]) (by kernel_rfl)).cast (by first | (rfl; done) | (exfalso; (try simp only [decide_eq_true_eq, decide_eq_false_iff_not, beq_iff_eq, beq_eq_false_iff_ne, bne_iff_ne, ne_eq] at *); first | omega | contradiction)) (by rfl)
theorem as10l_ok (s : RawS) (k : Int) (k0 : 0 ≤ k) (k1 : k ≤ 31) (v0 : 0 ≤ s.code) (v1 : s.code ≤ 255) (cd nm : Int) (z0 z1 z2 z3 z4 z5 z6 z8 z9 : Ob) (hl : s.long = true)  : CallRun Tryz.prog 84 ([.ptr false 7 0, .int .i8 (IntKind.i8.wrap k), .agg [.int .i8 10, .int .u8 cd, .int .i8 nm]]) ([z0, z1, z2, z3, z4, z5, z6, .box [.int .i8 (RawS.w s), .bool (RawS.long s), .int .u8 (RawS.code s), .int .i8 (RawS.r s), .int .i8 (RawS.m s), .int .i64 (RawS.disp s), .int .i64 (RawS.imm s), .int .i64 (RawS.small s), .int .i64 (RawS.near s), .int .i64 (RawS.jump s), .int .i8 (RawS.high s)], z8, z9]) (xD (IntKind.i8.wrap k) 32 0 0 0 0 (RawS.near s) (s.code % 16)) ([z0, z1, z2, z3, z4, z5, z6, .box [.int .i8 (RawS.w s), .bool (RawS.long s), .int .u8 (RawS.code s), .int .i8 (RawS.r s), .int .i8 (RawS.m s), .int .i64 (RawS.disp s), .int .i64 (RawS.imm s), .int .i64 (RawS.small s), .int .i64 (RawS.near s), .int .i64 (RawS.jump s), .int .i8 (RawS.high s)], z8, z9, .dead, .dead, .dead]) := by
 exact (CallRun.of_eval (keep := [0, 1, 2, 3, 4, 5, 6, 7, 8, 9]) (d := (xD (IntKind.wrap IntKind.i8 k) 32 0 0 0 0 (RawS.near s) (IntKind.wrap IntKind.i8 (IntKind.wrap IntKind.u8 (↑(BitVec.toNat (BitVec.ofInt (8 : Nat) (RawS.code s) &&& BitVec.ofInt (8 : Nat) 15)) : Int))))) (s' := [z0, z1, z2, z3, z4, z5, z6, rB s, z8, z9, .dead, .dead, .dead]) mixed ([tF, tF, tF, tF, tF, tF, tF, tF, tF, tT, tT, tC (eT (nt hl)), tC (eT (nt hl)), tC (eT (nt hl)), tC (eT (nt hl)), tC (eT (nt hl))] ++ [tC (nt hl), tF]) (by kernel_rfl)).cast (by first | (simp only [xD, D.agg.injEq, List.cons.injEq, D.int.injEq, true_and, and_true]; exact low15 v0 v1; done) | (exfalso; (try simp only [decide_eq_true_eq, decide_eq_false_iff_not, beq_iff_eq, beq_eq_false_iff_ne, bne_iff_ne, ne_eq] at *); first | omega | contradiction)) (by rfl)
theorem as10n_ok (s : RawS) (k : Int) (k0 : 0 ≤ k) (k1 : k ≤ 31) (v0 : 0 ≤ s.code) (v1 : s.code ≤ 255) (cd nm : Int) (z0 z1 z2 z3 z4 z5 z6 z8 z9 : Ob) (hl : s.long = false) (hc : s.code = 233)  : CallRun Tryz.prog 84 ([.ptr false 7 0, .int .i8 (IntKind.i8.wrap k), .agg [.int .i8 10, .int .u8 cd, .int .i8 nm]]) ([z0, z1, z2, z3, z4, z5, z6, .box [.int .i8 (RawS.w s), .bool (RawS.long s), .int .u8 (RawS.code s), .int .i8 (RawS.r s), .int .i8 (RawS.m s), .int .i64 (RawS.disp s), .int .i64 (RawS.imm s), .int .i64 (RawS.small s), .int .i64 (RawS.near s), .int .i64 (RawS.jump s), .int .i8 (RawS.high s)], z8, z9]) (xD (IntKind.i8.wrap k) 32 0 0 0 0 (RawS.near s) (s.code % 16)) ([z0, z1, z2, z3, z4, z5, z6, .box [.int .i8 (RawS.w s), .bool (RawS.long s), .int .u8 (RawS.code s), .int .i8 (RawS.r s), .int .i8 (RawS.m s), .int .i64 (RawS.disp s), .int .i64 (RawS.imm s), .int .i64 (RawS.small s), .int .i64 (RawS.near s), .int .i64 (RawS.jump s), .int .i8 (RawS.high s)], z8, z9, .dead, .dead, .dead]) := by
 by_cases h0 : RawS.code s = 233
 ·exact (CallRun.of_eval (keep := [0, 1, 2, 3, 4, 5, 6, 7, 8, 9]) (d := (xD (IntKind.wrap IntKind.i8 k) 32 0 0 0 0 (RawS.near s) (IntKind.wrap IntKind.i8 (IntKind.wrap IntKind.u8 (↑(BitVec.toNat (BitVec.ofInt (8 : Nat) (RawS.code s) &&& BitVec.ofInt (8 : Nat) 15)) : Int))))) (s' := [z0, z1, z2, z3, z4, z5, z6, rB s, z8, z9, .dead, .dead, .dead]) mixed ([tF, tF, tF, tF, tF, tF, tF, tF, tF, tT, tT, tC (eT (nt hl)), tC (eT (nt hl)), tC (eT (nt hl)), tC (eT (nt hl)), tC (eT (nt hl))] ++ [tC (nt hl), tC (nt (eqI 233 true h0))]) (by kernel_rfl)).cast (by first | (simp only [xD, D.agg.injEq, List.cons.injEq, D.int.injEq, true_and, and_true]; exact low15 v0 v1; done) | (exfalso; (try simp only [decide_eq_true_eq, decide_eq_false_iff_not, beq_iff_eq, beq_eq_false_iff_ne, bne_iff_ne, ne_eq] at *); first | omega | contradiction)) (by rfl)
 exact (CallRun.of_eval (keep := [0, 1, 2, 3, 4, 5, 6, 7, 8, 9]) (d := (xD (IntKind.wrap IntKind.i8 k) 8 0 0 0 0 (RawS.jump s) (IntKind.wrap IntKind.i8 (IntKind.wrap IntKind.u8 (↑(BitVec.toNat (BitVec.ofInt (8 : Nat) (RawS.code s) &&& BitVec.ofInt (8 : Nat) 15)) : Int))))) (s' := [z0, z1, z2, z3, z4, z5, z6, rB s, z8, z9, .dead, .dead, .dead]) mixed ([tF, tF, tF, tF, tF, tF, tF, tF, tF, tT, tT, tC (eT (nt hl)), tC (eT (nt hl)), tC (eT (nt hl)), tC (eT (nt hl)), tC (eT (nt hl))] ++ [tC (nt hl), tC (nt (neOf h0))]) (by kernel_rfl)).cast (by first | (simp only [xD, D.agg.injEq, List.cons.injEq, D.int.injEq, true_and, and_true]; exact low15 v0 v1; done) | (exfalso; (try simp only [decide_eq_true_eq, decide_eq_false_iff_not, beq_iff_eq, beq_eq_false_iff_ne, bne_iff_ne, ne_eq] at *); first | omega | contradiction)) (by rfl)
theorem as10s_ok (s : RawS) (k : Int) (k0 : 0 ≤ k) (k1 : k ≤ 31) (v0 : 0 ≤ s.code) (v1 : s.code ≤ 255) (cd nm : Int) (z0 z1 z2 z3 z4 z5 z6 z8 z9 : Ob) (hl : s.long = false) (hc : ¬ s.code = 233)  : CallRun Tryz.prog 84 ([.ptr false 7 0, .int .i8 (IntKind.i8.wrap k), .agg [.int .i8 10, .int .u8 cd, .int .i8 nm]]) ([z0, z1, z2, z3, z4, z5, z6, .box [.int .i8 (RawS.w s), .bool (RawS.long s), .int .u8 (RawS.code s), .int .i8 (RawS.r s), .int .i8 (RawS.m s), .int .i64 (RawS.disp s), .int .i64 (RawS.imm s), .int .i64 (RawS.small s), .int .i64 (RawS.near s), .int .i64 (RawS.jump s), .int .i8 (RawS.high s)], z8, z9]) (xD (IntKind.i8.wrap k) 8 0 0 0 0 (RawS.jump s) (s.code % 16)) ([z0, z1, z2, z3, z4, z5, z6, .box [.int .i8 (RawS.w s), .bool (RawS.long s), .int .u8 (RawS.code s), .int .i8 (RawS.r s), .int .i8 (RawS.m s), .int .i64 (RawS.disp s), .int .i64 (RawS.imm s), .int .i64 (RawS.small s), .int .i64 (RawS.near s), .int .i64 (RawS.jump s), .int .i8 (RawS.high s)], z8, z9, .dead, .dead, .dead]) := by
 exact (CallRun.of_eval (keep := [0, 1, 2, 3, 4, 5, 6, 7, 8, 9]) (d := (xD (IntKind.wrap IntKind.i8 k) 8 0 0 0 0 (RawS.jump s) (IntKind.wrap IntKind.i8 (IntKind.wrap IntKind.u8 (↑(BitVec.toNat (BitVec.ofInt (8 : Nat) (RawS.code s) &&& BitVec.ofInt (8 : Nat) 15)) : Int))))) (s' := [z0, z1, z2, z3, z4, z5, z6, rB s, z8, z9, .dead, .dead, .dead]) mixed ([tF, tF, tF, tF, tF, tF, tF, tF, tF, tT, tT, tC (eT (nt hl)), tC (eT (nt hl)), tC (eT (nt hl)), tC (eT (nt hl)), tC (eT (nt hl))] ++ [tC (nt hl), tC (nt (by (simp only [sl2] at *; omega) : (RawS.code s == 233) = false))]) (by kernel_rfl)).cast (by first | (simp only [xD, D.agg.injEq, List.cons.injEq, D.int.injEq, true_and, and_true]; exact low15 v0 v1; done) | (exfalso; (try simp only [decide_eq_true_eq, decide_eq_false_iff_not, beq_iff_eq, beq_eq_false_iff_ne, bne_iff_ne, ne_eq] at *); first | omega | contradiction)) (by rfl)
theorem as11_ok (s : RawS) (k : Int) (k0 : 0 ≤ k) (k1 : k ≤ 31) (v0 : 0 ≤ s.code) (v1 : s.code ≤ 255) (cd nm : Int) (z0 z1 z2 z3 z4 z5 z6 z8 z9 : Ob)  : CallRun Tryz.prog 84 ([.ptr false 7 0, .int .i8 (IntKind.i8.wrap k), .agg [.int .i8 11, .int .u8 cd, .int .i8 nm]]) ([z0, z1, z2, z3, z4, z5, z6, rB s, z8, z9]) (xD (IntKind.i8.wrap k) 0 0 0 0 0 0 0) ([z0, z1, z2, z3, z4, z5, z6, rB s, z8, z9, .dead, .dead, .dead]) := by
 exact (CallRun.of_eval (keep := [0, 1, 2, 3, 4, 5, 6, 7, 8, 9]) (d := (xD (IntKind.wrap IntKind.i8 k) 0 0 0 0 0 0 0)) (s' := [z0, z1, z2, z3, z4, z5, z6, rB s, z8, z9, .dead, .dead, .dead]) mixed [tF, tF, tF, tF, tF, tF, tF, tF, tF, tF, tT] (by kernel_rfl)).cast (by first | (rfl; done) | (exfalso; (try simp only [decide_eq_true_eq, decide_eq_false_iff_not, beq_iff_eq, beq_eq_false_iff_ne, bne_iff_ne, ne_eq] at *); first | omega | contradiction)) (by rfl)
end Go.Proofs.YtglcgdnaanhddaaGreat
namespace Go.Ev
open Go
def xsD (x : XS) : D := xD x.op x.w x.dst x.src x.base x.disp x.imm x.cc
def mayXS (x : XS) : Bool := mayX x.op x.w x.dst x.src x.base x.disp x.imm x.cc
def bytesXS (x : XS) : List Int := bytesM x.op x.w x.dst x.src x.base x.disp x.imm x.cc
theorem shape_range : ∀ n : Fin 32, 1 ≤ shapeM (n.val : Int) ∧ shapeM (n.val : Int) ≤ 11 := by decide +kernel
theorem shape_some {k : Int} (k0 : 0 ≤ k) (k1 : k ≤ 31) : shapeM k = 1 ∨ shapeM k = 2 ∨ shapeM k = 3 ∨ shapeM k = 4 ∨ shapeM k = 5 ∨ shapeM k = 6 ∨ shapeM k = 7 ∨ shapeM k = 8 ∨ shapeM k = 9 ∨ shapeM k = 10 ∨ shapeM k = 11 := by
 have := shape_range ⟨k.toNat, by omega⟩
 have e : ((⟨k.toNat, by omega⟩ : Fin 32).val : Int) = k := by simp; omega
 rw [e] at this
 omega
theorem wr_op {k : Int} (k0 : 0 ≤ k) (k1 : k ≤ 31) : IntKind.i8.wrap k = k := by rw [w_i8]; omega
theorem par_small {b : List Int} (hb : isB b) {s : RawS} (h : parM b = some s) : 0 ≤ s.code ∧ s.code ≤ 255 ∧ (s.high = 0 ∨ s.high = 8) := by
 have code : ∀ {w R M : Int} {u : List Int}, isB u → (M = 0 ∨ M = 8) → parCode w R M u = some s → 0 ≤ s.code ∧ s.code ≤ 255 ∧ (s.high = 0 ∨ s.high = 8) := by
  intro w R M u hu hM h
  match u, hu with
  | [], _ => cases h
  | c :: v, hu =>
   obtain ⟨⟨c0, c1⟩, hv⟩ := isB_cons.1 hu
   by_cases hc : c = 15
   ·subst hc
    match v, hv, h with
    | [], _, h => rw [show parCode w R M [15] = some (parRest w R M false 15 []) from rfl] at h; cases h; exact ⟨by simp [parRest], by simp [parRest], hM⟩
    | d :: z, hv, h => rw [parCode_15] at h; cases h; exact ⟨(hv d (by simp)).1, (hv d (by simp)).2, hM⟩
   ·rw [parCode_c hc] at h; cases h; exact ⟨c0, c1, hM⟩
 have rex : ∀ {w : Int} {u : List Int}, isB u → parRex w u = some s → 0 ≤ s.code ∧ s.code ≤ 255 ∧ (s.high = 0 ∨ s.high = 8) := by
  intro w u hu h
  match u, hu with
  | [], _ => cases h
  | c :: v, hu =>
   by_cases hq : rexQ c = true
   ·simp only [parRex, if_pos hq] at h
    exact code (isB_cons.1 hu).2 (by omega) h
   ·simp only [parRex, if_neg hq] at h
    exact code hu (.inl rfl) h
 unfold parM at h
 split at h
 ·exact rex (fun x hx => hb x (List.mem_of_mem_drop hx)) h
 ·exact rex hb h
def fitsX (b : List Int) (x : XS) : Bool := mayXS x && (bytesXS x).isPrefixOf b
def firstX (b : List Int) (s : RawS) : List Int → Option XS
  | [] => none
  | k :: r => if fitsX b (asM s k) then some (asM s k) else firstX b s r
def readM (b : List Int) : Option XS := if fitsX b (decM b) then some (decM b) else none
theorem fits_back {b : List Int} {x : XS} (h : fitsX b x = true) : decM b = x ∧ ∃ s, parM b = some s ∧ asM s x.op = x := by
 unfold fitsX at h
 rw [Bool.and_eq_true, List.isPrefixOf_iff_prefix] at h
 obtain ⟨hm, t, rfl⟩ := h
 exact ⟨dec_back hm t, par_back hm t⟩
theorem first_some {b : List Int} {s : RawS} {x : XS} : ∀ {l : List Int}, firstX b s l = some x → fitsX b x = true
 | [], h => by cases h
 | k :: r, h => by
  unfold firstX at h
  split at h
  ·rename_i hf; cases h; exact hf
  ·exact first_some h
theorem first_none {b : List Int} {s : RawS} : ∀ {l : List Int}, firstX b s l = none → ∀ k ∈ l, fitsX b (asM s k) = false
 | [], _, k, hk => by cases hk
 | a :: r, h, k, hk => by
  unfold firstX at h
  split at h
  ·cases h
  ·rename_i hf
   rcases List.mem_cons.1 hk with rfl | hk
   ·simpa using hf
   ·exact first_none h k hk
theorem may_op {x : XS} (h : mayXS x = true) : x.op ∈ ops32 := by
 have hs := (mayX_parts h).2
 have hsh : shapeM x.op ≠ 0 := by intro e; rw [e] at hs; simp [mayS] at hs
 have := shape_ops hsh
 unfold ops32
 simp only [List.mem_cons, List.not_mem_nil, or_false]
 exact this
theorem first_read {b : List Int} {s : RawS} (hs : parM b = some s) : firstX b s ops32 = readM b := by
 unfold readM
 cases h : firstX b s ops32 with
 | some x =>
  have hf := first_some h
  rw [(fits_back hf).1, if_pos hf]
 | none =>
  split
  ·rename_i hf
   obtain ⟨_, s', hs', ha⟩ := fits_back hf
   rw [hs] at hs'
   obtain rfl := Option.some.inj hs'
   have hop := may_op (by unfold fitsX at hf; rw [Bool.and_eq_true] at hf; exact hf.1)
   have := first_none h _ hop
   rw [ha, hf] at this
   cases this
  ·rfl
theorem read_none {b : List Int} (hs : parM b = none) : readM b = none := by
 unfold readM
 split
 ·rename_i hf
  obtain ⟨_, s', hs', _⟩ := fits_back hf
  rw [hs] at hs'
  cases hs'
 ·rfl
theorem allB (l : List Int) : (bD l).all isByte = true := by simp [bD, isByte]
theorem allB_take (l : List Int) (n : Nat) : ((bD l).take n).all isByte = true := by
 rw [show (bD l).take n = bD (l.take n) by simp [bD, List.map_take]]
 exact allB _
def formsL : List D := [.int .i8 1, .int .u8 137, .int .i8 0, .int .i8 3, .int .u8 199, .int .i8 0, .int .i8 1, .int .u8 1, .int .i8 0, .int .i8 1, .int .u8 9, .int .i8 0, .int .i8 1, .int .u8 33, .int .i8 0, .int .i8 1, .int .u8 41, .int .i8 0, .int .i8 1, .int .u8 49, .int .i8 0, .int .i8 1, .int .u8 57, .int .i8 0, .int .i8 1, .int .u8 133, .int .i8 0, .int .i8 3, .int .u8 129, .int .i8 0, .int .i8 3, .int .u8 129, .int .i8 1, .int .i8 3, .int .u8 129, .int .i8 4, .int .i8 3, .int .u8 129, .int .i8 5, .int .i8 3, .int .u8 129, .int .i8 6, .int .i8 3, .int .u8 129, .int .i8 7, .int .i8 3, .int .u8 247, .int .i8 0, .int .i8 2, .int .u8 175, .int .i8 0, .int .i8 4, .int .u8 193, .int .i8 4, .int .i8 4, .int .u8 193, .int .i8 5, .int .i8 4, .int .u8 193, .int .i8 7, .int .i8 5, .int .u8 211, .int .i8 4, .int .i8 5, .int .u8 211, .int .i8 5, .int .i8 5, .int .u8 211, .int .i8 7, .int .i8 5, .int .u8 247, .int .i8 3, .int .i8 5, .int .u8 247, .int .i8 6, .int .i8 6, .int .u8 64, .int .i8 0, .int .i8 7, .int .u8 139, .int .i8 0, .int .i8 8, .int .u8 137, .int .i8 0, .int .i8 9, .int .u8 233, .int .i8 0, .int .i8 10, .int .u8 128, .int .i8 0, .int .i8 11, .int .u8 195, .int .i8 0, .int .i8 11, .int .u8 5, .int .i8 0]
theorem formsL_at (n : Nat) (hn : n < 32) : (formsL.drop (n * 3)).take 3 = [D.int .i8 (shapeM (n : Int)), D.int .u8 (codeM (n : Int)), D.int .i8 (numM (n : Int))] := by
 have : n = 0 ∨ n = 1 ∨ n = 2 ∨ n = 3 ∨ n = 4 ∨ n = 5 ∨ n = 6 ∨ n = 7 ∨ n = 8 ∨ n = 9 ∨ n = 10 ∨ n = 11 ∨ n = 12 ∨ n = 13 ∨ n = 14 ∨ n = 15 ∨ n = 16 ∨ n = 17 ∨ n = 18 ∨ n = 19 ∨ n = 20 ∨ n = 21 ∨ n = 22 ∨ n = 23 ∨ n = 24 ∨ n = 25 ∨ n = 26 ∨ n = 27 ∨ n = 28 ∨ n = 29 ∨ n = 30 ∨ n = 31 := by omega
 rcases this with rfl | rfl | rfl | rfl | rfl | rfl | rfl | rfl | rfl | rfl | rfl | rfl | rfl | rfl | rfl | rfl | rfl | rfl | rfl | rfl | rfl | rfl | rfl | rfl | rfl | rfl | rfl | rfl | rfl | rfl | rfl | rfl <;> rfl
theorem get_form {k : Int} (k0 : 0 ≤ k) (k1 : k ≤ 31) : GetsA formsL (k.toNat * 3) 3 [D.int .i8 (shapeM k), D.int .u8 (codeM k), D.int .i8 (numM k)] := by
 have h := formsL_at k.toNat (by omega)
 have e : (k.toNat : Int) = k := by omega
 rw [e] at h
 refine ⟨h, ?_⟩
 have hl : formsL.length = 96 := rfl
 rw [hl]
 omega
theorem A255_isB {l : List Int} (h : A255 l) : isB l := by
 intro x hx
 exact h x hx
theorem bytesXS_isB {x : XS} (h : mayXS x = true) : isB (bytesXS x) := A255_isB (bytesM_range h)
theorem fit_str {own b : List Int} (ho : isB own) (hb : isB b) : (own.isPrefixOf b = true ↔ ((bD own).length : Int) ≤ ((bD b).length : Int) ∧ ((strD (bD own)).toList == (strD (List.take (Int.toNat ((List.length (bD own) : Nat) : Int)) (bD b))).toList) = true) := by
 rw [List.isPrefixOf_iff_prefix, List.prefix_iff_eq_take, len_bD, len_bD, Int.toNat_natCast, show (bD b).take own.length = bD (b.take own.length) by simp [bD, List.map_take], beq_iff_eq]
 constructor
 ·intro h
  refine ⟨?_, by rw [← h]⟩
  have := congrArg List.length h
  rw [List.length_take] at this
  omega
 ·rintro ⟨_, h2⟩
  exact bD_inj ho (fun x hx => hb x (List.mem_of_mem_take hx)) h2
theorem ops_drop {n : Nat} (hn : n < 32) : ops32.drop n = (n : Int) :: ops32.drop (n + 1) := by
 have : n = 0 ∨ n = 1 ∨ n = 2 ∨ n = 3 ∨ n = 4 ∨ n = 5 ∨ n = 6 ∨ n = 7 ∨ n = 8 ∨ n = 9 ∨ n = 10 ∨ n = 11 ∨ n = 12 ∨ n = 13 ∨ n = 14 ∨ n = 15 ∨ n = 16 ∨ n = 17 ∨ n = 18 ∨ n = 19 ∨ n = 20 ∨ n = 21 ∨ n = 22 ∨ n = 23 ∨ n = 24 ∨ n = 25 ∨ n = 26 ∨ n = 27 ∨ n = 28 ∨ n = 29 ∨ n = 30 ∨ n = 31 := by omega
 rcases this with rfl | rfl | rfl | rfl | rfl | rfl | rfl | rfl | rfl | rfl | rfl | rfl | rfl | rfl | rfl | rfl | rfl | rfl | rfl | rfl | rfl | rfl | rfl | rfl | rfl | rfl | rfl | rfl | rfl | rfl | rfl | rfl <;> rfl
theorem asM_op (s : RawS) (k : Int) : (asM s k).op = k := by
 simp only [asM, asS, apply_ite XS.op, ite_self]
def readD : Option XS → D
  | none => .tup [xD 0 0 0 0 0 0 0 0, .int .i64 0, .int .i64 30]
  | some x => .tup [xsD x, .int .i64 (bytesXS x).length, .int .i64 0]
end Go.Ev
namespace Go.Proofs.YtglcgdnaanhddaaGreat
open Go Go.Ev
theorem as_ok (s : RawS) (k : Int) (k0 : 0 ≤ k) (k1 : k ≤ 31) (v0 : 0 ≤ s.code) (v1 : s.code ≤ 255) (hh : s.high = 0 ∨ s.high = 8) (z0 z1 z2 z3 z4 z5 z6 z8 z9 : Ob) :
  CallRun Tryz.prog 84 [.ptr false 7 0, .int .i8 (IntKind.i8.wrap k), .agg [.int .i8 (shapeM k), .int .u8 (codeM k), .int .i8 (numM k)]]
   [z0, z1, z2, z3, z4, z5, z6, .box [.int .i8 s.w, .bool s.long, .int .u8 s.code, .int .i8 s.r, .int .i8 s.m, .int .i64 s.disp, .int .i64 s.imm, .int .i64 s.small, .int .i64 s.near, .int .i64 s.jump, .int .i8 s.high], z8, z9] (xsD (asM s k))
   [z0, z1, z2, z3, z4, z5, z6, .box [.int .i8 s.w, .bool s.long, .int .u8 s.code, .int .i8 s.r, .int .i8 s.m, .int .i64 s.disp, .int .i64 s.imm, .int .i64 s.small, .int .i64 s.near, .int .i64 s.jump, .int .i8 s.high], z8, z9, .dead, .dead, .dead] := by
 have hw := wr_op k0 k1
 have fin : ∀ {sh : Int} {d : D} {S1 S2 : List Ob}, shapeM k = sh → CallRun Tryz.prog 84 [.ptr false 7 0, .int .i8 (IntKind.i8.wrap k), .agg [.int .i8 sh, .int .u8 (codeM k), .int .i8 (numM k)]] S1 d S2 → d = xsD (asM s k) →
   CallRun Tryz.prog 84 [.ptr false 7 0, .int .i8 (IntKind.i8.wrap k), .agg [.int .i8 (shapeM k), .int .u8 (codeM k), .int .i8 (numM k)]] S1 (xsD (asM s k)) S2 := by
  intro sh d S1 S2 e h hd
  rw [e, ← hd]
  exact h
 rcases shape_some k0 k1 with h | h | h | h | h | h | h | h | h | h | h
 ·exact fin h (as1_ok s k k0 k1 v0 v1 _ _ z0 z1 z2 z3 z4 z5 z6 z8 z9) (by simp [asM, asS, xsD, h, hw])
 ·exact fin h (as2_ok s k k0 k1 v0 v1 _ _ z0 z1 z2 z3 z4 z5 z6 z8 z9) (by simp [asM, asS, xsD, h, hw])
 ·by_cases hk : k = 1
  ·by_cases hc : s.code < 184
   ·exact fin h (as3l_ok s k k0 k1 v0 v1 _ _ z0 z1 z2 z3 z4 z5 z6 z8 z9 hk hc) (by simp [asM, asS, xsD, h, hw]; rw [if_neg (by omega)]; simp)
   ·by_cases hd : s.code < 192
    ·exact fin h (as3m_ok s k k0 k1 v0 v1 _ _ z0 z1 z2 z3 z4 z5 z6 z8 z9 hk (by omega) hd hh) (by simp [asM, asS, xsD, h, hw]; rw [if_pos (by omega)]; simp)
    ·exact fin h (as3h_ok s k k0 k1 v0 v1 _ _ z0 z1 z2 z3 z4 z5 z6 z8 z9 hk (by omega)) (by simp [asM, asS, xsD, h, hw]; rw [if_neg (by omega)]; simp)
  ·exact fin h (as3n_ok s k k0 k1 v0 v1 _ _ z0 z1 z2 z3 z4 z5 z6 z8 z9 hk) (by simp [asM, asS, xsD, h, hw, hk])
 ·exact fin h (as4_ok s k k0 k1 v0 v1 _ _ z0 z1 z2 z3 z4 z5 z6 z8 z9) (by simp [asM, asS, xsD, h, hw])
 ·exact fin h (as5_ok s k k0 k1 v0 v1 _ _ z0 z1 z2 z3 z4 z5 z6 z8 z9) (by simp [asM, asS, xsD, h, hw])
 ·exact fin h (as6_ok s k k0 k1 v0 v1 _ _ z0 z1 z2 z3 z4 z5 z6 z8 z9) (by simp [asM, asS, xsD, h, hw])
 ·cases hl : s.long
  ·refine fin h (hl ▸ as7f_ok s k k0 k1 v0 v1 _ _ z0 z1 z2 z3 z4 z5 z6 z8 z9 hl) (by simp [asM, asS, xsD, h, hw, hl])
  ·refine fin h (hl ▸ as7t_ok s k k0 k1 v0 v1 _ _ z0 z1 z2 z3 z4 z5 z6 z8 z9 hl) (by simp [asM, asS, xsD, h, hw, hl])
 ·by_cases hc : s.code = 136
  ·exact fin h (as8t_ok s k k0 k1 v0 v1 _ _ z0 z1 z2 z3 z4 z5 z6 z8 z9 hc) (by simp [asM, asS, xsD, h, hw, hc])
  ·exact fin h (as8f_ok s k k0 k1 v0 v1 _ _ z0 z1 z2 z3 z4 z5 z6 z8 z9 hc) (by simp [asM, asS, xsD, h, hw, hc])
 ·cases hl : s.long
  ·by_cases hc : s.code = 233
   ·exact fin h (hl ▸ as9n_ok s k k0 k1 v0 v1 _ _ z0 z1 z2 z3 z4 z5 z6 z8 z9 hl hc) (by simp [asM, asS, xsD, h, hw, hc])
   ·exact fin h (hl ▸ as9s_ok s k k0 k1 v0 v1 _ _ z0 z1 z2 z3 z4 z5 z6 z8 z9 hl hc) (by simp [asM, asS, xsD, h, hw, hl, hc])
  ·exact fin h (hl ▸ as9l_ok s k k0 k1 v0 v1 _ _ z0 z1 z2 z3 z4 z5 z6 z8 z9 hl) (by simp [asM, asS, xsD, h, hw, hl])
 ·cases hl : s.long
  ·by_cases hc : s.code = 233
   ·exact fin h (hl ▸ as10n_ok s k k0 k1 v0 v1 _ _ z0 z1 z2 z3 z4 z5 z6 z8 z9 hl hc) (by simp [asM, asS, xsD, h, hw, hc])
   ·exact fin h (hl ▸ as10s_ok s k k0 k1 v0 v1 _ _ z0 z1 z2 z3 z4 z5 z6 z8 z9 hl hc) (by simp [asM, asS, xsD, h, hw, hl, hc])
  ·exact fin h (hl ▸ as10l_ok s k k0 k1 v0 v1 _ _ z0 z1 z2 z3 z4 z5 z6 z8 z9 hl) (by simp [asM, asS, xsD, h, hw, hl])
 ·exact fin h (as11_ok s k k0 k1 v0 v1 _ _ z0 z1 z2 z3 z4 z5 z6 z8 z9) (by simp [asM, asS, xsD, h, hw])
def tab_XOf_0 : List D := [.int .i8 1, .int .u8 137, .int .i8 0, .int .i8 3, .int .u8 199, .int .i8 0, .int .i8 1, .int .u8 1, .int .i8 0, .int .i8 1, .int .u8 9, .int .i8 0, .int .i8 1, .int .u8 33, .int .i8 0, .int .i8 1, .int .u8 41, .int .i8 0, .int .i8 1, .int .u8 49, .int .i8 0, .int .i8 1, .int .u8 57, .int .i8 0, .int .i8 1, .int .u8 133, .int .i8 0, .int .i8 3, .int .u8 129, .int .i8 0, .int .i8 3, .int .u8 129, .int .i8 1, .int .i8 3, .int .u8 129, .int .i8 4, .int .i8 3, .int .u8 129, .int .i8 5, .int .i8 3, .int .u8 129, .int .i8 6, .int .i8 3, .int .u8 129, .int .i8 7, .int .i8 3, .int .u8 247, .int .i8 0, .int .i8 2, .int .u8 175, .int .i8 0, .int .i8 4, .int .u8 193, .int .i8 4, .int .i8 4, .int .u8 193, .int .i8 5, .int .i8 4, .int .u8 193, .int .i8 7, .int .i8 5, .int .u8 211, .int .i8 4, .int .i8 5, .int .u8 211, .int .i8 5, .int .i8 5, .int .u8 211, .int .i8 7, .int .i8 5, .int .u8 247, .int .i8 3, .int .i8 5, .int .u8 247, .int .i8 6, .int .i8 6, .int .u8 64, .int .i8 0, .int .i8 7, .int .u8 139, .int .i8 0, .int .i8 8, .int .u8 137, .int .i8 0, .int .i8 9, .int .u8 233, .int .i8 0, .int .i8 10, .int .u8 128, .int .i8 0, .int .i8 11, .int .u8 195, .int .i8 0, .int .i8 11, .int .u8 5, .int .i8 0]
def SpXOf0 (k0_ : Int) : Prop := Ret Tryz.prog 30 ([.int .i8 k0_]) (.tup [.agg [.int .i8 (shapeM k0_), .int .u8 (codeM k0_), .int .i8 (numM k0_)], .bool true])
theorem of_0_ok : SpXOf0 0 := by
 exact (o30 (d := .tup [.agg [.int .i8 1, .int .u8 137, .int .i8 0], .bool true]) [.inl, tT, tT, tT, tF, tF, tT, .getA tab_XOf_0 0 3 ([.int .i8 1, .int .u8 137, .int .i8 0]) ⟨rfl, by decide⟩] (by kernel_rfl)).to (by simp [wk, wkL]; decide)
theorem of_1_ok : SpXOf0 1 := by
 exact (o30 (d := .tup [.agg [.int .i8 3, .int .u8 199, .int .i8 0], .bool true]) [.inl, tT, tT, tT, tF, tF, tT, .getA tab_XOf_0 3 3 ([.int .i8 3, .int .u8 199, .int .i8 0]) ⟨rfl, by decide⟩] (by kernel_rfl)).to (by simp [wk, wkL]; decide)
theorem of_2_ok : SpXOf0 2 := by
 exact (o30 (d := .tup [.agg [.int .i8 1, .int .u8 1, .int .i8 0], .bool true]) [.inl, tT, tT, tT, tF, tF, tT, .getA tab_XOf_0 6 3 ([.int .i8 1, .int .u8 1, .int .i8 0]) ⟨rfl, by decide⟩] (by kernel_rfl)).to (by simp [wk, wkL]; decide)
theorem of_3_ok : SpXOf0 3 := by
 exact (o30 (d := .tup [.agg [.int .i8 1, .int .u8 9, .int .i8 0], .bool true]) [.inl, tT, tT, tT, tF, tF, tT, .getA tab_XOf_0 9 3 ([.int .i8 1, .int .u8 9, .int .i8 0]) ⟨rfl, by decide⟩] (by kernel_rfl)).to (by simp [wk, wkL]; decide)
theorem of_4_ok : SpXOf0 4 := by
 exact (o30 (d := .tup [.agg [.int .i8 1, .int .u8 33, .int .i8 0], .bool true]) [.inl, tT, tT, tT, tF, tF, tT, .getA tab_XOf_0 12 3 ([.int .i8 1, .int .u8 33, .int .i8 0]) ⟨rfl, by decide⟩] (by kernel_rfl)).to (by simp [wk, wkL]; decide)
theorem of_5_ok : SpXOf0 5 := by
 exact (o30 (d := .tup [.agg [.int .i8 1, .int .u8 41, .int .i8 0], .bool true]) [.inl, tT, tT, tT, tF, tF, tT, .getA tab_XOf_0 15 3 ([.int .i8 1, .int .u8 41, .int .i8 0]) ⟨rfl, by decide⟩] (by kernel_rfl)).to (by simp [wk, wkL]; decide)
theorem of_6_ok : SpXOf0 6 := by
 exact (o30 (d := .tup [.agg [.int .i8 1, .int .u8 49, .int .i8 0], .bool true]) [.inl, tT, tT, tT, tF, tF, tT, .getA tab_XOf_0 18 3 ([.int .i8 1, .int .u8 49, .int .i8 0]) ⟨rfl, by decide⟩] (by kernel_rfl)).to (by simp [wk, wkL]; decide)
theorem of_7_ok : SpXOf0 7 := by
 exact (o30 (d := .tup [.agg [.int .i8 1, .int .u8 57, .int .i8 0], .bool true]) [.inl, tT, tT, tT, tF, tF, tT, .getA tab_XOf_0 21 3 ([.int .i8 1, .int .u8 57, .int .i8 0]) ⟨rfl, by decide⟩] (by kernel_rfl)).to (by simp [wk, wkL]; decide)
theorem of_8_ok : SpXOf0 8 := by
 exact (o30 (d := .tup [.agg [.int .i8 1, .int .u8 133, .int .i8 0], .bool true]) [.inl, tT, tT, tT, tF, tF, tT, .getA tab_XOf_0 24 3 ([.int .i8 1, .int .u8 133, .int .i8 0]) ⟨rfl, by decide⟩] (by kernel_rfl)).to (by simp [wk, wkL]; decide)
theorem of_9_ok : SpXOf0 9 := by
 exact (o30 (d := .tup [.agg [.int .i8 3, .int .u8 129, .int .i8 0], .bool true]) [.inl, tT, tT, tT, tF, tF, tT, .getA tab_XOf_0 27 3 ([.int .i8 3, .int .u8 129, .int .i8 0]) ⟨rfl, by decide⟩] (by kernel_rfl)).to (by simp [wk, wkL]; decide)
theorem of_10_ok : SpXOf0 10 := by
 exact (o30 (d := .tup [.agg [.int .i8 3, .int .u8 129, .int .i8 1], .bool true]) [.inl, tT, tT, tT, tF, tF, tT, .getA tab_XOf_0 30 3 ([.int .i8 3, .int .u8 129, .int .i8 1]) ⟨rfl, by decide⟩] (by kernel_rfl)).to (by simp [wk, wkL]; decide)
theorem of_11_ok : SpXOf0 11 := by
 exact (o30 (d := .tup [.agg [.int .i8 3, .int .u8 129, .int .i8 4], .bool true]) [.inl, tT, tT, tT, tF, tF, tT, .getA tab_XOf_0 33 3 ([.int .i8 3, .int .u8 129, .int .i8 4]) ⟨rfl, by decide⟩] (by kernel_rfl)).to (by simp [wk, wkL]; decide)
theorem of_12_ok : SpXOf0 12 := by
 exact (o30 (d := .tup [.agg [.int .i8 3, .int .u8 129, .int .i8 5], .bool true]) [.inl, tT, tT, tT, tF, tF, tT, .getA tab_XOf_0 36 3 ([.int .i8 3, .int .u8 129, .int .i8 5]) ⟨rfl, by decide⟩] (by kernel_rfl)).to (by simp [wk, wkL]; decide)
theorem of_13_ok : SpXOf0 13 := by
 exact (o30 (d := .tup [.agg [.int .i8 3, .int .u8 129, .int .i8 6], .bool true]) [.inl, tT, tT, tT, tF, tF, tT, .getA tab_XOf_0 39 3 ([.int .i8 3, .int .u8 129, .int .i8 6]) ⟨rfl, by decide⟩] (by kernel_rfl)).to (by simp [wk, wkL]; decide)
theorem of_14_ok : SpXOf0 14 := by
 exact (o30 (d := .tup [.agg [.int .i8 3, .int .u8 129, .int .i8 7], .bool true]) [.inl, tT, tT, tT, tF, tF, tT, .getA tab_XOf_0 42 3 ([.int .i8 3, .int .u8 129, .int .i8 7]) ⟨rfl, by decide⟩] (by kernel_rfl)).to (by simp [wk, wkL]; decide)
theorem of_15_ok : SpXOf0 15 := by
 exact (o30 (d := .tup [.agg [.int .i8 3, .int .u8 247, .int .i8 0], .bool true]) [.inl, tT, tT, tT, tF, tF, tT, .getA tab_XOf_0 45 3 ([.int .i8 3, .int .u8 247, .int .i8 0]) ⟨rfl, by decide⟩] (by kernel_rfl)).to (by simp [wk, wkL]; decide)
theorem of_16_ok : SpXOf0 16 := by
 exact (o30 (d := .tup [.agg [.int .i8 2, .int .u8 175, .int .i8 0], .bool true]) [.inl, tT, tT, tT, tF, tF, tT, .getA tab_XOf_0 48 3 ([.int .i8 2, .int .u8 175, .int .i8 0]) ⟨rfl, by decide⟩] (by kernel_rfl)).to (by simp [wk, wkL]; decide)
theorem of_17_ok : SpXOf0 17 := by
 exact (o30 (d := .tup [.agg [.int .i8 4, .int .u8 193, .int .i8 4], .bool true]) [.inl, tT, tT, tT, tF, tF, tT, .getA tab_XOf_0 51 3 ([.int .i8 4, .int .u8 193, .int .i8 4]) ⟨rfl, by decide⟩] (by kernel_rfl)).to (by simp [wk, wkL]; decide)
theorem of_18_ok : SpXOf0 18 := by
 exact (o30 (d := .tup [.agg [.int .i8 4, .int .u8 193, .int .i8 5], .bool true]) [.inl, tT, tT, tT, tF, tF, tT, .getA tab_XOf_0 54 3 ([.int .i8 4, .int .u8 193, .int .i8 5]) ⟨rfl, by decide⟩] (by kernel_rfl)).to (by simp [wk, wkL]; decide)
theorem of_19_ok : SpXOf0 19 := by
 exact (o30 (d := .tup [.agg [.int .i8 4, .int .u8 193, .int .i8 7], .bool true]) [.inl, tT, tT, tT, tF, tF, tT, .getA tab_XOf_0 57 3 ([.int .i8 4, .int .u8 193, .int .i8 7]) ⟨rfl, by decide⟩] (by kernel_rfl)).to (by simp [wk, wkL]; decide)
theorem of_20_ok : SpXOf0 20 := by
 exact (o30 (d := .tup [.agg [.int .i8 5, .int .u8 211, .int .i8 4], .bool true]) [.inl, tT, tT, tT, tF, tF, tT, .getA tab_XOf_0 60 3 ([.int .i8 5, .int .u8 211, .int .i8 4]) ⟨rfl, by decide⟩] (by kernel_rfl)).to (by simp [wk, wkL]; decide)
theorem of_21_ok : SpXOf0 21 := by
 exact (o30 (d := .tup [.agg [.int .i8 5, .int .u8 211, .int .i8 5], .bool true]) [.inl, tT, tT, tT, tF, tF, tT, .getA tab_XOf_0 63 3 ([.int .i8 5, .int .u8 211, .int .i8 5]) ⟨rfl, by decide⟩] (by kernel_rfl)).to (by simp [wk, wkL]; decide)
theorem of_22_ok : SpXOf0 22 := by
 exact (o30 (d := .tup [.agg [.int .i8 5, .int .u8 211, .int .i8 7], .bool true]) [.inl, tT, tT, tT, tF, tF, tT, .getA tab_XOf_0 66 3 ([.int .i8 5, .int .u8 211, .int .i8 7]) ⟨rfl, by decide⟩] (by kernel_rfl)).to (by simp [wk, wkL]; decide)
theorem of_23_ok : SpXOf0 23 := by
 exact (o30 (d := .tup [.agg [.int .i8 5, .int .u8 247, .int .i8 3], .bool true]) [.inl, tT, tT, tT, tF, tF, tT, .getA tab_XOf_0 69 3 ([.int .i8 5, .int .u8 247, .int .i8 3]) ⟨rfl, by decide⟩] (by kernel_rfl)).to (by simp [wk, wkL]; decide)
theorem of_24_ok : SpXOf0 24 := by
 exact (o30 (d := .tup [.agg [.int .i8 5, .int .u8 247, .int .i8 6], .bool true]) [.inl, tT, tT, tT, tF, tF, tT, .getA tab_XOf_0 72 3 ([.int .i8 5, .int .u8 247, .int .i8 6]) ⟨rfl, by decide⟩] (by kernel_rfl)).to (by simp [wk, wkL]; decide)
theorem of_25_ok : SpXOf0 25 := by
 exact (o30 (d := .tup [.agg [.int .i8 6, .int .u8 64, .int .i8 0], .bool true]) [.inl, tT, tT, tT, tF, tF, tT, .getA tab_XOf_0 75 3 ([.int .i8 6, .int .u8 64, .int .i8 0]) ⟨rfl, by decide⟩] (by kernel_rfl)).to (by simp [wk, wkL]; decide)
theorem of_26_ok : SpXOf0 26 := by
 exact (o30 (d := .tup [.agg [.int .i8 7, .int .u8 139, .int .i8 0], .bool true]) [.inl, tT, tT, tT, tF, tF, tT, .getA tab_XOf_0 78 3 ([.int .i8 7, .int .u8 139, .int .i8 0]) ⟨rfl, by decide⟩] (by kernel_rfl)).to (by simp [wk, wkL]; decide)
theorem of_27_ok : SpXOf0 27 := by
 exact (o30 (d := .tup [.agg [.int .i8 8, .int .u8 137, .int .i8 0], .bool true]) [.inl, tT, tT, tT, tF, tF, tT, .getA tab_XOf_0 81 3 ([.int .i8 8, .int .u8 137, .int .i8 0]) ⟨rfl, by decide⟩] (by kernel_rfl)).to (by simp [wk, wkL]; decide)
theorem of_28_ok : SpXOf0 28 := by
 exact (o30 (d := .tup [.agg [.int .i8 9, .int .u8 233, .int .i8 0], .bool true]) [.inl, tT, tT, tT, tF, tF, tT, .getA tab_XOf_0 84 3 ([.int .i8 9, .int .u8 233, .int .i8 0]) ⟨rfl, by decide⟩] (by kernel_rfl)).to (by simp [wk, wkL]; decide)
theorem of_29_ok : SpXOf0 29 := by
 exact (o30 (d := .tup [.agg [.int .i8 10, .int .u8 128, .int .i8 0], .bool true]) [.inl, tT, tT, tT, tF, tF, tT, .getA tab_XOf_0 87 3 ([.int .i8 10, .int .u8 128, .int .i8 0]) ⟨rfl, by decide⟩] (by kernel_rfl)).to (by simp [wk, wkL]; decide)
theorem of_30_ok : SpXOf0 30 := by
 exact (o30 (d := .tup [.agg [.int .i8 11, .int .u8 195, .int .i8 0], .bool true]) [.inl, tT, tT, tT, tF, tF, tT, .getA tab_XOf_0 90 3 ([.int .i8 11, .int .u8 195, .int .i8 0]) ⟨rfl, by decide⟩] (by kernel_rfl)).to (by simp [wk, wkL]; decide)
theorem of_31_ok : SpXOf0 31 := by
 exact (o30 (d := .tup [.agg [.int .i8 11, .int .u8 5, .int .i8 0], .bool true]) [.inl, tT, tT, tT, tF, tF, tT, .getA tab_XOf_0 93 3 ([.int .i8 11, .int .u8 5, .int .i8 0]) ⟨rfl, by decide⟩] (by kernel_rfl)).to (by simp [wk, wkL]; decide)
theorem of_low_ok (op : Int) (h : op < 0) : Ret Tryz.prog 30 ([.int .i8 op]) (.tup [.agg [.int .i8 0, .int .u8 0, .int .i8 0], .bool false]) := by
 exact (o30 (d := .tup [.agg [.int .i8 0, .int .u8 0, .int .i8 0], .bool false]) ([.inl] ++ List.replicate 3 (tC (eF (decide_eq_true h))) ++ [tC (decide_eq_true h), tT]) (by kernel_rfl)).to (by simp [wk, wkL])
theorem of_high_ok (op : Int) (h : 32 ≤ op) (ho : op ≤ 127) : Ret Tryz.prog 30 ([.int .i8 op]) (.tup [.agg [.int .i8 0, .int .u8 0, .int .i8 0], .bool false]) := by
 exact (o30 (d := .tup [.agg [.int .i8 0, .int .u8 0, .int .i8 0], .bool false]) ([.inl] ++ List.replicate 3 (tC (eF (ltD 0 (decide_eq_false (Int.not_lt.2 h))))) ++ [tC (ltD 0 (decide_eq_false (Int.not_lt.2 h))), tC (leL 32 (by (simp only [sl2] at *; omega) : (decide (IntKind.wrap IntKind.i64 op < 32)) = false))]) (by kernel_rfl)).to (by simp [wk, wkL])
theorem reg_ok (n : Int) : Ret Tryz.prog 64 ([.int .i8 n]) (.bool (regM n)) := by
 rcases bft (decide (n < 0)) with h0 | h0
 ·exact (o64 (d := .bool false) [tC (eT (leL 0 h0)), tC (eT (leL 0 h0)), tC (leL 0 h0)] (by kernel_rfl)).to (by (try simp only [sl0, wk, wkL, wkO, eqCells, eqCell, regM, ccM, widthM, longM] at *); first | (simp [wk, wkL, wkO, eqCells, eqCell, regM, ccM, widthM, longM, *]; done) | (simp [wk, wkL, wkO, eqCells, eqCell, regM, ccM, widthM, longM, *]; omega) | (rw [Bool.eq_iff_iff]; simp [wk, wkL, wkO, eqCells, eqCell, regM, ccM, widthM, longM, *]; done) | (rw [Bool.eq_iff_iff]; simp [wk, wkL, wkO, eqCells, eqCell, regM, ccM, widthM, longM, *]; omega) | (rw [Bool.eq_iff_iff]; simp [wk, wkL, wkO, eqCells, eqCell, regM, ccM, widthM, longM, *]; grind) | (subst_vars; rw [Bool.eq_iff_iff]; simp; grind))
 exact (o64 (d := .bool (decide (n < 16))) [tC (eT (leL 0 h0)), tC (eT (leL 0 h0)), tC (leL 0 h0)] (by kernel_rfl)).to (by (try simp only [sl0, wk, wkL, wkO, eqCells, eqCell, regM, ccM, widthM, longM] at *); first | (simp [wk, wkL, wkO, eqCells, eqCell, regM, ccM, widthM, longM, *]; done) | (simp [wk, wkL, wkO, eqCells, eqCell, regM, ccM, widthM, longM, *]; omega) | (rw [Bool.eq_iff_iff]; simp [wk, wkL, wkO, eqCells, eqCell, regM, ccM, widthM, longM, *]; done) | (rw [Bool.eq_iff_iff]; simp [wk, wkL, wkO, eqCells, eqCell, regM, ccM, widthM, longM, *]; omega) | (rw [Bool.eq_iff_iff]; simp [wk, wkL, wkO, eqCells, eqCell, regM, ccM, widthM, longM, *]; grind) | (subst_vars; rw [Bool.eq_iff_iff]; simp; grind))
theorem cond_ok (n : Int) : Ret Tryz.prog 66 ([.int .i8 n]) (.bool (ccM n)) := by
 rcases bft (decide (n < 2)) with h0 | h0
 ·exact (o66 (d := .bool false) [tC (eT (leL 2 h0)), tC (eT (leL 2 h0)), tC (leL 2 h0), tT, tT, tT, tC (eT (leL 12 (ltU 12 h0))), tC (eT (leL 12 (ltU 12 h0))), tT, tC (leL 12 (ltU 12 h0)), tF] (by kernel_rfl)).to (by (try simp only [sl0, wk, wkL, wkO, eqCells, eqCell, regM, ccM, widthM, longM] at *); first | (simp [wk, wkL, wkO, eqCells, eqCell, regM, ccM, widthM, longM, *]; done) | (simp [wk, wkL, wkO, eqCells, eqCell, regM, ccM, widthM, longM, *]; omega) | (rw [Bool.eq_iff_iff]; simp [wk, wkL, wkO, eqCells, eqCell, regM, ccM, widthM, longM, *]; done) | (rw [Bool.eq_iff_iff]; simp [wk, wkL, wkO, eqCells, eqCell, regM, ccM, widthM, longM, *]; omega) | (rw [Bool.eq_iff_iff]; simp [wk, wkL, wkO, eqCells, eqCell, regM, ccM, widthM, longM, *]; grind) | (subst_vars; rw [Bool.eq_iff_iff]; simp; grind))
 let E1 : EL := [tC (eT (leL 2 h0)), tC (eT (leL 2 h0)), tC (leL 2 h0)]
 rcases bft (decide (n < 8)) with h1 | h1
 ·exact (o66 (d := .bool true) (E1 ++ List.replicate 4 (tC (eF (leC 7 h1))) ++ [tC (leC 7 h1)]) (by kernel_rfl)).to (by clear E1; (try simp only [sl0, wk, wkL, wkO, eqCells, eqCell, regM, ccM, widthM, longM] at *); first | (simp [wk, wkL, wkO, eqCells, eqCell, regM, ccM, widthM, longM, *]; done) | (simp [wk, wkL, wkO, eqCells, eqCell, regM, ccM, widthM, longM, *]; omega) | (rw [Bool.eq_iff_iff]; simp [wk, wkL, wkO, eqCells, eqCell, regM, ccM, widthM, longM, *]; done) | (rw [Bool.eq_iff_iff]; simp [wk, wkL, wkO, eqCells, eqCell, regM, ccM, widthM, longM, *]; omega) | (rw [Bool.eq_iff_iff]; simp [wk, wkL, wkO, eqCells, eqCell, regM, ccM, widthM, longM, *]; grind) | (subst_vars; rw [Bool.eq_iff_iff]; simp; grind))
 rcases bft (decide (n < 12)) with h2 | h2
 ·exact (o66 (d := .bool false) (E1 ++ List.replicate 3 (tC (eF (leC 7 h1))) ++ [tC (eT (leL 12 h2)), tC (eT (leL 12 h2)), tC (eF (leC 7 h1)), tC (leL 12 h2), tC (leC 7 h1)]) (by kernel_rfl)).to (by clear E1; (try simp only [sl0, wk, wkL, wkO, eqCells, eqCell, regM, ccM, widthM, longM] at *); first | (simp [wk, wkL, wkO, eqCells, eqCell, regM, ccM, widthM, longM, *]; done) | (simp [wk, wkL, wkO, eqCells, eqCell, regM, ccM, widthM, longM, *]; omega) | (rw [Bool.eq_iff_iff]; simp [wk, wkL, wkO, eqCells, eqCell, regM, ccM, widthM, longM, *]; done) | (rw [Bool.eq_iff_iff]; simp [wk, wkL, wkO, eqCells, eqCell, regM, ccM, widthM, longM, *]; omega) | (rw [Bool.eq_iff_iff]; simp [wk, wkL, wkO, eqCells, eqCell, regM, ccM, widthM, longM, *]; grind) | (subst_vars; rw [Bool.eq_iff_iff]; simp; grind))
 exact (o66 (d := .bool (decide (n ≤ 15))) (E1 ++ List.replicate 3 (tC (eF (leC 7 h1))) ++ [tC (eT (leL 12 h2)), tC (eT (leL 12 h2)), tC (eF (leC 7 h1)), tC (leL 12 h2), tC (leC 7 h1)]) (by kernel_rfl)).to (by clear E1; (try simp only [sl0, wk, wkL, wkO, eqCells, eqCell, regM, ccM, widthM, longM] at *); first | (simp [wk, wkL, wkO, eqCells, eqCell, regM, ccM, widthM, longM, *]; done) | (simp [wk, wkL, wkO, eqCells, eqCell, regM, ccM, widthM, longM, *]; omega) | (rw [Bool.eq_iff_iff]; simp [wk, wkL, wkO, eqCells, eqCell, regM, ccM, widthM, longM, *]; done) | (rw [Bool.eq_iff_iff]; simp [wk, wkL, wkO, eqCells, eqCell, regM, ccM, widthM, longM, *]; omega) | (rw [Bool.eq_iff_iff]; simp [wk, wkL, wkO, eqCells, eqCell, regM, ccM, widthM, longM, *]; grind) | (subst_vars; rw [Bool.eq_iff_iff]; simp; grind))
theorem within_ok (n a b : Int) : Ret Tryz.prog 65 ([.int .i64 n, .int .i64 a, .int .i64 b]) (.bool (decide (a ≤ n) && decide (n ≤ b))) := by
 rcases bft (decide (n ≥ a)) with h0 | h0
 ·exact (o65 (d := .bool (decide (n ≤ b))) [tC (eT h0), tC (eT h0), tC (eT h0), tC h0] (by kernel_rfl)).to (by (try simp only [sl0, wk, wkL, wkO, eqCells, eqCell, regM, ccM, widthM, longM] at *); (simp [wk, wkL, wkO, eqCells, eqCell, regM, ccM, widthM, longM, *]; done))
 exact (o65 (d := .bool false) [tC (eT h0), tC (eT h0), tC (eT h0), tC h0] (by kernel_rfl)).to (by (try simp only [sl0, wk, wkL, wkO, eqCells, eqCell, regM, ccM, widthM, longM] at *); (simp [wk, wkL, wkO, eqCells, eqCell, regM, ccM, widthM, longM, *]; done))
theorem width_ok (n : Int) : Ret Tryz.prog 67 ([.int .i8 n]) (.bool (widthM n)) := by
 by_cases h0 : n = 8
 ·subst h0
  exact (o67 (d := .bool true) [tT, tT] (by kernel_rfl)).to (by (try simp only [sl0, wk, wkL, wkO, eqCells, eqCell, regM, ccM, widthM, longM] at *); (simp [wk, wkL, wkO, eqCells, eqCell, regM, ccM, widthM, longM, *]; done))
 by_cases h1 : n = 16
 ·subst h1
  exact (o67 (d := .bool true) [tC (neOf h0), tT, tT] (by kernel_rfl)).to (by (try simp only [sl0, wk, wkL, wkO, eqCells, eqCell, regM, ccM, widthM, longM] at *); (simp [wk, wkL, wkO, eqCells, eqCell, regM, ccM, widthM, longM, *]; done))
 by_cases h2 : n = 32
 ·subst h2
  exact (o67 (d := .bool true) [tC (neOf h0), tC (neOf h1), tT, tT] (by kernel_rfl)).to (by (try simp only [sl0, wk, wkL, wkO, eqCells, eqCell, regM, ccM, widthM, longM] at *); (simp [wk, wkL, wkO, eqCells, eqCell, regM, ccM, widthM, longM, *]; done))
 by_cases h3 : n = 64
 ·subst h3
  exact (o67 (d := .bool true) [tC (neOf h0), tC (neOf h1), tC (neOf h2), tT] (by kernel_rfl)).to (by (try simp only [sl0, wk, wkL, wkO, eqCells, eqCell, regM, ccM, widthM, longM] at *); (simp [wk, wkL, wkO, eqCells, eqCell, regM, ccM, widthM, longM, *]; done))
 exact (o67 (d := .bool false) [tC (neOf h0), tC (neOf h1), tC (neOf h2), tC (neOf h3)] (by kernel_rfl)).to (by (try simp only [sl0, wk, wkL, wkO, eqCells, eqCell, regM, ccM, widthM, longM] at *); (simp [wk, wkL, wkO, eqCells, eqCell, regM, ccM, widthM, longM, *]; done))
theorem bareL_1_ok (op w dst src base disp imm cc : Int) : Ret Tryz.prog 63 ([xD op w dst src base disp imm cc, .int .i8 1]) (xD 0 0 0 0 base disp imm cc) := by
 let E1 : EL := [tT, tT, tT, tT, tF, tF, .flat _ _ flat_X]
 by_cases h0 : base = 0
 ·subst h0
  by_cases h1 : disp = 0
  ·subst h1
   by_cases h2 : imm = 0
   ·subst h2
    by_cases h3 : cc = 0
    ·subst h3
     exact (o63 (d := (xD 0 0 0 0 0 0 0 0)) (E1 ++ [tF]) (by kernel_rfl)).to (by (simp [wk, wkL, ]; done))
    exact (o63 (d := (xD 0 0 0 0 0 0 0 cc)) (E1 ++ [tC (nt (andT rfl (andT rfl (andT rfl (andT rfl (andT rfl (andT rfl (andT rfl (andF (y := true) (neOf h3))))))))))]) (by kernel_rfl)).to (by (simp [wk, wkL, h3]; done))
   exact (o63 (d := (xD 0 0 0 0 0 0 imm cc)) (E1 ++ [tC (nt (andT rfl (andT rfl (andT rfl (andT rfl (andT rfl (andT rfl (andF (y := eqCells [.int .i8 cc] [.int .i8 0]) (neOf h2)))))))))]) (by kernel_rfl)).to (by (simp [wk, wkL, h2]; done))
  exact (o63 (d := (xD 0 0 0 0 0 disp imm cc)) (E1 ++ [tC (nt (andT rfl (andT rfl (andT rfl (andT rfl (andT rfl (andF (y := eqCells [.int .i64 imm, .int .i8 cc] [.int .i64 0, .int .i8 0]) (neOf h1))))))))]) (by kernel_rfl)).to (by (simp [wk, wkL, h1]; done))
 exact (o63 (d := (xD 0 0 0 0 base disp imm cc)) (E1 ++ [tC (nt (andT rfl (andT rfl (andT rfl (andT rfl (andF (y := eqCells [.int .i64 disp, .int .i64 imm, .int .i8 cc] [.int .i64 0, .int .i64 0, .int .i8 0]) (neOf h0)))))))]) (by kernel_rfl)).to (by (simp [wk, wkL, h0]; done))
theorem bareL_2_ok (op w dst src base disp imm cc : Int) : Ret Tryz.prog 63 ([xD op w dst src base disp imm cc, .int .i8 2]) (xD 0 0 0 0 base disp imm cc) := by
 let E1 : EL := [tF, tT, tT, tT, tT, tF, tF, .flat _ _ flat_X]
 by_cases h0 : base = 0
 ·subst h0
  by_cases h1 : disp = 0
  ·subst h1
   by_cases h2 : imm = 0
   ·subst h2
    by_cases h3 : cc = 0
    ·subst h3
     exact (o63 (d := (xD 0 0 0 0 0 0 0 0)) (E1 ++ [tF]) (by kernel_rfl)).to (by (simp [wk, wkL, ]; done))
    exact (o63 (d := (xD 0 0 0 0 0 0 0 cc)) (E1 ++ [tC (nt (andT rfl (andT rfl (andT rfl (andT rfl (andT rfl (andT rfl (andT rfl (andF (y := true) (neOf h3))))))))))]) (by kernel_rfl)).to (by (simp [wk, wkL, h3]; done))
   exact (o63 (d := (xD 0 0 0 0 0 0 imm cc)) (E1 ++ [tC (nt (andT rfl (andT rfl (andT rfl (andT rfl (andT rfl (andT rfl (andF (y := eqCells [.int .i8 cc] [.int .i8 0]) (neOf h2)))))))))]) (by kernel_rfl)).to (by (simp [wk, wkL, h2]; done))
  exact (o63 (d := (xD 0 0 0 0 0 disp imm cc)) (E1 ++ [tC (nt (andT rfl (andT rfl (andT rfl (andT rfl (andT rfl (andF (y := eqCells [.int .i64 imm, .int .i8 cc] [.int .i64 0, .int .i8 0]) (neOf h1))))))))]) (by kernel_rfl)).to (by (simp [wk, wkL, h1]; done))
 exact (o63 (d := (xD 0 0 0 0 base disp imm cc)) (E1 ++ [tC (nt (andT rfl (andT rfl (andT rfl (andT rfl (andF (y := eqCells [.int .i64 disp, .int .i64 imm, .int .i8 cc] [.int .i64 0, .int .i64 0, .int .i8 0]) (neOf h0)))))))]) (by kernel_rfl)).to (by (simp [wk, wkL, h0]; done))
theorem bareL_3_ok (op w dst src base disp imm cc : Int) : Ret Tryz.prog 63 ([xD op w dst src base disp imm cc, .int .i8 3]) (xD 0 0 0 src base disp 0 cc) := by
 let E1 : EL := [tF, tF, tF, tT, tT, tT, tT, tF, tF, .flat _ _ flat_X]
 by_cases h0 : src = 0
 ·subst h0
  by_cases h1 : base = 0
  ·subst h1
   by_cases h2 : disp = 0
   ·subst h2
    by_cases h3 : cc = 0
    ·subst h3
     exact (o63 (d := (xD 0 0 0 0 0 0 0 0)) (E1 ++ [tF]) (by kernel_rfl)).to (by (simp [wk, wkL, ]; done))
    exact (o63 (d := (xD 0 0 0 0 0 0 0 cc)) (E1 ++ [tC (nt (andT rfl (andT rfl (andT rfl (andT rfl (andT rfl (andT rfl (andT rfl (andF (y := true) (neOf h3))))))))))]) (by kernel_rfl)).to (by (simp [wk, wkL, h3]; done))
   exact (o63 (d := (xD 0 0 0 0 0 disp 0 cc)) (E1 ++ [tC (nt (andT rfl (andT rfl (andT rfl (andT rfl (andT rfl (andF (y := eqCells [.int .i64 0, .int .i8 cc] [.int .i64 0, .int .i8 0]) (neOf h2))))))))]) (by kernel_rfl)).to (by (simp [wk, wkL, h2]; done))
  exact (o63 (d := (xD 0 0 0 0 base disp 0 cc)) (E1 ++ [tC (nt (andT rfl (andT rfl (andT rfl (andT rfl (andF (y := eqCells [.int .i64 disp, .int .i64 0, .int .i8 cc] [.int .i64 0, .int .i64 0, .int .i8 0]) (neOf h1)))))))]) (by kernel_rfl)).to (by (simp [wk, wkL, h1]; done))
 exact (o63 (d := (xD 0 0 0 src base disp 0 cc)) (E1 ++ [tC (nt (andT rfl (andT rfl (andT rfl (andF (y := eqCells [.int .i8 base, .int .i64 disp, .int .i64 0, .int .i8 cc] [.int .i8 0, .int .i64 0, .int .i64 0, .int .i8 0]) (neOf h0))))))]) (by kernel_rfl)).to (by (simp [wk, wkL, h0]; done))
theorem bareL_4_ok (op w dst src base disp imm cc : Int) : Ret Tryz.prog 63 ([xD op w dst src base disp imm cc, .int .i8 4]) (xD 0 0 0 src base disp 0 cc) := by
 let E1 : EL := [tF, tF, tF, tF, tT, tT, tT, tF, tF, .flat _ _ flat_X]
 by_cases h0 : src = 0
 ·subst h0
  by_cases h1 : base = 0
  ·subst h1
   by_cases h2 : disp = 0
   ·subst h2
    by_cases h3 : cc = 0
    ·subst h3
     exact (o63 (d := (xD 0 0 0 0 0 0 0 0)) (E1 ++ [tF]) (by kernel_rfl)).to (by (simp [wk, wkL, ]; done))
    exact (o63 (d := (xD 0 0 0 0 0 0 0 cc)) (E1 ++ [tC (nt (andT rfl (andT rfl (andT rfl (andT rfl (andT rfl (andT rfl (andT rfl (andF (y := true) (neOf h3))))))))))]) (by kernel_rfl)).to (by (simp [wk, wkL, h3]; done))
   exact (o63 (d := (xD 0 0 0 0 0 disp 0 cc)) (E1 ++ [tC (nt (andT rfl (andT rfl (andT rfl (andT rfl (andT rfl (andF (y := eqCells [.int .i64 0, .int .i8 cc] [.int .i64 0, .int .i8 0]) (neOf h2))))))))]) (by kernel_rfl)).to (by (simp [wk, wkL, h2]; done))
  exact (o63 (d := (xD 0 0 0 0 base disp 0 cc)) (E1 ++ [tC (nt (andT rfl (andT rfl (andT rfl (andT rfl (andF (y := eqCells [.int .i64 disp, .int .i64 0, .int .i8 cc] [.int .i64 0, .int .i64 0, .int .i8 0]) (neOf h1)))))))]) (by kernel_rfl)).to (by (simp [wk, wkL, h1]; done))
 exact (o63 (d := (xD 0 0 0 src base disp 0 cc)) (E1 ++ [tC (nt (andT rfl (andT rfl (andT rfl (andF (y := eqCells [.int .i8 base, .int .i64 disp, .int .i64 0, .int .i8 cc] [.int .i8 0, .int .i64 0, .int .i64 0, .int .i8 0]) (neOf h0))))))]) (by kernel_rfl)).to (by (simp [wk, wkL, h0]; done))
theorem bareL_5_ok (op w dst src base disp imm cc : Int) : Ret Tryz.prog 63 ([xD op w dst src base disp imm cc, .int .i8 5]) (xD 0 0 0 src base disp imm cc) := by
 let E1 : EL := [tF, tF, tF, tF, tF, tT, tT, tT, tF, tF, .flat _ _ flat_X]
 by_cases h0 : src = 0
 ·subst h0
  by_cases h1 : base = 0
  ·subst h1
   by_cases h2 : disp = 0
   ·subst h2
    by_cases h3 : imm = 0
    ·subst h3
     by_cases h4 : cc = 0
     ·subst h4
      exact (o63 (d := (xD 0 0 0 0 0 0 0 0)) (E1 ++ [tF]) (by kernel_rfl)).to (by (simp [wk, wkL, ]; done))
     exact (o63 (d := (xD 0 0 0 0 0 0 0 cc)) (E1 ++ [tC (nt (andT rfl (andT rfl (andT rfl (andT rfl (andT rfl (andT rfl (andT rfl (andF (y := true) (neOf h4))))))))))]) (by kernel_rfl)).to (by (simp [wk, wkL, h4]; done))
    exact (o63 (d := (xD 0 0 0 0 0 0 imm cc)) (E1 ++ [tC (nt (andT rfl (andT rfl (andT rfl (andT rfl (andT rfl (andT rfl (andF (y := eqCells [.int .i8 cc] [.int .i8 0]) (neOf h3)))))))))]) (by kernel_rfl)).to (by (simp [wk, wkL, h3]; done))
   exact (o63 (d := (xD 0 0 0 0 0 disp imm cc)) (E1 ++ [tC (nt (andT rfl (andT rfl (andT rfl (andT rfl (andT rfl (andF (y := eqCells [.int .i64 imm, .int .i8 cc] [.int .i64 0, .int .i8 0]) (neOf h2))))))))]) (by kernel_rfl)).to (by (simp [wk, wkL, h2]; done))
  exact (o63 (d := (xD 0 0 0 0 base disp imm cc)) (E1 ++ [tC (nt (andT rfl (andT rfl (andT rfl (andT rfl (andF (y := eqCells [.int .i64 disp, .int .i64 imm, .int .i8 cc] [.int .i64 0, .int .i64 0, .int .i8 0]) (neOf h1)))))))]) (by kernel_rfl)).to (by (simp [wk, wkL, h1]; done))
 exact (o63 (d := (xD 0 0 0 src base disp imm cc)) (E1 ++ [tC (nt (andT rfl (andT rfl (andT rfl (andF (y := eqCells [.int .i8 base, .int .i64 disp, .int .i64 imm, .int .i8 cc] [.int .i8 0, .int .i64 0, .int .i64 0, .int .i8 0]) (neOf h0))))))]) (by kernel_rfl)).to (by (simp [wk, wkL, h0]; done))
theorem bareL_6_ok (op w dst src base disp imm cc : Int) : Ret Tryz.prog 63 ([xD op w dst src base disp imm cc, .int .i8 6]) (xD 0 0 0 0 base disp imm 0) := by
 let E1 : EL := [tF, tF, tT, tF, tF, tT, tT, .flat _ _ flat_X]
 by_cases h0 : base = 0
 ·subst h0
  by_cases h1 : disp = 0
  ·subst h1
   by_cases h2 : imm = 0
   ·subst h2
    exact (o63 (d := (xD 0 0 0 0 0 0 0 0)) (E1 ++ [tF]) (by kernel_rfl)).to (by (simp [wk, wkL, ]; done))
   exact (o63 (d := (xD 0 0 0 0 0 0 imm 0)) (E1 ++ [tC (nt (andT rfl (andT rfl (andT rfl (andT rfl (andT rfl (andT rfl (andF (y := true) (neOf h2)))))))))]) (by kernel_rfl)).to (by (simp [wk, wkL, h2]; done))
  exact (o63 (d := (xD 0 0 0 0 0 disp imm 0)) (E1 ++ [tC (nt (andT rfl (andT rfl (andT rfl (andT rfl (andT rfl (andF (y := eqCells [.int .i64 imm, .int .i8 0] [.int .i64 0, .int .i8 0]) (neOf h1))))))))]) (by kernel_rfl)).to (by (simp [wk, wkL, h1]; done))
 exact (o63 (d := (xD 0 0 0 0 base disp imm 0)) (E1 ++ [tC (nt (andT rfl (andT rfl (andT rfl (andT rfl (andF (y := eqCells [.int .i64 disp, .int .i64 imm, .int .i8 0] [.int .i64 0, .int .i64 0, .int .i8 0]) (neOf h0)))))))]) (by kernel_rfl)).to (by (simp [wk, wkL, h0]; done))
theorem bareL_7_ok (op w dst src base disp imm cc : Int) : Ret Tryz.prog 63 ([xD op w dst src base disp imm cc, .int .i8 7]) (xD 0 0 0 src 0 0 imm cc) := by
 let E1 : EL := [tF, tF, tF, tF, tF, tF, tT, tT, tT, tF, tF, .flat _ _ flat_X]
 by_cases h0 : src = 0
 ·subst h0
  by_cases h1 : imm = 0
  ·subst h1
   by_cases h2 : cc = 0
   ·subst h2
    exact (o63 (d := (xD 0 0 0 0 0 0 0 0)) (E1 ++ [tF]) (by kernel_rfl)).to (by (simp [wk, wkL, ]; done))
   exact (o63 (d := (xD 0 0 0 0 0 0 0 cc)) (E1 ++ [tC (nt (andT rfl (andT rfl (andT rfl (andT rfl (andT rfl (andT rfl (andT rfl (andF (y := true) (neOf h2))))))))))]) (by kernel_rfl)).to (by (simp [wk, wkL, h2]; done))
  exact (o63 (d := (xD 0 0 0 0 0 0 imm cc)) (E1 ++ [tC (nt (andT rfl (andT rfl (andT rfl (andT rfl (andT rfl (andT rfl (andF (y := eqCells [.int .i8 cc] [.int .i8 0]) (neOf h1)))))))))]) (by kernel_rfl)).to (by (simp [wk, wkL, h1]; done))
 exact (o63 (d := (xD 0 0 0 src 0 0 imm cc)) (E1 ++ [tC (nt (andT rfl (andT rfl (andT rfl (andF (y := eqCells [.int .i8 0, .int .i64 0, .int .i64 imm, .int .i8 cc] [.int .i8 0, .int .i64 0, .int .i64 0, .int .i8 0]) (neOf h0))))))]) (by kernel_rfl)).to (by (simp [wk, wkL, h0]; done))
theorem bareL_8_ok (op w dst src base disp imm cc : Int) : Ret Tryz.prog 63 ([xD op w dst src base disp imm cc, .int .i8 8]) (xD 0 0 dst 0 0 0 imm cc) := by
 let E1 : EL := [tF, tF, tF, tF, tF, tF, tF, tT, tT, tT, tF, tF, .flat _ _ flat_X]
 by_cases h0 : dst = 0
 ·subst h0
  by_cases h1 : imm = 0
  ·subst h1
   by_cases h2 : cc = 0
   ·subst h2
    exact (o63 (d := (xD 0 0 0 0 0 0 0 0)) (E1 ++ [tF]) (by kernel_rfl)).to (by (simp [wk, wkL, ]; done))
   exact (o63 (d := (xD 0 0 0 0 0 0 0 cc)) (E1 ++ [tC (nt (andT rfl (andT rfl (andT rfl (andT rfl (andT rfl (andT rfl (andT rfl (andF (y := true) (neOf h2))))))))))]) (by kernel_rfl)).to (by (simp [wk, wkL, h2]; done))
  exact (o63 (d := (xD 0 0 0 0 0 0 imm cc)) (E1 ++ [tC (nt (andT rfl (andT rfl (andT rfl (andT rfl (andT rfl (andT rfl (andF (y := eqCells [.int .i8 cc] [.int .i8 0]) (neOf h1)))))))))]) (by kernel_rfl)).to (by (simp [wk, wkL, h1]; done))
 exact (o63 (d := (xD 0 0 dst 0 0 0 imm cc)) (E1 ++ [tC (nt (andT rfl (andT rfl (andF (y := eqCells [.int .i8 0, .int .i8 0, .int .i64 0, .int .i64 imm, .int .i8 cc] [.int .i8 0, .int .i8 0, .int .i64 0, .int .i64 0, .int .i8 0]) (neOf h0)))))]) (by kernel_rfl)).to (by (simp [wk, wkL, h0]; done))
theorem bareL_9_ok (op w dst src base disp imm cc : Int) : Ret Tryz.prog 63 ([xD op w dst src base disp imm cc, .int .i8 9]) (xD 0 0 dst src base disp 0 cc) := by
 let E1 : EL := (List.replicate 8 tF ++ [tT, tT, tT, tT, tF, tF, .flat _ _ flat_X])
 by_cases h0 : dst = 0
 ·subst h0
  by_cases h1 : src = 0
  ·subst h1
   by_cases h2 : base = 0
   ·subst h2
    by_cases h3 : disp = 0
    ·subst h3
     by_cases h4 : cc = 0
     ·subst h4
      exact (o63 (d := (xD 0 0 0 0 0 0 0 0)) (E1 ++ [tF]) (by kernel_rfl)).to (by (simp [wk, wkL, ]; done))
     exact (o63 (d := (xD 0 0 0 0 0 0 0 cc)) (E1 ++ [tC (nt (andT rfl (andT rfl (andT rfl (andT rfl (andT rfl (andT rfl (andT rfl (andF (y := true) (neOf h4))))))))))]) (by kernel_rfl)).to (by (simp [wk, wkL, h4]; done))
    exact (o63 (d := (xD 0 0 0 0 0 disp 0 cc)) (E1 ++ [tC (nt (andT rfl (andT rfl (andT rfl (andT rfl (andT rfl (andF (y := eqCells [.int .i64 0, .int .i8 cc] [.int .i64 0, .int .i8 0]) (neOf h3))))))))]) (by kernel_rfl)).to (by (simp [wk, wkL, h3]; done))
   exact (o63 (d := (xD 0 0 0 0 base disp 0 cc)) (E1 ++ [tC (nt (andT rfl (andT rfl (andT rfl (andT rfl (andF (y := eqCells [.int .i64 disp, .int .i64 0, .int .i8 cc] [.int .i64 0, .int .i64 0, .int .i8 0]) (neOf h2)))))))]) (by kernel_rfl)).to (by (simp [wk, wkL, h2]; done))
  exact (o63 (d := (xD 0 0 0 src base disp 0 cc)) (E1 ++ [tC (nt (andT rfl (andT rfl (andT rfl (andF (y := eqCells [.int .i8 base, .int .i64 disp, .int .i64 0, .int .i8 cc] [.int .i8 0, .int .i64 0, .int .i64 0, .int .i8 0]) (neOf h1))))))]) (by kernel_rfl)).to (by (simp [wk, wkL, h1]; done))
 exact (o63 (d := (xD 0 0 dst src base disp 0 cc)) (E1 ++ [tC (nt (andT rfl (andT rfl (andF (y := eqCells [.int .i8 src, .int .i8 base, .int .i64 disp, .int .i64 0, .int .i8 cc] [.int .i8 0, .int .i8 0, .int .i64 0, .int .i64 0, .int .i8 0]) (neOf h0)))))]) (by kernel_rfl)).to (by (simp [wk, wkL, h0]; done))
theorem bareL_10_ok (op w dst src base disp imm cc : Int) : Ret Tryz.prog 63 ([xD op w dst src base disp imm cc, .int .i8 10]) (xD 0 0 dst src base disp 0 0) := by
 let E1 : EL := (List.replicate 9 tF ++ [tT, tT, tT, tF, tT, .flat _ _ flat_X])
 by_cases h0 : dst = 0
 ·subst h0
  by_cases h1 : src = 0
  ·subst h1
   by_cases h2 : base = 0
   ·subst h2
    by_cases h3 : disp = 0
    ·subst h3
     exact (o63 (d := (xD 0 0 0 0 0 0 0 0)) (E1 ++ [tF]) (by kernel_rfl)).to (by (simp [wk, wkL, ]; done))
    exact (o63 (d := (xD 0 0 0 0 0 disp 0 0)) (E1 ++ [tC (nt (andT rfl (andT rfl (andT rfl (andT rfl (andT rfl (andF (y := true) (neOf h3))))))))]) (by kernel_rfl)).to (by (simp [wk, wkL, h3]; done))
   exact (o63 (d := (xD 0 0 0 0 base disp 0 0)) (E1 ++ [tC (nt (andT rfl (andT rfl (andT rfl (andT rfl (andF (y := eqCells [.int .i64 disp, .int .i64 0, .int .i8 0] [.int .i64 0, .int .i64 0, .int .i8 0]) (neOf h2)))))))]) (by kernel_rfl)).to (by (simp [wk, wkL, h2]; done))
  exact (o63 (d := (xD 0 0 0 src base disp 0 0)) (E1 ++ [tC (nt (andT rfl (andT rfl (andT rfl (andF (y := eqCells [.int .i8 base, .int .i64 disp, .int .i64 0, .int .i8 0] [.int .i8 0, .int .i64 0, .int .i64 0, .int .i8 0]) (neOf h1))))))]) (by kernel_rfl)).to (by (simp [wk, wkL, h1]; done))
 exact (o63 (d := (xD 0 0 dst src base disp 0 0)) (E1 ++ [tC (nt (andT rfl (andT rfl (andF (y := eqCells [.int .i8 src, .int .i8 base, .int .i64 disp, .int .i64 0, .int .i8 0] [.int .i8 0, .int .i8 0, .int .i64 0, .int .i64 0, .int .i8 0]) (neOf h0)))))]) (by kernel_rfl)).to (by (simp [wk, wkL, h0]; done))
theorem bareL_11_ok (op w dst src base disp imm cc : Int) : Ret Tryz.prog 63 ([xD op w dst src base disp imm cc, .int .i8 11]) (xD 0 w dst src base disp imm cc) := by
 let E1 : EL := (List.replicate 10 tF ++ [tT, tT, tF, tF, .flat _ _ flat_X])
 by_cases h0 : w = 0
 ·subst h0
  by_cases h1 : dst = 0
  ·subst h1
   by_cases h2 : src = 0
   ·subst h2
    by_cases h3 : base = 0
    ·subst h3
     by_cases h4 : disp = 0
     ·subst h4
      by_cases h5 : imm = 0
      ·subst h5
       by_cases h6 : cc = 0
       ·subst h6
        exact (o63 (d := (xD 0 0 0 0 0 0 0 0)) (E1 ++ [tF]) (by kernel_rfl)).to (by (simp [wk, wkL, ]; done))
       exact (o63 (d := (xD 0 0 0 0 0 0 0 cc)) (E1 ++ [tC (nt (andT rfl (andT rfl (andT rfl (andT rfl (andT rfl (andT rfl (andT rfl (andF (y := true) (neOf h6))))))))))]) (by kernel_rfl)).to (by (simp [wk, wkL, h6]; done))
      exact (o63 (d := (xD 0 0 0 0 0 0 imm cc)) (E1 ++ [tC (nt (andT rfl (andT rfl (andT rfl (andT rfl (andT rfl (andT rfl (andF (y := eqCells [.int .i8 cc] [.int .i8 0]) (neOf h5)))))))))]) (by kernel_rfl)).to (by (simp [wk, wkL, h5]; done))
     exact (o63 (d := (xD 0 0 0 0 0 disp imm cc)) (E1 ++ [tC (nt (andT rfl (andT rfl (andT rfl (andT rfl (andT rfl (andF (y := eqCells [.int .i64 imm, .int .i8 cc] [.int .i64 0, .int .i8 0]) (neOf h4))))))))]) (by kernel_rfl)).to (by (simp [wk, wkL, h4]; done))
    exact (o63 (d := (xD 0 0 0 0 base disp imm cc)) (E1 ++ [tC (nt (andT rfl (andT rfl (andT rfl (andT rfl (andF (y := eqCells [.int .i64 disp, .int .i64 imm, .int .i8 cc] [.int .i64 0, .int .i64 0, .int .i8 0]) (neOf h3)))))))]) (by kernel_rfl)).to (by (simp [wk, wkL, h3]; done))
   exact (o63 (d := (xD 0 0 0 src base disp imm cc)) (E1 ++ [tC (nt (andT rfl (andT rfl (andT rfl (andF (y := eqCells [.int .i8 base, .int .i64 disp, .int .i64 imm, .int .i8 cc] [.int .i8 0, .int .i64 0, .int .i64 0, .int .i8 0]) (neOf h2))))))]) (by kernel_rfl)).to (by (simp [wk, wkL, h2]; done))
  exact (o63 (d := (xD 0 0 dst src base disp imm cc)) (E1 ++ [tC (nt (andT rfl (andT rfl (andF (y := eqCells [.int .i8 src, .int .i8 base, .int .i64 disp, .int .i64 imm, .int .i8 cc] [.int .i8 0, .int .i8 0, .int .i64 0, .int .i64 0, .int .i8 0]) (neOf h1)))))]) (by kernel_rfl)).to (by (simp [wk, wkL, h1]; done))
 exact (o63 (d := (xD 0 w dst src base disp imm cc)) (E1 ++ [tC (nt (andT rfl (andF (y := eqCells [.int .i8 dst, .int .i8 src, .int .i8 base, .int .i64 disp, .int .i64 imm, .int .i8 cc] [.int .i8 0, .int .i8 0, .int .i8 0, .int .i64 0, .int .i64 0, .int .i8 0]) (neOf h0))))]) (by kernel_rfl)).to (by (simp [wk, wkL, h0]; done))
theorem shape_none {op : Int} (h : op < 0 ∨ 32 ≤ op) : shapeM op = 0 ∧ codeM op = 0 ∧ numM op = 0 := by
 refine ⟨?_, ?_, ?_⟩
 ·unfold shapeM; repeat (rw [if_neg (by omega)])
 ·unfold codeM; repeat (rw [if_neg (by omega)])
 ·unfold numM; repeat (rw [if_neg (by omega)])
theorem of_any_ok (op : Int) (ho : op ≤ 127) : Ret Tryz.prog 30 [.int .i8 op] (.tup [.agg [.int .i8 (shapeM op), .int .u8 (codeM op), .int .i8 (numM op)], .bool (decide (0 ≤ op ∧ op ≤ 31))]) := by
 by_cases h1 : op < 0
 ·obtain ⟨e1, e2, e3⟩ := shape_none (.inl h1)
  rw [e1, e2, e3, decide_eq_false (by omega)]
  exact of_low_ok op h1
 ·by_cases h2 : 32 ≤ op
  ·obtain ⟨e1, e2, e3⟩ := shape_none (.inr h2)
   rw [e1, e2, e3, decide_eq_false (by omega)]
   exact of_high_ok op h2 ho
  ·rcases (by omega : op = 0 ∨ op = 1 ∨ op = 2 ∨ op = 3 ∨ op = 4 ∨ op = 5 ∨ op = 6 ∨ op = 7 ∨ op = 8 ∨ op = 9 ∨ op = 10 ∨ op = 11 ∨ op = 12 ∨ op = 13 ∨ op = 14 ∨ op = 15 ∨ op = 16 ∨ op = 17 ∨ op = 18 ∨ op = 19 ∨ op = 20 ∨ op = 21 ∨ op = 22 ∨ op = 23 ∨ op = 24 ∨ op = 25 ∨ op = 26 ∨ op = 27 ∨ op = 28 ∨ op = 29 ∨ op = 30 ∨ op = 31) with rfl | rfl | rfl | rfl | rfl | rfl | rfl | rfl | rfl | rfl | rfl | rfl | rfl | rfl | rfl | rfl | rfl | rfl | rfl | rfl | rfl | rfl | rfl | rfl | rfl | rfl | rfl | rfl | rfl | rfl | rfl | rfl
   ·exact of_0_ok
   ·exact of_1_ok
   ·exact of_2_ok
   ·exact of_3_ok
   ·exact of_4_ok
   ·exact of_5_ok
   ·exact of_6_ok
   ·exact of_7_ok
   ·exact of_8_ok
   ·exact of_9_ok
   ·exact of_10_ok
   ·exact of_11_ok
   ·exact of_12_ok
   ·exact of_13_ok
   ·exact of_14_ok
   ·exact of_15_ok
   ·exact of_16_ok
   ·exact of_17_ok
   ·exact of_18_ok
   ·exact of_19_ok
   ·exact of_20_ok
   ·exact of_21_ok
   ·exact of_22_ok
   ·exact of_23_ok
   ·exact of_24_ok
   ·exact of_25_ok
   ·exact of_26_ok
   ·exact of_27_ok
   ·exact of_28_ok
   ·exact of_29_ok
   ·exact of_30_ok
   ·exact of_31_ok
theorem bare_1_ok (op w dst src base disp imm cc sh : Int) (h : (sh == 1) = true) : Ret Tryz.prog 63 [xD op w dst src base disp imm cc, .int .i8 sh] (xD 0 0 0 0 base disp imm cc) := by
 obtain rfl := eq_of_beq h
 exact bareL_1_ok op w dst src base disp imm cc
theorem bare_2_ok (op w dst src base disp imm cc sh : Int) (h : (sh == 2) = true) : Ret Tryz.prog 63 [xD op w dst src base disp imm cc, .int .i8 sh] (xD 0 0 0 0 base disp imm cc) := by
 obtain rfl := eq_of_beq h
 exact bareL_2_ok op w dst src base disp imm cc
theorem bare_3_ok (op w dst src base disp imm cc sh : Int) (h : (sh == 3) = true) : Ret Tryz.prog 63 [xD op w dst src base disp imm cc, .int .i8 sh] (xD 0 0 0 src base disp 0 cc) := by
 obtain rfl := eq_of_beq h
 exact bareL_3_ok op w dst src base disp imm cc
theorem bare_4_ok (op w dst src base disp imm cc sh : Int) (h : (sh == 4) = true) : Ret Tryz.prog 63 [xD op w dst src base disp imm cc, .int .i8 sh] (xD 0 0 0 src base disp 0 cc) := by
 obtain rfl := eq_of_beq h
 exact bareL_4_ok op w dst src base disp imm cc
theorem bare_5_ok (op w dst src base disp imm cc sh : Int) (h : (sh == 5) = true) : Ret Tryz.prog 63 [xD op w dst src base disp imm cc, .int .i8 sh] (xD 0 0 0 src base disp imm cc) := by
 obtain rfl := eq_of_beq h
 exact bareL_5_ok op w dst src base disp imm cc
theorem bare_6_ok (op w dst src base disp imm cc sh : Int) (h : (sh == 6) = true) : Ret Tryz.prog 63 [xD op w dst src base disp imm cc, .int .i8 sh] (xD 0 0 0 0 base disp imm 0) := by
 obtain rfl := eq_of_beq h
 exact bareL_6_ok op w dst src base disp imm cc
theorem bare_7_ok (op w dst src base disp imm cc sh : Int) (h : (sh == 7) = true) : Ret Tryz.prog 63 [xD op w dst src base disp imm cc, .int .i8 sh] (xD 0 0 0 src 0 0 imm cc) := by
 obtain rfl := eq_of_beq h
 exact bareL_7_ok op w dst src base disp imm cc
theorem bare_8_ok (op w dst src base disp imm cc sh : Int) (h : (sh == 8) = true) : Ret Tryz.prog 63 [xD op w dst src base disp imm cc, .int .i8 sh] (xD 0 0 dst 0 0 0 imm cc) := by
 obtain rfl := eq_of_beq h
 exact bareL_8_ok op w dst src base disp imm cc
theorem bare_9_ok (op w dst src base disp imm cc sh : Int) (h : (sh == 9) = true) : Ret Tryz.prog 63 [xD op w dst src base disp imm cc, .int .i8 sh] (xD 0 0 dst src base disp 0 cc) := by
 obtain rfl := eq_of_beq h
 exact bareL_9_ok op w dst src base disp imm cc
theorem bare_10_ok (op w dst src base disp imm cc sh : Int) (h : (sh == 10) = true) : Ret Tryz.prog 63 [xD op w dst src base disp imm cc, .int .i8 sh] (xD 0 0 dst src base disp 0 0) := by
 obtain rfl := eq_of_beq h
 exact bareL_10_ok op w dst src base disp imm cc
theorem bare_11_ok (op w dst src base disp imm cc sh : Int) (h : (sh == 11) = true) : Ret Tryz.prog 63 [xD op w dst src base disp imm cc, .int .i8 sh] (xD 0 w dst src base disp imm cc) := by
 obtain rfl := eq_of_beq h
 exact bareL_11_ok op w dst src base disp imm cc
theorem mayX_0_ok (op w dst src base disp imm cc : Int) (ho : op ≤ 127) (h : (shapeM op == 0) = true) (hin : decide (0 ≤ op ∧ op ≤ 31) = false) : Ret Tryz.prog 29 ([xD op w dst src base disp imm cc]) (.bool (mayX op w dst src base disp imm cc)) := by
 have c0 := @of_any_ok op ho
 rw [show (shapeM op) = 0 from (eq_of_beq h)] at c0
 generalize g2 : codeM op = r1 at c0
 generalize g4 : numM op = r3 at c0
 exact (o29 (d := .bool false) ([.ret _ _ _ c0] ++ List.replicate 6 (tC (eF (nt hin))) ++ [tC (nt hin), tF, tF, tF, tF, tT, tF, tF, tF, tF, tT, tF, tF, tF, tF, tT, tF, tF, tF, tF, tT, tF, tF, tF, tF, tT, tT]) (by kernel_rfl)).to (by (try simp only [sl0, wk, wkL, wkO, eqCells, eqCell, mayX, regM, mayS, longM, widthM, jumpM, ccM] at *); (simp [wk, wkL, wkO, eqCells, eqCell, mayX, regM, mayS, longM, widthM, jumpM, ccM, *]; done))
theorem mayX_1_ok (op w dst src base disp imm cc : Int) (ho : op ≤ 127) (h : (shapeM op == 1) = true) (hin : decide (0 ≤ op ∧ op ≤ 31) = true) : Ret Tryz.prog 29 ([xD op w dst src base disp imm cc]) (.bool (mayX op w dst src base disp imm cc)) := by
 have c0 := @of_any_ok op ho
 rw [show (shapeM op) = 1 from (eq_of_beq h)] at c0
 generalize g2 : codeM op = r1 at c0
 generalize g4 : numM op = r3 at c0
 have c5 := @bare_1_ok op w dst src base disp imm cc 1 (rfl : true = true)
 let E1 : EL := ([.ret _ _ _ c0] ++ List.replicate 4 (tC (eF (nt hin))) ++ [.ret _ _ _ c5, tC (eF (nt hin)), tC (eF (nt hin)), .flat _ _ flat_X, tC (nt hin)])
 rcases bft (eqCells [.int .i8 0, .int .i8 0, .int .i8 0, .int .i8 0, .int .i8 base, .int .i64 disp, .int .i64 imm, .int .i8 cc] [.int .i8 0, .int .i8 0, .int .i8 0, .int .i8 0, .int .i8 0, .int .i64 0, .int .i64 0, .int .i8 0]) with h6 | h6
 ·have c7 := @reg_ok dst
  generalize g9 : regM dst = r8 at c7
  let E2 : EL := E1 ++ List.replicate 3 (tC (eF (nt h6))) ++ [.ret _ _ _ c7, tC (eF (nt h6)), tC (nt h6)]
  cases r8
  ·exact (o29 (d := .bool false) (E2 ++ [tF, tF, tF, tF, tT, tF, tF, tF, tF, tT, tF, tF, tF, tF, tT, tF, tF, tF, tF, tT, tT]) (by kernel_rfl)).to (by clear E1 E2; (try simp only [sl0, wk, wkL, wkO, eqCells, eqCell, mayX, regM, mayS, longM, widthM, jumpM, ccM] at *); (simp [wk, wkL, wkO, eqCells, eqCell, mayX, regM, mayS, longM, widthM, jumpM, ccM, *]; done))
  have c10 := @reg_ok src
  generalize g12 : regM src = r11 at c10
  let E3 : EL := E2 ++ [tT, tT, tT, .ret _ _ _ c10, tT, tF]
  cases r11
  ·exact (o29 (d := .bool false) (E3 ++ [tF, tF, tF, tF, tT, tF, tF, tF, tF, tT, tF, tF, tF, tF, tT, tT]) (by kernel_rfl)).to (by clear E1 E2 E3; (try simp only [sl0, wk, wkL, wkO, eqCells, eqCell, mayX, regM, mayS, longM, widthM, jumpM, ccM] at *); (simp [wk, wkL, wkO, eqCells, eqCell, mayX, regM, mayS, longM, widthM, jumpM, ccM, *]; done))
  have c13 := @reg_ok base
  generalize g15 : regM base = r14 at c13
  let E4 : EL := E3 ++ [tT, tT, tT, .ret _ _ _ c13, tT, tF]
  cases r14
  ·exact (o29 (d := .bool false) (E4 ++ [tF, tF, tF, tF, tT, tF, tF, tF, tF, tT, tT]) (by kernel_rfl)).to (by clear E1 E2 E3 E4; (try simp only [sl0, wk, wkL, wkO, eqCells, eqCell, mayX, regM, mayS, longM, widthM, jumpM, ccM] at *); (simp [wk, wkL, wkO, eqCells, eqCell, mayX, regM, mayS, longM, widthM, jumpM, ccM, *]; done))
  have c16 := @within_ok disp (-2147483648) 2147483647
  let E5 : EL := E4 ++ [tT, tT, tT, .ret _ _ _ c16, tT, tF]
  rcases bft (decide (disp < (-2147483648))) with h17 | h17
  ·exact (o29 (d := .bool false) (E5 ++ List.replicate 4 (tC (eF (nt (andF (y := decide (disp ≤ 2147483647)) (leL (-2147483648) h17))))) ++ [tC (nt (andF (y := decide (disp ≤ 2147483647)) (leL (-2147483648) h17))), tT]) (by kernel_rfl)).to (by clear E1 E2 E3 E4 E5; (try simp only [sl0, wk, wkL, wkO, eqCells, eqCell, mayX, regM, mayS, longM, widthM, jumpM, ccM] at *); (simp [wk, wkL, wkO, eqCells, eqCell, mayX, regM, mayS, longM, widthM, jumpM, ccM, *]; omega))
  rcases bft (decide (disp < 2147483648)) with h18 | h18
  ·have c19 := @within_ok imm (-2147483648) 2147483647
   let E6 : EL := E5 ++ List.replicate 3 (tC (eF (nt (andT (leL (-2147483648) h17) (leC 2147483647 h18))))) ++ [.ret _ _ _ c19, tC (eF (nt (andT (leL (-2147483648) h17) (leC 2147483647 h18)))), tC (nt (andT (leL (-2147483648) h17) (leC 2147483647 h18)))]
   rcases bft (decide (imm < (-2147483648))) with h20 | h20
   ·exact (o29 (d := .bool false) (E6 ++ [tC (nt (andF (y := decide (imm ≤ 2147483647)) (leL (-2147483648) h20)))]) (by kernel_rfl)).to (by clear E1 E2 E3 E4 E5 E6; (try simp only [sl0, wk, wkL, wkO, eqCells, eqCell, mayX, regM, mayS, longM, widthM, jumpM, ccM] at *); (simp [wk, wkL, wkO, eqCells, eqCell, mayX, regM, mayS, longM, widthM, jumpM, ccM, *]; omega))
   rcases bft (decide (imm < 2147483648)) with h21 | h21
   ·let E7 : EL := E6 ++ [tC (nt (andT (leL (-2147483648) h20) (leC 2147483647 h21)))]
    by_cases h22 : w = 32
    ·subst h22
     exact (o29 (d := .bool true) (E7 ++ [tF, tF, tF, tT, tF, tF, tF, tF, tF, tT, tT, tT]) (by kernel_rfl)).to (by clear E1 E2 E3 E4 E5 E6 E7; (try simp only [sl0, wk, wkL, wkO, eqCells, eqCell, mayX, regM, mayS, longM, widthM, jumpM, ccM] at *); (rw [Bool.eq_iff_iff]; simp [wk, wkL, wkO, eqCells, eqCell, mayX, regM, mayS, longM, widthM, jumpM, ccM, *]; grind))
    let E8 : EL := E7 ++ List.replicate 3 (tC (eF (neOf h22))) ++ [tC (neOf h22)] ++ List.replicate 4 (tC (eF (neOf h22)))
    by_cases h23 : w = 8
    ·subst h23
     have c24 := @within_ok imm (-128) 127
     exact (o29 (d := .bool false) (E8 ++ [tT, tT, tT, .ret _ _ _ c24, tT, tT, tF, tT, tT]) (by kernel_rfl)).to (by clear E1 E2 E3 E4 E5 E6 E7 E8; (try simp only [sl0, wk, wkL, wkO, eqCells, eqCell, mayX, regM, mayS, longM, widthM, jumpM, ccM] at *); (simp [wk, wkL, wkO, eqCells, eqCell, mayX, regM, mayS, longM, widthM, jumpM, ccM, *]; done))
    exact (o29 (d := .bool (w == 64)) (E8 ++ List.replicate 3 (tC (eT (neOf h23))) ++ [tC (eF (neOf h22)), tC (neOf h23), tC (neOf h22), tT, tT]) (by kernel_rfl)).to (by clear E1 E2 E3 E4 E5 E6 E7 E8; (try simp only [sl0, wk, wkL, wkO, eqCells, eqCell, mayX, regM, mayS, longM, widthM, jumpM, ccM] at *); (rw [Bool.eq_iff_iff]; simp [wk, wkL, wkO, eqCells, eqCell, mayX, regM, mayS, longM, widthM, jumpM, ccM, *]; grind))
   exact (o29 (d := .bool false) (E6 ++ [tC (nt (andT (leL (-2147483648) h20) (leC 2147483647 h21)))]) (by kernel_rfl)).to (by clear E1 E2 E3 E4 E5 E6; (try simp only [sl0, wk, wkL, wkO, eqCells, eqCell, mayX, regM, mayS, longM, widthM, jumpM, ccM] at *); (simp [wk, wkL, wkO, eqCells, eqCell, mayX, regM, mayS, longM, widthM, jumpM, ccM, *]; omega))
  exact (o29 (d := .bool false) (E5 ++ List.replicate 4 (tC (eF (nt (andT (leL (-2147483648) h17) (leC 2147483647 h18))))) ++ [tC (nt (andT (leL (-2147483648) h17) (leC 2147483647 h18))), tT]) (by kernel_rfl)).to (by clear E1 E2 E3 E4 E5; (try simp only [sl0, wk, wkL, wkO, eqCells, eqCell, mayX, regM, mayS, longM, widthM, jumpM, ccM] at *); (simp [wk, wkL, wkO, eqCells, eqCell, mayX, regM, mayS, longM, widthM, jumpM, ccM, *]; omega))
 exact (o29 (d := .bool false) (E1 ++ List.replicate 4 (tC (eF (nt h6))) ++ [tC (nt h6), tF, tF, tF, tF, tT, tF, tF, tF, tF, tT, tF, tF, tF, tF, tT, tF, tF, tF, tF, tT, tT]) (by kernel_rfl)).to (by clear E1; (try simp only [sl0, wk, wkL, wkO, eqCells, eqCell, mayX, regM, mayS, longM, widthM, jumpM, ccM] at *); (rw [Bool.eq_iff_iff]; simp [wk, wkL, wkO, eqCells, eqCell, mayX, regM, mayS, longM, widthM, jumpM, ccM, *]; grind))
theorem mayX_2_ok (op w dst src base disp imm cc : Int) (ho : op ≤ 127) (h : (shapeM op == 2) = true) (hin : decide (0 ≤ op ∧ op ≤ 31) = true) : Ret Tryz.prog 29 ([xD op w dst src base disp imm cc]) (.bool (mayX op w dst src base disp imm cc)) := by
 have c0 := @of_any_ok op ho
 rw [show (shapeM op) = 2 from (eq_of_beq h)] at c0
 generalize g2 : codeM op = r1 at c0
 generalize g4 : numM op = r3 at c0
 have c5 := @bare_2_ok op w dst src base disp imm cc 2 (rfl : true = true)
 let E1 : EL := ([.ret _ _ _ c0] ++ List.replicate 4 (tC (eF (nt hin))) ++ [.ret _ _ _ c5, tC (eF (nt hin)), tC (eF (nt hin)), .flat _ _ flat_X, tC (nt hin)])
 rcases bft (eqCells [.int .i8 0, .int .i8 0, .int .i8 0, .int .i8 0, .int .i8 base, .int .i64 disp, .int .i64 imm, .int .i8 cc] [.int .i8 0, .int .i8 0, .int .i8 0, .int .i8 0, .int .i8 0, .int .i64 0, .int .i64 0, .int .i8 0]) with h6 | h6
 ·have c7 := @reg_ok dst
  generalize g9 : regM dst = r8 at c7
  let E2 : EL := E1 ++ List.replicate 3 (tC (eF (nt h6))) ++ [.ret _ _ _ c7, tC (eF (nt h6)), tC (nt h6)]
  cases r8
  ·exact (o29 (d := .bool false) (E2 ++ [tF, tF, tF, tF, tT, tF, tF, tF, tF, tT, tF, tF, tF, tF, tT, tF, tF, tF, tF, tT, tT]) (by kernel_rfl)).to (by clear E1 E2; (try simp only [sl0, wk, wkL, wkO, eqCells, eqCell, mayX, regM, mayS, longM, widthM, jumpM, ccM] at *); (simp [wk, wkL, wkO, eqCells, eqCell, mayX, regM, mayS, longM, widthM, jumpM, ccM, *]; done))
  have c10 := @reg_ok src
  generalize g12 : regM src = r11 at c10
  let E3 : EL := E2 ++ [tT, tT, tT, .ret _ _ _ c10, tT, tF]
  cases r11
  ·exact (o29 (d := .bool false) (E3 ++ [tF, tF, tF, tF, tT, tF, tF, tF, tF, tT, tF, tF, tF, tF, tT, tT]) (by kernel_rfl)).to (by clear E1 E2 E3; (try simp only [sl0, wk, wkL, wkO, eqCells, eqCell, mayX, regM, mayS, longM, widthM, jumpM, ccM] at *); (simp [wk, wkL, wkO, eqCells, eqCell, mayX, regM, mayS, longM, widthM, jumpM, ccM, *]; done))
  have c13 := @reg_ok base
  generalize g15 : regM base = r14 at c13
  let E4 : EL := E3 ++ [tT, tT, tT, .ret _ _ _ c13, tT, tF]
  cases r14
  ·exact (o29 (d := .bool false) (E4 ++ [tF, tF, tF, tF, tT, tF, tF, tF, tF, tT, tT]) (by kernel_rfl)).to (by clear E1 E2 E3 E4; (try simp only [sl0, wk, wkL, wkO, eqCells, eqCell, mayX, regM, mayS, longM, widthM, jumpM, ccM] at *); (simp [wk, wkL, wkO, eqCells, eqCell, mayX, regM, mayS, longM, widthM, jumpM, ccM, *]; done))
  have c16 := @within_ok disp (-2147483648) 2147483647
  let E5 : EL := E4 ++ [tT, tT, tT, .ret _ _ _ c16, tT, tF]
  rcases bft (decide (disp < (-2147483648))) with h17 | h17
  ·exact (o29 (d := .bool false) (E5 ++ List.replicate 4 (tC (eF (nt (andF (y := decide (disp ≤ 2147483647)) (leL (-2147483648) h17))))) ++ [tC (nt (andF (y := decide (disp ≤ 2147483647)) (leL (-2147483648) h17))), tT]) (by kernel_rfl)).to (by clear E1 E2 E3 E4 E5; (try simp only [sl0, wk, wkL, wkO, eqCells, eqCell, mayX, regM, mayS, longM, widthM, jumpM, ccM] at *); (simp [wk, wkL, wkO, eqCells, eqCell, mayX, regM, mayS, longM, widthM, jumpM, ccM, *]; omega))
  rcases bft (decide (disp < 2147483648)) with h18 | h18
  ·have c19 := @within_ok imm (-2147483648) 2147483647
   let E6 : EL := E5 ++ List.replicate 3 (tC (eF (nt (andT (leL (-2147483648) h17) (leC 2147483647 h18))))) ++ [.ret _ _ _ c19, tC (eF (nt (andT (leL (-2147483648) h17) (leC 2147483647 h18)))), tC (nt (andT (leL (-2147483648) h17) (leC 2147483647 h18)))]
   rcases bft (decide (imm < (-2147483648))) with h20 | h20
   ·exact (o29 (d := .bool false) (E6 ++ [tC (nt (andF (y := decide (imm ≤ 2147483647)) (leL (-2147483648) h20)))]) (by kernel_rfl)).to (by clear E1 E2 E3 E4 E5 E6; (try simp only [sl0, wk, wkL, wkO, eqCells, eqCell, mayX, regM, mayS, longM, widthM, jumpM, ccM] at *); (simp [wk, wkL, wkO, eqCells, eqCell, mayX, regM, mayS, longM, widthM, jumpM, ccM, *]; omega))
   rcases bft (decide (imm < 2147483648)) with h21 | h21
   ·let E7 : EL := E6 ++ [tC (nt (andT (leL (-2147483648) h20) (leC 2147483647 h21)))]
    by_cases h22 : w = 32
    ·subst h22
     exact (o29 (d := .bool true) (E7 ++ [tF, tF, tF, tT, tF, tF, tF, tF, tF, tT, tF, tT, tT]) (by kernel_rfl)).to (by clear E1 E2 E3 E4 E5 E6 E7; (try simp only [sl0, wk, wkL, wkO, eqCells, eqCell, mayX, regM, mayS, longM, widthM, jumpM, ccM] at *); (rw [Bool.eq_iff_iff]; simp [wk, wkL, wkO, eqCells, eqCell, mayX, regM, mayS, longM, widthM, jumpM, ccM, *]; grind))
    let E8 : EL := E7 ++ List.replicate 3 (tC (eF (neOf h22))) ++ [tC (neOf h22)] ++ List.replicate 4 (tC (eF (neOf h22)))
    by_cases h23 : w = 8
    ·subst h23
     have c24 := @within_ok imm (-128) 127
     exact (o29 (d := .bool false) (E8 ++ [tT, tT, tT, .ret _ _ _ c24, tT, tT, tF, tF, tT, tT]) (by kernel_rfl)).to (by clear E1 E2 E3 E4 E5 E6 E7 E8; (try simp only [sl0, wk, wkL, wkO, eqCells, eqCell, mayX, regM, mayS, longM, widthM, jumpM, ccM] at *); (simp [wk, wkL, wkO, eqCells, eqCell, mayX, regM, mayS, longM, widthM, jumpM, ccM, *]; done))
    exact (o29 (d := .bool (w == 64)) (E8 ++ List.replicate 3 (tC (eT (neOf h23))) ++ [tC (eF (neOf h22)), tC (neOf h23), tC (neOf h22), tF, tT, tT]) (by kernel_rfl)).to (by clear E1 E2 E3 E4 E5 E6 E7 E8; (try simp only [sl0, wk, wkL, wkO, eqCells, eqCell, mayX, regM, mayS, longM, widthM, jumpM, ccM] at *); (rw [Bool.eq_iff_iff]; simp [wk, wkL, wkO, eqCells, eqCell, mayX, regM, mayS, longM, widthM, jumpM, ccM, *]; grind))
   exact (o29 (d := .bool false) (E6 ++ [tC (nt (andT (leL (-2147483648) h20) (leC 2147483647 h21)))]) (by kernel_rfl)).to (by clear E1 E2 E3 E4 E5 E6; (try simp only [sl0, wk, wkL, wkO, eqCells, eqCell, mayX, regM, mayS, longM, widthM, jumpM, ccM] at *); (simp [wk, wkL, wkO, eqCells, eqCell, mayX, regM, mayS, longM, widthM, jumpM, ccM, *]; omega))
  exact (o29 (d := .bool false) (E5 ++ List.replicate 4 (tC (eF (nt (andT (leL (-2147483648) h17) (leC 2147483647 h18))))) ++ [tC (nt (andT (leL (-2147483648) h17) (leC 2147483647 h18))), tT]) (by kernel_rfl)).to (by clear E1 E2 E3 E4 E5; (try simp only [sl0, wk, wkL, wkO, eqCells, eqCell, mayX, regM, mayS, longM, widthM, jumpM, ccM] at *); (simp [wk, wkL, wkO, eqCells, eqCell, mayX, regM, mayS, longM, widthM, jumpM, ccM, *]; omega))
 exact (o29 (d := .bool false) (E1 ++ List.replicate 4 (tC (eF (nt h6))) ++ [tC (nt h6), tF, tF, tF, tF, tT, tF, tF, tF, tF, tT, tF, tF, tF, tF, tT, tF, tF, tF, tF, tT, tT]) (by kernel_rfl)).to (by clear E1; (try simp only [sl0, wk, wkL, wkO, eqCells, eqCell, mayX, regM, mayS, longM, widthM, jumpM, ccM] at *); (rw [Bool.eq_iff_iff]; simp [wk, wkL, wkO, eqCells, eqCell, mayX, regM, mayS, longM, widthM, jumpM, ccM, *]; grind))
end Go.Proofs.YtglcgdnaanhddaaGreat
