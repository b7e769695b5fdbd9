/- Contracts and plain laws that a statement's proof leans on (texts merged: XQ3, XQ3A, XQ4, XQ4A, XQ1E, XQ1F, XQ2E, XQ2F, XQ3E, XQ3F). -/
import Derived.Test.YtcngafhpodeenaaG05
import Derived.Test.YtcngafhpodeenaaG06
set_option linter.unusedVariables false
set_option linter.unusedSimpArgs false
namespace Go.Proofs.Ytcngafhpodeenaa
open Go Go.Ev
set_option maxRecDepth 100000
set_option maxHeartbeats 8000000
theorem two_b_ok (X0 X2 : List D) (b : List Int) (hb : isB b) (hl : b.length ≤ 1000) (k : Nat) (bad w : Bool) (rr mm : Int) (n0 : 0 ≤ rdV b k) (n1 : rdV b k ≤ 255) (h : rdX b k bad = true)  : CallRun Try.prog 47 ([.ptr false 1 0]) ([.box X0, bR b ((k : Int)) (bad) w rr mm, .box X2]) (.tup [.int .i8 (rdHi (rdV b k) rr), .int .i8 (rdLo (rdV b k) mm)]) ([.box X0, bR b ((rdA b k : Nat)) (true) w rr mm, .box X2]) := by
 exact CallRun.of_eval (keep := [0, 1, 2]) mixed [.callR _ _ _ _ _ (@byte_ok (X0) (X2) (b) hb hl (k) (bad) (w) (rr) (mm)), tC (eF h), tC (eF h), tC h] (by kernel_rfl)
theorem two_n_ok (X0 X2 : List D) (b : List Int) (hb : isB b) (hl : b.length ≤ 1000) (k : Nat) (bad w : Bool) (rr mm : Int) (n0 : 0 ≤ rdV b k) (n1 : rdV b k ≤ 255) (h : rdX b k bad = false) (h2 : rdV b k < 192)  : CallRun Try.prog 47 ([.ptr false 1 0]) ([.box X0, bR b ((k : Int)) (bad) w rr mm, .box X2]) (.tup [.int .i8 (rdHi (rdV b k) rr), .int .i8 (rdLo (rdV b k) mm)]) ([.box X0, bR b ((rdA b k : Nat)) (true) w rr mm, .box X2]) := by
 exact (CallRun.of_eval (keep := [0, 1, 2]) (s' := [Ob.box X0, bR b (↑(rdA b k) : Int) (decide (rdV b k < (192 : Int))) w rr mm, Ob.box X2]) mixed [.callR _ _ _ _ _ (@byte_ok (X0) (X2) (b) hb hl (k) (bad) (w) (rr) (mm)), tC (eF h), tC (eF h), tC h] (by kernel_rfl)).cast rfl (by (simp; omega))
theorem two_y_ok (X0 X2 : List D) (b : List Int) (hb : isB b) (hl : b.length ≤ 1000) (k : Nat) (bad w : Bool) (rr mm : Int) (n0 : 0 ≤ rdV b k) (n1 : rdV b k ≤ 255) (h : rdX b k bad = false) (h2 : 192 ≤ rdV b k)  : CallRun Try.prog 47 ([.ptr false 1 0]) ([.box X0, bR b ((k : Int)) (bad) w rr mm, .box X2]) (.tup [.int .i8 (rdHi (rdV b k) rr), .int .i8 (rdLo (rdV b k) mm)]) ([.box X0, bR b ((rdA b k : Nat)) (false) w rr mm, .box X2]) := by
 exact (CallRun.of_eval (keep := [0, 1, 2]) (s' := [Ob.box X0, bR b (↑(rdA b k) : Int) (decide (rdV b k < (192 : Int))) w rr mm, Ob.box X2]) mixed [.callR _ _ _ _ _ (@byte_ok (X0) (X2) (b) hb hl (k) (bad) (w) (rr) (mm)), tC (eF h), tC (eF h), tC h] (by kernel_rfl)).cast rfl (by (simp; omega))
theorem mem_b0_ok (X0 X2 : List D) (b : List Int) (hb : isB b) (hl : b.length ≤ 1000) (k : Nat) (bad w : Bool) (rr mm : Int) (n0 : 0 ≤ rdV b k) (n1 : rdV b k ≤ 255) (h : rdX b k bad = true) (hq : (IntKind.i64.wrap ((BitVec.ofInt 64 (rdV b k) &&& BitVec.ofInt 64 7).toNat : Int) == 4) = false)  : CallRun Try.prog 46 ([.ptr false 1 0]) ([.box X0, bR b ((k : Int)) (bad) w rr mm, .box X2]) (.tup [.int .i8 (rdHi (rdV b k) rr), .int .i8 (rdLo (rdV b k) mm), .int .i64 (rdN4 b (rdA b k))]) ([.box X0, bR b ((rdA4 b (rdA b k) : Nat)) (rdX4 b (rdA b k) true) w rr mm, .box X2, .dead]) := by
 by_cases h0 : IntKind.wrap IntKind.i64 (↑(BitVec.toNat (BitVec.ofInt (64 : Nat) (rdV b k) &&& BitVec.ofInt (64 : Nat) (7 : Int))) : Int) = 4
 ·skip
  exfalso; simp only [beq_iff_eq, beq_eq_false_iff_ne, ne_eq] at hq; first | exact hq h0 | exact h0 hq | (rw [decide_eq_true (by omega), hx] at h1; cases h1) | (rw [decide_eq_false (by omega), hx] at h1; cases h1)
 ·skip
  exact CallRun.of_eval (keep := [0, 1, 2]) mixed [.callR _ _ _ _ _ (@byte_ok (X0) (X2) (b) hb hl (k) (bad) (w) (rr) (mm)), tC (eF h), tC (eF h), tC h, tF, tF, tT, tC (neOf h0), .callR _ _ _ _ _ (@number4_ok (X0) (X2) (b) hb hl (rdA b k) (true) (w) (rr) (mm)), .keepC [(1, 0, .lst .no 1 (bD b)), (1, 3, .bool w), (1, 4, .int .i8 rr), (1, 5, .int .i8 mm)] [(0, Ob.box X0), (2, Ob.box X2)]] (by kernel_rfl)
theorem mem_bb_ok (X0 X2 : List D) (b : List Int) (hb : isB b) (hl : b.length ≤ 1000) (k : Nat) (bad w : Bool) (rr mm : Int) (n0 : 0 ≤ rdV b k) (n1 : rdV b k ≤ 255) (h : rdX b k bad = true) (hq : (IntKind.i64.wrap ((BitVec.ofInt 64 (rdV b k) &&& BitVec.ofInt 64 7).toNat : Int) == 4) = true) (m0 : 0 ≤ rdV b (rdA b k)) (m1 : rdV b (rdA b k) ≤ 255) (hx : rdX b (rdA b k) true = true)  : CallRun Try.prog 46 ([.ptr false 1 0]) ([.box X0, bR b ((k : Int)) (bad) w rr mm, .box X2]) (.tup [.int .i8 (rdHi (rdV b k) rr), .int .i8 (rdLo (rdV b k) mm), .int .i64 (rdN4 b (rdA b (rdA b k)))]) ([.box X0, .box [.lst .no 1 (bD b), .int .i64 ((rdA4 b (rdA b (rdA b k)) : Nat)), .bool (rdX4 b (rdA b (rdA b k)) true), .bool w, .int .i8 rr, .int .i8 mm], .box X2, .dead]) := by
 by_cases h0 : IntKind.wrap IntKind.i64 (↑(BitVec.toNat (BitVec.ofInt (64 : Nat) (rdV b k) &&& BitVec.ofInt (64 : Nat) (7 : Int))) : Int) = 4
 ·skip
  exact CallRun.of_eval (keep := [0, 1, 2]) mixed [.callR _ _ _ _ _ (@byte_ok (X0) (X2) (b) hb hl (k) (bad) (w) (rr) (mm)), tC (eF h), tC (eF h), tC h, tF, tF, tT, tC (eqI 4 true h0), .callR _ _ _ _ _ (@byte_ok (X0) (X2) (b) hb hl (rdA b k) (true) (w) (rr) (mm)), tF, tF, tT, .callR _ _ _ _ _ (@number4_ok (X0) (X2) (b) hb hl (rdA b (rdA b k)) (true) (w) (rr) (mm)), .keepC [(1, 0, .lst .no 1 (bD b)), (1, 3, .bool w), (1, 4, .int .i8 rr), (1, 5, .int .i8 mm)] [(0, Ob.box X0), (2, Ob.box X2)]] (by kernel_rfl)
 ·skip
  exfalso; simp only [beq_iff_eq, beq_eq_false_iff_ne, ne_eq] at hq; first | exact hq h0 | exact h0 hq | (rw [decide_eq_true (by omega), hx] at h1; cases h1) | (rw [decide_eq_false (by omega), hx] at h1; cases h1)
theorem mem_l0_ok (X0 X2 : List D) (b : List Int) (hb : isB b) (hl : b.length ≤ 1000) (k : Nat) (bad w : Bool) (rr mm : Int) (n0 : 0 ≤ rdV b k) (n1 : rdV b k ≤ 255) (h : rdX b k bad = false) (h2 : rdV b k < 128) (hq : (IntKind.i64.wrap ((BitVec.ofInt 64 (rdV b k) &&& BitVec.ofInt 64 7).toNat : Int) == 4) = false)  : CallRun Try.prog 46 ([.ptr false 1 0]) ([.box X0, bR b ((k : Int)) (bad) w rr mm, .box X2]) (.tup [.int .i8 (rdHi (rdV b k) rr), .int .i8 (rdLo (rdV b k) mm), .int .i64 (rdN4 b (rdA b k))]) ([.box X0, bR b ((rdA4 b (rdA b k) : Nat)) (rdX4 b (rdA b k) true) w rr mm, .box X2, .dead]) := by
 by_cases h0 : IntKind.wrap IntKind.i64 (↑(BitVec.toNat (BitVec.ofInt (64 : Nat) (rdV b k) &&& BitVec.ofInt (64 : Nat) (7 : Int))) : Int) = 4
 ·skip
  exfalso; simp only [beq_iff_eq, beq_eq_false_iff_ne, ne_eq] at hq; first | exact hq h0 | exact h0 hq | (rw [decide_eq_true (by omega), hx] at h1; cases h1) | (rw [decide_eq_false (by omega), hx] at h1; cases h1)
 ·skip
  exact CallRun.of_eval (keep := [0, 1, 2]) mixed [.callR _ _ _ _ _ (@byte_ok (X0) (X2) (b) hb hl (k) (bad) (w) (rr) (mm)), tC (eF h), tC (eF h), tC h, tC (eF (decide_eq_true h2)), tC (eF (decide_eq_true h2)), tC (decide_eq_true h2), tC (neOf h0), .callR _ _ _ _ _ (@number4_ok (X0) (X2) (b) hb hl (rdA b k) (true) (w) (rr) (mm)), .keepC [(1, 0, .lst .no 1 (bD b)), (1, 3, .bool w), (1, 4, .int .i8 rr), (1, 5, .int .i8 mm)] [(0, Ob.box X0), (2, Ob.box X2)]] (by kernel_rfl)
theorem mem_lb_ok (X0 X2 : List D) (b : List Int) (hb : isB b) (hl : b.length ≤ 1000) (k : Nat) (bad w : Bool) (rr mm : Int) (n0 : 0 ≤ rdV b k) (n1 : rdV b k ≤ 255) (h : rdX b k bad = false) (h2 : rdV b k < 128) (hq : (IntKind.i64.wrap ((BitVec.ofInt 64 (rdV b k) &&& BitVec.ofInt 64 7).toNat : Int) == 4) = true) (m0 : 0 ≤ rdV b (rdA b k)) (m1 : rdV b (rdA b k) ≤ 255) (hx : rdX b (rdA b k) true = true)  : CallRun Try.prog 46 ([.ptr false 1 0]) ([.box X0, bR b ((k : Int)) (bad) w rr mm, .box X2]) (.tup [.int .i8 (rdHi (rdV b k) rr), .int .i8 (rdLo (rdV b k) mm), .int .i64 (rdN4 b (rdA b (rdA b k)))]) ([.box X0, .box [.lst .no 1 (bD b), .int .i64 ((rdA4 b (rdA b (rdA b k)) : Nat)), .bool (rdX4 b (rdA b (rdA b k)) true), .bool w, .int .i8 rr, .int .i8 mm], .box X2, .dead]) := by
 by_cases h0 : IntKind.wrap IntKind.i64 (↑(BitVec.toNat (BitVec.ofInt (64 : Nat) (rdV b k) &&& BitVec.ofInt (64 : Nat) (7 : Int))) : Int) = 4
 ·skip
  exact CallRun.of_eval (keep := [0, 1, 2]) mixed [.callR _ _ _ _ _ (@byte_ok (X0) (X2) (b) hb hl (k) (bad) (w) (rr) (mm)), tC (eF h), tC (eF h), tC h, tC (eF (decide_eq_true h2)), tC (eF (decide_eq_true h2)), tC (decide_eq_true h2), tC (eqI 4 true h0), .callR _ _ _ _ _ (@byte_ok (X0) (X2) (b) hb hl (rdA b k) (true) (w) (rr) (mm)), tF, tF, tT, .callR _ _ _ _ _ (@number4_ok (X0) (X2) (b) hb hl (rdA b (rdA b k)) (true) (w) (rr) (mm)), .keepC [(1, 0, .lst .no 1 (bD b)), (1, 3, .bool w), (1, 4, .int .i8 rr), (1, 5, .int .i8 mm)] [(0, Ob.box X0), (2, Ob.box X2)]] (by kernel_rfl)
 ·skip
  exfalso; simp only [beq_iff_eq, beq_eq_false_iff_ne, ne_eq] at hq; first | exact hq h0 | exact h0 hq | (rw [decide_eq_true (by omega), hx] at h1; cases h1) | (rw [decide_eq_false (by omega), hx] at h1; cases h1)
theorem mem_g0_ok (X0 X2 : List D) (b : List Int) (hb : isB b) (hl : b.length ≤ 1000) (k : Nat) (bad w : Bool) (rr mm : Int) (n0 : 0 ≤ rdV b k) (n1 : rdV b k ≤ 255) (h : rdX b k bad = false) (h3 : 128 ≤ rdV b k) (h2 : 192 ≤ rdV b k) (hq : (IntKind.i64.wrap ((BitVec.ofInt 64 (rdV b k) &&& BitVec.ofInt 64 7).toNat : Int) == 4) = false)  : CallRun Try.prog 46 ([.ptr false 1 0]) ([.box X0, bR b ((k : Int)) (bad) w rr mm, .box X2]) (.tup [.int .i8 (rdHi (rdV b k) rr), .int .i8 (rdLo (rdV b k) mm), .int .i64 (rdN4 b (rdA b k))]) ([.box X0, bR b ((rdA4 b (rdA b k) : Nat)) (rdX4 b (rdA b k) true) w rr mm, .box X2, .dead]) := by
 by_cases h0 : IntKind.wrap IntKind.i64 (↑(BitVec.toNat (BitVec.ofInt (64 : Nat) (rdV b k) &&& BitVec.ofInt (64 : Nat) (7 : Int))) : Int) = 4
 ·skip
  rcases Bool.eq_false_or_eq_true (rdX b (rdA b k) (decide (rdV b k ≥ (192 : Int)))) with h1 | h1
  ·skip
   exfalso; simp only [beq_iff_eq, beq_eq_false_iff_ne, ne_eq] at hq; first | exact hq h0 | exact h0 hq | (rw [decide_eq_true (by omega), hx] at h1; cases h1) | (rw [decide_eq_false (by omega), hx] at h1; cases h1)
  ·skip
   exfalso; simp only [beq_iff_eq, beq_eq_false_iff_ne, ne_eq] at hq; first | exact hq h0 | exact h0 hq | (rw [decide_eq_true (by omega), hx] at h1; cases h1) | (rw [decide_eq_false (by omega), hx] at h1; cases h1)
 ·skip
  exact (CallRun.of_eval (keep := [0, 1, 2]) (s' := [Ob.box X0, Ob.box [.lst .no 1 (bD b), .int .i64 (↑(rdA4 b (rdA b k)) : Int), .bool (rdX4 b (rdA b k) (decide (rdV b k ≥ (192 : Int)))), .bool w, .int .i8 rr, .int .i8 mm], Ob.box X2, Ob.dead]) mixed [.callR _ _ _ _ _ (@byte_ok (X0) (X2) (b) hb hl (k) (bad) (w) (rr) (mm)), tC (eF h), tC (eF h), tC h, tC (eF (decide_eq_false (Int.not_lt.2 h3))), tC (eF (decide_eq_false (Int.not_lt.2 h3))), tC (decide_eq_false (Int.not_lt.2 h3)), tC (neOf h0), .callR _ _ _ _ _ (@number4_ok (X0) (X2) (b) hb hl (rdA b k) (decide (rdV b k ≥ (192 : Int))) (w) (rr) (mm)), .keepC [(1, 0, .lst .no 1 (bD b)), (1, 3, .bool w), (1, 4, .int .i8 rr), (1, 5, .int .i8 mm)] [(0, Ob.box X0), (2, Ob.box X2)]] (by kernel_rfl)).cast rfl (by (simp only [decide_eq_true h2]; done))
theorem mem_gb_ok (X0 X2 : List D) (b : List Int) (hb : isB b) (hl : b.length ≤ 1000) (k : Nat) (bad w : Bool) (rr mm : Int) (n0 : 0 ≤ rdV b k) (n1 : rdV b k ≤ 255) (h : rdX b k bad = false) (h3 : 128 ≤ rdV b k) (h2 : 192 ≤ rdV b k) (hq : (IntKind.i64.wrap ((BitVec.ofInt 64 (rdV b k) &&& BitVec.ofInt 64 7).toNat : Int) == 4) = true) (m0 : 0 ≤ rdV b (rdA b k)) (m1 : rdV b (rdA b k) ≤ 255) (hx : rdX b (rdA b k) true = true)  : CallRun Try.prog 46 ([.ptr false 1 0]) ([.box X0, bR b ((k : Int)) (bad) w rr mm, .box X2]) (.tup [.int .i8 (rdHi (rdV b k) rr), .int .i8 (rdLo (rdV b k) mm), .int .i64 (rdN4 b (rdA b (rdA b k)))]) ([.box X0, .box [.lst .no 1 (bD b), .int .i64 ((rdA4 b (rdA b (rdA b k)) : Nat)), .bool (rdX4 b (rdA b (rdA b k)) true), .bool w, .int .i8 rr, .int .i8 mm], .box X2, .dead]) := by
 by_cases h0 : IntKind.wrap IntKind.i64 (↑(BitVec.toNat (BitVec.ofInt (64 : Nat) (rdV b k) &&& BitVec.ofInt (64 : Nat) (7 : Int))) : Int) = 4
 ·skip
  rcases Bool.eq_false_or_eq_true (rdX b (rdA b k) (decide (rdV b k ≥ (192 : Int)))) with h1 | h1
  ·skip
   exact CallRun.of_eval (keep := [0, 1, 2]) mixed [.callR _ _ _ _ _ (@byte_ok (X0) (X2) (b) hb hl (k) (bad) (w) (rr) (mm)), tC (eF h), tC (eF h), tC h, tC (eF (decide_eq_false (Int.not_lt.2 h3))), tC (eF (decide_eq_false (Int.not_lt.2 h3))), tC (decide_eq_false (Int.not_lt.2 h3)), tC (eqI 4 true h0), .callR _ _ _ _ _ (@byte_ok (X0) (X2) (b) hb hl (rdA b k) (decide (rdV b k ≥ (192 : Int))) (w) (rr) (mm)), tC (eF h1), tC (eF h1), tC h1, .callR _ _ _ _ _ (@number4_ok (X0) (X2) (b) hb hl (rdA b (rdA b k)) (true) (w) (rr) (mm)), .keepC [(1, 0, .lst .no 1 (bD b)), (1, 3, .bool w), (1, 4, .int .i8 rr), (1, 5, .int .i8 mm)] [(0, Ob.box X0), (2, Ob.box X2)]] (by kernel_rfl)
  ·skip
   exact (CallRun.of_eval (keep := [0, 1, 2]) (s' := [Ob.box X0, Ob.box [.lst .no 1 (bD b), .int .i64 (↑(rdA4 b (rdA b (rdA b k))) : Int), .bool (rdX4 b (rdA b (rdA b k)) (rdV b (rdA b k) != (36 : Int))), .bool w, .int .i8 rr, .int .i8 mm], Ob.box X2, Ob.dead]) mixed [.callR _ _ _ _ _ (@byte_ok (X0) (X2) (b) hb hl (k) (bad) (w) (rr) (mm)), tC (eF h), tC (eF h), tC h, tC (eF (decide_eq_false (Int.not_lt.2 h3))), tC (eF (decide_eq_false (Int.not_lt.2 h3))), tC (decide_eq_false (Int.not_lt.2 h3)), tC (eqI 4 true h0), .callR _ _ _ _ _ (@byte_ok (X0) (X2) (b) hb hl (rdA b k) (decide (rdV b k ≥ (192 : Int))) (w) (rr) (mm)), tC (eF h1), tC (eF h1), tC h1, .callR _ _ _ _ _ (@number4_ok (X0) (X2) (b) hb hl (rdA b (rdA b k)) (rdV b (rdA b k) != (36 : Int)) (w) (rr) (mm)), .keepC [(1, 0, .lst .no 1 (bD b)), (1, 3, .bool w), (1, 4, .int .i8 rr), (1, 5, .int .i8 mm)] [(0, Ob.box X0), (2, Ob.box X2)]] (by kernel_rfl)).cast rfl (by (exfalso; simp only [beq_iff_eq, beq_eq_false_iff_ne, ne_eq] at hq; first | exact hq h0 | exact h0 hq | (rw [decide_eq_true (by omega), hx] at h1; cases h1) | (rw [decide_eq_false (by omega), hx] at h1; cases h1)))
 ·skip
  exfalso; simp only [beq_iff_eq, beq_eq_false_iff_ne, ne_eq] at hq; first | exact hq h0 | exact h0 hq | (rw [decide_eq_true (by omega), hx] at h1; cases h1) | (rw [decide_eq_false (by omega), hx] at h1; cases h1)
theorem mem_y0_ok (X0 X2 : List D) (b : List Int) (hb : isB b) (hl : b.length ≤ 1000) (k : Nat) (bad w : Bool) (rr mm : Int) (n0 : 0 ≤ rdV b k) (n1 : rdV b k ≤ 255) (h : rdX b k bad = false) (h2 : 128 ≤ rdV b k) (h3 : rdV b k < 192) (hq : (IntKind.i64.wrap ((BitVec.ofInt 64 (rdV b k) &&& BitVec.ofInt 64 7).toNat : Int) == 4) = false)  : CallRun Try.prog 46 ([.ptr false 1 0]) ([.box X0, bR b ((k : Int)) (bad) w rr mm, .box X2]) (.tup [.int .i8 (rdHi (rdV b k) rr), .int .i8 (rdLo (rdV b k) mm), .int .i64 (rdN4 b (rdA b k))]) ([.box X0, bR b ((rdA4 b (rdA b k) : Nat)) (rdX4 b (rdA b k) false) w rr mm, .box X2, .dead]) := by
 by_cases h0 : IntKind.wrap IntKind.i64 (↑(BitVec.toNat (BitVec.ofInt (64 : Nat) (rdV b k) &&& BitVec.ofInt (64 : Nat) (7 : Int))) : Int) = 4
 ·skip
  rcases Bool.eq_false_or_eq_true (rdX b (rdA b k) (decide (rdV b k ≥ (192 : Int)))) with h1 | h1
  ·skip
   exfalso; simp only [beq_iff_eq, beq_eq_false_iff_ne, ne_eq] at hq; first | exact hq h0 | exact h0 hq | (rw [decide_eq_true (by omega), hx] at h1; cases h1) | (rw [decide_eq_false (by omega), hx] at h1; cases h1)
  ·skip
   exfalso; simp only [beq_iff_eq, beq_eq_false_iff_ne, ne_eq] at hq; first | exact hq h0 | exact h0 hq | (rw [decide_eq_true (by omega), hx] at h1; cases h1) | (rw [decide_eq_false (by omega), hx] at h1; cases h1)
 ·skip
  exact (CallRun.of_eval (keep := [0, 1, 2]) (s' := [Ob.box X0, Ob.box [.lst .no 1 (bD b), .int .i64 (↑(rdA4 b (rdA b k)) : Int), .bool (rdX4 b (rdA b k) (decide (rdV b k ≥ (192 : Int)))), .bool w, .int .i8 rr, .int .i8 mm], Ob.box X2, Ob.dead]) mixed [.callR _ _ _ _ _ (@byte_ok (X0) (X2) (b) hb hl (k) (bad) (w) (rr) (mm)), tC (eF h), tC (eF h), tC h, tC (eF (decide_eq_false (Int.not_lt.2 h2))), tC (eF (decide_eq_false (Int.not_lt.2 h2))), tC (decide_eq_false (Int.not_lt.2 h2)), tC (neOf h0), .callR _ _ _ _ _ (@number4_ok (X0) (X2) (b) hb hl (rdA b k) (decide (rdV b k ≥ (192 : Int))) (w) (rr) (mm)), .keepC [(1, 0, .lst .no 1 (bD b)), (1, 3, .bool w), (1, 4, .int .i8 rr), (1, 5, .int .i8 mm)] [(0, Ob.box X0), (2, Ob.box X2)]] (by kernel_rfl)).cast rfl (by (simp only [decide_eq_true h2, decide_eq_false (Int.not_le.2 h3)]; done))
theorem mem_yb_ok (X0 X2 : List D) (b : List Int) (hb : isB b) (hl : b.length ≤ 1000) (k : Nat) (bad w : Bool) (rr mm : Int) (n0 : 0 ≤ rdV b k) (n1 : rdV b k ≤ 255) (h : rdX b k bad = false) (h2 : 128 ≤ rdV b k) (h3 : rdV b k < 192) (hq : (IntKind.i64.wrap ((BitVec.ofInt 64 (rdV b k) &&& BitVec.ofInt 64 7).toNat : Int) == 4) = true) (m0 : 0 ≤ rdV b (rdA b k)) (m1 : rdV b (rdA b k) ≤ 255) (hx : rdX b (rdA b k) false = true)  : CallRun Try.prog 46 ([.ptr false 1 0]) ([.box X0, bR b ((k : Int)) (bad) w rr mm, .box X2]) (.tup [.int .i8 (rdHi (rdV b k) rr), .int .i8 (rdLo (rdV b k) mm), .int .i64 (rdN4 b (rdA b (rdA b k)))]) ([.box X0, .box [.lst .no 1 (bD b), .int .i64 ((rdA4 b (rdA b (rdA b k)) : Nat)), .bool (rdX4 b (rdA b (rdA b k)) true), .bool w, .int .i8 rr, .int .i8 mm], .box X2, .dead]) := by
 by_cases h0 : IntKind.wrap IntKind.i64 (↑(BitVec.toNat (BitVec.ofInt (64 : Nat) (rdV b k) &&& BitVec.ofInt (64 : Nat) (7 : Int))) : Int) = 4
 ·skip
  rcases Bool.eq_false_or_eq_true (rdX b (rdA b k) (decide (rdV b k ≥ (192 : Int)))) with h1 | h1
  ·skip
   exact CallRun.of_eval (keep := [0, 1, 2]) mixed [.callR _ _ _ _ _ (@byte_ok (X0) (X2) (b) hb hl (k) (bad) (w) (rr) (mm)), tC (eF h), tC (eF h), tC h, tC (eF (decide_eq_false (Int.not_lt.2 h2))), tC (eF (decide_eq_false (Int.not_lt.2 h2))), tC (decide_eq_false (Int.not_lt.2 h2)), tC (eqI 4 true h0), .callR _ _ _ _ _ (@byte_ok (X0) (X2) (b) hb hl (rdA b k) (decide (rdV b k ≥ (192 : Int))) (w) (rr) (mm)), tC (eF h1), tC (eF h1), tC h1, .callR _ _ _ _ _ (@number4_ok (X0) (X2) (b) hb hl (rdA b (rdA b k)) (true) (w) (rr) (mm)), .keepC [(1, 0, .lst .no 1 (bD b)), (1, 3, .bool w), (1, 4, .int .i8 rr), (1, 5, .int .i8 mm)] [(0, Ob.box X0), (2, Ob.box X2)]] (by kernel_rfl)
  ·skip
   exact (CallRun.of_eval (keep := [0, 1, 2]) (s' := [Ob.box X0, Ob.box [.lst .no 1 (bD b), .int .i64 (↑(rdA4 b (rdA b (rdA b k))) : Int), .bool (rdX4 b (rdA b (rdA b k)) (rdV b (rdA b k) != (36 : Int))), .bool w, .int .i8 rr, .int .i8 mm], Ob.box X2, Ob.dead]) mixed [.callR _ _ _ _ _ (@byte_ok (X0) (X2) (b) hb hl (k) (bad) (w) (rr) (mm)), tC (eF h), tC (eF h), tC h, tC (eF (decide_eq_false (Int.not_lt.2 h2))), tC (eF (decide_eq_false (Int.not_lt.2 h2))), tC (decide_eq_false (Int.not_lt.2 h2)), tC (eqI 4 true h0), .callR _ _ _ _ _ (@byte_ok (X0) (X2) (b) hb hl (rdA b k) (decide (rdV b k ≥ (192 : Int))) (w) (rr) (mm)), tC (eF h1), tC (eF h1), tC h1, .callR _ _ _ _ _ (@number4_ok (X0) (X2) (b) hb hl (rdA b (rdA b k)) (rdV b (rdA b k) != (36 : Int)) (w) (rr) (mm)), .keepC [(1, 0, .lst .no 1 (bD b)), (1, 3, .bool w), (1, 4, .int .i8 rr), (1, 5, .int .i8 mm)] [(0, Ob.box X0), (2, Ob.box X2)]] (by kernel_rfl)).cast rfl (by (exfalso; simp only [beq_iff_eq, beq_eq_false_iff_ne, ne_eq] at hq; first | exact hq h0 | exact h0 hq | (rw [decide_eq_true (by omega), hx] at h1; cases h1) | (rw [decide_eq_false (by omega), hx] at h1; cases h1)))
 ·skip
  exfalso; simp only [beq_iff_eq, beq_eq_false_iff_ne, ne_eq] at hq; first | exact hq h0 | exact h0 hq | (rw [decide_eq_true (by omega), hx] at h1; cases h1) | (rw [decide_eq_false (by omega), hx] at h1; cases h1)
theorem mem_yn_ok (X0 X2 : List D) (b : List Int) (hb : isB b) (hl : b.length ≤ 1000) (k : Nat) (bad w : Bool) (rr mm : Int) (n0 : 0 ≤ rdV b k) (n1 : rdV b k ≤ 255) (h : rdX b k bad = false) (h2 : 128 ≤ rdV b k) (h3 : rdV b k < 192) (hq : (IntKind.i64.wrap ((BitVec.ofInt 64 (rdV b k) &&& BitVec.ofInt 64 7).toNat : Int) == 4) = true) (m0 : 0 ≤ rdV b (rdA b k)) (m1 : rdV b (rdA b k) ≤ 255) (hx : rdX b (rdA b k) false = false) (hn : (rdV b (rdA b k) == 36) = false)  : CallRun Try.prog 46 ([.ptr false 1 0]) ([.box X0, bR b ((k : Int)) (bad) w rr mm, .box X2]) (.tup [.int .i8 (rdHi (rdV b k) rr), .int .i8 (rdLo (rdV b k) mm), .int .i64 (rdN4 b (rdA b (rdA b k)))]) ([.box X0, .box [.lst .no 1 (bD b), .int .i64 ((rdA4 b (rdA b (rdA b k)) : Nat)), .bool (rdX4 b (rdA b (rdA b k)) true), .bool w, .int .i8 rr, .int .i8 mm], .box X2, .dead]) := by
 by_cases h0 : IntKind.wrap IntKind.i64 (↑(BitVec.toNat (BitVec.ofInt (64 : Nat) (rdV b k) &&& BitVec.ofInt (64 : Nat) (7 : Int))) : Int) = 4
 ·skip
  rcases Bool.eq_false_or_eq_true (rdX b (rdA b k) (decide (rdV b k ≥ (192 : Int)))) with h1 | h1
  ·skip
   exact CallRun.of_eval (keep := [0, 1, 2]) mixed [.callR _ _ _ _ _ (@byte_ok (X0) (X2) (b) hb hl (k) (bad) (w) (rr) (mm)), tC (eF h), tC (eF h), tC h, tC (eF (decide_eq_false (Int.not_lt.2 h2))), tC (eF (decide_eq_false (Int.not_lt.2 h2))), tC (decide_eq_false (Int.not_lt.2 h2)), tC (eqI 4 true h0), .callR _ _ _ _ _ (@byte_ok (X0) (X2) (b) hb hl (rdA b k) (decide (rdV b k ≥ (192 : Int))) (w) (rr) (mm)), tC (eF h1), tC (eF h1), tC h1, .callR _ _ _ _ _ (@number4_ok (X0) (X2) (b) hb hl (rdA b (rdA b k)) (true) (w) (rr) (mm)), .keepC [(1, 0, .lst .no 1 (bD b)), (1, 3, .bool w), (1, 4, .int .i8 rr), (1, 5, .int .i8 mm)] [(0, Ob.box X0), (2, Ob.box X2)]] (by kernel_rfl)
  ·skip
   exact (CallRun.of_eval (keep := [0, 1, 2]) (s' := [Ob.box X0, Ob.box [.lst .no 1 (bD b), .int .i64 (↑(rdA4 b (rdA b (rdA b k))) : Int), .bool (rdX4 b (rdA b (rdA b k)) (rdV b (rdA b k) != (36 : Int))), .bool w, .int .i8 rr, .int .i8 mm], Ob.box X2, Ob.dead]) mixed [.callR _ _ _ _ _ (@byte_ok (X0) (X2) (b) hb hl (k) (bad) (w) (rr) (mm)), tC (eF h), tC (eF h), tC h, tC (eF (decide_eq_false (Int.not_lt.2 h2))), tC (eF (decide_eq_false (Int.not_lt.2 h2))), tC (decide_eq_false (Int.not_lt.2 h2)), tC (eqI 4 true h0), .callR _ _ _ _ _ (@byte_ok (X0) (X2) (b) hb hl (rdA b k) (decide (rdV b k ≥ (192 : Int))) (w) (rr) (mm)), tC (eF h1), tC (eF h1), tC h1, .callR _ _ _ _ _ (@number4_ok (X0) (X2) (b) hb hl (rdA b (rdA b k)) (rdV b (rdA b k) != (36 : Int)) (w) (rr) (mm)), .keepC [(1, 0, .lst .no 1 (bD b)), (1, 3, .bool w), (1, 4, .int .i8 rr), (1, 5, .int .i8 mm)] [(0, Ob.box X0), (2, Ob.box X2)]] (by kernel_rfl)).cast rfl (by (simp only [bne, hn, Bool.not_true, Bool.not_false]; done))
 ·skip
  exfalso; simp only [beq_iff_eq, beq_eq_false_iff_ne, ne_eq] at hq; first | exact hq h0 | exact h0 hq | (rw [decide_eq_true (by omega), hx] at h1; cases h1) | (rw [decide_eq_false (by omega), hx] at h1; cases h1)
theorem mem_yy_ok (X0 X2 : List D) (b : List Int) (hb : isB b) (hl : b.length ≤ 1000) (k : Nat) (bad w : Bool) (rr mm : Int) (n0 : 0 ≤ rdV b k) (n1 : rdV b k ≤ 255) (h : rdX b k bad = false) (h2 : 128 ≤ rdV b k) (h3 : rdV b k < 192) (hq : (IntKind.i64.wrap ((BitVec.ofInt 64 (rdV b k) &&& BitVec.ofInt 64 7).toNat : Int) == 4) = true) (m0 : 0 ≤ rdV b (rdA b k)) (m1 : rdV b (rdA b k) ≤ 255) (hx : rdX b (rdA b k) false = false) (hn : (rdV b (rdA b k) == 36) = true)  : CallRun Try.prog 46 ([.ptr false 1 0]) ([.box X0, bR b ((k : Int)) (bad) w rr mm, .box X2]) (.tup [.int .i8 (rdHi (rdV b k) rr), .int .i8 (rdLo (rdV b k) mm), .int .i64 (rdN4 b (rdA b (rdA b k)))]) ([.box X0, .box [.lst .no 1 (bD b), .int .i64 ((rdA4 b (rdA b (rdA b k)) : Nat)), .bool (rdX4 b (rdA b (rdA b k)) false), .bool w, .int .i8 rr, .int .i8 mm], .box X2, .dead]) := by
 by_cases h0 : IntKind.wrap IntKind.i64 (↑(BitVec.toNat (BitVec.ofInt (64 : Nat) (rdV b k) &&& BitVec.ofInt (64 : Nat) (7 : Int))) : Int) = 4
 ·skip
  rcases Bool.eq_false_or_eq_true (rdX b (rdA b k) (decide (rdV b k ≥ (192 : Int)))) with h1 | h1
  ·skip
   exact (CallRun.of_eval (keep := [0, 1, 2]) (s' := [Ob.box X0, Ob.box [.lst .no 1 (bD b), .int .i64 (↑(rdA4 b (rdA b (rdA b k))) : Int), .bool (rdX4 b (rdA b (rdA b k)) true), .bool w, .int .i8 rr, .int .i8 mm], Ob.box X2, Ob.dead]) mixed [.callR _ _ _ _ _ (@byte_ok (X0) (X2) (b) hb hl (k) (bad) (w) (rr) (mm)), tC (eF h), tC (eF h), tC h, tC (eF (decide_eq_false (Int.not_lt.2 h2))), tC (eF (decide_eq_false (Int.not_lt.2 h2))), tC (decide_eq_false (Int.not_lt.2 h2)), tC (eqI 4 true h0), .callR _ _ _ _ _ (@byte_ok (X0) (X2) (b) hb hl (rdA b k) (decide (rdV b k ≥ (192 : Int))) (w) (rr) (mm)), tC (eF h1), tC (eF h1), tC h1, .callR _ _ _ _ _ (@number4_ok (X0) (X2) (b) hb hl (rdA b (rdA b k)) (true) (w) (rr) (mm)), .keepC [(1, 0, .lst .no 1 (bD b)), (1, 3, .bool w), (1, 4, .int .i8 rr), (1, 5, .int .i8 mm)] [(0, Ob.box X0), (2, Ob.box X2)]] (by kernel_rfl)).cast rfl (by (exfalso; simp only [beq_iff_eq, beq_eq_false_iff_ne, ne_eq] at hq; first | exact hq h0 | exact h0 hq | (rw [decide_eq_true (by omega), hx] at h1; cases h1) | (rw [decide_eq_false (by omega), hx] at h1; cases h1)))
  ·skip
   exact (CallRun.of_eval (keep := [0, 1, 2]) (s' := [Ob.box X0, Ob.box [.lst .no 1 (bD b), .int .i64 (↑(rdA4 b (rdA b (rdA b k))) : Int), .bool (rdX4 b (rdA b (rdA b k)) (rdV b (rdA b k) != (36 : Int))), .bool w, .int .i8 rr, .int .i8 mm], Ob.box X2, Ob.dead]) mixed [.callR _ _ _ _ _ (@byte_ok (X0) (X2) (b) hb hl (k) (bad) (w) (rr) (mm)), tC (eF h), tC (eF h), tC h, tC (eF (decide_eq_false (Int.not_lt.2 h2))), tC (eF (decide_eq_false (Int.not_lt.2 h2))), tC (decide_eq_false (Int.not_lt.2 h2)), tC (eqI 4 true h0), .callR _ _ _ _ _ (@byte_ok (X0) (X2) (b) hb hl (rdA b k) (decide (rdV b k ≥ (192 : Int))) (w) (rr) (mm)), tC (eF h1), tC (eF h1), tC h1, .callR _ _ _ _ _ (@number4_ok (X0) (X2) (b) hb hl (rdA b (rdA b k)) (rdV b (rdA b k) != (36 : Int)) (w) (rr) (mm)), .keepC [(1, 0, .lst .no 1 (bD b)), (1, 3, .bool w), (1, 4, .int .i8 rr), (1, 5, .int .i8 mm)] [(0, Ob.box X0), (2, Ob.box X2)]] (by kernel_rfl)).cast rfl (by (simp only [bne, hn, Bool.not_true, Bool.not_false]; done))
 ·skip
  exfalso; simp only [beq_iff_eq, beq_eq_false_iff_ne, ne_eq] at hq; first | exact hq h0 | exact h0 hq | (rw [decide_eq_true (by omega), hx] at h1; cases h1) | (rw [decide_eq_false (by omega), hx] at h1; cases h1)
end Go.Proofs.Ytcngafhpodeenaa

namespace Go.Proofs.Ytcngafhpodeenaa
open Go Go.Ev
set_option maxRecDepth 100000
theorem rtwo_ok (X0 X2 : List D) (b : List Int) (hb : isB b) (hl : b.length ≤ 1000) (k : Nat) (bad w : Bool) (rr mm : Int) : CallRun Try.prog 47 [.ptr false 1 0] (rdS X0 X2 b k bad w rr mm) (.tup [.int .i8 (rdHi (rdV b k) rr), .int .i8 (rdLo (rdV b k) mm)]) (rdS X0 X2 b (rdA b k) (rd2X b k bad) w rr mm) := by
 have h0 := rdV_rng hb k
 unfold rd2X
 cases h : rdX b k bad with
 | true => exact two_b_ok X0 X2 b hb hl k bad w rr mm h0.1 h0.2 h
 | false =>
  by_cases h2 : rdV b k < 192
  ·rw [decide_eq_true h2]; exact two_n_ok X0 X2 b hb hl k bad w rr mm h0.1 h0.2 h h2
  ·rw [decide_eq_false h2]; exact two_y_ok X0 X2 b hb hl k bad w rr mm h0.1 h0.2 h (by omega)
theorem q7_eq {n : Int} (hn : 0 ≤ n ∧ n ≤ 255) : (IntKind.i64.wrap ((BitVec.ofInt 64 n &&& BitVec.ofInt 64 7).toNat : Int) == 4) = decide (n % 8 = 4) := by
 rw [and64_7, w_i64]
 by_cases h : n % 8 = 4
 ·rw [decide_eq_true h, h]; rfl
 ·rw [decide_eq_false h, beq_eq_false_iff_ne]; omega
theorem mem_ok (X0 X2 : List D) (b : List Int) (hb : isB b) (hl : b.length ≤ 1000) (k : Nat) (bad w : Bool) (rr mm : Int) : CallRun Try.prog 46 [.ptr false 1 0] (rdS X0 X2 b k bad w rr mm) (.tup [.int .i8 (rdHi (rdV b k) rr), .int .i8 (rdLo (rdV b k) mm), .int .i64 (rdN4 b (rdMk b k))]) (rdS X0 X2 b (rdA4 b (rdMk b k)) (rdX4 b (rdMk b k) (rdMx b k bad)) w rr mm ++ [.dead]) := by
 have h0 := rdV_rng hb k
 have h1 := rdV_rng hb (rdA b k)
 have q := q7_eq h0
 unfold rdMk rdMx
 by_cases hq : rdV b k % 8 = 4
 ·simp only [if_pos hq]
  rw [decide_eq_true hq] at q
  cases h : rdX b k bad with
  | true =>
   simp only [Bool.true_or]
   have hx : rdX b (rdA b k) true = true := by simp [rdX]
   rw [hx]
   exact mem_bb_ok X0 X2 b hb hl k bad w rr mm h0.1 h0.2 h q h1.1 h1.2 hx
  | false =>
   by_cases h2 : rdV b k < 128
   ·have hx : rdX b (rdA b k) true = true := by simp [rdX]
    rw [decide_eq_true h2]
    simp only [Bool.true_or, Bool.false_or]
    rw [hx]
    exact mem_lb_ok X0 X2 b hb hl k bad w rr mm h0.1 h0.2 h h2 q h1.1 h1.2 hx
   ·by_cases h3 : 192 ≤ rdV b k
    ·have hx : rdX b (rdA b k) true = true := by simp [rdX]
     rw [decide_eq_true h3]
     simp only [Bool.true_or, Bool.or_true]
     rw [hx]
     exact mem_gb_ok X0 X2 b hb hl k bad w rr mm h0.1 h0.2 h (by omega) h3 q h1.1 h1.2 hx
    ·rw [decide_eq_false h2, decide_eq_false h3]
     simp only [Bool.or_false]
     cases hx : rdX b (rdA b k) false with
     | true => exact mem_yb_ok X0 X2 b hb hl k bad w rr mm h0.1 h0.2 h (by omega) (by omega) q h1.1 h1.2 hx
     | false =>
      by_cases hn : rdV b (rdA b k) = 36
      ·rw [decide_eq_false (by simpa using hn)]
       exact mem_yy_ok X0 X2 b hb hl k bad w rr mm h0.1 h0.2 h (by omega) (by omega) q h1.1 h1.2 hx (by simpa using hn)
      ·rw [decide_eq_true (by simpa using hn)]
       exact mem_yn_ok X0 X2 b hb hl k bad w rr mm h0.1 h0.2 h (by omega) (by omega) q h1.1 h1.2 hx (by simpa using hn)
 ·simp only [if_neg hq]
  rw [decide_eq_false hq] at q
  cases h : rdX b k bad with
  | true => exact mem_b0_ok X0 X2 b hb hl k bad w rr mm h0.1 h0.2 h q
  | false =>
   by_cases h2 : rdV b k < 128
   ·rw [decide_eq_true h2]; exact mem_l0_ok X0 X2 b hb hl k bad w rr mm h0.1 h0.2 h h2 q
   ·by_cases h3 : 192 ≤ rdV b k
    ·rw [decide_eq_false h2, decide_eq_true h3]; exact mem_g0_ok X0 X2 b hb hl k bad w rr mm h0.1 h0.2 h (by omega) h3 q
    ·rw [decide_eq_false h2, decide_eq_false h3]; exact mem_y0_ok X0 X2 b hb hl k bad w rr mm h0.1 h0.2 h (by omega) (by omega) q
end Go.Proofs.Ytcngafhpodeenaa

namespace Go.Proofs.Ytcngafhpodeenaa
open Go Go.Ev
set_option maxRecDepth 100000
set_option maxHeartbeats 8000000
theorem pre_0n_ok (X0 X2 : List D) (b : List Int) (hb : isB b) (hl : b.length ≤ 1000) (k : Nat) (bad w : Bool) (rr mm : Int) (n0 : 0 ≤ rdV b k) (n1 : rdV b k ≤ 255) (hh : (rdV b k == 102) = false) (hq : ¬ (IntKind.i64.wrap ((BitVec.ofInt 64 (rdV b k) &&& BitVec.ofInt 64 240).toNat : Int) = 64))  : CallRun Try.prog 45 ([.ptr false 1 0]) ([.box X0, bR b ((k : Int)) bad w rr mm, .box X2]) (.tup [.int .i64 (rdV b k), .bool (rdV b k == 102)]) ([.box X0, bR b ((rdA b k : Nat)) (rdX b k bad) w rr mm, .box X2]) := by
 by_cases h0 : IntKind.wrap IntKind.i64 (↑(BitVec.toNat (BitVec.ofInt (64 : Nat) (rdV b k) &&& BitVec.ofInt (64 : Nat) 240)) : Int) = 64
 ·rcases bft (rdX b k bad) with h1 | h1
  ·exact (CallRun.of_eval (keep := [0, 1, 2]) (d := .tup [.int .i64 (rdV b (rdA b k)), .bool (rdV b k == 102)]) (s' := [Ob.box X0, Ob.box [.lst .no 1 (bD b), .int .i64 (↑(rdA b (rdA b k)) : Int), .bool (rdX b (rdA b k) true), .bool (IntKind.wrap IntKind.i64 (↑(BitVec.toNat (BitVec.ofInt (64 : Nat) (rdV b k) &&& BitVec.ofInt (64 : Nat) 8)) : Int) != 0), .int .i8 (IntKind.wrap IntKind.i8 (IntKind.wrap IntKind.i64 (↑(BitVec.toNat (BitVec.ofInt (64 : Nat) (Int.fdiv (rdV b k) 4) &&& BitVec.ofInt (64 : Nat) 1)) : Int))), .int .i8 (IntKind.wrap IntKind.i8 (IntKind.wrap IntKind.i64 (↑(BitVec.toNat (BitVec.ofInt (64 : Nat) (rdV b k) &&& BitVec.ofInt (64 : Nat) 1)) : Int)))], Ob.box X2]) mixed [.callR _ _ _ _ _ (@byte_ok X0 X2 b hb hl k bad w rr mm), tC hh, tC (eqI 64 true h0), tC (eF h1), tC (eF h1), tC (eF h1), tC h1, .callR _ _ _ _ _ (@byte_ok X0 X2 b hb hl (rdA b k) true (IntKind.wrap IntKind.i64 (↑(BitVec.toNat (BitVec.ofInt (64 : Nat) (rdV b k) &&& BitVec.ofInt (64 : Nat) 8)) : Int) != 0) (IntKind.wrap IntKind.i8 (IntKind.wrap IntKind.i64 (↑(BitVec.toNat (BitVec.ofInt (64 : Nat) (Int.fdiv (rdV b k) 4) &&& BitVec.ofInt (64 : Nat) 1)) : Int))) (IntKind.wrap IntKind.i8 (IntKind.wrap IntKind.i64 (↑(BitVec.toNat (BitVec.ofInt (64 : Nat) (rdV b k) &&& BitVec.ofInt (64 : Nat) 1)) : Int))))] (by kernel_rfl)).cast (by first | rfl | exact absurd h0 hq | exact absurd hq h0) (by first | rfl | exact absurd h0 hq | exact absurd hq h0)
  exact (CallRun.of_eval (keep := [0, 1, 2]) (d := .tup [.int .i64 (rdV b (rdA b k)), .bool (rdV b k == 102)]) (s' := [Ob.box X0, Ob.box [.lst .no 1 (bD b), .int .i64 (↑(rdA b (rdA b k)) : Int), .bool (rdX b (rdA b k) (IntKind.wrap IntKind.i64 (↑(BitVec.toNat (BitVec.ofInt (64 : Nat) (rdV b k) &&& BitVec.ofInt (64 : Nat) 2)) : Int) != 0)), .bool (IntKind.wrap IntKind.i64 (↑(BitVec.toNat (BitVec.ofInt (64 : Nat) (rdV b k) &&& BitVec.ofInt (64 : Nat) 8)) : Int) != 0), .int .i8 (IntKind.wrap IntKind.i8 (IntKind.wrap IntKind.i64 (↑(BitVec.toNat (BitVec.ofInt (64 : Nat) (Int.fdiv (rdV b k) 4) &&& BitVec.ofInt (64 : Nat) 1)) : Int))), .int .i8 (IntKind.wrap IntKind.i8 (IntKind.wrap IntKind.i64 (↑(BitVec.toNat (BitVec.ofInt (64 : Nat) (rdV b k) &&& BitVec.ofInt (64 : Nat) 1)) : Int)))], Ob.box X2]) mixed [.callR _ _ _ _ _ (@byte_ok X0 X2 b hb hl k bad w rr mm), tC hh, tC (eqI 64 true h0), tC (eF h1), tC (eF h1), tC (eF h1), tC h1, .callR _ _ _ _ _ (@byte_ok X0 X2 b hb hl (rdA b k) (IntKind.wrap IntKind.i64 (↑(BitVec.toNat (BitVec.ofInt (64 : Nat) (rdV b k) &&& BitVec.ofInt (64 : Nat) 2)) : Int) != 0) (IntKind.wrap IntKind.i64 (↑(BitVec.toNat (BitVec.ofInt (64 : Nat) (rdV b k) &&& BitVec.ofInt (64 : Nat) 8)) : Int) != 0) (IntKind.wrap IntKind.i8 (IntKind.wrap IntKind.i64 (↑(BitVec.toNat (BitVec.ofInt (64 : Nat) (Int.fdiv (rdV b k) 4) &&& BitVec.ofInt (64 : Nat) 1)) : Int))) (IntKind.wrap IntKind.i8 (IntKind.wrap IntKind.i64 (↑(BitVec.toNat (BitVec.ofInt (64 : Nat) (rdV b k) &&& BitVec.ofInt (64 : Nat) 1)) : Int))))] (by kernel_rfl)).cast (by first | rfl | exact absurd h0 hq | exact absurd hq h0) (by first | rfl | exact absurd h0 hq | exact absurd hq h0)
 exact (CallRun.of_eval (keep := [0, 1, 2]) (d := .tup [.int .i64 (rdV b k), .bool (rdV b k == 102)]) (s' := [Ob.box X0, bR b (↑(rdA b k) : Int) (rdX b k bad) w rr mm, Ob.box X2]) mixed [.callR _ _ _ _ _ (@byte_ok X0 X2 b hb hl k bad w rr mm), tC hh, tC (neOf h0)] (by kernel_rfl)).cast (by first | rfl | exact absurd h0 hq | exact absurd hq h0) (by first | rfl | exact absurd h0 hq | exact absurd hq h0)
theorem pre_0y0_ok (X0 X2 : List D) (b : List Int) (hb : isB b) (hl : b.length ≤ 1000) (k : Nat) (bad w : Bool) (rr mm : Int) (n0 : 0 ≤ rdV b k) (n1 : rdV b k ≤ 255) (hh : (rdV b k == 102) = false) (hx : rdX b k bad = false) (hq : IntKind.i64.wrap ((BitVec.ofInt 64 (rdV b k) &&& BitVec.ofInt 64 240).toNat : Int) = 64)  : CallRun Try.prog 45 ([.ptr false 1 0]) ([.box X0, bR b ((k : Int)) bad w rr mm, .box X2]) (.tup [.int .i64 (rdV b (rdA b k)), .bool (rdV b k == 102)]) ([.box X0, .box [.lst .no 1 (bD b), .int .i64 ((rdA b (rdA b k) : Nat)), .bool (rdX b (rdA b k) (IntKind.i64.wrap ((BitVec.ofInt 64 (rdV b k) &&& BitVec.ofInt 64 2).toNat : Int) != 0)), .bool (IntKind.i64.wrap ((BitVec.ofInt 64 (rdV b k) &&& BitVec.ofInt 64 8).toNat : Int) != 0), .int .i8 (IntKind.i8.wrap (IntKind.i64.wrap ((BitVec.ofInt 64 (Int.fdiv (rdV b k) 4) &&& BitVec.ofInt 64 1).toNat : Int))), .int .i8 (IntKind.i8.wrap (IntKind.i64.wrap ((BitVec.ofInt 64 (rdV b k) &&& BitVec.ofInt 64 1).toNat : Int)))], .box X2]) := by
 by_cases h0 : IntKind.wrap IntKind.i64 (↑(BitVec.toNat (BitVec.ofInt (64 : Nat) (rdV b k) &&& BitVec.ofInt (64 : Nat) 240)) : Int) = 64
 ·exact (CallRun.of_eval (keep := [0, 1, 2]) (d := .tup [.int .i64 (rdV b (rdA b k)), .bool (rdV b k == 102)]) (s' := [Ob.box X0, Ob.box [.lst .no 1 (bD b), .int .i64 (↑(rdA b (rdA b k)) : Int), .bool (rdX b (rdA b k) (IntKind.wrap IntKind.i64 (↑(BitVec.toNat (BitVec.ofInt (64 : Nat) (rdV b k) &&& BitVec.ofInt (64 : Nat) 2)) : Int) != 0)), .bool (IntKind.wrap IntKind.i64 (↑(BitVec.toNat (BitVec.ofInt (64 : Nat) (rdV b k) &&& BitVec.ofInt (64 : Nat) 8)) : Int) != 0), .int .i8 (IntKind.wrap IntKind.i8 (IntKind.wrap IntKind.i64 (↑(BitVec.toNat (BitVec.ofInt (64 : Nat) (Int.fdiv (rdV b k) 4) &&& BitVec.ofInt (64 : Nat) 1)) : Int))), .int .i8 (IntKind.wrap IntKind.i8 (IntKind.wrap IntKind.i64 (↑(BitVec.toNat (BitVec.ofInt (64 : Nat) (rdV b k) &&& BitVec.ofInt (64 : Nat) 1)) : Int)))], Ob.box X2]) mixed [.callR _ _ _ _ _ (@byte_ok X0 X2 b hb hl k bad w rr mm), tC hh, tC (eqI 64 true h0), tC (eF hx), tC (eF hx), tC (eF hx), tC hx, .callR _ _ _ _ _ (@byte_ok X0 X2 b hb hl (rdA b k) (IntKind.wrap IntKind.i64 (↑(BitVec.toNat (BitVec.ofInt (64 : Nat) (rdV b k) &&& BitVec.ofInt (64 : Nat) 2)) : Int) != 0) (IntKind.wrap IntKind.i64 (↑(BitVec.toNat (BitVec.ofInt (64 : Nat) (rdV b k) &&& BitVec.ofInt (64 : Nat) 8)) : Int) != 0) (IntKind.wrap IntKind.i8 (IntKind.wrap IntKind.i64 (↑(BitVec.toNat (BitVec.ofInt (64 : Nat) (Int.fdiv (rdV b k) 4) &&& BitVec.ofInt (64 : Nat) 1)) : Int))) (IntKind.wrap IntKind.i8 (IntKind.wrap IntKind.i64 (↑(BitVec.toNat (BitVec.ofInt (64 : Nat) (rdV b k) &&& BitVec.ofInt (64 : Nat) 1)) : Int))))] (by kernel_rfl)).cast (by first | rfl | exact absurd h0 hq | exact absurd hq h0) (by first | rfl | exact absurd h0 hq | exact absurd hq h0)
 exact (CallRun.of_eval (keep := [0, 1, 2]) (d := .tup [.int .i64 (rdV b k), .bool (rdV b k == 102)]) (s' := [Ob.box X0, bR b (↑(rdA b k) : Int) (rdX b k bad) w rr mm, Ob.box X2]) mixed [.callR _ _ _ _ _ (@byte_ok X0 X2 b hb hl k bad w rr mm), tC hh, tC (neOf h0)] (by kernel_rfl)).cast (by first | rfl | exact absurd h0 hq | exact absurd hq h0) (by first | rfl | exact absurd h0 hq | exact absurd hq h0)
theorem pre_0y1_ok (X0 X2 : List D) (b : List Int) (hb : isB b) (hl : b.length ≤ 1000) (k : Nat) (bad w : Bool) (rr mm : Int) (n0 : 0 ≤ rdV b k) (n1 : rdV b k ≤ 255) (hh : (rdV b k == 102) = false) (hx : rdX b k bad = true) (hq : IntKind.i64.wrap ((BitVec.ofInt 64 (rdV b k) &&& BitVec.ofInt 64 240).toNat : Int) = 64)  : CallRun Try.prog 45 ([.ptr false 1 0]) ([.box X0, bR b ((k : Int)) bad w rr mm, .box X2]) (.tup [.int .i64 (rdV b (rdA b k)), .bool (rdV b k == 102)]) ([.box X0, .box [.lst .no 1 (bD b), .int .i64 ((rdA b (rdA b k) : Nat)), .bool (rdX b (rdA b k) true), .bool (IntKind.i64.wrap ((BitVec.ofInt 64 (rdV b k) &&& BitVec.ofInt 64 8).toNat : Int) != 0), .int .i8 (IntKind.i8.wrap (IntKind.i64.wrap ((BitVec.ofInt 64 (Int.fdiv (rdV b k) 4) &&& BitVec.ofInt 64 1).toNat : Int))), .int .i8 (IntKind.i8.wrap (IntKind.i64.wrap ((BitVec.ofInt 64 (rdV b k) &&& BitVec.ofInt 64 1).toNat : Int)))], .box X2]) := by
 by_cases h0 : IntKind.wrap IntKind.i64 (↑(BitVec.toNat (BitVec.ofInt (64 : Nat) (rdV b k) &&& BitVec.ofInt (64 : Nat) 240)) : Int) = 64
 ·exact (CallRun.of_eval (keep := [0, 1, 2]) (d := .tup [.int .i64 (rdV b (rdA b k)), .bool (rdV b k == 102)]) (s' := [Ob.box X0, Ob.box [.lst .no 1 (bD b), .int .i64 (↑(rdA b (rdA b k)) : Int), .bool (rdX b (rdA b k) true), .bool (IntKind.wrap IntKind.i64 (↑(BitVec.toNat (BitVec.ofInt (64 : Nat) (rdV b k) &&& BitVec.ofInt (64 : Nat) 8)) : Int) != 0), .int .i8 (IntKind.wrap IntKind.i8 (IntKind.wrap IntKind.i64 (↑(BitVec.toNat (BitVec.ofInt (64 : Nat) (Int.fdiv (rdV b k) 4) &&& BitVec.ofInt (64 : Nat) 1)) : Int))), .int .i8 (IntKind.wrap IntKind.i8 (IntKind.wrap IntKind.i64 (↑(BitVec.toNat (BitVec.ofInt (64 : Nat) (rdV b k) &&& BitVec.ofInt (64 : Nat) 1)) : Int)))], Ob.box X2]) mixed [.callR _ _ _ _ _ (@byte_ok X0 X2 b hb hl k bad w rr mm), tC hh, tC (eqI 64 true h0), tC (eF hx), tC (eF hx), tC (eF hx), tC hx, .callR _ _ _ _ _ (@byte_ok X0 X2 b hb hl (rdA b k) true (IntKind.wrap IntKind.i64 (↑(BitVec.toNat (BitVec.ofInt (64 : Nat) (rdV b k) &&& BitVec.ofInt (64 : Nat) 8)) : Int) != 0) (IntKind.wrap IntKind.i8 (IntKind.wrap IntKind.i64 (↑(BitVec.toNat (BitVec.ofInt (64 : Nat) (Int.fdiv (rdV b k) 4) &&& BitVec.ofInt (64 : Nat) 1)) : Int))) (IntKind.wrap IntKind.i8 (IntKind.wrap IntKind.i64 (↑(BitVec.toNat (BitVec.ofInt (64 : Nat) (rdV b k) &&& BitVec.ofInt (64 : Nat) 1)) : Int))))] (by kernel_rfl)).cast (by first | rfl | exact absurd h0 hq | exact absurd hq h0) (by first | rfl | exact absurd h0 hq | exact absurd hq h0)
 exact (CallRun.of_eval (keep := [0, 1, 2]) (d := .tup [.int .i64 (rdV b k), .bool (rdV b k == 102)]) (s' := [Ob.box X0, bR b (↑(rdA b k) : Int) (rdX b k bad) w rr mm, Ob.box X2]) mixed [.callR _ _ _ _ _ (@byte_ok X0 X2 b hb hl k bad w rr mm), tC hh, tC (neOf h0)] (by kernel_rfl)).cast (by first | rfl | exact absurd h0 hq | exact absurd hq h0) (by first | rfl | exact absurd h0 hq | exact absurd hq h0)
theorem pre_1n_ok (X0 X2 : List D) (b : List Int) (hb : isB b) (hl : b.length ≤ 1000) (k : Nat) (bad w : Bool) (rr mm : Int) (n0 : 0 ≤ rdV b k) (n1 : rdV b k ≤ 255) (hh : (rdV b k == 102) = true) (m0 : 0 ≤ rdV b (rdA b k)) (m1 : rdV b (rdA b k) ≤ 255) (hq : ¬ (IntKind.i64.wrap ((BitVec.ofInt 64 (rdV b (rdA b k)) &&& BitVec.ofInt 64 240).toNat : Int) = 64))  : CallRun Try.prog 45 ([.ptr false 1 0]) ([.box X0, bR b ((k : Int)) bad w rr mm, .box X2]) (.tup [.int .i64 (rdV b (rdA b k)), .bool (rdV b k == 102)]) ([.box X0, bR b ((rdA b (rdA b k) : Nat)) (rdX b (rdA b k) (rdX b k bad)) w rr mm, .box X2]) := by
 by_cases h0 : IntKind.wrap IntKind.i64 (↑(BitVec.toNat (BitVec.ofInt (64 : Nat) (rdV b (rdA b k)) &&& BitVec.ofInt (64 : Nat) 240)) : Int) = 64
 ·rcases bft (rdX b (rdA b k) (rdX b k bad)) with h1 | h1
  ·exact (CallRun.of_eval (keep := [0, 1, 2]) (d := .tup [.int .i64 (rdV b (rdA b (rdA b k))), .bool (rdV b k == 102)]) (s' := [Ob.box X0, Ob.box [.lst .no 1 (bD b), .int .i64 (↑(rdA b (rdA b (rdA b k))) : Int), .bool (rdX b (rdA b (rdA b k)) true), .bool (IntKind.wrap IntKind.i64 (↑(BitVec.toNat (BitVec.ofInt (64 : Nat) (rdV b (rdA b k)) &&& BitVec.ofInt (64 : Nat) 8)) : Int) != 0), .int .i8 (IntKind.wrap IntKind.i8 (IntKind.wrap IntKind.i64 (↑(BitVec.toNat (BitVec.ofInt (64 : Nat) (Int.fdiv (rdV b (rdA b k)) 4) &&& BitVec.ofInt (64 : Nat) 1)) : Int))), .int .i8 (IntKind.wrap IntKind.i8 (IntKind.wrap IntKind.i64 (↑(BitVec.toNat (BitVec.ofInt (64 : Nat) (rdV b (rdA b k)) &&& BitVec.ofInt (64 : Nat) 1)) : Int)))], Ob.box X2]) mixed [.callR _ _ _ _ _ (@byte_ok X0 X2 b hb hl k bad w rr mm), tC (eqI 102 true (eq_of_beq hh)), .callR _ _ _ _ _ (@byte_ok X0 X2 b hb hl (rdA b k) (rdX b k bad) w rr mm), tC (eqI 64 true h0), tC (eF h1), tC (eF h1), tC (eF h1), tC h1, .callR _ _ _ _ _ (@byte_ok X0 X2 b hb hl (rdA b (rdA b k)) true (IntKind.wrap IntKind.i64 (↑(BitVec.toNat (BitVec.ofInt (64 : Nat) (rdV b (rdA b k)) &&& BitVec.ofInt (64 : Nat) 8)) : Int) != 0) (IntKind.wrap IntKind.i8 (IntKind.wrap IntKind.i64 (↑(BitVec.toNat (BitVec.ofInt (64 : Nat) (Int.fdiv (rdV b (rdA b k)) 4) &&& BitVec.ofInt (64 : Nat) 1)) : Int))) (IntKind.wrap IntKind.i8 (IntKind.wrap IntKind.i64 (↑(BitVec.toNat (BitVec.ofInt (64 : Nat) (rdV b (rdA b k)) &&& BitVec.ofInt (64 : Nat) 1)) : Int))))] (by kernel_rfl)).cast (by first | rfl | exact absurd h0 hq | exact absurd hq h0) (by first | rfl | exact absurd h0 hq | exact absurd hq h0)
  exact (CallRun.of_eval (keep := [0, 1, 2]) (d := .tup [.int .i64 (rdV b (rdA b (rdA b k))), .bool (rdV b k == 102)]) (s' := [Ob.box X0, Ob.box [.lst .no 1 (bD b), .int .i64 (↑(rdA b (rdA b (rdA b k))) : Int), .bool (rdX b (rdA b (rdA b k)) (IntKind.wrap IntKind.i64 (↑(BitVec.toNat (BitVec.ofInt (64 : Nat) (rdV b (rdA b k)) &&& BitVec.ofInt (64 : Nat) 2)) : Int) != 0)), .bool (IntKind.wrap IntKind.i64 (↑(BitVec.toNat (BitVec.ofInt (64 : Nat) (rdV b (rdA b k)) &&& BitVec.ofInt (64 : Nat) 8)) : Int) != 0), .int .i8 (IntKind.wrap IntKind.i8 (IntKind.wrap IntKind.i64 (↑(BitVec.toNat (BitVec.ofInt (64 : Nat) (Int.fdiv (rdV b (rdA b k)) 4) &&& BitVec.ofInt (64 : Nat) 1)) : Int))), .int .i8 (IntKind.wrap IntKind.i8 (IntKind.wrap IntKind.i64 (↑(BitVec.toNat (BitVec.ofInt (64 : Nat) (rdV b (rdA b k)) &&& BitVec.ofInt (64 : Nat) 1)) : Int)))], Ob.box X2]) mixed [.callR _ _ _ _ _ (@byte_ok X0 X2 b hb hl k bad w rr mm), tC (eqI 102 true (eq_of_beq hh)), .callR _ _ _ _ _ (@byte_ok X0 X2 b hb hl (rdA b k) (rdX b k bad) w rr mm), tC (eqI 64 true h0), tC (eF h1), tC (eF h1), tC (eF h1), tC h1, .callR _ _ _ _ _ (@byte_ok X0 X2 b hb hl (rdA b (rdA b k)) (IntKind.wrap IntKind.i64 (↑(BitVec.toNat (BitVec.ofInt (64 : Nat) (rdV b (rdA b k)) &&& BitVec.ofInt (64 : Nat) 2)) : Int) != 0) (IntKind.wrap IntKind.i64 (↑(BitVec.toNat (BitVec.ofInt (64 : Nat) (rdV b (rdA b k)) &&& BitVec.ofInt (64 : Nat) 8)) : Int) != 0) (IntKind.wrap IntKind.i8 (IntKind.wrap IntKind.i64 (↑(BitVec.toNat (BitVec.ofInt (64 : Nat) (Int.fdiv (rdV b (rdA b k)) 4) &&& BitVec.ofInt (64 : Nat) 1)) : Int))) (IntKind.wrap IntKind.i8 (IntKind.wrap IntKind.i64 (↑(BitVec.toNat (BitVec.ofInt (64 : Nat) (rdV b (rdA b k)) &&& BitVec.ofInt (64 : Nat) 1)) : Int))))] (by kernel_rfl)).cast (by first | rfl | exact absurd h0 hq | exact absurd hq h0) (by first | rfl | exact absurd h0 hq | exact absurd hq h0)
 exact (CallRun.of_eval (keep := [0, 1, 2]) (d := .tup [.int .i64 (rdV b (rdA b k)), .bool (rdV b k == 102)]) (s' := [Ob.box X0, bR b (↑(rdA b (rdA b k)) : Int) (rdX b (rdA b k) (rdX b k bad)) w rr mm, Ob.box X2]) mixed [.callR _ _ _ _ _ (@byte_ok X0 X2 b hb hl k bad w rr mm), tC (eqI 102 true (eq_of_beq hh)), .callR _ _ _ _ _ (@byte_ok X0 X2 b hb hl (rdA b k) (rdX b k bad) w rr mm), tC (neOf h0)] (by kernel_rfl)).cast (by first | rfl | exact absurd h0 hq | exact absurd hq h0) (by first | rfl | exact absurd h0 hq | exact absurd hq h0)
theorem pre_1y0_ok (X0 X2 : List D) (b : List Int) (hb : isB b) (hl : b.length ≤ 1000) (k : Nat) (bad w : Bool) (rr mm : Int) (n0 : 0 ≤ rdV b k) (n1 : rdV b k ≤ 255) (hh : (rdV b k == 102) = true) (m0 : 0 ≤ rdV b (rdA b k)) (m1 : rdV b (rdA b k) ≤ 255) (hx : rdX b (rdA b k) (rdX b k bad) = false) (hq : IntKind.i64.wrap ((BitVec.ofInt 64 (rdV b (rdA b k)) &&& BitVec.ofInt 64 240).toNat : Int) = 64)  : CallRun Try.prog 45 ([.ptr false 1 0]) ([.box X0, bR b ((k : Int)) bad w rr mm, .box X2]) (.tup [.int .i64 (rdV b (rdA b (rdA b k))), .bool (rdV b k == 102)]) ([.box X0, .box [.lst .no 1 (bD b), .int .i64 ((rdA b (rdA b (rdA b k)) : Nat)), .bool (rdX b (rdA b (rdA b k)) (IntKind.i64.wrap ((BitVec.ofInt 64 (rdV b (rdA b k)) &&& BitVec.ofInt 64 2).toNat : Int) != 0)), .bool (IntKind.i64.wrap ((BitVec.ofInt 64 (rdV b (rdA b k)) &&& BitVec.ofInt 64 8).toNat : Int) != 0), .int .i8 (IntKind.i8.wrap (IntKind.i64.wrap ((BitVec.ofInt 64 (Int.fdiv (rdV b (rdA b k)) 4) &&& BitVec.ofInt 64 1).toNat : Int))), .int .i8 (IntKind.i8.wrap (IntKind.i64.wrap ((BitVec.ofInt 64 (rdV b (rdA b k)) &&& BitVec.ofInt 64 1).toNat : Int)))], .box X2]) := by
 by_cases h0 : IntKind.wrap IntKind.i64 (↑(BitVec.toNat (BitVec.ofInt (64 : Nat) (rdV b (rdA b k)) &&& BitVec.ofInt (64 : Nat) 240)) : Int) = 64
 ·exact (CallRun.of_eval (keep := [0, 1, 2]) (d := .tup [.int .i64 (rdV b (rdA b (rdA b k))), .bool (rdV b k == 102)]) (s' := [Ob.box X0, Ob.box [.lst .no 1 (bD b), .int .i64 (↑(rdA b (rdA b (rdA b k))) : Int), .bool (rdX b (rdA b (rdA b k)) (IntKind.wrap IntKind.i64 (↑(BitVec.toNat (BitVec.ofInt (64 : Nat) (rdV b (rdA b k)) &&& BitVec.ofInt (64 : Nat) 2)) : Int) != 0)), .bool (IntKind.wrap IntKind.i64 (↑(BitVec.toNat (BitVec.ofInt (64 : Nat) (rdV b (rdA b k)) &&& BitVec.ofInt (64 : Nat) 8)) : Int) != 0), .int .i8 (IntKind.wrap IntKind.i8 (IntKind.wrap IntKind.i64 (↑(BitVec.toNat (BitVec.ofInt (64 : Nat) (Int.fdiv (rdV b (rdA b k)) 4) &&& BitVec.ofInt (64 : Nat) 1)) : Int))), .int .i8 (IntKind.wrap IntKind.i8 (IntKind.wrap IntKind.i64 (↑(BitVec.toNat (BitVec.ofInt (64 : Nat) (rdV b (rdA b k)) &&& BitVec.ofInt (64 : Nat) 1)) : Int)))], Ob.box X2]) mixed [.callR _ _ _ _ _ (@byte_ok X0 X2 b hb hl k bad w rr mm), tC (eqI 102 true (eq_of_beq hh)), .callR _ _ _ _ _ (@byte_ok X0 X2 b hb hl (rdA b k) (rdX b k bad) w rr mm), tC (eqI 64 true h0), tC (eF hx), tC (eF hx), tC (eF hx), tC hx, .callR _ _ _ _ _ (@byte_ok X0 X2 b hb hl (rdA b (rdA b k)) (IntKind.wrap IntKind.i64 (↑(BitVec.toNat (BitVec.ofInt (64 : Nat) (rdV b (rdA b k)) &&& BitVec.ofInt (64 : Nat) 2)) : Int) != 0) (IntKind.wrap IntKind.i64 (↑(BitVec.toNat (BitVec.ofInt (64 : Nat) (rdV b (rdA b k)) &&& BitVec.ofInt (64 : Nat) 8)) : Int) != 0) (IntKind.wrap IntKind.i8 (IntKind.wrap IntKind.i64 (↑(BitVec.toNat (BitVec.ofInt (64 : Nat) (Int.fdiv (rdV b (rdA b k)) 4) &&& BitVec.ofInt (64 : Nat) 1)) : Int))) (IntKind.wrap IntKind.i8 (IntKind.wrap IntKind.i64 (↑(BitVec.toNat (BitVec.ofInt (64 : Nat) (rdV b (rdA b k)) &&& BitVec.ofInt (64 : Nat) 1)) : Int))))] (by kernel_rfl)).cast (by first | rfl | exact absurd h0 hq | exact absurd hq h0) (by first | rfl | exact absurd h0 hq | exact absurd hq h0)
 exact (CallRun.of_eval (keep := [0, 1, 2]) (d := .tup [.int .i64 (rdV b (rdA b k)), .bool (rdV b k == 102)]) (s' := [Ob.box X0, bR b (↑(rdA b (rdA b k)) : Int) (rdX b (rdA b k) (rdX b k bad)) w rr mm, Ob.box X2]) mixed [.callR _ _ _ _ _ (@byte_ok X0 X2 b hb hl k bad w rr mm), tC (eqI 102 true (eq_of_beq hh)), .callR _ _ _ _ _ (@byte_ok X0 X2 b hb hl (rdA b k) (rdX b k bad) w rr mm), tC (neOf h0)] (by kernel_rfl)).cast (by first | rfl | exact absurd h0 hq | exact absurd hq h0) (by first | rfl | exact absurd h0 hq | exact absurd hq h0)
theorem pre_1y1_ok (X0 X2 : List D) (b : List Int) (hb : isB b) (hl : b.length ≤ 1000) (k : Nat) (bad w : Bool) (rr mm : Int) (n0 : 0 ≤ rdV b k) (n1 : rdV b k ≤ 255) (hh : (rdV b k == 102) = true) (m0 : 0 ≤ rdV b (rdA b k)) (m1 : rdV b (rdA b k) ≤ 255) (hx : rdX b (rdA b k) (rdX b k bad) = true) (hq : IntKind.i64.wrap ((BitVec.ofInt 64 (rdV b (rdA b k)) &&& BitVec.ofInt 64 240).toNat : Int) = 64)  : CallRun Try.prog 45 ([.ptr false 1 0]) ([.box X0, bR b ((k : Int)) bad w rr mm, .box X2]) (.tup [.int .i64 (rdV b (rdA b (rdA b k))), .bool (rdV b k == 102)]) ([.box X0, .box [.lst .no 1 (bD b), .int .i64 ((rdA b (rdA b (rdA b k)) : Nat)), .bool (rdX b (rdA b (rdA b k)) true), .bool (IntKind.i64.wrap ((BitVec.ofInt 64 (rdV b (rdA b k)) &&& BitVec.ofInt 64 8).toNat : Int) != 0), .int .i8 (IntKind.i8.wrap (IntKind.i64.wrap ((BitVec.ofInt 64 (Int.fdiv (rdV b (rdA b k)) 4) &&& BitVec.ofInt 64 1).toNat : Int))), .int .i8 (IntKind.i8.wrap (IntKind.i64.wrap ((BitVec.ofInt 64 (rdV b (rdA b k)) &&& BitVec.ofInt 64 1).toNat : Int)))], .box X2]) := by
 by_cases h0 : IntKind.wrap IntKind.i64 (↑(BitVec.toNat (BitVec.ofInt (64 : Nat) (rdV b (rdA b k)) &&& BitVec.ofInt (64 : Nat) 240)) : Int) = 64
 ·exact (CallRun.of_eval (keep := [0, 1, 2]) (d := .tup [.int .i64 (rdV b (rdA b (rdA b k))), .bool (rdV b k == 102)]) (s' := [Ob.box X0, Ob.box [.lst .no 1 (bD b), .int .i64 (↑(rdA b (rdA b (rdA b k))) : Int), .bool (rdX b (rdA b (rdA b k)) true), .bool (IntKind.wrap IntKind.i64 (↑(BitVec.toNat (BitVec.ofInt (64 : Nat) (rdV b (rdA b k)) &&& BitVec.ofInt (64 : Nat) 8)) : Int) != 0), .int .i8 (IntKind.wrap IntKind.i8 (IntKind.wrap IntKind.i64 (↑(BitVec.toNat (BitVec.ofInt (64 : Nat) (Int.fdiv (rdV b (rdA b k)) 4) &&& BitVec.ofInt (64 : Nat) 1)) : Int))), .int .i8 (IntKind.wrap IntKind.i8 (IntKind.wrap IntKind.i64 (↑(BitVec.toNat (BitVec.ofInt (64 : Nat) (rdV b (rdA b k)) &&& BitVec.ofInt (64 : Nat) 1)) : Int)))], Ob.box X2]) mixed [.callR _ _ _ _ _ (@byte_ok X0 X2 b hb hl k bad w rr mm), tC (eqI 102 true (eq_of_beq hh)), .callR _ _ _ _ _ (@byte_ok X0 X2 b hb hl (rdA b k) (rdX b k bad) w rr mm), tC (eqI 64 true h0), tC (eF hx), tC (eF hx), tC (eF hx), tC hx, .callR _ _ _ _ _ (@byte_ok X0 X2 b hb hl (rdA b (rdA b k)) true (IntKind.wrap IntKind.i64 (↑(BitVec.toNat (BitVec.ofInt (64 : Nat) (rdV b (rdA b k)) &&& BitVec.ofInt (64 : Nat) 8)) : Int) != 0) (IntKind.wrap IntKind.i8 (IntKind.wrap IntKind.i64 (↑(BitVec.toNat (BitVec.ofInt (64 : Nat) (Int.fdiv (rdV b (rdA b k)) 4) &&& BitVec.ofInt (64 : Nat) 1)) : Int))) (IntKind.wrap IntKind.i8 (IntKind.wrap IntKind.i64 (↑(BitVec.toNat (BitVec.ofInt (64 : Nat) (rdV b (rdA b k)) &&& BitVec.ofInt (64 : Nat) 1)) : Int))))] (by kernel_rfl)).cast (by first | rfl | exact absurd h0 hq | exact absurd hq h0) (by first | rfl | exact absurd h0 hq | exact absurd hq h0)
 exact (CallRun.of_eval (keep := [0, 1, 2]) (d := .tup [.int .i64 (rdV b (rdA b k)), .bool (rdV b k == 102)]) (s' := [Ob.box X0, bR b (↑(rdA b (rdA b k)) : Int) (rdX b (rdA b k) (rdX b k bad)) w rr mm, Ob.box X2]) mixed [.callR _ _ _ _ _ (@byte_ok X0 X2 b hb hl k bad w rr mm), tC (eqI 102 true (eq_of_beq hh)), .callR _ _ _ _ _ (@byte_ok X0 X2 b hb hl (rdA b k) (rdX b k bad) w rr mm), tC (neOf h0)] (by kernel_rfl)).cast (by first | rfl | exact absurd h0 hq | exact absurd hq h0) (by first | rfl | exact absurd h0 hq | exact absurd hq h0)
end Go.Proofs.Ytcngafhpodeenaa

namespace Go.Proofs.Ytcngafhpodeenaa
open Go Go.Ev
set_option maxRecDepth 100000
theorem prefix_ok (X0 X2 : List D) (b : List Int) (hb : isB b) (hl : b.length ≤ 1000) (k : Nat) (bad : Bool) : CallRun Try.prog 45 [.ptr false 1 0] (rdS X0 X2 b k bad false 0 0) (.tup [.int .i64 (prN b k), .bool (rdV b k == 102)]) (rdS X0 X2 b (prK b k) (prX b k bad) (prW b k) (prR b k) (prM b k)) := by
 have h0 := rdV_rng hb k
 have h1 := rdV_rng hb (rdA b k)
 have b0 := bits_byte h0
 have b1 := bits_byte h1
 unfold prN prK prX prW prR prM prQ prx1 pr1 prRex
 by_cases hh : rdV b k = 102
 ·simp only [if_pos hh]
  by_cases hq : rdV b (rdA b k) / 16 % 16 = 4
  ·simp only [decide_eq_true hq, if_true, Bool.true_and]
   cases hx : rdX b (rdA b k) (rdX b k bad) with
   | true =>
    have := pre_1y1_ok X0 X2 b hb hl k bad false 0 0 h0.1 h0.2 (by simpa using hh) h1.1 h1.2 hx (b1.1.2 hq)
    rw [b1.2.1, b1.2.2.2.1, b1.2.2.2.2] at this
    rw [Bool.true_or]
    exact this
   | false =>
    have := pre_1y0_ok X0 X2 b hb hl k bad false 0 0 h0.1 h0.2 (by simpa using hh) h1.1 h1.2 hx (b1.1.2 hq)
    rw [b1.2.1, b1.2.2.1, b1.2.2.2.1, b1.2.2.2.2] at this
    rw [Bool.false_or]
    exact this
  ·simp only [decide_eq_false hq, Bool.false_eq_true, if_false, Bool.false_and]
   exact pre_1n_ok X0 X2 b hb hl k bad false 0 0 h0.1 h0.2 (by simpa using hh) h1.1 h1.2 (fun h => hq (b1.1.1 h))
 ·simp only [if_neg hh]
  by_cases hq : rdV b k / 16 % 16 = 4
  ·simp only [decide_eq_true hq, if_true, Bool.true_and]
   cases hx : rdX b k bad with
   | true =>
    have := pre_0y1_ok X0 X2 b hb hl k bad false 0 0 h0.1 h0.2 (by simpa using hh) hx (b0.1.2 hq)
    rw [b0.2.1, b0.2.2.2.1, b0.2.2.2.2] at this
    rw [Bool.true_or]
    exact this
   | false =>
    have := pre_0y0_ok X0 X2 b hb hl k bad false 0 0 h0.1 h0.2 (by simpa using hh) hx (b0.1.2 hq)
    rw [b0.2.1, b0.2.2.1, b0.2.2.2.1, b0.2.2.2.2] at this
    rw [Bool.false_or]
    exact this
  ·simp only [decide_eq_false hq, Bool.false_eq_true, if_false, Bool.false_and]
   exact pre_0n_ok X0 X2 b hb hl k bad false 0 0 h0.1 h0.2 (by simpa using hh) (fun h => hq (b0.1.1 h))
end Go.Proofs.Ytcngafhpodeenaa

namespace Go.Proofs.Ytcngafhpodeenaa
open Go Go.Ev
set_option maxRecDepth 100000
set_option maxHeartbeats 8000000
theorem erb_in_ok (X0 X2 X3 X4 : List D) (b : List Int) (k : Nat) (bad w : Bool) (rr mm : Int) (l1 : ((bD b).length : Int) ≤ 1000) (h : (k : Int) < ((bD b).length : Int)) (v : Int) (hv : (bD b)[Int.toNat (IntKind.i64.wrap (IntKind.i64.wrap ((k : Int) + 1) - 1))]? = some (.int .u8 v))  : CallRun Try.prog 51 ([.ptr false 1 0]) ([.box X0, .box [.lst .no 1 (bD b), .int .i64 ((k : Int)), .bool bad, .bool w, .int .i8 rr, .int .i8 mm], .box X2, .box X3, .box X4]) (.int .i64 (IntKind.i64.wrap v)) ([.box X0, .box [.lst .no 1 (bD b), .int .i64 (IntKind.i64.wrap ((k : Int) + 1)), .bool bad, .bool w, .int .i8 rr, .int .i8 mm], .box X2, .box X3, .box X4]) := by
 exact (CallRun.of_eval (keep := [0, 1, 2, 3, 4]) (d := .int .i64 (IntKind.wrap IntKind.i64 v)) (s' := [Ob.box X0, Ob.box [.lst .no 1 (bD b), .int .i64 (IntKind.wrap IntKind.i64 ((↑k : Int) + (1 : Int))), .bool bad, .bool w, .int .i8 rr, .int .i8 mm], Ob.box X2, Ob.box X3, Ob.box X4]) mixed [tC (by ((try simp only [len_bD, w_i8, w_u8, w_i64, w_u64, decide_eq_true_eq, decide_eq_false_iff_not, beq_iff_eq, bne_iff_ne, beq_eq_false_iff_ne, bne_eq_false_iff_eq, Bool.not_eq_true', Bool.not_eq_false', Bool.and_eq_true, Bool.or_eq_true] at *); (try unfold big at *); omega) : (decide ((↑k : Int) ≥ (↑(List.length (bD b)) : Int))) = false), .tst (decide ((0 : Int) ≤ IntKind.wrap IntKind.i64 (IntKind.wrap IntKind.i64 ((↑k : Int) + (1 : Int)) - (1 : Int)))) true (by ((try simp only [len_bD, w_i8, w_u8, w_i64, w_u64, decide_eq_true_eq, decide_eq_false_iff_not, beq_iff_eq, bne_iff_ne, beq_eq_false_iff_ne, bne_eq_false_iff_eq, Bool.not_eq_true', Bool.not_eq_false', Bool.and_eq_true, Bool.or_eq_true] at *); (try unfold big at *); omega)), .get _ _ _ hv] (by kernel_rfl)).cast (by rfl) (by rfl)
theorem erb_out_ok (X0 X2 X3 X4 : List D) (b : List Int) (k : Nat) (bad w : Bool) (rr mm : Int) (l1 : ((bD b).length : Int) ≤ 1000) (h : ((bD b).length : Int) ≤ (k : Int))  : CallRun Try.prog 51 ([.ptr false 1 0]) ([.box X0, .box [.lst .no 1 (bD b), .int .i64 ((k : Int)), .bool bad, .bool w, .int .i8 rr, .int .i8 mm], .box X2, .box X3, .box X4]) (.int .i64 0) ([.box X0, .box [.lst .no 1 (bD b), .int .i64 ((k : Int)), .bool true, .bool w, .int .i8 rr, .int .i8 mm], .box X2, .box X3, .box X4]) := by
 exact (CallRun.of_eval (keep := [0, 1, 2, 3, 4]) (d := .int .i64 0) (s' := [Ob.box X0, Ob.box [.lst .no 1 (bD b), .int .i64 (↑k : Int), .bool true, .bool w, .int .i8 rr, .int .i8 mm], Ob.box X2, Ob.box X3, Ob.box X4]) mixed [tC (by ((try simp only [len_bD, w_i8, w_u8, w_i64, w_u64, decide_eq_true_eq, decide_eq_false_iff_not, beq_iff_eq, bne_iff_ne, beq_eq_false_iff_ne, bne_eq_false_iff_eq, Bool.not_eq_true', Bool.not_eq_false', Bool.and_eq_true, Bool.or_eq_true] at *); (try unfold big at *); omega) : (decide ((↑k : Int) ≥ (↑(List.length (bD b)) : Int))) = true)] (by kernel_rfl)).cast (by rfl) (by rfl)
end Go.Proofs.Ytcngafhpodeenaa

namespace Go.Proofs.Ytcngafhpodeenaa
open Go Go.Ev
set_option maxRecDepth 100000
abbrev reS (X0 X2 X3 X4 : List D) (b : List Int) (k : Nat) (bad w : Bool) (rr mm : Int) : List Ob := [.box X0, .box [.lst .no 1 (bD b), .int .i64 (k : Int), .bool bad, .bool w, .int .i8 rr, .int .i8 mm], .box X2, .box X3, .box X4]
theorem ebyte_ok (X0 X2 X3 X4 : List D) (b : List Int) (hb : isB b) (hl : b.length ≤ 1000) (k : Nat) (bad w : Bool) (rr mm : Int) : CallRun Try.prog 51 [.ptr false 1 0] (reS X0 X2 X3 X4 b k bad w rr mm) (.int .i64 (rdV b k)) (reS X0 X2 X3 X4 b (rdA b k) (rdX b k bad) w rr mm) := by
 have l1 : ((bD b).length : Int) ≤ 1000 := by rw [len_bD]; omega
 by_cases h : k < b.length
 ·have hw : IntKind.i64.wrap ((k : Int) + 1) = ((k + 1 : Nat) : Int) := by rw [w_i64]; omega
  have hw2 : IntKind.i64.wrap (IntKind.i64.wrap ((k : Int) + 1) - 1) = (k : Int) := by rw [hw, w_i64]; omega
  have hv : (bD b)[Int.toNat (IntKind.i64.wrap (IntKind.i64.wrap ((k : Int) + 1) - 1))]? = some (.int .u8 (rdV b k)) := by
   rw [hw2, Int.toNat_natCast]
   unfold rdV bD
   simp [h, List.getD_eq_getElem?_getD]
  have := erb_in_ok X0 X2 X3 X4 b k bad w rr mm l1 (by rw [len_bD]; omega) (rdV b k) hv
  have hr := rdV_rng hb k
  have e : IntKind.i64.wrap (rdV b k) = rdV b k := by rw [w_i64]; omega
  have e1 : rdA b k = k + 1 := by unfold rdA; rw [if_pos h]
  have e2 : rdX b k bad = bad := by unfold rdX; rw [decide_eq_false (by omega), Bool.or_false]
  rw [hw, e] at this
  rw [e1, e2]
  exact this
 ·have := erb_out_ok X0 X2 X3 X4 b k bad w rr mm l1 (by rw [len_bD]; omega)
  have e0 : rdV b k = 0 := by unfold rdV; rw [List.getD_eq_getElem?_getD, List.getElem?_eq_none (by omega)]; rfl
  have e1 : rdA b k = k := by unfold rdA; rw [if_neg h]
  have e2 : rdX b k bad = true := by unfold rdX; rw [decide_eq_true (by omega), Bool.or_true]
  rw [e0, e1, e2]
  exact this
end Go.Proofs.Ytcngafhpodeenaa

namespace Go.Proofs.Ytcngafhpodeenaa
open Go Go.Ev
set_option maxRecDepth 100000
set_option maxHeartbeats 8000000
theorem enum1_ok (X0 X2 X3 X4 : List D) (b : List Int) (hb : isB b) (hl : b.length ≤ 1000) (k : Nat) (bad w : Bool) (rr mm : Int) (u : Int) (hs : Ret Try.prog 100 [.int .u64 (IntKind.u64.wrap (0 + IntKind.u64.wrap (IntKind.u64.wrap (rdV b (k)) * 1))), .int .i8 8] (.int .u64 u))  : CallRun Try.prog 50 ([.ptr false 1 0, .int .i64 1]) ([.box X0, .box [.lst .no 1 (bD b), .int .i64 ((k : Int)), .bool (bad), .bool w, .int .i8 rr, .int .i8 mm], .box X2, .box X3, .box X4]) (.int .i64 (IntKind.i64.wrap u)) ([.box X0, .box [.lst .no 1 (bD b), .int .i64 ((rdA b (k) : Nat)), .bool (rdX b (k) (bad)), .bool w, .int .i8 rr, .int .i8 mm], .box X2, .box X3, .box X4, .dead]) := by
 exact (CallRun.of_eval (keep := [0, 1, 2, 3, 4]) (d := .int .i64 (IntKind.wrap IntKind.i64 u)) (s' := [Ob.box X0, Ob.box [.lst .no 1 (bD b), .int .i64 (↑(rdA b k) : Int), .bool (rdX b k bad), .bool w, .int .i8 rr, .int .i8 mm], Ob.box X2, Ob.box X3, Ob.box X4, Ob.dead]) mixed [.go 64, tT, .callR _ _ _ _ _ (@ebyte_ok (X0) (X2) (X3) (X4) (b) hb hl (k) (bad) (w) (rr) (mm)), tT, tF, .ret _ _ _ hs] (by kernel_rfl)).cast (by rfl) (by rfl)
theorem enum4_ok (X0 X2 X3 X4 : List D) (b : List Int) (hb : isB b) (hl : b.length ≤ 1000) (k : Nat) (bad w : Bool) (rr mm : Int) (u : Int) (hs : Ret Try.prog 100 [.int .u64 (IntKind.u64.wrap (IntKind.u64.wrap (IntKind.u64.wrap (IntKind.u64.wrap (0 + IntKind.u64.wrap (IntKind.u64.wrap (rdV b (k)) * 1)) + IntKind.u64.wrap (IntKind.u64.wrap (rdV b (rdA b (k))) * 256)) + IntKind.u64.wrap (IntKind.u64.wrap (rdV b (rdA b (rdA b (k)))) * 65536)) + IntKind.u64.wrap (IntKind.u64.wrap (rdV b (rdA b (rdA b (rdA b (k))))) * 16777216))), .int .i8 32] (.int .u64 u))  : CallRun Try.prog 50 ([.ptr false 1 0, .int .i64 4]) ([.box X0, .box [.lst .no 1 (bD b), .int .i64 ((k : Int)), .bool (bad), .bool w, .int .i8 rr, .int .i8 mm], .box X2, .box X3, .box X4]) (.int .i64 (IntKind.i64.wrap u)) ([.box X0, .box [.lst .no 1 (bD b), .int .i64 ((rdA b (rdA b (rdA b (rdA b (k)))) : Nat)), .bool (rdX b (rdA b (rdA b (rdA b (k)))) (rdX b (rdA b (rdA b (k))) (rdX b (rdA b (k)) (rdX b (k) (bad))))), .bool w, .int .i8 rr, .int .i8 mm], .box X2, .box X3, .box X4, .dead]) := by
 exact (CallRun.of_eval (keep := [0, 1, 2, 3, 4]) (d := .int .i64 (IntKind.wrap IntKind.i64 u)) (s' := [Ob.box X0, Ob.box [.lst .no 1 (bD b), .int .i64 (↑(rdA b (rdA b (rdA b (rdA b k)))) : Int), .bool (rdX b (rdA b (rdA b (rdA b k))) (rdX b (rdA b (rdA b k)) (rdX b (rdA b k) (rdX b k bad)))), .bool w, .int .i8 rr, .int .i8 mm], Ob.box X2, Ob.box X3, Ob.box X4, Ob.dead]) mixed [.go 64, tT, .callR _ _ _ _ _ (@ebyte_ok (X0) (X2) (X3) (X4) (b) hb hl (k) (bad) (w) (rr) (mm)), tT, tT, .callR _ _ _ _ _ (@ebyte_ok (X0) (X2) (X3) (X4) (b) hb hl (rdA b k) (rdX b k bad) (w) (rr) (mm)), tT, tT, .callR _ _ _ _ _ (@ebyte_ok (X0) (X2) (X3) (X4) (b) hb hl (rdA b (rdA b k)) (rdX b (rdA b k) (rdX b k bad)) (w) (rr) (mm)), tT, tT, .callR _ _ _ _ _ (@ebyte_ok (X0) (X2) (X3) (X4) (b) hb hl (rdA b (rdA b (rdA b k))) (rdX b (rdA b (rdA b k)) (rdX b (rdA b k) (rdX b k bad))) (w) (rr) (mm)), tT, tF, .ret _ _ _ hs] (by kernel_rfl)).cast (by rfl) (by rfl)
end Go.Proofs.Ytcngafhpodeenaa

namespace Go.Proofs.Ytcngafhpodeenaa
open Go Go.Ev
set_option maxRecDepth 100000
theorem enumber4_ok (X0 X2 X3 X4 : List D) (b : List Int) (hb : isB b) (hl : b.length ≤ 1000) (k : Nat) (bad w : Bool) (rr mm : Int) : CallRun Try.prog 50 [.ptr false 1 0, .int .i64 4] (reS X0 X2 X3 X4 b k bad w rr mm) (.int .i64 (rdN4 b k)) (reS X0 X2 X3 X4 b (rdA4 b k) (rdX4 b k bad) w rr mm ++ [.dead]) := by
 have h0 := rdV_rng hb k
 have h1 := rdV_rng hb (rdA b k)
 have h2 := rdV_rng hb (rdA b (rdA b k))
 have h3 := rdV_rng hb (rdA b (rdA b (rdA b k)))
 have e := sum4 h0 h1 h2 h3
 have := enum4_ok X0 X2 X3 X4 b hb hl k bad w rr mm (signM (rdV b k + 256 * rdV b (rdA b k) + 65536 * rdV b (rdA b (rdA b k)) + 16777216 * rdV b (rdA b (rdA b (rdA b k)))) 32) (by rw [e]; exact rsign_32_ok _)
 rw [sgn32 (by omega)] at this
 exact this
theorem enumber1_ok (X0 X2 X3 X4 : List D) (b : List Int) (hb : isB b) (hl : b.length ≤ 1000) (k : Nat) (bad w : Bool) (rr mm : Int) : CallRun Try.prog 50 [.ptr false 1 0, .int .i64 1] (reS X0 X2 X3 X4 b k bad w rr mm) (.int .i64 (rdN1 b k)) (reS X0 X2 X3 X4 b (rdA b k) (rdX b k bad) w rr mm ++ [.dead]) := by
 have h0 := rdV_rng hb k
 have e : IntKind.u64.wrap (0 + IntKind.u64.wrap (IntKind.u64.wrap (rdV b k) * 1)) = rdV b k := by simp only [w_u64]; omega
 have := enum1_ok X0 X2 X3 X4 b hb hl k bad w rr mm (signM (rdV b k) 8) (by rw [e]; exact rsign_8_ok _)
 rw [sgn8 h0] at this
 exact this
end Go.Proofs.Ytcngafhpodeenaa

namespace Go.Proofs.Ytcngafhpodeenaa
open Go Go.Ev
set_option maxRecDepth 100000
set_option maxHeartbeats 8000000
theorem etwo_b_ok (X0 X2 X3 X4 : List D) (b : List Int) (hb : isB b) (hl : b.length ≤ 1000) (k : Nat) (bad w : Bool) (rr mm : Int) (n0 : 0 ≤ rdV b k) (n1 : rdV b k ≤ 255) (h : rdX b k bad = true)  : CallRun Try.prog 47 ([.ptr false 1 0]) ([.box X0, bR b ((k : Int)) (bad) w rr mm, .box X2, .box X3, .box X4]) (.tup [.int .i8 (rdHi (rdV b k) rr), .int .i8 (rdLo (rdV b k) mm)]) ([.box X0, bR b ((rdA b k : Nat)) (true) w rr mm, .box X2, .box X3, .box X4]) := by
 exact CallRun.of_eval (keep := [0, 1, 2, 3, 4]) mixed [.callR _ _ _ _ _ (@ebyte_ok (X0) (X2) (X3) (X4) (b) hb hl (k) (bad) (w) (rr) (mm)), tC (eF h), tC (eF h), tC h] (by kernel_rfl)
theorem etwo_n_ok (X0 X2 X3 X4 : List D) (b : List Int) (hb : isB b) (hl : b.length ≤ 1000) (k : Nat) (bad w : Bool) (rr mm : Int) (n0 : 0 ≤ rdV b k) (n1 : rdV b k ≤ 255) (h : rdX b k bad = false) (h2 : rdV b k < 192)  : CallRun Try.prog 47 ([.ptr false 1 0]) ([.box X0, bR b ((k : Int)) (bad) w rr mm, .box X2, .box X3, .box X4]) (.tup [.int .i8 (rdHi (rdV b k) rr), .int .i8 (rdLo (rdV b k) mm)]) ([.box X0, bR b ((rdA b k : Nat)) (true) w rr mm, .box X2, .box X3, .box X4]) := by
 exact (CallRun.of_eval (keep := [0, 1, 2, 3, 4]) (s' := [Ob.box X0, bR b (↑(rdA b k) : Int) (decide (rdV b k < (192 : Int))) w rr mm, Ob.box X2, Ob.box X3, Ob.box X4]) mixed [.callR _ _ _ _ _ (@ebyte_ok (X0) (X2) (X3) (X4) (b) hb hl (k) (bad) (w) (rr) (mm)), tC (eF h), tC (eF h), tC h] (by kernel_rfl)).cast rfl (by (simp; omega))
theorem etwo_y_ok (X0 X2 X3 X4 : List D) (b : List Int) (hb : isB b) (hl : b.length ≤ 1000) (k : Nat) (bad w : Bool) (rr mm : Int) (n0 : 0 ≤ rdV b k) (n1 : rdV b k ≤ 255) (h : rdX b k bad = false) (h2 : 192 ≤ rdV b k)  : CallRun Try.prog 47 ([.ptr false 1 0]) ([.box X0, bR b ((k : Int)) (bad) w rr mm, .box X2, .box X3, .box X4]) (.tup [.int .i8 (rdHi (rdV b k) rr), .int .i8 (rdLo (rdV b k) mm)]) ([.box X0, bR b ((rdA b k : Nat)) (false) w rr mm, .box X2, .box X3, .box X4]) := by
 exact (CallRun.of_eval (keep := [0, 1, 2, 3, 4]) (s' := [Ob.box X0, bR b (↑(rdA b k) : Int) (decide (rdV b k < (192 : Int))) w rr mm, Ob.box X2, Ob.box X3, Ob.box X4]) mixed [.callR _ _ _ _ _ (@ebyte_ok (X0) (X2) (X3) (X4) (b) hb hl (k) (bad) (w) (rr) (mm)), tC (eF h), tC (eF h), tC h] (by kernel_rfl)).cast rfl (by (simp; omega))
theorem emem_b0_ok (X0 X2 X3 X4 : List D) (b : List Int) (hb : isB b) (hl : b.length ≤ 1000) (k : Nat) (bad w : Bool) (rr mm : Int) (n0 : 0 ≤ rdV b k) (n1 : rdV b k ≤ 255) (h : rdX b k bad = true) (hq : (IntKind.i64.wrap ((BitVec.ofInt 64 (rdV b k) &&& BitVec.ofInt 64 7).toNat : Int) == 4) = false)  : CallRun Try.prog 46 ([.ptr false 1 0]) ([.box X0, bR b ((k : Int)) (bad) w rr mm, .box X2, .box X3, .box X4]) (.tup [.int .i8 (rdHi (rdV b k) rr), .int .i8 (rdLo (rdV b k) mm), .int .i64 (rdN4 b (rdA b k))]) ([.box X0, bR b ((rdA4 b (rdA b k) : Nat)) (rdX4 b (rdA b k) true) w rr mm, .box X2, .box X3, .box X4, .dead]) := by
 by_cases h0 : IntKind.wrap IntKind.i64 (↑(BitVec.toNat (BitVec.ofInt (64 : Nat) (rdV b k) &&& BitVec.ofInt (64 : Nat) (7 : Int))) : Int) = 4
 ·skip
  exfalso; simp only [beq_iff_eq, beq_eq_false_iff_ne, ne_eq] at hq; first | exact hq h0 | exact h0 hq | (rw [decide_eq_true (by omega), hx] at h1; cases h1) | (rw [decide_eq_false (by omega), hx] at h1; cases h1)
 ·skip
  exact CallRun.of_eval (keep := [0, 1, 2, 3, 4]) mixed [.callR _ _ _ _ _ (@ebyte_ok (X0) (X2) (X3) (X4) (b) hb hl (k) (bad) (w) (rr) (mm)), tC (eF h), tC (eF h), tC h, tF, tF, tT, tC (neOf h0), .callR _ _ _ _ _ (@enumber4_ok (X0) (X2) (X3) (X4) (b) hb hl (rdA b k) (true) (w) (rr) (mm)), .keepC [(1, 0, .lst .no 1 (bD b)), (1, 3, .bool w), (1, 4, .int .i8 rr), (1, 5, .int .i8 mm)] [(0, Ob.box X0), (2, Ob.box X2), (3, Ob.box X3), (4, Ob.box X4)]] (by kernel_rfl)
theorem emem_bb_ok (X0 X2 X3 X4 : List D) (b : List Int) (hb : isB b) (hl : b.length ≤ 1000) (k : Nat) (bad w : Bool) (rr mm : Int) (n0 : 0 ≤ rdV b k) (n1 : rdV b k ≤ 255) (h : rdX b k bad = true) (hq : (IntKind.i64.wrap ((BitVec.ofInt 64 (rdV b k) &&& BitVec.ofInt 64 7).toNat : Int) == 4) = true) (m0 : 0 ≤ rdV b (rdA b k)) (m1 : rdV b (rdA b k) ≤ 255) (hx : rdX b (rdA b k) true = true)  : CallRun Try.prog 46 ([.ptr false 1 0]) ([.box X0, bR b ((k : Int)) (bad) w rr mm, .box X2, .box X3, .box X4]) (.tup [.int .i8 (rdHi (rdV b k) rr), .int .i8 (rdLo (rdV b k) mm), .int .i64 (rdN4 b (rdA b (rdA b k)))]) ([.box X0, .box [.lst .no 1 (bD b), .int .i64 ((rdA4 b (rdA b (rdA b k)) : Nat)), .bool (rdX4 b (rdA b (rdA b k)) true), .bool w, .int .i8 rr, .int .i8 mm], .box X2, .box X3, .box X4, .dead]) := by
 by_cases h0 : IntKind.wrap IntKind.i64 (↑(BitVec.toNat (BitVec.ofInt (64 : Nat) (rdV b k) &&& BitVec.ofInt (64 : Nat) (7 : Int))) : Int) = 4
 ·skip
  exact CallRun.of_eval (keep := [0, 1, 2, 3, 4]) mixed [.callR _ _ _ _ _ (@ebyte_ok (X0) (X2) (X3) (X4) (b) hb hl (k) (bad) (w) (rr) (mm)), tC (eF h), tC (eF h), tC h, tF, tF, tT, tC (eqI 4 true h0), .callR _ _ _ _ _ (@ebyte_ok (X0) (X2) (X3) (X4) (b) hb hl (rdA b k) (true) (w) (rr) (mm)), tF, tF, tT, .callR _ _ _ _ _ (@enumber4_ok (X0) (X2) (X3) (X4) (b) hb hl (rdA b (rdA b k)) (true) (w) (rr) (mm)), .keepC [(1, 0, .lst .no 1 (bD b)), (1, 3, .bool w), (1, 4, .int .i8 rr), (1, 5, .int .i8 mm)] [(0, Ob.box X0), (2, Ob.box X2), (3, Ob.box X3), (4, Ob.box X4)]] (by kernel_rfl)
 ·skip
  exfalso; simp only [beq_iff_eq, beq_eq_false_iff_ne, ne_eq] at hq; first | exact hq h0 | exact h0 hq | (rw [decide_eq_true (by omega), hx] at h1; cases h1) | (rw [decide_eq_false (by omega), hx] at h1; cases h1)
theorem emem_l0_ok (X0 X2 X3 X4 : List D) (b : List Int) (hb : isB b) (hl : b.length ≤ 1000) (k : Nat) (bad w : Bool) (rr mm : Int) (n0 : 0 ≤ rdV b k) (n1 : rdV b k ≤ 255) (h : rdX b k bad = false) (h2 : rdV b k < 128) (hq : (IntKind.i64.wrap ((BitVec.ofInt 64 (rdV b k) &&& BitVec.ofInt 64 7).toNat : Int) == 4) = false)  : CallRun Try.prog 46 ([.ptr false 1 0]) ([.box X0, bR b ((k : Int)) (bad) w rr mm, .box X2, .box X3, .box X4]) (.tup [.int .i8 (rdHi (rdV b k) rr), .int .i8 (rdLo (rdV b k) mm), .int .i64 (rdN4 b (rdA b k))]) ([.box X0, bR b ((rdA4 b (rdA b k) : Nat)) (rdX4 b (rdA b k) true) w rr mm, .box X2, .box X3, .box X4, .dead]) := by
 by_cases h0 : IntKind.wrap IntKind.i64 (↑(BitVec.toNat (BitVec.ofInt (64 : Nat) (rdV b k) &&& BitVec.ofInt (64 : Nat) (7 : Int))) : Int) = 4
 ·skip
  exfalso; simp only [beq_iff_eq, beq_eq_false_iff_ne, ne_eq] at hq; first | exact hq h0 | exact h0 hq | (rw [decide_eq_true (by omega), hx] at h1; cases h1) | (rw [decide_eq_false (by omega), hx] at h1; cases h1)
 ·skip
  exact CallRun.of_eval (keep := [0, 1, 2, 3, 4]) mixed [.callR _ _ _ _ _ (@ebyte_ok (X0) (X2) (X3) (X4) (b) hb hl (k) (bad) (w) (rr) (mm)), tC (eF h), tC (eF h), tC h, tC (eF (decide_eq_true h2)), tC (eF (decide_eq_true h2)), tC (decide_eq_true h2), tC (neOf h0), .callR _ _ _ _ _ (@enumber4_ok (X0) (X2) (X3) (X4) (b) hb hl (rdA b k) (true) (w) (rr) (mm)), .keepC [(1, 0, .lst .no 1 (bD b)), (1, 3, .bool w), (1, 4, .int .i8 rr), (1, 5, .int .i8 mm)] [(0, Ob.box X0), (2, Ob.box X2), (3, Ob.box X3), (4, Ob.box X4)]] (by kernel_rfl)
theorem emem_lb_ok (X0 X2 X3 X4 : List D) (b : List Int) (hb : isB b) (hl : b.length ≤ 1000) (k : Nat) (bad w : Bool) (rr mm : Int) (n0 : 0 ≤ rdV b k) (n1 : rdV b k ≤ 255) (h : rdX b k bad = false) (h2 : rdV b k < 128) (hq : (IntKind.i64.wrap ((BitVec.ofInt 64 (rdV b k) &&& BitVec.ofInt 64 7).toNat : Int) == 4) = true) (m0 : 0 ≤ rdV b (rdA b k)) (m1 : rdV b (rdA b k) ≤ 255) (hx : rdX b (rdA b k) true = true)  : CallRun Try.prog 46 ([.ptr false 1 0]) ([.box X0, bR b ((k : Int)) (bad) w rr mm, .box X2, .box X3, .box X4]) (.tup [.int .i8 (rdHi (rdV b k) rr), .int .i8 (rdLo (rdV b k) mm), .int .i64 (rdN4 b (rdA b (rdA b k)))]) ([.box X0, .box [.lst .no 1 (bD b), .int .i64 ((rdA4 b (rdA b (rdA b k)) : Nat)), .bool (rdX4 b (rdA b (rdA b k)) true), .bool w, .int .i8 rr, .int .i8 mm], .box X2, .box X3, .box X4, .dead]) := by
 by_cases h0 : IntKind.wrap IntKind.i64 (↑(BitVec.toNat (BitVec.ofInt (64 : Nat) (rdV b k) &&& BitVec.ofInt (64 : Nat) (7 : Int))) : Int) = 4
 ·skip
  exact CallRun.of_eval (keep := [0, 1, 2, 3, 4]) mixed [.callR _ _ _ _ _ (@ebyte_ok (X0) (X2) (X3) (X4) (b) hb hl (k) (bad) (w) (rr) (mm)), tC (eF h), tC (eF h), tC h, tC (eF (decide_eq_true h2)), tC (eF (decide_eq_true h2)), tC (decide_eq_true h2), tC (eqI 4 true h0), .callR _ _ _ _ _ (@ebyte_ok (X0) (X2) (X3) (X4) (b) hb hl (rdA b k) (true) (w) (rr) (mm)), tF, tF, tT, .callR _ _ _ _ _ (@enumber4_ok (X0) (X2) (X3) (X4) (b) hb hl (rdA b (rdA b k)) (true) (w) (rr) (mm)), .keepC [(1, 0, .lst .no 1 (bD b)), (1, 3, .bool w), (1, 4, .int .i8 rr), (1, 5, .int .i8 mm)] [(0, Ob.box X0), (2, Ob.box X2), (3, Ob.box X3), (4, Ob.box X4)]] (by kernel_rfl)
 ·skip
  exfalso; simp only [beq_iff_eq, beq_eq_false_iff_ne, ne_eq] at hq; first | exact hq h0 | exact h0 hq | (rw [decide_eq_true (by omega), hx] at h1; cases h1) | (rw [decide_eq_false (by omega), hx] at h1; cases h1)
theorem emem_g0_ok (X0 X2 X3 X4 : List D) (b : List Int) (hb : isB b) (hl : b.length ≤ 1000) (k : Nat) (bad w : Bool) (rr mm : Int) (n0 : 0 ≤ rdV b k) (n1 : rdV b k ≤ 255) (h : rdX b k bad = false) (h3 : 128 ≤ rdV b k) (h2 : 192 ≤ rdV b k) (hq : (IntKind.i64.wrap ((BitVec.ofInt 64 (rdV b k) &&& BitVec.ofInt 64 7).toNat : Int) == 4) = false)  : CallRun Try.prog 46 ([.ptr false 1 0]) ([.box X0, bR b ((k : Int)) (bad) w rr mm, .box X2, .box X3, .box X4]) (.tup [.int .i8 (rdHi (rdV b k) rr), .int .i8 (rdLo (rdV b k) mm), .int .i64 (rdN4 b (rdA b k))]) ([.box X0, bR b ((rdA4 b (rdA b k) : Nat)) (rdX4 b (rdA b k) true) w rr mm, .box X2, .box X3, .box X4, .dead]) := by
 by_cases h0 : IntKind.wrap IntKind.i64 (↑(BitVec.toNat (BitVec.ofInt (64 : Nat) (rdV b k) &&& BitVec.ofInt (64 : Nat) (7 : Int))) : Int) = 4
 ·skip
  rcases Bool.eq_false_or_eq_true (rdX b (rdA b k) (decide (rdV b k ≥ (192 : Int)))) with h1 | h1
  ·skip
   exfalso; simp only [beq_iff_eq, beq_eq_false_iff_ne, ne_eq] at hq; first | exact hq h0 | exact h0 hq | (rw [decide_eq_true (by omega), hx] at h1; cases h1) | (rw [decide_eq_false (by omega), hx] at h1; cases h1)
  ·skip
   exfalso; simp only [beq_iff_eq, beq_eq_false_iff_ne, ne_eq] at hq; first | exact hq h0 | exact h0 hq | (rw [decide_eq_true (by omega), hx] at h1; cases h1) | (rw [decide_eq_false (by omega), hx] at h1; cases h1)
 ·skip
  exact (CallRun.of_eval (keep := [0, 1, 2, 3, 4]) (s' := [Ob.box X0, Ob.box [.lst .no 1 (bD b), .int .i64 (↑(rdA4 b (rdA b k)) : Int), .bool (rdX4 b (rdA b k) (decide (rdV b k ≥ (192 : Int)))), .bool w, .int .i8 rr, .int .i8 mm], Ob.box X2, Ob.box X3, Ob.box X4, Ob.dead]) mixed [.callR _ _ _ _ _ (@ebyte_ok (X0) (X2) (X3) (X4) (b) hb hl (k) (bad) (w) (rr) (mm)), tC (eF h), tC (eF h), tC h, tC (eF (decide_eq_false (Int.not_lt.2 h3))), tC (eF (decide_eq_false (Int.not_lt.2 h3))), tC (decide_eq_false (Int.not_lt.2 h3)), tC (neOf h0), .callR _ _ _ _ _ (@enumber4_ok (X0) (X2) (X3) (X4) (b) hb hl (rdA b k) (decide (rdV b k ≥ (192 : Int))) (w) (rr) (mm)), .keepC [(1, 0, .lst .no 1 (bD b)), (1, 3, .bool w), (1, 4, .int .i8 rr), (1, 5, .int .i8 mm)] [(0, Ob.box X0), (2, Ob.box X2), (3, Ob.box X3), (4, Ob.box X4)]] (by kernel_rfl)).cast rfl (by (simp only [decide_eq_true h2]; done))
theorem emem_gb_ok (X0 X2 X3 X4 : List D) (b : List Int) (hb : isB b) (hl : b.length ≤ 1000) (k : Nat) (bad w : Bool) (rr mm : Int) (n0 : 0 ≤ rdV b k) (n1 : rdV b k ≤ 255) (h : rdX b k bad = false) (h3 : 128 ≤ rdV b k) (h2 : 192 ≤ rdV b k) (hq : (IntKind.i64.wrap ((BitVec.ofInt 64 (rdV b k) &&& BitVec.ofInt 64 7).toNat : Int) == 4) = true) (m0 : 0 ≤ rdV b (rdA b k)) (m1 : rdV b (rdA b k) ≤ 255) (hx : rdX b (rdA b k) true = true)  : CallRun Try.prog 46 ([.ptr false 1 0]) ([.box X0, bR b ((k : Int)) (bad) w rr mm, .box X2, .box X3, .box X4]) (.tup [.int .i8 (rdHi (rdV b k) rr), .int .i8 (rdLo (rdV b k) mm), .int .i64 (rdN4 b (rdA b (rdA b k)))]) ([.box X0, .box [.lst .no 1 (bD b), .int .i64 ((rdA4 b (rdA b (rdA b k)) : Nat)), .bool (rdX4 b (rdA b (rdA b k)) true), .bool w, .int .i8 rr, .int .i8 mm], .box X2, .box X3, .box X4, .dead]) := by
 by_cases h0 : IntKind.wrap IntKind.i64 (↑(BitVec.toNat (BitVec.ofInt (64 : Nat) (rdV b k) &&& BitVec.ofInt (64 : Nat) (7 : Int))) : Int) = 4
 ·skip
  rcases Bool.eq_false_or_eq_true (rdX b (rdA b k) (decide (rdV b k ≥ (192 : Int)))) with h1 | h1
  ·skip
   exact CallRun.of_eval (keep := [0, 1, 2, 3, 4]) mixed [.callR _ _ _ _ _ (@ebyte_ok (X0) (X2) (X3) (X4) (b) hb hl (k) (bad) (w) (rr) (mm)), tC (eF h), tC (eF h), tC h, tC (eF (decide_eq_false (Int.not_lt.2 h3))), tC (eF (decide_eq_false (Int.not_lt.2 h3))), tC (decide_eq_false (Int.not_lt.2 h3)), tC (eqI 4 true h0), .callR _ _ _ _ _ (@ebyte_ok (X0) (X2) (X3) (X4) (b) hb hl (rdA b k) (decide (rdV b k ≥ (192 : Int))) (w) (rr) (mm)), tC (eF h1), tC (eF h1), tC h1, .callR _ _ _ _ _ (@enumber4_ok (X0) (X2) (X3) (X4) (b) hb hl (rdA b (rdA b k)) (true) (w) (rr) (mm)), .keepC [(1, 0, .lst .no 1 (bD b)), (1, 3, .bool w), (1, 4, .int .i8 rr), (1, 5, .int .i8 mm)] [(0, Ob.box X0), (2, Ob.box X2), (3, Ob.box X3), (4, Ob.box X4)]] (by kernel_rfl)
  ·skip
   exact (CallRun.of_eval (keep := [0, 1, 2, 3, 4]) (s' := [Ob.box X0, Ob.box [.lst .no 1 (bD b), .int .i64 (↑(rdA4 b (rdA b (rdA b k))) : Int), .bool (rdX4 b (rdA b (rdA b k)) (rdV b (rdA b k) != (36 : Int))), .bool w, .int .i8 rr, .int .i8 mm], Ob.box X2, Ob.box X3, Ob.box X4, Ob.dead]) mixed [.callR _ _ _ _ _ (@ebyte_ok (X0) (X2) (X3) (X4) (b) hb hl (k) (bad) (w) (rr) (mm)), tC (eF h), tC (eF h), tC h, tC (eF (decide_eq_false (Int.not_lt.2 h3))), tC (eF (decide_eq_false (Int.not_lt.2 h3))), tC (decide_eq_false (Int.not_lt.2 h3)), tC (eqI 4 true h0), .callR _ _ _ _ _ (@ebyte_ok (X0) (X2) (X3) (X4) (b) hb hl (rdA b k) (decide (rdV b k ≥ (192 : Int))) (w) (rr) (mm)), tC (eF h1), tC (eF h1), tC h1, .callR _ _ _ _ _ (@enumber4_ok (X0) (X2) (X3) (X4) (b) hb hl (rdA b (rdA b k)) (rdV b (rdA b k) != (36 : Int)) (w) (rr) (mm)), .keepC [(1, 0, .lst .no 1 (bD b)), (1, 3, .bool w), (1, 4, .int .i8 rr), (1, 5, .int .i8 mm)] [(0, Ob.box X0), (2, Ob.box X2), (3, Ob.box X3), (4, Ob.box X4)]] (by kernel_rfl)).cast rfl (by (exfalso; simp only [beq_iff_eq, beq_eq_false_iff_ne, ne_eq] at hq; first | exact hq h0 | exact h0 hq | (rw [decide_eq_true (by omega), hx] at h1; cases h1) | (rw [decide_eq_false (by omega), hx] at h1; cases h1)))
 ·skip
  exfalso; simp only [beq_iff_eq, beq_eq_false_iff_ne, ne_eq] at hq; first | exact hq h0 | exact h0 hq | (rw [decide_eq_true (by omega), hx] at h1; cases h1) | (rw [decide_eq_false (by omega), hx] at h1; cases h1)
theorem emem_y0_ok (X0 X2 X3 X4 : List D) (b : List Int) (hb : isB b) (hl : b.length ≤ 1000) (k : Nat) (bad w : Bool) (rr mm : Int) (n0 : 0 ≤ rdV b k) (n1 : rdV b k ≤ 255) (h : rdX b k bad = false) (h2 : 128 ≤ rdV b k) (h3 : rdV b k < 192) (hq : (IntKind.i64.wrap ((BitVec.ofInt 64 (rdV b k) &&& BitVec.ofInt 64 7).toNat : Int) == 4) = false)  : CallRun Try.prog 46 ([.ptr false 1 0]) ([.box X0, bR b ((k : Int)) (bad) w rr mm, .box X2, .box X3, .box X4]) (.tup [.int .i8 (rdHi (rdV b k) rr), .int .i8 (rdLo (rdV b k) mm), .int .i64 (rdN4 b (rdA b k))]) ([.box X0, bR b ((rdA4 b (rdA b k) : Nat)) (rdX4 b (rdA b k) false) w rr mm, .box X2, .box X3, .box X4, .dead]) := by
 by_cases h0 : IntKind.wrap IntKind.i64 (↑(BitVec.toNat (BitVec.ofInt (64 : Nat) (rdV b k) &&& BitVec.ofInt (64 : Nat) (7 : Int))) : Int) = 4
 ·skip
  rcases Bool.eq_false_or_eq_true (rdX b (rdA b k) (decide (rdV b k ≥ (192 : Int)))) with h1 | h1
  ·skip
   exfalso; simp only [beq_iff_eq, beq_eq_false_iff_ne, ne_eq] at hq; first | exact hq h0 | exact h0 hq | (rw [decide_eq_true (by omega), hx] at h1; cases h1) | (rw [decide_eq_false (by omega), hx] at h1; cases h1)
  ·skip
   exfalso; simp only [beq_iff_eq, beq_eq_false_iff_ne, ne_eq] at hq; first | exact hq h0 | exact h0 hq | (rw [decide_eq_true (by omega), hx] at h1; cases h1) | (rw [decide_eq_false (by omega), hx] at h1; cases h1)
 ·skip
  exact (CallRun.of_eval (keep := [0, 1, 2, 3, 4]) (s' := [Ob.box X0, Ob.box [.lst .no 1 (bD b), .int .i64 (↑(rdA4 b (rdA b k)) : Int), .bool (rdX4 b (rdA b k) (decide (rdV b k ≥ (192 : Int)))), .bool w, .int .i8 rr, .int .i8 mm], Ob.box X2, Ob.box X3, Ob.box X4, Ob.dead]) mixed [.callR _ _ _ _ _ (@ebyte_ok (X0) (X2) (X3) (X4) (b) hb hl (k) (bad) (w) (rr) (mm)), tC (eF h), tC (eF h), tC h, tC (eF (decide_eq_false (Int.not_lt.2 h2))), tC (eF (decide_eq_false (Int.not_lt.2 h2))), tC (decide_eq_false (Int.not_lt.2 h2)), tC (neOf h0), .callR _ _ _ _ _ (@enumber4_ok (X0) (X2) (X3) (X4) (b) hb hl (rdA b k) (decide (rdV b k ≥ (192 : Int))) (w) (rr) (mm)), .keepC [(1, 0, .lst .no 1 (bD b)), (1, 3, .bool w), (1, 4, .int .i8 rr), (1, 5, .int .i8 mm)] [(0, Ob.box X0), (2, Ob.box X2), (3, Ob.box X3), (4, Ob.box X4)]] (by kernel_rfl)).cast rfl (by (simp only [decide_eq_true h2, decide_eq_false (Int.not_le.2 h3)]; done))
theorem emem_yb_ok (X0 X2 X3 X4 : List D) (b : List Int) (hb : isB b) (hl : b.length ≤ 1000) (k : Nat) (bad w : Bool) (rr mm : Int) (n0 : 0 ≤ rdV b k) (n1 : rdV b k ≤ 255) (h : rdX b k bad = false) (h2 : 128 ≤ rdV b k) (h3 : rdV b k < 192) (hq : (IntKind.i64.wrap ((BitVec.ofInt 64 (rdV b k) &&& BitVec.ofInt 64 7).toNat : Int) == 4) = true) (m0 : 0 ≤ rdV b (rdA b k)) (m1 : rdV b (rdA b k) ≤ 255) (hx : rdX b (rdA b k) false = true)  : CallRun Try.prog 46 ([.ptr false 1 0]) ([.box X0, bR b ((k : Int)) (bad) w rr mm, .box X2, .box X3, .box X4]) (.tup [.int .i8 (rdHi (rdV b k) rr), .int .i8 (rdLo (rdV b k) mm), .int .i64 (rdN4 b (rdA b (rdA b k)))]) ([.box X0, .box [.lst .no 1 (bD b), .int .i64 ((rdA4 b (rdA b (rdA b k)) : Nat)), .bool (rdX4 b (rdA b (rdA b k)) true), .bool w, .int .i8 rr, .int .i8 mm], .box X2, .box X3, .box X4, .dead]) := by
 by_cases h0 : IntKind.wrap IntKind.i64 (↑(BitVec.toNat (BitVec.ofInt (64 : Nat) (rdV b k) &&& BitVec.ofInt (64 : Nat) (7 : Int))) : Int) = 4
 ·skip
  rcases Bool.eq_false_or_eq_true (rdX b (rdA b k) (decide (rdV b k ≥ (192 : Int)))) with h1 | h1
  ·skip
   exact CallRun.of_eval (keep := [0, 1, 2, 3, 4]) mixed [.callR _ _ _ _ _ (@ebyte_ok (X0) (X2) (X3) (X4) (b) hb hl (k) (bad) (w) (rr) (mm)), tC (eF h), tC (eF h), tC h, tC (eF (decide_eq_false (Int.not_lt.2 h2))), tC (eF (decide_eq_false (Int.not_lt.2 h2))), tC (decide_eq_false (Int.not_lt.2 h2)), tC (eqI 4 true h0), .callR _ _ _ _ _ (@ebyte_ok (X0) (X2) (X3) (X4) (b) hb hl (rdA b k) (decide (rdV b k ≥ (192 : Int))) (w) (rr) (mm)), tC (eF h1), tC (eF h1), tC h1, .callR _ _ _ _ _ (@enumber4_ok (X0) (X2) (X3) (X4) (b) hb hl (rdA b (rdA b k)) (true) (w) (rr) (mm)), .keepC [(1, 0, .lst .no 1 (bD b)), (1, 3, .bool w), (1, 4, .int .i8 rr), (1, 5, .int .i8 mm)] [(0, Ob.box X0), (2, Ob.box X2), (3, Ob.box X3), (4, Ob.box X4)]] (by kernel_rfl)
  ·skip
   exact (CallRun.of_eval (keep := [0, 1, 2, 3, 4]) (s' := [Ob.box X0, Ob.box [.lst .no 1 (bD b), .int .i64 (↑(rdA4 b (rdA b (rdA b k))) : Int), .bool (rdX4 b (rdA b (rdA b k)) (rdV b (rdA b k) != (36 : Int))), .bool w, .int .i8 rr, .int .i8 mm], Ob.box X2, Ob.box X3, Ob.box X4, Ob.dead]) mixed [.callR _ _ _ _ _ (@ebyte_ok (X0) (X2) (X3) (X4) (b) hb hl (k) (bad) (w) (rr) (mm)), tC (eF h), tC (eF h), tC h, tC (eF (decide_eq_false (Int.not_lt.2 h2))), tC (eF (decide_eq_false (Int.not_lt.2 h2))), tC (decide_eq_false (Int.not_lt.2 h2)), tC (eqI 4 true h0), .callR _ _ _ _ _ (@ebyte_ok (X0) (X2) (X3) (X4) (b) hb hl (rdA b k) (decide (rdV b k ≥ (192 : Int))) (w) (rr) (mm)), tC (eF h1), tC (eF h1), tC h1, .callR _ _ _ _ _ (@enumber4_ok (X0) (X2) (X3) (X4) (b) hb hl (rdA b (rdA b k)) (rdV b (rdA b k) != (36 : Int)) (w) (rr) (mm)), .keepC [(1, 0, .lst .no 1 (bD b)), (1, 3, .bool w), (1, 4, .int .i8 rr), (1, 5, .int .i8 mm)] [(0, Ob.box X0), (2, Ob.box X2), (3, Ob.box X3), (4, Ob.box X4)]] (by kernel_rfl)).cast rfl (by (exfalso; simp only [beq_iff_eq, beq_eq_false_iff_ne, ne_eq] at hq; first | exact hq h0 | exact h0 hq | (rw [decide_eq_true (by omega), hx] at h1; cases h1) | (rw [decide_eq_false (by omega), hx] at h1; cases h1)))
 ·skip
  exfalso; simp only [beq_iff_eq, beq_eq_false_iff_ne, ne_eq] at hq; first | exact hq h0 | exact h0 hq | (rw [decide_eq_true (by omega), hx] at h1; cases h1) | (rw [decide_eq_false (by omega), hx] at h1; cases h1)
theorem emem_yn_ok (X0 X2 X3 X4 : List D) (b : List Int) (hb : isB b) (hl : b.length ≤ 1000) (k : Nat) (bad w : Bool) (rr mm : Int) (n0 : 0 ≤ rdV b k) (n1 : rdV b k ≤ 255) (h : rdX b k bad = false) (h2 : 128 ≤ rdV b k) (h3 : rdV b k < 192) (hq : (IntKind.i64.wrap ((BitVec.ofInt 64 (rdV b k) &&& BitVec.ofInt 64 7).toNat : Int) == 4) = true) (m0 : 0 ≤ rdV b (rdA b k)) (m1 : rdV b (rdA b k) ≤ 255) (hx : rdX b (rdA b k) false = false) (hn : (rdV b (rdA b k) == 36) = false)  : CallRun Try.prog 46 ([.ptr false 1 0]) ([.box X0, bR b ((k : Int)) (bad) w rr mm, .box X2, .box X3, .box X4]) (.tup [.int .i8 (rdHi (rdV b k) rr), .int .i8 (rdLo (rdV b k) mm), .int .i64 (rdN4 b (rdA b (rdA b k)))]) ([.box X0, .box [.lst .no 1 (bD b), .int .i64 ((rdA4 b (rdA b (rdA b k)) : Nat)), .bool (rdX4 b (rdA b (rdA b k)) true), .bool w, .int .i8 rr, .int .i8 mm], .box X2, .box X3, .box X4, .dead]) := by
 by_cases h0 : IntKind.wrap IntKind.i64 (↑(BitVec.toNat (BitVec.ofInt (64 : Nat) (rdV b k) &&& BitVec.ofInt (64 : Nat) (7 : Int))) : Int) = 4
 ·skip
  rcases Bool.eq_false_or_eq_true (rdX b (rdA b k) (decide (rdV b k ≥ (192 : Int)))) with h1 | h1
  ·skip
   exact CallRun.of_eval (keep := [0, 1, 2, 3, 4]) mixed [.callR _ _ _ _ _ (@ebyte_ok (X0) (X2) (X3) (X4) (b) hb hl (k) (bad) (w) (rr) (mm)), tC (eF h), tC (eF h), tC h, tC (eF (decide_eq_false (Int.not_lt.2 h2))), tC (eF (decide_eq_false (Int.not_lt.2 h2))), tC (decide_eq_false (Int.not_lt.2 h2)), tC (eqI 4 true h0), .callR _ _ _ _ _ (@ebyte_ok (X0) (X2) (X3) (X4) (b) hb hl (rdA b k) (decide (rdV b k ≥ (192 : Int))) (w) (rr) (mm)), tC (eF h1), tC (eF h1), tC h1, .callR _ _ _ _ _ (@enumber4_ok (X0) (X2) (X3) (X4) (b) hb hl (rdA b (rdA b k)) (true) (w) (rr) (mm)), .keepC [(1, 0, .lst .no 1 (bD b)), (1, 3, .bool w), (1, 4, .int .i8 rr), (1, 5, .int .i8 mm)] [(0, Ob.box X0), (2, Ob.box X2), (3, Ob.box X3), (4, Ob.box X4)]] (by kernel_rfl)
  ·skip
   exact (CallRun.of_eval (keep := [0, 1, 2, 3, 4]) (s' := [Ob.box X0, Ob.box [.lst .no 1 (bD b), .int .i64 (↑(rdA4 b (rdA b (rdA b k))) : Int), .bool (rdX4 b (rdA b (rdA b k)) (rdV b (rdA b k) != (36 : Int))), .bool w, .int .i8 rr, .int .i8 mm], Ob.box X2, Ob.box X3, Ob.box X4, Ob.dead]) mixed [.callR _ _ _ _ _ (@ebyte_ok (X0) (X2) (X3) (X4) (b) hb hl (k) (bad) (w) (rr) (mm)), tC (eF h), tC (eF h), tC h, tC (eF (decide_eq_false (Int.not_lt.2 h2))), tC (eF (decide_eq_false (Int.not_lt.2 h2))), tC (decide_eq_false (Int.not_lt.2 h2)), tC (eqI 4 true h0), .callR _ _ _ _ _ (@ebyte_ok (X0) (X2) (X3) (X4) (b) hb hl (rdA b k) (decide (rdV b k ≥ (192 : Int))) (w) (rr) (mm)), tC (eF h1), tC (eF h1), tC h1, .callR _ _ _ _ _ (@enumber4_ok (X0) (X2) (X3) (X4) (b) hb hl (rdA b (rdA b k)) (rdV b (rdA b k) != (36 : Int)) (w) (rr) (mm)), .keepC [(1, 0, .lst .no 1 (bD b)), (1, 3, .bool w), (1, 4, .int .i8 rr), (1, 5, .int .i8 mm)] [(0, Ob.box X0), (2, Ob.box X2), (3, Ob.box X3), (4, Ob.box X4)]] (by kernel_rfl)).cast rfl (by (simp only [bne, hn, Bool.not_true, Bool.not_false]; done))
 ·skip
  exfalso; simp only [beq_iff_eq, beq_eq_false_iff_ne, ne_eq] at hq; first | exact hq h0 | exact h0 hq | (rw [decide_eq_true (by omega), hx] at h1; cases h1) | (rw [decide_eq_false (by omega), hx] at h1; cases h1)
theorem emem_yy_ok (X0 X2 X3 X4 : List D) (b : List Int) (hb : isB b) (hl : b.length ≤ 1000) (k : Nat) (bad w : Bool) (rr mm : Int) (n0 : 0 ≤ rdV b k) (n1 : rdV b k ≤ 255) (h : rdX b k bad = false) (h2 : 128 ≤ rdV b k) (h3 : rdV b k < 192) (hq : (IntKind.i64.wrap ((BitVec.ofInt 64 (rdV b k) &&& BitVec.ofInt 64 7).toNat : Int) == 4) = true) (m0 : 0 ≤ rdV b (rdA b k)) (m1 : rdV b (rdA b k) ≤ 255) (hx : rdX b (rdA b k) false = false) (hn : (rdV b (rdA b k) == 36) = true)  : CallRun Try.prog 46 ([.ptr false 1 0]) ([.box X0, bR b ((k : Int)) (bad) w rr mm, .box X2, .box X3, .box X4]) (.tup [.int .i8 (rdHi (rdV b k) rr), .int .i8 (rdLo (rdV b k) mm), .int .i64 (rdN4 b (rdA b (rdA b k)))]) ([.box X0, .box [.lst .no 1 (bD b), .int .i64 ((rdA4 b (rdA b (rdA b k)) : Nat)), .bool (rdX4 b (rdA b (rdA b k)) false), .bool w, .int .i8 rr, .int .i8 mm], .box X2, .box X3, .box X4, .dead]) := by
 by_cases h0 : IntKind.wrap IntKind.i64 (↑(BitVec.toNat (BitVec.ofInt (64 : Nat) (rdV b k) &&& BitVec.ofInt (64 : Nat) (7 : Int))) : Int) = 4
 ·skip
  rcases Bool.eq_false_or_eq_true (rdX b (rdA b k) (decide (rdV b k ≥ (192 : Int)))) with h1 | h1
  ·skip
   exact (CallRun.of_eval (keep := [0, 1, 2, 3, 4]) (s' := [Ob.box X0, Ob.box [.lst .no 1 (bD b), .int .i64 (↑(rdA4 b (rdA b (rdA b k))) : Int), .bool (rdX4 b (rdA b (rdA b k)) true), .bool w, .int .i8 rr, .int .i8 mm], Ob.box X2, Ob.box X3, Ob.box X4, Ob.dead]) mixed [.callR _ _ _ _ _ (@ebyte_ok (X0) (X2) (X3) (X4) (b) hb hl (k) (bad) (w) (rr) (mm)), tC (eF h), tC (eF h), tC h, tC (eF (decide_eq_false (Int.not_lt.2 h2))), tC (eF (decide_eq_false (Int.not_lt.2 h2))), tC (decide_eq_false (Int.not_lt.2 h2)), tC (eqI 4 true h0), .callR _ _ _ _ _ (@ebyte_ok (X0) (X2) (X3) (X4) (b) hb hl (rdA b k) (decide (rdV b k ≥ (192 : Int))) (w) (rr) (mm)), tC (eF h1), tC (eF h1), tC h1, .callR _ _ _ _ _ (@enumber4_ok (X0) (X2) (X3) (X4) (b) hb hl (rdA b (rdA b k)) (true) (w) (rr) (mm)), .keepC [(1, 0, .lst .no 1 (bD b)), (1, 3, .bool w), (1, 4, .int .i8 rr), (1, 5, .int .i8 mm)] [(0, Ob.box X0), (2, Ob.box X2), (3, Ob.box X3), (4, Ob.box X4)]] (by kernel_rfl)).cast rfl (by (exfalso; simp only [beq_iff_eq, beq_eq_false_iff_ne, ne_eq] at hq; first | exact hq h0 | exact h0 hq | (rw [decide_eq_true (by omega), hx] at h1; cases h1) | (rw [decide_eq_false (by omega), hx] at h1; cases h1)))
  ·skip
   exact (CallRun.of_eval (keep := [0, 1, 2, 3, 4]) (s' := [Ob.box X0, Ob.box [.lst .no 1 (bD b), .int .i64 (↑(rdA4 b (rdA b (rdA b k))) : Int), .bool (rdX4 b (rdA b (rdA b k)) (rdV b (rdA b k) != (36 : Int))), .bool w, .int .i8 rr, .int .i8 mm], Ob.box X2, Ob.box X3, Ob.box X4, Ob.dead]) mixed [.callR _ _ _ _ _ (@ebyte_ok (X0) (X2) (X3) (X4) (b) hb hl (k) (bad) (w) (rr) (mm)), tC (eF h), tC (eF h), tC h, tC (eF (decide_eq_false (Int.not_lt.2 h2))), tC (eF (decide_eq_false (Int.not_lt.2 h2))), tC (decide_eq_false (Int.not_lt.2 h2)), tC (eqI 4 true h0), .callR _ _ _ _ _ (@ebyte_ok (X0) (X2) (X3) (X4) (b) hb hl (rdA b k) (decide (rdV b k ≥ (192 : Int))) (w) (rr) (mm)), tC (eF h1), tC (eF h1), tC h1, .callR _ _ _ _ _ (@enumber4_ok (X0) (X2) (X3) (X4) (b) hb hl (rdA b (rdA b k)) (rdV b (rdA b k) != (36 : Int)) (w) (rr) (mm)), .keepC [(1, 0, .lst .no 1 (bD b)), (1, 3, .bool w), (1, 4, .int .i8 rr), (1, 5, .int .i8 mm)] [(0, Ob.box X0), (2, Ob.box X2), (3, Ob.box X3), (4, Ob.box X4)]] (by kernel_rfl)).cast rfl (by (simp only [bne, hn, Bool.not_true, Bool.not_false]; done))
 ·skip
  exfalso; simp only [beq_iff_eq, beq_eq_false_iff_ne, ne_eq] at hq; first | exact hq h0 | exact h0 hq | (rw [decide_eq_true (by omega), hx] at h1; cases h1) | (rw [decide_eq_false (by omega), hx] at h1; cases h1)
end Go.Proofs.Ytcngafhpodeenaa

namespace Go.Proofs.Ytcngafhpodeenaa
open Go Go.Ev
set_option maxRecDepth 100000
theorem etwo_ok (X0 X2 X3 X4 : List D) (b : List Int) (hb : isB b) (hl : b.length ≤ 1000) (k : Nat) (bad w : Bool) (rr mm : Int) : CallRun Try.prog 47 [.ptr false 1 0] (reS X0 X2 X3 X4 b k bad w rr mm) (.tup [.int .i8 (rdHi (rdV b k) rr), .int .i8 (rdLo (rdV b k) mm)]) (reS X0 X2 X3 X4 b (rdA b k) (rd2X b k bad) w rr mm) := by
 have h0 := rdV_rng hb k
 unfold rd2X
 cases h : rdX b k bad with
 | true => exact etwo_b_ok X0 X2 X3 X4 b hb hl k bad w rr mm h0.1 h0.2 h
 | false =>
  by_cases h2 : rdV b k < 192
  ·rw [decide_eq_true h2]; exact etwo_n_ok X0 X2 X3 X4 b hb hl k bad w rr mm h0.1 h0.2 h h2
  ·rw [decide_eq_false h2]; exact etwo_y_ok X0 X2 X3 X4 b hb hl k bad w rr mm h0.1 h0.2 h (by omega)
theorem emem_ok (X0 X2 X3 X4 : List D) (b : List Int) (hb : isB b) (hl : b.length ≤ 1000) (k : Nat) (bad w : Bool) (rr mm : Int) : CallRun Try.prog 46 [.ptr false 1 0] (reS X0 X2 X3 X4 b k bad w rr mm) (.tup [.int .i8 (rdHi (rdV b k) rr), .int .i8 (rdLo (rdV b k) mm), .int .i64 (rdN4 b (rdMk b k))]) (reS X0 X2 X3 X4 b (rdA4 b (rdMk b k)) (rdX4 b (rdMk b k) (rdMx b k bad)) w rr mm ++ [.dead]) := by
 have h0 := rdV_rng hb k
 have h1 := rdV_rng hb (rdA b k)
 have q := q7_eq h0
 unfold rdMk rdMx
 by_cases hq : rdV b k % 8 = 4
 ·simp only [if_pos hq]
  rw [decide_eq_true hq] at q
  cases h : rdX b k bad with
  | true =>
   simp only [Bool.true_or]
   have hx : rdX b (rdA b k) true = true := by simp [rdX]
   rw [hx]
   exact emem_bb_ok X0 X2 X3 X4 b hb hl k bad w rr mm h0.1 h0.2 h q h1.1 h1.2 hx
  | false =>
   by_cases h2 : rdV b k < 128
   ·have hx : rdX b (rdA b k) true = true := by simp [rdX]
    rw [decide_eq_true h2]
    simp only [Bool.true_or, Bool.false_or]
    rw [hx]
    exact emem_lb_ok X0 X2 X3 X4 b hb hl k bad w rr mm h0.1 h0.2 h h2 q h1.1 h1.2 hx
   ·by_cases h3 : 192 ≤ rdV b k
    ·have hx : rdX b (rdA b k) true = true := by simp [rdX]
     rw [decide_eq_true h3]
     simp only [Bool.true_or, Bool.or_true]
     rw [hx]
     exact emem_gb_ok X0 X2 X3 X4 b hb hl k bad w rr mm h0.1 h0.2 h (by omega) h3 q h1.1 h1.2 hx
    ·rw [decide_eq_false h2, decide_eq_false h3]
     simp only [Bool.or_false]
     cases hx : rdX b (rdA b k) false with
     | true => exact emem_yb_ok X0 X2 X3 X4 b hb hl k bad w rr mm h0.1 h0.2 h (by omega) (by omega) q h1.1 h1.2 hx
     | false =>
      by_cases hn : rdV b (rdA b k) = 36
      ·rw [decide_eq_false (by simpa using hn)]
       exact emem_yy_ok X0 X2 X3 X4 b hb hl k bad w rr mm h0.1 h0.2 h (by omega) (by omega) q h1.1 h1.2 hx (by simpa using hn)
      ·rw [decide_eq_true (by simpa using hn)]
       exact emem_yn_ok X0 X2 X3 X4 b hb hl k bad w rr mm h0.1 h0.2 h (by omega) (by omega) q h1.1 h1.2 hx (by simpa using hn)
 ·simp only [if_neg hq]
  rw [decide_eq_false hq] at q
  cases h : rdX b k bad with
  | true => exact emem_b0_ok X0 X2 X3 X4 b hb hl k bad w rr mm h0.1 h0.2 h q
  | false =>
   by_cases h2 : rdV b k < 128
   ·rw [decide_eq_true h2]; exact emem_l0_ok X0 X2 X3 X4 b hb hl k bad w rr mm h0.1 h0.2 h h2 q
   ·by_cases h3 : 192 ≤ rdV b k
    ·rw [decide_eq_false h2, decide_eq_true h3]; exact emem_g0_ok X0 X2 X3 X4 b hb hl k bad w rr mm h0.1 h0.2 h (by omega) h3 q
    ·rw [decide_eq_false h2, decide_eq_false h3]; exact emem_y0_ok X0 X2 X3 X4 b hb hl k bad w rr mm h0.1 h0.2 h (by omega) (by omega) q
end Go.Proofs.Ytcngafhpodeenaa
