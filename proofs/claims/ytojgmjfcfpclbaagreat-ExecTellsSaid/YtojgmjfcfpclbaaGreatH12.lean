/- Contracts and plain laws that a statement's proof leans on (texts merged: ZA1, ZA1A, ZB1). -/
import Derived.Test.YtojgmjfcfpclbaaGreatH04
import Derived.Test.YtojgmjfcfpclbaaGreatH10
import Derived.Test.YtojgmjfcfpclbaaGreatH11
set_option linter.unusedVariables false
set_option linter.unusedSimpArgs false
namespace Go.Proofs.YtojgmjfcfpclbaaGreat
open Go Go.Ev
set_option maxRecDepth 100000
set_option maxHeartbeats 8000000
theorem addr_26_ok (q0 q1 q2 q3 q4 q5 q6 q7 q8 q9 q10 q11 q12 q13 q14 q15 at' : Int) (fk fc fz fs fo : Bool) (w dst src base disp imm cc : Int) (d0 : 0 ≤ dst) (d1 : dst ≤ 15) (s0 : 0 ≤ src) (s1 : src ≤ 15) (b0 : 0 ≤ base) (b1 : base ≤ 15) (w0 : 0 ≤ w) (w1 : w ≤ 64) (hm : mayX 26 w dst src base disp imm cc = true) : Ret Tryz.prog 10 ([.agg [.int .u64 q0, .int .u64 q1, .int .u64 q2, .int .u64 q3, .int .u64 q4, .int .u64 q5, .int .u64 q6, .int .u64 q7, .int .u64 q8, .int .u64 q9, .int .u64 q10, .int .u64 q11, .int .u64 q12, .int .u64 q13, .int .u64 q14, .int .u64 q15, .bool fk, .bool fc, .bool fz, .bool fs, .bool fo, .int .u64 (at')], xD 26 w dst src base disp imm cc]) (.tup [.int .u64 (u64 (rg [q0, q1, q2, q3, q4, q5, q6, q7, q8, q9, q10, q11, q12, q13, q14, q15] base + u64 disp)), .int .i64 (w / 8), .bool true]) := by
 have c0 := @mayX_ok 26 w dst src base disp imm cc (by decide)
 exact (o10 (d := .tup [.int .u64 (IntKind.wrap IntKind.u64 (rg [q0, q1, q2, q3, q4, q5, q6, q7, q8, q9, q10, q11, q12, q13, q14, q15] base + IntKind.wrap IntKind.u64 disp)), .int .i64 (IntKind.wrap IntKind.i64 (Int.fdiv w 8)), .bool true]) [.ret _ _ _ c0, tC (nt hm), tF, tT, tT, .tst (decide (0 ≤ base ∧ base < (↑(16 : Nat) : Int))) true (by (simp only [sl2] at *; omega)), .get _ _ _ (@get_reg q0 q1 q2 q3 q4 q5 q6 q7 q8 q9 q10 q11 q12 q13 q14 q15 base ([.bool fk, .bool fc, .bool fz, .bool fs, .bool fo, .int .u64 at']) b0 b1)] (by kernel_rfl)).to (by simp only [wk, wkL, and_true, D.int.injEq, true_and]; refine ⟨rfl, ?_⟩; (rw [w_i64, fd8]; omega))
theorem addr_27_ok (q0 q1 q2 q3 q4 q5 q6 q7 q8 q9 q10 q11 q12 q13 q14 q15 at' : Int) (fk fc fz fs fo : Bool) (w dst src base disp imm cc : Int) (d0 : 0 ≤ dst) (d1 : dst ≤ 15) (s0 : 0 ≤ src) (s1 : src ≤ 15) (b0 : 0 ≤ base) (b1 : base ≤ 15) (w0 : 0 ≤ w) (w1 : w ≤ 64) (hm : mayX 27 w dst src base disp imm cc = true) : Ret Tryz.prog 10 ([.agg [.int .u64 q0, .int .u64 q1, .int .u64 q2, .int .u64 q3, .int .u64 q4, .int .u64 q5, .int .u64 q6, .int .u64 q7, .int .u64 q8, .int .u64 q9, .int .u64 q10, .int .u64 q11, .int .u64 q12, .int .u64 q13, .int .u64 q14, .int .u64 q15, .bool fk, .bool fc, .bool fz, .bool fs, .bool fo, .int .u64 (at')], xD 27 w dst src base disp imm cc]) (.tup [.int .u64 (u64 (rg [q0, q1, q2, q3, q4, q5, q6, q7, q8, q9, q10, q11, q12, q13, q14, q15] base + u64 disp)), .int .i64 (w / 8), .bool true]) := by
 have c0 := @mayX_ok 27 w dst src base disp imm cc (by decide)
 exact (o10 (d := .tup [.int .u64 (IntKind.wrap IntKind.u64 (rg [q0, q1, q2, q3, q4, q5, q6, q7, q8, q9, q10, q11, q12, q13, q14, q15] base + IntKind.wrap IntKind.u64 disp)), .int .i64 (IntKind.wrap IntKind.i64 (Int.fdiv w 8)), .bool true]) [.ret _ _ _ c0, tC (nt hm), tF, tF, tT, .tst (decide (0 ≤ base ∧ base < (↑(16 : Nat) : Int))) true (by (simp only [sl2] at *; omega)), .get _ _ _ (@get_reg q0 q1 q2 q3 q4 q5 q6 q7 q8 q9 q10 q11 q12 q13 q14 q15 base ([.bool fk, .bool fc, .bool fz, .bool fs, .bool fo, .int .u64 at']) b0 b1)] (by kernel_rfl)).to (by simp only [wk, wkL, and_true, D.int.injEq, true_and]; refine ⟨rfl, ?_⟩; (rw [w_i64, fd8]; omega))
theorem addr_30_ok (q0 q1 q2 q3 q4 q5 q6 q7 q8 q9 q10 q11 q12 q13 q14 q15 at' : Int) (fk fc fz fs fo : Bool) (w dst src base disp imm cc : Int) (d0 : 0 ≤ dst) (d1 : dst ≤ 15) (s0 : 0 ≤ src) (s1 : src ≤ 15) (b0 : 0 ≤ base) (b1 : base ≤ 15) (hm : mayX 30 w dst src base disp imm cc = true) : Ret Tryz.prog 10 ([.agg [.int .u64 q0, .int .u64 q1, .int .u64 q2, .int .u64 q3, .int .u64 q4, .int .u64 q5, .int .u64 q6, .int .u64 q7, .int .u64 q8, .int .u64 q9, .int .u64 q10, .int .u64 q11, .int .u64 q12, .int .u64 q13, .int .u64 q14, .int .u64 q15, .bool fk, .bool fc, .bool fz, .bool fs, .bool fo, .int .u64 (at')], xD 30 w dst src base disp imm cc]) (.tup [.int .u64 q4, .int .i64 8, .bool true]) := by
 have c0 := @mayX_ok 30 w dst src base disp imm cc (by decide)
 exact (o10 (d := .tup [.int .u64 q4, .int .i64 8, .bool true]) [.ret _ _ _ c0, tC (nt hm), tT] (by kernel_rfl)).to (by ((simp only [wk, wkL, and_true]; repeat' (first | rfl | exact True.intro | apply And.intro)); done))
theorem addr_no_ok (q0 q1 q2 q3 q4 q5 q6 q7 q8 q9 q10 q11 q12 q13 q14 q15 at' : Int) (fk fc fz fs fo : Bool) (op w dst src base disp imm cc : Int) (ho : op ≤ 127) (hm : mayX op w dst src base disp imm cc = false) : Ret Tryz.prog 10 ([.agg [.int .u64 q0, .int .u64 q1, .int .u64 q2, .int .u64 q3, .int .u64 q4, .int .u64 q5, .int .u64 q6, .int .u64 q7, .int .u64 q8, .int .u64 q9, .int .u64 q10, .int .u64 q11, .int .u64 q12, .int .u64 q13, .int .u64 q14, .int .u64 q15, .bool fk, .bool fc, .bool fz, .bool fs, .bool fo, .int .u64 (at')], xD op w dst src base disp imm cc]) (.tup [.int .u64 0, .int .i64 0, .bool false]) := by
 have c0 := @mayX_ok op w dst src base disp imm cc ho
 exact (o10 (d := .tup [.int .u64 0, .int .i64 0, .bool false]) [.ret _ _ _ c0, tC (nt hm)] (by kernel_rfl)).to (by ((simp only [wk, wkL, and_true]; repeat' (first | rfl | exact True.intro | apply And.intro)); done))
theorem addr_else_ok (q0 q1 q2 q3 q4 q5 q6 q7 q8 q9 q10 q11 q12 q13 q14 q15 at' : Int) (fk fc fz fs fo : Bool) (op w dst src base disp imm cc : Int) (ho : op ≤ 127) (n1 : (op == 26) = false) (n2 : (op == 27) = false) (n3 : (op == 30) = false) (hm : mayX op w dst src base disp imm cc = true) : Ret Tryz.prog 10 ([.agg [.int .u64 q0, .int .u64 q1, .int .u64 q2, .int .u64 q3, .int .u64 q4, .int .u64 q5, .int .u64 q6, .int .u64 q7, .int .u64 q8, .int .u64 q9, .int .u64 q10, .int .u64 q11, .int .u64 q12, .int .u64 q13, .int .u64 q14, .int .u64 q15, .bool fk, .bool fc, .bool fz, .bool fs, .bool fo, .int .u64 (at')], xD op w dst src base disp imm cc]) (.tup [.int .u64 0, .int .i64 0, .bool false]) := by
 have c0 := @mayX_ok op w dst src base disp imm cc ho
 exact (o10 (d := .tup [.int .u64 0, .int .i64 0, .bool false]) [.ret _ _ _ c0, tC (nt hm), tC n3, tC n1, tC n2] (by kernel_rfl)).to (by ((simp only [wk, wkL, and_true]; repeat' (first | rfl | exact True.intro | apply And.intro)); done))
theorem stored_27_ok (q0 q1 q2 q3 q4 q5 q6 q7 q8 q9 q10 q11 q12 q13 q14 q15 at' : Int) (fk fc fz fs fo : Bool) (w dst src base disp imm cc : Int) (d0 : 0 ≤ dst) (d1 : dst ≤ 15) (s0 : 0 ≤ src) (s1 : src ≤ 15) (b0 : 0 ≤ base) (b1 : base ≤ 15) (w0 : widthM w = true) (hm : mayX 27 w dst src base disp imm cc = true) : Ret Tryz.prog 18 ([.agg [.int .u64 q0, .int .u64 q1, .int .u64 q2, .int .u64 q3, .int .u64 q4, .int .u64 q5, .int .u64 q6, .int .u64 q7, .int .u64 q8, .int .u64 q9, .int .u64 q10, .int .u64 q11, .int .u64 q12, .int .u64 q13, .int .u64 q14, .int .u64 q15, .bool fk, .bool fc, .bool fz, .bool fs, .bool fo, .int .u64 (at')], xD 27 w dst src base disp imm cc]) (.int .u64 (cutM (rg [q0, q1, q2, q3, q4, q5, q6, q7, q8, q9, q10, q11, q12, q13, q14, q15] src) w)) := by
 have c0 := @mayX_ok 27 w dst src base disp imm cc (by decide)
 have c1 := @cut_ok (rg [q0, q1, q2, q3, q4, q5, q6, q7, q8, q9, q10, q11, q12, q13, q14, q15] src) w
 exact (o18 (d := .int .u64 (cutM (rg [q0, q1, q2, q3, q4, q5, q6, q7, q8, q9, q10, q11, q12, q13, q14, q15] src) w)) [tT, tT, .ret _ _ _ c0, tT, tF, tC (nt hm), .tst (decide (0 ≤ src ∧ src < (↑(16 : Nat) : Int))) true (by (simp only [sl2] at *; omega)), .get _ _ _ (@get_reg q0 q1 q2 q3 q4 q5 q6 q7 q8 q9 q10 q11 q12 q13 q14 q15 src ([.bool fk, .bool fc, .bool fz, .bool fs, .bool fo, .int .u64 at']) s0 s1), .ret _ _ _ c1] (by kernel_rfl)).to (by ((simp only [wk, wkL, and_true]; repeat' (first | rfl | exact True.intro | apply And.intro)); done))
theorem stored_no_ok (q0 q1 q2 q3 q4 q5 q6 q7 q8 q9 q10 q11 q12 q13 q14 q15 at' : Int) (fk fc fz fs fo : Bool) (op w dst src base disp imm cc : Int) (ho : op ≤ 127) (hm : mayX op w dst src base disp imm cc = false) : Ret Tryz.prog 18 ([.agg [.int .u64 q0, .int .u64 q1, .int .u64 q2, .int .u64 q3, .int .u64 q4, .int .u64 q5, .int .u64 q6, .int .u64 q7, .int .u64 q8, .int .u64 q9, .int .u64 q10, .int .u64 q11, .int .u64 q12, .int .u64 q13, .int .u64 q14, .int .u64 q15, .bool fk, .bool fc, .bool fz, .bool fs, .bool fo, .int .u64 (at')], xD op w dst src base disp imm cc]) (.int .u64 0) := by
 by_cases h0 : op = 27
 ·subst h0
  have c1 := @mayX_ok 27 w dst src base disp imm cc ho
  exact (o18 (d := .int .u64 0) [tT, tT, .ret _ _ _ c1, tT, tF, tC (nt hm)] (by kernel_rfl)).to (by ((simp only [wk, wkL, and_true]; repeat' (first | rfl | exact True.intro | apply And.intro)); done))
 exact (o18 (d := .int .u64 0) (List.replicate 3 (tC (eF (nt (neOf h0)))) ++ [tC (nt (neOf h0)), tT]) (by kernel_rfl)).to (by ((simp only [wk, wkL, and_true]; repeat' (first | rfl | exact True.intro | apply And.intro)); done))
theorem stored_else_ok (q0 q1 q2 q3 q4 q5 q6 q7 q8 q9 q10 q11 q12 q13 q14 q15 at' : Int) (fk fc fz fs fo : Bool) (op w dst src base disp imm cc : Int) (ho : op ≤ 127) (n2 : (op == 27) = false) : Ret Tryz.prog 18 ([.agg [.int .u64 q0, .int .u64 q1, .int .u64 q2, .int .u64 q3, .int .u64 q4, .int .u64 q5, .int .u64 q6, .int .u64 q7, .int .u64 q8, .int .u64 q9, .int .u64 q10, .int .u64 q11, .int .u64 q12, .int .u64 q13, .int .u64 q14, .int .u64 q15, .bool fk, .bool fc, .bool fz, .bool fs, .bool fo, .int .u64 (at')], xD op w dst src base disp imm cc]) (.int .u64 0) := by
 exact (o18 (d := .int .u64 0) (List.replicate 3 (tC (eF (nt n2))) ++ [tC (nt n2), tT]) (by kernel_rfl)).to (by ((simp only [wk, wkL, and_true]; repeat' (first | rfl | exact True.intro | apply And.intro)); done))
theorem raddr_26_ok (q0 q1 q2 q3 q4 q5 q6 q7 q8 q9 q10 q11 q12 q13 q14 q15 at' : Int) (fk fc fz fs fo : Bool) (w dst src base disp imm cc : Int) (d0 : 0 ≤ dst) (d1 : dst ≤ 15) (s0 : 0 ≤ src) (s1 : src ≤ 15) (b0 : 0 ≤ base) (b1 : base ≤ 15) (w0 : 0 ≤ w) (w1 : w ≤ 64) (hm : mayX 26 w dst src base disp imm cc = true) : Ret Tryz.prog 11 ([.agg [.int .u64 q0, .int .u64 q1, .int .u64 q2, .int .u64 q3, .int .u64 q4, .int .u64 q5, .int .u64 q6, .int .u64 q7, .int .u64 q8, .int .u64 q9, .int .u64 q10, .int .u64 q11, .int .u64 q12, .int .u64 q13, .int .u64 q14, .int .u64 q15, .bool fk, .bool fc, .bool fz, .bool fs, .bool fo, .int .u64 (at')], xD 26 w dst src base disp imm cc]) (.tup [.int .u64 (u64 (rg [q0, q1, q2, q3, q4, q5, q6, q7, q8, q9, q10, q11, q12, q13, q14, q15] base + u64 disp)), .int .i64 (w / 8), .bool true]) := by
 have c0 := @rmayX_ok 26 w dst src base disp imm cc
 exact (o11 (d := .tup [.int .u64 (IntKind.wrap IntKind.u64 (rg [q0, q1, q2, q3, q4, q5, q6, q7, q8, q9, q10, q11, q12, q13, q14, q15] base + IntKind.wrap IntKind.u64 disp)), .int .i64 (IntKind.wrap IntKind.i64 (Int.tdiv (IntKind.wrap IntKind.i64 w) 8)), .bool true]) [.ret _ _ _ c0, tC (nt hm), tT, tT, .tst (decide (0 ≤ base ∧ base < (↑(16 : Nat) : Int))) true (by (simp only [sl2] at *; omega)), .get _ _ _ (@get_reg q0 q1 q2 q3 q4 q5 q6 q7 q8 q9 q10 q11 q12 q13 q14 q15 base ([.bool fk, .bool fc, .bool fz, .bool fs, .bool fo, .int .u64 at']) b0 b1)] (by kernel_rfl)).to (by simp only [wk, wkL, and_true, D.int.injEq, true_and]; refine ⟨rfl, ?_⟩; (rw [show IntKind.i64.wrap w = w by rw [w_i64]; omega, Int.tdiv_eq_ediv_of_nonneg w0, w_i64]; omega))
theorem raddr_27_ok (q0 q1 q2 q3 q4 q5 q6 q7 q8 q9 q10 q11 q12 q13 q14 q15 at' : Int) (fk fc fz fs fo : Bool) (w dst src base disp imm cc : Int) (d0 : 0 ≤ dst) (d1 : dst ≤ 15) (s0 : 0 ≤ src) (s1 : src ≤ 15) (b0 : 0 ≤ base) (b1 : base ≤ 15) (w0 : 0 ≤ w) (w1 : w ≤ 64) (hm : mayX 27 w dst src base disp imm cc = true) : Ret Tryz.prog 11 ([.agg [.int .u64 q0, .int .u64 q1, .int .u64 q2, .int .u64 q3, .int .u64 q4, .int .u64 q5, .int .u64 q6, .int .u64 q7, .int .u64 q8, .int .u64 q9, .int .u64 q10, .int .u64 q11, .int .u64 q12, .int .u64 q13, .int .u64 q14, .int .u64 q15, .bool fk, .bool fc, .bool fz, .bool fs, .bool fo, .int .u64 (at')], xD 27 w dst src base disp imm cc]) (.tup [.int .u64 (u64 (rg [q0, q1, q2, q3, q4, q5, q6, q7, q8, q9, q10, q11, q12, q13, q14, q15] base + u64 disp)), .int .i64 (w / 8), .bool true]) := by
 have c0 := @rmayX_ok 27 w dst src base disp imm cc
 exact (o11 (d := .tup [.int .u64 (IntKind.wrap IntKind.u64 (rg [q0, q1, q2, q3, q4, q5, q6, q7, q8, q9, q10, q11, q12, q13, q14, q15] base + IntKind.wrap IntKind.u64 disp)), .int .i64 (IntKind.wrap IntKind.i64 (Int.tdiv (IntKind.wrap IntKind.i64 w) 8)), .bool true]) [.ret _ _ _ c0, tC (nt hm), tF, tT, .tst (decide (0 ≤ base ∧ base < (↑(16 : Nat) : Int))) true (by (simp only [sl2] at *; omega)), .get _ _ _ (@get_reg q0 q1 q2 q3 q4 q5 q6 q7 q8 q9 q10 q11 q12 q13 q14 q15 base ([.bool fk, .bool fc, .bool fz, .bool fs, .bool fo, .int .u64 at']) b0 b1)] (by kernel_rfl)).to (by simp only [wk, wkL, and_true, D.int.injEq, true_and]; refine ⟨rfl, ?_⟩; (rw [show IntKind.i64.wrap w = w by rw [w_i64]; omega, Int.tdiv_eq_ediv_of_nonneg w0, w_i64]; omega))
theorem raddr_30_ok (q0 q1 q2 q3 q4 q5 q6 q7 q8 q9 q10 q11 q12 q13 q14 q15 at' : Int) (fk fc fz fs fo : Bool) (w dst src base disp imm cc : Int) (d0 : 0 ≤ dst) (d1 : dst ≤ 15) (s0 : 0 ≤ src) (s1 : src ≤ 15) (b0 : 0 ≤ base) (b1 : base ≤ 15) (hm : mayX 30 w dst src base disp imm cc = true) : Ret Tryz.prog 11 ([.agg [.int .u64 q0, .int .u64 q1, .int .u64 q2, .int .u64 q3, .int .u64 q4, .int .u64 q5, .int .u64 q6, .int .u64 q7, .int .u64 q8, .int .u64 q9, .int .u64 q10, .int .u64 q11, .int .u64 q12, .int .u64 q13, .int .u64 q14, .int .u64 q15, .bool fk, .bool fc, .bool fz, .bool fs, .bool fo, .int .u64 (at')], xD 30 w dst src base disp imm cc]) (.tup [.int .u64 q4, .int .i64 8, .bool true]) := by
 have c0 := @rmayX_ok 30 w dst src base disp imm cc
 exact (o11 (d := .tup [.int .u64 q4, .int .i64 8, .bool true]) [.ret _ _ _ c0, tC (nt hm), tF, tF, tT] (by kernel_rfl)).to (by ((simp only [wk, wkL, and_true]; repeat' (first | rfl | exact True.intro | apply And.intro)); done))
theorem raddr_no_ok (q0 q1 q2 q3 q4 q5 q6 q7 q8 q9 q10 q11 q12 q13 q14 q15 at' : Int) (fk fc fz fs fo : Bool) (op w dst src base disp imm cc : Int) (ho : op ≤ 127) (hm : mayX op w dst src base disp imm cc = false) : Ret Tryz.prog 11 ([.agg [.int .u64 q0, .int .u64 q1, .int .u64 q2, .int .u64 q3, .int .u64 q4, .int .u64 q5, .int .u64 q6, .int .u64 q7, .int .u64 q8, .int .u64 q9, .int .u64 q10, .int .u64 q11, .int .u64 q12, .int .u64 q13, .int .u64 q14, .int .u64 q15, .bool fk, .bool fc, .bool fz, .bool fs, .bool fo, .int .u64 (at')], xD op w dst src base disp imm cc]) (.tup [.int .u64 0, .int .i64 0, .bool false]) := by
 have c0 := @rmayX_ok op w dst src base disp imm cc
 exact (o11 (d := .tup [.int .u64 0, .int .i64 0, .bool false]) [.ret _ _ _ c0, tC (nt hm)] (by kernel_rfl)).to (by ((simp only [wk, wkL, and_true]; repeat' (first | rfl | exact True.intro | apply And.intro)); done))
theorem raddr_else_ok (q0 q1 q2 q3 q4 q5 q6 q7 q8 q9 q10 q11 q12 q13 q14 q15 at' : Int) (fk fc fz fs fo : Bool) (op w dst src base disp imm cc : Int) (ho : op ≤ 127) (n1 : (op == 26) = false) (n2 : (op == 27) = false) (n3 : (op == 30) = false) (hm : mayX op w dst src base disp imm cc = true) : Ret Tryz.prog 11 ([.agg [.int .u64 q0, .int .u64 q1, .int .u64 q2, .int .u64 q3, .int .u64 q4, .int .u64 q5, .int .u64 q6, .int .u64 q7, .int .u64 q8, .int .u64 q9, .int .u64 q10, .int .u64 q11, .int .u64 q12, .int .u64 q13, .int .u64 q14, .int .u64 q15, .bool fk, .bool fc, .bool fz, .bool fs, .bool fo, .int .u64 (at')], xD op w dst src base disp imm cc]) (.tup [.int .u64 0, .int .i64 0, .bool false]) := by
 have c0 := @rmayX_ok op w dst src base disp imm cc
 exact (o11 (d := .tup [.int .u64 0, .int .i64 0, .bool false]) [.ret _ _ _ c0, tC (nt hm), tC n1, tC n2, tC n3] (by kernel_rfl)).to (by ((simp only [wk, wkL, and_true]; repeat' (first | rfl | exact True.intro | apply And.intro)); done))
theorem rstored_27_ok (q0 q1 q2 q3 q4 q5 q6 q7 q8 q9 q10 q11 q12 q13 q14 q15 at' : Int) (fk fc fz fs fo : Bool) (w dst src base disp imm cc : Int) (d0 : 0 ≤ dst) (d1 : dst ≤ 15) (s0 : 0 ≤ src) (s1 : src ≤ 15) (b0 : 0 ≤ base) (b1 : base ≤ 15) (w0 : widthM w = true) (hm : mayX 27 w dst src base disp imm cc = true) : Ret Tryz.prog 19 ([.agg [.int .u64 q0, .int .u64 q1, .int .u64 q2, .int .u64 q3, .int .u64 q4, .int .u64 q5, .int .u64 q6, .int .u64 q7, .int .u64 q8, .int .u64 q9, .int .u64 q10, .int .u64 q11, .int .u64 q12, .int .u64 q13, .int .u64 q14, .int .u64 q15, .bool fk, .bool fc, .bool fz, .bool fs, .bool fo, .int .u64 (at')], xD 27 w dst src base disp imm cc]) (.int .u64 (cutM (rg [q0, q1, q2, q3, q4, q5, q6, q7, q8, q9, q10, q11, q12, q13, q14, q15] src) w)) := by
 have c0 := @rmayX_ok 27 w dst src base disp imm cc
 have c1 := @rcut_ok (rg [q0, q1, q2, q3, q4, q5, q6, q7, q8, q9, q10, q11, q12, q13, q14, q15] src) w w0
 exact (o19 (d := .int .u64 (cutM (rg [q0, q1, q2, q3, q4, q5, q6, q7, q8, q9, q10, q11, q12, q13, q14, q15] src) w)) ([.ret _ _ _ c0] ++ List.replicate 3 (tC (eF (nt hm))) ++ [tC (nt hm), tF, .tst (decide (0 ≤ src ∧ src < (↑(16 : Nat) : Int))) true (by (simp only [sl2] at *; omega)), .get _ _ _ (@get_reg q0 q1 q2 q3 q4 q5 q6 q7 q8 q9 q10 q11 q12 q13 q14 q15 src ([.bool fk, .bool fc, .bool fz, .bool fs, .bool fo, .int .u64 at']) s0 s1), .ret _ _ _ c1]) (by kernel_rfl)).to (by ((simp only [wk, wkL, and_true]; repeat' (first | rfl | exact True.intro | apply And.intro)); done))
theorem rstored_no_ok (q0 q1 q2 q3 q4 q5 q6 q7 q8 q9 q10 q11 q12 q13 q14 q15 at' : Int) (fk fc fz fs fo : Bool) (op w dst src base disp imm cc : Int) (ho : op ≤ 127) (hm : mayX op w dst src base disp imm cc = false) : Ret Tryz.prog 19 ([.agg [.int .u64 q0, .int .u64 q1, .int .u64 q2, .int .u64 q3, .int .u64 q4, .int .u64 q5, .int .u64 q6, .int .u64 q7, .int .u64 q8, .int .u64 q9, .int .u64 q10, .int .u64 q11, .int .u64 q12, .int .u64 q13, .int .u64 q14, .int .u64 q15, .bool fk, .bool fc, .bool fz, .bool fs, .bool fo, .int .u64 (at')], xD op w dst src base disp imm cc]) (.int .u64 0) := by
 have c0 := @rmayX_ok op w dst src base disp imm cc
 exact (o19 (d := .int .u64 0) ([.ret _ _ _ c0] ++ List.replicate 3 (tC (eF (nt hm))) ++ [tC (nt hm), tT]) (by kernel_rfl)).to (by ((simp only [wk, wkL, and_true]; repeat' (first | rfl | exact True.intro | apply And.intro)); done))
theorem rstored_else_ok (q0 q1 q2 q3 q4 q5 q6 q7 q8 q9 q10 q11 q12 q13 q14 q15 at' : Int) (fk fc fz fs fo : Bool) (op w dst src base disp imm cc : Int) (ho : op ≤ 127) (n2 : (op == 27) = false) : Ret Tryz.prog 19 ([.agg [.int .u64 q0, .int .u64 q1, .int .u64 q2, .int .u64 q3, .int .u64 q4, .int .u64 q5, .int .u64 q6, .int .u64 q7, .int .u64 q8, .int .u64 q9, .int .u64 q10, .int .u64 q11, .int .u64 q12, .int .u64 q13, .int .u64 q14, .int .u64 q15, .bool fk, .bool fc, .bool fz, .bool fs, .bool fo, .int .u64 (at')], xD op w dst src base disp imm cc]) (.int .u64 0) := by
 have c0 := @rmayX_ok op w dst src base disp imm cc
 rcases bft (mayX op w dst src base disp imm cc) with h1 | h1
 ·exact (o19 (d := .int .u64 0) ([.ret _ _ _ c0] ++ List.replicate 3 (tC (eF (nt h1))) ++ [tC (nt h1), tC (nt n2)]) (by kernel_rfl)).to (by ((simp only [wk, wkL, and_true]; repeat' (first | rfl | exact True.intro | apply And.intro)); done))
 exact (o19 (d := .int .u64 0) ([.ret _ _ _ c0] ++ List.replicate 3 (tC (eF (nt h1))) ++ [tC (nt h1), tT]) (by kernel_rfl)).to (by ((simp only [wk, wkL, and_true]; repeat' (first | rfl | exact True.intro | apply And.intro)); done))
theorem num15_ok (q0 q1 q2 q3 q4 q5 q6 q7 q8 q9 q10 q11 q12 q13 q14 q15 at' : Int) (fk fc fz fs fo : Bool)  : Ret Tryz.prog 12 ([.agg [.int .u64 q0, .int .u64 q1, .int .u64 q2, .int .u64 q3, .int .u64 q4, .int .u64 q5, .int .u64 q6, .int .u64 q7, .int .u64 q8, .int .u64 q9, .int .u64 q10, .int .u64 q11, .int .u64 q12, .int .u64 q13, .int .u64 q14, .int .u64 q15, .bool fk, .bool fc, .bool fz, .bool fs, .bool fo, .int .u64 (at')]]) (.tup [.int .i64 (numV q0), .bool (numB q0)]) := by
 rcases bft (decide (q0 < 16)) with h0 | h0
 ·exact (o12 (d := .tup [.int .i64 (IntKind.wrap IntKind.i64 q0), .bool true]) [tC (leL 16 h0)] (by kernel_rfl)).to (by exact num_lo h0)
 exact (o12 (d := .tup [.int .i64 0, .bool false]) [tC (leL 16 h0)] (by kernel_rfl)).to (by exact num_hi h0)
theorem args_0_ok (q1 q2 q3 q4 q5 q6 q7 q8 q9 q10 q11 q12 q13 q14 q15 at' : Int) (fk fc fz fs fo : Bool)  : Ret Tryz.prog 21 ([.agg [.int .u64 (0), .int .u64 q1, .int .u64 q2, .int .u64 q3, .int .u64 q4, .int .u64 q5, .int .u64 q6, .int .u64 q7, .int .u64 q8, .int .u64 q9, .int .u64 q10, .int .u64 q11, .int .u64 q12, .int .u64 q13, .int .u64 q14, .int .u64 q15, .bool fk, .bool fc, .bool fz, .bool fs, .bool fo, .int .u64 (at')]]) (.lst .no 1 []) := by
 have c0 := @num15_ok 0 q1 q2 q3 q4 q5 q6 q7 q8 q9 q10 q11 q12 q13 q14 q15 at' fk fc fz fs fo
 exact (o21 (d := .lst .tight 0 []) [.ret _ _ _ c0, tF, .inl, .inl, tT, tT, tT, tT, tF, tT, .go 64, tF] (by kernel_rfl)).to (by simp [wk, wkL, wkO])
theorem args_1_ok (q1 q2 q3 q4 q5 q6 q7 q8 q9 q10 q11 q12 q13 q14 q15 at' : Int) (fk fc fz fs fo : Bool)  : Ret Tryz.prog 21 ([.agg [.int .u64 (1), .int .u64 q1, .int .u64 q2, .int .u64 q3, .int .u64 q4, .int .u64 q5, .int .u64 q6, .int .u64 q7, .int .u64 q8, .int .u64 q9, .int .u64 q10, .int .u64 q11, .int .u64 q12, .int .u64 q13, .int .u64 q14, .int .u64 q15, .bool fk, .bool fc, .bool fz, .bool fs, .bool fo, .int .u64 (at')]]) (.lst .no 1 [.int .u64 q7]) := by
 have c0 := @num15_ok 1 q1 q2 q3 q4 q5 q6 q7 q8 q9 q10 q11 q12 q13 q14 q15 at' fk fc fz fs fo
 exact (o21 (d := .lst (.fresh 1) 1 [.int .u64 q7]) [.ret _ _ _ c0, tF, .inl, .inl, tT, tT, tT, tT, tF, tT, .go 64, tT, tT, .get ([.int .i8 7]) 0 (.int .i8 7) rfl, tT, .get ([.int .u64 1, .int .u64 q1, .int .u64 q2, .int .u64 q3, .int .u64 q4, .int .u64 q5, .int .u64 q6, .int .u64 q7, .int .u64 q8, .int .u64 q9, .int .u64 q10, .int .u64 q11, .int .u64 q12, .int .u64 q13, .int .u64 q14, .int .u64 q15, .bool fk, .bool fc, .bool fz, .bool fs, .bool fo, .int .u64 at']) 7 (.int .u64 q7) rfl, .len 1 2147483648 (by decide), tF] (by kernel_rfl)).to (by simp [wk, wkL, wkO])
theorem args_2_ok (q1 q2 q3 q4 q5 q6 q7 q8 q9 q10 q11 q12 q13 q14 q15 at' : Int) (fk fc fz fs fo : Bool)  : Ret Tryz.prog 21 ([.agg [.int .u64 (2), .int .u64 q1, .int .u64 q2, .int .u64 q3, .int .u64 q4, .int .u64 q5, .int .u64 q6, .int .u64 q7, .int .u64 q8, .int .u64 q9, .int .u64 q10, .int .u64 q11, .int .u64 q12, .int .u64 q13, .int .u64 q14, .int .u64 q15, .bool fk, .bool fc, .bool fz, .bool fs, .bool fo, .int .u64 (at')]]) (.lst .no 1 [.int .u64 q7, .int .u64 q6]) := by
 have c0 := @num15_ok 2 q1 q2 q3 q4 q5 q6 q7 q8 q9 q10 q11 q12 q13 q14 q15 at' fk fc fz fs fo
 exact (o21 (d := .lst (.fresh 1) 1 [.int .u64 q7, .int .u64 q6]) [.ret _ _ _ c0, tF, .inl, .inl, tT, tT, tT, tT, tF, tT, .go 64, tT, tT, .get ([.int .i8 7, .int .i8 6]) 0 (.int .i8 7) rfl, tT, .get ([.int .u64 2, .int .u64 q1, .int .u64 q2, .int .u64 q3, .int .u64 q4, .int .u64 q5, .int .u64 q6, .int .u64 q7, .int .u64 q8, .int .u64 q9, .int .u64 q10, .int .u64 q11, .int .u64 q12, .int .u64 q13, .int .u64 q14, .int .u64 q15, .bool fk, .bool fc, .bool fz, .bool fs, .bool fo, .int .u64 at']) 7 (.int .u64 q7) rfl, .len 1 2147483648 (by decide), tT, tT, .get ([.int .i8 7, .int .i8 6]) 1 (.int .i8 6) rfl, tT, .get ([.int .u64 2, .int .u64 q1, .int .u64 q2, .int .u64 q3, .int .u64 q4, .int .u64 q5, .int .u64 q6, .int .u64 q7, .int .u64 q8, .int .u64 q9, .int .u64 q10, .int .u64 q11, .int .u64 q12, .int .u64 q13, .int .u64 q14, .int .u64 q15, .bool fk, .bool fc, .bool fz, .bool fs, .bool fo, .int .u64 at']) 6 (.int .u64 q6) rfl, .len 2 2147483648 (by decide), tF] (by kernel_rfl)).to (by simp [wk, wkL, wkO])
theorem args_3_ok (q1 q2 q3 q4 q5 q6 q7 q8 q9 q10 q11 q12 q13 q14 q15 at' : Int) (fk fc fz fs fo : Bool)  : Ret Tryz.prog 21 ([.agg [.int .u64 (3), .int .u64 q1, .int .u64 q2, .int .u64 q3, .int .u64 q4, .int .u64 q5, .int .u64 q6, .int .u64 q7, .int .u64 q8, .int .u64 q9, .int .u64 q10, .int .u64 q11, .int .u64 q12, .int .u64 q13, .int .u64 q14, .int .u64 q15, .bool fk, .bool fc, .bool fz, .bool fs, .bool fo, .int .u64 (at')]]) (.lst .no 1 [.int .u64 q7, .int .u64 q6, .int .u64 q2]) := by
 have c0 := @num15_ok 3 q1 q2 q3 q4 q5 q6 q7 q8 q9 q10 q11 q12 q13 q14 q15 at' fk fc fz fs fo
 exact (o21 (d := .lst (.fresh 1) 1 [.int .u64 q7, .int .u64 q6, .int .u64 q2]) [.ret _ _ _ c0, tF, .inl, .inl, tT, tT, tT, tT, tF, tT, .go 64, tT, tT, .get ([.int .i8 7, .int .i8 6, .int .i8 2]) 0 (.int .i8 7) rfl, tT, .get ([.int .u64 3, .int .u64 q1, .int .u64 q2, .int .u64 q3, .int .u64 q4, .int .u64 q5, .int .u64 q6, .int .u64 q7, .int .u64 q8, .int .u64 q9, .int .u64 q10, .int .u64 q11, .int .u64 q12, .int .u64 q13, .int .u64 q14, .int .u64 q15, .bool fk, .bool fc, .bool fz, .bool fs, .bool fo, .int .u64 at']) 7 (.int .u64 q7) rfl, .len 1 2147483648 (by decide), tT, tT, .get ([.int .i8 7, .int .i8 6, .int .i8 2]) 1 (.int .i8 6) rfl, tT, .get ([.int .u64 3, .int .u64 q1, .int .u64 q2, .int .u64 q3, .int .u64 q4, .int .u64 q5, .int .u64 q6, .int .u64 q7, .int .u64 q8, .int .u64 q9, .int .u64 q10, .int .u64 q11, .int .u64 q12, .int .u64 q13, .int .u64 q14, .int .u64 q15, .bool fk, .bool fc, .bool fz, .bool fs, .bool fo, .int .u64 at']) 6 (.int .u64 q6) rfl, .len 2 2147483648 (by decide), tT, tT, .get ([.int .i8 7, .int .i8 6, .int .i8 2]) 2 (.int .i8 2) rfl, tT, .get ([.int .u64 3, .int .u64 q1, .int .u64 q2, .int .u64 q3, .int .u64 q4, .int .u64 q5, .int .u64 q6, .int .u64 q7, .int .u64 q8, .int .u64 q9, .int .u64 q10, .int .u64 q11, .int .u64 q12, .int .u64 q13, .int .u64 q14, .int .u64 q15, .bool fk, .bool fc, .bool fz, .bool fs, .bool fo, .int .u64 at']) 2 (.int .u64 q2) rfl, .len 3 2147483648 (by decide), tF] (by kernel_rfl)).to (by simp [wk, wkL, wkO])
theorem args_4_ok (q1 q2 q3 q4 q5 q6 q7 q8 q9 q10 q11 q12 q13 q14 q15 at' : Int) (fk fc fz fs fo : Bool)  : Ret Tryz.prog 21 ([.agg [.int .u64 (4), .int .u64 q1, .int .u64 q2, .int .u64 q3, .int .u64 q4, .int .u64 q5, .int .u64 q6, .int .u64 q7, .int .u64 q8, .int .u64 q9, .int .u64 q10, .int .u64 q11, .int .u64 q12, .int .u64 q13, .int .u64 q14, .int .u64 q15, .bool fk, .bool fc, .bool fz, .bool fs, .bool fo, .int .u64 (at')]]) (.lst .no 1 [.int .u64 q7, .int .u64 q6, .int .u64 q2, .int .u64 q10]) := by
 have c0 := @num15_ok 4 q1 q2 q3 q4 q5 q6 q7 q8 q9 q10 q11 q12 q13 q14 q15 at' fk fc fz fs fo
 exact (o21 (d := .lst (.fresh 1) 1 [.int .u64 q7, .int .u64 q6, .int .u64 q2, .int .u64 q10]) [.ret _ _ _ c0, tF, .inl, .inl, tT, tT, tT, tT, tF, tT, .go 64, tT, tT, .get ([.int .i8 7, .int .i8 6, .int .i8 2, .int .i8 10]) 0 (.int .i8 7) rfl, tT, .get ([.int .u64 4, .int .u64 q1, .int .u64 q2, .int .u64 q3, .int .u64 q4, .int .u64 q5, .int .u64 q6, .int .u64 q7, .int .u64 q8, .int .u64 q9, .int .u64 q10, .int .u64 q11, .int .u64 q12, .int .u64 q13, .int .u64 q14, .int .u64 q15, .bool fk, .bool fc, .bool fz, .bool fs, .bool fo, .int .u64 at']) 7 (.int .u64 q7) rfl, .len 1 2147483648 (by decide), tT, tT, .get ([.int .i8 7, .int .i8 6, .int .i8 2, .int .i8 10]) 1 (.int .i8 6) rfl, tT, .get ([.int .u64 4, .int .u64 q1, .int .u64 q2, .int .u64 q3, .int .u64 q4, .int .u64 q5, .int .u64 q6, .int .u64 q7, .int .u64 q8, .int .u64 q9, .int .u64 q10, .int .u64 q11, .int .u64 q12, .int .u64 q13, .int .u64 q14, .int .u64 q15, .bool fk, .bool fc, .bool fz, .bool fs, .bool fo, .int .u64 at']) 6 (.int .u64 q6) rfl, .len 2 2147483648 (by decide), tT, tT, .get ([.int .i8 7, .int .i8 6, .int .i8 2, .int .i8 10]) 2 (.int .i8 2) rfl, tT, .get ([.int .u64 4, .int .u64 q1, .int .u64 q2, .int .u64 q3, .int .u64 q4, .int .u64 q5, .int .u64 q6, .int .u64 q7, .int .u64 q8, .int .u64 q9, .int .u64 q10, .int .u64 q11, .int .u64 q12, .int .u64 q13, .int .u64 q14, .int .u64 q15, .bool fk, .bool fc, .bool fz, .bool fs, .bool fo, .int .u64 at']) 2 (.int .u64 q2) rfl, .len 3 2147483648 (by decide), tT, tT, .get ([.int .i8 7, .int .i8 6, .int .i8 2, .int .i8 10]) 3 (.int .i8 10) rfl, tT, .get ([.int .u64 4, .int .u64 q1, .int .u64 q2, .int .u64 q3, .int .u64 q4, .int .u64 q5, .int .u64 q6, .int .u64 q7, .int .u64 q8, .int .u64 q9, .int .u64 q10, .int .u64 q11, .int .u64 q12, .int .u64 q13, .int .u64 q14, .int .u64 q15, .bool fk, .bool fc, .bool fz, .bool fs, .bool fo, .int .u64 at']) 10 (.int .u64 q10) rfl, .len 4 2147483648 (by decide), tF] (by kernel_rfl)).to (by simp [wk, wkL, wkO])
theorem args_5_ok (q1 q2 q3 q4 q5 q6 q7 q8 q9 q10 q11 q12 q13 q14 q15 at' : Int) (fk fc fz fs fo : Bool)  : Ret Tryz.prog 21 ([.agg [.int .u64 (5), .int .u64 q1, .int .u64 q2, .int .u64 q3, .int .u64 q4, .int .u64 q5, .int .u64 q6, .int .u64 q7, .int .u64 q8, .int .u64 q9, .int .u64 q10, .int .u64 q11, .int .u64 q12, .int .u64 q13, .int .u64 q14, .int .u64 q15, .bool fk, .bool fc, .bool fz, .bool fs, .bool fo, .int .u64 (at')]]) (.lst .no 1 [.int .u64 q7, .int .u64 q6, .int .u64 q2, .int .u64 q10, .int .u64 q8]) := by
 have c0 := @num15_ok 5 q1 q2 q3 q4 q5 q6 q7 q8 q9 q10 q11 q12 q13 q14 q15 at' fk fc fz fs fo
 exact (o21 (d := .lst (.fresh 1) 1 [.int .u64 q7, .int .u64 q6, .int .u64 q2, .int .u64 q10, .int .u64 q8]) [.ret _ _ _ c0, tF, .inl, .inl, tT, tT, tT, tT, tF, tT, .go 64, tT, tT, .get ([.int .i8 7, .int .i8 6, .int .i8 2, .int .i8 10, .int .i8 8]) 0 (.int .i8 7) rfl, tT, .get ([.int .u64 5, .int .u64 q1, .int .u64 q2, .int .u64 q3, .int .u64 q4, .int .u64 q5, .int .u64 q6, .int .u64 q7, .int .u64 q8, .int .u64 q9, .int .u64 q10, .int .u64 q11, .int .u64 q12, .int .u64 q13, .int .u64 q14, .int .u64 q15, .bool fk, .bool fc, .bool fz, .bool fs, .bool fo, .int .u64 at']) 7 (.int .u64 q7) rfl, .len 1 2147483648 (by decide), tT, tT, .get ([.int .i8 7, .int .i8 6, .int .i8 2, .int .i8 10, .int .i8 8]) 1 (.int .i8 6) rfl, tT, .get ([.int .u64 5, .int .u64 q1, .int .u64 q2, .int .u64 q3, .int .u64 q4, .int .u64 q5, .int .u64 q6, .int .u64 q7, .int .u64 q8, .int .u64 q9, .int .u64 q10, .int .u64 q11, .int .u64 q12, .int .u64 q13, .int .u64 q14, .int .u64 q15, .bool fk, .bool fc, .bool fz, .bool fs, .bool fo, .int .u64 at']) 6 (.int .u64 q6) rfl, .len 2 2147483648 (by decide), tT, tT, .get ([.int .i8 7, .int .i8 6, .int .i8 2, .int .i8 10, .int .i8 8]) 2 (.int .i8 2) rfl, tT, .get ([.int .u64 5, .int .u64 q1, .int .u64 q2, .int .u64 q3, .int .u64 q4, .int .u64 q5, .int .u64 q6, .int .u64 q7, .int .u64 q8, .int .u64 q9, .int .u64 q10, .int .u64 q11, .int .u64 q12, .int .u64 q13, .int .u64 q14, .int .u64 q15, .bool fk, .bool fc, .bool fz, .bool fs, .bool fo, .int .u64 at']) 2 (.int .u64 q2) rfl, .len 3 2147483648 (by decide), tT, tT, .get ([.int .i8 7, .int .i8 6, .int .i8 2, .int .i8 10, .int .i8 8]) 3 (.int .i8 10) rfl, tT, .get ([.int .u64 5, .int .u64 q1, .int .u64 q2, .int .u64 q3, .int .u64 q4, .int .u64 q5, .int .u64 q6, .int .u64 q7, .int .u64 q8, .int .u64 q9, .int .u64 q10, .int .u64 q11, .int .u64 q12, .int .u64 q13, .int .u64 q14, .int .u64 q15, .bool fk, .bool fc, .bool fz, .bool fs, .bool fo, .int .u64 at']) 10 (.int .u64 q10) rfl, .len 4 2147483648 (by decide), tT, tT, .get ([.int .i8 7, .int .i8 6, .int .i8 2, .int .i8 10, .int .i8 8]) 4 (.int .i8 8) rfl, tT, .get ([.int .u64 5, .int .u64 q1, .int .u64 q2, .int .u64 q3, .int .u64 q4, .int .u64 q5, .int .u64 q6, .int .u64 q7, .int .u64 q8, .int .u64 q9, .int .u64 q10, .int .u64 q11, .int .u64 q12, .int .u64 q13, .int .u64 q14, .int .u64 q15, .bool fk, .bool fc, .bool fz, .bool fs, .bool fo, .int .u64 at']) 8 (.int .u64 q8) rfl, .len 5 2147483648 (by decide), tF] (by kernel_rfl)).to (by simp [wk, wkL, wkO])
theorem args_6_ok (q1 q2 q3 q4 q5 q6 q7 q8 q9 q10 q11 q12 q13 q14 q15 at' : Int) (fk fc fz fs fo : Bool)  : Ret Tryz.prog 21 ([.agg [.int .u64 (6), .int .u64 q1, .int .u64 q2, .int .u64 q3, .int .u64 q4, .int .u64 q5, .int .u64 q6, .int .u64 q7, .int .u64 q8, .int .u64 q9, .int .u64 q10, .int .u64 q11, .int .u64 q12, .int .u64 q13, .int .u64 q14, .int .u64 q15, .bool fk, .bool fc, .bool fz, .bool fs, .bool fo, .int .u64 (at')]]) (.lst .no 1 []) := by
 have c0 := @num15_ok 6 q1 q2 q3 q4 q5 q6 q7 q8 q9 q10 q11 q12 q13 q14 q15 at' fk fc fz fs fo
 exact (o21 (d := .lst .tight 0 []) [.ret _ _ _ c0, tF, .inl, .inl, tT, tT, tT, tT, tF, tT, .go 64, tF] (by kernel_rfl)).to (by simp [wk, wkL, wkO])
theorem args_7_ok (q1 q2 q3 q4 q5 q6 q7 q8 q9 q10 q11 q12 q13 q14 q15 at' : Int) (fk fc fz fs fo : Bool)  : Ret Tryz.prog 21 ([.agg [.int .u64 (7), .int .u64 q1, .int .u64 q2, .int .u64 q3, .int .u64 q4, .int .u64 q5, .int .u64 q6, .int .u64 q7, .int .u64 q8, .int .u64 q9, .int .u64 q10, .int .u64 q11, .int .u64 q12, .int .u64 q13, .int .u64 q14, .int .u64 q15, .bool fk, .bool fc, .bool fz, .bool fs, .bool fo, .int .u64 (at')]]) (.lst .no 1 [.int .u64 q7]) := by
 have c0 := @num15_ok 7 q1 q2 q3 q4 q5 q6 q7 q8 q9 q10 q11 q12 q13 q14 q15 at' fk fc fz fs fo
 exact (o21 (d := .lst (.fresh 1) 1 [.int .u64 q7]) [.ret _ _ _ c0, tF, .inl, .inl, tT, tT, tT, tT, tF, tT, .go 64, tT, tT, .get ([.int .i8 7]) 0 (.int .i8 7) rfl, tT, .get ([.int .u64 7, .int .u64 q1, .int .u64 q2, .int .u64 q3, .int .u64 q4, .int .u64 q5, .int .u64 q6, .int .u64 q7, .int .u64 q8, .int .u64 q9, .int .u64 q10, .int .u64 q11, .int .u64 q12, .int .u64 q13, .int .u64 q14, .int .u64 q15, .bool fk, .bool fc, .bool fz, .bool fs, .bool fo, .int .u64 at']) 7 (.int .u64 q7) rfl, .len 1 2147483648 (by decide), tF] (by kernel_rfl)).to (by simp [wk, wkL, wkO])
theorem args_8_ok (q1 q2 q3 q4 q5 q6 q7 q8 q9 q10 q11 q12 q13 q14 q15 at' : Int) (fk fc fz fs fo : Bool)  : Ret Tryz.prog 21 ([.agg [.int .u64 (8), .int .u64 q1, .int .u64 q2, .int .u64 q3, .int .u64 q4, .int .u64 q5, .int .u64 q6, .int .u64 q7, .int .u64 q8, .int .u64 q9, .int .u64 q10, .int .u64 q11, .int .u64 q12, .int .u64 q13, .int .u64 q14, .int .u64 q15, .bool fk, .bool fc, .bool fz, .bool fs, .bool fo, .int .u64 (at')]]) (.lst .no 1 [.int .u64 q7, .int .u64 q6]) := by
 have c0 := @num15_ok 8 q1 q2 q3 q4 q5 q6 q7 q8 q9 q10 q11 q12 q13 q14 q15 at' fk fc fz fs fo
 exact (o21 (d := .lst (.fresh 1) 1 [.int .u64 q7, .int .u64 q6]) [.ret _ _ _ c0, tF, .inl, .inl, tT, tT, tT, tT, tF, tT, .go 64, tT, tT, .get ([.int .i8 7, .int .i8 6]) 0 (.int .i8 7) rfl, tT, .get ([.int .u64 8, .int .u64 q1, .int .u64 q2, .int .u64 q3, .int .u64 q4, .int .u64 q5, .int .u64 q6, .int .u64 q7, .int .u64 q8, .int .u64 q9, .int .u64 q10, .int .u64 q11, .int .u64 q12, .int .u64 q13, .int .u64 q14, .int .u64 q15, .bool fk, .bool fc, .bool fz, .bool fs, .bool fo, .int .u64 at']) 7 (.int .u64 q7) rfl, .len 1 2147483648 (by decide), tT, tT, .get ([.int .i8 7, .int .i8 6]) 1 (.int .i8 6) rfl, tT, .get ([.int .u64 8, .int .u64 q1, .int .u64 q2, .int .u64 q3, .int .u64 q4, .int .u64 q5, .int .u64 q6, .int .u64 q7, .int .u64 q8, .int .u64 q9, .int .u64 q10, .int .u64 q11, .int .u64 q12, .int .u64 q13, .int .u64 q14, .int .u64 q15, .bool fk, .bool fc, .bool fz, .bool fs, .bool fo, .int .u64 at']) 6 (.int .u64 q6) rfl, .len 2 2147483648 (by decide), tF] (by kernel_rfl)).to (by simp [wk, wkL, wkO])
theorem args_9_ok (q1 q2 q3 q4 q5 q6 q7 q8 q9 q10 q11 q12 q13 q14 q15 at' : Int) (fk fc fz fs fo : Bool)  : Ret Tryz.prog 21 ([.agg [.int .u64 (9), .int .u64 q1, .int .u64 q2, .int .u64 q3, .int .u64 q4, .int .u64 q5, .int .u64 q6, .int .u64 q7, .int .u64 q8, .int .u64 q9, .int .u64 q10, .int .u64 q11, .int .u64 q12, .int .u64 q13, .int .u64 q14, .int .u64 q15, .bool fk, .bool fc, .bool fz, .bool fs, .bool fo, .int .u64 (at')]]) (.lst .no 1 [.int .u64 q7, .int .u64 q6, .int .u64 q2]) := by
 have c0 := @num15_ok 9 q1 q2 q3 q4 q5 q6 q7 q8 q9 q10 q11 q12 q13 q14 q15 at' fk fc fz fs fo
 exact (o21 (d := .lst (.fresh 1) 1 [.int .u64 q7, .int .u64 q6, .int .u64 q2]) [.ret _ _ _ c0, tF, .inl, .inl, tT, tT, tT, tT, tF, tT, .go 64, tT, tT, .get ([.int .i8 7, .int .i8 6, .int .i8 2]) 0 (.int .i8 7) rfl, tT, .get ([.int .u64 9, .int .u64 q1, .int .u64 q2, .int .u64 q3, .int .u64 q4, .int .u64 q5, .int .u64 q6, .int .u64 q7, .int .u64 q8, .int .u64 q9, .int .u64 q10, .int .u64 q11, .int .u64 q12, .int .u64 q13, .int .u64 q14, .int .u64 q15, .bool fk, .bool fc, .bool fz, .bool fs, .bool fo, .int .u64 at']) 7 (.int .u64 q7) rfl, .len 1 2147483648 (by decide), tT, tT, .get ([.int .i8 7, .int .i8 6, .int .i8 2]) 1 (.int .i8 6) rfl, tT, .get ([.int .u64 9, .int .u64 q1, .int .u64 q2, .int .u64 q3, .int .u64 q4, .int .u64 q5, .int .u64 q6, .int .u64 q7, .int .u64 q8, .int .u64 q9, .int .u64 q10, .int .u64 q11, .int .u64 q12, .int .u64 q13, .int .u64 q14, .int .u64 q15, .bool fk, .bool fc, .bool fz, .bool fs, .bool fo, .int .u64 at']) 6 (.int .u64 q6) rfl, .len 2 2147483648 (by decide), tT, tT, .get ([.int .i8 7, .int .i8 6, .int .i8 2]) 2 (.int .i8 2) rfl, tT, .get ([.int .u64 9, .int .u64 q1, .int .u64 q2, .int .u64 q3, .int .u64 q4, .int .u64 q5, .int .u64 q6, .int .u64 q7, .int .u64 q8, .int .u64 q9, .int .u64 q10, .int .u64 q11, .int .u64 q12, .int .u64 q13, .int .u64 q14, .int .u64 q15, .bool fk, .bool fc, .bool fz, .bool fs, .bool fo, .int .u64 at']) 2 (.int .u64 q2) rfl, .len 3 2147483648 (by decide), tF] (by kernel_rfl)).to (by simp [wk, wkL, wkO])
theorem args_10_ok (q1 q2 q3 q4 q5 q6 q7 q8 q9 q10 q11 q12 q13 q14 q15 at' : Int) (fk fc fz fs fo : Bool)  : Ret Tryz.prog 21 ([.agg [.int .u64 (10), .int .u64 q1, .int .u64 q2, .int .u64 q3, .int .u64 q4, .int .u64 q5, .int .u64 q6, .int .u64 q7, .int .u64 q8, .int .u64 q9, .int .u64 q10, .int .u64 q11, .int .u64 q12, .int .u64 q13, .int .u64 q14, .int .u64 q15, .bool fk, .bool fc, .bool fz, .bool fs, .bool fo, .int .u64 (at')]]) (.lst .no 1 [.int .u64 q7, .int .u64 q6, .int .u64 q2, .int .u64 q10]) := by
 have c0 := @num15_ok 10 q1 q2 q3 q4 q5 q6 q7 q8 q9 q10 q11 q12 q13 q14 q15 at' fk fc fz fs fo
 exact (o21 (d := .lst (.fresh 1) 1 [.int .u64 q7, .int .u64 q6, .int .u64 q2, .int .u64 q10]) [.ret _ _ _ c0, tF, .inl, .inl, tT, tT, tT, tT, tF, tT, .go 64, tT, tT, .get ([.int .i8 7, .int .i8 6, .int .i8 2, .int .i8 10]) 0 (.int .i8 7) rfl, tT, .get ([.int .u64 10, .int .u64 q1, .int .u64 q2, .int .u64 q3, .int .u64 q4, .int .u64 q5, .int .u64 q6, .int .u64 q7, .int .u64 q8, .int .u64 q9, .int .u64 q10, .int .u64 q11, .int .u64 q12, .int .u64 q13, .int .u64 q14, .int .u64 q15, .bool fk, .bool fc, .bool fz, .bool fs, .bool fo, .int .u64 at']) 7 (.int .u64 q7) rfl, .len 1 2147483648 (by decide), tT, tT, .get ([.int .i8 7, .int .i8 6, .int .i8 2, .int .i8 10]) 1 (.int .i8 6) rfl, tT, .get ([.int .u64 10, .int .u64 q1, .int .u64 q2, .int .u64 q3, .int .u64 q4, .int .u64 q5, .int .u64 q6, .int .u64 q7, .int .u64 q8, .int .u64 q9, .int .u64 q10, .int .u64 q11, .int .u64 q12, .int .u64 q13, .int .u64 q14, .int .u64 q15, .bool fk, .bool fc, .bool fz, .bool fs, .bool fo, .int .u64 at']) 6 (.int .u64 q6) rfl, .len 2 2147483648 (by decide), tT, tT, .get ([.int .i8 7, .int .i8 6, .int .i8 2, .int .i8 10]) 2 (.int .i8 2) rfl, tT, .get ([.int .u64 10, .int .u64 q1, .int .u64 q2, .int .u64 q3, .int .u64 q4, .int .u64 q5, .int .u64 q6, .int .u64 q7, .int .u64 q8, .int .u64 q9, .int .u64 q10, .int .u64 q11, .int .u64 q12, .int .u64 q13, .int .u64 q14, .int .u64 q15, .bool fk, .bool fc, .bool fz, .bool fs, .bool fo, .int .u64 at']) 2 (.int .u64 q2) rfl, .len 3 2147483648 (by decide), tT, tT, .get ([.int .i8 7, .int .i8 6, .int .i8 2, .int .i8 10]) 3 (.int .i8 10) rfl, tT, .get ([.int .u64 10, .int .u64 q1, .int .u64 q2, .int .u64 q3, .int .u64 q4, .int .u64 q5, .int .u64 q6, .int .u64 q7, .int .u64 q8, .int .u64 q9, .int .u64 q10, .int .u64 q11, .int .u64 q12, .int .u64 q13, .int .u64 q14, .int .u64 q15, .bool fk, .bool fc, .bool fz, .bool fs, .bool fo, .int .u64 at']) 10 (.int .u64 q10) rfl, .len 4 2147483648 (by decide), tF] (by kernel_rfl)).to (by simp [wk, wkL, wkO])
theorem args_11_ok (q1 q2 q3 q4 q5 q6 q7 q8 q9 q10 q11 q12 q13 q14 q15 at' : Int) (fk fc fz fs fo : Bool)  : Ret Tryz.prog 21 ([.agg [.int .u64 (11), .int .u64 q1, .int .u64 q2, .int .u64 q3, .int .u64 q4, .int .u64 q5, .int .u64 q6, .int .u64 q7, .int .u64 q8, .int .u64 q9, .int .u64 q10, .int .u64 q11, .int .u64 q12, .int .u64 q13, .int .u64 q14, .int .u64 q15, .bool fk, .bool fc, .bool fz, .bool fs, .bool fo, .int .u64 (at')]]) (.lst .no 1 [.int .u64 q7, .int .u64 q6, .int .u64 q2, .int .u64 q10, .int .u64 q8]) := by
 have c0 := @num15_ok 11 q1 q2 q3 q4 q5 q6 q7 q8 q9 q10 q11 q12 q13 q14 q15 at' fk fc fz fs fo
 exact (o21 (d := .lst (.fresh 1) 1 [.int .u64 q7, .int .u64 q6, .int .u64 q2, .int .u64 q10, .int .u64 q8]) [.ret _ _ _ c0, tF, .inl, .inl, tT, tT, tT, tT, tF, tT, .go 64, tT, tT, .get ([.int .i8 7, .int .i8 6, .int .i8 2, .int .i8 10, .int .i8 8]) 0 (.int .i8 7) rfl, tT, .get ([.int .u64 11, .int .u64 q1, .int .u64 q2, .int .u64 q3, .int .u64 q4, .int .u64 q5, .int .u64 q6, .int .u64 q7, .int .u64 q8, .int .u64 q9, .int .u64 q10, .int .u64 q11, .int .u64 q12, .int .u64 q13, .int .u64 q14, .int .u64 q15, .bool fk, .bool fc, .bool fz, .bool fs, .bool fo, .int .u64 at']) 7 (.int .u64 q7) rfl, .len 1 2147483648 (by decide), tT, tT, .get ([.int .i8 7, .int .i8 6, .int .i8 2, .int .i8 10, .int .i8 8]) 1 (.int .i8 6) rfl, tT, .get ([.int .u64 11, .int .u64 q1, .int .u64 q2, .int .u64 q3, .int .u64 q4, .int .u64 q5, .int .u64 q6, .int .u64 q7, .int .u64 q8, .int .u64 q9, .int .u64 q10, .int .u64 q11, .int .u64 q12, .int .u64 q13, .int .u64 q14, .int .u64 q15, .bool fk, .bool fc, .bool fz, .bool fs, .bool fo, .int .u64 at']) 6 (.int .u64 q6) rfl, .len 2 2147483648 (by decide), tT, tT, .get ([.int .i8 7, .int .i8 6, .int .i8 2, .int .i8 10, .int .i8 8]) 2 (.int .i8 2) rfl, tT, .get ([.int .u64 11, .int .u64 q1, .int .u64 q2, .int .u64 q3, .int .u64 q4, .int .u64 q5, .int .u64 q6, .int .u64 q7, .int .u64 q8, .int .u64 q9, .int .u64 q10, .int .u64 q11, .int .u64 q12, .int .u64 q13, .int .u64 q14, .int .u64 q15, .bool fk, .bool fc, .bool fz, .bool fs, .bool fo, .int .u64 at']) 2 (.int .u64 q2) rfl, .len 3 2147483648 (by decide), tT, tT, .get ([.int .i8 7, .int .i8 6, .int .i8 2, .int .i8 10, .int .i8 8]) 3 (.int .i8 10) rfl, tT, .get ([.int .u64 11, .int .u64 q1, .int .u64 q2, .int .u64 q3, .int .u64 q4, .int .u64 q5, .int .u64 q6, .int .u64 q7, .int .u64 q8, .int .u64 q9, .int .u64 q10, .int .u64 q11, .int .u64 q12, .int .u64 q13, .int .u64 q14, .int .u64 q15, .bool fk, .bool fc, .bool fz, .bool fs, .bool fo, .int .u64 at']) 10 (.int .u64 q10) rfl, .len 4 2147483648 (by decide), tT, tT, .get ([.int .i8 7, .int .i8 6, .int .i8 2, .int .i8 10, .int .i8 8]) 4 (.int .i8 8) rfl, tT, .get ([.int .u64 11, .int .u64 q1, .int .u64 q2, .int .u64 q3, .int .u64 q4, .int .u64 q5, .int .u64 q6, .int .u64 q7, .int .u64 q8, .int .u64 q9, .int .u64 q10, .int .u64 q11, .int .u64 q12, .int .u64 q13, .int .u64 q14, .int .u64 q15, .bool fk, .bool fc, .bool fz, .bool fs, .bool fo, .int .u64 at']) 8 (.int .u64 q8) rfl, .len 5 2147483648 (by decide), tF] (by kernel_rfl)).to (by simp [wk, wkL, wkO])
theorem args_12_ok (q1 q2 q3 q4 q5 q6 q7 q8 q9 q10 q11 q12 q13 q14 q15 at' : Int) (fk fc fz fs fo : Bool)  : Ret Tryz.prog 21 ([.agg [.int .u64 (12), .int .u64 q1, .int .u64 q2, .int .u64 q3, .int .u64 q4, .int .u64 q5, .int .u64 q6, .int .u64 q7, .int .u64 q8, .int .u64 q9, .int .u64 q10, .int .u64 q11, .int .u64 q12, .int .u64 q13, .int .u64 q14, .int .u64 q15, .bool fk, .bool fc, .bool fz, .bool fs, .bool fo, .int .u64 (at')]]) (.lst .no 1 []) := by
 have c0 := @num15_ok 12 q1 q2 q3 q4 q5 q6 q7 q8 q9 q10 q11 q12 q13 q14 q15 at' fk fc fz fs fo
 exact (o21 (d := .lst .tight 0 []) [.ret _ _ _ c0, tF, .inl, .inl, tT, tT, tT, tT, tF, tT, .go 64, tF] (by kernel_rfl)).to (by simp [wk, wkL, wkO])
theorem args_13_ok (q1 q2 q3 q4 q5 q6 q7 q8 q9 q10 q11 q12 q13 q14 q15 at' : Int) (fk fc fz fs fo : Bool)  : Ret Tryz.prog 21 ([.agg [.int .u64 (13), .int .u64 q1, .int .u64 q2, .int .u64 q3, .int .u64 q4, .int .u64 q5, .int .u64 q6, .int .u64 q7, .int .u64 q8, .int .u64 q9, .int .u64 q10, .int .u64 q11, .int .u64 q12, .int .u64 q13, .int .u64 q14, .int .u64 q15, .bool fk, .bool fc, .bool fz, .bool fs, .bool fo, .int .u64 (at')]]) (.lst .no 1 [.int .u64 q7]) := by
 have c0 := @num15_ok 13 q1 q2 q3 q4 q5 q6 q7 q8 q9 q10 q11 q12 q13 q14 q15 at' fk fc fz fs fo
 exact (o21 (d := .lst (.fresh 1) 1 [.int .u64 q7]) [.ret _ _ _ c0, tF, .inl, .inl, tT, tT, tT, tT, tF, tT, .go 64, tT, tT, .get ([.int .i8 7]) 0 (.int .i8 7) rfl, tT, .get ([.int .u64 13, .int .u64 q1, .int .u64 q2, .int .u64 q3, .int .u64 q4, .int .u64 q5, .int .u64 q6, .int .u64 q7, .int .u64 q8, .int .u64 q9, .int .u64 q10, .int .u64 q11, .int .u64 q12, .int .u64 q13, .int .u64 q14, .int .u64 q15, .bool fk, .bool fc, .bool fz, .bool fs, .bool fo, .int .u64 at']) 7 (.int .u64 q7) rfl, .len 1 2147483648 (by decide), tF] (by kernel_rfl)).to (by simp [wk, wkL, wkO])
theorem args_14_ok (q1 q2 q3 q4 q5 q6 q7 q8 q9 q10 q11 q12 q13 q14 q15 at' : Int) (fk fc fz fs fo : Bool)  : Ret Tryz.prog 21 ([.agg [.int .u64 (14), .int .u64 q1, .int .u64 q2, .int .u64 q3, .int .u64 q4, .int .u64 q5, .int .u64 q6, .int .u64 q7, .int .u64 q8, .int .u64 q9, .int .u64 q10, .int .u64 q11, .int .u64 q12, .int .u64 q13, .int .u64 q14, .int .u64 q15, .bool fk, .bool fc, .bool fz, .bool fs, .bool fo, .int .u64 (at')]]) (.lst .no 1 [.int .u64 q7, .int .u64 q6]) := by
 have c0 := @num15_ok 14 q1 q2 q3 q4 q5 q6 q7 q8 q9 q10 q11 q12 q13 q14 q15 at' fk fc fz fs fo
 exact (o21 (d := .lst (.fresh 1) 1 [.int .u64 q7, .int .u64 q6]) [.ret _ _ _ c0, tF, .inl, .inl, tT, tT, tT, tT, tF, tT, .go 64, tT, tT, .get ([.int .i8 7, .int .i8 6]) 0 (.int .i8 7) rfl, tT, .get ([.int .u64 14, .int .u64 q1, .int .u64 q2, .int .u64 q3, .int .u64 q4, .int .u64 q5, .int .u64 q6, .int .u64 q7, .int .u64 q8, .int .u64 q9, .int .u64 q10, .int .u64 q11, .int .u64 q12, .int .u64 q13, .int .u64 q14, .int .u64 q15, .bool fk, .bool fc, .bool fz, .bool fs, .bool fo, .int .u64 at']) 7 (.int .u64 q7) rfl, .len 1 2147483648 (by decide), tT, tT, .get ([.int .i8 7, .int .i8 6]) 1 (.int .i8 6) rfl, tT, .get ([.int .u64 14, .int .u64 q1, .int .u64 q2, .int .u64 q3, .int .u64 q4, .int .u64 q5, .int .u64 q6, .int .u64 q7, .int .u64 q8, .int .u64 q9, .int .u64 q10, .int .u64 q11, .int .u64 q12, .int .u64 q13, .int .u64 q14, .int .u64 q15, .bool fk, .bool fc, .bool fz, .bool fs, .bool fo, .int .u64 at']) 6 (.int .u64 q6) rfl, .len 2 2147483648 (by decide), tF] (by kernel_rfl)).to (by simp [wk, wkL, wkO])
theorem args_15_ok (q1 q2 q3 q4 q5 q6 q7 q8 q9 q10 q11 q12 q13 q14 q15 at' : Int) (fk fc fz fs fo : Bool)  : Ret Tryz.prog 21 ([.agg [.int .u64 (15), .int .u64 q1, .int .u64 q2, .int .u64 q3, .int .u64 q4, .int .u64 q5, .int .u64 q6, .int .u64 q7, .int .u64 q8, .int .u64 q9, .int .u64 q10, .int .u64 q11, .int .u64 q12, .int .u64 q13, .int .u64 q14, .int .u64 q15, .bool fk, .bool fc, .bool fz, .bool fs, .bool fo, .int .u64 (at')]]) (.lst .no 1 [.int .u64 q7, .int .u64 q6, .int .u64 q2]) := by
 have c0 := @num15_ok 15 q1 q2 q3 q4 q5 q6 q7 q8 q9 q10 q11 q12 q13 q14 q15 at' fk fc fz fs fo
 exact (o21 (d := .lst (.fresh 1) 1 [.int .u64 q7, .int .u64 q6, .int .u64 q2]) [.ret _ _ _ c0, tF, .inl, .inl, tT, tT, tT, tT, tF, tT, .go 64, tT, tT, .get ([.int .i8 7, .int .i8 6, .int .i8 2]) 0 (.int .i8 7) rfl, tT, .get ([.int .u64 15, .int .u64 q1, .int .u64 q2, .int .u64 q3, .int .u64 q4, .int .u64 q5, .int .u64 q6, .int .u64 q7, .int .u64 q8, .int .u64 q9, .int .u64 q10, .int .u64 q11, .int .u64 q12, .int .u64 q13, .int .u64 q14, .int .u64 q15, .bool fk, .bool fc, .bool fz, .bool fs, .bool fo, .int .u64 at']) 7 (.int .u64 q7) rfl, .len 1 2147483648 (by decide), tT, tT, .get ([.int .i8 7, .int .i8 6, .int .i8 2]) 1 (.int .i8 6) rfl, tT, .get ([.int .u64 15, .int .u64 q1, .int .u64 q2, .int .u64 q3, .int .u64 q4, .int .u64 q5, .int .u64 q6, .int .u64 q7, .int .u64 q8, .int .u64 q9, .int .u64 q10, .int .u64 q11, .int .u64 q12, .int .u64 q13, .int .u64 q14, .int .u64 q15, .bool fk, .bool fc, .bool fz, .bool fs, .bool fo, .int .u64 at']) 6 (.int .u64 q6) rfl, .len 2 2147483648 (by decide), tT, tT, .get ([.int .i8 7, .int .i8 6, .int .i8 2]) 2 (.int .i8 2) rfl, tT, .get ([.int .u64 15, .int .u64 q1, .int .u64 q2, .int .u64 q3, .int .u64 q4, .int .u64 q5, .int .u64 q6, .int .u64 q7, .int .u64 q8, .int .u64 q9, .int .u64 q10, .int .u64 q11, .int .u64 q12, .int .u64 q13, .int .u64 q14, .int .u64 q15, .bool fk, .bool fc, .bool fz, .bool fs, .bool fo, .int .u64 at']) 2 (.int .u64 q2) rfl, .len 3 2147483648 (by decide), tF] (by kernel_rfl)).to (by simp [wk, wkL, wkO])
theorem args_no_ok (q0 q1 q2 q3 q4 q5 q6 q7 q8 q9 q10 q11 q12 q13 q14 q15 at' : Int) (fk fc fz fs fo : Bool) (hn : 16 ≤ q0) : Ret Tryz.prog 21 ([.agg [.int .u64 q0, .int .u64 q1, .int .u64 q2, .int .u64 q3, .int .u64 q4, .int .u64 q5, .int .u64 q6, .int .u64 q7, .int .u64 q8, .int .u64 q9, .int .u64 q10, .int .u64 q11, .int .u64 q12, .int .u64 q13, .int .u64 q14, .int .u64 q15, .bool fk, .bool fc, .bool fz, .bool fs, .bool fo, .int .u64 (at')]]) (.lst .no 1 []) := by
 have c0 := @num15_ok q0 q1 q2 q3 q4 q5 q6 q7 q8 q9 q10 q11 q12 q13 q14 q15 at' fk fc fz fs fo
 exact (o21 (d := .lst .tight 0 []) [.ret _ _ _ c0, tC (nt (@numB_f q0 hn))] (by kernel_rfl)).to (by simp [wk, wkL, wkO])
theorem tocc_0_ok  : Ret Tryz.prog 16 ([.int .i8 0]) (.tup [.int .i8 (toccM 0).1, .bool (toccM 0).2]) := by
 exact (o16 (d := .tup [.int .i8 4, .bool true]) [tT, tT, tF, tF, .inl, tT, .get ([.int .i8 4, .int .i8 5, .int .i8 7, .int .i8 3, .int .i8 2, .int .i8 6, .int .i8 15, .int .i8 13, .int .i8 12, .int .i8 14, .int .i8 5]) 0 (.int .i8 4) rfl] (by kernel_rfl)).to (by exact ⟨rfl, rfl, trivial⟩)
theorem tocc_1_ok  : Ret Tryz.prog 16 ([.int .i8 1]) (.tup [.int .i8 (toccM 1).1, .bool (toccM 1).2]) := by
 exact (o16 (d := .tup [.int .i8 5, .bool true]) [tT, tT, tF, tF, .inl, tT, .get ([.int .i8 4, .int .i8 5, .int .i8 7, .int .i8 3, .int .i8 2, .int .i8 6, .int .i8 15, .int .i8 13, .int .i8 12, .int .i8 14, .int .i8 5]) 1 (.int .i8 5) rfl] (by kernel_rfl)).to (by exact ⟨rfl, rfl, trivial⟩)
theorem tocc_2_ok  : Ret Tryz.prog 16 ([.int .i8 2]) (.tup [.int .i8 (toccM 2).1, .bool (toccM 2).2]) := by
 exact (o16 (d := .tup [.int .i8 7, .bool true]) [tT, tT, tF, tF, .inl, tT, .get ([.int .i8 4, .int .i8 5, .int .i8 7, .int .i8 3, .int .i8 2, .int .i8 6, .int .i8 15, .int .i8 13, .int .i8 12, .int .i8 14, .int .i8 5]) 2 (.int .i8 7) rfl] (by kernel_rfl)).to (by exact ⟨rfl, rfl, trivial⟩)
theorem tocc_3_ok  : Ret Tryz.prog 16 ([.int .i8 3]) (.tup [.int .i8 (toccM 3).1, .bool (toccM 3).2]) := by
 exact (o16 (d := .tup [.int .i8 3, .bool true]) [tT, tT, tF, tF, .inl, tT, .get ([.int .i8 4, .int .i8 5, .int .i8 7, .int .i8 3, .int .i8 2, .int .i8 6, .int .i8 15, .int .i8 13, .int .i8 12, .int .i8 14, .int .i8 5]) 3 (.int .i8 3) rfl] (by kernel_rfl)).to (by exact ⟨rfl, rfl, trivial⟩)
theorem tocc_4_ok  : Ret Tryz.prog 16 ([.int .i8 4]) (.tup [.int .i8 (toccM 4).1, .bool (toccM 4).2]) := by
 exact (o16 (d := .tup [.int .i8 2, .bool true]) [tT, tT, tF, tF, .inl, tT, .get ([.int .i8 4, .int .i8 5, .int .i8 7, .int .i8 3, .int .i8 2, .int .i8 6, .int .i8 15, .int .i8 13, .int .i8 12, .int .i8 14, .int .i8 5]) 4 (.int .i8 2) rfl] (by kernel_rfl)).to (by exact ⟨rfl, rfl, trivial⟩)
theorem tocc_5_ok  : Ret Tryz.prog 16 ([.int .i8 5]) (.tup [.int .i8 (toccM 5).1, .bool (toccM 5).2]) := by
 exact (o16 (d := .tup [.int .i8 6, .bool true]) [tT, tT, tF, tF, .inl, tT, .get ([.int .i8 4, .int .i8 5, .int .i8 7, .int .i8 3, .int .i8 2, .int .i8 6, .int .i8 15, .int .i8 13, .int .i8 12, .int .i8 14, .int .i8 5]) 5 (.int .i8 6) rfl] (by kernel_rfl)).to (by exact ⟨rfl, rfl, trivial⟩)
theorem tocc_6_ok  : Ret Tryz.prog 16 ([.int .i8 6]) (.tup [.int .i8 (toccM 6).1, .bool (toccM 6).2]) := by
 exact (o16 (d := .tup [.int .i8 15, .bool true]) [tT, tT, tF, tF, .inl, tT, .get ([.int .i8 4, .int .i8 5, .int .i8 7, .int .i8 3, .int .i8 2, .int .i8 6, .int .i8 15, .int .i8 13, .int .i8 12, .int .i8 14, .int .i8 5]) 6 (.int .i8 15) rfl] (by kernel_rfl)).to (by exact ⟨rfl, rfl, trivial⟩)
theorem tocc_7_ok  : Ret Tryz.prog 16 ([.int .i8 7]) (.tup [.int .i8 (toccM 7).1, .bool (toccM 7).2]) := by
 exact (o16 (d := .tup [.int .i8 13, .bool true]) [tT, tT, tF, tF, .inl, tT, .get ([.int .i8 4, .int .i8 5, .int .i8 7, .int .i8 3, .int .i8 2, .int .i8 6, .int .i8 15, .int .i8 13, .int .i8 12, .int .i8 14, .int .i8 5]) 7 (.int .i8 13) rfl] (by kernel_rfl)).to (by exact ⟨rfl, rfl, trivial⟩)
theorem tocc_8_ok  : Ret Tryz.prog 16 ([.int .i8 8]) (.tup [.int .i8 (toccM 8).1, .bool (toccM 8).2]) := by
 exact (o16 (d := .tup [.int .i8 12, .bool true]) [tT, tT, tF, tF, .inl, tT, .get ([.int .i8 4, .int .i8 5, .int .i8 7, .int .i8 3, .int .i8 2, .int .i8 6, .int .i8 15, .int .i8 13, .int .i8 12, .int .i8 14, .int .i8 5]) 8 (.int .i8 12) rfl] (by kernel_rfl)).to (by exact ⟨rfl, rfl, trivial⟩)
theorem tocc_9_ok  : Ret Tryz.prog 16 ([.int .i8 9]) (.tup [.int .i8 (toccM 9).1, .bool (toccM 9).2]) := by
 exact (o16 (d := .tup [.int .i8 14, .bool true]) [tT, tT, tF, tF, .inl, tT, .get ([.int .i8 4, .int .i8 5, .int .i8 7, .int .i8 3, .int .i8 2, .int .i8 6, .int .i8 15, .int .i8 13, .int .i8 12, .int .i8 14, .int .i8 5]) 9 (.int .i8 14) rfl] (by kernel_rfl)).to (by exact ⟨rfl, rfl, trivial⟩)
theorem tocc_10_ok  : Ret Tryz.prog 16 ([.int .i8 10]) (.tup [.int .i8 (toccM 10).1, .bool (toccM 10).2]) := by
 exact (o16 (d := .tup [.int .i8 5, .bool true]) [tT, tT, tF, tF, .inl, tT, .get ([.int .i8 4, .int .i8 5, .int .i8 7, .int .i8 3, .int .i8 2, .int .i8 6, .int .i8 15, .int .i8 13, .int .i8 12, .int .i8 14, .int .i8 5]) 10 (.int .i8 5) rfl] (by kernel_rfl)).to (by exact ⟨rfl, rfl, trivial⟩)
theorem tocc_out_ok (cc : Int) (h : decide (0 ≤ cc ∧ cc ≤ 10) = false) : Ret Tryz.prog 16 ([.int .i8 cc]) (.tup [.int .i8 0, .bool false]) := by
 rcases bft (decide (cc < 0)) with h0 | h0
 ·exact (o16 (d := .tup [.int .i8 0, .bool false]) [tC (eF h0), tC (eF h0), tC h0, tT] (by kernel_rfl)).to (by simp [wk, wkL])
 exact (o16 (d := .tup [.int .i8 0, .bool false]) [tC (eF h0), tC (eF h0), tC h0, tC (ltL 10 (by (simp only [sl2] at *; omega) : (decide (cc < 11)) = false))] (by kernel_rfl)).to (by simp [wk, wkL])
theorem cc15_ok (cc : Int) : Ret Tryz.prog 14 ([.int .i8 cc]) (.tup [.int .i8 (ccM' cc).1, .bool (ccM' cc).2]) := by
 let E1 : EL := [.inl, .go 64, tT, tT, .get ([.int .i8 4, .int .i8 5, .int .i8 7, .int .i8 3, .int .i8 2, .int .i8 6, .int .i8 15, .int .i8 13, .int .i8 12, .int .i8 14, .int .i8 5]) 0 (.int .i8 4) rfl]
 rcases bft (4 == cc) with h0 | h0
 ·exact (o14 (d := .tup [.int .i8 0, .bool true]) (E1 ++ [tC h0]) (by kernel_rfl)).to (by clear E1; simp only [beq_iff_eq, beq_eq_false_iff_ne, ne_eq] at *; first | exact cc_out (by omega) (by omega) (by omega) (by omega) (by omega) (by omega) (by omega) (by omega) (by omega) (by omega) | (subst_vars; simp [wk, wkL, ccM']; done))
 let E2 : EL := E1 ++ [tC h0, tT, tT, .get ([.int .i8 4, .int .i8 5, .int .i8 7, .int .i8 3, .int .i8 2, .int .i8 6, .int .i8 15, .int .i8 13, .int .i8 12, .int .i8 14, .int .i8 5]) 1 (.int .i8 5) rfl]
 rcases bft (5 == cc) with h1 | h1
 ·exact (o14 (d := .tup [.int .i8 1, .bool true]) (E2 ++ [tC h1]) (by kernel_rfl)).to (by clear E1 E2; simp only [beq_iff_eq, beq_eq_false_iff_ne, ne_eq] at *; first | exact cc_out (by omega) (by omega) (by omega) (by omega) (by omega) (by omega) (by omega) (by omega) (by omega) (by omega) | (subst_vars; simp [wk, wkL, ccM']; done))
 let E3 : EL := E2 ++ [tC h1, tT, tT, .get ([.int .i8 4, .int .i8 5, .int .i8 7, .int .i8 3, .int .i8 2, .int .i8 6, .int .i8 15, .int .i8 13, .int .i8 12, .int .i8 14, .int .i8 5]) 2 (.int .i8 7) rfl]
 rcases bft (7 == cc) with h2 | h2
 ·exact (o14 (d := .tup [.int .i8 2, .bool true]) (E3 ++ [tC h2]) (by kernel_rfl)).to (by clear E1 E2 E3; simp only [beq_iff_eq, beq_eq_false_iff_ne, ne_eq] at *; first | exact cc_out (by omega) (by omega) (by omega) (by omega) (by omega) (by omega) (by omega) (by omega) (by omega) (by omega) | (subst_vars; simp [wk, wkL, ccM']; done))
 let E4 : EL := E3 ++ [tC h2, tT, tT, .get ([.int .i8 4, .int .i8 5, .int .i8 7, .int .i8 3, .int .i8 2, .int .i8 6, .int .i8 15, .int .i8 13, .int .i8 12, .int .i8 14, .int .i8 5]) 3 (.int .i8 3) rfl]
 rcases bft (3 == cc) with h3 | h3
 ·exact (o14 (d := .tup [.int .i8 3, .bool true]) (E4 ++ [tC h3]) (by kernel_rfl)).to (by clear E1 E2 E3 E4; simp only [beq_iff_eq, beq_eq_false_iff_ne, ne_eq] at *; first | exact cc_out (by omega) (by omega) (by omega) (by omega) (by omega) (by omega) (by omega) (by omega) (by omega) (by omega) | (subst_vars; simp [wk, wkL, ccM']; done))
 let E5 : EL := E4 ++ [tC h3, tT, tT, .get ([.int .i8 4, .int .i8 5, .int .i8 7, .int .i8 3, .int .i8 2, .int .i8 6, .int .i8 15, .int .i8 13, .int .i8 12, .int .i8 14, .int .i8 5]) 4 (.int .i8 2) rfl]
 rcases bft (2 == cc) with h4 | h4
 ·exact (o14 (d := .tup [.int .i8 4, .bool true]) (E5 ++ [tC h4]) (by kernel_rfl)).to (by clear E1 E2 E3 E4 E5; simp only [beq_iff_eq, beq_eq_false_iff_ne, ne_eq] at *; first | exact cc_out (by omega) (by omega) (by omega) (by omega) (by omega) (by omega) (by omega) (by omega) (by omega) (by omega) | (subst_vars; simp [wk, wkL, ccM']; done))
 let E6 : EL := E5 ++ [tC h4, tT, tT, .get ([.int .i8 4, .int .i8 5, .int .i8 7, .int .i8 3, .int .i8 2, .int .i8 6, .int .i8 15, .int .i8 13, .int .i8 12, .int .i8 14, .int .i8 5]) 5 (.int .i8 6) rfl]
 rcases bft (6 == cc) with h5 | h5
 ·exact (o14 (d := .tup [.int .i8 5, .bool true]) (E6 ++ [tC h5]) (by kernel_rfl)).to (by clear E1 E2 E3 E4 E5 E6; simp only [beq_iff_eq, beq_eq_false_iff_ne, ne_eq] at *; first | exact cc_out (by omega) (by omega) (by omega) (by omega) (by omega) (by omega) (by omega) (by omega) (by omega) (by omega) | (subst_vars; simp [wk, wkL, ccM']; done))
 let E7 : EL := E6 ++ [tC h5, tT, tT, .get ([.int .i8 4, .int .i8 5, .int .i8 7, .int .i8 3, .int .i8 2, .int .i8 6, .int .i8 15, .int .i8 13, .int .i8 12, .int .i8 14, .int .i8 5]) 6 (.int .i8 15) rfl]
 rcases bft (15 == cc) with h6 | h6
 ·exact (o14 (d := .tup [.int .i8 6, .bool true]) (E7 ++ [tC h6]) (by kernel_rfl)).to (by clear E1 E2 E3 E4 E5 E6 E7; simp only [beq_iff_eq, beq_eq_false_iff_ne, ne_eq] at *; first | exact cc_out (by omega) (by omega) (by omega) (by omega) (by omega) (by omega) (by omega) (by omega) (by omega) (by omega) | (subst_vars; simp [wk, wkL, ccM']; done))
 let E8 : EL := E7 ++ [tC h6, tT, tT, .get ([.int .i8 4, .int .i8 5, .int .i8 7, .int .i8 3, .int .i8 2, .int .i8 6, .int .i8 15, .int .i8 13, .int .i8 12, .int .i8 14, .int .i8 5]) 7 (.int .i8 13) rfl]
 rcases bft (13 == cc) with h7 | h7
 ·exact (o14 (d := .tup [.int .i8 7, .bool true]) (E8 ++ [tC h7]) (by kernel_rfl)).to (by clear E1 E2 E3 E4 E5 E6 E7 E8; simp only [beq_iff_eq, beq_eq_false_iff_ne, ne_eq] at *; first | exact cc_out (by omega) (by omega) (by omega) (by omega) (by omega) (by omega) (by omega) (by omega) (by omega) (by omega) | (subst_vars; simp [wk, wkL, ccM']; done))
 let E9 : EL := E8 ++ [tC h7, tT, tT, .get ([.int .i8 4, .int .i8 5, .int .i8 7, .int .i8 3, .int .i8 2, .int .i8 6, .int .i8 15, .int .i8 13, .int .i8 12, .int .i8 14, .int .i8 5]) 8 (.int .i8 12) rfl]
 rcases bft (12 == cc) with h8 | h8
 ·exact (o14 (d := .tup [.int .i8 8, .bool true]) (E9 ++ [tC h8]) (by kernel_rfl)).to (by clear E1 E2 E3 E4 E5 E6 E7 E8 E9; simp only [beq_iff_eq, beq_eq_false_iff_ne, ne_eq] at *; first | exact cc_out (by omega) (by omega) (by omega) (by omega) (by omega) (by omega) (by omega) (by omega) (by omega) (by omega) | (subst_vars; simp [wk, wkL, ccM']; done))
 let E10 : EL := E9 ++ [tC h8, tT, tT, .get ([.int .i8 4, .int .i8 5, .int .i8 7, .int .i8 3, .int .i8 2, .int .i8 6, .int .i8 15, .int .i8 13, .int .i8 12, .int .i8 14, .int .i8 5]) 9 (.int .i8 14) rfl]
 rcases bft (14 == cc) with h9 | h9
 ·exact (o14 (d := .tup [.int .i8 9, .bool true]) (E10 ++ [tC h9]) (by kernel_rfl)).to (by clear E1 E2 E3 E4 E5 E6 E7 E8 E9 E10; simp only [beq_iff_eq, beq_eq_false_iff_ne, ne_eq] at *; first | exact cc_out (by omega) (by omega) (by omega) (by omega) (by omega) (by omega) (by omega) (by omega) (by omega) (by omega) | (subst_vars; simp [wk, wkL, ccM']; done))
 exact (o14 (d := .tup [.int .i8 0, .bool false]) (E10 ++ [tC h9, tT, tT, .get ([.int .i8 4, .int .i8 5, .int .i8 7, .int .i8 3, .int .i8 2, .int .i8 6, .int .i8 15, .int .i8 13, .int .i8 12, .int .i8 14, .int .i8 5]) 10 (.int .i8 5) rfl, tC h1, tF]) (by kernel_rfl)).to (by clear E1 E2 E3 E4 E5 E6 E7 E8 E9 E10; simp only [beq_iff_eq, beq_eq_false_iff_ne, ne_eq] at *; first | exact cc_out (by omega) (by omega) (by omega) (by omega) (by omega) (by omega) (by omega) (by omega) (by omega) (by omega) | (subst_vars; simp [wk, wkL, ccM']; done))
theorem rnum15_ok (q0 q1 q2 q3 q4 q5 q6 q7 q8 q9 q10 q11 q12 q13 q14 q15 at' : Int) (fk fc fz fs fo : Bool)  : Ret Tryz.prog 13 ([.agg [.int .u64 q0, .int .u64 q1, .int .u64 q2, .int .u64 q3, .int .u64 q4, .int .u64 q5, .int .u64 q6, .int .u64 q7, .int .u64 q8, .int .u64 q9, .int .u64 q10, .int .u64 q11, .int .u64 q12, .int .u64 q13, .int .u64 q14, .int .u64 q15, .bool fk, .bool fc, .bool fz, .bool fs, .bool fo, .int .u64 (at')]]) (.tup [.int .i64 (numV q0), .bool (numB q0)]) := by
 rcases bft (decide (q0 < 16)) with h0 | h0
 ·exact (o13 (d := .tup [.int .i64 (IntKind.wrap IntKind.i64 q0), .bool true]) [tC (leL 16 h0)] (by kernel_rfl)).to (by first | exact num_lo h0 | exact num_hi h0)
 exact (o13 (d := .tup [.int .i64 0, .bool false]) [tC (leL 16 h0)] (by kernel_rfl)).to (by first | exact num_lo h0 | exact num_hi h0)
theorem rargs_0_ok (q1 q2 q3 q4 q5 q6 q7 q8 q9 q10 q11 q12 q13 q14 q15 at' : Int) (fk fc fz fs fo : Bool)  : Ret Tryz.prog 22 ([.agg [.int .u64 (0), .int .u64 q1, .int .u64 q2, .int .u64 q3, .int .u64 q4, .int .u64 q5, .int .u64 q6, .int .u64 q7, .int .u64 q8, .int .u64 q9, .int .u64 q10, .int .u64 q11, .int .u64 q12, .int .u64 q13, .int .u64 q14, .int .u64 q15, .bool fk, .bool fc, .bool fz, .bool fs, .bool fo, .int .u64 (at')]]) (.lst .no 1 []) := by
 have c0 := @rnum15_ok 0 q1 q2 q3 q4 q5 q6 q7 q8 q9 q10 q11 q12 q13 q14 q15 at' fk fc fz fs fo
 exact (o22 (d := .lst .no 1 []) [.ret _ _ _ c0, tF, .inl, tT, tT, tF, tF, tT] (by kernel_rfl)).to (by simp [wk, wkL, wkO])
theorem rargs_1_ok (q1 q2 q3 q4 q5 q6 q7 q8 q9 q10 q11 q12 q13 q14 q15 at' : Int) (fk fc fz fs fo : Bool)  : Ret Tryz.prog 22 ([.agg [.int .u64 (1), .int .u64 q1, .int .u64 q2, .int .u64 q3, .int .u64 q4, .int .u64 q5, .int .u64 q6, .int .u64 q7, .int .u64 q8, .int .u64 q9, .int .u64 q10, .int .u64 q11, .int .u64 q12, .int .u64 q13, .int .u64 q14, .int .u64 q15, .bool fk, .bool fc, .bool fz, .bool fs, .bool fo, .int .u64 (at')]]) (.lst .no 1 [.int .u64 q7]) := by
 have c0 := @rnum15_ok 1 q1 q2 q3 q4 q5 q6 q7 q8 q9 q10 q11 q12 q13 q14 q15 at' fk fc fz fs fo
 exact (o22 (d := .lst .no 1 [.int .u64 q7]) [.ret _ _ _ c0, tF, .inl, tT, tT, tF, tF, tT] (by kernel_rfl)).to (by simp [wk, wkL, wkO])
theorem rargs_2_ok (q1 q2 q3 q4 q5 q6 q7 q8 q9 q10 q11 q12 q13 q14 q15 at' : Int) (fk fc fz fs fo : Bool)  : Ret Tryz.prog 22 ([.agg [.int .u64 (2), .int .u64 q1, .int .u64 q2, .int .u64 q3, .int .u64 q4, .int .u64 q5, .int .u64 q6, .int .u64 q7, .int .u64 q8, .int .u64 q9, .int .u64 q10, .int .u64 q11, .int .u64 q12, .int .u64 q13, .int .u64 q14, .int .u64 q15, .bool fk, .bool fc, .bool fz, .bool fs, .bool fo, .int .u64 (at')]]) (.lst .no 1 [.int .u64 q7, .int .u64 q6]) := by
 have c0 := @rnum15_ok 2 q1 q2 q3 q4 q5 q6 q7 q8 q9 q10 q11 q12 q13 q14 q15 at' fk fc fz fs fo
 exact (o22 (d := .lst .no 1 [.int .u64 q7, .int .u64 q6]) [.ret _ _ _ c0, tF, .inl, tT, tT, tF, tF, tT] (by kernel_rfl)).to (by simp [wk, wkL, wkO])
theorem rargs_3_ok (q1 q2 q3 q4 q5 q6 q7 q8 q9 q10 q11 q12 q13 q14 q15 at' : Int) (fk fc fz fs fo : Bool)  : Ret Tryz.prog 22 ([.agg [.int .u64 (3), .int .u64 q1, .int .u64 q2, .int .u64 q3, .int .u64 q4, .int .u64 q5, .int .u64 q6, .int .u64 q7, .int .u64 q8, .int .u64 q9, .int .u64 q10, .int .u64 q11, .int .u64 q12, .int .u64 q13, .int .u64 q14, .int .u64 q15, .bool fk, .bool fc, .bool fz, .bool fs, .bool fo, .int .u64 (at')]]) (.lst .no 1 [.int .u64 q7, .int .u64 q6, .int .u64 q2]) := by
 have c0 := @rnum15_ok 3 q1 q2 q3 q4 q5 q6 q7 q8 q9 q10 q11 q12 q13 q14 q15 at' fk fc fz fs fo
 exact (o22 (d := .lst .no 1 [.int .u64 q7, .int .u64 q6, .int .u64 q2]) [.ret _ _ _ c0, tF, .inl, tT, tT, tF, tF, tT] (by kernel_rfl)).to (by simp [wk, wkL, wkO])
theorem rargs_4_ok (q1 q2 q3 q4 q5 q6 q7 q8 q9 q10 q11 q12 q13 q14 q15 at' : Int) (fk fc fz fs fo : Bool)  : Ret Tryz.prog 22 ([.agg [.int .u64 (4), .int .u64 q1, .int .u64 q2, .int .u64 q3, .int .u64 q4, .int .u64 q5, .int .u64 q6, .int .u64 q7, .int .u64 q8, .int .u64 q9, .int .u64 q10, .int .u64 q11, .int .u64 q12, .int .u64 q13, .int .u64 q14, .int .u64 q15, .bool fk, .bool fc, .bool fz, .bool fs, .bool fo, .int .u64 (at')]]) (.lst .no 1 [.int .u64 q7, .int .u64 q6, .int .u64 q2, .int .u64 q10]) := by
 have c0 := @rnum15_ok 4 q1 q2 q3 q4 q5 q6 q7 q8 q9 q10 q11 q12 q13 q14 q15 at' fk fc fz fs fo
 exact (o22 (d := .lst .no 1 [.int .u64 q7, .int .u64 q6, .int .u64 q2, .int .u64 q10]) [.ret _ _ _ c0, tF, .inl, tT, tT, tF, tF, tT] (by kernel_rfl)).to (by simp [wk, wkL, wkO])
theorem rargs_5_ok (q1 q2 q3 q4 q5 q6 q7 q8 q9 q10 q11 q12 q13 q14 q15 at' : Int) (fk fc fz fs fo : Bool)  : Ret Tryz.prog 22 ([.agg [.int .u64 (5), .int .u64 q1, .int .u64 q2, .int .u64 q3, .int .u64 q4, .int .u64 q5, .int .u64 q6, .int .u64 q7, .int .u64 q8, .int .u64 q9, .int .u64 q10, .int .u64 q11, .int .u64 q12, .int .u64 q13, .int .u64 q14, .int .u64 q15, .bool fk, .bool fc, .bool fz, .bool fs, .bool fo, .int .u64 (at')]]) (.lst .no 1 [.int .u64 q7, .int .u64 q6, .int .u64 q2, .int .u64 q10, .int .u64 q8]) := by
 have c0 := @rnum15_ok 5 q1 q2 q3 q4 q5 q6 q7 q8 q9 q10 q11 q12 q13 q14 q15 at' fk fc fz fs fo
 exact (o22 (d := .lst .no 1 [.int .u64 q7, .int .u64 q6, .int .u64 q2, .int .u64 q10, .int .u64 q8]) [.ret _ _ _ c0, tF, .inl, tT, tT, tF, tF, tT] (by kernel_rfl)).to (by simp [wk, wkL, wkO])
theorem rargs_6_ok (q1 q2 q3 q4 q5 q6 q7 q8 q9 q10 q11 q12 q13 q14 q15 at' : Int) (fk fc fz fs fo : Bool)  : Ret Tryz.prog 22 ([.agg [.int .u64 (6), .int .u64 q1, .int .u64 q2, .int .u64 q3, .int .u64 q4, .int .u64 q5, .int .u64 q6, .int .u64 q7, .int .u64 q8, .int .u64 q9, .int .u64 q10, .int .u64 q11, .int .u64 q12, .int .u64 q13, .int .u64 q14, .int .u64 q15, .bool fk, .bool fc, .bool fz, .bool fs, .bool fo, .int .u64 (at')]]) (.lst .no 1 []) := by
 have c0 := @rnum15_ok 6 q1 q2 q3 q4 q5 q6 q7 q8 q9 q10 q11 q12 q13 q14 q15 at' fk fc fz fs fo
 exact (o22 (d := .lst .no 1 []) [.ret _ _ _ c0, tF, .inl, tT, tT, tF, tF, tT] (by kernel_rfl)).to (by simp [wk, wkL, wkO])
theorem rargs_7_ok (q1 q2 q3 q4 q5 q6 q7 q8 q9 q10 q11 q12 q13 q14 q15 at' : Int) (fk fc fz fs fo : Bool)  : Ret Tryz.prog 22 ([.agg [.int .u64 (7), .int .u64 q1, .int .u64 q2, .int .u64 q3, .int .u64 q4, .int .u64 q5, .int .u64 q6, .int .u64 q7, .int .u64 q8, .int .u64 q9, .int .u64 q10, .int .u64 q11, .int .u64 q12, .int .u64 q13, .int .u64 q14, .int .u64 q15, .bool fk, .bool fc, .bool fz, .bool fs, .bool fo, .int .u64 (at')]]) (.lst .no 1 [.int .u64 q7]) := by
 have c0 := @rnum15_ok 7 q1 q2 q3 q4 q5 q6 q7 q8 q9 q10 q11 q12 q13 q14 q15 at' fk fc fz fs fo
 exact (o22 (d := .lst .no 1 [.int .u64 q7]) [.ret _ _ _ c0, tF, .inl, tT, tT, tF, tF, tT] (by kernel_rfl)).to (by simp [wk, wkL, wkO])
theorem rargs_8_ok (q1 q2 q3 q4 q5 q6 q7 q8 q9 q10 q11 q12 q13 q14 q15 at' : Int) (fk fc fz fs fo : Bool)  : Ret Tryz.prog 22 ([.agg [.int .u64 (8), .int .u64 q1, .int .u64 q2, .int .u64 q3, .int .u64 q4, .int .u64 q5, .int .u64 q6, .int .u64 q7, .int .u64 q8, .int .u64 q9, .int .u64 q10, .int .u64 q11, .int .u64 q12, .int .u64 q13, .int .u64 q14, .int .u64 q15, .bool fk, .bool fc, .bool fz, .bool fs, .bool fo, .int .u64 (at')]]) (.lst .no 1 [.int .u64 q7, .int .u64 q6]) := by
 have c0 := @rnum15_ok 8 q1 q2 q3 q4 q5 q6 q7 q8 q9 q10 q11 q12 q13 q14 q15 at' fk fc fz fs fo
 exact (o22 (d := .lst .no 1 [.int .u64 q7, .int .u64 q6]) [.ret _ _ _ c0, tF, .inl, tT, tT, tF, tF, tT] (by kernel_rfl)).to (by simp [wk, wkL, wkO])
theorem rargs_9_ok (q1 q2 q3 q4 q5 q6 q7 q8 q9 q10 q11 q12 q13 q14 q15 at' : Int) (fk fc fz fs fo : Bool)  : Ret Tryz.prog 22 ([.agg [.int .u64 (9), .int .u64 q1, .int .u64 q2, .int .u64 q3, .int .u64 q4, .int .u64 q5, .int .u64 q6, .int .u64 q7, .int .u64 q8, .int .u64 q9, .int .u64 q10, .int .u64 q11, .int .u64 q12, .int .u64 q13, .int .u64 q14, .int .u64 q15, .bool fk, .bool fc, .bool fz, .bool fs, .bool fo, .int .u64 (at')]]) (.lst .no 1 [.int .u64 q7, .int .u64 q6, .int .u64 q2]) := by
 have c0 := @rnum15_ok 9 q1 q2 q3 q4 q5 q6 q7 q8 q9 q10 q11 q12 q13 q14 q15 at' fk fc fz fs fo
 exact (o22 (d := .lst .no 1 [.int .u64 q7, .int .u64 q6, .int .u64 q2]) [.ret _ _ _ c0, tF, .inl, tT, tT, tF, tF, tT] (by kernel_rfl)).to (by simp [wk, wkL, wkO])
theorem rargs_10_ok (q1 q2 q3 q4 q5 q6 q7 q8 q9 q10 q11 q12 q13 q14 q15 at' : Int) (fk fc fz fs fo : Bool)  : Ret Tryz.prog 22 ([.agg [.int .u64 (10), .int .u64 q1, .int .u64 q2, .int .u64 q3, .int .u64 q4, .int .u64 q5, .int .u64 q6, .int .u64 q7, .int .u64 q8, .int .u64 q9, .int .u64 q10, .int .u64 q11, .int .u64 q12, .int .u64 q13, .int .u64 q14, .int .u64 q15, .bool fk, .bool fc, .bool fz, .bool fs, .bool fo, .int .u64 (at')]]) (.lst .no 1 [.int .u64 q7, .int .u64 q6, .int .u64 q2, .int .u64 q10]) := by
 have c0 := @rnum15_ok 10 q1 q2 q3 q4 q5 q6 q7 q8 q9 q10 q11 q12 q13 q14 q15 at' fk fc fz fs fo
 exact (o22 (d := .lst .no 1 [.int .u64 q7, .int .u64 q6, .int .u64 q2, .int .u64 q10]) [.ret _ _ _ c0, tF, .inl, tT, tT, tF, tF, tT] (by kernel_rfl)).to (by simp [wk, wkL, wkO])
theorem rargs_11_ok (q1 q2 q3 q4 q5 q6 q7 q8 q9 q10 q11 q12 q13 q14 q15 at' : Int) (fk fc fz fs fo : Bool)  : Ret Tryz.prog 22 ([.agg [.int .u64 (11), .int .u64 q1, .int .u64 q2, .int .u64 q3, .int .u64 q4, .int .u64 q5, .int .u64 q6, .int .u64 q7, .int .u64 q8, .int .u64 q9, .int .u64 q10, .int .u64 q11, .int .u64 q12, .int .u64 q13, .int .u64 q14, .int .u64 q15, .bool fk, .bool fc, .bool fz, .bool fs, .bool fo, .int .u64 (at')]]) (.lst .no 1 [.int .u64 q7, .int .u64 q6, .int .u64 q2, .int .u64 q10, .int .u64 q8]) := by
 have c0 := @rnum15_ok 11 q1 q2 q3 q4 q5 q6 q7 q8 q9 q10 q11 q12 q13 q14 q15 at' fk fc fz fs fo
 exact (o22 (d := .lst .no 1 [.int .u64 q7, .int .u64 q6, .int .u64 q2, .int .u64 q10, .int .u64 q8]) [.ret _ _ _ c0, tF, .inl, tT, tT, tF, tF, tT] (by kernel_rfl)).to (by simp [wk, wkL, wkO])
theorem rargs_12_ok (q1 q2 q3 q4 q5 q6 q7 q8 q9 q10 q11 q12 q13 q14 q15 at' : Int) (fk fc fz fs fo : Bool)  : Ret Tryz.prog 22 ([.agg [.int .u64 (12), .int .u64 q1, .int .u64 q2, .int .u64 q3, .int .u64 q4, .int .u64 q5, .int .u64 q6, .int .u64 q7, .int .u64 q8, .int .u64 q9, .int .u64 q10, .int .u64 q11, .int .u64 q12, .int .u64 q13, .int .u64 q14, .int .u64 q15, .bool fk, .bool fc, .bool fz, .bool fs, .bool fo, .int .u64 (at')]]) (.lst .no 1 []) := by
 have c0 := @rnum15_ok 12 q1 q2 q3 q4 q5 q6 q7 q8 q9 q10 q11 q12 q13 q14 q15 at' fk fc fz fs fo
 exact (o22 (d := .lst .no 1 []) [.ret _ _ _ c0, tF, .inl, tT, tT, tF, tF, tT] (by kernel_rfl)).to (by simp [wk, wkL, wkO])
theorem rargs_13_ok (q1 q2 q3 q4 q5 q6 q7 q8 q9 q10 q11 q12 q13 q14 q15 at' : Int) (fk fc fz fs fo : Bool)  : Ret Tryz.prog 22 ([.agg [.int .u64 (13), .int .u64 q1, .int .u64 q2, .int .u64 q3, .int .u64 q4, .int .u64 q5, .int .u64 q6, .int .u64 q7, .int .u64 q8, .int .u64 q9, .int .u64 q10, .int .u64 q11, .int .u64 q12, .int .u64 q13, .int .u64 q14, .int .u64 q15, .bool fk, .bool fc, .bool fz, .bool fs, .bool fo, .int .u64 (at')]]) (.lst .no 1 [.int .u64 q7]) := by
 have c0 := @rnum15_ok 13 q1 q2 q3 q4 q5 q6 q7 q8 q9 q10 q11 q12 q13 q14 q15 at' fk fc fz fs fo
 exact (o22 (d := .lst .no 1 [.int .u64 q7]) [.ret _ _ _ c0, tF, .inl, tT, tT, tF, tF, tT] (by kernel_rfl)).to (by simp [wk, wkL, wkO])
theorem rargs_14_ok (q1 q2 q3 q4 q5 q6 q7 q8 q9 q10 q11 q12 q13 q14 q15 at' : Int) (fk fc fz fs fo : Bool)  : Ret Tryz.prog 22 ([.agg [.int .u64 (14), .int .u64 q1, .int .u64 q2, .int .u64 q3, .int .u64 q4, .int .u64 q5, .int .u64 q6, .int .u64 q7, .int .u64 q8, .int .u64 q9, .int .u64 q10, .int .u64 q11, .int .u64 q12, .int .u64 q13, .int .u64 q14, .int .u64 q15, .bool fk, .bool fc, .bool fz, .bool fs, .bool fo, .int .u64 (at')]]) (.lst .no 1 [.int .u64 q7, .int .u64 q6]) := by
 have c0 := @rnum15_ok 14 q1 q2 q3 q4 q5 q6 q7 q8 q9 q10 q11 q12 q13 q14 q15 at' fk fc fz fs fo
 exact (o22 (d := .lst .no 1 [.int .u64 q7, .int .u64 q6]) [.ret _ _ _ c0, tF, .inl, tT, tT, tF, tF, tT] (by kernel_rfl)).to (by simp [wk, wkL, wkO])
theorem rargs_15_ok (q1 q2 q3 q4 q5 q6 q7 q8 q9 q10 q11 q12 q13 q14 q15 at' : Int) (fk fc fz fs fo : Bool)  : Ret Tryz.prog 22 ([.agg [.int .u64 (15), .int .u64 q1, .int .u64 q2, .int .u64 q3, .int .u64 q4, .int .u64 q5, .int .u64 q6, .int .u64 q7, .int .u64 q8, .int .u64 q9, .int .u64 q10, .int .u64 q11, .int .u64 q12, .int .u64 q13, .int .u64 q14, .int .u64 q15, .bool fk, .bool fc, .bool fz, .bool fs, .bool fo, .int .u64 (at')]]) (.lst .no 1 [.int .u64 q7, .int .u64 q6, .int .u64 q2]) := by
 have c0 := @rnum15_ok 15 q1 q2 q3 q4 q5 q6 q7 q8 q9 q10 q11 q12 q13 q14 q15 at' fk fc fz fs fo
 exact (o22 (d := .lst .no 1 [.int .u64 q7, .int .u64 q6, .int .u64 q2]) [.ret _ _ _ c0, tF, .inl, tT, tT, tF, tF, tT] (by kernel_rfl)).to (by simp [wk, wkL, wkO])
theorem rargs_no_ok (q0 q1 q2 q3 q4 q5 q6 q7 q8 q9 q10 q11 q12 q13 q14 q15 at' : Int) (fk fc fz fs fo : Bool) (hn : 16 ≤ q0) : Ret Tryz.prog 22 ([.agg [.int .u64 q0, .int .u64 q1, .int .u64 q2, .int .u64 q3, .int .u64 q4, .int .u64 q5, .int .u64 q6, .int .u64 q7, .int .u64 q8, .int .u64 q9, .int .u64 q10, .int .u64 q11, .int .u64 q12, .int .u64 q13, .int .u64 q14, .int .u64 q15, .bool fk, .bool fc, .bool fz, .bool fs, .bool fo, .int .u64 (at')]]) (.lst .no 1 []) := by
 have c0 := @rnum15_ok q0 q1 q2 q3 q4 q5 q6 q7 q8 q9 q10 q11 q12 q13 q14 q15 at' fk fc fz fs fo
 exact (o22 (d := .lst .tight 0 []) [.ret _ _ _ c0, tC (nt (@numB_f q0 hn))] (by kernel_rfl)).to (by simp [wk, wkL, wkO])
theorem rtocc_0_ok  : Ret Tryz.prog 17 ([.int .i8 0]) (.tup [.int .i8 (toccM 0).1, .bool (toccM 0).2]) := by
 exact (o17 (d := .tup [.int .i8 4, .bool true]) [tT] (by kernel_rfl)).to (by first | rfl | exact ⟨rfl, rfl, trivial⟩ | (simp [wk, wkL, toccM]; done))
theorem rtocc_1_ok  : Ret Tryz.prog 17 ([.int .i8 1]) (.tup [.int .i8 (toccM 1).1, .bool (toccM 1).2]) := by
 exact (o17 (d := .tup [.int .i8 5, .bool true]) [tF, tT, tT] (by kernel_rfl)).to (by first | rfl | exact ⟨rfl, rfl, trivial⟩ | (simp [wk, wkL, toccM]; done))
theorem rtocc_2_ok  : Ret Tryz.prog 17 ([.int .i8 2]) (.tup [.int .i8 (toccM 2).1, .bool (toccM 2).2]) := by
 exact (o17 (d := .tup [.int .i8 7, .bool true]) [tF, tF, tF, tT] (by kernel_rfl)).to (by first | rfl | exact ⟨rfl, rfl, trivial⟩ | (simp [wk, wkL, toccM]; done))
theorem rtocc_3_ok  : Ret Tryz.prog 17 ([.int .i8 3]) (.tup [.int .i8 (toccM 3).1, .bool (toccM 3).2]) := by
 exact (o17 (d := .tup [.int .i8 3, .bool true]) [tF, tF, tF, tF, tT] (by kernel_rfl)).to (by first | rfl | exact ⟨rfl, rfl, trivial⟩ | (simp [wk, wkL, toccM]; done))
theorem rtocc_4_ok  : Ret Tryz.prog 17 ([.int .i8 4]) (.tup [.int .i8 (toccM 4).1, .bool (toccM 4).2]) := by
 exact (o17 (d := .tup [.int .i8 2, .bool true]) [tF, tF, tF, tF, tF, tT] (by kernel_rfl)).to (by first | rfl | exact ⟨rfl, rfl, trivial⟩ | (simp [wk, wkL, toccM]; done))
theorem rtocc_5_ok  : Ret Tryz.prog 17 ([.int .i8 5]) (.tup [.int .i8 (toccM 5).1, .bool (toccM 5).2]) := by
 exact (o17 (d := .tup [.int .i8 6, .bool true]) [tF, tF, tF, tF, tF, tF, tT] (by kernel_rfl)).to (by first | rfl | exact ⟨rfl, rfl, trivial⟩ | (simp [wk, wkL, toccM]; done))
theorem rtocc_6_ok  : Ret Tryz.prog 17 ([.int .i8 6]) (.tup [.int .i8 (toccM 6).1, .bool (toccM 6).2]) := by
 exact (o17 (d := .tup [.int .i8 15, .bool true]) [tF, tF, tF, tF, tF, tF, tF, tT] (by kernel_rfl)).to (by first | rfl | exact ⟨rfl, rfl, trivial⟩ | (simp [wk, wkL, toccM]; done))
theorem rtocc_7_ok  : Ret Tryz.prog 17 ([.int .i8 7]) (.tup [.int .i8 (toccM 7).1, .bool (toccM 7).2]) := by
 exact (o17 (d := .tup [.int .i8 13, .bool true]) (List.replicate 8 tF ++ [tT]) (by kernel_rfl)).to (by first | rfl | exact ⟨rfl, rfl, trivial⟩ | (simp [wk, wkL, toccM]; done))
theorem rtocc_8_ok  : Ret Tryz.prog 17 ([.int .i8 8]) (.tup [.int .i8 (toccM 8).1, .bool (toccM 8).2]) := by
 exact (o17 (d := .tup [.int .i8 12, .bool true]) (List.replicate 9 tF ++ [tT]) (by kernel_rfl)).to (by first | rfl | exact ⟨rfl, rfl, trivial⟩ | (simp [wk, wkL, toccM]; done))
theorem rtocc_9_ok  : Ret Tryz.prog 17 ([.int .i8 9]) (.tup [.int .i8 (toccM 9).1, .bool (toccM 9).2]) := by
 exact (o17 (d := .tup [.int .i8 14, .bool true]) (List.replicate 10 tF ++ [tT]) (by kernel_rfl)).to (by first | rfl | exact ⟨rfl, rfl, trivial⟩ | (simp [wk, wkL, toccM]; done))
theorem rtocc_10_ok  : Ret Tryz.prog 17 ([.int .i8 10]) (.tup [.int .i8 (toccM 10).1, .bool (toccM 10).2]) := by
 exact (o17 (d := .tup [.int .i8 5, .bool true]) [tF, tF, tT] (by kernel_rfl)).to (by first | rfl | exact ⟨rfl, rfl, trivial⟩ | (simp [wk, wkL, toccM]; done))
theorem rtocc_out_ok (cc : Int) (h : decide (0 ≤ cc ∧ cc ≤ 10) = false) : Ret Tryz.prog 17 ([.int .i8 cc]) (.tup [.int .i8 0, .bool false]) := by
 exact (o17 (d := .tup [.int .i8 0, .bool false]) [tC (by (simp only [sl2] at *; omega) : (cc == 0) = false), tC (by (simp only [sl2] at *; omega) : (cc == 1) = false), tC (by (simp only [sl2] at *; omega) : (cc == 10) = false), tC (by (simp only [sl2] at *; omega) : (cc == 2) = false), tC (by (simp only [sl2] at *; omega) : (cc == 3) = false), tC (by (simp only [sl2] at *; omega) : (cc == 4) = false), tC (by (simp only [sl2] at *; omega) : (cc == 5) = false), tC (by (simp only [sl2] at *; omega) : (cc == 6) = false), tC (by (simp only [sl2] at *; omega) : (cc == 7) = false), tC (by (simp only [sl2] at *; omega) : (cc == 8) = false), tC (by (simp only [sl2] at *; omega) : (cc == 9) = false)] (by kernel_rfl)).to (by simp [wk, wkL])
theorem rcc15_ok (cc : Int) : Ret Tryz.prog 15 ([.int .i8 cc]) (.tup [.int .i8 (ccM' cc).1, .bool (ccM' cc).2]) := by
 have c0 := @rtocc_0_ok
 let E1 : EL := [.go 64, tT, .ret _ _ _ c0]
 rcases bft (4 == cc) with h1 | h1
 ·exact (o15 (d := .tup [.int .i8 0, .bool true]) (E1 ++ [tC h1]) (by kernel_rfl)).to (by clear E1; simp only [beq_iff_eq, beq_eq_false_iff_ne, ne_eq] at *; first | exact cc_out (by omega) (by omega) (by omega) (by omega) (by omega) (by omega) (by omega) (by omega) (by omega) (by omega) | (subst_vars; simp [wk, wkL, ccM']; done))
 have c2 := @rtocc_1_ok
 let E2 : EL := E1 ++ [tC h1, tT, .ret _ _ _ c2]
 rcases bft (5 == cc) with h3 | h3
 ·exact (o15 (d := .tup [.int .i8 1, .bool true]) (E2 ++ [tC h3]) (by kernel_rfl)).to (by clear E1 E2; simp only [beq_iff_eq, beq_eq_false_iff_ne, ne_eq] at *; first | exact cc_out (by omega) (by omega) (by omega) (by omega) (by omega) (by omega) (by omega) (by omega) (by omega) (by omega) | (subst_vars; simp [wk, wkL, ccM']; done))
 have c4 := @rtocc_2_ok
 let E3 : EL := E2 ++ [tC h3, tT, .ret _ _ _ c4]
 rcases bft (7 == cc) with h5 | h5
 ·exact (o15 (d := .tup [.int .i8 2, .bool true]) (E3 ++ [tC h5]) (by kernel_rfl)).to (by clear E1 E2 E3; simp only [beq_iff_eq, beq_eq_false_iff_ne, ne_eq] at *; first | exact cc_out (by omega) (by omega) (by omega) (by omega) (by omega) (by omega) (by omega) (by omega) (by omega) (by omega) | (subst_vars; simp [wk, wkL, ccM']; done))
 have c6 := @rtocc_3_ok
 let E4 : EL := E3 ++ [tC h5, tT, .ret _ _ _ c6]
 rcases bft (3 == cc) with h7 | h7
 ·exact (o15 (d := .tup [.int .i8 3, .bool true]) (E4 ++ [tC h7]) (by kernel_rfl)).to (by clear E1 E2 E3 E4; simp only [beq_iff_eq, beq_eq_false_iff_ne, ne_eq] at *; first | exact cc_out (by omega) (by omega) (by omega) (by omega) (by omega) (by omega) (by omega) (by omega) (by omega) (by omega) | (subst_vars; simp [wk, wkL, ccM']; done))
 have c8 := @rtocc_4_ok
 let E5 : EL := E4 ++ [tC h7, tT, .ret _ _ _ c8]
 rcases bft (2 == cc) with h9 | h9
 ·exact (o15 (d := .tup [.int .i8 4, .bool true]) (E5 ++ [tC h9]) (by kernel_rfl)).to (by clear E1 E2 E3 E4 E5; simp only [beq_iff_eq, beq_eq_false_iff_ne, ne_eq] at *; first | exact cc_out (by omega) (by omega) (by omega) (by omega) (by omega) (by omega) (by omega) (by omega) (by omega) (by omega) | (subst_vars; simp [wk, wkL, ccM']; done))
 have c10 := @rtocc_5_ok
 let E6 : EL := E5 ++ [tC h9, tT, .ret _ _ _ c10]
 rcases bft (6 == cc) with h11 | h11
 ·exact (o15 (d := .tup [.int .i8 5, .bool true]) (E6 ++ [tC h11]) (by kernel_rfl)).to (by clear E1 E2 E3 E4 E5 E6; simp only [beq_iff_eq, beq_eq_false_iff_ne, ne_eq] at *; first | exact cc_out (by omega) (by omega) (by omega) (by omega) (by omega) (by omega) (by omega) (by omega) (by omega) (by omega) | (subst_vars; simp [wk, wkL, ccM']; done))
 have c12 := @rtocc_6_ok
 let E7 : EL := E6 ++ [tC h11, tT, .ret _ _ _ c12]
 rcases bft (15 == cc) with h13 | h13
 ·exact (o15 (d := .tup [.int .i8 6, .bool true]) (E7 ++ [tC h13]) (by kernel_rfl)).to (by clear E1 E2 E3 E4 E5 E6 E7; simp only [beq_iff_eq, beq_eq_false_iff_ne, ne_eq] at *; first | exact cc_out (by omega) (by omega) (by omega) (by omega) (by omega) (by omega) (by omega) (by omega) (by omega) (by omega) | (subst_vars; simp [wk, wkL, ccM']; done))
 have c14 := @rtocc_7_ok
 let E8 : EL := E7 ++ [tC h13, tT, .ret _ _ _ c14]
 rcases bft (13 == cc) with h15 | h15
 ·exact (o15 (d := .tup [.int .i8 7, .bool true]) (E8 ++ [tC h15]) (by kernel_rfl)).to (by clear E1 E2 E3 E4 E5 E6 E7 E8; simp only [beq_iff_eq, beq_eq_false_iff_ne, ne_eq] at *; first | exact cc_out (by omega) (by omega) (by omega) (by omega) (by omega) (by omega) (by omega) (by omega) (by omega) (by omega) | (subst_vars; simp [wk, wkL, ccM']; done))
 have c16 := @rtocc_8_ok
 rcases bft (12 == cc) with h17 | h17
 ·exact (o15 (d := .tup [.int .i8 8, .bool true]) (E8 ++ [tC h15, tT, .ret _ _ _ c16, tC h17]) (by kernel_rfl)).to (by clear E1 E2 E3 E4 E5 E6 E7 E8; simp only [beq_iff_eq, beq_eq_false_iff_ne, ne_eq] at *; first | exact cc_out (by omega) (by omega) (by omega) (by omega) (by omega) (by omega) (by omega) (by omega) (by omega) (by omega) | (subst_vars; simp [wk, wkL, ccM']; done))
 have c18 := @rtocc_9_ok
 rcases bft (14 == cc) with h19 | h19
 ·exact (o15 (d := .tup [.int .i8 9, .bool true]) (E8 ++ [tC h15, tT, .ret _ _ _ c16, tC h17, tT, .ret _ _ _ c18, tC h19]) (by kernel_rfl)).to (by clear E1 E2 E3 E4 E5 E6 E7 E8; simp only [beq_iff_eq, beq_eq_false_iff_ne, ne_eq] at *; first | exact cc_out (by omega) (by omega) (by omega) (by omega) (by omega) (by omega) (by omega) (by omega) (by omega) (by omega) | (subst_vars; simp [wk, wkL, ccM']; done))
 exact (o15 (d := .tup [.int .i8 0, .bool false]) (E8 ++ [tC h15, tT, .ret _ _ _ c16, tC h17, tT, .ret _ _ _ c18, tC h19, tF]) (by kernel_rfl)).to (by clear E1 E2 E3 E4 E5 E6 E7 E8; simp only [beq_iff_eq, beq_eq_false_iff_ne, ne_eq] at *; first | exact cc_out (by omega) (by omega) (by omega) (by omega) (by omega) (by omega) (by omega) (by omega) (by omega) (by omega) | (subst_vars; simp [wk, wkL, ccM']; done))
end Go.Proofs.YtojgmjfcfpclbaaGreat

namespace Go.Proofs.YtojgmjfcfpclbaaGreat
open Go Go.Ev
set_option maxRecDepth 100000
section
variable (q0 q1 q2 q3 q4 q5 q6 q7 q8 q9 q10 q11 q12 q13 q14 q15 pc : Int) (fk fc fz fs fo : Bool) (op w dst src base disp imm cc ld : Int)
theorem mayX_wid {op w dst src base disp imm cc : Int} (h : mayX op w dst src base disp imm cc = true) (ho : op = 26 ∨ op = 27) : widthM w = true := by
  have hs := (mayX_parts h).2
  rcases ho with rfl | rfl
  · rw [show shapeM 26 = 7 from rfl] at hs
    simp [mayS] at hs; exact hs.1
  · rw [show shapeM 27 = 8 from rfl] at hs
    simp [mayS] at hs; exact hs.1
theorem exec_c_ok (ho : op ≤ 127) : Ret Tryz.prog 8 [.agg [.int .u64 q0, .int .u64 q1, .int .u64 q2, .int .u64 q3, .int .u64 q4, .int .u64 q5, .int .u64 q6, .int .u64 q7, .int .u64 q8, .int .u64 q9, .int .u64 q10, .int .u64 q11, .int .u64 q12, .int .u64 q13, .int .u64 q14, .int .u64 q15, .bool fk, .bool fc, .bool fz, .bool fs, .bool fo, .int .u64 pc], xD op w dst src base disp imm cc, .int .u64 ld] (.tup [(execM (⟨q0, q1, q2, q3, q4, q5, q6, q7, q8, q9, q10, q11, q12, q13, q14, q15, fk, fc, fz, fs, fo, pc⟩ : MachS) (⟨op, w, dst, src, base, disp, imm, cc⟩ : XS) ld).d, .int .i64 (execE (⟨q0, q1, q2, q3, q4, q5, q6, q7, q8, q9, q10, q11, q12, q13, q14, q15, fk, fc, fz, fs, fo, pc⟩ : MachS) (⟨op, w, dst, src, base, disp, imm, cc⟩ : XS) ld)]) := exec_s_ok (⟨q0, q1, q2, q3, q4, q5, q6, q7, q8, q9, q10, q11, q12, q13, q14, q15, fk, fc, fz, fs, fo, pc⟩ : MachS) (⟨op, w, dst, src, base, disp, imm, cc⟩ : XS) ld ho
theorem addr_c_ok (ho : op ≤ 127) : Ret Tryz.prog 10 [.agg [.int .u64 q0, .int .u64 q1, .int .u64 q2, .int .u64 q3, .int .u64 q4, .int .u64 q5, .int .u64 q6, .int .u64 q7, .int .u64 q8, .int .u64 q9, .int .u64 q10, .int .u64 q11, .int .u64 q12, .int .u64 q13, .int .u64 q14, .int .u64 q15, .bool fk, .bool fc, .bool fz, .bool fs, .bool fo, .int .u64 pc], xD op w dst src base disp imm cc] (.tup [.int .u64 (addrS (⟨q0, q1, q2, q3, q4, q5, q6, q7, q8, q9, q10, q11, q12, q13, q14, q15, fk, fc, fz, fs, fo, pc⟩ : MachS) (⟨op, w, dst, src, base, disp, imm, cc⟩ : XS)).1, .int .i64 (addrS (⟨q0, q1, q2, q3, q4, q5, q6, q7, q8, q9, q10, q11, q12, q13, q14, q15, fk, fc, fz, fs, fo, pc⟩ : MachS) (⟨op, w, dst, src, base, disp, imm, cc⟩ : XS)).2.1, .bool (addrS (⟨q0, q1, q2, q3, q4, q5, q6, q7, q8, q9, q10, q11, q12, q13, q14, q15, fk, fc, fz, fs, fo, pc⟩ : MachS) (⟨op, w, dst, src, base, disp, imm, cc⟩ : XS)).2.2]) := by
  unfold addrS
  cases hm : mayX op w dst src base disp imm cc
  · rw [if_neg (by rintro ⟨h, _⟩; exact absurd (hm.symm.trans h) (by decide)), if_neg (by rintro ⟨h, _⟩; exact absurd (hm.symm.trans h) (by decide))]
    exact addr_no_ok q0 q1 q2 q3 q4 q5 q6 q7 q8 q9 q10 q11 q12 q13 q14 q15 pc fk fc fz fs fo op w dst src base disp imm cc ho hm
  · obtain ⟨⟨d0, d1, s0, s1, b0, b1, _⟩, hs⟩ := mayX_parts hm
    by_cases h6 : op = 26
    · subst h6
      rw [if_pos ⟨hm, .inl rfl⟩]
      have hw := width_cases (mayX_wid hm (.inl rfl))
      exact addr_26_ok q0 q1 q2 q3 q4 q5 q6 q7 q8 q9 q10 q11 q12 q13 q14 q15 pc fk fc fz fs fo w dst src base disp imm cc d0 d1 s0 s1 b0 b1 (by omega) (by omega) hm
    · by_cases h7 : op = 27
      · subst h7
        rw [if_pos ⟨hm, .inr rfl⟩]
        have hw := width_cases (mayX_wid hm (.inr rfl))
        exact addr_27_ok q0 q1 q2 q3 q4 q5 q6 q7 q8 q9 q10 q11 q12 q13 q14 q15 pc fk fc fz fs fo w dst src base disp imm cc d0 d1 s0 s1 b0 b1 (by omega) (by omega) hm
      · rw [if_neg (by rintro ⟨_, h | h⟩ <;> contradiction)]
        by_cases h8 : op = 30
        · subst h8
          rw [if_pos ⟨hm, rfl⟩]
          exact addr_30_ok q0 q1 q2 q3 q4 q5 q6 q7 q8 q9 q10 q11 q12 q13 q14 q15 pc fk fc fz fs fo w dst src base disp imm cc d0 d1 s0 s1 b0 b1 hm
        · rw [if_neg (by rintro ⟨_, h⟩; contradiction)]
          exact addr_else_ok q0 q1 q2 q3 q4 q5 q6 q7 q8 q9 q10 q11 q12 q13 q14 q15 pc fk fc fz fs fo op w dst src base disp imm cc ho (beq_eq_false_iff_ne.mpr h6) (beq_eq_false_iff_ne.mpr h7) (beq_eq_false_iff_ne.mpr h8) hm
theorem stored_c_ok (ho : op ≤ 127) : Ret Tryz.prog 18 [.agg [.int .u64 q0, .int .u64 q1, .int .u64 q2, .int .u64 q3, .int .u64 q4, .int .u64 q5, .int .u64 q6, .int .u64 q7, .int .u64 q8, .int .u64 q9, .int .u64 q10, .int .u64 q11, .int .u64 q12, .int .u64 q13, .int .u64 q14, .int .u64 q15, .bool fk, .bool fc, .bool fz, .bool fs, .bool fo, .int .u64 pc], xD op w dst src base disp imm cc] (.int .u64 (storedS (⟨q0, q1, q2, q3, q4, q5, q6, q7, q8, q9, q10, q11, q12, q13, q14, q15, fk, fc, fz, fs, fo, pc⟩ : MachS) (⟨op, w, dst, src, base, disp, imm, cc⟩ : XS))) := by
  unfold storedS
  cases hm : mayX op w dst src base disp imm cc
  · rw [if_neg (by rintro ⟨h, _⟩; exact absurd (hm.symm.trans h) (by decide))]
    exact stored_no_ok q0 q1 q2 q3 q4 q5 q6 q7 q8 q9 q10 q11 q12 q13 q14 q15 pc fk fc fz fs fo op w dst src base disp imm cc ho hm
  · obtain ⟨⟨d0, d1, s0, s1, b0, b1, _⟩, hs⟩ := mayX_parts hm
    by_cases h7 : op = 27
    · subst h7
      rw [if_pos ⟨hm, rfl⟩]
      exact stored_27_ok q0 q1 q2 q3 q4 q5 q6 q7 q8 q9 q10 q11 q12 q13 q14 q15 pc fk fc fz fs fo w dst src base disp imm cc d0 d1 s0 s1 b0 b1 (mayX_wid hm (.inr rfl)) hm
    · rw [if_neg (by rintro ⟨_, h⟩; contradiction)]
      exact stored_else_ok q0 q1 q2 q3 q4 q5 q6 q7 q8 q9 q10 q11 q12 q13 q14 q15 pc fk fc fz fs fo op w dst src base disp imm cc ho (beq_eq_false_iff_ne.mpr h7)
theorem args_c_ok (h0 : 0 ≤ q0) : Ret Tryz.prog 21 [.agg [.int .u64 q0, .int .u64 q1, .int .u64 q2, .int .u64 q3, .int .u64 q4, .int .u64 q5, .int .u64 q6, .int .u64 q7, .int .u64 q8, .int .u64 q9, .int .u64 q10, .int .u64 q11, .int .u64 q12, .int .u64 q13, .int .u64 q14, .int .u64 q15, .bool fk, .bool fc, .bool fz, .bool fs, .bool fo, .int .u64 pc]] (.lst .no 1 (wD (argsS (⟨q0, q1, q2, q3, q4, q5, q6, q7, q8, q9, q10, q11, q12, q13, q14, q15, fk, fc, fz, fs, fo, pc⟩ : MachS)))) := by
  by_cases h : 16 ≤ q0
  · unfold argsS
    rw [if_pos h]
    exact args_no_ok q0 q1 q2 q3 q4 q5 q6 q7 q8 q9 q10 q11 q12 q13 q14 q15 pc fk fc fz fs fo h
  · have hc : q0 = 0 ∨ q0 = 1 ∨ q0 = 2 ∨ q0 = 3 ∨ q0 = 4 ∨ q0 = 5 ∨ q0 = 6 ∨ q0 = 7 ∨ q0 = 8 ∨ q0 = 9 ∨ q0 = 10 ∨ q0 = 11 ∨ q0 = 12 ∨ q0 = 13 ∨ q0 = 14 ∨ q0 = 15 := by omega
    rcases hc with rfl | rfl | rfl | rfl | rfl | rfl | rfl | rfl | rfl | rfl | rfl | rfl | rfl | rfl | rfl | rfl
    · have e : wD (argsS ⟨0, q1, q2, q3, q4, q5, q6, q7, q8, q9, q10, q11, q12, q13, q14, q15, fk, fc, fz, fs, fo, pc⟩) = [] := by simp [argsS, wD]
      rw [e]
      exact args_0_ok q1 q2 q3 q4 q5 q6 q7 q8 q9 q10 q11 q12 q13 q14 q15 pc fk fc fz fs fo
    · have e : wD (argsS ⟨1, q1, q2, q3, q4, q5, q6, q7, q8, q9, q10, q11, q12, q13, q14, q15, fk, fc, fz, fs, fo, pc⟩) = [.int .u64 q7] := by simp [argsS, wD]
      rw [e]
      exact args_1_ok q1 q2 q3 q4 q5 q6 q7 q8 q9 q10 q11 q12 q13 q14 q15 pc fk fc fz fs fo
    · have e : wD (argsS ⟨2, q1, q2, q3, q4, q5, q6, q7, q8, q9, q10, q11, q12, q13, q14, q15, fk, fc, fz, fs, fo, pc⟩) = [.int .u64 q7, .int .u64 q6] := by simp [argsS, wD]
      rw [e]
      exact args_2_ok q1 q2 q3 q4 q5 q6 q7 q8 q9 q10 q11 q12 q13 q14 q15 pc fk fc fz fs fo
    · have e : wD (argsS ⟨3, q1, q2, q3, q4, q5, q6, q7, q8, q9, q10, q11, q12, q13, q14, q15, fk, fc, fz, fs, fo, pc⟩) = [.int .u64 q7, .int .u64 q6, .int .u64 q2] := by simp [argsS, wD]
      rw [e]
      exact args_3_ok q1 q2 q3 q4 q5 q6 q7 q8 q9 q10 q11 q12 q13 q14 q15 pc fk fc fz fs fo
    · have e : wD (argsS ⟨4, q1, q2, q3, q4, q5, q6, q7, q8, q9, q10, q11, q12, q13, q14, q15, fk, fc, fz, fs, fo, pc⟩) = [.int .u64 q7, .int .u64 q6, .int .u64 q2, .int .u64 q10] := by simp [argsS, wD]
      rw [e]
      exact args_4_ok q1 q2 q3 q4 q5 q6 q7 q8 q9 q10 q11 q12 q13 q14 q15 pc fk fc fz fs fo
    · have e : wD (argsS ⟨5, q1, q2, q3, q4, q5, q6, q7, q8, q9, q10, q11, q12, q13, q14, q15, fk, fc, fz, fs, fo, pc⟩) = [.int .u64 q7, .int .u64 q6, .int .u64 q2, .int .u64 q10, .int .u64 q8] := by simp [argsS, wD]
      rw [e]
      exact args_5_ok q1 q2 q3 q4 q5 q6 q7 q8 q9 q10 q11 q12 q13 q14 q15 pc fk fc fz fs fo
    · have e : wD (argsS ⟨6, q1, q2, q3, q4, q5, q6, q7, q8, q9, q10, q11, q12, q13, q14, q15, fk, fc, fz, fs, fo, pc⟩) = [] := by simp [argsS, wD]
      rw [e]
      exact args_6_ok q1 q2 q3 q4 q5 q6 q7 q8 q9 q10 q11 q12 q13 q14 q15 pc fk fc fz fs fo
    · have e : wD (argsS ⟨7, q1, q2, q3, q4, q5, q6, q7, q8, q9, q10, q11, q12, q13, q14, q15, fk, fc, fz, fs, fo, pc⟩) = [.int .u64 q7] := by simp [argsS, wD]
      rw [e]
      exact args_7_ok q1 q2 q3 q4 q5 q6 q7 q8 q9 q10 q11 q12 q13 q14 q15 pc fk fc fz fs fo
    · have e : wD (argsS ⟨8, q1, q2, q3, q4, q5, q6, q7, q8, q9, q10, q11, q12, q13, q14, q15, fk, fc, fz, fs, fo, pc⟩) = [.int .u64 q7, .int .u64 q6] := by simp [argsS, wD]
      rw [e]
      exact args_8_ok q1 q2 q3 q4 q5 q6 q7 q8 q9 q10 q11 q12 q13 q14 q15 pc fk fc fz fs fo
    · have e : wD (argsS ⟨9, q1, q2, q3, q4, q5, q6, q7, q8, q9, q10, q11, q12, q13, q14, q15, fk, fc, fz, fs, fo, pc⟩) = [.int .u64 q7, .int .u64 q6, .int .u64 q2] := by simp [argsS, wD]
      rw [e]
      exact args_9_ok q1 q2 q3 q4 q5 q6 q7 q8 q9 q10 q11 q12 q13 q14 q15 pc fk fc fz fs fo
    · have e : wD (argsS ⟨10, q1, q2, q3, q4, q5, q6, q7, q8, q9, q10, q11, q12, q13, q14, q15, fk, fc, fz, fs, fo, pc⟩) = [.int .u64 q7, .int .u64 q6, .int .u64 q2, .int .u64 q10] := by simp [argsS, wD]
      rw [e]
      exact args_10_ok q1 q2 q3 q4 q5 q6 q7 q8 q9 q10 q11 q12 q13 q14 q15 pc fk fc fz fs fo
    · have e : wD (argsS ⟨11, q1, q2, q3, q4, q5, q6, q7, q8, q9, q10, q11, q12, q13, q14, q15, fk, fc, fz, fs, fo, pc⟩) = [.int .u64 q7, .int .u64 q6, .int .u64 q2, .int .u64 q10, .int .u64 q8] := by simp [argsS, wD]
      rw [e]
      exact args_11_ok q1 q2 q3 q4 q5 q6 q7 q8 q9 q10 q11 q12 q13 q14 q15 pc fk fc fz fs fo
    · have e : wD (argsS ⟨12, q1, q2, q3, q4, q5, q6, q7, q8, q9, q10, q11, q12, q13, q14, q15, fk, fc, fz, fs, fo, pc⟩) = [] := by simp [argsS, wD]
      rw [e]
      exact args_12_ok q1 q2 q3 q4 q5 q6 q7 q8 q9 q10 q11 q12 q13 q14 q15 pc fk fc fz fs fo
    · have e : wD (argsS ⟨13, q1, q2, q3, q4, q5, q6, q7, q8, q9, q10, q11, q12, q13, q14, q15, fk, fc, fz, fs, fo, pc⟩) = [.int .u64 q7] := by simp [argsS, wD]
      rw [e]
      exact args_13_ok q1 q2 q3 q4 q5 q6 q7 q8 q9 q10 q11 q12 q13 q14 q15 pc fk fc fz fs fo
    · have e : wD (argsS ⟨14, q1, q2, q3, q4, q5, q6, q7, q8, q9, q10, q11, q12, q13, q14, q15, fk, fc, fz, fs, fo, pc⟩) = [.int .u64 q7, .int .u64 q6] := by simp [argsS, wD]
      rw [e]
      exact args_14_ok q1 q2 q3 q4 q5 q6 q7 q8 q9 q10 q11 q12 q13 q14 q15 pc fk fc fz fs fo
    · have e : wD (argsS ⟨15, q1, q2, q3, q4, q5, q6, q7, q8, q9, q10, q11, q12, q13, q14, q15, fk, fc, fz, fs, fo, pc⟩) = [.int .u64 q7, .int .u64 q6, .int .u64 q2] := by simp [argsS, wD]
      rw [e]
      exact args_15_ok q1 q2 q3 q4 q5 q6 q7 q8 q9 q10 q11 q12 q13 q14 q15 pc fk fc fz fs fo
theorem tocc_c_ok (cc : Int) : Ret Tryz.prog 16 [.int .i8 cc] (.tup [.int .i8 (toccM cc).1, .bool (toccM cc).2]) := by
  by_cases h : 0 ≤ cc ∧ cc ≤ 10
  · have hc : cc = 0 ∨ cc = 1 ∨ cc = 2 ∨ cc = 3 ∨ cc = 4 ∨ cc = 5 ∨ cc = 6 ∨ cc = 7 ∨ cc = 8 ∨ cc = 9 ∨ cc = 10 := by omega
    rcases hc with rfl | rfl | rfl | rfl | rfl | rfl | rfl | rfl | rfl | rfl | rfl
    · exact tocc_0_ok
    · exact tocc_1_ok
    · exact tocc_2_ok
    · exact tocc_3_ok
    · exact tocc_4_ok
    · exact tocc_5_ok
    · exact tocc_6_ok
    · exact tocc_7_ok
    · exact tocc_8_ok
    · exact tocc_9_ok
    · exact tocc_10_ok
  · have e : toccM cc = (0, false) := by
      unfold toccM
      rw [if_neg (by omega), if_neg (by omega), if_neg (by omega), if_neg (by omega), if_neg (by omega), if_neg (by omega), if_neg (by omega), if_neg (by omega), if_neg (by omega), if_neg (by omega), if_neg (by omega)]
    rw [e]
    exact tocc_out_ok cc (decide_eq_false h)
theorem rexec_c_ok (ho : op ≤ 127) : Ret Tryz.prog 9 [.agg [.int .u64 q0, .int .u64 q1, .int .u64 q2, .int .u64 q3, .int .u64 q4, .int .u64 q5, .int .u64 q6, .int .u64 q7, .int .u64 q8, .int .u64 q9, .int .u64 q10, .int .u64 q11, .int .u64 q12, .int .u64 q13, .int .u64 q14, .int .u64 q15, .bool fk, .bool fc, .bool fz, .bool fs, .bool fo, .int .u64 pc], xD op w dst src base disp imm cc, .int .u64 ld] (.tup [(execM (⟨q0, q1, q2, q3, q4, q5, q6, q7, q8, q9, q10, q11, q12, q13, q14, q15, fk, fc, fz, fs, fo, pc⟩ : MachS) (⟨op, w, dst, src, base, disp, imm, cc⟩ : XS) ld).d, .int .i64 (execE (⟨q0, q1, q2, q3, q4, q5, q6, q7, q8, q9, q10, q11, q12, q13, q14, q15, fk, fc, fz, fs, fo, pc⟩ : MachS) (⟨op, w, dst, src, base, disp, imm, cc⟩ : XS) ld)]) := rexec_s_ok (⟨q0, q1, q2, q3, q4, q5, q6, q7, q8, q9, q10, q11, q12, q13, q14, q15, fk, fc, fz, fs, fo, pc⟩ : MachS) (⟨op, w, dst, src, base, disp, imm, cc⟩ : XS) ld ho
theorem raddr_c_ok (ho : op ≤ 127) : Ret Tryz.prog 11 [.agg [.int .u64 q0, .int .u64 q1, .int .u64 q2, .int .u64 q3, .int .u64 q4, .int .u64 q5, .int .u64 q6, .int .u64 q7, .int .u64 q8, .int .u64 q9, .int .u64 q10, .int .u64 q11, .int .u64 q12, .int .u64 q13, .int .u64 q14, .int .u64 q15, .bool fk, .bool fc, .bool fz, .bool fs, .bool fo, .int .u64 pc], xD op w dst src base disp imm cc] (.tup [.int .u64 (addrS (⟨q0, q1, q2, q3, q4, q5, q6, q7, q8, q9, q10, q11, q12, q13, q14, q15, fk, fc, fz, fs, fo, pc⟩ : MachS) (⟨op, w, dst, src, base, disp, imm, cc⟩ : XS)).1, .int .i64 (addrS (⟨q0, q1, q2, q3, q4, q5, q6, q7, q8, q9, q10, q11, q12, q13, q14, q15, fk, fc, fz, fs, fo, pc⟩ : MachS) (⟨op, w, dst, src, base, disp, imm, cc⟩ : XS)).2.1, .bool (addrS (⟨q0, q1, q2, q3, q4, q5, q6, q7, q8, q9, q10, q11, q12, q13, q14, q15, fk, fc, fz, fs, fo, pc⟩ : MachS) (⟨op, w, dst, src, base, disp, imm, cc⟩ : XS)).2.2]) := by
  unfold addrS
  cases hm : mayX op w dst src base disp imm cc
  · rw [if_neg (by rintro ⟨h, _⟩; exact absurd (hm.symm.trans h) (by decide)), if_neg (by rintro ⟨h, _⟩; exact absurd (hm.symm.trans h) (by decide))]
    exact raddr_no_ok q0 q1 q2 q3 q4 q5 q6 q7 q8 q9 q10 q11 q12 q13 q14 q15 pc fk fc fz fs fo op w dst src base disp imm cc ho hm
  · obtain ⟨⟨d0, d1, s0, s1, b0, b1, _⟩, hs⟩ := mayX_parts hm
    by_cases h6 : op = 26
    · subst h6
      rw [if_pos ⟨hm, .inl rfl⟩]
      have hw := width_cases (mayX_wid hm (.inl rfl))
      exact raddr_26_ok q0 q1 q2 q3 q4 q5 q6 q7 q8 q9 q10 q11 q12 q13 q14 q15 pc fk fc fz fs fo w dst src base disp imm cc d0 d1 s0 s1 b0 b1 (by omega) (by omega) hm
    · by_cases h7 : op = 27
      · subst h7
        rw [if_pos ⟨hm, .inr rfl⟩]
        have hw := width_cases (mayX_wid hm (.inr rfl))
        exact raddr_27_ok q0 q1 q2 q3 q4 q5 q6 q7 q8 q9 q10 q11 q12 q13 q14 q15 pc fk fc fz fs fo w dst src base disp imm cc d0 d1 s0 s1 b0 b1 (by omega) (by omega) hm
      · rw [if_neg (by rintro ⟨_, h | h⟩ <;> contradiction)]
        by_cases h8 : op = 30
        · subst h8
          rw [if_pos ⟨hm, rfl⟩]
          exact raddr_30_ok q0 q1 q2 q3 q4 q5 q6 q7 q8 q9 q10 q11 q12 q13 q14 q15 pc fk fc fz fs fo w dst src base disp imm cc d0 d1 s0 s1 b0 b1 hm
        · rw [if_neg (by rintro ⟨_, h⟩; contradiction)]
          exact raddr_else_ok q0 q1 q2 q3 q4 q5 q6 q7 q8 q9 q10 q11 q12 q13 q14 q15 pc fk fc fz fs fo op w dst src base disp imm cc ho (beq_eq_false_iff_ne.mpr h6) (beq_eq_false_iff_ne.mpr h7) (beq_eq_false_iff_ne.mpr h8) hm
theorem rstored_c_ok (ho : op ≤ 127) : Ret Tryz.prog 19 [.agg [.int .u64 q0, .int .u64 q1, .int .u64 q2, .int .u64 q3, .int .u64 q4, .int .u64 q5, .int .u64 q6, .int .u64 q7, .int .u64 q8, .int .u64 q9, .int .u64 q10, .int .u64 q11, .int .u64 q12, .int .u64 q13, .int .u64 q14, .int .u64 q15, .bool fk, .bool fc, .bool fz, .bool fs, .bool fo, .int .u64 pc], xD op w dst src base disp imm cc] (.int .u64 (storedS (⟨q0, q1, q2, q3, q4, q5, q6, q7, q8, q9, q10, q11, q12, q13, q14, q15, fk, fc, fz, fs, fo, pc⟩ : MachS) (⟨op, w, dst, src, base, disp, imm, cc⟩ : XS))) := by
  unfold storedS
  cases hm : mayX op w dst src base disp imm cc
  · rw [if_neg (by rintro ⟨h, _⟩; exact absurd (hm.symm.trans h) (by decide))]
    exact rstored_no_ok q0 q1 q2 q3 q4 q5 q6 q7 q8 q9 q10 q11 q12 q13 q14 q15 pc fk fc fz fs fo op w dst src base disp imm cc ho hm
  · obtain ⟨⟨d0, d1, s0, s1, b0, b1, _⟩, hs⟩ := mayX_parts hm
    by_cases h7 : op = 27
    · subst h7
      rw [if_pos ⟨hm, rfl⟩]
      exact rstored_27_ok q0 q1 q2 q3 q4 q5 q6 q7 q8 q9 q10 q11 q12 q13 q14 q15 pc fk fc fz fs fo w dst src base disp imm cc d0 d1 s0 s1 b0 b1 (mayX_wid hm (.inr rfl)) hm
    · rw [if_neg (by rintro ⟨_, h⟩; contradiction)]
      exact rstored_else_ok q0 q1 q2 q3 q4 q5 q6 q7 q8 q9 q10 q11 q12 q13 q14 q15 pc fk fc fz fs fo op w dst src base disp imm cc ho (beq_eq_false_iff_ne.mpr h7)
theorem rargs_c_ok (h0 : 0 ≤ q0) : Ret Tryz.prog 22 [.agg [.int .u64 q0, .int .u64 q1, .int .u64 q2, .int .u64 q3, .int .u64 q4, .int .u64 q5, .int .u64 q6, .int .u64 q7, .int .u64 q8, .int .u64 q9, .int .u64 q10, .int .u64 q11, .int .u64 q12, .int .u64 q13, .int .u64 q14, .int .u64 q15, .bool fk, .bool fc, .bool fz, .bool fs, .bool fo, .int .u64 pc]] (.lst .no 1 (wD (argsS (⟨q0, q1, q2, q3, q4, q5, q6, q7, q8, q9, q10, q11, q12, q13, q14, q15, fk, fc, fz, fs, fo, pc⟩ : MachS)))) := by
  by_cases h : 16 ≤ q0
  · unfold argsS
    rw [if_pos h]
    exact rargs_no_ok q0 q1 q2 q3 q4 q5 q6 q7 q8 q9 q10 q11 q12 q13 q14 q15 pc fk fc fz fs fo h
  · have hc : q0 = 0 ∨ q0 = 1 ∨ q0 = 2 ∨ q0 = 3 ∨ q0 = 4 ∨ q0 = 5 ∨ q0 = 6 ∨ q0 = 7 ∨ q0 = 8 ∨ q0 = 9 ∨ q0 = 10 ∨ q0 = 11 ∨ q0 = 12 ∨ q0 = 13 ∨ q0 = 14 ∨ q0 = 15 := by omega
    rcases hc with rfl | rfl | rfl | rfl | rfl | rfl | rfl | rfl | rfl | rfl | rfl | rfl | rfl | rfl | rfl | rfl
    · have e : wD (argsS ⟨0, q1, q2, q3, q4, q5, q6, q7, q8, q9, q10, q11, q12, q13, q14, q15, fk, fc, fz, fs, fo, pc⟩) = [] := by simp [argsS, wD]
      rw [e]
      exact rargs_0_ok q1 q2 q3 q4 q5 q6 q7 q8 q9 q10 q11 q12 q13 q14 q15 pc fk fc fz fs fo
    · have e : wD (argsS ⟨1, q1, q2, q3, q4, q5, q6, q7, q8, q9, q10, q11, q12, q13, q14, q15, fk, fc, fz, fs, fo, pc⟩) = [.int .u64 q7] := by simp [argsS, wD]
      rw [e]
      exact rargs_1_ok q1 q2 q3 q4 q5 q6 q7 q8 q9 q10 q11 q12 q13 q14 q15 pc fk fc fz fs fo
    · have e : wD (argsS ⟨2, q1, q2, q3, q4, q5, q6, q7, q8, q9, q10, q11, q12, q13, q14, q15, fk, fc, fz, fs, fo, pc⟩) = [.int .u64 q7, .int .u64 q6] := by simp [argsS, wD]
      rw [e]
      exact rargs_2_ok q1 q2 q3 q4 q5 q6 q7 q8 q9 q10 q11 q12 q13 q14 q15 pc fk fc fz fs fo
    · have e : wD (argsS ⟨3, q1, q2, q3, q4, q5, q6, q7, q8, q9, q10, q11, q12, q13, q14, q15, fk, fc, fz, fs, fo, pc⟩) = [.int .u64 q7, .int .u64 q6, .int .u64 q2] := by simp [argsS, wD]
      rw [e]
      exact rargs_3_ok q1 q2 q3 q4 q5 q6 q7 q8 q9 q10 q11 q12 q13 q14 q15 pc fk fc fz fs fo
    · have e : wD (argsS ⟨4, q1, q2, q3, q4, q5, q6, q7, q8, q9, q10, q11, q12, q13, q14, q15, fk, fc, fz, fs, fo, pc⟩) = [.int .u64 q7, .int .u64 q6, .int .u64 q2, .int .u64 q10] := by simp [argsS, wD]
      rw [e]
      exact rargs_4_ok q1 q2 q3 q4 q5 q6 q7 q8 q9 q10 q11 q12 q13 q14 q15 pc fk fc fz fs fo
    · have e : wD (argsS ⟨5, q1, q2, q3, q4, q5, q6, q7, q8, q9, q10, q11, q12, q13, q14, q15, fk, fc, fz, fs, fo, pc⟩) = [.int .u64 q7, .int .u64 q6, .int .u64 q2, .int .u64 q10, .int .u64 q8] := by simp [argsS, wD]
      rw [e]
      exact rargs_5_ok q1 q2 q3 q4 q5 q6 q7 q8 q9 q10 q11 q12 q13 q14 q15 pc fk fc fz fs fo
    · have e : wD (argsS ⟨6, q1, q2, q3, q4, q5, q6, q7, q8, q9, q10, q11, q12, q13, q14, q15, fk, fc, fz, fs, fo, pc⟩) = [] := by simp [argsS, wD]
      rw [e]
      exact rargs_6_ok q1 q2 q3 q4 q5 q6 q7 q8 q9 q10 q11 q12 q13 q14 q15 pc fk fc fz fs fo
    · have e : wD (argsS ⟨7, q1, q2, q3, q4, q5, q6, q7, q8, q9, q10, q11, q12, q13, q14, q15, fk, fc, fz, fs, fo, pc⟩) = [.int .u64 q7] := by simp [argsS, wD]
      rw [e]
      exact rargs_7_ok q1 q2 q3 q4 q5 q6 q7 q8 q9 q10 q11 q12 q13 q14 q15 pc fk fc fz fs fo
    · have e : wD (argsS ⟨8, q1, q2, q3, q4, q5, q6, q7, q8, q9, q10, q11, q12, q13, q14, q15, fk, fc, fz, fs, fo, pc⟩) = [.int .u64 q7, .int .u64 q6] := by simp [argsS, wD]
      rw [e]
      exact rargs_8_ok q1 q2 q3 q4 q5 q6 q7 q8 q9 q10 q11 q12 q13 q14 q15 pc fk fc fz fs fo
    · have e : wD (argsS ⟨9, q1, q2, q3, q4, q5, q6, q7, q8, q9, q10, q11, q12, q13, q14, q15, fk, fc, fz, fs, fo, pc⟩) = [.int .u64 q7, .int .u64 q6, .int .u64 q2] := by simp [argsS, wD]
      rw [e]
      exact rargs_9_ok q1 q2 q3 q4 q5 q6 q7 q8 q9 q10 q11 q12 q13 q14 q15 pc fk fc fz fs fo
    · have e : wD (argsS ⟨10, q1, q2, q3, q4, q5, q6, q7, q8, q9, q10, q11, q12, q13, q14, q15, fk, fc, fz, fs, fo, pc⟩) = [.int .u64 q7, .int .u64 q6, .int .u64 q2, .int .u64 q10] := by simp [argsS, wD]
      rw [e]
      exact rargs_10_ok q1 q2 q3 q4 q5 q6 q7 q8 q9 q10 q11 q12 q13 q14 q15 pc fk fc fz fs fo
    · have e : wD (argsS ⟨11, q1, q2, q3, q4, q5, q6, q7, q8, q9, q10, q11, q12, q13, q14, q15, fk, fc, fz, fs, fo, pc⟩) = [.int .u64 q7, .int .u64 q6, .int .u64 q2, .int .u64 q10, .int .u64 q8] := by simp [argsS, wD]
      rw [e]
      exact rargs_11_ok q1 q2 q3 q4 q5 q6 q7 q8 q9 q10 q11 q12 q13 q14 q15 pc fk fc fz fs fo
    · have e : wD (argsS ⟨12, q1, q2, q3, q4, q5, q6, q7, q8, q9, q10, q11, q12, q13, q14, q15, fk, fc, fz, fs, fo, pc⟩) = [] := by simp [argsS, wD]
      rw [e]
      exact rargs_12_ok q1 q2 q3 q4 q5 q6 q7 q8 q9 q10 q11 q12 q13 q14 q15 pc fk fc fz fs fo
    · have e : wD (argsS ⟨13, q1, q2, q3, q4, q5, q6, q7, q8, q9, q10, q11, q12, q13, q14, q15, fk, fc, fz, fs, fo, pc⟩) = [.int .u64 q7] := by simp [argsS, wD]
      rw [e]
      exact rargs_13_ok q1 q2 q3 q4 q5 q6 q7 q8 q9 q10 q11 q12 q13 q14 q15 pc fk fc fz fs fo
    · have e : wD (argsS ⟨14, q1, q2, q3, q4, q5, q6, q7, q8, q9, q10, q11, q12, q13, q14, q15, fk, fc, fz, fs, fo, pc⟩) = [.int .u64 q7, .int .u64 q6] := by simp [argsS, wD]
      rw [e]
      exact rargs_14_ok q1 q2 q3 q4 q5 q6 q7 q8 q9 q10 q11 q12 q13 q14 q15 pc fk fc fz fs fo
    · have e : wD (argsS ⟨15, q1, q2, q3, q4, q5, q6, q7, q8, q9, q10, q11, q12, q13, q14, q15, fk, fc, fz, fs, fo, pc⟩) = [.int .u64 q7, .int .u64 q6, .int .u64 q2] := by simp [argsS, wD]
      rw [e]
      exact rargs_15_ok q1 q2 q3 q4 q5 q6 q7 q8 q9 q10 q11 q12 q13 q14 q15 pc fk fc fz fs fo
theorem rtocc_c_ok (cc : Int) : Ret Tryz.prog 17 [.int .i8 cc] (.tup [.int .i8 (toccM cc).1, .bool (toccM cc).2]) := by
  by_cases h : 0 ≤ cc ∧ cc ≤ 10
  · have hc : cc = 0 ∨ cc = 1 ∨ cc = 2 ∨ cc = 3 ∨ cc = 4 ∨ cc = 5 ∨ cc = 6 ∨ cc = 7 ∨ cc = 8 ∨ cc = 9 ∨ cc = 10 := by omega
    rcases hc with rfl | rfl | rfl | rfl | rfl | rfl | rfl | rfl | rfl | rfl | rfl
    · exact rtocc_0_ok
    · exact rtocc_1_ok
    · exact rtocc_2_ok
    · exact rtocc_3_ok
    · exact rtocc_4_ok
    · exact rtocc_5_ok
    · exact rtocc_6_ok
    · exact rtocc_7_ok
    · exact rtocc_8_ok
    · exact rtocc_9_ok
    · exact rtocc_10_ok
  · have e : toccM cc = (0, false) := by
      unfold toccM
      rw [if_neg (by omega), if_neg (by omega), if_neg (by omega), if_neg (by omega), if_neg (by omega), if_neg (by omega), if_neg (by omega), if_neg (by omega), if_neg (by omega), if_neg (by omega), if_neg (by omega)]
    rw [e]
    exact rtocc_out_ok cc (decide_eq_false h)
end
end Go.Proofs.YtojgmjfcfpclbaaGreat

namespace Go.Proofs.YtojgmjfcfpclbaaGreat
open Go Go.Ev
set_option maxRecDepth 100000
set_option maxHeartbeats 8000000
theorem wo_done (l : List D) (k : Nat) (hb : l.length ≤ 100) (hk : l.length ≤ k) : RoundRun Tryz.prog (loopB Tryz.f20 0) ⟨[], [], []⟩ 0 [.lst .no 1 l, .lst .no 1 l, uu, uu, uu, uu, uu, uu, uu, uu, uu, uu, .int .i64 (↑(List.length l) : Int), .int .i64 (↑k : Int), uu, uu, uu, uu, uu, uu, uu, uu, uu, uu, uu, uu] [] (Ex.exit (0 : Nat)) [uu, uu, uu, uu, uu, uu, uu, uu, uu, uu, uu, uu, uu, uu, uu, uu, uu, uu, uu, uu, uu, uu, uu, uu, uu, uu] ([]) := by
 exact (RoundRun.of_eval (sp := ⟨[], [], []⟩) (n0 := 0) (ex := Ex.exit (0 : Nat)) (t' := [uu, uu, uu, uu, uu, uu, uu, uu, uu, uu, uu, uu, uu, uu, uu, uu, uu, uu, uu, uu, uu, uu, uu, uu, uu, uu]) (s' := []) mixed [tC (by (simp only [sl2] at *; omega) : (decide ((↑k : Int) < (↑(List.length l) : Int))) = false)] (by kernel_rfl)).cast (by rfl) (by rfl)
theorem wo_eq (l : List D) (k : Nat) (hb : l.length ≤ 100) (hk : k < l.length) (x : Int) (hx : l[k]? = some (.int .u64 x)) : RoundRun Tryz.prog (loopB Tryz.f20 0) ⟨[0, 1, 12, 13], [], []⟩ 0 [.lst .no 1 l, .lst .no 1 l, uu, uu, uu, uu, uu, uu, uu, uu, uu, uu, .int .i64 (↑(List.length l) : Int), .int .i64 (↑k : Int), uu, uu, uu, uu, uu, uu, uu, uu, uu, uu, uu, uu] [] (Ex.norm) [.lst .no 1 l, .lst .no 1 l, uu, uu, uu, uu, uu, uu, uu, uu, uu, uu, .int .i64 (↑(List.length l) : Int), .int .i64 (↑(k + (1 : Nat)) : Int), uu, uu, uu, uu, uu, uu, uu, uu, uu, uu, uu, uu] ([]) := by
 exact (RoundRun.of_eval (sp := ⟨[0, 1, 12, 13], [], []⟩) (n0 := 0) (ex := Ex.norm) (t' := [.lst .no 1 l, .lst .no 1 l, uu, uu, uu, uu, uu, uu, uu, uu, uu, uu, .int .i64 (↑(List.length l) : Int), .int .i64 (IntKind.wrap IntKind.i64 ((↑k : Int) + 1)), uu, uu, uu, uu, uu, uu, uu, uu, uu, uu, uu, uu]) (s' := []) mixed [tC (by (simp only [sl2] at *; omega) : (decide ((↑k : Int) < (↑(List.length l) : Int))) = true), tT, .get _ _ _ hx, tT, .get _ _ _ hx, tC (nt (beq_self_eq_true x))] (by kernel_rfl)).cast (by first | rfl | (congr; rw [w_i64]; omega)) (by first | rfl | (congr; rw [w_i64]; omega))
end Go.Proofs.YtojgmjfcfpclbaaGreat
