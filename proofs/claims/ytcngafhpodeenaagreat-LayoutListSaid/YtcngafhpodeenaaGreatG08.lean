/- Contracts and plain laws that a statement's proof leans on (texts merged: XQ6, XQ6A, XQ7, XQ7A, XQ1G, XQ1H, XQ2G, XQ2H, XQ8, MdRe, EvR). -/
import Derived.ProofKit
import Derived.Carry
import Derived.SizedLaws
import Derived.Test.YtcngafhpodeenaaGreatG04
import Derived.Test.YtcngafhpodeenaaGreatG05
import Derived.Test.YtcngafhpodeenaaGreatG06
import Derived.Test.YtcngafhpodeenaaGreatG07
set_option linter.unusedVariables false
set_option linter.unusedSimpArgs false
namespace Go.Proofs.YtcngafhpodeenaaGreat
open Go Go.Ev
set_option maxRecDepth 100000
set_option maxHeartbeats 8000000
theorem rcode_ok (op : Int) (o0 : 0 ≤ op) (o1 : op ≤ 31) : Ret Tryz.prog 19 ([.int .i8 op]) (.int .u8 (rcM op)) := by
 by_cases h0 : op = 0
 ·subst h0
  exact (o19 (d := .int .u8 137) [tT] (by kernel_rfl)).to (by simp only [wk, D.int.injEq, true_and]; decide)
 let E1 : EL := [tC (neOf h0)]
 by_cases h1 : op = 2
 ·subst h1
  exact (o19 (d := .int .u8 1) (E1 ++ [tT]) (by kernel_rfl)).to (by clear E1; simp only [wk, D.int.injEq, true_and]; decide)
 let E2 : EL := E1 ++ [tC (neOf h1)]
 by_cases h2 : op = 3
 ·subst h2
  exact (o19 (d := .int .u8 9) (E2 ++ [tT]) (by kernel_rfl)).to (by clear E1 E2; simp only [wk, D.int.injEq, true_and]; decide)
 let E3 : EL := E2 ++ [tC (neOf h2)]
 by_cases h3 : op = 4
 ·subst h3
  exact (o19 (d := .int .u8 33) (E3 ++ [tT]) (by kernel_rfl)).to (by clear E1 E2 E3; simp only [wk, D.int.injEq, true_and]; decide)
 let E4 : EL := E3 ++ [tC (neOf h3)]
 by_cases h4 : op = 5
 ·subst h4
  exact (o19 (d := .int .u8 41) (E4 ++ [tT]) (by kernel_rfl)).to (by clear E1 E2 E3 E4; simp only [wk, D.int.injEq, true_and]; decide)
 let E5 : EL := E4 ++ [tC (neOf h4)]
 by_cases h5 : op = 6
 ·subst h5
  exact (o19 (d := .int .u8 49) (E5 ++ [tT]) (by kernel_rfl)).to (by clear E1 E2 E3 E4 E5; simp only [wk, D.int.injEq, true_and]; decide)
 let E6 : EL := E5 ++ [tC (neOf h5)]
 by_cases h6 : op = 7
 ·subst h6
  exact (o19 (d := .int .u8 57) (E6 ++ [tT]) (by kernel_rfl)).to (by clear E1 E2 E3 E4 E5 E6; simp only [wk, D.int.injEq, true_and]; decide)
 let E7 : EL := E6 ++ [tC (neOf h6)]
 by_cases h7 : op = 8
 ·subst h7
  exact (o19 (d := .int .u8 133) (E7 ++ [tT]) (by kernel_rfl)).to (by clear E1 E2 E3 E4 E5 E6 E7; simp only [wk, D.int.injEq, true_and]; decide)
 let E8 : EL := E7 ++ [tC (neOf h7)]
 by_cases h8 : op = 9
 ·subst h8
  exact (o19 (d := .int .u8 0) (E8 ++ [tT, tT]) (by kernel_rfl)).to (by clear E1 E2 E3 E4 E5 E6 E7 E8; simp only [wk, D.int.injEq, true_and]; decide)
 let E9 : EL := E8 ++ [tC (neOf h8)]
 by_cases h9 : op = 15
 ·subst h9
  exact (o19 (d := .int .u8 0) (E9 ++ [tT]) (by kernel_rfl)).to (by clear E1 E2 E3 E4 E5 E6 E7 E8 E9; simp only [wk, D.int.injEq, true_and]; decide)
 let E10 : EL := E9 ++ [tC (neOf h9)]
 by_cases h10 : op = 10
 ·subst h10
  exact (o19 (d := .int .u8 1) (E10 ++ [tT]) (by kernel_rfl)).to (by clear E1 E2 E3 E4 E5 E6 E7 E8 E9 E10; simp only [wk, D.int.injEq, true_and]; decide)
 let E11 : EL := E10 ++ [tC (neOf h10)]
 by_cases h11 : op = 11
 ·subst h11
  exact (o19 (d := .int .u8 4) (E11 ++ [tT, tT]) (by kernel_rfl)).to (by clear E1 E2 E3 E4 E5 E6 E7 E8 E9 E10 E11; simp only [wk, D.int.injEq, true_and]; decide)
 let E12 : EL := E11 ++ [tC (neOf h11)]
 by_cases h12 : op = 17
 ·subst h12
  exact (o19 (d := .int .u8 4) (E12 ++ [tT, tT]) (by kernel_rfl)).to (by clear E1 E2 E3 E4 E5 E6 E7 E8 E9 E10 E11 E12; simp only [wk, D.int.injEq, true_and]; decide)
 let E13 : EL := E12 ++ [tC (neOf h12)]
 by_cases h13 : op = 20
 ·subst h13
  exact (o19 (d := .int .u8 4) (E13 ++ [tT]) (by kernel_rfl)).to (by clear E1 E2 E3 E4 E5 E6 E7 E8 E9 E10 E11 E12 E13; simp only [wk, D.int.injEq, true_and]; decide)
 let E14 : EL := E13 ++ [tC (neOf h13)]
 by_cases h14 : op = 12
 ·subst h14
  exact (o19 (d := .int .u8 5) (E14 ++ [tT, tT]) (by kernel_rfl)).to (by clear E1 E2 E3 E4 E5 E6 E7 E8 E9 E10 E11 E12 E13 E14; simp only [wk, D.int.injEq, true_and]; decide)
 let E15 : EL := E14 ++ [tC (neOf h14)]
 by_cases h15 : op = 18
 ·subst h15
  exact (o19 (d := .int .u8 5) (E15 ++ [tT, tT]) (by kernel_rfl)).to (by clear E1 E2 E3 E4 E5 E6 E7 E8 E9 E10 E11 E12 E13 E14 E15; simp only [wk, D.int.injEq, true_and]; decide)
 let E16 : EL := E15 ++ [tC (neOf h15)]
 by_cases h16 : op = 21
 ·subst h16
  exact (o19 (d := .int .u8 5) (E16 ++ [tT]) (by kernel_rfl)).to (by clear E1 E2 E3 E4 E5 E6 E7 E8 E9 E10 E11 E12 E13 E14 E15 E16; simp only [wk, D.int.injEq, true_and]; decide)
 let E17 : EL := E16 ++ [tC (neOf h16)]
 by_cases h17 : op = 13
 ·subst h17
  exact (o19 (d := .int .u8 6) (E17 ++ [tT, tT]) (by kernel_rfl)).to (by clear E1 E2 E3 E4 E5 E6 E7 E8 E9 E10 E11 E12 E13 E14 E15 E16 E17; simp only [wk, D.int.injEq, true_and]; decide)
 let E18 : EL := E17 ++ [tC (neOf h17)]
 by_cases h18 : op = 24
 ·subst h18
  exact (o19 (d := .int .u8 6) (E18 ++ [tT]) (by kernel_rfl)).to (by clear E1 E2 E3 E4 E5 E6 E7 E8 E9 E10 E11 E12 E13 E14 E15 E16 E17 E18; simp only [wk, D.int.injEq, true_and]; decide)
 by_cases h19 : op = 14
 ·subst h19
  exact (o19 (d := .int .u8 7) (E18 ++ [tC (neOf h18), tT, tT]) (by kernel_rfl)).to (by clear E1 E2 E3 E4 E5 E6 E7 E8 E9 E10 E11 E12 E13 E14 E15 E16 E17 E18; simp only [wk, D.int.injEq, true_and]; decide)
 let E19 : EL := E18 ++ [tC (neOf h18), tC (neOf h19)]
 by_cases h20 : op = 19
 ·subst h20
  exact (o19 (d := .int .u8 7) (E19 ++ [tT, tT]) (by kernel_rfl)).to (by clear E1 E2 E3 E4 E5 E6 E7 E8 E9 E10 E11 E12 E13 E14 E15 E16 E17 E18 E19; simp only [wk, D.int.injEq, true_and]; decide)
 by_cases h21 : op = 22
 ·subst h21
  exact (o19 (d := .int .u8 7) (E19 ++ [tC (neOf h20), tT]) (by kernel_rfl)).to (by clear E1 E2 E3 E4 E5 E6 E7 E8 E9 E10 E11 E12 E13 E14 E15 E16 E17 E18 E19; simp only [wk, D.int.injEq, true_and]; decide)
 by_cases h22 : op = 23
 ·subst h22
  exact (o19 (d := .int .u8 3) (E19 ++ [tC (neOf h20), tC (neOf h21), tT]) (by kernel_rfl)).to (by clear E1 E2 E3 E4 E5 E6 E7 E8 E9 E10 E11 E12 E13 E14 E15 E16 E17 E18 E19; simp only [wk, D.int.injEq, true_and]; decide)
 exact (o19 (d := .int .u8 0) (E19 ++ [tC (neOf h20), tC (neOf h21), tC (neOf h22)]) (by kernel_rfl)).to (by clear E1 E2 E3 E4 E5 E6 E7 E8 E9 E10 E11 E12 E13 E14 E15 E16 E17 E18 E19; simp only [wk, D.int.injEq, true_and]; unfold rcM codeM numM; (repeat split) <;> omega)
theorem gr129_hit (n op : Int) (o0 : 0 ≤ op) (o1 : op ≤ 31) (n0 : 0 ≤ n) (n1 : n ≤ 7) (hc : classM op = 2) (q15 : op ≠ 15) (q1 : op ≠ 1) (hn : rcM op = n)  : RoundRun Tryz.prog (loopB Tryz.f20 0) ⟨[4], [], []⟩ 0 ((.int .i64 129) :: (.int .i8 n) :: (uu) :: (uu) :: (uu) :: (.int .i8 op) :: (un 71)) [] (Ex.ret) (un 4 ++ (.int .i8 op) :: (un 72)) ([]) := by
 have c0 := @class_ok op
 have c1 := @rcode_ok op o0 o1
 exact RoundRun.of_eval mixed ([tC (leC 31 (decide_eq_true (Int.lt_add_one_of_le o1))), .ret _ _ _ c0, tT, tT, tT, tC (eT (eqI 2 true (by ((try simp only [sR] at *); omega) : classM op = 2))), tC (eT (eqI 2 true (by ((try simp only [sR] at *); omega) : classM op = 2))), tC (eqI 2 true (by ((try simp only [sR] at *); omega) : classM op = 2)), tC (eT (nt (by ((try simp only [sR] at *); omega) : (op == 15) = false))), tC (eT (nt (by ((try simp only [sR] at *); omega) : (op == 15) = false))), tC (nt (by ((try simp only [sR] at *); omega) : (op == 15) = false))] ++ List.replicate 4 (tC (eF (nt (by ((try simp only [sR] at *); omega) : (op == 1) = false)))) ++ [tC (nt (by ((try simp only [sR] at *); omega) : (op == 1) = false))] ++ List.replicate 8 tF ++ [tT, tF, tF, tF, tF, tT, tT, tT, .ret _ _ _ c1, tT, tT, tT, tT, tC (by ((try simp only [sR] at *); omega) : (rcM op == IntKind.wrap IntKind.u8 n) = true)]) (by kernel_rfl)
def SpXQ60 (k0_ : Int) (k1_ : Int) : Prop := ∀ (n op : Int) (o0 : 0 ≤ op) (o1 : op ≤ 31) (n0 : 0 ≤ n) (n1 : n ≤ 7) (hc : classM op ≠ k0_), RoundRun Tryz.prog (loopB Tryz.f20 0) ⟨[0, 1, 5], [], []⟩ 0 ((.int .i64 k1_) :: (.int .i8 n) :: (uu) :: (uu) :: (uu) :: (.int .i8 op) :: (un 71)) [] .norm ((.int .i64 k1_) :: (.int .i8 n) :: (uu) :: (uu) :: (uu) :: (.int .i8 (IntKind.wrap IntKind.i8 (op + 1))) :: (un 71)) ([])
theorem gr129_c : SpXQ60 2 129 := by
 intro n op o0 o1 n0 n1 hc
 have c0 := @class_ok op
 exact RoundRun.of_eval mixed ([tC (leC 31 (decide_eq_true (Int.lt_add_one_of_le o1))), .ret _ _ _ c0, tT, tT, tT, tC (eT (by ((try simp only [sR] at *); omega) : (classM op == 2) = false)), tC (eT (by ((try simp only [sR] at *); omega) : (classM op == 2) = false)), tC (by ((try simp only [sR] at *); omega) : (classM op == 2) = false), tF, tF, tF, tT, tT, tT, tF, tF, tT, tF, tF, tT, tT, tT, tF, tF, tT, tF, tT, tF, tF, tT, tF, tT, tF, tF, tT, tF, tF, tT, tT, tT, tF, tF, tF, tF, tF, tF, tT] ++ List.replicate 9 tF) (by kernel_rfl)
theorem gr129_n (n op : Int) (o0 : 0 ≤ op) (o1 : op ≤ 31) (n0 : 0 ≤ n) (n1 : n ≤ 7) (hc : classM op = 2) (q15 : op ≠ 15) (q1 : op ≠ 1) (hn : rcM op ≠ n)  : RoundRun Tryz.prog (loopB Tryz.f20 0) ⟨[0, 1, 5], [], []⟩ 0 ((.int .i64 129) :: (.int .i8 n) :: (uu) :: (uu) :: (uu) :: (.int .i8 op) :: (un 71)) [] .norm ((.int .i64 129) :: (.int .i8 n) :: (uu) :: (uu) :: (uu) :: (.int .i8 (IntKind.wrap IntKind.i8 (op + 1))) :: (un 71)) ([]) := by
 have c0 := @class_ok op
 have c1 := @rcode_ok op o0 o1
 exact RoundRun.of_eval mixed ([tC (leC 31 (decide_eq_true (Int.lt_add_one_of_le o1))), .ret _ _ _ c0, tT, tT, tT, tC (eT (eqI 2 true (by ((try simp only [sR] at *); omega) : classM op = 2))), tC (eT (eqI 2 true (by ((try simp only [sR] at *); omega) : classM op = 2))), tC (eqI 2 true (by ((try simp only [sR] at *); omega) : classM op = 2)), tC (eT (nt (by ((try simp only [sR] at *); omega) : (op == 15) = false))), tC (eT (nt (by ((try simp only [sR] at *); omega) : (op == 15) = false))), tC (nt (by ((try simp only [sR] at *); omega) : (op == 15) = false))] ++ List.replicate 4 (tC (eF (nt (by ((try simp only [sR] at *); omega) : (op == 1) = false)))) ++ [tC (nt (by ((try simp only [sR] at *); omega) : (op == 1) = false))] ++ List.replicate 8 tF ++ [tT, tF, tF, tF, tF, tT, tT, tT, .ret _ _ _ c1, tT, tT, tT, tT, tC (by ((try simp only [sR] at *); omega) : (rcM op == IntKind.wrap IntKind.u8 n) = false)]) (by kernel_rfl)
def SpXQ61 (k0_ : Int) (k1_ : Int) (k2_ : Int) : Prop := ∀ (n : Int) (n0 : 0 ≤ n) (n1 : n ≤ 7), RoundRun Tryz.prog (loopB Tryz.f20 0) ⟨[0, 1, 5], [], []⟩ 0 ((.int .i64 k0_) :: (.int .i8 n) :: (uu) :: (uu) :: (uu) :: (.int .i8 k1_) :: (un 71)) [] .norm ((.int .i64 k0_) :: (.int .i8 n) :: (uu) :: (uu) :: (uu) :: (.int .i8 k2_) :: (un 71)) ([])
theorem gr129_15 : SpXQ61 129 15 16 := by
 intro n n0 n1
 have c0 := @class_ok 15
 exact RoundRun.of_eval mixed ([tT, .ret _ _ _ c0, tT, tT, tT, tT, tT, tT, tF, tF, tF, tT, tT, tT, tF, tF, tT, tF, tF, tT, tT, tT, tF, tF, tT, tF, tT, tF, tF, tT, tF, tT, tF, tF, tT, tF, tF, tT, tT, tT, tF, tF, tF, tF, tF, tF, tT] ++ List.replicate 9 tF) (by kernel_rfl)
theorem gr129_1 : SpXQ61 129 1 2 := by
 intro n n0 n1
 have c0 := @class_ok 1
 exact RoundRun.of_eval mixed ([tT, .ret _ _ _ c0] ++ List.replicate 12 tT ++ [tF, tF, tT, tF, tF, tT, tT, tT, tF, tF, tT, tF, tT, tF, tF, tT, tF, tT, tF, tF, tT, tF, tF, tT, tT, tT, tF, tF, tF, tF, tF, tF, tT] ++ List.replicate 9 tF) (by kernel_rfl)
theorem gr193_hit (n op : Int) (o0 : 0 ≤ op) (o1 : op ≤ 31) (n0 : 0 ≤ n) (n1 : n ≤ 7) (hc : classM op = 3) (hn : rcM op = n)  : RoundRun Tryz.prog (loopB Tryz.f20 0) ⟨[4], [], []⟩ 0 ((.int .i64 193) :: (.int .i8 n) :: (uu) :: (uu) :: (uu) :: (.int .i8 op) :: (un 71)) [] (Ex.ret) (un 4 ++ (.int .i8 op) :: (un 72)) ([]) := by
 have c0 := @class_ok op
 have c1 := @rcode_ok op o0 o1
 exact RoundRun.of_eval mixed ([tC (leC 31 (decide_eq_true (Int.lt_add_one_of_le o1))), .ret _ _ _ c0] ++ List.replicate 9 tF ++ [tT, tT, tT, tT, tT, tT, tT, tF] ++ List.replicate 8 (tC (eF (eqI 3 true (by ((try simp only [sR] at *); omega) : classM op = 3)))) ++ [tC (eqI 3 true (by ((try simp only [sR] at *); omega) : classM op = 3)), tF, tF, tF, tF, tT, tT, tT, .ret _ _ _ c1, tT, tT, tT, tT, tC (by ((try simp only [sR] at *); omega) : (rcM op == IntKind.wrap IntKind.u8 n) = true)]) (by kernel_rfl)
theorem gr193_c : SpXQ60 3 193 := by
 intro n op o0 o1 n0 n1 hc
 have c0 := @class_ok op
 exact RoundRun.of_eval mixed ([tC (leC 31 (decide_eq_true (Int.lt_add_one_of_le o1))), .ret _ _ _ c0] ++ List.replicate 9 tF ++ [tT, tT, tT, tT, tT, tT, tT, tF] ++ List.replicate 3 (tC (eF (by ((try simp only [sR] at *); omega) : (classM op == 3) = false))) ++ [tF, tF, tC (eF (by ((try simp only [sR] at *); omega) : (classM op == 3) = false)), tF, tC (eF (by ((try simp only [sR] at *); omega) : (classM op == 3) = false)), tF, tF, tC (eF (by ((try simp only [sR] at *); omega) : (classM op == 3) = false)), tF, tC (eF (by ((try simp only [sR] at *); omega) : (classM op == 3) = false)), tF, tF, tC (eF (by ((try simp only [sR] at *); omega) : (classM op == 3) = false)), tF, tC (by ((try simp only [sR] at *); omega) : (classM op == 3) = false), tT, tT, tT, tF, tF, tF, tF, tF, tF, tT] ++ List.replicate 9 tF) (by kernel_rfl)
theorem gr193_n (n op : Int) (o0 : 0 ≤ op) (o1 : op ≤ 31) (n0 : 0 ≤ n) (n1 : n ≤ 7) (hc : classM op = 3) (hn : rcM op ≠ n)  : RoundRun Tryz.prog (loopB Tryz.f20 0) ⟨[0, 1, 5], [], []⟩ 0 ((.int .i64 193) :: (.int .i8 n) :: (uu) :: (uu) :: (uu) :: (.int .i8 op) :: (un 71)) [] .norm ((.int .i64 193) :: (.int .i8 n) :: (uu) :: (uu) :: (uu) :: (.int .i8 (IntKind.wrap IntKind.i8 (op + 1))) :: (un 71)) ([]) := by
 have c0 := @class_ok op
 have c1 := @rcode_ok op o0 o1
 exact RoundRun.of_eval mixed ([tC (leC 31 (decide_eq_true (Int.lt_add_one_of_le o1))), .ret _ _ _ c0] ++ List.replicate 9 tF ++ [tT, tT, tT, tT, tT, tT, tT, tF] ++ List.replicate 8 (tC (eF (eqI 3 true (by ((try simp only [sR] at *); omega) : classM op = 3)))) ++ [tC (eqI 3 true (by ((try simp only [sR] at *); omega) : classM op = 3)), tF, tF, tF, tF, tT, tT, tT, .ret _ _ _ c1, tT, tT, tT, tT, tC (by ((try simp only [sR] at *); omega) : (rcM op == IntKind.wrap IntKind.u8 n) = false)]) (by kernel_rfl)
theorem gr211_hit (n op : Int) (o0 : 0 ≤ op) (o1 : op ≤ 31) (n0 : 0 ≤ n) (n1 : n ≤ 7) (hc : classM op = 4) (q23 : op ≠ 23) (q24 : op ≠ 24) (hn : rcM op = n)  : RoundRun Tryz.prog (loopB Tryz.f20 0) ⟨[4], [], []⟩ 0 ((.int .i64 211) :: (.int .i8 n) :: (uu) :: (uu) :: (uu) :: (.int .i8 op) :: (un 71)) [] (Ex.ret) (un 4 ++ (.int .i8 op) :: (un 72)) ([]) := by
 have c0 := @class_ok op
 have c1 := @rcode_ok op o0 o1
 exact RoundRun.of_eval mixed ([tC (leC 31 (decide_eq_true (Int.lt_add_one_of_le o1))), .ret _ _ _ c0] ++ List.replicate 9 tF ++ [tT, tT, tT, tF, tF, tT, tF, tF] ++ List.replicate 8 tT ++ [tC (eT (eqI 4 true (by ((try simp only [sR] at *); omega) : classM op = 4))), tC (eT (eqI 4 true (by ((try simp only [sR] at *); omega) : classM op = 4))), tT, tC (eqI 4 true (by ((try simp only [sR] at *); omega) : classM op = 4)), tT, tC (eT (nt (by ((try simp only [sR] at *); omega) : (op == 23) = false))), tC (eT (nt (by ((try simp only [sR] at *); omega) : (op == 23) = false))), tT, tC (nt (by ((try simp only [sR] at *); omega) : (op == 23) = false)), tF] ++ List.replicate 4 (tC (eF (nt (by ((try simp only [sR] at *); omega) : (op == 24) = false)))) ++ [tC (nt (by ((try simp only [sR] at *); omega) : (op == 24) = false)), tT, tT, .ret _ _ _ c1, tT, tT, tT, tT, tC (by ((try simp only [sR] at *); omega) : (rcM op == IntKind.wrap IntKind.u8 n) = true)]) (by kernel_rfl)
theorem gr211_c : SpXQ60 4 211 := by
 intro n op o0 o1 n0 n1 hc
 have c0 := @class_ok op
 exact RoundRun.of_eval mixed ([tC (leC 31 (decide_eq_true (Int.lt_add_one_of_le o1))), .ret _ _ _ c0] ++ List.replicate 9 tF ++ [tT, tT, tT, tF, tF, tT, tF, tF] ++ List.replicate 8 tT ++ [tC (eT (by ((try simp only [sR] at *); omega) : (classM op == 4) = false)), tC (eT (by ((try simp only [sR] at *); omega) : (classM op == 4) = false)), tT, tC (by ((try simp only [sR] at *); omega) : (classM op == 4) = false), tT, tF, tF, tT, tF, tF, tT, tT, tT, tF, tF, tF, tF, tF, tF, tT] ++ List.replicate 9 tF) (by kernel_rfl)
theorem gr211_n (n op : Int) (o0 : 0 ≤ op) (o1 : op ≤ 31) (n0 : 0 ≤ n) (n1 : n ≤ 7) (hc : classM op = 4) (q23 : op ≠ 23) (q24 : op ≠ 24) (hn : rcM op ≠ n)  : RoundRun Tryz.prog (loopB Tryz.f20 0) ⟨[0, 1, 5], [], []⟩ 0 ((.int .i64 211) :: (.int .i8 n) :: (uu) :: (uu) :: (uu) :: (.int .i8 op) :: (un 71)) [] .norm ((.int .i64 211) :: (.int .i8 n) :: (uu) :: (uu) :: (uu) :: (.int .i8 (IntKind.wrap IntKind.i8 (op + 1))) :: (un 71)) ([]) := by
 have c0 := @class_ok op
 have c1 := @rcode_ok op o0 o1
 exact RoundRun.of_eval mixed ([tC (leC 31 (decide_eq_true (Int.lt_add_one_of_le o1))), .ret _ _ _ c0] ++ List.replicate 9 tF ++ [tT, tT, tT, tF, tF, tT, tF, tF] ++ List.replicate 8 tT ++ [tC (eT (eqI 4 true (by ((try simp only [sR] at *); omega) : classM op = 4))), tC (eT (eqI 4 true (by ((try simp only [sR] at *); omega) : classM op = 4))), tT, tC (eqI 4 true (by ((try simp only [sR] at *); omega) : classM op = 4)), tT, tC (eT (nt (by ((try simp only [sR] at *); omega) : (op == 23) = false))), tC (eT (nt (by ((try simp only [sR] at *); omega) : (op == 23) = false))), tT, tC (nt (by ((try simp only [sR] at *); omega) : (op == 23) = false)), tF] ++ List.replicate 4 (tC (eF (nt (by ((try simp only [sR] at *); omega) : (op == 24) = false)))) ++ [tC (nt (by ((try simp only [sR] at *); omega) : (op == 24) = false)), tT, tT, .ret _ _ _ c1, tT, tT, tT, tT, tC (by ((try simp only [sR] at *); omega) : (rcM op == IntKind.wrap IntKind.u8 n) = false)]) (by kernel_rfl)
theorem gr211_23 : SpXQ61 211 23 24 := by
 intro n n0 n1
 have c0 := @class_ok 23
 exact RoundRun.of_eval mixed ([tT, .ret _ _ _ c0] ++ List.replicate 9 tF ++ [tT, tT, tT, tF, tF, tT, tF, tF] ++ List.replicate 13 tT ++ [tF, tF, tT, tF, tF, tT, tT, tT, tF, tF, tF, tF, tF, tF, tT] ++ List.replicate 9 tF) (by kernel_rfl)
theorem gr211_24 : SpXQ61 211 24 25 := by
 intro n n0 n1
 have c0 := @class_ok 24
 exact RoundRun.of_eval mixed ([tT, .ret _ _ _ c0] ++ List.replicate 9 tF ++ [tT, tT, tT, tF, tF, tT, tF, tF] ++ List.replicate 17 tT ++ [tF, tT, tT, tT, tF, tF, tF, tF, tF, tF, tT] ++ List.replicate 9 tF) (by kernel_rfl)
def SpXQ62 (k0_ : Int) (k1_ : Int) : Prop := ∀ (n : Int) (n0 : 0 ≤ n) (n1 : n ≤ 7) (hn : n = k0_), RoundRun Tryz.prog (loopB Tryz.f20 0) ⟨[4], [], []⟩ 0 ((.int .i64 247) :: (.int .i8 n) :: (uu) :: (uu) :: (uu) :: (.int .i8 k1_) :: (un 71)) [] (Ex.ret) (un 4 ++ (.int .i8 k1_) :: (un 72)) ([])
theorem gr247_23 : SpXQ62 3 23 := by
 intro n n0 n1 hn
 have c0 := @class_ok 23
 have c1 := @rcode_ok 23 (by decide) (by decide)
 exact RoundRun.of_eval mixed ([tT, .ret _ _ _ c0] ++ List.replicate 9 tF ++ [tT, tT, tT, tF, tF, tT, tF, tF, tT, tT, tT, tF, tF, tT, tF, tT, tF, tF, tT, tF, tT, tF, tF, tT, tF, tF, tT, tT, tT, tT, tT, tT, tF, tF, tT, tT, tT, tF, tF, tT, tT, tT, tT, tF, tT, tT, .ret _ _ _ c1, tT, tT, tT] ++ [tT, tC (by ((try simp only [sR] at *); omega) : (3 == IntKind.wrap IntKind.u8 n) = true)]) (by kernel_rfl)
def SpXQ63 (k0_ : Int) (k1_ : Int) (k2_ : Int) : Prop := ∀ (n : Int) (n0 : 0 ≤ n) (n1 : n ≤ 7) (hn : n ≠ k0_), RoundRun Tryz.prog (loopB Tryz.f20 0) ⟨[0, 1, 5], [], []⟩ 0 ((.int .i64 247) :: (.int .i8 n) :: (uu) :: (uu) :: (uu) :: (.int .i8 k1_) :: (un 71)) [] .norm ((.int .i64 247) :: (.int .i8 n) :: (uu) :: (uu) :: (uu) :: (.int .i8 k2_) :: (un 71)) ([])
theorem gr247_23n : SpXQ63 3 23 24 := by
 intro n n0 n1 hn
 have c0 := @class_ok 23
 have c1 := @rcode_ok 23 (by decide) (by decide)
 exact RoundRun.of_eval mixed ([tT, .ret _ _ _ c0] ++ List.replicate 9 tF ++ [tT, tT, tT, tF, tF, tT, tF, tF, tT, tT, tT, tF, tF, tT, tF, tT, tF, tF, tT, tF, tT, tF, tF, tT, tF, tF, tT, tT, tT, tT, tT, tT, tF, tF, tT, tT, tT, tF, tF, tT, tT, tT, tT, tF, tT, tT, .ret _ _ _ c1, tT, tT, tT] ++ [tT, tC (by ((try simp only [sR] at *); omega) : (3 == IntKind.wrap IntKind.u8 n) = false)]) (by kernel_rfl)
theorem gr247_24 : SpXQ62 6 24 := by
 intro n n0 n1 hn
 have c0 := @class_ok 24
 have c1 := @rcode_ok 24 (by decide) (by decide)
 exact RoundRun.of_eval mixed ([tT, .ret _ _ _ c0] ++ List.replicate 9 tF ++ [tT, tT, tT, tF, tF, tT, tF, tF, tT, tT, tT, tF, tF, tT, tF, tT, tF, tF, tT, tF, tT, tF, tF, tT, tF, tF] ++ List.replicate 9 tT ++ [tF, tT, tF, tF, tT, tT, tT, tT, tF, tT, tT, .ret _ _ _ c1, tT, tT, tT, tT, tC (by ((try simp only [sR] at *); omega) : (6 == IntKind.wrap IntKind.u8 n) = true)]) (by kernel_rfl)
theorem gr247_24n : SpXQ63 6 24 25 := by
 intro n n0 n1 hn
 have c0 := @class_ok 24
 have c1 := @rcode_ok 24 (by decide) (by decide)
 exact RoundRun.of_eval mixed ([tT, .ret _ _ _ c0] ++ List.replicate 9 tF ++ [tT, tT, tT, tF, tF, tT, tF, tF, tT, tT, tT, tF, tF, tT, tF, tT, tF, tF, tT, tF, tT, tF, tF, tT, tF, tF] ++ List.replicate 9 tT ++ [tF, tT, tF, tF, tT, tT, tT, tT, tF, tT, tT, .ret _ _ _ c1, tT, tT, tT, tT, tC (by ((try simp only [sR] at *); omega) : (6 == IntKind.wrap IntKind.u8 n) = false)]) (by kernel_rfl)
theorem gr247_15 : SpXQ62 0 15 := by
 intro n n0 n1 hn
 have c0 := @class_ok 15
 have c1 := @rcode_ok 15 (by decide) (by decide)
 exact RoundRun.of_eval mixed ([tT, .ret _ _ _ c0] ++ List.replicate 9 tF ++ [tT, tT, tT, tF, tF, tT, tF, tF, tT, tT, tT, tF, tF, tT, tF, tT, tF, tF, tT, tF, tT, tF, tF, tT, tF, tF] ++ List.replicate 9 tT ++ [tF, tT, tT, tT, tT, tF, tT, tT, tF, tT, tT, .ret _ _ _ c1, tT, tT, tT, tT, tC (by ((try simp only [sR] at *); omega) : (0 == IntKind.wrap IntKind.u8 n) = true)]) (by kernel_rfl)
theorem gr247_15n : SpXQ63 0 15 16 := by
 intro n n0 n1 hn
 have c0 := @class_ok 15
 have c1 := @rcode_ok 15 (by decide) (by decide)
 exact RoundRun.of_eval mixed ([tT, .ret _ _ _ c0] ++ List.replicate 9 tF ++ [tT, tT, tT, tF, tF, tT, tF, tF, tT, tT, tT, tF, tF, tT, tF, tT, tF, tF, tT, tF, tT, tF, tF, tT, tF, tF] ++ List.replicate 9 tT ++ [tF, tT, tT, tT, tT, tF, tT, tT, tF, tT, tT, .ret _ _ _ c1, tT, tT, tT, tT, tC (by ((try simp only [sR] at *); omega) : (0 == IntKind.wrap IntKind.u8 n) = false)]) (by kernel_rfl)
theorem gr247_o (n op : Int) (o0 : 0 ≤ op) (o1 : op ≤ 31) (n0 : 0 ≤ n) (n1 : n ≤ 7) (q15 : op ≠ 15) (q23 : op ≠ 23) (q24 : op ≠ 24)  : RoundRun Tryz.prog (loopB Tryz.f20 0) ⟨[0, 1, 5], [], []⟩ 0 ((.int .i64 247) :: (.int .i8 n) :: (uu) :: (uu) :: (uu) :: (.int .i8 op) :: (un 71)) [] .norm ((.int .i64 247) :: (.int .i8 n) :: (uu) :: (uu) :: (uu) :: (.int .i8 (IntKind.wrap IntKind.i8 (op + 1))) :: (un 71)) ([]) := by
 have c0 := @class_ok op
 exact RoundRun.of_eval mixed ([tC (leC 31 (decide_eq_true (Int.lt_add_one_of_le o1))), .ret _ _ _ c0] ++ List.replicate 9 tF ++ [tT, tT, tT, tF, tF, tT, tF, tF, tT, tT, tT, tF, tF, tT, tF, tT, tF, tF, tT, tF, tT, tF, tF, tT, tF, tF, tT, tT, tT, tT, tT, tT, tC (eF (by ((try simp only [sR] at *); omega) : (op == 23) = false)), tC (eF (by ((try simp only [sR] at *); omega) : (op == 23) = false)), tT, tC (by ((try simp only [sR] at *); omega) : (op == 23) = false), tT, tC (eF (by ((try simp only [sR] at *); omega) : (op == 24) = false)), tC (eF (by ((try simp only [sR] at *); omega) : (op == 24) = false)), tT, tC (by ((try simp only [sR] at *); omega) : (op == 24) = false), tT, tT, tF] ++ List.replicate 5 (tC (eT (by ((try simp only [sR] at *); omega) : (op == 15) = false))) ++ [tC (by ((try simp only [sR] at *); omega) : (op == 15) = false), tF]) (by kernel_rfl)
def SpXQ64 (k0_ : Int) : Prop := ∀ (n : Int) (n0 : 0 ≤ n) (n1 : n ≤ 7), RoundRun Tryz.prog (loopB Tryz.f20 0) ⟨[], [], []⟩ 0 ((.int .i64 k0_) :: (.int .i8 n) :: (uu) :: (uu) :: (uu) :: (.int .i8 32) :: (un 71)) [] (Ex.exit (0 : Nat)) (un 77) ([])
theorem gr129_end : SpXQ64 129 := by
 intro n n0 n1
 exact RoundRun.of_eval mixed [tF] (by kernel_rfl)
theorem gr193_end : SpXQ64 193 := by
 intro n n0 n1
 exact RoundRun.of_eval mixed [tF] (by kernel_rfl)
theorem gr211_end : SpXQ64 211 := by
 intro n n0 n1
 exact RoundRun.of_eval mixed [tF] (by kernel_rfl)
theorem gr247_end : SpXQ64 247 := by
 intro n n0 n1
 exact RoundRun.of_eval mixed [tF] (by kernel_rfl)
end Go.Proofs.YtcngafhpodeenaaGreat

namespace Go.Proofs.YtcngafhpodeenaaGreat
open Go Go.Ev
set_option maxRecDepth 100000
abbrev grT (base n op : Int) : List D := [.int .i64 base, .int .i8 n, .undef, .undef, .undef, .int .i8 op, .undef, .undef, .undef, .undef, .undef, .undef, .undef, .undef, .undef, .undef, .undef, .undef, .undef, .undef, .undef, .undef, .undef, .undef, .undef, .undef, .undef, .undef, .undef, .undef, .undef, .undef, .undef, .undef, .undef, .undef, .undef, .undef, .undef, .undef, .undef, .undef, .undef, .undef, .undef, .undef, .undef, .undef, .undef, .undef, .undef, .undef, .undef, .undef, .undef, .undef, .undef, .undef, .undef, .undef, .undef, .undef, .undef, .undef, .undef, .undef, .undef, .undef, .undef, .undef, .undef, .undef, .undef, .undef, .undef, .undef, .undef]
abbrev grR (o : Int) : List D := [.undef, .undef, .undef, .undef, .int .i8 o, .undef, .undef, .undef, .undef, .undef, .undef, .undef, .undef, .undef, .undef, .undef, .undef, .undef, .undef, .undef, .undef, .undef, .undef, .undef, .undef, .undef, .undef, .undef, .undef, .undef, .undef, .undef, .undef, .undef, .undef, .undef, .undef, .undef, .undef, .undef, .undef, .undef, .undef, .undef, .undef, .undef, .undef, .undef, .undef, .undef, .undef, .undef, .undef, .undef, .undef, .undef, .undef, .undef, .undef, .undef, .undef, .undef, .undef, .undef, .undef, .undef, .undef, .undef, .undef, .undef, .undef, .undef, .undef, .undef, .undef, .undef, .undef]
abbrev grE : List D := [.undef, .undef, .undef, .undef, .undef, .undef, .undef, .undef, .undef, .undef, .undef, .undef, .undef, .undef, .undef, .undef, .undef, .undef, .undef, .undef, .undef, .undef, .undef, .undef, .undef, .undef, .undef, .undef, .undef, .undef, .undef, .undef, .undef, .undef, .undef, .undef, .undef, .undef, .undef, .undef, .undef, .undef, .undef, .undef, .undef, .undef, .undef, .undef, .undef, .undef, .undef, .undef, .undef, .undef, .undef, .undef, .undef, .undef, .undef, .undef, .undef, .undef, .undef, .undef, .undef, .undef, .undef, .undef, .undef, .undef, .undef, .undef, .undef, .undef, .undef, .undef, .undef]
theorem gr_miss {base n : Int} (hbase : base = 129 ∨ base = 193 ∨ base = 211 ∨ base = 247) (n0 : 0 ≤ n) (n1 : n ≤ 7) (op : Int) (o0 : 0 ≤ op) (o1 : op ≤ 31) (h : grpHit base n op = false) :
  RoundRun Tryz.prog (loopB Tryz.f20 0) ⟨[0, 1, 5], [], []⟩ 0 (grT base n op) [] .norm (grT base n (op + 1)) [] := by
 have hw : IntKind.i8.wrap (op + 1) = op + 1 := by rw [w_i8]; omega
 rw [← hw]
 unfold grpHit grpIn at h
 rcases hbase with rfl | rfl | rfl | rfl
 ·simp only [if_true] at h
  by_cases c15 : op = 15
  ·subst c15; exact gr129_15 n n0 n1
  by_cases c1 : op = 1
  ·subst c1; exact gr129_1 n n0 n1
  by_cases hc : classM op = 2
  ·have : rcM op ≠ n := by intro e; rw [decide_eq_true ⟨hc, c15, c1⟩, decide_eq_true e] at h; cases h
   exact gr129_n n op o0 o1 n0 n1 hc c15 c1 this
  ·exact gr129_c n op o0 o1 n0 n1 hc
 ·simp only [show ¬ (193 : Int) = 129 by decide, if_false, if_true] at h
  by_cases hc : classM op = 3
  ·have : rcM op ≠ n := by intro e; rw [decide_eq_true hc, decide_eq_true e] at h; cases h
   exact gr193_n n op o0 o1 n0 n1 hc this
  ·exact gr193_c n op o0 o1 n0 n1 hc
 ·simp only [show ¬ (211 : Int) = 129 by decide, show ¬ (211 : Int) = 193 by decide, if_false, if_true] at h
  by_cases c23 : op = 23
  ·subst c23; exact gr211_23 n n0 n1
  by_cases c24 : op = 24
  ·subst c24; exact gr211_24 n n0 n1
  by_cases hc : classM op = 4
  ·have : rcM op ≠ n := by intro e; rw [decide_eq_true ⟨hc, c23, c24⟩, decide_eq_true e] at h; cases h
   exact gr211_n n op o0 o1 n0 n1 hc c23 c24 this
  ·exact gr211_c n op o0 o1 n0 n1 hc
 ·simp only [show ¬ (247 : Int) = 129 by decide, show ¬ (247 : Int) = 193 by decide, show ¬ (247 : Int) = 211 by decide, if_false] at h
  by_cases c23 : op = 23
  ·subst c23
   exact gr247_23n n n0 n1 (by rintro rfl; revert h; decide)
  by_cases c24 : op = 24
  ·subst c24
   exact gr247_24n n n0 n1 (by rintro rfl; revert h; decide)
  by_cases c15 : op = 15
  ·subst c15
   exact gr247_15n n n0 n1 (by rintro rfl; revert h; decide)
  ·exact gr247_o n op o0 o1 n0 n1 c15 c23 c24
theorem gr_hit {base n : Int} (hbase : base = 129 ∨ base = 193 ∨ base = 211 ∨ base = 247) (n0 : 0 ≤ n) (n1 : n ≤ 7) (op : Int) (o0 : 0 ≤ op) (o1 : op ≤ 31) (h : grpHit base n op = true) :
  RoundRun Tryz.prog (loopB Tryz.f20 0) ⟨[4], [], []⟩ 0 (grT base n op) [] .ret (grR op) [] := by
 unfold grpHit grpIn at h
 rw [Bool.and_eq_true, decide_eq_true_eq] at h
 obtain ⟨h, hn⟩ := h
 rcases hbase with rfl | rfl | rfl | rfl
 ·simp only [if_true, decide_eq_true_eq] at h
  exact gr129_hit n op o0 o1 n0 n1 h.1 h.2.1 h.2.2 hn
 ·simp only [show ¬ (193 : Int) = 129 by decide, if_false, if_true, decide_eq_true_eq] at h
  exact gr193_hit n op o0 o1 n0 n1 h hn
 ·simp only [show ¬ (211 : Int) = 129 by decide, show ¬ (211 : Int) = 193 by decide, if_false, if_true, decide_eq_true_eq] at h
  exact gr211_hit n op o0 o1 n0 n1 h.1 h.2.1 h.2.2 hn
 ·simp only [show ¬ (247 : Int) = 129 by decide, show ¬ (247 : Int) = 193 by decide, show ¬ (247 : Int) = 211 by decide, if_false, decide_eq_true_eq] at h
  rcases h with rfl | rfl | rfl
  ·exact gr247_23 n n0 n1 (by rw [← hn]; rfl)
  ·exact gr247_24 n n0 n1 (by rw [← hn]; rfl)
  ·exact gr247_15 n n0 n1 (by rw [← hn]; rfl)
theorem gr_rounds {base n : Int} (hbase : base = 129 ∨ base = 193 ∨ base = 211 ∨ base = 247) (n0 : 0 ≤ n) (n1 : n ≤ 7) : ∀ (m j : Nat), j + m = 32 → match (ops32.drop j).find? (grpHit base n) with
  | none => Rounds Tryz.prog (loopB Tryz.f20 0) 0 (grT base n j) [] (.exit 0) grE []
  | some o => Rounds Tryz.prog (loopB Tryz.f20 0) 0 (grT base n j) [] .ret (grR o) []
 | 0, j, hj => by
  obtain rfl : j = 32 := by omega
  rw [show (ops32.drop 32).find? (grpHit base n) = none from rfl]
  rcases hbase with rfl | rfl | rfl | rfl
  ·exact Rounds.last (gr129_end n n0 n1) (fun h => by cases h)
  ·exact Rounds.last (gr193_end n n0 n1) (fun h => by cases h)
  ·exact Rounds.last (gr211_end n n0 n1) (fun h => by cases h)
  ·exact Rounds.last (gr247_end n n0 n1) (fun h => by cases h)
 | m + 1, j, hj => by
  have ih := gr_rounds hbase n0 n1 m (j + 1) (by omega)
  rw [ops_drop (by omega), List.find?_cons]
  cases h : grpHit base n (j : Int) with
  | true => exact Rounds.last (gr_hit hbase n0 n1 j (by omega) (by omega) h) (fun h => by cases h)
  | false =>
   have := gr_miss hbase n0 n1 j (by omega) (by omega) h
   rw [show ((j : Int) + 1) = ((j + 1 : Nat) : Int) by omega] at this
   simp only
   split
   ·rename_i e; rw [e] at ih; exact Rounds.more this ih
   ·rename_i r e; rw [e] at ih; exact Rounds.more this ih
theorem gr_id {n0 : Nat} {c : Code} {t : List D} {s : List Ob} {ex : Ex} {t' : List D} {s' : List Ob} (h : LoopRun Tryz.prog n0 c t s ex t' s') : LoopRun Tryz.prog n0 c t s ex t' s' := h
theorem gr_loop {base n : Int} (hbase : base = 129 ∨ base = 193 ∨ base = 211 ∨ base = 247) (n0 : 0 ≤ n) (n1 : n ≤ 7) : match ops32.find? (grpHit base n) with
  | none => LoopRun Tryz.prog 0 (.loop (loopB Tryz.f20 0)) (grT base n 0) [] (.exit 0) grE []
  | some o => LoopRun Tryz.prog 0 (.loop (loopB Tryz.f20 0)) (grT base n 0) [] .ret (grR o) [] := by
 have h := gr_rounds hbase n0 n1 32 0 rfl
 rw [List.drop_zero] at h
 split
 ·rename_i e; rw [e] at h; exact LoopRun.of_rounds (by decide) h
 ·rename_i o e; rw [e] at h; exact LoopRun.of_rounds (by decide) h
end Go.Proofs.YtcngafhpodeenaaGreat

namespace Go.Proofs.YtcngafhpodeenaaGreat
open Go Go.Ev
set_option maxRecDepth 100000
set_option maxHeartbeats 8000000
theorem grp_no_ok (base n o : Int) (hx : LoopRun Tryz.prog 0 (.loop (loopB Tryz.f20 0)) (grT base n 0) [] (.exit 0) (grE) [])  : Ret Tryz.prog 20 ([.int .i64 base, .int .i8 n]) (.int .i8 (-1)) := by
 have c0 := @gr_id (nat_lit 0) _ ([.int .i64 base, .int .i8 n, D.undef, D.undef, D.undef, .int .i8 0, D.undef, D.undef, D.undef, D.undef, D.undef, D.undef, D.undef, D.undef, D.undef, D.undef, D.undef, D.undef, D.undef, D.undef, D.undef, D.undef, D.undef, D.undef, D.undef, D.undef, D.undef, D.undef, D.undef, D.undef, D.undef, D.undef, D.undef, D.undef, D.undef, D.undef, D.undef, D.undef, D.undef, D.undef, D.undef, D.undef, D.undef, D.undef, D.undef, D.undef, D.undef, D.undef, D.undef, D.undef, D.undef, D.undef, D.undef, D.undef, D.undef, D.undef, D.undef, D.undef, D.undef, D.undef, D.undef, D.undef, D.undef, D.undef, D.undef, D.undef, D.undef, D.undef, D.undef, D.undef, D.undef, D.undef, D.undef, D.undef, D.undef, D.undef, D.undef]) ([]) _ _ _ hx
 exact (Ret.of_eval (d := .int .i8 (-1 : Int)) mixed Tryz.func20 (by kernel_rfl) [.head ⟨[0, 1, 5], [], []⟩ _ _ _ _ _ _ _ c0] (by kernel_rfl)).to (by rfl)
theorem grp_yes_ok (base n o : Int) (hx : LoopRun Tryz.prog 0 (.loop (loopB Tryz.f20 0)) (grT base n 0) [] (.ret) (grR o) [])  : Ret Tryz.prog 20 ([.int .i64 base, .int .i8 n]) (.int .i8 o) := by
 have c0 := @gr_id (nat_lit 0) _ ([.int .i64 base, .int .i8 n, D.undef, D.undef, D.undef, .int .i8 0, D.undef, D.undef, D.undef, D.undef, D.undef, D.undef, D.undef, D.undef, D.undef, D.undef, D.undef, D.undef, D.undef, D.undef, D.undef, D.undef, D.undef, D.undef, D.undef, D.undef, D.undef, D.undef, D.undef, D.undef, D.undef, D.undef, D.undef, D.undef, D.undef, D.undef, D.undef, D.undef, D.undef, D.undef, D.undef, D.undef, D.undef, D.undef, D.undef, D.undef, D.undef, D.undef, D.undef, D.undef, D.undef, D.undef, D.undef, D.undef, D.undef, D.undef, D.undef, D.undef, D.undef, D.undef, D.undef, D.undef, D.undef, D.undef, D.undef, D.undef, D.undef, D.undef, D.undef, D.undef, D.undef, D.undef, D.undef, D.undef, D.undef, D.undef, D.undef]) ([]) _ _ _ hx
 exact (Ret.of_eval (d := .int .i8 o) mixed Tryz.func20 (by kernel_rfl) [.head ⟨[0, 1, 5], [], []⟩ _ _ _ _ _ _ _ c0] (by kernel_rfl)).to (by rfl)
end Go.Proofs.YtcngafhpodeenaaGreat

namespace Go.Proofs.YtcngafhpodeenaaGreat
open Go Go.Ev
set_option maxRecDepth 100000
theorem group_ok {base n : Int} (hbase : base = 129 ∨ base = 193 ∨ base = 211 ∨ base = 247) (n0 : 0 ≤ n) (n1 : n ≤ 7) : Ret Tryz.prog 20 [.int .i64 base, .int .i8 n] (.int .i8 (groupM base n)) := by
 have h := gr_loop hbase n0 n1
 unfold groupM
 split at h
 ·rename_i e; rw [e]; exact grp_no_ok base n 0 h
 ·rename_i o e; rw [e]; exact grp_yes_ok base n o h
end Go.Proofs.YtcngafhpodeenaaGreat

namespace Go.Proofs.YtcngafhpodeenaaGreat
open Go Go.Ev
set_option maxRecDepth 100000
set_option maxHeartbeats 8000000
theorem drb_in_ok (X0 X2 : List D) (b : List Int) (k : Nat) (bad w : Bool) (rr mm : Int) (l1 : ((bD b).length : Int) ≤ 1000) (h : (k : Int) < ((bD b).length : Int)) (v : Int) (hv : (bD b)[Int.toNat (IntKind.i64.wrap (IntKind.i64.wrap ((k : Int) + 1) - 1))]? = some (.int .u8 v))  : CallRun Tryz.prog 22 ([.ptr false 1 0]) ([.box X0, .box [.lst .no 1 (bD b), .int .i64 ((k : Int)), .bool bad, .bool w, .int .i8 rr, .int .i8 mm], .box X2, .dead]) (.int .i64 (IntKind.i64.wrap v)) ([.box X0, .box [.lst .no 1 (bD b), .int .i64 (IntKind.i64.wrap ((k : Int) + 1)), .bool bad, .bool w, .int .i8 rr, .int .i8 mm], .box X2, .dead]) := by
 exact (CallRun.of_eval (keep := [0, 1, 2, 3]) (d := .int .i64 (IntKind.wrap IntKind.i64 v)) (s' := [Ob.box X0, Ob.box [.lst .no 1 (bD b), .int .i64 (IntKind.wrap IntKind.i64 ((↑k : Int) + (1 : Int))), .bool bad, .bool w, .int .i8 rr, .int .i8 mm], Ob.box X2, Ob.dead]) mixed [tC (by ((try simp only [len_bD, w_i8, w_u8, w_i64, w_u64, decide_eq_true_eq, decide_eq_false_iff_not, beq_iff_eq, bne_iff_ne, beq_eq_false_iff_ne, bne_eq_false_iff_eq, Bool.not_eq_true', Bool.not_eq_false', Bool.and_eq_true, Bool.or_eq_true] at *); (try unfold big at *); omega) : (decide ((↑k : Int) ≥ (↑(List.length (bD b)) : Int))) = false), .tst (decide ((0 : Int) ≤ IntKind.wrap IntKind.i64 (IntKind.wrap IntKind.i64 ((↑k : Int) + (1 : Int)) - (1 : Int)))) true (by ((try simp only [len_bD, w_i8, w_u8, w_i64, w_u64, decide_eq_true_eq, decide_eq_false_iff_not, beq_iff_eq, bne_iff_ne, beq_eq_false_iff_ne, bne_eq_false_iff_eq, Bool.not_eq_true', Bool.not_eq_false', Bool.and_eq_true, Bool.or_eq_true] at *); (try unfold big at *); omega)), .get _ _ _ hv] (by kernel_rfl)).cast (by rfl) (by rfl)
theorem drb_out_ok (X0 X2 : List D) (b : List Int) (k : Nat) (bad w : Bool) (rr mm : Int) (l1 : ((bD b).length : Int) ≤ 1000) (h : ((bD b).length : Int) ≤ (k : Int))  : CallRun Tryz.prog 22 ([.ptr false 1 0]) ([.box X0, .box [.lst .no 1 (bD b), .int .i64 ((k : Int)), .bool bad, .bool w, .int .i8 rr, .int .i8 mm], .box X2, .dead]) (.int .i64 0) ([.box X0, .box [.lst .no 1 (bD b), .int .i64 ((k : Int)), .bool true, .bool w, .int .i8 rr, .int .i8 mm], .box X2, .dead]) := by
 exact (CallRun.of_eval (keep := [0, 1, 2, 3]) (d := .int .i64 0) (s' := [Ob.box X0, Ob.box [.lst .no 1 (bD b), .int .i64 (↑k : Int), .bool true, .bool w, .int .i8 rr, .int .i8 mm], Ob.box X2, Ob.dead]) mixed [tC (by ((try simp only [len_bD, w_i8, w_u8, w_i64, w_u64, decide_eq_true_eq, decide_eq_false_iff_not, beq_iff_eq, bne_iff_ne, beq_eq_false_iff_ne, bne_eq_false_iff_eq, Bool.not_eq_true', Bool.not_eq_false', Bool.and_eq_true, Bool.or_eq_true] at *); (try unfold big at *); omega) : (decide ((↑k : Int) ≥ (↑(List.length (bD b)) : Int))) = true)] (by kernel_rfl)).cast (by rfl) (by rfl)
end Go.Proofs.YtcngafhpodeenaaGreat

namespace Go.Proofs.YtcngafhpodeenaaGreat
open Go Go.Ev
set_option maxRecDepth 100000
abbrev rgS (X0 X2 : List D) (b : List Int) (k : Nat) (bad w : Bool) (rr mm : Int) : List Ob := [.box X0, .box [.lst .no 1 (bD b), .int .i64 (k : Int), .bool bad, .bool w, .int .i8 rr, .int .i8 mm], .box X2, .dead]
theorem dbyte_ok (X0 X2 : List D) (b : List Int) (hb : isB b) (hl : b.length ≤ 1000) (k : Nat) (bad w : Bool) (rr mm : Int) : CallRun Tryz.prog 22 [.ptr false 1 0] (rgS X0 X2 b k bad w rr mm) (.int .i64 (rdV b k)) (rgS X0 X2 b (rdA b k) (rdX b k bad) w rr mm) := by
 have l1 : ((bD b).length : Int) ≤ 1000 := by rw [len_bD]; omega
 by_cases h : k < b.length
 ·have hw : IntKind.i64.wrap ((k : Int) + 1) = ((k + 1 : Nat) : Int) := by rw [w_i64]; omega
  have hw2 : IntKind.i64.wrap (IntKind.i64.wrap ((k : Int) + 1) - 1) = (k : Int) := by rw [hw, w_i64]; omega
  have hv : (bD b)[Int.toNat (IntKind.i64.wrap (IntKind.i64.wrap ((k : Int) + 1) - 1))]? = some (.int .u8 (rdV b k)) := by
   rw [hw2, Int.toNat_natCast]
   unfold rdV bD
   simp [h, List.getD_eq_getElem?_getD]
  have := drb_in_ok X0 X2 b k bad w rr mm l1 (by rw [len_bD]; omega) (rdV b k) hv
  have hr := rdV_rng hb k
  have e : IntKind.i64.wrap (rdV b k) = rdV b k := by rw [w_i64]; omega
  have e1 : rdA b k = k + 1 := by unfold rdA; rw [if_pos h]
  have e2 : rdX b k bad = bad := by unfold rdX; rw [decide_eq_false (by omega), Bool.or_false]
  rw [hw, e] at this
  rw [e1, e2]
  exact this
 ·have := drb_out_ok X0 X2 b k bad w rr mm l1 (by rw [len_bD]; omega)
  have e0 : rdV b k = 0 := by unfold rdV; rw [List.getD_eq_getElem?_getD, List.getElem?_eq_none (by omega)]; rfl
  have e1 : rdA b k = k := by unfold rdA; rw [if_neg h]
  have e2 : rdX b k bad = true := by unfold rdX; rw [decide_eq_true (by omega), Bool.or_true]
  rw [e0, e1, e2]
  exact this
end Go.Proofs.YtcngafhpodeenaaGreat

namespace Go.Proofs.YtcngafhpodeenaaGreat
open Go Go.Ev
set_option maxRecDepth 100000
set_option maxHeartbeats 8000000
theorem dnum4_ok (X0 X2 : List D) (b : List Int) (hb : isB b) (hl : b.length ≤ 1000) (k : Nat) (bad w : Bool) (rr mm : Int) (u : Int) (hs : Ret Tryz.prog 45 [.int .u64 (IntKind.u64.wrap (IntKind.u64.wrap (IntKind.u64.wrap (IntKind.u64.wrap (0 + IntKind.u64.wrap (IntKind.u64.wrap (rdV b (k)) * 1)) + IntKind.u64.wrap (IntKind.u64.wrap (rdV b (rdA b (k))) * 256)) + IntKind.u64.wrap (IntKind.u64.wrap (rdV b (rdA b (rdA b (k)))) * 65536)) + IntKind.u64.wrap (IntKind.u64.wrap (rdV b (rdA b (rdA b (rdA b (k))))) * 16777216))), .int .i8 32] (.int .u64 u))  : CallRun Tryz.prog 21 ([.ptr false 1 0, .int .i64 4]) ([.box X0, .box [.lst .no 1 (bD b), .int .i64 ((k : Int)), .bool (bad), .bool w, .int .i8 rr, .int .i8 mm], .box X2, .dead]) (.int .i64 (IntKind.i64.wrap u)) ([.box X0, .box [.lst .no 1 (bD b), .int .i64 ((rdA b (rdA b (rdA b (rdA b (k)))) : Nat)), .bool (rdX b (rdA b (rdA b (rdA b (k)))) (rdX b (rdA b (rdA b (k))) (rdX b (rdA b (k)) (rdX b (k) (bad))))), .bool w, .int .i8 rr, .int .i8 mm], .box X2, .dead, .dead]) := by
 exact (CallRun.of_eval (keep := [0, 1, 2, 3]) (d := .int .i64 (IntKind.wrap IntKind.i64 u)) (s' := [Ob.box X0, Ob.box [.lst .no 1 (bD b), .int .i64 (↑(rdA b (rdA b (rdA b (rdA b k)))) : Int), .bool (rdX b (rdA b (rdA b (rdA b k))) (rdX b (rdA b (rdA b k)) (rdX b (rdA b k) (rdX b k bad)))), .bool w, .int .i8 rr, .int .i8 mm], Ob.box X2, Ob.dead, Ob.dead]) mixed [.go 64, tT, .callR _ _ _ _ _ (@dbyte_ok (X0) (X2) (b) hb hl (k) (bad) (w) (rr) (mm)), tT, tT, .callR _ _ _ _ _ (@dbyte_ok (X0) (X2) (b) hb hl (rdA b k) (rdX b k bad) (w) (rr) (mm)), tT, tT, .callR _ _ _ _ _ (@dbyte_ok (X0) (X2) (b) hb hl (rdA b (rdA b k)) (rdX b (rdA b k) (rdX b k bad)) (w) (rr) (mm)), tT, tT, .callR _ _ _ _ _ (@dbyte_ok (X0) (X2) (b) hb hl (rdA b (rdA b (rdA b k))) (rdX b (rdA b (rdA b k)) (rdX b (rdA b k) (rdX b k bad))) (w) (rr) (mm)), tT, tF, .ret _ _ _ hs] (by kernel_rfl)).cast (by rfl) (by rfl)
end Go.Proofs.YtcngafhpodeenaaGreat

namespace Go.Proofs.YtcngafhpodeenaaGreat
open Go Go.Ev
set_option maxRecDepth 100000
theorem dnumber4_ok (X0 X2 : List D) (b : List Int) (hb : isB b) (hl : b.length ≤ 1000) (k : Nat) (bad w : Bool) (rr mm : Int) : CallRun Tryz.prog 21 [.ptr false 1 0, .int .i64 4] (rgS X0 X2 b k bad w rr mm) (.int .i64 (rdN4 b k)) (rgS X0 X2 b (rdA4 b k) (rdX4 b k bad) w rr mm ++ [.dead]) := by
 have h0 := rdV_rng hb k
 have h1 := rdV_rng hb (rdA b k)
 have h2 := rdV_rng hb (rdA b (rdA b k))
 have h3 := rdV_rng hb (rdA b (rdA b (rdA b k)))
 have e := sum4 h0 h1 h2 h3
 have := dnum4_ok X0 X2 b hb hl k bad w rr mm (signM (rdV b k + 256 * rdV b (rdA b k) + 65536 * rdV b (rdA b (rdA b k)) + 16777216 * rdV b (rdA b (rdA b (rdA b k)))) 32) (by rw [e]; exact rsign_32_ok _)
 rw [sgn32 (by omega)] at this
 exact this
end Go.Proofs.YtcngafhpodeenaaGreat

namespace Go.Proofs.YtcngafhpodeenaaGreat
open Go Go.Ev
set_option maxRecDepth 100000
set_option maxHeartbeats 8000000
theorem rc137m1 (b : List Int) (hb : isB b) (hl : b.length ≤ 1000) (k : Nat) (bad w half : Bool) (rr mm W : Int) (n0 : 0 ≤ rdV b k) (n1 : rdV b k ≤ 255) (hk : (k : Int) < ((bD b).length : Int)) (hv : (bD b)[Int.toNat (k : Int)]? = some (.int .u8 (rdV b k))) (h : rdV b k < 192)  : RoundRun Tryz.prog (blockB Tryz.f10 0) fQ 3 (tQ b 137 true) [Ob.box zX, bR b (↑k : Int) bad w rr mm, Ob.box (xC (-1) W 0 0 0 0 0 0)] .norm (tU b) ([Ob.box zX, bR b (↑(rdA4 b (rdMk b k)) : Int) (rdX4 b (rdMk b k) (rdMx b k bad)) w rr mm, Ob.box (xC 27 16 0 (rdHi (rdV b k) rr) (rdLo (rdV b k) mm) (rdN4 b (rdMk b k)) 0 0)]) := by
 exact RoundRun.of_eval mixed ([tT] ++ List.replicate 6 (tC (eT (by ((try simp only [len_bD, sl2] at *); (try unfold big at *); omega) : (decide ((↑(List.length (bD b)) : Int) > (↑k : Int))) = true))) ++ [tT, .get _ _ _ hv, tC (eT (by ((try simp only [len_bD, sl2] at *); (try unfold big at *); omega) : (decide ((↑(List.length (bD b)) : Int) > (↑k : Int))) = true)), tC (eT (by ((try simp only [len_bD, sl2] at *); (try unfold big at *); omega) : (decide ((↑(List.length (bD b)) : Int) > (↑k : Int))) = true)), tC (by ((try simp only [len_bD, sl2] at *); (try unfold big at *); omega) : (decide ((↑(List.length (bD b)) : Int) > (↑k : Int))) = true), tC (decide_eq_true h), .callR _ _ _ _ _ (@mem_ok (zX) ((xC 27 W 0 0 0 0 0 0)) b hb hl k bad w rr mm), tT]) (by kernel_rfl)
theorem rc137m0 (b : List Int) (hb : isB b) (hl : b.length ≤ 1000) (k : Nat) (bad w half : Bool) (rr mm W : Int) (n0 : 0 ≤ rdV b k) (n1 : rdV b k ≤ 255) (hk : (k : Int) < ((bD b).length : Int)) (hv : (bD b)[Int.toNat (k : Int)]? = some (.int .u8 (rdV b k))) (h : rdV b k < 192)  : RoundRun Tryz.prog (blockB Tryz.f10 0) fQ 3 (tQ b 137 false) [Ob.box zX, bR b (↑k : Int) bad w rr mm, Ob.box (xC (-1) W 0 0 0 0 0 0)] .norm (tU b) ([Ob.box zX, bR b (↑(rdA4 b (rdMk b k)) : Int) (rdX4 b (rdMk b k) (rdMx b k bad)) w rr mm, Ob.box (xC 27 W 0 (rdHi (rdV b k) rr) (rdLo (rdV b k) mm) (rdN4 b (rdMk b k)) 0 0)]) := by
 exact RoundRun.of_eval mixed ([tT] ++ List.replicate 6 (tC (eT (by ((try simp only [len_bD, sl2] at *); (try unfold big at *); omega) : (decide ((↑(List.length (bD b)) : Int) > (↑k : Int))) = true))) ++ [tT, .get _ _ _ hv, tC (eT (by ((try simp only [len_bD, sl2] at *); (try unfold big at *); omega) : (decide ((↑(List.length (bD b)) : Int) > (↑k : Int))) = true)), tC (eT (by ((try simp only [len_bD, sl2] at *); (try unfold big at *); omega) : (decide ((↑(List.length (bD b)) : Int) > (↑k : Int))) = true)), tC (by ((try simp only [len_bD, sl2] at *); (try unfold big at *); omega) : (decide ((↑(List.length (bD b)) : Int) > (↑k : Int))) = true), tC (decide_eq_true h), .callR _ _ _ _ _ (@mem_ok (zX) ((xC 27 W 0 0 0 0 0 0)) b hb hl k bad w rr mm), tF]) (by kernel_rfl)
theorem rc137d (b : List Int) (hb : isB b) (hl : b.length ≤ 1000) (k : Nat) (bad w half : Bool) (rr mm W : Int) (n0 : 0 ≤ rdV b k) (n1 : rdV b k ≤ 255) (hk : (k : Int) < ((bD b).length : Int)) (hv : (bD b)[Int.toNat (k : Int)]? = some (.int .u8 (rdV b k))) (h : 192 ≤ rdV b k)  : RoundRun Tryz.prog (blockB Tryz.f10 0) fQ 3 (tQ b 137 half) [Ob.box zX, bR b (↑k : Int) bad w rr mm, Ob.box (xC (-1) W 0 0 0 0 0 0)] .norm (tU b) ([Ob.box zX, bR b (↑(rdA b k) : Int) (rd2X b k bad) w rr mm, Ob.box (xC 0 W (rdLo (rdV b k) mm) (rdHi (rdV b k) rr) 0 0 0 0)]) := by
 exact RoundRun.of_eval mixed ([tT] ++ List.replicate 6 (tC (eT (by ((try simp only [len_bD, sl2] at *); (try unfold big at *); omega) : (decide ((↑(List.length (bD b)) : Int) > (↑k : Int))) = true))) ++ [tT, .get _ _ _ hv, tC (eT (by ((try simp only [len_bD, sl2] at *); (try unfold big at *); omega) : (decide ((↑(List.length (bD b)) : Int) > (↑k : Int))) = true)), tC (eT (by ((try simp only [len_bD, sl2] at *); (try unfold big at *); omega) : (decide ((↑(List.length (bD b)) : Int) > (↑k : Int))) = true)), tC (by ((try simp only [len_bD, sl2] at *); (try unfold big at *); omega) : (decide ((↑(List.length (bD b)) : Int) > (↑k : Int))) = true), tC (decide_eq_false (Int.not_lt.2 h)), .callR _ _ _ _ _ (@rtwo_ok (zX) ((xC 0 W 0 0 0 0 0 0)) b hb hl k bad w rr mm)]) (by kernel_rfl)
theorem rc137e (b : List Int) (hb : isB b) (hl : b.length ≤ 1000) (k : Nat) (bad w half : Bool) (rr mm W : Int) (n0 : 0 ≤ rdV b k) (n1 : rdV b k ≤ 255) (hk : ((bD b).length : Int) ≤ (k : Int))  : RoundRun Tryz.prog (blockB Tryz.f10 0) fQ 3 (tQ b 137 half) [Ob.box zX, bR b (↑k : Int) bad w rr mm, Ob.box (xC (-1) W 0 0 0 0 0 0)] .norm (tU b) ([Ob.box zX, bR b (↑(rdA b k) : Int) (rd2X b k bad) w rr mm, Ob.box (xC 0 W (rdLo (rdV b k) mm) (rdHi (rdV b k) rr) 0 0 0 0)]) := by
 exact RoundRun.of_eval mixed ([tT] ++ List.replicate 8 (tC (eT (by ((try simp only [len_bD, sl2] at *); (try unfold big at *); omega) : (decide ((↑(List.length (bD b)) : Int) > (↑k : Int))) = false))) ++ [tC (by ((try simp only [len_bD, sl2] at *); (try unfold big at *); omega) : (decide ((↑(List.length (bD b)) : Int) > (↑k : Int))) = false), tF, .callR _ _ _ _ _ (@rtwo_ok (zX) ((xC 0 W 0 0 0 0 0 0)) b hb hl k bad w rr mm)]) (by kernel_rfl)
def SpXQ80 (k0_ : Int) (k1_ : Int) : Prop := ∀ (b : List Int) (hb : isB b) (hl : b.length ≤ 1000) (k : Nat) (bad w half : Bool) (rr mm W : Int) (n0 : 0 ≤ rdV b k) (n1 : rdV b k ≤ 255), RoundRun Tryz.prog (blockB Tryz.f10 0) fQ 3 (tQ b k0_ half) [Ob.box zX, bR b (↑k : Int) bad w rr mm, Ob.box (xC (-1) W 0 0 0 0 0 0)] .norm (tU b) ([Ob.box zX, bR b (↑(rdA b k) : Int) (rd2X b k bad) w rr mm, Ob.box (xC k1_ W (rdLo (rdV b k) mm) (rdHi (rdV b k) rr) 0 0 0 0)])
theorem rcp1 : SpXQ80 1 2 := by
 intro b hb hl k bad w half rr mm W n0 n1
 exact RoundRun.of_eval mixed ([tF, tT, tT, .go 64, tT, .inl, tF, tT, tT, tT, .inl, tF, tF, tT, tF, tT, .inl, tF, tF, tF, tT, tF, tT, .inl, tF, tF, tF, tF, tT, tF, tT, .inl, tF, tF, tF, tF, tF, tT, tF, tT, .inl, tF, tF, tF, tF, tF, tF, tT, tF, tT] ++ [.inl, tF, tF, tF, tF, tF, tF, tF, tT, tF, tF, .callR _ _ _ _ _ (@rtwo_ok (zX) ((xC 2 W 0 0 0 0 0 0)) b hb hl k bad w rr mm)]) (by kernel_rfl)
theorem rcp9 : SpXQ80 9 3 := by
 intro b hb hl k bad w half rr mm W n0 n1
 exact RoundRun.of_eval mixed ([tF, tF, tT, tT, .go 64, tT, .inl, tF, tT, tF, tT, .inl, tF, tF, tT, tT, tT, .inl, tF, tF, tF, tT, tF, tT, .inl, tF, tF, tF, tF, tT, tF, tT, .inl, tF, tF, tF, tF, tF, tT, tF, tT, .inl, tF, tF, tF, tF, tF, tF, tT, tF] ++ [tT, .inl, tF, tF, tF, tF, tF, tF, tF, tT, tF, tF, .callR _ _ _ _ _ (@rtwo_ok (zX) ((xC 3 W 0 0 0 0 0 0)) b hb hl k bad w rr mm)]) (by kernel_rfl)
theorem rcp33 : SpXQ80 33 4 := by
 intro b hb hl k bad w half rr mm W n0 n1
 exact RoundRun.of_eval mixed ([tF, tF, tF, tT, tT, .go 64, tT, .inl, tF, tT, tF, tT, .inl, tF, tF, tT, tF, tT, .inl, tF, tF, tF, tT, tT, tT, .inl, tF, tF, tF, tF, tT, tF, tT, .inl, tF, tF, tF, tF, tF, tT, tF, tT, .inl, tF, tF, tF, tF, tF, tF, tT] ++ [tF, tT, .inl, tF, tF, tF, tF, tF, tF, tF, tT, tF, tF, .callR _ _ _ _ _ (@rtwo_ok (zX) ((xC 4 W 0 0 0 0 0 0)) b hb hl k bad w rr mm)]) (by kernel_rfl)
theorem rcp41 : SpXQ80 41 5 := by
 intro b hb hl k bad w half rr mm W n0 n1
 exact RoundRun.of_eval mixed ([tF, tF, tF, tF, tT, tT, .go 64, tT, .inl, tF, tT, tF, tT, .inl, tF, tF, tT, tF, tT, .inl, tF, tF, tF, tT, tF, tT, .inl, tF, tF, tF, tF, tT, tT, tT, .inl, tF, tF, tF, tF, tF, tT, tF, tT, .inl, tF, tF, tF, tF, tF, tF] ++ [tT, tF, tT, .inl, tF, tF, tF, tF, tF, tF, tF, tT, tF, tF, .callR _ _ _ _ _ (@rtwo_ok (zX) ((xC 5 W 0 0 0 0 0 0)) b hb hl k bad w rr mm)]) (by kernel_rfl)
theorem rcp49 : SpXQ80 49 6 := by
 intro b hb hl k bad w half rr mm W n0 n1
 exact RoundRun.of_eval mixed ([tF, tF, tF, tF, tF, tT, tT, .go 64, tT, .inl, tF, tT, tF, tT, .inl, tF, tF, tT, tF, tT, .inl, tF, tF, tF, tT, tF, tT, .inl, tF, tF, tF, tF, tT, tF, tT, .inl, tF, tF, tF, tF, tF, tT, tT, tT, .inl, tF, tF, tF, tF, tF] ++ [tF, tT, tF, tT, .inl, tF, tF, tF, tF, tF, tF, tF, tT, tF, tF, .callR _ _ _ _ _ (@rtwo_ok (zX) ((xC 6 W 0 0 0 0 0 0)) b hb hl k bad w rr mm)]) (by kernel_rfl)
theorem rcp57 : SpXQ80 57 7 := by
 intro b hb hl k bad w half rr mm W n0 n1
 exact RoundRun.of_eval mixed ([tF, tF, tF, tF, tF, tF, tT, tT, .go 64, tT, .inl, tF, tT, tF, tT, .inl, tF, tF, tT, tF, tT, .inl, tF, tF, tF, tT, tF, tT, .inl, tF, tF, tF, tF, tT, tF, tT, .inl, tF, tF, tF, tF, tF, tT, tF, tT, .inl, tF, tF, tF, tF] ++ [tF, tF, tT, tT, tT, .inl, tF, tF, tF, tF, tF, tF, tF, tT, tF, tF, .callR _ _ _ _ _ (@rtwo_ok (zX) ((xC 7 W 0 0 0 0 0 0)) b hb hl k bad w rr mm)]) (by kernel_rfl)
theorem rcp133 : SpXQ80 133 8 := by
 intro b hb hl k bad w half rr mm W n0 n1
 exact RoundRun.of_eval mixed ([tF, tF, tF, tF, tF, tF, tF, tT, .go 64, tT, .inl, tF, tT, tF, tT, .inl, tF, tF, tT, tF, tT, .inl, tF, tF, tF, tT, tF, tT, .inl, tF, tF, tF, tF, tT, tF, tT, .inl, tF, tF, tF, tF, tF, tT, tF, tT, .inl, tF, tF, tF, tF] ++ [tF, tF, tT, tF, tT, .inl, tF, tF, tF, tF, tF, tF, tF, tT, tT, tF, .callR _ _ _ _ _ (@rtwo_ok (zX) ((xC 8 W 0 0 0 0 0 0)) b hb hl k bad w rr mm)]) (by kernel_rfl)
theorem rcg129 (b : List Int) (hb : isB b) (hl : b.length ≤ 1000) (k : Nat) (bad w half : Bool) (rr mm W : Int) (n0 : 0 ≤ rdV b k) (n1 : rdV b k ≤ 255) (o : Int) (hg : Ret Tryz.prog 20 [.int .i64 129, .int .i8 (IntKind.i8.wrap ((BitVec.ofInt 8 (rdHi (rdV b k) rr) &&& BitVec.ofInt 8 7).toNat : Int))] (.int .i8 o))  : RoundRun Tryz.prog (blockB Tryz.f10 0) fQ 3 (tQ b 129 half) [Ob.box zX, bR b (↑k : Int) bad w rr mm, Ob.box (xC (-1) W 0 0 0 0 0 0)] .norm (tU b) ([Ob.box zX, bR b (↑(rdA4 b (rdA b k)) : Int) (rdX4 b (rdA b k) (rd2X b k bad)) w rr mm, Ob.box (xC o W (rdLo (rdV b k) mm) 0 0 0 (rdN4 b (rdA b k)) 0)]) := by
 exact RoundRun.of_eval mixed (List.replicate 8 tF ++ [tT, tT, .callR _ _ _ _ _ (@rtwo_ok (zX) ((xC (-1) W 0 0 0 0 0 0)) b hb hl k bad w rr mm), .ret _ _ _ hg, tF, tF, tF, tT, tT, .callR _ _ _ _ _ (@dnumber4_ok (zX) ((xC o W (rdLo (rdV b k) mm) 0 0 0 0 0)) b hb hl (rdA b k) (rd2X b k bad) w rr mm), tF]) (by kernel_rfl)
theorem rcg193 (b : List Int) (hb : isB b) (hl : b.length ≤ 1000) (k : Nat) (bad w half : Bool) (rr mm W : Int) (n0 : 0 ≤ rdV b k) (n1 : rdV b k ≤ 255) (o : Int) (hg : Ret Tryz.prog 20 [.int .i64 193, .int .i8 (IntKind.i8.wrap ((BitVec.ofInt 8 (rdHi (rdV b k) rr) &&& BitVec.ofInt 8 7).toNat : Int))] (.int .i8 o)) (ho : o ≠ 15)  : RoundRun Tryz.prog (blockB Tryz.f10 0) fQ 3 (tQ b 193 half) [Ob.box zX, bR b (↑k : Int) bad w rr mm, Ob.box (xC (-1) W 0 0 0 0 0 0)] .norm (tU b) ([Ob.box zX, bR b (↑(rdA b (rdA b k)) : Int) (rdX b (rdA b k) (rd2X b k bad)) w rr mm, Ob.box (xC o W (rdLo (rdV b k) mm) 0 0 0 (rdV b (rdA b k)) 0)]) := by
 exact RoundRun.of_eval mixed (List.replicate 9 tF ++ [tT, tT, .callR _ _ _ _ _ (@rtwo_ok (zX) ((xC (-1) W 0 0 0 0 0 0)) b hb hl k bad w rr mm), .ret _ _ _ hg, tT, tT, tT, tF, tC (by ((try simp only [len_bD, sl2] at *); (try unfold big at *); omega) : (o == 15) = false), tT, .callR _ _ _ _ _ (@dbyte_ok (zX) ((xC o W (rdLo (rdV b k) mm) 0 0 0 0 0)) b hb hl (rdA b k) (rd2X b k bad) w rr mm)]) (by kernel_rfl)
theorem rcg211 (b : List Int) (hb : isB b) (hl : b.length ≤ 1000) (k : Nat) (bad w half : Bool) (rr mm W : Int) (n0 : 0 ≤ rdV b k) (n1 : rdV b k ≤ 255) (o : Int) (hg : Ret Tryz.prog 20 [.int .i64 211, .int .i8 (IntKind.i8.wrap ((BitVec.ofInt 8 (rdHi (rdV b k) rr) &&& BitVec.ofInt 8 7).toNat : Int))] (.int .i8 o)) (ho : o ≠ 15)  : RoundRun Tryz.prog (blockB Tryz.f10 0) fQ 3 (tQ b 211 half) [Ob.box zX, bR b (↑k : Int) bad w rr mm, Ob.box (xC (-1) W 0 0 0 0 0 0)] .norm (tU b) ([Ob.box zX, bR b (↑(rdA b k) : Int) (rd2X b k bad) w rr mm, Ob.box (xC o W (rdLo (rdV b k) mm) 0 0 0 0 0)]) := by
 exact RoundRun.of_eval mixed (List.replicate 10 tF ++ [tT, tT, .callR _ _ _ _ _ (@rtwo_ok (zX) ((xC (-1) W 0 0 0 0 0 0)) b hb hl k bad w rr mm), .ret _ _ _ hg, tT, tT, tT, tF, tC (by ((try simp only [len_bD, sl2] at *); (try unfold big at *); omega) : (o == 15) = false), tF]) (by kernel_rfl)
theorem rcg247n (b : List Int) (hb : isB b) (hl : b.length ≤ 1000) (k : Nat) (bad w half : Bool) (rr mm W : Int) (n0 : 0 ≤ rdV b k) (n1 : rdV b k ≤ 255) (o : Int) (hg : Ret Tryz.prog 20 [.int .i64 247, .int .i8 (IntKind.i8.wrap ((BitVec.ofInt 8 (rdHi (rdV b k) rr) &&& BitVec.ofInt 8 7).toNat : Int))] (.int .i8 o)) (ho : o ≠ 15)  : RoundRun Tryz.prog (blockB Tryz.f10 0) fQ 3 (tQ b 247 half) [Ob.box zX, bR b (↑k : Int) bad w rr mm, Ob.box (xC (-1) W 0 0 0 0 0 0)] .norm (tU b) ([Ob.box zX, bR b (↑(rdA b k) : Int) (rd2X b k bad) w rr mm, Ob.box (xC o W (rdLo (rdV b k) mm) 0 0 0 0 0)]) := by
 exact RoundRun.of_eval mixed (List.replicate 11 tF ++ [tT, .callR _ _ _ _ _ (@rtwo_ok (zX) ((xC (-1) W 0 0 0 0 0 0)) b hb hl k bad w rr mm), .ret _ _ _ hg, tT, tT, tT, tF, tC (by ((try simp only [len_bD, sl2] at *); (try unfold big at *); omega) : (o == 15) = false), tF]) (by kernel_rfl)
theorem rcg247y (b : List Int) (hb : isB b) (hl : b.length ≤ 1000) (k : Nat) (bad w half : Bool) (rr mm W : Int) (n0 : 0 ≤ rdV b k) (n1 : rdV b k ≤ 255) (hg : Ret Tryz.prog 20 [.int .i64 247, .int .i8 (IntKind.i8.wrap ((BitVec.ofInt 8 (rdHi (rdV b k) rr) &&& BitVec.ofInt 8 7).toNat : Int))] (.int .i8 15))  : RoundRun Tryz.prog (blockB Tryz.f10 0) fQ 3 (tQ b 247 half) [Ob.box zX, bR b (↑k : Int) bad w rr mm, Ob.box (xC (-1) W 0 0 0 0 0 0)] .norm (tU b) ([Ob.box zX, bR b (↑(rdA4 b (rdA b k)) : Int) (rdX4 b (rdA b k) (rd2X b k bad)) w rr mm, Ob.box (xC 15 W (rdLo (rdV b k) mm) 0 0 0 (rdN4 b (rdA b k)) 0)]) := by
 exact RoundRun.of_eval mixed (List.replicate 11 tF ++ [tT, .callR _ _ _ _ _ (@rtwo_ok (zX) ((xC (-1) W 0 0 0 0 0 0)) b hb hl k bad w rr mm), .ret _ _ _ hg, tT, tT, tT, tF, tT, .callR _ _ _ _ _ (@dnumber4_ok (zX) ((xC 15 W (rdLo (rdV b k) mm) 0 0 0 0 0)) b hb hl (rdA b k) (rd2X b k bad) w rr mm), tF]) (by kernel_rfl)
theorem rc199 (b : List Int) (hb : isB b) (hl : b.length ≤ 1000) (k : Nat) (bad w half : Bool) (rr mm W : Int) (n0 : 0 ≤ rdV b k) (n1 : rdV b k ≤ 255)  : RoundRun Tryz.prog (blockB Tryz.f10 0) fQ 3 (tQ b 199 half) [Ob.box zX, bR b (↑k : Int) bad w rr mm, Ob.box (xC (-1) W 0 0 0 0 0 0)] .norm (tU b) ([Ob.box zX, bR b (↑(rdA4 b (rdA b k)) : Int) (rdX4 b (rdA b k) (rd2X b k bad)) w rr mm, Ob.box (xC 1 W (rdLo (rdV b k) mm) 0 0 0 (rdN4 b (rdA b k)) 0)]) := by
 exact RoundRun.of_eval mixed (List.replicate 12 tF ++ [tT, .callR _ _ _ _ _ (@rtwo_ok (zX) ((xC 1 W 0 0 0 0 0 0)) b hb hl k bad w rr mm), .callR _ _ _ _ _ (@number4_ok (zX) ((xC 1 W (rdLo (rdV b k) mm) 0 0 0 0 0)) b hb hl (rdA b k) (rd2X b k bad) w rr mm)]) (by kernel_rfl)
theorem rc139 (b : List Int) (hb : isB b) (hl : b.length ≤ 1000) (k : Nat) (bad w half : Bool) (rr mm W : Int) (n0 : 0 ≤ rdV b k) (n1 : rdV b k ≤ 255)  : RoundRun Tryz.prog (blockB Tryz.f10 0) fQ 3 (tQ b 139 half) [Ob.box zX, bR b (↑k : Int) bad w rr mm, Ob.box (xC (-1) W 0 0 0 0 0 0)] .norm (tU b) ([Ob.box zX, bR b (↑(rdA4 b (rdMk b k)) : Int) (rdX4 b (rdMk b k) (rdMx b k bad)) w rr mm, Ob.box (xC 26 W (rdHi (rdV b k) rr) 0 (rdLo (rdV b k) mm) (rdN4 b (rdMk b k)) 0 0)]) := by
 exact RoundRun.of_eval mixed (List.replicate 13 tF ++ [tT, .callR _ _ _ _ _ (@mem_ok (zX) ((xC 26 W 0 0 0 0 0 0)) b hb hl k bad w rr mm)]) (by kernel_rfl)
theorem rc136 (b : List Int) (hb : isB b) (hl : b.length ≤ 1000) (k : Nat) (bad w half : Bool) (rr mm W : Int) (n0 : 0 ≤ rdV b k) (n1 : rdV b k ≤ 255)  : RoundRun Tryz.prog (blockB Tryz.f10 0) fQ 3 (tQ b 136 half) [Ob.box zX, bR b (↑k : Int) bad w rr mm, Ob.box (xC (-1) W 0 0 0 0 0 0)] .norm (tU b) ([Ob.box zX, bR b (↑(rdA4 b (rdMk b k)) : Int) (rdX4 b (rdMk b k) (rdMx b k bad)) w rr mm, Ob.box (xC 27 8 0 (rdHi (rdV b k) rr) (rdLo (rdV b k) mm) (rdN4 b (rdMk b k)) 0 0)]) := by
 exact RoundRun.of_eval mixed (List.replicate 14 tF ++ [tT, .callR _ _ _ _ _ (@mem_ok (zX) ((xC 27 8 0 0 0 0 0 0)) b hb hl k bad w rr mm)]) (by kernel_rfl)
theorem rc235 (b : List Int) (hb : isB b) (hl : b.length ≤ 1000) (k : Nat) (bad w half : Bool) (rr mm W : Int) (n0 : 0 ≤ rdV b k) (n1 : rdV b k ≤ 255)  : RoundRun Tryz.prog (blockB Tryz.f10 0) fQ 3 (tQ b 235 half) [Ob.box zX, bR b (↑k : Int) bad w rr mm, Ob.box (xC (-1) W 0 0 0 0 0 0)] .norm (tU b) ([Ob.box zX, bR b (↑(rdA b k) : Int) (rdX b k bad) w rr mm, Ob.box (xC 28 8 0 0 0 0 (rdN1 b k) 0)]) := by
 exact RoundRun.of_eval mixed (List.replicate 15 tF ++ [tT, .callR _ _ _ _ _ (@number1_ok (zX) ((xC 28 8 0 0 0 0 0 0)) b hb hl k bad w rr mm)]) (by kernel_rfl)
theorem rc233 (b : List Int) (hb : isB b) (hl : b.length ≤ 1000) (k : Nat) (bad w half : Bool) (rr mm W : Int) (n0 : 0 ≤ rdV b k) (n1 : rdV b k ≤ 255)  : RoundRun Tryz.prog (blockB Tryz.f10 0) fQ 3 (tQ b 233 half) [Ob.box zX, bR b (↑k : Int) bad w rr mm, Ob.box (xC (-1) W 0 0 0 0 0 0)] .norm (tU b) ([Ob.box zX, bR b (↑(rdA4 b k) : Int) (rdX4 b k bad) w rr mm, Ob.box (xC 28 W 0 0 0 0 (rdN4 b k) 0)]) := by
 exact RoundRun.of_eval mixed (List.replicate 16 tF ++ [tT, .callR _ _ _ _ _ (@number4_ok (zX) ((xC 28 W 0 0 0 0 0 0)) b hb hl k bad w rr mm)]) (by kernel_rfl)
theorem rc195 (b : List Int) (hb : isB b) (hl : b.length ≤ 1000) (k : Nat) (bad w half : Bool) (rr mm W : Int) (n0 : 0 ≤ rdV b k) (n1 : rdV b k ≤ 255)  : RoundRun Tryz.prog (blockB Tryz.f10 0) fQ 3 (tQ b 195 half) [Ob.box zX, bR b (↑k : Int) bad w rr mm, Ob.box (xC (-1) W 0 0 0 0 0 0)] .norm (tU b) ([Ob.box zX, bR b (↑k : Int) bad w rr mm, Ob.box (xC 30 0 0 0 0 0 0 0)]) := by
 exact RoundRun.of_eval mixed (List.replicate 17 tF ++ [tT]) (by kernel_rfl)
theorem rcb_mul (b : List Int) (hb : isB b) (hl : b.length ≤ 1000) (k : Nat) (bad w half : Bool) (rr mm W : Int) (n0 : 0 ≤ rdV b k) (n1 : rdV b k ≤ 255) (h : rdV b k = 175)  : RoundRun Tryz.prog (blockB Tryz.f10 0) fQ 3 (tQ b 15 half) [Ob.box zX, bR b (↑k : Int) bad w rr mm, Ob.box (xC (-1) W 0 0 0 0 0 0)] .norm (tU b) ([Ob.box zX, bR b (↑(rdA b (rdA b k)) : Int) (rd2X b (rdA b k) (rdX b k bad)) w rr mm, Ob.box (xC 16 W (rdHi (rdV b (rdA b k)) rr) (rdLo (rdV b (rdA b k)) mm) 0 0 0 0)]) := by
 exact RoundRun.of_eval mixed (List.replicate 18 tF ++ [tT, .callR _ _ _ _ _ (@bh_mul_ok (zX) ((xC (-1) W 0 0 0 0 0 0)) b hb hl k bad w rr mm n0 n1 W h)]) (by kernel_rfl)
theorem rcb_host (b : List Int) (hb : isB b) (hl : b.length ≤ 1000) (k : Nat) (bad w half : Bool) (rr mm W : Int) (n0 : 0 ≤ rdV b k) (n1 : rdV b k ≤ 255) (h : rdV b k = 5)  : RoundRun Tryz.prog (blockB Tryz.f10 0) fQ 3 (tQ b 15 half) [Ob.box zX, bR b (↑k : Int) bad w rr mm, Ob.box (xC (-1) W 0 0 0 0 0 0)] .norm (tU b) ([Ob.box zX, bR b (↑(rdA b k) : Int) (rdX b k bad) w rr mm, Ob.box (xC 31 0 0 0 0 0 0 0)]) := by
 exact RoundRun.of_eval mixed (List.replicate 18 tF ++ [tT, .callR _ _ _ _ _ (@bh_host_ok (zX) ((xC (-1) W 0 0 0 0 0 0)) b hb hl k bad w rr mm n0 n1 W h)]) (by kernel_rfl)
theorem rcb_cmov (b : List Int) (hb : isB b) (hl : b.length ≤ 1000) (k : Nat) (bad w half : Bool) (rr mm W : Int) (n0 : 0 ≤ rdV b k) (n1 : rdV b k ≤ 255) (h : 64 ≤ rdV b k) (h2 : rdV b k < 80)  : RoundRun Tryz.prog (blockB Tryz.f10 0) fQ 3 (tQ b 15 half) [Ob.box zX, bR b (↑k : Int) bad w rr mm, Ob.box (xC (-1) W 0 0 0 0 0 0)] .norm (tU b) ([Ob.box zX, bR b (↑(rdA b (rdA b k)) : Int) (rd2X b (rdA b k) (rdX b k bad)) w rr mm, Ob.box (xC 25 W (rdHi (rdV b (rdA b k)) rr) (rdLo (rdV b (rdA b k)) mm) 0 0 0 (IntKind.wrap IntKind.i8 (IntKind.wrap IntKind.i64 (rdV b k - 64))))]) := by
 exact RoundRun.of_eval mixed (List.replicate 18 tF ++ [tT, .callR _ _ _ _ _ (@bh_cmov_ok (zX) ((xC (-1) W 0 0 0 0 0 0)) b hb hl k bad w rr mm n0 n1 W h h2)]) (by kernel_rfl)
theorem rcb_jcc (b : List Int) (hb : isB b) (hl : b.length ≤ 1000) (k : Nat) (bad w half : Bool) (rr mm W : Int) (n0 : 0 ≤ rdV b k) (n1 : rdV b k ≤ 255) (h : 128 ≤ rdV b k) (h2 : rdV b k < 144)  : RoundRun Tryz.prog (blockB Tryz.f10 0) fQ 3 (tQ b 15 half) [Ob.box zX, bR b (↑k : Int) bad w rr mm, Ob.box (xC (-1) W 0 0 0 0 0 0)] .norm (tU b) ([Ob.box zX, bR b (↑(rdA4 b (rdA b k)) : Int) (rdX4 b (rdA b k) (rdX b k bad)) w rr mm, Ob.box (xC 29 W 0 0 0 0 (rdN4 b (rdA b k)) (IntKind.wrap IntKind.i8 (IntKind.wrap IntKind.i64 (rdV b k - 128))))]) := by
 exact RoundRun.of_eval mixed (List.replicate 18 tF ++ [tT, .callR _ _ _ _ _ (@bh_jcc_ok (zX) ((xC (-1) W 0 0 0 0 0 0)) b hb hl k bad w rr mm n0 n1 W h h2)]) (by kernel_rfl)
theorem rcb_l8 (b : List Int) (hb : isB b) (hl : b.length ≤ 1000) (k : Nat) (bad w half : Bool) (rr mm W : Int) (n0 : 0 ≤ rdV b k) (n1 : rdV b k ≤ 255) (h : rdV b k = 182)  : RoundRun Tryz.prog (blockB Tryz.f10 0) fQ 3 (tQ b 15 half) [Ob.box zX, bR b (↑k : Int) bad w rr mm, Ob.box (xC (-1) W 0 0 0 0 0 0)] .norm (tU b) ([Ob.box zX, Ob.box [.lst .no 1 (bD b), .int .i64 (↑(rdA4 b (rdMk b (rdA b k))) : Int), .bool (rdX4 b (rdMk b (rdA b k)) (rdMx b (rdA b k) (rdX b k bad))), .bool w, .int .i8 rr, .int .i8 mm], Ob.box (xC 26 8 (rdHi (rdV b (rdA b k)) rr) 0 (rdLo (rdV b (rdA b k)) mm) (rdN4 b (rdMk b (rdA b k))) 0 0)]) := by
 exact RoundRun.of_eval mixed (List.replicate 18 tF ++ [tT, .callR _ _ _ _ _ (@bh_l8_ok (zX) ((xC (-1) W 0 0 0 0 0 0)) b hb hl k bad w rr mm n0 n1 W h)]) (by kernel_rfl)
theorem rcb_l16 (b : List Int) (hb : isB b) (hl : b.length ≤ 1000) (k : Nat) (bad w half : Bool) (rr mm W : Int) (n0 : 0 ≤ rdV b k) (n1 : rdV b k ≤ 255) (h : rdV b k = 183)  : RoundRun Tryz.prog (blockB Tryz.f10 0) fQ 3 (tQ b 15 half) [Ob.box zX, bR b (↑k : Int) bad w rr mm, Ob.box (xC (-1) W 0 0 0 0 0 0)] .norm (tU b) ([Ob.box zX, Ob.box [.lst .no 1 (bD b), .int .i64 (↑(rdA4 b (rdMk b (rdA b k))) : Int), .bool (rdX4 b (rdMk b (rdA b k)) (rdMx b (rdA b k) (rdX b k bad))), .bool w, .int .i8 rr, .int .i8 mm], Ob.box (xC 26 16 (rdHi (rdV b (rdA b k)) rr) 0 (rdLo (rdV b (rdA b k)) mm) (rdN4 b (rdMk b (rdA b k))) 0 0)]) := by
 exact RoundRun.of_eval mixed (List.replicate 18 tF ++ [tT, .callR _ _ _ _ _ (@bh_l16_ok (zX) ((xC (-1) W 0 0 0 0 0 0)) b hb hl k bad w rr mm n0 n1 W h)]) (by kernel_rfl)
theorem rcb_no (b : List Int) (hb : isB b) (hl : b.length ≤ 1000) (k : Nat) (bad w half : Bool) (rr mm W : Int) (n0 : 0 ≤ rdV b k) (n1 : rdV b k ≤ 255) (q0 : rdV b k ≠ 175) (q1 : rdV b k ≠ 5) (q2 : rdV b k ≠ 182) (q3 : rdV b k ≠ 183) (h : rdV b k < 64 ∨ 80 ≤ rdV b k) (h2 : rdV b k < 128 ∨ 144 ≤ rdV b k)  : RoundRun Tryz.prog (blockB Tryz.f10 0) fQ 3 (tQ b 15 half) [Ob.box zX, bR b (↑k : Int) bad w rr mm, Ob.box (xC (-1) W 0 0 0 0 0 0)] .norm (tU b) ([Ob.box zX, bR b (↑(rdA b k) : Int) (rdX b k bad) w rr mm, Ob.box (xC (-1) W 0 0 0 0 0 0)]) := by
 exact RoundRun.of_eval mixed (List.replicate 18 tF ++ [tT, .callR _ _ _ _ _ (@bh_no_ok (zX) ((xC (-1) W 0 0 0 0 0 0)) b hb hl k bad w rr mm n0 n1 W q0 q1 q2 q3 h h2)]) (by kernel_rfl)
theorem rcr_jcc (b : List Int) (hb : isB b) (hl : b.length ≤ 1000) (k : Nat) (bad w half : Bool) (rr mm W : Int) (n0 : 0 ≤ rdV b k) (n1 : rdV b k ≤ 255) (n : Int) (m0 : 0 ≤ n) (m1 : n ≤ 255) (h : 112 ≤ n) (h2 : n < 128)  : RoundRun Tryz.prog (blockB Tryz.f10 0) fQ 3 (tQ b n half) [Ob.box zX, bR b (↑k : Int) bad w rr mm, Ob.box (xC (-1) W 0 0 0 0 0 0)] .norm (tU b) ([Ob.box zX, bR b (↑(rdA b k) : Int) (rdX b k bad) w rr mm, Ob.box (xC 29 8 0 0 0 0 (rdN1 b k) (IntKind.wrap IntKind.i8 (IntKind.wrap IntKind.i64 (n - 112))))]) := by
 exact RoundRun.of_eval mixed [tC (eqL 137 (decide_eq_true h2)), tC (eqG 1 (decide_eq_false (Int.not_lt.2 h))), tC (eqG 9 (decide_eq_false (Int.not_lt.2 h))), tC (eqG 33 (decide_eq_false (Int.not_lt.2 h))), tC (eqG 41 (decide_eq_false (Int.not_lt.2 h))), tC (eqG 49 (decide_eq_false (Int.not_lt.2 h))), tC (eqG 57 (decide_eq_false (Int.not_lt.2 h))), tC (eqL 133 (decide_eq_true h2)), tC (eqL 129 (decide_eq_true h2)), tC (eqL 193 (decide_eq_true h2)), tC (eqL 211 (decide_eq_true h2)), tC (eqL 247 (decide_eq_true h2)), tC (eqL 199 (decide_eq_true h2)), tC (eqL 139 (decide_eq_true h2)), tC (eqL 136 (decide_eq_true h2)), tC (eqL 235 (decide_eq_true h2)), tC (eqL 233 (decide_eq_true h2)), tC (eqL 195 (decide_eq_true h2)), tC (eqG 15 (decide_eq_false (Int.not_lt.2 h))), .callR _ _ _ _ _ (@rg_jcc_ok (zX) ((xC (-1) W 0 0 0 0 0 0)) b hb hl k bad w rr mm W n m0 m1 h h2)] (by kernel_rfl)
theorem rcr_mov (b : List Int) (hb : isB b) (hl : b.length ≤ 1000) (k : Nat) (bad w half : Bool) (rr mm W : Int) (n0 : 0 ≤ rdV b k) (n1 : rdV b k ≤ 255) (n : Int) (m0 : 0 ≤ n) (m1 : n ≤ 255) (h : 184 ≤ n) (h2 : n < 192)  : RoundRun Tryz.prog (blockB Tryz.f10 0) fQ 3 (tQ b n half) [Ob.box zX, bR b (↑k : Int) bad w rr mm, Ob.box (xC (-1) W 0 0 0 0 0 0)] .norm (tU b) ([Ob.box zX, bR b (↑(rdA4 b k) : Int) (rdX4 b k bad) w rr mm, Ob.box (xC 1 W (IntKind.wrap IntKind.i8 (IntKind.wrap IntKind.i8 (IntKind.wrap IntKind.i64 (n - 184)) + IntKind.wrap IntKind.i8 (8 * mm))) 0 0 0 (rdN4 b k) 0)]) := by
 exact RoundRun.of_eval mixed [tC (eqG 137 (decide_eq_false (Int.not_lt.2 h))), tC (eqG 1 (decide_eq_false (Int.not_lt.2 h))), tC (eqG 9 (decide_eq_false (Int.not_lt.2 h))), tC (eqG 33 (decide_eq_false (Int.not_lt.2 h))), tC (eqG 41 (decide_eq_false (Int.not_lt.2 h))), tC (eqG 49 (decide_eq_false (Int.not_lt.2 h))), tC (eqG 57 (decide_eq_false (Int.not_lt.2 h))), tC (eqG 133 (decide_eq_false (Int.not_lt.2 h))), tC (eqG 129 (decide_eq_false (Int.not_lt.2 h))), tC (eqL 193 (decide_eq_true h2)), tC (eqL 211 (decide_eq_true h2)), tC (eqL 247 (decide_eq_true h2)), tC (eqL 199 (decide_eq_true h2)), tC (eqG 139 (decide_eq_false (Int.not_lt.2 h))), tC (eqG 136 (decide_eq_false (Int.not_lt.2 h))), tC (eqL 235 (decide_eq_true h2)), tC (eqL 233 (decide_eq_true h2)), tC (eqL 195 (decide_eq_true h2)), tC (eqG 15 (decide_eq_false (Int.not_lt.2 h))), .callR _ _ _ _ _ (@rg_mov_ok (zX) ((xC (-1) W 0 0 0 0 0 0)) b hb hl k bad w rr mm W n m0 m1 h h2)] (by kernel_rfl)
theorem rcr_no (b : List Int) (hb : isB b) (hl : b.length ≤ 1000) (k : Nat) (bad w half : Bool) (rr mm W : Int) (n0 : 0 ≤ rdV b k) (n1 : rdV b k ≤ 255) (n : Int) (m0 : 0 ≤ n) (m1 : n ≤ 255) (h : n < 112 ∨ 128 ≤ n) (h2 : n < 184 ∨ 192 ≤ n) (q0 : n ≠ 137) (q1 : n ≠ 1) (q2 : n ≠ 9) (q3 : n ≠ 33) (q4 : n ≠ 41) (q5 : n ≠ 49) (q6 : n ≠ 57) (q7 : n ≠ 133) (q8 : n ≠ 129) (q9 : n ≠ 193) (q10 : n ≠ 211) (q11 : n ≠ 247) (q12 : n ≠ 199) (q13 : n ≠ 139) (q14 : n ≠ 136) (q15 : n ≠ 235) (q16 : n ≠ 233) (q17 : n ≠ 195) (q18 : n ≠ 15)  : RoundRun Tryz.prog (blockB Tryz.f10 0) fQ 3 (tQ b n half) [Ob.box zX, bR b (↑k : Int) bad w rr mm, Ob.box (xC (-1) W 0 0 0 0 0 0)] .norm (tU b) ([Ob.box zX, bR b (↑k : Int) bad w rr mm, Ob.box (xC (-1) W 0 0 0 0 0 0)]) := by
 exact RoundRun.of_eval mixed [tC (by ((try simp only [len_bD, sl2] at *); (try unfold big at *); omega) : (n == 137) = false), tC (by ((try simp only [len_bD, sl2] at *); (try unfold big at *); omega) : (n == 1) = false), tC (by ((try simp only [len_bD, sl2] at *); (try unfold big at *); omega) : (n == 9) = false), tC (by ((try simp only [len_bD, sl2] at *); (try unfold big at *); omega) : (n == 33) = false), tC (by ((try simp only [len_bD, sl2] at *); (try unfold big at *); omega) : (n == 41) = false), tC (by ((try simp only [len_bD, sl2] at *); (try unfold big at *); omega) : (n == 49) = false), tC (by ((try simp only [len_bD, sl2] at *); (try unfold big at *); omega) : (n == 57) = false), tC (by ((try simp only [len_bD, sl2] at *); (try unfold big at *); omega) : (n == 133) = false), tC (by ((try simp only [len_bD, sl2] at *); (try unfold big at *); omega) : (n == 129) = false), tC (by ((try simp only [len_bD, sl2] at *); (try unfold big at *); omega) : (n == 193) = false), tC (by ((try simp only [len_bD, sl2] at *); (try unfold big at *); omega) : (n == 211) = false), tC (by ((try simp only [len_bD, sl2] at *); (try unfold big at *); omega) : (n == 247) = false), tC (by ((try simp only [len_bD, sl2] at *); (try unfold big at *); omega) : (n == 199) = false), tC (by ((try simp only [len_bD, sl2] at *); (try unfold big at *); omega) : (n == 139) = false), tC (by ((try simp only [len_bD, sl2] at *); (try unfold big at *); omega) : (n == 136) = false), tC (by ((try simp only [len_bD, sl2] at *); (try unfold big at *); omega) : (n == 235) = false), tC (by ((try simp only [len_bD, sl2] at *); (try unfold big at *); omega) : (n == 233) = false), tC (by ((try simp only [len_bD, sl2] at *); (try unfold big at *); omega) : (n == 195) = false), tC (by ((try simp only [len_bD, sl2] at *); (try unfold big at *); omega) : (n == 15) = false), .callR _ _ _ _ _ (@rg_no_ok (zX) ((xC (-1) W 0 0 0 0 0 0)) b hb hl k bad w rr mm W n m0 m1 h h2)] (by kernel_rfl)
end Go.Proofs.YtcngafhpodeenaaGreat

namespace Go.Ev
open Go
structure RdO where
  x : XS
  at_ : Nat
  bad : Bool
def pairO (n : Int) : Int := if n = 1 then 2 else if n = 9 then 3 else if n = 33 then 4 else if n = 41 then 5 else if n = 49 then 6 else if n = 57 then 7 else if n = 133 then 8 else -1
def rdBeh (b : List Int) (W rr mm : Int) (k : Nat) (bad : Bool) : RdO :=
  let v := rdV b k
  let k1 := rdA b k
  let x1 := rdX b k bad
  let u := rdV b k1
  if v = 175 then ⟨⟨16, W, rdHi u rr, rdLo u mm, 0, 0, 0, 0⟩, rdA b k1, rd2X b k1 x1⟩
  else if v = 5 then ⟨⟨31, 0, 0, 0, 0, 0, 0, 0⟩, k1, x1⟩
  else if 64 ≤ v ∧ v < 80 then ⟨⟨25, W, rdHi u rr, rdLo u mm, 0, 0, 0, IntKind.i8.wrap (IntKind.i64.wrap (v - 64))⟩, rdA b k1, rd2X b k1 x1⟩
  else if 128 ≤ v ∧ v < 144 then ⟨⟨29, W, 0, 0, 0, 0, rdN4 b k1, IntKind.i8.wrap (IntKind.i64.wrap (v - 128))⟩, rdA4 b k1, rdX4 b k1 x1⟩
  else if v = 182 then ⟨⟨26, 8, rdHi u rr, 0, rdLo u mm, rdN4 b (rdMk b k1), 0, 0⟩, rdA4 b (rdMk b k1), rdX4 b (rdMk b k1) (rdMx b k1 x1)⟩
  else if v = 183 then ⟨⟨26, 16, rdHi u rr, 0, rdLo u mm, rdN4 b (rdMk b k1), 0, 0⟩, rdA4 b (rdMk b k1), rdX4 b (rdMk b k1) (rdMx b k1 x1)⟩
  else ⟨⟨-1, W, 0, 0, 0, 0, 0, 0⟩, k1, x1⟩
def rdRan (b : List Int) (n : Int) (W mm : Int) (k : Nat) (bad : Bool) : RdO :=
  if 112 ≤ n ∧ n < 128 then ⟨⟨29, 8, 0, 0, 0, 0, rdN1 b k, IntKind.i8.wrap (IntKind.i64.wrap (n - 112))⟩, rdA b k, rdX b k bad⟩
  else if 184 ≤ n ∧ n < 192 then ⟨⟨1, W, IntKind.i8.wrap (IntKind.i8.wrap (IntKind.i64.wrap (n - 184)) + IntKind.i8.wrap (8 * mm)), 0, 0, 0, rdN4 b k, 0⟩, rdA4 b k, rdX4 b k bad⟩
  else ⟨⟨-1, W, 0, 0, 0, 0, 0, 0⟩, k, bad⟩
def rdGrp (b : List Int) (n o W dst : Int) (k : Nat) (bad : Bool) : RdO :=
  if n = 129 ∨ o = 15 then ⟨⟨o, W, dst, 0, 0, 0, rdN4 b k, 0⟩, rdA4 b k, rdX4 b k bad⟩
  else if n = 193 then ⟨⟨o, W, dst, 0, 0, 0, rdV b k, 0⟩, rdA b k, rdX b k bad⟩
  else ⟨⟨o, W, dst, 0, 0, 0, 0, 0⟩, k, bad⟩
def rdCase (b : List Int) (n : Int) (half : Bool) (W rr mm : Int) (k : Nat) (bad : Bool) : RdO :=
  let v := rdV b k
  let k1 := rdA b k
  if n = 137 then
    (if k < b.length ∧ v < 192 then ⟨⟨27, if half then 16 else W, 0, rdHi v rr, rdLo v mm, rdN4 b (rdMk b k), 0, 0⟩, rdA4 b (rdMk b k), rdX4 b (rdMk b k) (rdMx b k bad)⟩
    else ⟨⟨0, W, rdLo v mm, rdHi v rr, 0, 0, 0, 0⟩, k1, rd2X b k bad⟩)
  else if n = 1 ∨ n = 9 ∨ n = 33 ∨ n = 41 ∨ n = 49 ∨ n = 57 ∨ n = 133 then ⟨⟨pairO n, W, rdLo v mm, rdHi v rr, 0, 0, 0, 0⟩, k1, rd2X b k bad⟩
  else if n = 129 ∨ n = 193 ∨ n = 211 ∨ n = 247 then rdGrp b n (groupM n (rdHi v rr % 8)) W (rdLo v mm) k1 (rd2X b k bad)
  else if n = 199 then ⟨⟨1, W, rdLo v mm, 0, 0, 0, rdN4 b k1, 0⟩, rdA4 b k1, rdX4 b k1 (rd2X b k bad)⟩
  else if n = 139 then ⟨⟨26, W, rdHi v rr, 0, rdLo v mm, rdN4 b (rdMk b k), 0, 0⟩, rdA4 b (rdMk b k), rdX4 b (rdMk b k) (rdMx b k bad)⟩
  else if n = 136 then ⟨⟨27, 8, 0, rdHi v rr, rdLo v mm, rdN4 b (rdMk b k), 0, 0⟩, rdA4 b (rdMk b k), rdX4 b (rdMk b k) (rdMx b k bad)⟩
  else if n = 235 then ⟨⟨28, 8, 0, 0, 0, 0, rdN1 b k, 0⟩, k1, rdX b k bad⟩
  else if n = 233 then ⟨⟨28, W, 0, 0, 0, 0, rdN4 b k, 0⟩, rdA4 b k, rdX4 b k bad⟩
  else if n = 195 then ⟨⟨30, 0, 0, 0, 0, 0, 0, 0⟩, k, bad⟩
  else if n = 15 then rdBeh b W rr mm k bad
  else rdRan b n W mm k bad
def rdAll (b : List Int) : RdO := rdCase b (prN b 0) (rdV b 0 == 102) (if prW b 0 then 64 else 32) (prR b 0) (prM b 0) (prK b 0) (prX b 0 false)
def docX (b : List Int) : Option XS :=
  let r := rdAll b
  if r.bad = false ∧ mayXS r.x = true ∧ (bytesXS r.x).length = r.at_ ∧ bytesXS r.x = b.take r.at_ then some r.x else none
theorem rd_cons {b : List Int} {k : Nat} {c : Int} {t : List Int} (h : b.drop k = c :: t) : k < b.length ∧ rdV b k = c ∧ rdA b k = k + 1 ∧ (∀ x, rdX b k x = x) ∧ b.drop (k + 1) = t := by
 have hk : k < b.length := by
  rcases Nat.lt_or_ge k b.length with h' | h'
  ·exact h'
  ·rw [List.drop_eq_nil_of_le h'] at h; cases h
 have e := List.drop_eq_getElem_cons hk
 rw [h] at e
 obtain ⟨e1, e2⟩ := List.cons.inj e
 refine ⟨hk, ?_, ?_, ?_, e2.symm⟩
 ·unfold rdV; rw [List.getD_eq_getElem?_getD, List.getElem?_eq_getElem hk]; exact e1.symm
 ·unfold rdA; rw [if_pos hk]
 ·intro x; unfold rdX; rw [decide_eq_false (by omega), Bool.or_false]
theorem rd_four {b : List Int} {k : Nat} {n : Int} {t : List Int} (n0 : -2147483648 ≤ n) (n1 : n ≤ 2147483647) (h : b.drop k = fourM n ++ t) :
  rdN4 b k = n ∧ rdA4 b k = k + 4 ∧ (∀ x, rdX4 b k x = x) ∧ b.drop (k + 4) = t := by
 simp only [fourM, List.cons_append, List.nil_append] at h
 obtain ⟨_, v0, a0, x0, h1⟩ := rd_cons h
 obtain ⟨_, v1, a1, x1, h2⟩ := rd_cons h1
 obtain ⟨_, v2, a2, x2, h3⟩ := rd_cons h2
 obtain ⟨_, v3, a3, x3, h4⟩ := rd_cons h3
 refine ⟨?_, ?_, ?_, h4⟩
 ·unfold rdN4
  rw [a0, a1, a2, v0, v1, v2, v3, w_i32]
  omega
 ·unfold rdA4; rw [a0, a1, a2, a3]
 ·intro x; unfold rdX4; rw [a0, a1, a2, x0, x1, x2, x3]
theorem rd_two {b : List Int} {k : Nat} {r m : Int} {t : List Int} (r0 : 0 ≤ r) (r1 : r ≤ 15) (m0 : 0 ≤ m) (m1 : m ≤ 15) (h : b.drop k = regsM r m :: t) :
  ¬ rdV b k < 192 ∧ rdHi (rdV b k) (r / 8) = r ∧ rdLo (rdV b k) (m / 8) = m ∧ rdA b k = k + 1 ∧ (∀ x, rd2X b k x = x) ∧ b.drop (k + 1) = t := by
 obtain ⟨_, v0, a0, x0, h1⟩ := rd_cons h
 have hg := regs_ge (m := m) r0 m0
 have hb : 0 ≤ regsM r m ∧ regsM r m ≤ 255 := by unfold regsM; omega
 refine ⟨by rw [v0]; exact hg, ?_, ?_, a0, ?_, h1⟩
 ·rw [v0, rdHi_eq hb (by omega), regs_reg r0 r1 m0 m1]
 ·rw [v0, rdLo_eq hb (by omega), regs_rm r0 r1 m0 m1]
 ·intro x; unfold rd2X; rw [x0, v0, decide_eq_false hg, Bool.or_false]
theorem rd_num {b : List Int} {k : Nat} {r m : Int} {t : List Int} (r0 : 0 ≤ r) (r1 : r ≤ 7) (m0 : 0 ≤ m) (m1 : m ≤ 15) (h : b.drop k = regsM r m :: t) :
  rdHi (rdV b k) 0 % 8 = r ∧ rdLo (rdV b k) (m / 8) = m ∧ rdA b k = k + 1 ∧ (∀ x, rd2X b k x = x) ∧ b.drop (k + 1) = t := by
 obtain ⟨_, h1, h2, h3, h4, h5⟩ := rd_two r0 (by omega) m0 m1 h
 rw [show r / 8 = 0 by omega] at h1
 exact ⟨by rw [h1]; omega, h2, h3, h4, h5⟩
theorem rd_mem {b : List Int} {k : Nat} {r m d : Int} {t : List Int} (r0 : 0 ≤ r) (r1 : r ≤ 15) (m0 : 0 ≤ m) (m1 : m ≤ 15) (d0 : -2147483648 ≤ d) (d1 : d ≤ 2147483647) (h : b.drop k = memM r m d ++ t) :
  k < b.length ∧ rdV b k < 192 ∧ rdHi (rdV b k) (r / 8) = r ∧ rdLo (rdV b k) (m / 8) = m ∧ rdN4 b (rdMk b k) = d ∧ rdA4 b (rdMk b k) = k + (memM r m d).length ∧ (∀ x, rdX4 b (rdMk b k) (rdMx b k x) = x) := by
 have hb : 0 ≤ 128 + 8 * (r % 8) + m % 8 ∧ 128 + 8 * (r % 8) + m % 8 ≤ 255 := by omega
 have fin : k < b.length → rdV b k = 128 + 8 * (r % 8) + m % 8 → k < b.length ∧ rdV b k < 192 ∧ rdHi (rdV b k) (r / 8) = r ∧ rdLo (rdV b k) (m / 8) = m := by
  intro hk v0
  refine ⟨hk, by omega, ?_, ?_⟩
  ·rw [v0, rdHi_eq hb (by omega)]; omega
  ·rw [v0, rdLo_eq hb (by omega)]; omega
 unfold memM at h
 by_cases hm : m % 8 = 4
 ·rw [if_pos hm] at h
  simp only [List.cons_append] at h
  obtain ⟨hk, v0, a0, x0, h1⟩ := rd_cons h
  obtain ⟨_, v1, a1, x1, h2⟩ := rd_cons h1
  obtain ⟨f1, f2, f3, f4⟩ := rd_four d0 d1 h2
  obtain ⟨g1, g2, g3, g4⟩ := fin hk v0
  have hq : rdV b k % 8 = 4 := by omega
  have ek : rdMk b k = k + 1 + 1 := by unfold rdMk; rw [if_pos hq, a0, a1]
  refine ⟨g1, g2, g3, g4, by rw [ek]; exact f1, ?_, ?_⟩
  ·rw [ek, f2]; unfold memM; rw [if_pos hm]; simp [fourM]
  ·intro x
   rw [ek, f3]
   simp only [rdMx, if_pos hq]
   rw [a0, x1, x0, v1, v0, decide_eq_false (by omega), decide_eq_false (by omega), decide_eq_false (by decide)]
   simp
 ·rw [if_neg hm] at h
  simp only [List.cons_append] at h
  obtain ⟨hk, v0, a0, x0, h1⟩ := rd_cons h
  obtain ⟨f1, f2, f3, f4⟩ := rd_four d0 d1 h1
  obtain ⟨g1, g2, g3, g4⟩ := fin hk v0
  have hq : ¬ rdV b k % 8 = 4 := by omega
  have ek : rdMk b k = k + 1 := by unfold rdMk; rw [if_neg hq, a0]
  refine ⟨g1, g2, g3, g4, by rw [ek]; exact f1, ?_, ?_⟩
  ·rw [ek, f2]; unfold memM; rw [if_neg hm]; simp [fourM]
  ·intro x
   rw [ek, f3]
   simp only [rdMx, if_neg hq]
   rw [x0, v0, decide_eq_false (by omega), decide_eq_false (by omega)]
   simp
theorem rd_pre {b : List Int} {p : Nat} (hp : pr1 b 0 = p) (hx : prx1 b 0 false = false) {wide al : Bool} {r m c : Int} {t : List Int} (r0 : 0 ≤ r) (r1 : r ≤ 15) (m0 : 0 ≤ m) (m1 : m ≤ 15)
  (c0 : 0 ≤ c) (c1 : c ≤ 255) (hc : ¬ (64 ≤ c ∧ c ≤ 79)) (h : b.drop p = rexM wide r m al ++ c :: t) :
  prN b 0 = c ∧ b.drop (prK b 0) = t ∧ prK b 0 = p + (rexM wide r m al).length + 1 ∧ prX b 0 false = false ∧ prW b 0 = wide ∧ prR b 0 = r / 8 ∧ prM b 0 = m / 8 := by
 unfold rexM at h ⊢
 by_cases hn : needM wide r m al = true
 ·rw [if_pos hn] at h ⊢
  simp only [List.cons_append, List.nil_append] at h
  obtain ⟨_, v0, a0, x0, h1⟩ := rd_cons h
  obtain ⟨_, v1, a1, x1, h2⟩ := rd_cons h1
  have hr : 64 ≤ rexB wide r m ∧ rexB wide r m ≤ 79 ∧ rexB wide r m / 2 % 2 = 0 ∧ rexB wide r m / 4 % 2 = r / 8 ∧ rexB wide r m % 2 = m / 8 ∧ (rexB wide r m / 8 % 2 = 1 ↔ wide = true) := by
   unfold rexB
   cases wide <;> simp <;> omega
  have q : prQ b 0 = true := by unfold prQ prRex; rw [hp, v0, decide_eq_true (by omega)]
  unfold prN prK prX prW prR prM
  rw [q, hp, hx]
  simp only [if_true, Bool.true_and]
  rw [a0, v0, v1, a1, x0, x1, hr.2.2.1, hr.2.2.2.1, hr.2.2.2.2.1]
  refine ⟨rfl, h2, rfl, by simp, ?_, rfl, rfl⟩
  cases wide
  ·exact decide_eq_false (fun e => by have := hr.2.2.2.2.2.1 e; cases this)
  ·exact decide_eq_true (hr.2.2.2.2.2.2 rfl)
 ·rw [if_neg hn] at h ⊢
  simp only [List.nil_append] at h
  obtain ⟨_, v0, a0, x0, h1⟩ := rd_cons h
  have q : prQ b 0 = false := by unfold prQ prRex; rw [hp, v0, decide_eq_false (by omega)]
  simp only [needM, Bool.or_eq_true, decide_eq_true_eq, not_or, Bool.not_eq_true] at hn
  unfold prN prK prX prW prR prM
  rw [q, hp, hx]
  simp only [Bool.false_eq_true, if_false, Bool.false_and]
  rw [a0, v0, x0]
  refine ⟨rfl, h1, rfl, rfl, hn.1.1.symm, by omega, by omega⟩
theorem rd_nohalf {b : List Int} {c : Int} {t : List Int} (h : b = c :: t) (hc : c ≠ 102) : (rdV b 0 == 102) = false ∧ pr1 b 0 = 0 ∧ prx1 b 0 false = false := by
 have v : rdV b 0 = c := by rw [h]; rfl
 unfold pr1 prx1
 rw [v]
 exact ⟨by simpa using hc, by rw [if_neg hc], by rw [if_neg hc]⟩
theorem rd_half {b : List Int} {t : List Int} (h : b = 102 :: t) : (rdV b 0 == 102) = true ∧ pr1 b 0 = 1 ∧ prx1 b 0 false = false := by
 have v : rdV b 0 = 102 := by rw [h]; rfl
 unfold pr1 prx1
 rw [v]
 refine ⟨rfl, ?_, ?_⟩
 ·rw [if_pos rfl, h]; rfl
 ·rw [if_pos rfl, h]; rfl
theorem all_rex {b : List Int} {wide al : Bool} {r m c : Int} {t : List Int} (r0 : 0 ≤ r) (r1 : r ≤ 15) (m0 : 0 ≤ m) (m1 : m ≤ 15) (c0 : 0 ≤ c) (c1 : c ≤ 255) (hc : ¬ (64 ≤ c ∧ c ≤ 79)) (h2 : c ≠ 102)
  (h : b = rexM wide r m al ++ c :: t) : ∃ k, k = (rexM wide r m al).length + 1 ∧ b.drop k = t ∧ rdAll b = rdCase b c false (if wide then 64 else 32) (r / 8) (m / 8) k false := by
 have hh : (rdV b 0 == 102) = false ∧ pr1 b 0 = 0 ∧ prx1 b 0 false = false := by
  cases e : b with
  | nil => rw [e] at h; have := congrArg List.length h; simp at this
  | cons a u =>
   refine rd_nohalf rfl ?_
   have := hd_rex (wide := wide) (al := al) (t := t) r0 r1 m0 m1 h2
   rw [← h, e] at this
   exact this
 obtain ⟨e1, e2, e3, e4, e5, e6, e7⟩ := rd_pre hh.2.1 hh.2.2 r0 r1 m0 m1 c0 c1 hc (by rw [List.drop_zero]; exact h)
 refine ⟨prK b 0, by rw [e3]; omega, e2, ?_⟩
 unfold rdAll
 rw [e1, e4, e5, e6, e7, hh.1]
theorem all_half {b : List Int} {wide al : Bool} {r m c : Int} {t : List Int} (r0 : 0 ≤ r) (r1 : r ≤ 15) (m0 : 0 ≤ m) (m1 : m ≤ 15) (c0 : 0 ≤ c) (c1 : c ≤ 255) (hc : ¬ (64 ≤ c ∧ c ≤ 79))
  (h : b = 102 :: (rexM wide r m al ++ c :: t)) : ∃ k, k = (rexM wide r m al).length + 2 ∧ b.drop k = t ∧ rdAll b = rdCase b c true (if wide then 64 else 32) (r / 8) (m / 8) k false := by
 have hh := rd_half h
 obtain ⟨e1, e2, e3, e4, e5, e6, e7⟩ := rd_pre hh.2.1 hh.2.2 r0 r1 m0 m1 c0 c1 hc (by rw [h]; rfl)
 refine ⟨prK b 0, by rw [e3]; omega, e2, ?_⟩
 unfold rdAll
 rw [e1, e4, e5, e6, e7, hh.1]
theorem all_bare {b : List Int} {c : Int} {t : List Int} (c0 : 0 ≤ c) (c1 : c ≤ 255) (hc : ¬ (64 ≤ c ∧ c ≤ 79)) (h2 : c ≠ 102) (h : b = c :: t) : b.drop 1 = t ∧ rdAll b = rdCase b c false 32 0 0 1 false := by
 obtain ⟨k, hk, h3, h4⟩ := all_rex (b := b) (wide := false) (al := false) (r := 0) (m := 0) (c := c) (t := t) (by decide) (by decide) (by decide) (by decide) c0 c1 hc h2 (by rw [h]; rfl)
 obtain rfl : k = 1 := by rw [hk]; rfl
 exact ⟨h3, h4⟩
end Go.Ev

namespace Go.Ev
open Go Go.RowKit Go.ChangeShapes Go.WideShapes
theorem trodAll_below {H : Type} {enc : TypeId × Value → H} {P : Program} (hl : laidOutB P = true) {W W' : World} (hb : Below W.heap.size W W') : ∀ {ts : List TypeId} {vs : List Value} {ds : List (DataW H)} {ps : List MemPlace},
  (∀ t ∈ ts, P.readableRec t = true ∧ t < P.types.size) → DataW.TrodAll enc P W 0 (fun _ => true) true ts vs ds ps → (∀ x ∈ ps, x.block < W.heap.size) → DataW.TrodAll enc P W' 0 (fun b => decide (b < W.heap.size)) true ts vs ds ps
 | [], vs, ds, ps, _, h, _ => by
  obtain ⟨rfl, rfl, rfl⟩ := trodAll_nil h
  rfl
 | t :: ts, vs, ds, ps, hr, h, hp => by
  obtain ⟨v, vs', d, ds', p, q, rfl, rfl, rfl, h1, h2⟩ := trodAll_cons h
  have hrt := hr t (by simp)
  exact ⟨p, q, Below.trod hl hrt.1 hrt.2 h1 hb (fun x hx => hp x (by simp [hx])), trodAll_below hl hb (fun t ht => hr t (by simp [ht])) h2 (fun x hx => hp x (by simp [hx])), rfl⟩
theorem trodAll_lengths {H : Type} {enc : TypeId × Value → H} {P : Program} {W : World} {b : Nat} {sp : Nat → Bool} {hd : Bool} : ∀ {ts : List TypeId} {vs : List Value} {ds : List (DataW H)} {ps : List MemPlace}, DataW.TrodAll enc P W b sp hd ts vs ds ps → vs.length = ts.length ∧ ds.length = ts.length
 | [], vs, ds, ps, h => by
  obtain ⟨rfl, rfl, rfl⟩ := trodAll_nil h
  exact ⟨rfl, rfl⟩
 | t :: ts, vs, ds, ps, h => by
  obtain ⟨v, vs', d, ds', p, q, rfl, rfl, rfl, h1, h2⟩ := trodAll_cons h
  obtain ⟨k1, k2⟩ := trodAll_lengths h2
  exact ⟨by simp [k1], by simp [k2]⟩
theorem law_lifted {a : Assume} {H : Type} {enc : TypeId × Value → H} {C : Checked} {os : Os} {f : FuncId} {fn : Func} {s : ChangeSpec} {conds : List PathCond} {fresh handsOn : Bool} {tb : TypeId}
  (own : ownKnob C.prog.godebug = none) (started : os.Started) (noInit : C.prog.inits.idxOf? f = none) (hfn : C.prog.funcs[f]? = some fn) (hl : laidOutB C.prog = true) (hvars : s.vars = [])
  (hparams : ∀ t ∈ fn.params.toList, C.prog.readableRec t = true ∧ t < C.prog.types.size) (hres : fn.resultTypes = #[tb]) (htb : C.prog.underlying tb = some .bool)
  (hspec : ∀ ds : List (DataW H), ds.length = fn.params.toList.length → (s.fn H ds).results = [.lit (.bool true)] ∧ (s.fn H ds).args = ds ∧ (s.fn H ds).vars = [])
  (witness : ∃ (w : World) (tape : Tape) (i : Input), w.os = os ∧ (w.forCall tape i).Shaped C.prog ∧ i.vars = [] ∧ Input.okWide C.prog (w.forCall tape i) .any w.heap.size f i ∧
   s.pre6 enc C.prog fn conds false (w.forCall tape i).memory i.args ∧ a.holds C.prog (lone (Frame.enter C.prog f i.args .normal) [] (w.forCall tape i)))
  (law : ∀ (W : World) (base : Nat) (args : Array Value) (ds : List (DataW H)) (ps : List MemPlace), (∀ (j : Nat) t v, fn.params[j]? = some t → args[j]? = some v → Value.okWide C.prog W .any base t v) →
   args.toList.length = fn.params.toList.length → DataW.TrodAll enc C.prog W 0 (fun _ => true) true fn.params.toList args.toList ds ps → (DataW.weightsEach C.prog fn.params.toList ds).all (· ≤ reachBytes) = true →
   Calls C.prog f args W fun e W' => e = .returned (.bool true) ∧ Below W.heap.size W W') :
  ReturnsInHanded a C os f .any (s.pre6 enc C.prog fn conds false) (s.post enc C.prog fn false fresh handsOn false) := by
 refine returnsInHanded_of_change_sized own started noInit hfn witness ?_
 intro W base args ds gs before hval hW _ hz _
 have hW' := hW
 obtain ⟨p, q, hA, hV, rfl, hfz, hnd⟩ := hW
 rw [hvars] at hV
 obtain ⟨rfl, rfl⟩ := trodVars_none hV
 obtain ⟨l1, l2⟩ := trodAll_lengths hA
 have hz' : (DataW.weightsEach C.prog fn.params.toList ds).all (· ≤ reachBytes) = true := by
  have e : s.plain.varTypes C.prog = [] := by simp [ChangeSpec.plain, DataSpec.varTypes, hvars]
  rw [e, List.append_nil, List.append_nil] at hz
  exact hz
 refine (law W base args ds p hval l1 hA hz').mono fun e W' ⟨he, hb⟩ => ?_
 subst he
 refine ⟨_, rfl, ds, [], p ++ [], [], p, [], hW', ?_⟩
 rw [List.append_nil]
 obtain ⟨s1, s2, s3⟩ := hspec ds l2
 rw [s1, s2, s3, hres, hvars]
 refine ⟨?_, trodAll_below hl hb hparams hA (fun x hx => by simpa using hW'.lt x (by simpa using hx)), rfl, Below.frame hb _, fun h => nomatch h⟩
 exact trodAll_mk1 (shut_bool htb true)
def okL : List LK → List D → Prop
  | [], ds => ds = []
  | .bool :: ks, ds => ∃ (b : Bool) (r : List D), ds = .bool b :: r ∧ okL ks r
  | .int k :: ks, ds => ∃ (n : Int) (r : List D), ds = .int k n :: r ∧ k.has n ∧ okL ks r
  | .str :: ks, ds => ∃ (b : ByteArray) (r : List D), ds = .str b :: r ∧ (b.size : Int) ≤ IntKind.i64.max ∧ okL ks r
def kindOf (P : Program) (t : TypeId) : Option LK := match P.underlying t with
  | some .bool => some .bool
  | some (.int k) => some (.int k)
  | some .string => some .str
  | _ => none
def kindsOf (P : Program) : List TypeId → Option (List LK)
  | [] => some []
  | t :: r => match kindOf P t, kindsOf P r with
    | some k, some l => some (k :: l)
    | _, _ => none
def allOf (w : World) : Nat → Nat → Option Value := fun b o => w.cell? ⟨b, o, none⟩
theorem Ret.law {P : Program} {f : FuncId} {args : List D} (h : Ret P f args (.bool true)) {W : World} {vs : Array Value} (hr : RepL (bareOf (allOf W)) args vs) : Calls P f vs W fun e W' => e = .returned (.bool true) ∧ Below W.heap.size W W' := by
 refine Calls.mono (h.run W (allOf W) vs (fun b o v k => k) hr) ?_
 rintro e W' ⟨v, C', rfl, hext, hrep, _⟩
 cases hrep
 exact ⟨rfl, hext.below⟩
end Go.Ev
