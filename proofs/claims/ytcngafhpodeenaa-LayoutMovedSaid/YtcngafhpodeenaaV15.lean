/- Contracts and plain laws that a statement's proof leans on (texts merged: LM5, MdLe, LM6). -/
import Derived.Test.YtcngafhpodeenaaV11
import Derived.Test.YtcngafhpodeenaaV14
set_option linter.unusedVariables false
set_option linter.unusedSimpArgs false
namespace Go.Proofs.Ytcngafhpodeenaa
open Go Go.Ev
set_option maxRecDepth 100000
set_option maxHeartbeats 8000000
theorem great_ok (pro : List XS) (l : List (List IrS)) (n : Int) (hx : LoopRun Try.prog 0 (.loop (loopB Try.f24 0)) (grT l ((xsL pro).length : Int) 0) [] (.exit 0) (grU l n) [])  : Ret Try.prog 24 ([.lst .no 8 (xsL pro), .lst .no 1 (rwL l)]) (.bool (decide (2500 < n) || decide (100 < ((rwL l).length : Int)))) := by
 have c0 := @run_id (nat_lit 0) _ ([D.undef, .lst .no 1 (rwL l), D.undef, D.undef, D.undef, .int .i64 (↑(List.length (xsL pro)) : Int), .int .i64 0, D.undef, D.undef, D.undef, D.undef, D.undef, D.undef, D.undef, D.undef, D.undef, D.undef, D.undef, D.undef, D.undef, D.undef, D.undef, D.undef, D.undef, D.undef, D.undef, D.undef, D.undef, D.undef, D.undef, D.undef, D.undef, D.undef]) ([]) _ _ _ hx
 rcases Bool.eq_false_or_eq_true (decide (n < (2501 : Int))) with h1 | h1
 ·skip
  exact (Ret.of_eval (d := .bool (decide ((↑(List.length (rwL l)) : Int) > (100 : Int)))) mixed Try.func24 (by kernel_rfl) [.head ⟨[1, 5, 6], [], []⟩ _ _ _ _ _ _ _ c0, tC (eF (ltL 2500 h1)), tC (eF (ltL 2500 h1)), tC (eF (ltL 2500 h1)), tC (ltL 2500 h1)] (by kernel_rfl)).to (by first | rfl | (simp [wk]; done) | (simp [wk]; omega) | (simp only [decide_eq_true_eq, decide_eq_false_iff_not] at *; simp [wk, *]; done) | (simp only [decide_eq_true_eq, decide_eq_false_iff_not] at *; simp [wk]; omega))
 ·skip
  exact (Ret.of_eval (d := .bool true) mixed Try.func24 (by kernel_rfl) [.head ⟨[1, 5, 6], [], []⟩ _ _ _ _ _ _ _ c0, tC (eF (ltL 2500 h1)), tC (eF (ltL 2500 h1)), tC (eF (ltL 2500 h1)), tC (ltL 2500 h1)] (by kernel_rfl)).to (by first | rfl | (simp [wk]; done) | (simp [wk]; omega) | (simp only [decide_eq_true_eq, decide_eq_false_iff_not] at *; simp [wk, *]; done) | (simp only [decide_eq_true_eq, decide_eq_false_iff_not] at *; simp [wk]; omega))
theorem mv_great_ok (pro : List XS) (l : List (List IrS)) (hG : Ret Try.prog 24 [.lst .no 8 (xsL pro), .lst .no 1 (rwL l)] (.bool true))  : Ret Try.prog 10 ([.lst .no 8 (xsL pro), .lst .no 1 (rwL l)]) (.bool true) := by
 have c0 := @wakes24_ok
 exact (Ret.of_eval (d := .bool true) mixed Try.func10 (by kernel_rfl) [.ret _ _ _ hG, tT, .ret _ _ _ c0] (by kernel_rfl)).to (by first | rfl | (simp [wk]; done))
theorem mv_bb_ok (pro : List XS) (l : List (List IrS)) (e f : Int) (he : e ≠ 0) (hG : Ret Try.prog 24 [.lst .no 8 (xsL pro), .lst .no 1 (rwL l)] (.bool false)) (r0 : Ret Try.prog 26 [.lst .tight 0 [], .lst .no 1 (rwL l)] (.tup [.lst .tight 0 [], .lst .tight 0 [], .int .i64 e])) (r1 : Ret Try.prog 26 [.lst .no 8 (xsL pro), .lst .no 1 (rwL l)] (.tup [.lst .tight 0 [], .lst .tight 0 [], .int .i64 f]))  : Ret Try.prog 10 ([.lst .no 8 (xsL pro), .lst .no 1 (rwL l)]) (.bool true) := by
 have c0 := @wakes24_ok
 exact (Ret.of_eval (d := .bool true) mixed Try.func10 (by kernel_rfl) [.ret _ _ _ hG, tF, .ret _ _ _ r0, .ret _ _ _ r1, tC (eF (nt (by ((try simp only [List.length_append, List.length_cons, List.length_nil, len_bD, intsD_len, xsL_len, rwL_len, irL_len, w_i8, w_u8, w_i64, w_u64, decide_eq_true_eq, decide_eq_false_iff_not, beq_iff_eq, bne_iff_ne, beq_eq_false_iff_ne, bne_eq_false_iff_eq, Bool.not_eq_true', Bool.not_eq_false', Bool.and_eq_true, Bool.or_eq_true] at *); (try unfold big at *); omega) : (e == (0 : Int)) = false))), tC (eF (nt (by ((try simp only [List.length_append, List.length_cons, List.length_nil, len_bD, intsD_len, xsL_len, rwL_len, irL_len, w_i8, w_u8, w_i64, w_u64, decide_eq_true_eq, decide_eq_false_iff_not, beq_iff_eq, bne_iff_ne, beq_eq_false_iff_ne, bne_eq_false_iff_eq, Bool.not_eq_true', Bool.not_eq_false', Bool.and_eq_true, Bool.or_eq_true] at *); (try unfold big at *); omega) : (e == (0 : Int)) = false))), tC (nt (by ((try simp only [List.length_append, List.length_cons, List.length_nil, len_bD, intsD_len, xsL_len, rwL_len, irL_len, w_i8, w_u8, w_i64, w_u64, decide_eq_true_eq, decide_eq_false_iff_not, beq_iff_eq, bne_iff_ne, beq_eq_false_iff_ne, bne_eq_false_iff_eq, Bool.not_eq_true', Bool.not_eq_false', Bool.and_eq_true, Bool.or_eq_true] at *); (try unfold big at *); omega) : (e == (0 : Int)) = false)), tT, .ret _ _ _ c0] (by kernel_rfl)).to (by first | rfl | (simp [wk]; done))
theorem mv_bo_ok (pro : List XS) (l : List (List IrS)) (e : Int) (c b : List Int) (he : e ≠ 0) (hG : Ret Try.prog 24 [.lst .no 8 (xsL pro), .lst .no 1 (rwL l)] (.bool false)) (r0 : Ret Try.prog 26 [.lst .tight 0 [], .lst .no 1 (rwL l)] (.tup [.lst .tight 0 [], .lst .tight 0 [], .int .i64 e])) (r1 : Ret Try.prog 26 [.lst .no 8 (xsL pro), .lst .no 1 (rwL l)] (.tup [.lst .no 1 (bD c), .lst .no 1 (intsD b), .int .i64 0]))  : Ret Try.prog 10 ([.lst .no 8 (xsL pro), .lst .no 1 (rwL l)]) (.bool true) := by
 have c0 := @wakes24_ok
 exact (Ret.of_eval (d := .bool true) mixed Try.func10 (by kernel_rfl) [.ret _ _ _ hG, tF, .ret _ _ _ r0, .ret _ _ _ r1, tC (eF (nt (by ((try simp only [List.length_append, List.length_cons, List.length_nil, len_bD, intsD_len, xsL_len, rwL_len, irL_len, w_i8, w_u8, w_i64, w_u64, decide_eq_true_eq, decide_eq_false_iff_not, beq_iff_eq, bne_iff_ne, beq_eq_false_iff_ne, bne_eq_false_iff_eq, Bool.not_eq_true', Bool.not_eq_false', Bool.and_eq_true, Bool.or_eq_true] at *); (try unfold big at *); omega) : (e == (0 : Int)) = false))), tC (eF (nt (by ((try simp only [List.length_append, List.length_cons, List.length_nil, len_bD, intsD_len, xsL_len, rwL_len, irL_len, w_i8, w_u8, w_i64, w_u64, decide_eq_true_eq, decide_eq_false_iff_not, beq_iff_eq, bne_iff_ne, beq_eq_false_iff_ne, bne_eq_false_iff_eq, Bool.not_eq_true', Bool.not_eq_false', Bool.and_eq_true, Bool.or_eq_true] at *); (try unfold big at *); omega) : (e == (0 : Int)) = false))), tC (nt (by ((try simp only [List.length_append, List.length_cons, List.length_nil, len_bD, intsD_len, xsL_len, rwL_len, irL_len, w_i8, w_u8, w_i64, w_u64, decide_eq_true_eq, decide_eq_false_iff_not, beq_iff_eq, bne_iff_ne, beq_eq_false_iff_ne, bne_eq_false_iff_eq, Bool.not_eq_true', Bool.not_eq_false', Bool.and_eq_true, Bool.or_eq_true] at *); (try unfold big at *); omega) : (e == (0 : Int)) = false)), tT, .ret _ _ _ c0] (by kernel_rfl)).to (by first | rfl | (simp [wk]; done))
theorem mv_ob_ok (pro : List XS) (l : List (List IrS)) (f : Int) (d a : List Int) (he : f ≠ 0) (hG : Ret Try.prog 24 [.lst .no 8 (xsL pro), .lst .no 1 (rwL l)] (.bool false)) (r0 : Ret Try.prog 26 [.lst .tight 0 [], .lst .no 1 (rwL l)] (.tup [.lst .no 1 (bD d), .lst .no 1 (intsD a), .int .i64 0])) (r1 : Ret Try.prog 26 [.lst .no 8 (xsL pro), .lst .no 1 (rwL l)] (.tup [.lst .tight 0 [], .lst .tight 0 [], .int .i64 f]))  : Ret Try.prog 10 ([.lst .no 8 (xsL pro), .lst .no 1 (rwL l)]) (.bool true) := by
 have c0 := @wakes24_ok
 exact (Ret.of_eval (d := .bool true) mixed Try.func10 (by kernel_rfl) [.ret _ _ _ hG, tF, .ret _ _ _ r0, .ret _ _ _ r1, tT, tT, tF, tC (nt (by ((try simp only [List.length_append, List.length_cons, List.length_nil, len_bD, intsD_len, xsL_len, rwL_len, irL_len, w_i8, w_u8, w_i64, w_u64, decide_eq_true_eq, decide_eq_false_iff_not, beq_iff_eq, bne_iff_ne, beq_eq_false_iff_ne, bne_eq_false_iff_eq, Bool.not_eq_true', Bool.not_eq_false', Bool.and_eq_true, Bool.or_eq_true] at *); (try unfold big at *); omega) : (f == (0 : Int)) = false)), .ret _ _ _ c0] (by kernel_rfl)).to (by first | rfl | (simp [wk]; done))
theorem mv_ok_ok (pro : List XS) (l : List (List IrS)) (d a c b : List Int) (z : List XS) (hc : ((bD d).length : Int) ≤ ((bD c).length : Int)) (hcl : ((bD c).length : Int) ≤ 100000) (hab : ((intsD a).length : Int) = ((intsD b).length : Int)) (hs : ((strD (List.drop (Int.toNat (IntKind.i64.wrap (((bD c).length : Int) - ((bD d).length : Int)))) (bD c))).toList == (strD (bD d)).toList) = true) (hG : Ret Try.prog 24 [.lst .no 8 (xsL pro), .lst .no 1 (rwL l)] (.bool false)) (r0 : Ret Try.prog 26 [.lst .tight 0 [], .lst .no 1 (rwL l)] (.tup [.lst .no 1 (bD d), .lst .no 1 (intsD a), .int .i64 0])) (r1 : Ret Try.prog 26 [.lst .no 8 (xsL pro), .lst .no 1 (rwL l)] (.tup [.lst .no 1 (bD c), .lst .no 1 (intsD b), .int .i64 0])) (hx : LoopRun Try.prog 3 (.loop (loopB Try.f10 0)) (mvT a b c (IntKind.i64.wrap (((bD c).length : Int) - ((bD d).length : Int))) 0) [.dead, .dead, .dead] (.exit 0) (mvU c (IntKind.i64.wrap (((bD c).length : Int) - ((bD d).length : Int)))) [.dead, .dead, .dead]) (hl : Ret Try.prog 32 [.lst .no 1 (List.take (Int.toNat (IntKind.i64.wrap (((bD c).length : Int) - ((bD d).length : Int)))) (bD c))] (.tup [.lst .no 8 (xsL z), .bool true]))  : Ret Try.prog 10 ([.lst .no 8 (xsL pro), .lst .no 1 (rwL l)]) (.bool true) := by
 have c0 := @run_id (nat_lit 3) _ ((un 6 ++ (.lst .no 1 (intsD a)) :: (D.undef) :: (.lst .no 1 (bD c)) :: (.lst .no 1 (intsD b)) :: (D.undef) :: (.int .i64 (IntKind.wrap IntKind.i64 ((↑(List.length (bD c)) : Int) - (↑(List.length (bD d)) : Int)))) :: (.int .i64 0) :: (un 77))) ([Ob.dead, Ob.dead, Ob.dead]) _ _ _ hx
 have c1 := @wakes24_ok
 exact (Ret.of_eval (d := .bool true) mixed Try.func10 (by kernel_rfl) ([.ret _ _ _ hG, tF, .ret _ _ _ r0, .ret _ _ _ r1, tT, tT, tF, tF, tC (eF (by ((try simp only [List.length_append, List.length_cons, List.length_nil, len_bD, intsD_len, xsL_len, rwL_len, irL_len, w_i8, w_u8, w_i64, w_u64, decide_eq_true_eq, decide_eq_false_iff_not, beq_iff_eq, bne_iff_ne, beq_eq_false_iff_ne, bne_eq_false_iff_eq, Bool.not_eq_true', Bool.not_eq_false', Bool.and_eq_true, Bool.or_eq_true] at *); (try unfold big at *); omega) : (decide (IntKind.wrap IntKind.i64 ((↑(List.length (bD c)) : Int) - (↑(List.length (bD d)) : Int)) < (0 : Int))) = false)), tC (eF (by ((try simp only [List.length_append, List.length_cons, List.length_nil, len_bD, intsD_len, xsL_len, rwL_len, irL_len, w_i8, w_u8, w_i64, w_u64, decide_eq_true_eq, decide_eq_false_iff_not, beq_iff_eq, bne_iff_ne, beq_eq_false_iff_ne, bne_eq_false_iff_eq, Bool.not_eq_true', Bool.not_eq_false', Bool.and_eq_true, Bool.or_eq_true] at *); (try unfold big at *); omega) : (decide (IntKind.wrap IntKind.i64 ((↑(List.length (bD c)) : Int) - (↑(List.length (bD d)) : Int)) < (0 : Int))) = false)), tC (eF (by ((try simp only [List.length_append, List.length_cons, List.length_nil, len_bD, intsD_len, xsL_len, rwL_len, irL_len, w_i8, w_u8, w_i64, w_u64, decide_eq_true_eq, decide_eq_false_iff_not, beq_iff_eq, bne_iff_ne, beq_eq_false_iff_ne, bne_eq_false_iff_eq, Bool.not_eq_true', Bool.not_eq_false', Bool.and_eq_true, Bool.or_eq_true] at *); (try unfold big at *); omega) : (decide (IntKind.wrap IntKind.i64 ((↑(List.length (bD c)) : Int) - (↑(List.length (bD d)) : Int)) < (0 : Int))) = false)), tC (eF (by ((try simp only [List.length_append, List.length_cons, List.length_nil, len_bD, intsD_len, xsL_len, rwL_len, irL_len, w_i8, w_u8, w_i64, w_u64, decide_eq_true_eq, decide_eq_false_iff_not, beq_iff_eq, bne_iff_ne, beq_eq_false_iff_ne, bne_eq_false_iff_eq, Bool.not_eq_true', Bool.not_eq_false', Bool.and_eq_true, Bool.or_eq_true] at *); (try unfold big at *); omega) : (decide (IntKind.wrap IntKind.i64 ((↑(List.length (bD c)) : Int) - (↑(List.length (bD d)) : Int)) < (0 : Int))) = false)), tC (eF (by ((try simp only [List.length_append, List.length_cons, List.length_nil, len_bD, intsD_len, xsL_len, rwL_len, irL_len, w_i8, w_u8, w_i64, w_u64, decide_eq_true_eq, decide_eq_false_iff_not, beq_iff_eq, bne_iff_ne, beq_eq_false_iff_ne, bne_eq_false_iff_eq, Bool.not_eq_true', Bool.not_eq_false', Bool.and_eq_true, Bool.or_eq_true] at *); (try unfold big at *); omega) : (decide (IntKind.wrap IntKind.i64 ((↑(List.length (bD c)) : Int) - (↑(List.length (bD d)) : Int)) < (0 : Int))) = false)), tC (by ((try simp only [List.length_append, List.length_cons, List.length_nil, len_bD, intsD_len, xsL_len, rwL_len, irL_len, w_i8, w_u8, w_i64, w_u64, decide_eq_true_eq, decide_eq_false_iff_not, beq_iff_eq, bne_iff_ne, beq_eq_false_iff_ne, bne_eq_false_iff_eq, Bool.not_eq_true', Bool.not_eq_false', Bool.and_eq_true, Bool.or_eq_true] at *); (try unfold big at *); omega) : (decide (IntKind.wrap IntKind.i64 ((↑(List.length (bD c)) : Int) - (↑(List.length (bD d)) : Int)) < (0 : Int))) = false), tC (eF (nt (by ((try simp only [List.length_append, List.length_cons, List.length_nil, len_bD, intsD_len, xsL_len, rwL_len, irL_len, w_i8, w_u8, w_i64, w_u64, decide_eq_true_eq, decide_eq_false_iff_not, beq_iff_eq, bne_iff_ne, beq_eq_false_iff_ne, bne_eq_false_iff_eq, Bool.not_eq_true', Bool.not_eq_false', Bool.and_eq_true, Bool.or_eq_true] at *); (try unfold big at *); omega) : ((↑(List.length (intsD a)) : Int) == (↑(List.length (intsD b)) : Int)) = true))), tC (eF (nt (by ((try simp only [List.length_append, List.length_cons, List.length_nil, len_bD, intsD_len, xsL_len, rwL_len, irL_len, w_i8, w_u8, w_i64, w_u64, decide_eq_true_eq, decide_eq_false_iff_not, beq_iff_eq, bne_iff_ne, beq_eq_false_iff_ne, bne_eq_false_iff_eq, Bool.not_eq_true', Bool.not_eq_false', Bool.and_eq_true, Bool.or_eq_true] at *); (try unfold big at *); omega) : ((↑(List.length (intsD a)) : Int) == (↑(List.length (intsD b)) : Int)) = true)))] ++ [tC (eF (nt (by ((try simp only [List.length_append, List.length_cons, List.length_nil, len_bD, intsD_len, xsL_len, rwL_len, irL_len, w_i8, w_u8, w_i64, w_u64, decide_eq_true_eq, decide_eq_false_iff_not, beq_iff_eq, bne_iff_ne, beq_eq_false_iff_ne, bne_eq_false_iff_eq, Bool.not_eq_true', Bool.not_eq_false', Bool.and_eq_true, Bool.or_eq_true] at *); (try unfold big at *); omega) : ((↑(List.length (intsD a)) : Int) == (↑(List.length (intsD b)) : Int)) = true))), .tst (decide ((0 : Int) ≤ IntKind.wrap IntKind.i64 ((↑(List.length (bD c)) : Int) - (↑(List.length (bD d)) : Int)) ∧ IntKind.wrap IntKind.i64 ((↑(List.length (bD c)) : Int) - (↑(List.length (bD d)) : Int)) ≤ (↑(List.length (bD c)) : Int))) true (by ((try simp only [List.length_append, List.length_cons, List.length_nil, len_bD, intsD_len, xsL_len, rwL_len, irL_len, w_i8, w_u8, w_i64, w_u64, decide_eq_true_eq, decide_eq_false_iff_not, beq_iff_eq, bne_iff_ne, beq_eq_false_iff_ne, bne_eq_false_iff_eq, Bool.not_eq_true', Bool.not_eq_false', Bool.and_eq_true, Bool.or_eq_true] at *); (try unfold big at *); omega)), tC (eF (nt (by ((try simp only [List.length_append, List.length_cons, List.length_nil, len_bD, intsD_len, xsL_len, rwL_len, irL_len, w_i8, w_u8, w_i64, w_u64, decide_eq_true_eq, decide_eq_false_iff_not, beq_iff_eq, bne_iff_ne, beq_eq_false_iff_ne, bne_eq_false_iff_eq, Bool.not_eq_true', Bool.not_eq_false', Bool.and_eq_true, Bool.or_eq_true] at *); (try unfold big at *); omega) : ((↑(List.length (intsD a)) : Int) == (↑(List.length (intsD b)) : Int)) = true))), tC (v := true) (@allB_drop (c) (Int.toNat (IntKind.wrap IntKind.i64 ((↑(List.length (bD c)) : Int) - (↑(List.length (bD d)) : Int))))), tC (eF (nt (by ((try simp only [List.length_append, List.length_cons, List.length_nil, len_bD, intsD_len, xsL_len, rwL_len, irL_len, w_i8, w_u8, w_i64, w_u64, decide_eq_true_eq, decide_eq_false_iff_not, beq_iff_eq, bne_iff_ne, beq_eq_false_iff_ne, bne_eq_false_iff_eq, Bool.not_eq_true', Bool.not_eq_false', Bool.and_eq_true, Bool.or_eq_true] at *); (try unfold big at *); omega) : ((↑(List.length (intsD a)) : Int) == (↑(List.length (intsD b)) : Int)) = true))), tC (eF (nt (by ((try simp only [List.length_append, List.length_cons, List.length_nil, len_bD, intsD_len, xsL_len, rwL_len, irL_len, w_i8, w_u8, w_i64, w_u64, decide_eq_true_eq, decide_eq_false_iff_not, beq_iff_eq, bne_iff_ne, beq_eq_false_iff_ne, bne_eq_false_iff_eq, Bool.not_eq_true', Bool.not_eq_false', Bool.and_eq_true, Bool.or_eq_true] at *); (try unfold big at *); omega) : ((↑(List.length (intsD a)) : Int) == (↑(List.length (intsD b)) : Int)) = true))), tC (v := true) (@allB (d)), tC (eF (nt (by ((try simp only [List.length_append, List.length_cons, List.length_nil, len_bD, intsD_len, xsL_len, rwL_len, irL_len, w_i8, w_u8, w_i64, w_u64, decide_eq_true_eq, decide_eq_false_iff_not, beq_iff_eq, bne_iff_ne, beq_eq_false_iff_ne, bne_eq_false_iff_eq, Bool.not_eq_true', Bool.not_eq_false', Bool.and_eq_true, Bool.or_eq_true] at *); (try unfold big at *); omega) : ((↑(List.length (intsD a)) : Int) == (↑(List.length (intsD b)) : Int)) = true))), tC (nt (by ((try simp only [List.length_append, List.length_cons, List.length_nil, len_bD, intsD_len, xsL_len, rwL_len, irL_len, w_i8, w_u8, w_i64, w_u64, decide_eq_true_eq, decide_eq_false_iff_not, beq_iff_eq, bne_iff_ne, beq_eq_false_iff_ne, bne_eq_false_iff_eq, Bool.not_eq_true', Bool.not_eq_false', Bool.and_eq_true, Bool.or_eq_true] at *); (try unfold big at *); omega) : ((↑(List.length (intsD a)) : Int) == (↑(List.length (intsD b)) : Int)) = true)), tC (nt hs), .head ⟨[6, 8, 9, 11, 12], [], []⟩ _ _ _ _ _ _ _ c0, .tst (decide ((0 : Int) ≤ IntKind.wrap IntKind.i64 ((↑(List.length (bD c)) : Int) - (↑(List.length (bD d)) : Int)) ∧ IntKind.wrap IntKind.i64 ((↑(List.length (bD c)) : Int) - (↑(List.length (bD d)) : Int)) ≤ (↑(List.length (bD c)) : Int))) true (by ((try simp only [List.length_append, List.length_cons, List.length_nil, len_bD, intsD_len, xsL_len, rwL_len, irL_len, w_i8, w_u8, w_i64, w_u64, decide_eq_true_eq, decide_eq_false_iff_not, beq_iff_eq, bne_iff_ne, beq_eq_false_iff_ne, bne_eq_false_iff_eq, Bool.not_eq_true', Bool.not_eq_false', Bool.and_eq_true, Bool.or_eq_true] at *); (try unfold big at *); omega)), .ret _ _ _ hl, tT, .ret _ _ _ c1, tT]) (by kernel_rfl)).to (by first | rfl | (simp [wk]; done))
end Go.Proofs.Ytcngafhpodeenaa

namespace Go.Ev
open Go
def NoJ (A : List PaS) : Prop := ∀ p ∈ A, p.j = false
theorem skip_pro (a q : List Int) (R : List PaS) : ∀ (A : List PaS) (k : Nat), NoJ A → jumpL a q k (A ++ R) = A ++ jumpL a q (k + A.length) R ∧ moreL a q k (A ++ R) = moreL a q (k + A.length) R ∧ wayL a q k (A ++ R) = A ++ wayL a q (k + A.length) R
 | [], k, h => ⟨rfl, rfl, rfl⟩
 | p :: A, k, h => by
  have hj := h p (List.mem_cons_self ..)
  obtain ⟨h1, h2, h3⟩ := skip_pro a q R A (k + 1) (fun y hy => h y (List.mem_cons_of_mem _ hy))
  have e : k + (A.length + 1) = k + 1 + A.length := by omega
  simp only [List.cons_append, jumpL, moreL, wayL, List.length_cons, e, h1, h2, h3]
  refine ⟨?_, ?_, ?_⟩
  ·unfold stepJ; rw [hj]; rfl
  ·unfold turnM; rw [hj]; rfl
  ·unfold stepW; rw [hj]; rfl
theorem shift_rest {a q a' q' : List Int} {c nb m : Nat} (hW : ∀ (k : Nat) (p : PaS), k < m → PaOK nb p → p.j = true → wayM a' q' (c + k) p.to = wayM a q k p.to) : ∀ (R : List PaS) (k : Nat), k + R.length ≤ m → AllPa nb R →
  jumpL a' q' (c + k) R = jumpL a q k R ∧ moreL a' q' (c + k) R = moreL a q k R ∧ wayL a' q' (c + k) R = wayL a q k R
 | [], k, h, ho => ⟨rfl, rfl, rfl⟩
 | p :: R, k, h, ho => by
  simp only [List.length_cons] at h
  obtain ⟨h1, h2, h3⟩ := shift_rest hW R (k + 1) (by omega) (fun y hy => ho y (List.mem_cons_of_mem _ hy))
  have hp := hW k p (by omega) (ho p (List.mem_cons_self ..))
  have ht : turnM a' q' (c + k) p = turnM a q k p := by
   unfold turnM
   cases hj : p.j
   ·rfl
   ·rw [hp hj]
  simp only [jumpL, moreL, wayL, ← Nat.add_assoc] at h1 h2 h3 ⊢
  rw [h1, h2, h3, ht]
  refine ⟨?_, rfl, ?_⟩
  ·unfold stepJ; rw [ht]
  ·unfold stepW
   cases hj : p.j
   ·rfl
   ·simp only [if_true]; rw [hp hj]
theorem atI_off (A B : List PaS) {i : Nat} (h : i ≤ B.length) : atI (offM 0 (A ++ B)) (A.length + i) = totM A + atI (offM 0 B) i := by
 unfold atI
 rw [List.getD_eq_getElem?_getD, List.getD_eq_getElem?_getD, offM_get _ _ _ (by rw [List.length_append]; omega), offM_get _ _ _ h, List.take_append]
 rw [List.take_of_length_le (by omega), Nat.add_sub_cancel_left, totM_app]
 simp
theorem atI_map (q : List Int) (c : Nat) {i : Nat} (h : i < q.length) : atI (q.map fun x => x + (c : Int)) i = atI q i + c := by
 unfold atI
 rw [List.getD_eq_getElem?_getD, List.getD_eq_getElem?_getD, List.getElem?_map, List.getElem?_eq_getElem h]
 rfl
theorem wayM_shift {A B : List PaS} {q : List Int} {nb : Nat} (hq : BegOK q nb B.length) (k : Nat) (p : PaS) (hk : k < B.length) (ho : PaOK nb p) (hj : p.j = true) :
  wayM (offM 0 (A ++ B)) (q.map fun x => x + (A.length : Int)) (A.length + k) p.to = wayM (offM 0 B) q k p.to := by
 obtain ⟨h1, h2⟩ := hq
 have t0 := ho.to0 hj
 have t1 := ho.to1 hj
 have hl : p.to.toNat < q.length := by omega
 have hb := h2 q[p.to.toNat] (List.getElem_mem hl)
 have he : atI q p.to.toNat = q[p.to.toNat] := by
  unfold atI
  rw [List.getD_eq_getElem?_getD, List.getElem?_eq_getElem hl]
  rfl
 unfold wayM
 rw [atI_map q A.length hl, he, show (q[p.to.toNat] + (A.length : Int)).toNat = A.length + q[p.to.toNat].toNat by omega, atI_off A B (by omega), Nat.add_assoc, atI_off A B (by omega)]
 omega
theorem relaxM_shift {A : List PaS} (hA : NoJ A) {nb m : Nat} {q : List Int} (hq : BegOK q nb m) : ∀ (n : Nat) (ps : List PaS), ps.length = m → AllPa nb ps →
  ∃ p0 : List PaS, p0.length = m ∧ (relaxM q n ps).2 = offM 0 p0 ∧ relaxM (q.map fun x => x + (A.length : Int)) n (A ++ ps) = (A ++ (relaxM q n ps).1, offM 0 (A ++ p0))
 | 0, ps, hl, ho => ⟨ps, hl, rfl, rfl⟩
 | n + 1, ps, hl, ho => by
  have hW := fun k p h1 h2 h3 => wayM_shift (A := A) (B := ps) (nb := nb) (by rw [hl]; exact hq) k p (by rw [hl]; exact h1) h2 h3
  obtain ⟨s1, s2, _⟩ := skip_pro (offM 0 (A ++ ps)) (q.map fun x => x + (A.length : Int)) ps A 0 hA
  obtain ⟨r1, r2, _⟩ := shift_rest (m := m) hW ps 0 (by omega) ho
  rw [Nat.zero_add] at s1 s2
  rw [Nat.add_zero] at r1 r2
  rw [r1] at s1
  rw [r2] at s2
  simp only [relaxM, s1, s2]
  cases hm : moreL (offM 0 ps) q 0 ps
  ·simp only [Bool.false_eq_true, if_false]
   exact ⟨ps, hl, rfl, rfl⟩
  ·simp only [if_true]
   exact relaxM_shift hA hq n (jumpL (offM 0 ps) q 0 ps) (by rw [jumpL_len]; exact hl) (AllPa.jumpL _ _ _ ho)
theorem shortN_app : ∀ {A : List PaS} (B : List PaS), NoJ A → shortN (A ++ B) = shortN B
 | [], B, h => rfl
 | p :: A, B, h => by
  have hj := h p (List.mem_cons_self ..)
  rw [List.cons_append, shortN, shortN_app B (fun y hy => h y (List.mem_cons_of_mem _ hy)), hj]
  simp
theorem fin_shift {A ps : List PaS} (hA : NoJ A) {nb : Nat} {q : List Int} (hq : BegOK q nb ps.length) (ho : AllPa nb ps) :
  finM (q.map fun x => x + (A.length : Int)) (A ++ ps) = A ++ finM q ps ∧ ∀ i : Nat, i ≤ ps.length → atI (offF (q.map fun x => x + (A.length : Int)) (A ++ ps)) (A.length + i) = totM A + atI (offF q ps) i := by
 obtain ⟨p0, h1, h2, h3⟩ := relaxM_shift hA hq (shortN ps + 1) ps rfl ho
 unfold finM offF
 rw [shortN_app ps hA, h3, h2]
 refine ⟨?_, fun i hi => atI_off A p0 (by omega)⟩
 have hW := fun k p g1 g2 g3 => wayM_shift (A := A) (B := p0) (nb := nb) (by rw [h1]; exact hq) k p (by rw [h1]; exact g1) g2 g3
 obtain ⟨_, _, s3⟩ := skip_pro (offM 0 (A ++ p0)) (q.map fun x => x + (A.length : Int)) (relaxM q (shortN ps + 1) ps).1 A 0 hA
 obtain ⟨_, _, r3⟩ := shift_rest (m := ps.length) hW (relaxM q (shortN ps + 1) ps).1 0 (by rw [relaxM_len]; omega) (relaxM_all q _ ps ho)
 rw [Nat.zero_add] at s3
 rw [Nat.add_zero] at r3
 rw [s3, r3]
theorem begP_shift (c : Nat) : ∀ (l : List (List IrS)) (k : Nat) (b : Int), begP (c + k) b l = (begP k b l).map fun x => x + (c : Int)
 | [], k, b => rfl
 | r :: l, k, b => by
  simp only [begP, List.map_cons]
  rw [Nat.add_assoc, begP_shift c l]
  congr 1
  omega
theorem lenP_may {x : XS} (h : mayXS x = true) : lenP (inP x) = ((bytesXS x).length : Int) := by
 unfold lenP lenX bytesL inP
 rw [show mayX x.op x.w x.dst x.src x.base x.disp x.imm x.cc = true from h, if_pos rfl, len_bD]
 rfl
theorem totM_pro : ∀ {pro : List XS}, (∀ x ∈ pro, mayXS x = true) → totM (pro.map inP) = ((catM pro).length : Int)
 | [], h => rfl
 | x :: pro, h => by
  rw [List.map_cons, totM, lenP_may (h x (List.mem_cons_self ..)), totM_pro (fun y hy => h y (List.mem_cons_of_mem _ hy)), catM, List.length_append]
  omega
theorem listM_cat : ∀ (pro : List XS) (n : Nat), (∀ x ∈ pro, mayXS x = true) → pro.length < n → listM n (catM pro) = some pro
 | [], n, h, hn => by
  match n, hn with
  | n + 1, _ => rfl
 | x :: pro, n, h, hn => by
  match n, hn with
  | n + 1, hn =>
   have hx := h x (List.mem_cons_self ..)
   have hl := bytes_len x
   have hne : catM (x :: pro) ≠ [] := by
    intro e
    have := congrArg List.length e
    rw [catM, List.length_append] at this
    simp only [List.length_nil] at this
    omega
   have hr : readM (catM (x :: pro)) = some x := read_back hx _
   rw [listM_more hne hr, show (catM (x :: pro)).drop (bytesXS x).length = catM pro from List.drop_left, listM_cat pro n (fun y hy => h y (List.mem_cons_of_mem _ hy)) (by simpa using hn)]
   rfl
end Go.Ev

namespace Go.Proofs.Ytcngafhpodeenaa
open Go Go.Ev
set_option maxRecDepth 100000
theorem Ret_nil {f : FuncId} {sz : Nat} {b d : D} (h : Ret Try.prog f [.lst .no sz [], b] d) : Ret Try.prog f [.lst .tight 0 [], b] d := by
 refine ⟨h.ent, fun w C vs hc hr => h.run w C vs hc ?_⟩
 refine ⟨hr.1, ?_⟩
 intro i dd v h1 h2
 match i with
 | 0 =>
  simp only [List.getElem?_cons_zero, Option.some.injEq] at h1
  subst h1
  have := hr.2 0 _ v rfl h2
  cases this with
  | lst b off vs hl hcap ha hsz hc hr hst ho =>
   exact .lst b off vs hl hcap (fun h => absurd rfl h) (by simp) (by simp) (by simp) (by simp) trivial
 | i + 1 => exact hr.2 (i + 1) dd v h1 h2
theorem noJ_pro (pro : List XS) : NoJ (pro.map inP) := by
 intro p hp
 obtain ⟨x, _, rfl⟩ := List.mem_map.1 hp
 rfl
theorem parF_pro (pro : List XS) (l : List (List IrS)) : parF pro l = pro.map inP ++ parF [] l := by
 unfold parF preP
 rfl
theorem begF_pro (pro : List XS) (l : List (List IrS)) : begF pro l = (begF [] l).map fun x => x + ((pro.map inP).length : Int) := by
 unfold begF preQ
 rw [List.length_map]
 exact begP_shift pro.length _ 0 0
theorem BlkIn.nil {pro : List XS} {l : List (List IrS)} (h : BlkIn pro l) : BlkIn [] l := ⟨h.ok, (fun x hx => by cases hx), (by have := h.n; rw [List.length_nil]; omega), h.b⟩
theorem Good.nil {pro : List XS} {l : List (List IrS)} (h : Good pro l) : Good [] l := ⟨h.l1, h.l64, (fun x hx => by cases hx), h.blk⟩
theorem mv_facts {pro : List XS} {l : List (List IrS)} (hg : Good pro l) :
  codeF pro l = catM pro ++ codeF [] l ∧ (startF pro l).length = (startF [] l).length ∧ (∀ i (h : i < (startF [] l).length) (h' : i < (startF pro l).length), (startF pro l)[i] = (startF [] l)[i] + ((catM pro).length : Int)) ∧ ∀ x ∈ pro, mayXS x = true := by
 have hm : ∀ x ∈ pro, mayXS x = true := by
  intro x hx
  have := hg.pro x hx
  unfold proB at this
  rw [Bool.and_eq_true] at this
  exact this.1
 have hbg := good_beg [] l
 obtain ⟨s1, s2⟩ := fin_shift (noJ_pro pro) hbg (good_all hg.nil).1
 have ht := totM_pro hm
 have hlen : (startF pro l).length = (startF [] l).length := by
  unfold startF
  rw [List.length_map, List.length_map, begF_pro pro l, List.length_map]
 refine ⟨?_, hlen, ?_, hm⟩
 ·unfold codeF
  rw [begF_pro pro l, parF_pro pro l, s1, List.map_append, catM_append]
  congr 2
  rw [List.map_map]
  exact List.map_id pro
 ·intro i h h'
  have hi : i < (begF [] l).length := by unfold startF at h; rwa [List.length_map] at h
  obtain ⟨b0, b1⟩ := hbg.2 _ (List.getElem_mem hi)
  have e2 := s2 (begF [] l)[i].toNat (by omega)
  rw [← begF_pro pro l, ← parF_pro pro l, ht] at e2
  have hi' : i < (begF pro l).length := by rw [begF_pro pro l, List.length_map]; exact hi
  have p1 : (startF pro l)[i] = atI (offF (begF pro l) (parF pro l)) (begF pro l)[i].toNat := by simp only [startF, List.getElem_map]
  have p0 : (startF [] l)[i] = atI (offF (begF [] l) (parF [] l)) (begF [] l)[i].toNat := by simp only [startF, List.getElem_map]
  rw [p1, p0]
  have e3 : (begF pro l)[i] = (begF [] l)[i] + ((pro.map inP).length : Int) := by
   have := begF_pro pro l
   simp only [this, List.getElem_map]
  rw [e3, show ((begF [] l)[i] + ((pro.map inP).length : Int)).toNat = (pro.map inP).length + (begF [] l)[i].toNat by omega, e2]
  omega
theorem codeF_len {pro : List XS} {l : List (List IrS)} (hn : pro.length + sumL l ≤ 2000) : (codeF pro l).length ≤ 22000 := by
 unfold codeF
 have h1 := (catM_len ((finM (begF pro l) (parF pro l)).map PaS.x)).2
 have h2 := parF_len hn
 rw [List.length_map, finM_len] at h1
 omega
theorem startF_rng (pro : List XS) {l : List (List IrS)} (hl : (parF pro l).length ≤ 2000) : ∀ x ∈ startF pro l, 0 ≤ x ∧ x ≤ 22000 := by
 intro x hx
 unfold startF at hx
 obtain ⟨b, _, rfl⟩ := List.mem_map.1 hx
 obtain ⟨p0, h1, h2⟩ := relaxM_off (begF pro l) (shortN (parF pro l) + 1) (parF pro l)
 unfold offF atI
 rw [h2, List.getD_eq_getElem?_getD]
 by_cases hn : b.toNat ≤ p0.length
 ·rw [offM_get _ _ _ hn]
  have := totM_le (p0.take b.toNat)
  rw [List.length_take] at this
  simp only [Option.getD_some]
  omega
 ·rw [List.getElem?_eq_none (by rw [offM_len]; omega)]
  simp
theorem great_any {pro : List XS} {l : List (List IrS)} (hs : Sized pro l) : Ret Try.prog 24 [.lst .no 8 (xsL pro), .lst .no 1 (rwL l)] (.bool (decide (2500 < sumG pro l) || decide (100 < ((rwL l).length : Int)))) :=
 great_ok pro l (sumG pro l) (gr_loop pro l hs)
theorem not_great {pro : List XS} {l : List (List IrS)} (hx : AllX pro) (ho : ∀ r ∈ l, AllOk r) (h : (decide (2500 < sumG pro l) || decide (100 < ((rwL l).length : Int))) = false) : BlkIn pro l := by
 rw [Bool.or_eq_false_iff, decide_eq_false_iff_not, decide_eq_false_iff_not, rwL_len] at h
 have h2 : l.length ≤ 100 := by omega
 have h1 := h.1
 unfold sumG at h1
 rw [List.take_of_length_le (by omega)] at h1
 exact ⟨ho, hx, by omega, h2⟩
theorem moved_any (pro : List XS) (l : List (List IrS)) (hx : AllX pro) (ho : ∀ r ∈ l, AllOk r) (hs : Sized pro l) : Ret Try.prog 10 [.lst .no 8 (xsL pro), .lst .no 1 (rwL l)] (.bool true) := by
 have hG := great_any hs
 cases hgr : (decide (2500 < sumG pro l) || decide (100 < ((rwL l).length : Int))) with
 | true => rw [hgr] at hG; exact mv_great_ok pro l hG
 | false =>
  rw [hgr] at hG
  have hb := not_great hx ho hgr
  have r1 := run_any hb
  have r0 := Ret_nil (show Ret Try.prog 26 [.lst .no 8 [], .lst .no 1 (rwL l)] (runD [] l) from run_any hb.nil)
  unfold runD at r0 r1
  by_cases g1 : goodM pro l = true
  ·have hg := good_iff.1 g1
   have g0 : goodM [] l = true := good_iff.2 hg.nil
   rw [if_pos g1] at r1
   rw [if_pos g0] at r0
   by_cases n0 : ([] : List XS).length + sumL l ≤ 2000 ∧ totF [] l ≤ 16384
   ·rw [if_pos n0] at r0
    by_cases n1 : pro.length + sumL l ≤ 2000 ∧ totF pro l ≤ 16384
    ·rw [if_pos n1] at r1
     obtain ⟨f1, f2, f3, f4⟩ := mv_facts hg
     have c1 := codeF_len n1.1
     have c0 := codeF_len (pro := []) n0.1
     have hcl : (codeF pro l).length = (catM pro).length + (codeF [] l).length := by rw [f1, List.length_append]
     have hw : IntKind.i64.wrap (((bD (codeF pro l)).length : Int) - ((bD (codeF [] l)).length : Int)) = ((catM pro).length : Int) := by rw [len_bD, len_bD, w_i64]; omega
     have hl := ll_any (catM pro) (catM_isB f4) (by omega)
     have hcp := (catM_len pro).1
     rw [listM_cat pro _ f4 (by omega)] at hl
     have a1 := startF_rng [] (parF_len (pro := []) n0.1)
     have hst : (startF [] l).length ≤ 1000 := by
      have := (good_beg [] l).1
      have := hb.b
      unfold startF
      rw [List.length_map]
      omega
     have hmv := LoopRun.of_rounds (show 3 ≤ 3 by decide) (mv_rounds (startF [] l) (startF pro l) (codeF pro l) ((catM pro).length : Int) f2.symm hst (fun i h h' => by
      have := a1 _ (List.getElem_mem h)
      rw [f3 i h h', w_i64]
      omega) (startF [] l).length 0 (by omega))
     refine mv_ok_ok pro l (codeF [] l) (startF [] l) (codeF pro l) (startF pro l) pro (by rw [len_bD, len_bD]; omega) (by rw [len_bD]; omega) (by rw [intsD_len, intsD_len, f2]) ?_ hG r0 r1 ?_ ?_
     ·rw [hw, Int.toNat_natCast, f1, ← bD_drop, List.drop_left]
      exact beq_self_eq_true _
     ·rw [hw]; exact hmv
     ·rw [hw, Int.toNat_natCast, f1, ← bD_take, List.take_left]
      exact hl
    ·rw [if_neg n1] at r1
     exact mv_ob_ok pro l 3 _ _ (by decide) hG r0 r1
   ·rw [if_neg n0] at r0
    by_cases n1 : pro.length + sumL l ≤ 2000 ∧ totF pro l ≤ 16384
    ·rw [if_pos n1] at r1
     exact mv_bo_ok pro l 3 _ _ (by decide) hG r0 r1
    ·rw [if_neg n1] at r1
     exact mv_bb_ok pro l 3 3 (by decide) hG r0 r1
  ·rw [if_neg g1] at r1
   by_cases g0 : goodM [] l = true
   ·rw [if_pos g0] at r0
    by_cases n0 : ([] : List XS).length + sumL l ≤ 2000 ∧ totF [] l ≤ 16384
    ·rw [if_pos n0] at r0
     exact mv_ob_ok pro l 2 _ _ (by decide) hG r0 r1
    ·rw [if_neg n0] at r0
     exact mv_bb_ok pro l 3 2 (by decide) hG r0 r1
   ·rw [if_neg g0] at r0
    exact mv_bb_ok pro l 2 2 (by decide) hG r0 r1
end Go.Proofs.Ytcngafhpodeenaa
