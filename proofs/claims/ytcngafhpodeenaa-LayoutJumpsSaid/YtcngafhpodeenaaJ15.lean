/- Contracts and plain laws that a statement's proof leans on (texts merged: LJ1, LJ1A, LJ2, MdLf, LJ3). -/
import Derived.Test.YtcngafhpodeenaaJ11
import Derived.Test.YtcngafhpodeenaaJ14
set_option linter.unusedVariables false
set_option linter.unusedSimpArgs false
namespace Go.Proofs.Ytcngafhpodeenaa
open Go Go.Ev
set_option maxRecDepth 100000
set_option maxHeartbeats 8000000
theorem lj_pe (pro : List XS) (l : List (List IrS)) (c a : List Int) (h i : Int) (i0 : 0 ≤ i) (i1 : i ≤ 100000) (hh : ((xsL pro).length : Int) ≤ i)  : RoundRun Try.prog (loopB Try.f9 0) ⟨[1, 5, 6, 8], [], []⟩ 2 ((.lst .no 8 (xsL pro)) :: (.lst .no 1 (rwL l)) :: (D.undef) :: (D.undef) :: (D.undef) :: (.lst .no 1 (bD c)) :: (.lst .no 1 (intsD a)) :: (D.undef) :: (.int .i64 h) :: (.int .i64 i) :: (un 236)) [Ob.dead, Ob.dead] (Ex.exit (0 : Nat)) ((D.undef) :: (.lst .no 1 (rwL l)) :: (D.undef) :: (D.undef) :: (D.undef) :: (.lst .no 1 (bD c)) :: (.lst .no 1 (intsD a)) :: (D.undef) :: (.int .i64 h) :: (un 237)) ([Ob.dead, Ob.dead]) := by
 exact RoundRun.of_eval mixed [tC (by ((try simp only [sL] at *); (try unfold big at *); omega) : (decide (i < (↑(List.length (xsL pro)) : Int))) = false)] (by kernel_rfl)
theorem lj_pi (pro : List XS) (l : List (List IrS)) (c a : List Int) (h i : Int) (i0 : 0 ≤ i) (i1 : i ≤ 100000) (n : Int) (x : XS) (hh : i < ((xsL pro).length : Int)) (h0 : 0 ≤ h) (h1 : h ≤ 100000) (n0 : 1 ≤ n) (n1 : n ≤ 11) (hx : (xsL pro)[Int.toNat i]? = some (xsD x)) (hr : Ret Try.prog 19 [.lst .no 1 (List.drop (Int.toNat (if ((bD c).length : Int) < h then ((bD c).length : Int) else h)) (bD c))] (.tup [xsD x, .int .i64 n, .int .i64 0]))  : RoundRun Try.prog (loopB Try.f9 0) ⟨[0, 1, 5, 6, 8, 9], [], []⟩ 2 ((.lst .no 8 (xsL pro)) :: (.lst .no 1 (rwL l)) :: (D.undef) :: (D.undef) :: (D.undef) :: (.lst .no 1 (bD c)) :: (.lst .no 1 (intsD a)) :: (D.undef) :: (.int .i64 h) :: (.int .i64 i) :: (un 236)) [Ob.dead, Ob.dead] (Ex.norm) ((.lst .no 8 (xsL pro)) :: (.lst .no 1 (rwL l)) :: (D.undef) :: (D.undef) :: (D.undef) :: (.lst .no 1 (bD c)) :: (.lst .no 1 (intsD a)) :: (D.undef) :: (.int .i64 (IntKind.wrap IntKind.i64 (h + n))) :: (.int .i64 (IntKind.wrap IntKind.i64 (i + (1 : Int)))) :: (un 236)) ([Ob.dead, Ob.dead]) := by
 exact RoundRun.of_eval mixed ([tC (by ((try simp only [sL] at *); (try unfold big at *); omega) : (decide (i < (↑(List.length (xsL pro)) : Int))) = true), .tst (decide (((0 : Int) ≤ if (↑(List.length (bD c)) : Int) < h then (↑(List.length (bD c)) : Int) else h) ∧ (if (↑(List.length (bD c)) : Int) < h then (↑(List.length (bD c)) : Int) else h) ≤ (↑(List.length (bD c)) : Int))) true (by ((try simp only [sL] at *); (try unfold big at *); omega)), .ret _ _ _ hr, tT, tT, tT, tT, tC (v := true) (leL 0 (decide_eq_false (Int.not_lt.2 i0))), .get _ _ _ hx, tT, tT, .flat _ _ flat_X, tF, tC (eF (nt (andT (beq_self_eq_true (XS.op x)) (andT (beq_self_eq_true (XS.w x)) (andT (beq_self_eq_true (XS.dst x)) (andT (beq_self_eq_true (XS.src x)) (andT (beq_self_eq_true (XS.base x)) (andT (beq_self_eq_true (XS.disp x)) (andT (beq_self_eq_true (XS.imm x)) (andT (beq_self_eq_true (XS.cc x)) (rfl : true = true))))))))))), tC (eF (nt (andT (beq_self_eq_true (XS.op x)) (andT (beq_self_eq_true (XS.w x)) (andT (beq_self_eq_true (XS.dst x)) (andT (beq_self_eq_true (XS.src x)) (andT (beq_self_eq_true (XS.base x)) (andT (beq_self_eq_true (XS.disp x)) (andT (beq_self_eq_true (XS.imm x)) (andT (beq_self_eq_true (XS.cc x)) (rfl : true = true))))))))))), tC (nt (andT (beq_self_eq_true (XS.op x)) (andT (beq_self_eq_true (XS.w x)) (andT (beq_self_eq_true (XS.dst x)) (andT (beq_self_eq_true (XS.src x)) (andT (beq_self_eq_true (XS.base x)) (andT (beq_self_eq_true (XS.disp x)) (andT (beq_self_eq_true (XS.imm x)) (andT (beq_self_eq_true (XS.cc x)) (rfl : true = true))))))))))] ++ [tC (decide_eq_false (Int.not_lt.2 n0))]) (by kernel_rfl)
theorem lj_se (l : List (List IrS)) (c a : List Int) (h b i : Int) (b0 : 0 ≤ b) (b1 : b ≤ 1000) (i0 : 0 ≤ i) (i1 : i ≤ 100000) (r : List IrS) (hb : (rwL l)[Int.toNat b]? = some (.lst .no 13 (irL r))) (hrl : ((irL r).length : Int) ≤ 100000) (hh : ((irL r).length : Int) ≤ i)  : RoundRun Try.prog (loopB Try.f9 2) ⟨[1, 5, 6, 8, 13], [], []⟩ 2 ((D.undef) :: (.lst .no 1 (rwL l)) :: (D.undef) :: (D.undef) :: (D.undef) :: (.lst .no 1 (bD c)) :: (.lst .no 1 (intsD a)) :: (D.undef) :: (.int .i64 h) :: (un 4 ++ (.int .i64 b) :: (.int .i64 i) :: (un 231))) [Ob.dead, Ob.dead] (Ex.exit (4 : Nat)) ((D.undef) :: (.lst .no 1 (rwL l)) :: (D.undef) :: (D.undef) :: (D.undef) :: (.lst .no 1 (bD c)) :: (.lst .no 1 (intsD a)) :: (D.undef) :: (.int .i64 h) :: (un 4 ++ (.int .i64 b) :: (un 232))) ([Ob.dead, Ob.dead]) := by
 exact RoundRun.of_eval mixed [tC (v := true) (leL 0 (decide_eq_false (Int.not_lt.2 b0))), .get _ _ _ hb, tC (by ((try simp only [sL] at *); (try unfold big at *); omega) : (decide (i < (↑(List.length (irL r)) : Int))) = false)] (by kernel_rfl)
theorem lj_sk (l : List (List IrS)) (c a : List Int) (h b i : Int) (b0 : 0 ≤ b) (b1 : b ≤ 1000) (i0 : 0 ≤ i) (i1 : i ≤ 100000) (r : List IrS) (hb : (rwL l)[Int.toNat b]? = some (.lst .no 13 (irL r))) (hrl : ((irL r).length : Int) ≤ 100000) (hh : i < ((irL r).length : Int)) (s : IrS) (hs : (irL r)[Int.toNat i]? = some (IrS.d s)) (hk : s.kind = 5) (hi : i + 1 = ((irL r).length : Int)) (hn : 1 < ((irL r).length : Int)) (ht : s.to = b + 1)  : RoundRun Try.prog (loopB Try.f9 2) ⟨[1, 5, 6, 8, 13, 14], [], []⟩ 2 ((D.undef) :: (.lst .no 1 (rwL l)) :: (D.undef) :: (D.undef) :: (D.undef) :: (.lst .no 1 (bD c)) :: (.lst .no 1 (intsD a)) :: (D.undef) :: (.int .i64 h) :: (un 4 ++ (.int .i64 b) :: (.int .i64 i) :: (un 231))) [Ob.dead, Ob.dead] (Ex.norm) ((D.undef) :: (.lst .no 1 (rwL l)) :: (D.undef) :: (D.undef) :: (D.undef) :: (.lst .no 1 (bD c)) :: (.lst .no 1 (intsD a)) :: (D.undef) :: (.int .i64 h) :: (un 4 ++ (.int .i64 b) :: (.int .i64 (IntKind.wrap IntKind.i64 (i + (1 : Int)))) :: (un 231))) ([Ob.dead, Ob.dead]) := by
 exact RoundRun.of_eval mixed ([tC (v := true) (leL 0 (decide_eq_false (Int.not_lt.2 b0))), .get _ _ _ hb, tC (by ((try simp only [sL] at *); (try unfold big at *); omega) : (decide (i < (↑(List.length (irL r)) : Int))) = true), tC (v := true) (leL 0 (decide_eq_false (Int.not_lt.2 b0))), .get _ _ _ hb, tC (v := true) (leL 0 (decide_eq_false (Int.not_lt.2 i0))), .get _ _ _ hs, tC (eT (eqI 5 true (by ((try simp only [sL] at *); (try unfold big at *); omega) : IrS.kind s = (5 : Int)))), tC (eT (eqI 5 true (by ((try simp only [sL] at *); (try unfold big at *); omega) : IrS.kind s = (5 : Int)))), tC (eT (eqI 5 true (by ((try simp only [sL] at *); (try unfold big at *); omega) : IrS.kind s = (5 : Int)))), tC (eT (eqI 5 true (by ((try simp only [sL] at *); (try unfold big at *); omega) : IrS.kind s = (5 : Int)))), tC (v := true) (leL 0 (decide_eq_false (Int.not_lt.2 b0))), .get _ _ _ hb, tC (eT (eqI 5 true (by ((try simp only [sL] at *); (try unfold big at *); omega) : IrS.kind s = (5 : Int)))), tC (eT (eqI 5 true (by ((try simp only [sL] at *); (try unfold big at *); omega) : IrS.kind s = (5 : Int)))), tC (eT (eqI 5 true (by ((try simp only [sL] at *); (try unfold big at *); omega) : IrS.kind s = (5 : Int))))] ++ [tC (eT (eqI 5 true (by ((try simp only [sL] at *); (try unfold big at *); omega) : IrS.kind s = (5 : Int)))), tC (eqI 5 true (by ((try simp only [sL] at *); (try unfold big at *); omega) : IrS.kind s = (5 : Int))), tC (eT (by ((try simp only [sL] at *); (try unfold big at *); omega) : (i == IntKind.wrap IntKind.i64 ((↑(List.length (irL r)) : Int) - (1 : Int))) = true)), tC (eT (by ((try simp only [sL] at *); (try unfold big at *); omega) : (i == IntKind.wrap IntKind.i64 ((↑(List.length (irL r)) : Int) - (1 : Int))) = true)), tC (eT (by ((try simp only [sL] at *); (try unfold big at *); omega) : (i == IntKind.wrap IntKind.i64 ((↑(List.length (irL r)) : Int) - (1 : Int))) = true)), tC (v := true) (leL 0 (decide_eq_false (Int.not_lt.2 b0))), .get _ _ _ hb, tC (eT (by ((try simp only [sL] at *); (try unfold big at *); omega) : (i == IntKind.wrap IntKind.i64 ((↑(List.length (irL r)) : Int) - (1 : Int))) = true)), tC (eT (by ((try simp only [sL] at *); (try unfold big at *); omega) : (i == IntKind.wrap IntKind.i64 ((↑(List.length (irL r)) : Int) - (1 : Int))) = true)), tC (eT (by ((try simp only [sL] at *); (try unfold big at *); omega) : (i == IntKind.wrap IntKind.i64 ((↑(List.length (irL r)) : Int) - (1 : Int))) = true)), tC (by ((try simp only [sL] at *); (try unfold big at *); omega) : (i == IntKind.wrap IntKind.i64 ((↑(List.length (irL r)) : Int) - (1 : Int))) = true), tC (eT (ltL 1 (decide_eq_false (by omega : ¬ (↑(List.length (irL r)) : Int) < 2)))), tC (eT (ltL 1 (decide_eq_false (by omega : ¬ (↑(List.length (irL r)) : Int) < 2)))), tC (eT (ltL 1 (decide_eq_false (by omega : ¬ (↑(List.length (irL r)) : Int) < 2)))), tC (eT (ltL 1 (decide_eq_false (by omega : ¬ (↑(List.length (irL r)) : Int) < 2)))), tC (eT (ltL 1 (decide_eq_false (by omega : ¬ (↑(List.length (irL r)) : Int) < 2))))] ++ [tC (ltL 1 (decide_eq_false (by omega : ¬ (↑(List.length (irL r)) : Int) < 2))), tC (by ((try simp only [sL] at *); (try unfold big at *); omega) : (IrS.to s == IntKind.wrap IntKind.i64 (b + (1 : Int))) = true)]) (by kernel_rfl)
theorem lj_sj (l : List (List IrS)) (c a : List Int) (h b i : Int) (b0 : 0 ≤ b) (b1 : b ≤ 1000) (i0 : 0 ≤ i) (i1 : i ≤ 100000) (r : List IrS) (hb : (rwL l)[Int.toNat b]? = some (.lst .no 13 (irL r))) (hrl : ((irL r).length : Int) ≤ 100000) (hh : i < ((irL r).length : Int)) (s : IrS) (hs : (irL r)[Int.toNat i]? = some (IrS.d s)) (hk : s.kind = 4) (n w v u : Int) (h0 : 0 ≤ h) (h1 : h ≤ 100000) (n0 : 1 ≤ n) (n1 : n ≤ 11) (hr : Ret Try.prog 19 [.lst .no 1 (List.drop (Int.toNat (if ((bD c).length : Int) < h then ((bD c).length : Int) else h)) (bD c))] (.tup [xD 29 w 0 0 0 0 v s.cc, .int .i64 n, .int .i64 0])) (t0 : 0 ≤ s.to) (t1 : s.to < ((intsD a).length : Int)) (hu : (intsD a)[Int.toNat s.to]? = some (.int .i64 u)) (v0 : -100000 ≤ v) (v1 : v ≤ 100000) (he : h + n + v = u)  : RoundRun Try.prog (loopB Try.f9 2) ⟨[1, 5, 6, 8, 13, 14], [], []⟩ 2 ((D.undef) :: (.lst .no 1 (rwL l)) :: (D.undef) :: (D.undef) :: (D.undef) :: (.lst .no 1 (bD c)) :: (.lst .no 1 (intsD a)) :: (D.undef) :: (.int .i64 h) :: (un 4 ++ (.int .i64 b) :: (.int .i64 i) :: (un 231))) [Ob.dead, Ob.dead] (Ex.norm) ((D.undef) :: (.lst .no 1 (rwL l)) :: (D.undef) :: (D.undef) :: (D.undef) :: (.lst .no 1 (bD c)) :: (.lst .no 1 (intsD a)) :: (D.undef) :: (.int .i64 (IntKind.wrap IntKind.i64 (h + n))) :: (un 4 ++ (.int .i64 b) :: (.int .i64 (IntKind.wrap IntKind.i64 (i + (1 : Int)))) :: (un 231))) ([Ob.dead, Ob.dead]) := by
 exact RoundRun.of_eval mixed ([tC (v := true) (leL 0 (decide_eq_false (Int.not_lt.2 b0))), .get _ _ _ hb, tC (by ((try simp only [sL] at *); (try unfold big at *); omega) : (decide (i < (↑(List.length (irL r)) : Int))) = true), tC (v := true) (leL 0 (decide_eq_false (Int.not_lt.2 b0))), .get _ _ _ hb, tC (v := true) (leL 0 (decide_eq_false (Int.not_lt.2 i0))), .get _ _ _ hs, tC (eT (by ((try simp only [sL] at *); (try unfold big at *); omega) : (IrS.kind s == (5 : Int)) = false)), tC (eT (by ((try simp only [sL] at *); (try unfold big at *); omega) : (IrS.kind s == (5 : Int)) = false)), tC (eT (by ((try simp only [sL] at *); (try unfold big at *); omega) : (IrS.kind s == (5 : Int)) = false)), tC (eT (by ((try simp only [sL] at *); (try unfold big at *); omega) : (IrS.kind s == (5 : Int)) = false)), tC (eT (by ((try simp only [sL] at *); (try unfold big at *); omega) : (IrS.kind s == (5 : Int)) = false)), tC (eT (by ((try simp only [sL] at *); (try unfold big at *); omega) : (IrS.kind s == (5 : Int)) = false)), tC (eT (by ((try simp only [sL] at *); (try unfold big at *); omega) : (IrS.kind s == (5 : Int)) = false)), tC (eT (by ((try simp only [sL] at *); (try unfold big at *); omega) : (IrS.kind s == (5 : Int)) = false)), tC (by ((try simp only [sL] at *); (try unfold big at *); omega) : (IrS.kind s == (5 : Int)) = false)] ++ [tF, tF, tF, tF, tF, tF, tF, tF, tF, tF, tF, tF, tF, tF, .tst (decide (((0 : Int) ≤ if (↑(List.length (bD c)) : Int) < h then (↑(List.length (bD c)) : Int) else h) ∧ (if (↑(List.length (bD c)) : Int) < h then (↑(List.length (bD c)) : Int) else h) ≤ (↑(List.length (bD c)) : Int))) true (by ((try simp only [sL] at *); (try unfold big at *); omega)), .ret _ _ _ hr] ++ [tT, tT, tF, tC (decide_eq_false (Int.not_lt.2 n0)), tT, tT, tT, tF, tC (eF (nt (eTl (nt (by ((try simp only [sL] at *); (try unfold big at *); omega) : (IrS.kind s == (0 : Int)) = false))))), tC (eF (nt (eTl (nt (by ((try simp only [sL] at *); (try unfold big at *); omega) : (IrS.kind s == (0 : Int)) = false))))), tC (eF (nt (eTl (nt (by ((try simp only [sL] at *); (try unfold big at *); omega) : (IrS.kind s == (0 : Int)) = false))))), tF, tF, tF, tF, tC (eF (nt (eTl (nt (by ((try simp only [sL] at *); (try unfold big at *); omega) : (IrS.kind s == (0 : Int)) = false)))))] ++ [tF, tC (nt (eTl (nt (by ((try simp only [sL] at *); (try unfold big at *); omega) : (IrS.kind s == (0 : Int)) = false)))), tT, tT, tT, tF, tC (eF (decide_eq_false (Int.not_lt.2 t0))), tC (eF (decide_eq_false (Int.not_lt.2 t0))), tC (eF (decide_eq_false (Int.not_lt.2 t0))), tC (eF (decide_eq_false (Int.not_lt.2 t0))), tC (eF (decide_eq_false (Int.not_lt.2 t0))), tC (decide_eq_false (Int.not_lt.2 t0)), tC (by ((try simp only [sL] at *); (try unfold big at *); omega) : (decide (IrS.to s ≥ (↑(List.length (intsD a)) : Int))) = false), tT, tT, tT] ++ [tT, tT, tT, tT, tT, tC (v := true) (leL 0 (decide_eq_false (Int.not_lt.2 t0))), .get _ _ _ hu, tT, tT, tT, tC (eF (nt (by ((try simp only [sL] at *); (try unfold big at *); omega) : (IntKind.wrap IntKind.i64 (IntKind.wrap IntKind.i64 (h + n) + v) == u) = true))), tC (eF (nt (by ((try simp only [sL] at *); (try unfold big at *); omega) : (IntKind.wrap IntKind.i64 (IntKind.wrap IntKind.i64 (h + n) + v) == u) = true))), tC (eF (nt (by ((try simp only [sL] at *); (try unfold big at *); omega) : (IntKind.wrap IntKind.i64 (IntKind.wrap IntKind.i64 (h + n) + v) == u) = true))), tC (eF (nt (by ((try simp only [sL] at *); (try unfold big at *); omega) : (IntKind.wrap IntKind.i64 (IntKind.wrap IntKind.i64 (h + n) + v) == u) = true))), tC (eF (nt (by ((try simp only [sL] at *); (try unfold big at *); omega) : (IntKind.wrap IntKind.i64 (IntKind.wrap IntKind.i64 (h + n) + v) == u) = true))), tC (eF (nt (by ((try simp only [sL] at *); (try unfold big at *); omega) : (IntKind.wrap IntKind.i64 (IntKind.wrap IntKind.i64 (h + n) + v) == u) = true)))] ++ [tC (eF (nt (by ((try simp only [sL] at *); (try unfold big at *); omega) : (IntKind.wrap IntKind.i64 (IntKind.wrap IntKind.i64 (h + n) + v) == u) = true))), tT, tC (nt (by ((try simp only [sL] at *); (try unfold big at *); omega) : (IntKind.wrap IntKind.i64 (IntKind.wrap IntKind.i64 (h + n) + v) == u) = true)), tT, tC (eF (nt (eFl (by ((try simp only [sL] at *); (try unfold big at *); omega) : (IrS.kind s == (5 : Int)) = false)))), tC (eF (nt (eFl (by ((try simp only [sL] at *); (try unfold big at *); omega) : (IrS.kind s == (5 : Int)) = false)))), tC (eF (nt (eFl (by ((try simp only [sL] at *); (try unfold big at *); omega) : (IrS.kind s == (5 : Int)) = false)))), tC (eF (nt (eFl (by ((try simp only [sL] at *); (try unfold big at *); omega) : (IrS.kind s == (5 : Int)) = false)))), tT, tT, tT, tT, tT, tT, tC (eF (nt (eFl (by ((try simp only [sL] at *); (try unfold big at *); omega) : (IrS.kind s == (5 : Int)) = false)))), tT] ++ [tT, tC (nt (eFl (by ((try simp only [sL] at *); (try unfold big at *); omega) : (IrS.kind s == (5 : Int)) = false))), tT, tC (nt (beq_self_eq_true (IrS.cc s)))]) (by kernel_rfl)
theorem lj_g1 (l : List (List IrS)) (c a : List Int) (h b i : Int) (b0 : 0 ≤ b) (b1 : b ≤ 1000) (i0 : 0 ≤ i) (i1 : i ≤ 100000) (r : List IrS) (hb : (rwL l)[Int.toNat b]? = some (.lst .no 13 (irL r))) (hrl : ((irL r).length : Int) ≤ 100000) (hh : i < ((irL r).length : Int)) (s : IrS) (hs : (irL r)[Int.toNat i]? = some (IrS.d s)) (hk : s.kind = 5) (n w v u : Int) (hsk : i + 1 < ((irL r).length : Int)) (h0 : 0 ≤ h) (h1 : h ≤ 100000) (n0 : 1 ≤ n) (n1 : n ≤ 11) (hr : Ret Try.prog 19 [.lst .no 1 (List.drop (Int.toNat (if ((bD c).length : Int) < h then ((bD c).length : Int) else h)) (bD c))] (.tup [xD 28 w 0 0 0 0 v 0, .int .i64 n, .int .i64 0])) (t0 : 0 ≤ s.to) (t1 : s.to < ((intsD a).length : Int)) (hu : (intsD a)[Int.toNat s.to]? = some (.int .i64 u)) (v0 : -100000 ≤ v) (v1 : v ≤ 100000) (he : h + n + v = u)  : RoundRun Try.prog (loopB Try.f9 2) ⟨[1, 5, 6, 8, 13, 14], [], []⟩ 2 ((D.undef) :: (.lst .no 1 (rwL l)) :: (D.undef) :: (D.undef) :: (D.undef) :: (.lst .no 1 (bD c)) :: (.lst .no 1 (intsD a)) :: (D.undef) :: (.int .i64 h) :: (un 4 ++ (.int .i64 b) :: (.int .i64 i) :: (un 231))) [Ob.dead, Ob.dead] (Ex.norm) ((D.undef) :: (.lst .no 1 (rwL l)) :: (D.undef) :: (D.undef) :: (D.undef) :: (.lst .no 1 (bD c)) :: (.lst .no 1 (intsD a)) :: (D.undef) :: (.int .i64 (IntKind.wrap IntKind.i64 (h + n))) :: (un 4 ++ (.int .i64 b) :: (.int .i64 (IntKind.wrap IntKind.i64 (i + (1 : Int)))) :: (un 231))) ([Ob.dead, Ob.dead]) := by
 exact RoundRun.of_eval mixed ([tC (v := true) (leL 0 (decide_eq_false (Int.not_lt.2 b0))), .get _ _ _ hb, tC (by ((try simp only [sL] at *); (try unfold big at *); omega) : (decide (i < (↑(List.length (irL r)) : Int))) = true), tC (v := true) (leL 0 (decide_eq_false (Int.not_lt.2 b0))), .get _ _ _ hb, tC (v := true) (leL 0 (decide_eq_false (Int.not_lt.2 i0))), .get _ _ _ hs, tC (eT (eqI 5 true (by ((try simp only [sL] at *); (try unfold big at *); omega) : IrS.kind s = (5 : Int)))), tC (eT (eqI 5 true (by ((try simp only [sL] at *); (try unfold big at *); omega) : IrS.kind s = (5 : Int)))), tC (eT (eqI 5 true (by ((try simp only [sL] at *); (try unfold big at *); omega) : IrS.kind s = (5 : Int)))), tC (eT (eqI 5 true (by ((try simp only [sL] at *); (try unfold big at *); omega) : IrS.kind s = (5 : Int)))), tC (v := true) (leL 0 (decide_eq_false (Int.not_lt.2 b0))), .get _ _ _ hb, tC (eT (eqI 5 true (by ((try simp only [sL] at *); (try unfold big at *); omega) : IrS.kind s = (5 : Int)))), tC (eT (eqI 5 true (by ((try simp only [sL] at *); (try unfold big at *); omega) : IrS.kind s = (5 : Int)))), tC (eT (eqI 5 true (by ((try simp only [sL] at *); (try unfold big at *); omega) : IrS.kind s = (5 : Int))))] ++ [tC (eT (eqI 5 true (by ((try simp only [sL] at *); (try unfold big at *); omega) : IrS.kind s = (5 : Int)))), tC (eqI 5 true (by ((try simp only [sL] at *); (try unfold big at *); omega) : IrS.kind s = (5 : Int))), tC (eT (by ((try simp only [sL] at *); (try unfold big at *); omega) : (i == IntKind.wrap IntKind.i64 ((↑(List.length (irL r)) : Int) - (1 : Int))) = false)), tC (eT (by ((try simp only [sL] at *); (try unfold big at *); omega) : (i == IntKind.wrap IntKind.i64 ((↑(List.length (irL r)) : Int) - (1 : Int))) = false)), tC (eT (by ((try simp only [sL] at *); (try unfold big at *); omega) : (i == IntKind.wrap IntKind.i64 ((↑(List.length (irL r)) : Int) - (1 : Int))) = false)), tC (eT (by ((try simp only [sL] at *); (try unfold big at *); omega) : (i == IntKind.wrap IntKind.i64 ((↑(List.length (irL r)) : Int) - (1 : Int))) = false)), tC (eT (by ((try simp only [sL] at *); (try unfold big at *); omega) : (i == IntKind.wrap IntKind.i64 ((↑(List.length (irL r)) : Int) - (1 : Int))) = false)), tC (eT (by ((try simp only [sL] at *); (try unfold big at *); omega) : (i == IntKind.wrap IntKind.i64 ((↑(List.length (irL r)) : Int) - (1 : Int))) = false)), tC (by ((try simp only [sL] at *); (try unfold big at *); omega) : (i == IntKind.wrap IntKind.i64 ((↑(List.length (irL r)) : Int) - (1 : Int))) = false), tF, tF, tF, tF, tF, tF, tF] ++ [.tst (decide (((0 : Int) ≤ if (↑(List.length (bD c)) : Int) < h then (↑(List.length (bD c)) : Int) else h) ∧ (if (↑(List.length (bD c)) : Int) < h then (↑(List.length (bD c)) : Int) else h) ≤ (↑(List.length (bD c)) : Int))) true (by ((try simp only [sL] at *); (try unfold big at *); omega)), .ret _ _ _ hr, tT, tT, tF, tC (decide_eq_false (Int.not_lt.2 n0)), tF, tF, tF, tT, tC (eF (nt (eTl (nt (eqI 0 false (by ((try simp only [sL] at *); (try unfold big at *); omega) : IrS.kind s = (5 : Int))))))), tC (eF (nt (eTl (nt (eqI 0 false (by ((try simp only [sL] at *); (try unfold big at *); omega) : IrS.kind s = (5 : Int))))))), tC (eF (nt (eTl (nt (eqI 0 false (by ((try simp only [sL] at *); (try unfold big at *); omega) : IrS.kind s = (5 : Int))))))), tF, tF, tF] ++ [tF, tC (eF (nt (eTl (nt (eqI 0 false (by ((try simp only [sL] at *); (try unfold big at *); omega) : IrS.kind s = (5 : Int))))))), tF, tC (nt (eTl (nt (eqI 0 false (by ((try simp only [sL] at *); (try unfold big at *); omega) : IrS.kind s = (5 : Int)))))), tT, tT, tT, tF, tC (eF (decide_eq_false (Int.not_lt.2 t0))), tC (eF (decide_eq_false (Int.not_lt.2 t0))), tC (eF (decide_eq_false (Int.not_lt.2 t0))), tC (eF (decide_eq_false (Int.not_lt.2 t0))), tC (eF (decide_eq_false (Int.not_lt.2 t0))), tC (decide_eq_false (Int.not_lt.2 t0)), tC (by ((try simp only [sL] at *); (try unfold big at *); omega) : (decide (IrS.to s ≥ (↑(List.length (intsD a)) : Int))) = false), tT] ++ [tT, tT, tT, tT, tT, tT, tT, tC (v := true) (leL 0 (decide_eq_false (Int.not_lt.2 t0))), .get _ _ _ hu, tT, tT, tT, tC (eF (nt (by ((try simp only [sL] at *); (try unfold big at *); omega) : (IntKind.wrap IntKind.i64 (IntKind.wrap IntKind.i64 (h + n) + v) == u) = true))), tC (eF (nt (by ((try simp only [sL] at *); (try unfold big at *); omega) : (IntKind.wrap IntKind.i64 (IntKind.wrap IntKind.i64 (h + n) + v) == u) = true))), tC (eF (nt (by ((try simp only [sL] at *); (try unfold big at *); omega) : (IntKind.wrap IntKind.i64 (IntKind.wrap IntKind.i64 (h + n) + v) == u) = true))), tC (eF (nt (by ((try simp only [sL] at *); (try unfold big at *); omega) : (IntKind.wrap IntKind.i64 (IntKind.wrap IntKind.i64 (h + n) + v) == u) = true)))] ++ [tC (eF (nt (by ((try simp only [sL] at *); (try unfold big at *); omega) : (IntKind.wrap IntKind.i64 (IntKind.wrap IntKind.i64 (h + n) + v) == u) = true))), tC (eF (nt (by ((try simp only [sL] at *); (try unfold big at *); omega) : (IntKind.wrap IntKind.i64 (IntKind.wrap IntKind.i64 (h + n) + v) == u) = true))), tC (eF (nt (by ((try simp only [sL] at *); (try unfold big at *); omega) : (IntKind.wrap IntKind.i64 (IntKind.wrap IntKind.i64 (h + n) + v) == u) = true))), tT, tC (nt (by ((try simp only [sL] at *); (try unfold big at *); omega) : (IntKind.wrap IntKind.i64 (IntKind.wrap IntKind.i64 (h + n) + v) == u) = true)), tT, tC (eF (nt (eTl (eqI 5 true (by ((try simp only [sL] at *); (try unfold big at *); omega) : IrS.kind s = (5 : Int)))))), tC (eF (nt (eTl (eqI 5 true (by ((try simp only [sL] at *); (try unfold big at *); omega) : IrS.kind s = (5 : Int)))))), tC (eF (nt (eTl (eqI 5 true (by ((try simp only [sL] at *); (try unfold big at *); omega) : IrS.kind s = (5 : Int)))))), tC (eF (nt (eTl (eqI 5 true (by ((try simp only [sL] at *); (try unfold big at *); omega) : IrS.kind s = (5 : Int)))))), tF, tF, tF, tF, tF, tF] ++ [tC (eF (nt (eTl (eqI 5 true (by ((try simp only [sL] at *); (try unfold big at *); omega) : IrS.kind s = (5 : Int)))))), tF, tT, tC (nt (eTl (eqI 5 true (by ((try simp only [sL] at *); (try unfold big at *); omega) : IrS.kind s = (5 : Int))))), tT, tF]) (by kernel_rfl)
theorem lj_g2 (l : List (List IrS)) (c a : List Int) (h b i : Int) (b0 : 0 ≤ b) (b1 : b ≤ 1000) (i0 : 0 ≤ i) (i1 : i ≤ 100000) (r : List IrS) (hb : (rwL l)[Int.toNat b]? = some (.lst .no 13 (irL r))) (hrl : ((irL r).length : Int) ≤ 100000) (hh : i < ((irL r).length : Int)) (s : IrS) (hs : (irL r)[Int.toNat i]? = some (IrS.d s)) (hk : s.kind = 5) (n w v u : Int) (hsk : ((irL r).length : Int) ≤ 1) (h0 : 0 ≤ h) (h1 : h ≤ 100000) (n0 : 1 ≤ n) (n1 : n ≤ 11) (hr : Ret Try.prog 19 [.lst .no 1 (List.drop (Int.toNat (if ((bD c).length : Int) < h then ((bD c).length : Int) else h)) (bD c))] (.tup [xD 28 w 0 0 0 0 v 0, .int .i64 n, .int .i64 0])) (t0 : 0 ≤ s.to) (t1 : s.to < ((intsD a).length : Int)) (hu : (intsD a)[Int.toNat s.to]? = some (.int .i64 u)) (v0 : -100000 ≤ v) (v1 : v ≤ 100000) (he : h + n + v = u)  : RoundRun Try.prog (loopB Try.f9 2) ⟨[1, 5, 6, 8, 13, 14], [], []⟩ 2 ((D.undef) :: (.lst .no 1 (rwL l)) :: (D.undef) :: (D.undef) :: (D.undef) :: (.lst .no 1 (bD c)) :: (.lst .no 1 (intsD a)) :: (D.undef) :: (.int .i64 h) :: (un 4 ++ (.int .i64 b) :: (.int .i64 i) :: (un 231))) [Ob.dead, Ob.dead] (Ex.norm) ((D.undef) :: (.lst .no 1 (rwL l)) :: (D.undef) :: (D.undef) :: (D.undef) :: (.lst .no 1 (bD c)) :: (.lst .no 1 (intsD a)) :: (D.undef) :: (.int .i64 (IntKind.wrap IntKind.i64 (h + n))) :: (un 4 ++ (.int .i64 b) :: (.int .i64 (IntKind.wrap IntKind.i64 (i + (1 : Int)))) :: (un 231))) ([Ob.dead, Ob.dead]) := by
 exact RoundRun.of_eval mixed ([tC (v := true) (leL 0 (decide_eq_false (Int.not_lt.2 b0))), .get _ _ _ hb, tC (by ((try simp only [sL] at *); (try unfold big at *); omega) : (decide (i < (↑(List.length (irL r)) : Int))) = true), tC (v := true) (leL 0 (decide_eq_false (Int.not_lt.2 b0))), .get _ _ _ hb, tC (v := true) (leL 0 (decide_eq_false (Int.not_lt.2 i0))), .get _ _ _ hs, tC (eT (eqI 5 true (by ((try simp only [sL] at *); (try unfold big at *); omega) : IrS.kind s = (5 : Int)))), tC (eT (eqI 5 true (by ((try simp only [sL] at *); (try unfold big at *); omega) : IrS.kind s = (5 : Int)))), tC (eT (eqI 5 true (by ((try simp only [sL] at *); (try unfold big at *); omega) : IrS.kind s = (5 : Int)))), tC (eT (eqI 5 true (by ((try simp only [sL] at *); (try unfold big at *); omega) : IrS.kind s = (5 : Int)))), tC (v := true) (leL 0 (decide_eq_false (Int.not_lt.2 b0))), .get _ _ _ hb, tC (eT (eqI 5 true (by ((try simp only [sL] at *); (try unfold big at *); omega) : IrS.kind s = (5 : Int)))), tC (eT (eqI 5 true (by ((try simp only [sL] at *); (try unfold big at *); omega) : IrS.kind s = (5 : Int)))), tC (eT (eqI 5 true (by ((try simp only [sL] at *); (try unfold big at *); omega) : IrS.kind s = (5 : Int))))] ++ [tC (eT (eqI 5 true (by ((try simp only [sL] at *); (try unfold big at *); omega) : IrS.kind s = (5 : Int)))), tC (eqI 5 true (by ((try simp only [sL] at *); (try unfold big at *); omega) : IrS.kind s = (5 : Int))), tC (eT (by ((try simp only [sL] at *); (try unfold big at *); omega) : (i == IntKind.wrap IntKind.i64 ((↑(List.length (irL r)) : Int) - (1 : Int))) = true)), tC (eT (by ((try simp only [sL] at *); (try unfold big at *); omega) : (i == IntKind.wrap IntKind.i64 ((↑(List.length (irL r)) : Int) - (1 : Int))) = true)), tC (eT (by ((try simp only [sL] at *); (try unfold big at *); omega) : (i == IntKind.wrap IntKind.i64 ((↑(List.length (irL r)) : Int) - (1 : Int))) = true)), tC (v := true) (leL 0 (decide_eq_false (Int.not_lt.2 b0))), .get _ _ _ hb, tC (eT (by ((try simp only [sL] at *); (try unfold big at *); omega) : (i == IntKind.wrap IntKind.i64 ((↑(List.length (irL r)) : Int) - (1 : Int))) = true)), tC (eT (by ((try simp only [sL] at *); (try unfold big at *); omega) : (i == IntKind.wrap IntKind.i64 ((↑(List.length (irL r)) : Int) - (1 : Int))) = true)), tC (eT (by ((try simp only [sL] at *); (try unfold big at *); omega) : (i == IntKind.wrap IntKind.i64 ((↑(List.length (irL r)) : Int) - (1 : Int))) = true)), tC (by ((try simp only [sL] at *); (try unfold big at *); omega) : (i == IntKind.wrap IntKind.i64 ((↑(List.length (irL r)) : Int) - (1 : Int))) = true), tC (eT (ltL 1 (decide_eq_true (Int.lt_add_one_of_le hsk)))), tC (eT (ltL 1 (decide_eq_true (Int.lt_add_one_of_le hsk)))), tC (eT (ltL 1 (decide_eq_true (Int.lt_add_one_of_le hsk)))), tC (eT (ltL 1 (decide_eq_true (Int.lt_add_one_of_le hsk)))), tC (eT (ltL 1 (decide_eq_true (Int.lt_add_one_of_le hsk))))] ++ [tC (ltL 1 (decide_eq_true (Int.lt_add_one_of_le hsk))), tF, .tst (decide (((0 : Int) ≤ if (↑(List.length (bD c)) : Int) < h then (↑(List.length (bD c)) : Int) else h) ∧ (if (↑(List.length (bD c)) : Int) < h then (↑(List.length (bD c)) : Int) else h) ≤ (↑(List.length (bD c)) : Int))) true (by ((try simp only [sL] at *); (try unfold big at *); omega)), .ret _ _ _ hr, tT, tT, tF, tC (decide_eq_false (Int.not_lt.2 n0)), tF, tF, tF, tT, tC (eF (nt (eTl (nt (eqI 0 false (by ((try simp only [sL] at *); (try unfold big at *); omega) : IrS.kind s = (5 : Int))))))), tC (eF (nt (eTl (nt (eqI 0 false (by ((try simp only [sL] at *); (try unfold big at *); omega) : IrS.kind s = (5 : Int))))))), tC (eF (nt (eTl (nt (eqI 0 false (by ((try simp only [sL] at *); (try unfold big at *); omega) : IrS.kind s = (5 : Int))))))), tF] ++ [tF, tF, tF, tC (eF (nt (eTl (nt (eqI 0 false (by ((try simp only [sL] at *); (try unfold big at *); omega) : IrS.kind s = (5 : Int))))))), tF, tC (nt (eTl (nt (eqI 0 false (by ((try simp only [sL] at *); (try unfold big at *); omega) : IrS.kind s = (5 : Int)))))), tT, tT, tT, tF, tC (eF (decide_eq_false (Int.not_lt.2 t0))), tC (eF (decide_eq_false (Int.not_lt.2 t0))), tC (eF (decide_eq_false (Int.not_lt.2 t0))), tC (eF (decide_eq_false (Int.not_lt.2 t0))), tC (eF (decide_eq_false (Int.not_lt.2 t0))), tC (decide_eq_false (Int.not_lt.2 t0))] ++ [tC (by ((try simp only [sL] at *); (try unfold big at *); omega) : (decide (IrS.to s ≥ (↑(List.length (intsD a)) : Int))) = false), tT, tT, tT, tT, tT, tT, tT, tT, tC (v := true) (leL 0 (decide_eq_false (Int.not_lt.2 t0))), .get _ _ _ hu, tT, tT, tT, tC (eF (nt (by ((try simp only [sL] at *); (try unfold big at *); omega) : (IntKind.wrap IntKind.i64 (IntKind.wrap IntKind.i64 (h + n) + v) == u) = true))), tC (eF (nt (by ((try simp only [sL] at *); (try unfold big at *); omega) : (IntKind.wrap IntKind.i64 (IntKind.wrap IntKind.i64 (h + n) + v) == u) = true)))] ++ [tC (eF (nt (by ((try simp only [sL] at *); (try unfold big at *); omega) : (IntKind.wrap IntKind.i64 (IntKind.wrap IntKind.i64 (h + n) + v) == u) = true))), tC (eF (nt (by ((try simp only [sL] at *); (try unfold big at *); omega) : (IntKind.wrap IntKind.i64 (IntKind.wrap IntKind.i64 (h + n) + v) == u) = true))), tC (eF (nt (by ((try simp only [sL] at *); (try unfold big at *); omega) : (IntKind.wrap IntKind.i64 (IntKind.wrap IntKind.i64 (h + n) + v) == u) = true))), tC (eF (nt (by ((try simp only [sL] at *); (try unfold big at *); omega) : (IntKind.wrap IntKind.i64 (IntKind.wrap IntKind.i64 (h + n) + v) == u) = true))), tC (eF (nt (by ((try simp only [sL] at *); (try unfold big at *); omega) : (IntKind.wrap IntKind.i64 (IntKind.wrap IntKind.i64 (h + n) + v) == u) = true))), tT, tC (nt (by ((try simp only [sL] at *); (try unfold big at *); omega) : (IntKind.wrap IntKind.i64 (IntKind.wrap IntKind.i64 (h + n) + v) == u) = true)), tT, tC (eF (nt (eTl (eqI 5 true (by ((try simp only [sL] at *); (try unfold big at *); omega) : IrS.kind s = (5 : Int)))))), tC (eF (nt (eTl (eqI 5 true (by ((try simp only [sL] at *); (try unfold big at *); omega) : IrS.kind s = (5 : Int)))))), tC (eF (nt (eTl (eqI 5 true (by ((try simp only [sL] at *); (try unfold big at *); omega) : IrS.kind s = (5 : Int)))))), tC (eF (nt (eTl (eqI 5 true (by ((try simp only [sL] at *); (try unfold big at *); omega) : IrS.kind s = (5 : Int)))))), tF, tF, tF, tF] ++ [tF, tF, tC (eF (nt (eTl (eqI 5 true (by ((try simp only [sL] at *); (try unfold big at *); omega) : IrS.kind s = (5 : Int)))))), tF, tT, tC (nt (eTl (eqI 5 true (by ((try simp only [sL] at *); (try unfold big at *); omega) : IrS.kind s = (5 : Int))))), tT, tF]) (by kernel_rfl)
theorem lj_g3 (l : List (List IrS)) (c a : List Int) (h b i : Int) (b0 : 0 ≤ b) (b1 : b ≤ 1000) (i0 : 0 ≤ i) (i1 : i ≤ 100000) (r : List IrS) (hb : (rwL l)[Int.toNat b]? = some (.lst .no 13 (irL r))) (hrl : ((irL r).length : Int) ≤ 100000) (hh : i < ((irL r).length : Int)) (s : IrS) (hs : (irL r)[Int.toNat i]? = some (IrS.d s)) (hk : s.kind = 5) (n w v u : Int) (hsk : i + 1 = ((irL r).length : Int)) (hs1 : 1 < ((irL r).length : Int)) (hs2 : s.to ≠ b + 1) (h0 : 0 ≤ h) (h1 : h ≤ 100000) (n0 : 1 ≤ n) (n1 : n ≤ 11) (hr : Ret Try.prog 19 [.lst .no 1 (List.drop (Int.toNat (if ((bD c).length : Int) < h then ((bD c).length : Int) else h)) (bD c))] (.tup [xD 28 w 0 0 0 0 v 0, .int .i64 n, .int .i64 0])) (t0 : 0 ≤ s.to) (t1 : s.to < ((intsD a).length : Int)) (hu : (intsD a)[Int.toNat s.to]? = some (.int .i64 u)) (v0 : -100000 ≤ v) (v1 : v ≤ 100000) (he : h + n + v = u)  : RoundRun Try.prog (loopB Try.f9 2) ⟨[1, 5, 6, 8, 13, 14], [], []⟩ 2 ((D.undef) :: (.lst .no 1 (rwL l)) :: (D.undef) :: (D.undef) :: (D.undef) :: (.lst .no 1 (bD c)) :: (.lst .no 1 (intsD a)) :: (D.undef) :: (.int .i64 h) :: (un 4 ++ (.int .i64 b) :: (.int .i64 i) :: (un 231))) [Ob.dead, Ob.dead] (Ex.norm) ((D.undef) :: (.lst .no 1 (rwL l)) :: (D.undef) :: (D.undef) :: (D.undef) :: (.lst .no 1 (bD c)) :: (.lst .no 1 (intsD a)) :: (D.undef) :: (.int .i64 (IntKind.wrap IntKind.i64 (h + n))) :: (un 4 ++ (.int .i64 b) :: (.int .i64 (IntKind.wrap IntKind.i64 (i + (1 : Int)))) :: (un 231))) ([Ob.dead, Ob.dead]) := by
 exact RoundRun.of_eval mixed ([tC (v := true) (leL 0 (decide_eq_false (Int.not_lt.2 b0))), .get _ _ _ hb, tC (by ((try simp only [sL] at *); (try unfold big at *); omega) : (decide (i < (↑(List.length (irL r)) : Int))) = true), tC (v := true) (leL 0 (decide_eq_false (Int.not_lt.2 b0))), .get _ _ _ hb, tC (v := true) (leL 0 (decide_eq_false (Int.not_lt.2 i0))), .get _ _ _ hs, tC (eT (eqI 5 true (by ((try simp only [sL] at *); (try unfold big at *); omega) : IrS.kind s = (5 : Int)))), tC (eT (eqI 5 true (by ((try simp only [sL] at *); (try unfold big at *); omega) : IrS.kind s = (5 : Int)))), tC (eT (eqI 5 true (by ((try simp only [sL] at *); (try unfold big at *); omega) : IrS.kind s = (5 : Int)))), tC (eT (eqI 5 true (by ((try simp only [sL] at *); (try unfold big at *); omega) : IrS.kind s = (5 : Int)))), tC (v := true) (leL 0 (decide_eq_false (Int.not_lt.2 b0))), .get _ _ _ hb, tC (eT (eqI 5 true (by ((try simp only [sL] at *); (try unfold big at *); omega) : IrS.kind s = (5 : Int)))), tC (eT (eqI 5 true (by ((try simp only [sL] at *); (try unfold big at *); omega) : IrS.kind s = (5 : Int)))), tC (eT (eqI 5 true (by ((try simp only [sL] at *); (try unfold big at *); omega) : IrS.kind s = (5 : Int))))] ++ [tC (eT (eqI 5 true (by ((try simp only [sL] at *); (try unfold big at *); omega) : IrS.kind s = (5 : Int)))), tC (eqI 5 true (by ((try simp only [sL] at *); (try unfold big at *); omega) : IrS.kind s = (5 : Int))), tC (eT (by ((try simp only [sL] at *); (try unfold big at *); omega) : (i == IntKind.wrap IntKind.i64 ((↑(List.length (irL r)) : Int) - (1 : Int))) = true)), tC (eT (by ((try simp only [sL] at *); (try unfold big at *); omega) : (i == IntKind.wrap IntKind.i64 ((↑(List.length (irL r)) : Int) - (1 : Int))) = true)), tC (eT (by ((try simp only [sL] at *); (try unfold big at *); omega) : (i == IntKind.wrap IntKind.i64 ((↑(List.length (irL r)) : Int) - (1 : Int))) = true)), tC (v := true) (leL 0 (decide_eq_false (Int.not_lt.2 b0))), .get _ _ _ hb, tC (eT (by ((try simp only [sL] at *); (try unfold big at *); omega) : (i == IntKind.wrap IntKind.i64 ((↑(List.length (irL r)) : Int) - (1 : Int))) = true)), tC (eT (by ((try simp only [sL] at *); (try unfold big at *); omega) : (i == IntKind.wrap IntKind.i64 ((↑(List.length (irL r)) : Int) - (1 : Int))) = true)), tC (eT (by ((try simp only [sL] at *); (try unfold big at *); omega) : (i == IntKind.wrap IntKind.i64 ((↑(List.length (irL r)) : Int) - (1 : Int))) = true)), tC (by ((try simp only [sL] at *); (try unfold big at *); omega) : (i == IntKind.wrap IntKind.i64 ((↑(List.length (irL r)) : Int) - (1 : Int))) = true), tC (eT (ltL 1 (decide_eq_false (by omega : ¬ (↑(List.length (irL r)) : Int) < 2)))), tC (eT (ltL 1 (decide_eq_false (by omega : ¬ (↑(List.length (irL r)) : Int) < 2)))), tC (eT (ltL 1 (decide_eq_false (by omega : ¬ (↑(List.length (irL r)) : Int) < 2)))), tC (eT (ltL 1 (decide_eq_false (by omega : ¬ (↑(List.length (irL r)) : Int) < 2)))), tC (eT (ltL 1 (decide_eq_false (by omega : ¬ (↑(List.length (irL r)) : Int) < 2))))] ++ [tC (ltL 1 (decide_eq_false (by omega : ¬ (↑(List.length (irL r)) : Int) < 2))), tC (by ((try simp only [sL] at *); (try unfold big at *); omega) : (IrS.to s == IntKind.wrap IntKind.i64 (b + (1 : Int))) = false), .tst (decide (((0 : Int) ≤ if (↑(List.length (bD c)) : Int) < h then (↑(List.length (bD c)) : Int) else h) ∧ (if (↑(List.length (bD c)) : Int) < h then (↑(List.length (bD c)) : Int) else h) ≤ (↑(List.length (bD c)) : Int))) true (by ((try simp only [sL] at *); (try unfold big at *); omega)), .ret _ _ _ hr, tT, tT, tF, tC (decide_eq_false (Int.not_lt.2 n0)), tF, tF, tF, tT, tC (eF (nt (eTl (nt (eqI 0 false (by ((try simp only [sL] at *); (try unfold big at *); omega) : IrS.kind s = (5 : Int))))))), tC (eF (nt (eTl (nt (eqI 0 false (by ((try simp only [sL] at *); (try unfold big at *); omega) : IrS.kind s = (5 : Int))))))), tC (eF (nt (eTl (nt (eqI 0 false (by ((try simp only [sL] at *); (try unfold big at *); omega) : IrS.kind s = (5 : Int))))))), tF] ++ [tF, tF, tF, tC (eF (nt (eTl (nt (eqI 0 false (by ((try simp only [sL] at *); (try unfold big at *); omega) : IrS.kind s = (5 : Int))))))), tF, tC (nt (eTl (nt (eqI 0 false (by ((try simp only [sL] at *); (try unfold big at *); omega) : IrS.kind s = (5 : Int)))))), tT, tT, tT, tF, tC (eF (decide_eq_false (Int.not_lt.2 t0))), tC (eF (decide_eq_false (Int.not_lt.2 t0))), tC (eF (decide_eq_false (Int.not_lt.2 t0))), tC (eF (decide_eq_false (Int.not_lt.2 t0))), tC (eF (decide_eq_false (Int.not_lt.2 t0))), tC (decide_eq_false (Int.not_lt.2 t0))] ++ [tC (by ((try simp only [sL] at *); (try unfold big at *); omega) : (decide (IrS.to s ≥ (↑(List.length (intsD a)) : Int))) = false), tT, tT, tT, tT, tT, tT, tT, tT, tC (v := true) (leL 0 (decide_eq_false (Int.not_lt.2 t0))), .get _ _ _ hu, tT, tT, tT, tC (eF (nt (by ((try simp only [sL] at *); (try unfold big at *); omega) : (IntKind.wrap IntKind.i64 (IntKind.wrap IntKind.i64 (h + n) + v) == u) = true))), tC (eF (nt (by ((try simp only [sL] at *); (try unfold big at *); omega) : (IntKind.wrap IntKind.i64 (IntKind.wrap IntKind.i64 (h + n) + v) == u) = true)))] ++ [tC (eF (nt (by ((try simp only [sL] at *); (try unfold big at *); omega) : (IntKind.wrap IntKind.i64 (IntKind.wrap IntKind.i64 (h + n) + v) == u) = true))), tC (eF (nt (by ((try simp only [sL] at *); (try unfold big at *); omega) : (IntKind.wrap IntKind.i64 (IntKind.wrap IntKind.i64 (h + n) + v) == u) = true))), tC (eF (nt (by ((try simp only [sL] at *); (try unfold big at *); omega) : (IntKind.wrap IntKind.i64 (IntKind.wrap IntKind.i64 (h + n) + v) == u) = true))), tC (eF (nt (by ((try simp only [sL] at *); (try unfold big at *); omega) : (IntKind.wrap IntKind.i64 (IntKind.wrap IntKind.i64 (h + n) + v) == u) = true))), tC (eF (nt (by ((try simp only [sL] at *); (try unfold big at *); omega) : (IntKind.wrap IntKind.i64 (IntKind.wrap IntKind.i64 (h + n) + v) == u) = true))), tT, tC (nt (by ((try simp only [sL] at *); (try unfold big at *); omega) : (IntKind.wrap IntKind.i64 (IntKind.wrap IntKind.i64 (h + n) + v) == u) = true)), tT, tC (eF (nt (eTl (eqI 5 true (by ((try simp only [sL] at *); (try unfold big at *); omega) : IrS.kind s = (5 : Int)))))), tC (eF (nt (eTl (eqI 5 true (by ((try simp only [sL] at *); (try unfold big at *); omega) : IrS.kind s = (5 : Int)))))), tC (eF (nt (eTl (eqI 5 true (by ((try simp only [sL] at *); (try unfold big at *); omega) : IrS.kind s = (5 : Int)))))), tC (eF (nt (eTl (eqI 5 true (by ((try simp only [sL] at *); (try unfold big at *); omega) : IrS.kind s = (5 : Int)))))), tF, tF, tF, tF] ++ [tF, tF, tC (eF (nt (eTl (eqI 5 true (by ((try simp only [sL] at *); (try unfold big at *); omega) : IrS.kind s = (5 : Int)))))), tF, tT, tC (nt (eTl (eqI 5 true (by ((try simp only [sL] at *); (try unfold big at *); omega) : IrS.kind s = (5 : Int))))), tT, tF]) (by kernel_rfl)
theorem lj_sx (l : List (List IrS)) (c a : List Int) (h b i : Int) (b0 : 0 ≤ b) (b1 : b ≤ 1000) (i0 : 0 ≤ i) (i1 : i ≤ 100000) (r : List IrS) (hb : (rwL l)[Int.toNat b]? = some (.lst .no 13 (irL r))) (hrl : ((irL r).length : Int) ≤ 100000) (hh : i < ((irL r).length : Int)) (s : IrS) (hs : (irL r)[Int.toNat i]? = some (IrS.d s)) (hk : s.kind = 0) (n : Int) (h0 : 0 ≤ h) (h1 : h ≤ 100000) (n0 : 1 ≤ n) (n1 : n ≤ 11) (hr : Ret Try.prog 19 [.lst .no 1 (List.drop (Int.toNat (if ((bD c).length : Int) < h then ((bD c).length : Int) else h)) (bD c))] (.tup [xD s.op s.w s.dst s.src s.base s.disp s.imm s.cc, .int .i64 n, .int .i64 0])) (j1 : s.op ≠ 28) (j2 : s.op ≠ 29) (hq : ((IrS.op s == (29 : Int)) == (IrS.kind s != (0 : Int))) = true) (t0 : 0 ≤ s.to) (t1 : s.to < ((intsD a).length : Int))  : RoundRun Try.prog (loopB Try.f9 2) ⟨[1, 5, 6, 8, 13, 14], [], []⟩ 2 ((D.undef) :: (.lst .no 1 (rwL l)) :: (D.undef) :: (D.undef) :: (D.undef) :: (.lst .no 1 (bD c)) :: (.lst .no 1 (intsD a)) :: (D.undef) :: (.int .i64 h) :: (un 4 ++ (.int .i64 b) :: (.int .i64 i) :: (un 231))) [Ob.dead, Ob.dead] (Ex.norm) ((D.undef) :: (.lst .no 1 (rwL l)) :: (D.undef) :: (D.undef) :: (D.undef) :: (.lst .no 1 (bD c)) :: (.lst .no 1 (intsD a)) :: (D.undef) :: (.int .i64 (IntKind.wrap IntKind.i64 (h + n))) :: (un 4 ++ (.int .i64 b) :: (.int .i64 (IntKind.wrap IntKind.i64 (i + (1 : Int)))) :: (un 231))) ([Ob.dead, Ob.dead]) := by
 exact RoundRun.of_eval mixed ([tC (v := true) (leL 0 (decide_eq_false (Int.not_lt.2 b0))), .get _ _ _ hb, tC (by ((try simp only [sL] at *); (try unfold big at *); omega) : (decide (i < (↑(List.length (irL r)) : Int))) = true), tC (v := true) (leL 0 (decide_eq_false (Int.not_lt.2 b0))), .get _ _ _ hb, tC (v := true) (leL 0 (decide_eq_false (Int.not_lt.2 i0))), .get _ _ _ hs, tC (eT (by ((try simp only [sL] at *); (try unfold big at *); omega) : (IrS.kind s == (5 : Int)) = false)), tC (eT (by ((try simp only [sL] at *); (try unfold big at *); omega) : (IrS.kind s == (5 : Int)) = false)), tC (eT (by ((try simp only [sL] at *); (try unfold big at *); omega) : (IrS.kind s == (5 : Int)) = false)), tC (eT (by ((try simp only [sL] at *); (try unfold big at *); omega) : (IrS.kind s == (5 : Int)) = false)), tC (eT (by ((try simp only [sL] at *); (try unfold big at *); omega) : (IrS.kind s == (5 : Int)) = false)), tC (eT (by ((try simp only [sL] at *); (try unfold big at *); omega) : (IrS.kind s == (5 : Int)) = false)), tC (eT (by ((try simp only [sL] at *); (try unfold big at *); omega) : (IrS.kind s == (5 : Int)) = false)), tC (eT (by ((try simp only [sL] at *); (try unfold big at *); omega) : (IrS.kind s == (5 : Int)) = false)), tC (by ((try simp only [sL] at *); (try unfold big at *); omega) : (IrS.kind s == (5 : Int)) = false)] ++ [tF, tF, tF, tF, tF, tF, tF, tF, tF, tF, tF, tF, tF, tF, .tst (decide (((0 : Int) ≤ if (↑(List.length (bD c)) : Int) < h then (↑(List.length (bD c)) : Int) else h) ∧ (if (↑(List.length (bD c)) : Int) < h then (↑(List.length (bD c)) : Int) else h) ≤ (↑(List.length (bD c)) : Int))) true (by ((try simp only [sL] at *); (try unfold big at *); omega)), .ret _ _ _ hr] ++ [tT, tT, tF, tC (decide_eq_false (Int.not_lt.2 n0)), tC (eF (by ((try simp only [sL] at *); (try unfold big at *); omega) : (IrS.op s == (28 : Int)) = false)), tC (eF (by ((try simp only [sL] at *); (try unfold big at *); omega) : (IrS.op s == (28 : Int)) = false)), tC (eF (by ((try simp only [sL] at *); (try unfold big at *); omega) : (IrS.op s == (28 : Int)) = false)), tC (by ((try simp only [sL] at *); (try unfold big at *); omega) : (IrS.op s == (28 : Int)) = false), tC (eF (nt hq)), tC (eF (nt hq)), tC (eF (nt hq)), tC (eT (nt (by ((try simp only [sL] at *); (try unfold big at *); omega) : (IrS.op s == (29 : Int)) = false))), tC (eT (nt (by ((try simp only [sL] at *); (try unfold big at *); omega) : (IrS.op s == (29 : Int)) = false))), tC (eT (nt (by ((try simp only [sL] at *); (try unfold big at *); omega) : (IrS.op s == (29 : Int)) = false))), tC (eT (nt (by ((try simp only [sL] at *); (try unfold big at *); omega) : (IrS.op s == (29 : Int)) = false))), .flat _ _ flat_X] ++ [tC (eF (nt hq)), tC (nt (by ((try simp only [sL] at *); (try unfold big at *); omega) : (IrS.op s == (29 : Int)) = false)), tC (nt hq), tC (eF (nt (andT (beq_self_eq_true (IrS.op s)) (andT (beq_self_eq_true (IrS.w s)) (andT (beq_self_eq_true (IrS.dst s)) (andT (beq_self_eq_true (IrS.src s)) (andT (beq_self_eq_true (IrS.base s)) (andT (beq_self_eq_true (IrS.disp s)) (andT (beq_self_eq_true (IrS.imm s)) (andT (beq_self_eq_true (IrS.cc s)) (rfl : true = true))))))))))), tC (eF (nt (andT (beq_self_eq_true (IrS.op s)) (andT (beq_self_eq_true (IrS.w s)) (andT (beq_self_eq_true (IrS.dst s)) (andT (beq_self_eq_true (IrS.src s)) (andT (beq_self_eq_true (IrS.base s)) (andT (beq_self_eq_true (IrS.disp s)) (andT (beq_self_eq_true (IrS.imm s)) (andT (beq_self_eq_true (IrS.cc s)) (rfl : true = true))))))))))), tC (eF (nt (andT (beq_self_eq_true (IrS.op s)) (andT (beq_self_eq_true (IrS.w s)) (andT (beq_self_eq_true (IrS.dst s)) (andT (beq_self_eq_true (IrS.src s)) (andT (beq_self_eq_true (IrS.base s)) (andT (beq_self_eq_true (IrS.disp s)) (andT (beq_self_eq_true (IrS.imm s)) (andT (beq_self_eq_true (IrS.cc s)) (rfl : true = true))))))))))), tC (nt (andT (beq_self_eq_true (IrS.op s)) (andT (beq_self_eq_true (IrS.w s)) (andT (beq_self_eq_true (IrS.dst s)) (andT (beq_self_eq_true (IrS.src s)) (andT (beq_self_eq_true (IrS.base s)) (andT (beq_self_eq_true (IrS.disp s)) (andT (beq_self_eq_true (IrS.imm s)) (andT (beq_self_eq_true (IrS.cc s)) (rfl : true = true)))))))))), tC (eF (decide_eq_false (Int.not_lt.2 t0))), tC (eF (decide_eq_false (Int.not_lt.2 t0))), tC (eF (decide_eq_false (Int.not_lt.2 t0))), tC (eF (decide_eq_false (Int.not_lt.2 t0))), tC (eF (decide_eq_false (Int.not_lt.2 t0))), tC (decide_eq_false (Int.not_lt.2 t0)), tC (by ((try simp only [sL] at *); (try unfold big at *); omega) : (decide (IrS.to s ≥ (↑(List.length (intsD a)) : Int))) = false), tC (eT (by ((try simp only [sL] at *); (try unfold big at *); omega) : (IrS.op s == (29 : Int)) = false)), tC (eT (by ((try simp only [sL] at *); (try unfold big at *); omega) : (IrS.op s == (29 : Int)) = false))] ++ [tC (eT (by ((try simp only [sL] at *); (try unfold big at *); omega) : (IrS.op s == (29 : Int)) = false)), tC (eT (by ((try simp only [sL] at *); (try unfold big at *); omega) : (IrS.op s == (29 : Int)) = false)), tC (eT (by ((try simp only [sL] at *); (try unfold big at *); omega) : (IrS.op s == (29 : Int)) = false)), tC (eT (by ((try simp only [sL] at *); (try unfold big at *); omega) : (IrS.op s == (29 : Int)) = false)), tC (eT (by ((try simp only [sL] at *); (try unfold big at *); omega) : (IrS.op s == (29 : Int)) = false)), tC (eT (by ((try simp only [sL] at *); (try unfold big at *); omega) : (IrS.op s == (29 : Int)) = false)), tC (eT (by ((try simp only [sL] at *); (try unfold big at *); omega) : (IrS.op s == (29 : Int)) = false)), tC (eT (by ((try simp only [sL] at *); (try unfold big at *); omega) : (IrS.op s == (29 : Int)) = false)), tC (eT (by ((try simp only [sL] at *); (try unfold big at *); omega) : (IrS.op s == (29 : Int)) = false)), tC (eT (by ((try simp only [sL] at *); (try unfold big at *); omega) : (IrS.op s == (29 : Int)) = false)), tC (eT (by ((try simp only [sL] at *); (try unfold big at *); omega) : (IrS.op s == (29 : Int)) = false)), tC (eT (by ((try simp only [sL] at *); (try unfold big at *); omega) : (IrS.op s == (29 : Int)) = false)), tC (by ((try simp only [sL] at *); (try unfold big at *); omega) : (IrS.op s == (29 : Int)) = false), tF]) (by kernel_rfl)
end Go.Proofs.Ytcngafhpodeenaa

namespace Go.Proofs.Ytcngafhpodeenaa
open Go Go.Ev
set_option maxRecDepth 100000
abbrev ljT (pro : List XS) (l : List (List IrS)) (c a : List Int) (h i : Int) : List D := ((.lst .no 8 (xsL pro)) :: (.lst .no 1 (rwL l)) :: (.undef) :: (.undef) :: (.undef) :: (.lst .no 1 (bD c)) :: (.lst .no 1 (intsD a)) :: (.undef) :: (.int .i64 h) :: (.int .i64 i) :: (un 236))
abbrev ljU (l : List (List IrS)) (c a : List Int) (h : Int) : List D := ((.undef) :: (.lst .no 1 (rwL l)) :: (.undef) :: (.undef) :: (.undef) :: (.lst .no 1 (bD c)) :: (.lst .no 1 (intsD a)) :: (.undef) :: (.int .i64 h) :: (un 237))
abbrev ljB (l : List (List IrS)) (c a : List Int) (h b : Int) : List D := ((.undef) :: (.lst .no 1 (rwL l)) :: (.undef) :: (.undef) :: (.undef) :: (.lst .no 1 (bD c)) :: (.lst .no 1 (intsD a)) :: (.undef) :: (.int .i64 h) :: (un 4 ++ (.int .i64 b) :: (un 232)))
abbrev ljS (l : List (List IrS)) (c a : List Int) (h b i : Int) : List D := ((.undef) :: (.lst .no 1 (rwL l)) :: (.undef) :: (.undef) :: (.undef) :: (.lst .no 1 (bD c)) :: (.lst .no 1 (intsD a)) :: (.undef) :: (.int .i64 h) :: (un 4 ++ (.int .i64 b) :: (.int .i64 i) :: (un 231)))
abbrev ljV (c : List Int) (h : Int) : List D := (un 5 ++ (.lst .no 1 (bD c)) :: (.undef) :: (.undef) :: (.int .i64 h) :: (un 237))
end Go.Proofs.Ytcngafhpodeenaa

namespace Go.Proofs.Ytcngafhpodeenaa
open Go Go.Ev
set_option maxRecDepth 100000
set_option maxHeartbeats 8000000
theorem lj_be (l : List (List IrS)) (c a : List Int) (h b : Int) (b0 : 0 ≤ b) (b1 : b ≤ 1000) (hh : ((rwL l).length : Int) ≤ b)  : RoundRun Try.prog (loopB Try.f9 1) ⟨[5, 8], [], []⟩ 2 ((D.undef) :: (.lst .no 1 (rwL l)) :: (D.undef) :: (D.undef) :: (D.undef) :: (.lst .no 1 (bD c)) :: (.lst .no 1 (intsD a)) :: (D.undef) :: (.int .i64 h) :: (un 4 ++ (.int .i64 b) :: (un 232))) [Ob.dead, Ob.dead] (Ex.exit (2 : Nat)) (un 5 ++ (.lst .no 1 (bD c)) :: (D.undef) :: (D.undef) :: (.int .i64 h) :: (un 237)) ([Ob.dead, Ob.dead]) := by
 exact RoundRun.of_eval mixed [tC (by ((try simp only [sL] at *); (try unfold big at *); omega) : (decide (b < (↑(List.length (rwL l)) : Int))) = false)] (by kernel_rfl)
theorem lj_bi (l : List (List IrS)) (c a : List Int) (h b : Int) (b0 : 0 ≤ b) (b1 : b ≤ 1000) (g : Int) (hh : b < ((rwL l).length : Int)) (hx : (intsD a)[Int.toNat b]? = some (.int .i64 h)) (hl : LoopRun Try.prog 2 (.loop (loopB Try.f9 2)) (ljS l c a h b 0) [.dead, .dead] (.exit 4) (ljB l c a g b) [.dead, .dead])  : RoundRun Try.prog (loopB Try.f9 1) ⟨[1, 5, 6, 8, 13], [], []⟩ 2 ((D.undef) :: (.lst .no 1 (rwL l)) :: (D.undef) :: (D.undef) :: (D.undef) :: (.lst .no 1 (bD c)) :: (.lst .no 1 (intsD a)) :: (D.undef) :: (.int .i64 h) :: (un 4 ++ (.int .i64 b) :: (un 232))) [Ob.dead, Ob.dead] (Ex.norm) ((D.undef) :: (.lst .no 1 (rwL l)) :: (D.undef) :: (D.undef) :: (D.undef) :: (.lst .no 1 (bD c)) :: (.lst .no 1 (intsD a)) :: (D.undef) :: (.int .i64 g) :: (un 4 ++ (.int .i64 (IntKind.wrap IntKind.i64 (b + (1 : Int)))) :: (un 232))) ([Ob.dead, Ob.dead]) := by
 have c0 := @run_id (nat_lit 2) _ (((D.undef) :: (.lst .no 1 (rwL l)) :: (D.undef) :: (D.undef) :: (D.undef) :: (.lst .no 1 (bD c)) :: (.lst .no 1 (intsD a)) :: (D.undef) :: (.int .i64 h) :: (un 4 ++ (.int .i64 b) :: (.int .i64 0) :: (un 231)))) ([Ob.dead, Ob.dead]) _ _ _ hl
 exact RoundRun.of_eval mixed [tC (by ((try simp only [sL] at *); (try unfold big at *); omega) : (decide (b < (↑(List.length (rwL l)) : Int))) = true), tC (v := true) (leL 0 (decide_eq_false (Int.not_lt.2 b0))), .get _ _ _ hx, tC (nt (beq_self_eq_true (h))), .head ⟨[1, 5, 6, 8, 13, 14], [], []⟩ _ _ _ _ _ _ _ c0] (by kernel_rfl)
theorem lj_great_ok (pro : List XS) (l : List (List IrS)) (hG : Ret Try.prog 24 [.lst .no 8 (xsL pro), .lst .no 1 (rwL l)] (.bool true))  : Ret Try.prog 9 ([.lst .no 8 (xsL pro), .lst .no 1 (rwL l)]) (.bool true) := by
 have c0 := @wakes24_ok
 exact (Ret.of_eval (d := .bool true) mixed Try.func9 (by kernel_rfl) [.ret _ _ _ hG, tT, .ret _ _ _ c0] (by kernel_rfl)).to (by first | rfl | (simp [wk]; done))
theorem lj_bad_ok (pro : List XS) (l : List (List IrS)) (e : Int) (he : e ≠ 0) (hG : Ret Try.prog 24 [.lst .no 8 (xsL pro), .lst .no 1 (rwL l)] (.bool false)) (r1 : Ret Try.prog 26 [.lst .no 8 (xsL pro), .lst .no 1 (rwL l)] (.tup [.lst .tight 0 [], .lst .tight 0 [], .int .i64 e]))  : Ret Try.prog 9 ([.lst .no 8 (xsL pro), .lst .no 1 (rwL l)]) (.bool true) := by
 have c0 := @wakes24_ok
 exact (Ret.of_eval (d := .bool true) mixed Try.func9 (by kernel_rfl) [.ret _ _ _ hG, tF, .ret _ _ _ r1, tC (nt (by ((try simp only [sL] at *); (try unfold big at *); omega) : (e == (0 : Int)) = false)), tT, tT, tT, tT, tT, .ret _ _ _ c0, tT] (by kernel_rfl)).to (by first | rfl | (simp [wk]; done))
theorem lj_ok_ok (pro : List XS) (l : List (List IrS)) (c a : List Int) (g : Int) (z : List XS) (hal : ((intsD a).length : Int) = ((rwL l).length : Int)) (hG : Ret Try.prog 24 [.lst .no 8 (xsL pro), .lst .no 1 (rwL l)] (.bool false)) (r1 : Ret Try.prog 26 [.lst .no 8 (xsL pro), .lst .no 1 (rwL l)] (.tup [.lst .no 1 (bD c), .lst .no 1 (intsD a), .int .i64 0])) (h0 : LoopRun Try.prog 2 (.loop (loopB Try.f9 0)) (ljT pro l c a 0 0) [.dead, .dead] (.exit 0) (ljU l c a g) [.dead, .dead]) (h1 : LoopRun Try.prog 2 (.loop (loopB Try.f9 1)) (ljB l c a g 0) [.dead, .dead] (.exit 2) (ljV c ((bD c).length : Int)) [.dead, .dead]) (hl : Ret Try.prog 32 [.lst .no 1 (bD c)] (.tup [.lst .no 8 (xsL z), .bool true]))  : Ret Try.prog 9 ([.lst .no 8 (xsL pro), .lst .no 1 (rwL l)]) (.bool true) := by
 have c0 := @run_id (nat_lit 2) _ (((.lst .no 8 (xsL pro)) :: (.lst .no 1 (rwL l)) :: (D.undef) :: (D.undef) :: (D.undef) :: (.lst .no 1 (bD c)) :: (.lst .no 1 (intsD a)) :: (D.undef) :: (.int .i64 0) :: (.int .i64 0) :: (un 236))) ([Ob.dead, Ob.dead]) _ _ _ h0
 have c1 := @run_id (nat_lit 2) _ (((D.undef) :: (.lst .no 1 (rwL l)) :: (D.undef) :: (D.undef) :: (D.undef) :: (.lst .no 1 (bD c)) :: (.lst .no 1 (intsD a)) :: (D.undef) :: (.int .i64 g) :: (un 4 ++ (.int .i64 0) :: (un 232)))) ([Ob.dead, Ob.dead]) _ _ _ h1
 have c2 := @wakes24_ok
 exact (Ret.of_eval (d := .bool true) mixed Try.func9 (by kernel_rfl) [.ret _ _ _ hG, tF, .ret _ _ _ r1, tF, tC (nt (by ((try simp only [sL] at *); (try unfold big at *); omega) : ((↑(List.length (intsD a)) : Int) == (↑(List.length (rwL l)) : Int)) = true)), .head ⟨[0, 1, 5, 6, 8, 9], [], []⟩ _ _ _ _ _ _ _ c0, .head ⟨[1, 5, 6, 8, 13], [], []⟩ _ _ _ _ _ _ _ c1, .ret _ _ _ hl, tC (eT (beq_self_eq_true ((↑(List.length (bD c)) : Int)))), tC (beq_self_eq_true ((↑(List.length (bD c)) : Int))), tT, .ret _ _ _ c2, tT] (by kernel_rfl)).to (by first | rfl | (simp [wk]; done))
end Go.Proofs.Ytcngafhpodeenaa

namespace Go.Ev
open Go
structure SameP (p r : PaS) : Prop where
  j : r.j = p.j
  to : r.to = p.to
  no : p.j = false → r = p
  yes : p.j = true → r.x.op = p.x.op ∧ r.x.cc = p.x.cc ∧ r.x.dst = p.x.dst ∧ r.x.src = p.x.src ∧ r.x.base = p.x.base ∧ r.x.disp = p.x.disp
theorem SameP.rfl' (p : PaS) : SameP p p := ⟨rfl, rfl, fun _ => rfl, fun _ => ⟨rfl, rfl, rfl, rfl, rfl, rfl⟩⟩
theorem SameP.trans {p r s : PaS} (h : SameP p r) (k : SameP r s) : SameP p s := by
 refine ⟨k.j.trans h.j, k.to.trans h.to, fun e => ?_, fun e => ?_⟩
 ·have := h.no e
  subst this
  exact k.no e
 ·obtain ⟨a1, a2, a3, a4, a5, a6⟩ := h.yes e
  obtain ⟨b1, b2, b3, b4, b5, b6⟩ := k.yes (h.j.trans e)
  exact ⟨b1.trans a1, b2.trans a2, b3.trans a3, b4.trans a4, b5.trans a5, b6.trans a6⟩
theorem SameP.stepJ (a q : List Int) (k : Nat) (p : PaS) : SameP p (stepJ a q k p) := by
 unfold Go.Ev.stepJ
 cases hj : p.j
 ·exact SameP.rfl' p
 ·simp only [if_true]
  split
  ·exact ⟨rfl, rfl, (fun e => by rw [hj] at e; cases e), fun _ => ⟨rfl, rfl, rfl, rfl, rfl, rfl⟩⟩
  ·exact ⟨rfl, rfl, (fun e => by rw [hj] at e; cases e), fun _ => ⟨rfl, rfl, rfl, rfl, rfl, rfl⟩⟩
theorem SameP.stepW (a q : List Int) (k : Nat) (p : PaS) : SameP p (stepW a q k p) := by
 unfold Go.Ev.stepW
 cases hj : p.j
 ·exact SameP.rfl' p
 ·exact ⟨rfl, rfl, (fun e => by rw [hj] at e; cases e), fun _ => ⟨rfl, rfl, rfl, rfl, rfl, rfl⟩⟩
def SameL (l m : List PaS) : Prop := l.length = m.length ∧ ∀ (k : Nat) (p r : PaS), l[k]? = some p → m[k]? = some r → SameP p r
theorem jumpL_get (a q : List Int) : ∀ (l : List PaS) (k i : Nat), (jumpL a q k l)[i]? = (l[i]?).map (stepJ a q (k + i))
 | [], k, i => by simp [jumpL]
 | p :: r, k, 0 => by simp [jumpL]
 | p :: r, k, i + 1 => by
  simp only [jumpL, List.getElem?_cons_succ]
  rw [jumpL_get a q r (k + 1) i, show k + 1 + i = k + (i + 1) by omega]
theorem wayL_get (a q : List Int) : ∀ (l : List PaS) (k i : Nat), (wayL a q k l)[i]? = (l[i]?).map (stepW a q (k + i))
 | [], k, i => by simp [wayL]
 | p :: r, k, 0 => by simp [wayL]
 | p :: r, k, i + 1 => by
  simp only [wayL, List.getElem?_cons_succ]
  rw [wayL_get a q r (k + 1) i, show k + 1 + i = k + (i + 1) by omega]
theorem moreL_get (a q : List Int) : ∀ (l : List PaS) (k i : Nat) (p : PaS), moreL a q k l = false → l[i]? = some p → turnM a q (k + i) p = false
 | [], k, i, p, h, hp => by simp at hp
 | x :: r, k, 0, p, h, hp => by
  simp only [List.getElem?_cons_zero, Option.some.injEq] at hp
  subst hp
  simp only [moreL, Bool.or_eq_false_iff] at h
  exact h.1
 | x :: r, k, i + 1, p, h, hp => by
  simp only [List.getElem?_cons_succ] at hp
  simp only [moreL, Bool.or_eq_false_iff] at h
  have := moreL_get a q r (k + 1) i p h.2 hp
  rw [show k + (i + 1) = k + 1 + i by omega]
  exact this
def ImmZ (l : List PaS) : Prop := ∀ p ∈ l, p.j = true → p.x.imm = 0
theorem jumpL_immz (a q : List Int) : ∀ (l : List PaS) (k : Nat), ImmZ (jumpL a q k l)
 | [], k, p, h, _ => by cases h
 | x :: r, k, p, h, hj => by
  rcases List.mem_cons.1 h with rfl | h
  ·unfold stepJ at hj ⊢
   cases hx : x.j
   ·rw [hx] at hj
    simp only [Bool.false_eq_true, if_false] at hj
    rw [hx] at hj
    cases hj
   ·simp only [if_true]
    split <;> rfl
  ·exact jumpL_immz a q r (k + 1) p h hj
theorem relaxM_last (q : List Int) : ∀ (n : Nat) (ps : List PaS), shortN ps < n → AllJx ps → ImmZ ps →
  ∃ p0 : List PaS, relaxM q n ps = (jumpL (offM 0 p0) q 0 p0, offM 0 p0) ∧ moreL (offM 0 p0) q 0 p0 = false ∧ AllJx p0 ∧ ImmZ p0 ∧ SameL ps p0
 | 0, ps, h, _, _ => by omega
 | n + 1, ps, h, hj, hi => by
  simp only [relaxM]
  cases hm : moreL (offM 0 ps) q 0 ps
  ·simp only [Bool.false_eq_true, if_false]
   refine ⟨ps, rfl, hm, hj, hi, rfl, fun k p r h1 h2 => ?_⟩
   rw [h1] at h2
   cases h2
   exact SameP.rfl' p
  ·simp only [if_true]
   have hs := short_less (offM 0 ps) q ps 0
   rw [hm] at hs
   simp only [if_true] at hs
   obtain ⟨p0, h1, h2, h3, h4, h5, h6⟩ := relaxM_last q n (jumpL (offM 0 ps) q 0 ps) (by omega) (AllJx.jumpL _ _ _ hj) (jumpL_immz _ _ _ _)
   refine ⟨p0, h1, h2, h3, h4, by rw [← h5, jumpL_len], fun k p r g1 g2 => ?_⟩
   have e : (jumpL (offM 0 ps) q 0 ps)[k]? = some (stepJ (offM 0 ps) q k p) := by rw [jumpL_get, g1, Nat.zero_add]; rfl
   exact (SameP.stepJ _ q k p).trans (h6 k _ r e g2)
theorem jump_len {p : PaS} (h : JxOK p) (hj : p.j = true) (v : Int) (hm : mayXS (p.imm v).x = true) (hz : p.x.imm = 0) : lenP p = ((bytesXS (p.imm v).x).length : Int) := by
 have h0 := jump_may h hj (v := 0) (by decide) (by decide) (fun _ => by decide)
 obtain ⟨ho, hw, h1, h2, h3, h4⟩ := h.yes hj
 have e : (p.imm 0).x = p.x := by unfold PaS.imm; simp only; rw [← hz]
 rw [e] at h0
 unfold lenP lenX bytesL
 rw [show mayX p.x.op p.x.w p.x.dst p.x.src p.x.base p.x.disp p.x.imm p.x.cc = true from h0, if_pos rfl, len_bD]
 have e28 : shapeM 28 = 9 := by decide
 have e29 : shapeM 29 = 10 := by decide
 unfold bytesXS PaS.imm
 simp only
 rcases ho with ⟨ho, hc⟩ | ⟨ho, hc⟩ <;> rcases hw with hw | hw <;> simp [bytesM, ho, hw, e28, e29, fourM]
theorem fin_facts {q : List Int} {ps : List PaS} (hl : ps.length ≤ 2000) (hj : AllJx ps) (hz : ImmZ ps) :
  (∀ k, k ≤ ps.length → ((catM (((finM q ps).take k).map PaS.x)).length : Int) = atI (offF q ps) k) ∧
  ∀ (k : Nat) (p r : PaS), ps[k]? = some p → (finM q ps)[k]? = some r → SameP p r ∧ (p.j = true → r.x.imm = wayM (offF q ps) q k p.to ∧ -22000 ≤ r.x.imm ∧ r.x.imm ≤ 22000) := by
 obtain ⟨p0, h1, h2, h3, h4, h5, h6⟩ := relaxM_last q (shortN ps + 1) ps (by omega) hj hz
 have hoff : offF q ps = offM 0 p0 := by unfold offF; rw [h1]
 have hfin : finM q ps = wayL (offM 0 p0) q 0 (jumpL (offM 0 p0) q 0 p0) := by unfold finM; rw [h1]
 have hmy := finM_may hl hj (q := q)
 have hget : ∀ (k : Nat) (x : PaS), p0[k]? = some x → (finM q ps)[k]? = some (stepW (offM 0 p0) q k (stepJ (offM 0 p0) q k x)) := by
  intro k x hx
  rw [hfin, wayL_get, jumpL_get, hx, Nat.zero_add]
  rfl
 have hlen : ∀ (k : Nat) (x r : PaS), p0[k]? = some x → (finM q ps)[k]? = some r → lenP x = ((bytesXS r.x).length : Int) := by
  intro k x r hx hr
  have hr' := hget k x hx
  rw [hr] at hr'
  have hr2 := Option.some.inj hr'
  have hmr := hmy r (List.mem_of_getElem? hr)
  have hxj := h3 x (List.mem_of_getElem? hx)
  have ht := moreL_get _ q p0 0 k x h2 hx
  rw [Nat.zero_add] at ht
  cases hj' : x.j
  ·have e : r = x := by
    rw [hr2]
    unfold stepJ
    rw [hj']
    simp only [Bool.false_eq_true, if_false]
    unfold stepW
    rw [hj']
    rfl
   subst e
   have hm' := (hxj.no hj').1
   unfold lenP lenX bytesL
   rw [show mayX r.x.op r.x.w r.x.dst r.x.src r.x.base r.x.disp r.x.imm r.x.cc = true from hm', if_pos rfl, len_bD]
   rfl
  ·have e : r = x.imm (wayM (offM 0 p0) q k x.to) := by
    rw [hr2]
    unfold stepJ
    rw [hj', ht]
    simp only [Bool.false_eq_true, if_false, if_true]
    unfold stepW
    rw [show (x.imm 0).j = true from hj']
    rfl
   subst e
   exact jump_len hxj hj' _ hmr (h4 x (List.mem_of_getElem? hx) hj')
 have hfl : (finM q ps).length = p0.length := by rw [finM_len, h5]
 refine ⟨?_, ?_⟩
 ·intro k
  induction k with
  | zero => intro _; rw [hoff]; unfold atI; rw [List.getD_eq_getElem?_getD, offM_get _ _ _ (Nat.zero_le _)]; simp [catM, totM]
  | succ k ih =>
   intro hk
   have i := ih (by omega)
   have hkl : k < (finM q ps).length := by rw [finM_len]; omega
   have hk0 : k < p0.length := by omega
   have e1 := hlen k p0[k] (finM q ps)[k] (List.getElem?_eq_getElem hk0) (List.getElem?_eq_getElem hkl)
   rw [List.take_succ_eq_append_getElem hkl, List.map_append, catM_append, List.length_append, Int.natCast_add, i, hoff]
   unfold atI
   rw [List.getD_eq_getElem?_getD, List.getD_eq_getElem?_getD, offM_get _ _ _ (by omega), offM_get _ _ _ (by omega), List.take_succ_eq_append_getElem hk0, totM_app]
   simp only [Option.getD_some, List.map_cons, List.map_nil, catM, List.append_nil, totM]
   omega
 ·intro k p r hp hr
  have hk0 : k < p0.length := by
   obtain ⟨hk1, _⟩ := List.getElem?_eq_some_iff.1 hp
   omega
  have hx := List.getElem?_eq_getElem hk0
  have hs := h6 k p p0[k] hp hx
  have hr' := hget k p0[k] hx
  rw [hr] at hr'
  have hr2 := Option.some.inj hr'
  refine ⟨?_, fun hpj => ?_⟩
  ·rw [hr2]
   exact hs.trans ((SameP.stepJ _ q k _).trans (SameP.stepW _ q k _))
  ·have hj' : p0[k].j = true := hs.j.trans hpj
   have ht := moreL_get _ q p0 0 k p0[k] h2 hx
   rw [Nat.zero_add] at ht
   have e : r = p0[k].imm (wayM (offM 0 p0) q k p0[k].to) := by
    rw [hr2]
    unfold stepJ
    rw [hj', ht]
    simp only [Bool.false_eq_true, if_false, if_true]
    unfold stepW
    rw [show (p0[k].imm 0).j = true from hj']
    rfl
   have hw := wayM_rng (p0 := p0) (q := q) (k := k) (to := p.to) (by omega)
   rw [e, hs.to, hoff]
   exact ⟨rfl, hw⟩
theorem allP_app : ∀ (x y : List (List IrS)) (b : Int), allP b (x ++ y) = allP b x ++ allP (b + x.length) y
 | [], y, b => by simp [allP]
 | a :: x, y, b => by
  rw [List.cons_append, allP, allP, allP_app x y (b + 1), List.append_assoc]
  congr 3
  simp only [List.length_cons]
  omega
theorem blkG_app (n : Nat) (b : Int) : ∀ (x y : List IrS) (k : Nat), blkG n b k (x ++ y) = blkG n b k x ++ blkG n b (k + x.length) y
 | [], y, k => by simp [blkG]
 | a :: x, y, k => by
  rw [List.cons_append, blkG, blkG, blkG_app n b x y (k + 1), List.append_assoc]
  congr 3
  simp only [List.length_cons]
  omega
theorem mayL_to {s : IrS} {n : Int} (h : mayL s n = true) (hn : 1 ≤ n) : 0 ≤ s.to ∧ s.to < n := by
 rcases mayL_facts h with ⟨hk, _⟩ | ⟨_, _, h1, h2⟩ | ⟨_, h1, h2⟩
 ·unfold mayL at h
  rw [if_pos hk, Bool.and_eq_true, decide_eq_true_eq] at h
  have := h.1.2.2.2
  omega
 ·exact ⟨h1, h2⟩
 ·exact ⟨h1, h2⟩
theorem stepP_immz {n : Nat} {b : Int} {i : Nat} {s : IrS} : ImmZ (stepP n b i s) := by
 intro p hp hj
 unfold stepP at hp
 split at hp
 ·rw [List.mem_singleton] at hp; subst hp; cases hj
 ·split at hp
  ·rw [List.mem_singleton] at hp; subst hp; rfl
  ·split at hp
   ·rw [List.mem_singleton] at hp; subst hp; rfl
   ·cases hp
theorem blkG_immz (n : Nat) (b : Int) : ∀ (l : List IrS) (i : Nat), ImmZ (blkG n b i l)
 | [], i, p, hp, _ => by cases hp
 | s :: r, i, p, hp, hj => by
  rcases List.mem_append.1 hp with q | q
  ·exact stepP_immz p q hj
  ·exact blkG_immz n b r (i + 1) p q hj
theorem allP_immz : ∀ (l : List (List IrS)) (b : Int), ImmZ (allP b l)
 | [], b, p, hp, _ => by cases hp
 | r :: l, b, p, hp, hj => by
  rcases List.mem_append.1 hp with q | q
  ·exact blkG_immz _ b r 0 p q hj
  ·exact allP_immz l (b + 1) p q hj
theorem begP_get : ∀ (l : List (List IrS)) (k : Nat) (b : Int) (i : Nat), i < l.length → (begP k b l)[i]? = some (((k + (allP b (l.take i)).length : Nat) : Int))
 | [], k, b, i, h => by simp at h
 | r :: l, k, b, 0, h => by simp [begP, allP]
 | r :: l, k, b, i + 1, h => by
  simp only [begP, List.getElem?_cons_succ, List.take_succ_cons, allP, List.length_append]
  rw [begP_get l _ (b + 1) i (by simpa using h), Nat.add_assoc]
end Go.Ev

namespace Go.Proofs.Ytcngafhpodeenaa
open Go Go.Ev
set_option maxRecDepth 100000
structure Laid (pro : List XS) (l : List (List IrS)) : Prop where
  b : BlkIn pro l
  g : Good pro l
  n : pro.length + sumL l ≤ 2000
def finF (pro : List XS) (l : List (List IrS)) : List PaS := finM (begF pro l) (parF pro l)
def standF (pro : List XS) (l : List (List IrS)) (k : Nat) : Nat := (catM (((finF pro l).take k).map PaS.x)).length
theorem parF_immz (pro : List XS) (l : List (List IrS)) : ImmZ (parF pro l) := by
 intro p hp hj
 unfold parF preP at hp
 rcases List.mem_append.1 hp with q | q
 ·rw [noJ_pro pro p q] at hj; cases hj
 ·exact allP_immz _ 0 p q hj
theorem ld_facts {pro : List XS} {l : List (List IrS)} (h : Laid pro l) :
  (∀ k, k ≤ (parF pro l).length → (standF pro l k : Int) = atI (offF (begF pro l) (parF pro l)) k) ∧
  ∀ (k : Nat) (p r : PaS), (parF pro l)[k]? = some p → (finF pro l)[k]? = some r → SameP p r ∧ (p.j = true → r.x.imm = wayM (offF (begF pro l) (parF pro l)) (begF pro l) k p.to ∧ -22000 ≤ r.x.imm ∧ r.x.imm ≤ 22000) :=
 fin_facts (parF_len h.n) (good_all h.g).2 (parF_immz pro l)
theorem ld_may {pro : List XS} {l : List (List IrS)} (h : Laid pro l) : ∀ x ∈ (finF pro l).map PaS.x, mayXS x = true := by
 intro x hx
 obtain ⟨p, hp, rfl⟩ := List.mem_map.1 hx
 exact finM_may (parF_len h.n) (good_all h.g).2 p hp
theorem finF_len (pro : List XS) (l : List (List IrS)) : (finF pro l).length = (parF pro l).length := finM_len _ _
theorem stand_next {pro : List XS} {l : List (List IrS)} {k : Nat} {r : PaS} (hr : (finF pro l)[k]? = some r) : standF pro l (k + 1) = standF pro l k + (bytesXS r.x).length := by
 obtain ⟨hk, e⟩ := List.getElem?_eq_some_iff.1 hr
 unfold standF
 rw [List.take_succ_eq_append_getElem hk, List.map_append, catM_append, List.length_append, e]
 simp [catM]
theorem code_stand (pro : List XS) (l : List (List IrS)) (k : Nat) : (codeF pro l).drop (standF pro l k) = catM (((finF pro l).drop k).map PaS.x) := by
 unfold codeF standF
 have e : finM (begF pro l) (parF pro l) = (finF pro l).take k ++ (finF pro l).drop k := (List.take_append_drop k _).symm
 rw [e, List.map_append, catM_append]
 exact List.drop_left
theorem stand_le (pro : List XS) (l : List (List IrS)) (k : Nat) : standF pro l k ≤ (codeF pro l).length := by
 have e : finM (begF pro l) (parF pro l) = (finF pro l).take k ++ (finF pro l).drop k := (List.take_append_drop k _).symm
 unfold codeF standF
 rw [e, List.map_append, catM_append, List.length_append]
 omega
theorem read_stand {pro : List XS} {l : List (List IrS)} (h : Laid pro l) {k : Nat} {r : PaS} (hr : (finF pro l)[k]? = some r) :
  Ret Try.prog 19 [.lst .no 1 (List.drop (Int.toNat (if ((bD (codeF pro l)).length : Int) < (standF pro l k : Int) then ((bD (codeF pro l)).length : Int) else (standF pro l k : Int))) (bD (codeF pro l)))] (.tup [xsD r.x, .int .i64 ((bytesXS r.x).length : Int), .int .i64 0]) := by
 have hle := stand_le pro l k
 obtain ⟨hk, e⟩ := List.getElem?_eq_some_iff.1 hr
 rw [len_bD, if_neg (by omega), Int.toNat_natCast, ← bD_drop, code_stand, List.drop_eq_getElem_cons hk, e, List.map_cons, catM]
 have hm := ld_may h r.x (List.mem_map.2 ⟨r, List.mem_of_getElem? hr, rfl⟩)
 have hrest : ∀ x ∈ ((finF pro l).drop (k + 1)).map PaS.x, mayXS x = true := by
  intro x hx
  obtain ⟨p, hp, rfl⟩ := List.mem_map.1 hx
  exact ld_may h p.x (List.mem_map.2 ⟨p, List.mem_of_mem_drop hp, rfl⟩)
 have hb : isB (bytesXS r.x ++ catM (((finF pro l).drop (k + 1)).map PaS.x)) := by
  intro x hx
  rcases List.mem_append.1 hx with q | q
  ·exact bytesXS_isB hm x q
  ·exact catM_isB hrest x q
 have := read_any _ hb
 rw [read_back hm] at this
 exact this
theorem stand_rng {pro : List XS} {l : List (List IrS)} (h : Laid pro l) (k : Nat) : standF pro l k ≤ 22000 := Nat.le_trans (stand_le pro l k) (codeF_len h.n)
theorem stand_w {pro : List XS} {l : List (List IrS)} (h : Laid pro l) {k : Nat} {r : PaS} (hr : (finF pro l)[k]? = some r) : IntKind.i64.wrap ((standF pro l k : Int) + ((bytesXS r.x).length : Int)) = ((standF pro l (k + 1) : Nat) : Int) := by
 have h1 := stand_rng h k
 have h2 := bytes_len r.x
 rw [stand_next hr, w_i64]
 omega
theorem pro_part {pro : List XS} {l : List (List IrS)} (h : Laid pro l) {i : Nat} (hi : i < pro.length) : (finF pro l)[i]? = some (inP pro[i]) := by
 have hp : (parF pro l)[i]? = some (inP pro[i]) := by
  unfold parF preP
  rw [List.getElem?_append_left (by simpa using hi)]
  simp [hi]
 have hil : i < (finF pro l).length := by
  rw [finF_len]
  exact (List.getElem?_eq_some_iff.1 hp).1
 have hr := List.getElem?_eq_getElem hil
 have := ((ld_facts h).2 i _ _ hp hr).1.no rfl
 rw [hr, this]
theorem lj_pro {pro : List XS} {l : List (List IrS)} (h : Laid pro l) (a : List Int) : ∀ (m i : Nat), i + m = pro.length →
  Rounds Try.prog (loopB Try.f9 0) 2 (ljT pro l (codeF pro l) a (standF pro l i : Int) i) [.dead, .dead] (.exit 0) (ljU l (codeF pro l) a (standF pro l pro.length : Int)) [.dead, .dead]
 | 0, i, hi => by
  have e : i = pro.length := by omega
  subst e
  have := h.n
  exact Rounds.last (lj_pe pro l (codeF pro l) a _ _ (by omega) (by omega) (by rw [xsL_len]; omega)) (fun h => by cases h)
 | m + 1, i, hi => by
  have hlt : i < pro.length := by omega
  have hp := pro_part h hlt
  have hn := h.n
  have h1 := stand_rng h i
  have h2 := bytes_len (pro[i])
  have := lj_pi pro l (codeF pro l) a (standF pro l i : Int) i (by omega) (by omega) ((bytesXS pro[i]).length : Int) pro[i] (by rw [xsL_len]; omega) (by omega) (by omega) (by omega) (by omega) (by rw [Int.toNat_natCast]; exact xsL_get pro i hlt) (read_stand h hp)
  rw [show ((bytesXS pro[i]).length : Int) = ((bytesXS (inP pro[i]).x).length : Int) from rfl, stand_w h hp, nxt (by omega)] at this
  exact Rounds.more this (lj_pro h a m (i + 1) (by omega))
def partK (pro : List XS) (l : List (List IrS)) (b : Nat) (r : List IrS) (i : Nat) : Nat := (preP pro l b).length + (blkG r.length b 0 (r.take i)).length
theorem part_split {pro : List XS} {l : List (List IrS)} {b i : Nat} (hb : b < l.length) (hi : i < l[b].length) : ∃ X : List PaS, parF pro l = (preP pro l b ++ blkG l[b].length b 0 (l[b].take i)) ++ (stepP l[b].length b i l[b][i] ++ X) := by
 refine ⟨blkG l[b].length b (i + 1) (l[b].drop (i + 1)) ++ allP (b + 1) (l.drop (b + 1)), ?_⟩
 unfold parF preP
 rw [List.take_of_length_le (Nat.le_refl _)]
 have e1 : l = l.take b ++ l[b] :: l.drop (b + 1) := by rw [← List.drop_eq_getElem_cons hb, List.take_append_drop]
 have e2 : l[b] = l[b].take i ++ l[b][i] :: l[b].drop (i + 1) := by rw [← List.drop_eq_getElem_cons hi, List.take_append_drop]
 have e3 : blkP l[b] b = blkG l[b].length b 0 (l[b].take i) ++ (stepP l[b].length b i l[b][i] ++ blkG l[b].length b (i + 1) (l[b].drop (i + 1))) := by
  unfold blkP
  have e4 : blkG l[b].length b 0 l[b] = blkG l[b].length b 0 (l[b].take i ++ l[b][i] :: l[b].drop (i + 1)) := by rw [← e2]
  rw [e4, blkG_app, List.length_take, Nat.min_eq_left (by omega), Nat.zero_add]
  rfl
 have e5 : allP 0 l = allP 0 (l.take b) ++ (blkP l[b] b ++ allP (b + 1) (l.drop (b + 1))) := by
  have e6 : allP 0 l = allP 0 (l.take b ++ l[b] :: l.drop (b + 1)) := by rw [← e1]
  rw [e6, allP_app, List.length_take, Nat.min_eq_left (by omega), Int.zero_add]
  rfl
 rw [e5, e3]
 simp only [List.append_assoc]
theorem part_next {pro : List XS} {l : List (List IrS)} {b i : Nat} (r : List IrS) (hi : i < r.length) : partK pro l b r (i + 1) = partK pro l b r i + (stepP r.length b i r[i]).length := by
 unfold partK
 rw [List.take_succ_eq_append_getElem hi, blkG_snoc, List.length_append, List.length_take, Nat.min_eq_left (by omega), Nat.zero_add]
 omega
theorem step_part {pro : List XS} {l : List (List IrS)} (h : Laid pro l) {b i : Nat} (hb : b < l.length) (hi : i < l[b].length) {p : PaS} (hp : stepP l[b].length b i l[b][i] = [p]) :
  ∃ r : PaS, (finF pro l)[partK pro l b l[b] i]? = some r ∧ SameP p r ∧ (p.j = true → (standF pro l (partK pro l b l[b] i + 1) : Int) + r.x.imm = atI (offF (begF pro l) (parF pro l)) (atI (begF pro l) p.to.toNat).toNat ∧ -22000 ≤ r.x.imm ∧ r.x.imm ≤ 22000) := by
 obtain ⟨X, hX⟩ := part_split (pro := pro) hb hi
 have hk : (parF pro l)[partK pro l b l[b] i]? = some p := by
  rw [hX, hp, List.getElem?_append_right (by unfold partK; rw [List.length_append]; exact Nat.le_refl _)]
  unfold partK
  rw [List.length_append, Nat.sub_self]
  rfl
 have hkl := (List.getElem?_eq_some_iff.1 hk).1
 have hkf : partK pro l b l[b] i < (finF pro l).length := by rw [finF_len]; exact hkl
 have hr := List.getElem?_eq_getElem hkf
 obtain ⟨f1, f2⟩ := ld_facts h
 obtain ⟨s1, s2⟩ := f2 _ _ _ hk hr
 refine ⟨_, hr, s1, fun hj => ?_⟩
 obtain ⟨w1, w2, w3⟩ := s2 hj
 refine ⟨?_, w2, w3⟩
 rw [w1, f1 _ (by omega)]
 unfold wayM
 omega
theorem start_get {pro : List XS} {l : List (List IrS)} {t : Nat} (ht : t < l.length) : (startF pro l)[t]? = some (atI (offF (begF pro l) (parF pro l)) (atI (begF pro l) t).toNat) := by
 have hl := (good_beg pro l).1
 unfold startF
 rw [List.getElem?_map, List.getElem?_eq_getElem (by omega)]
 unfold atI
 rw [Option.map_some, List.getD_eq_getElem?_getD (l := begF pro l), List.getElem?_eq_getElem (by omega)]
 rfl
theorem startF_len (pro : List XS) (l : List (List IrS)) : (startF pro l).length = l.length := by
 unfold startF
 rw [List.length_map]
 exact (good_beg pro l).1
theorem lj_steps {pro : List XS} {l : List (List IrS)} (h : Laid pro l) {b : Nat} (hb : b < l.length) : ∀ (m i : Nat), i + m = l[b].length →
  Rounds Try.prog (loopB Try.f9 2) 2 (ljS l (codeF pro l) (startF pro l) (standF pro l (partK pro l b l[b] i) : Int) b i) [.dead, .dead] (.exit 4) (ljB l (codeF pro l) (startF pro l) (standF pro l (partK pro l b l[b] l[b].length) : Int) b) [.dead, .dead]
 | 0, i, hi => by
  have e : i = l[b].length := by omega
  subst e
  have hn := h.n
  have hm := sumL_mem (List.getElem_mem hb)
  have h64 := h.g.l64
  exact Rounds.last (lj_se l (codeF pro l) (startF pro l) _ b _ (by omega) (by omega) (by omega) (by omega) l[b] (by rw [Int.toNat_natCast]; exact rwL_get l b hb) (by rw [irL_len]; omega) (by rw [irL_len]; omega)) (fun h => by cases h)
 | m + 1, i, hi => by
  have hlt : i < l[b].length := by omega
  have ih := lj_steps h hb m (i + 1) (by omega)
  have hn := h.n
  have hm := sumL_mem (List.getElem_mem hb)
  have h64 := h.g.l64
  have h1 := h.g.l1
  have hmy := h.g.blk l[b] (List.getElem_mem hb) l[b][i] (List.getElem_mem hlt)
  obtain ⟨t0, t1⟩ := mayL_to hmy (by omega)
  have r0 := stand_rng h (partK pro l b l[b] i)
  have g1 : (rwL l)[Int.toNat (b : Int)]? = some (.lst .no 13 (irL l[b])) := by rw [Int.toNat_natCast]; exact rwL_get l b hb
  have g2 : ((irL l[b]).length : Int) ≤ 100000 := by rw [irL_len]; omega
  have g3 : (i : Int) < ((irL l[b]).length : Int) := by rw [irL_len]; omega
  have g4 : (irL l[b])[Int.toNat (i : Int)]? = some (IrS.d l[b][i]) := by rw [Int.toNat_natCast]; exact irL_get _ i hlt
  have g5 : l[b][i].to < ((intsD (startF pro l)).length : Int) := by rw [intsD_len, startF_len]; exact t1
  have hu : (intsD (startF pro l))[Int.toNat l[b][i].to]? = some (.int .i64 (atI (offF (begF pro l) (parF pro l)) (atI (begF pro l) l[b][i].to.toNat).toNat)) := intsD_get (start_get (by omega))
  rw [part_next l[b] hlt] at ih
  rcases mayL_facts hmy with ⟨hk, hx, j1, j2⟩ | ⟨hk, hc, _, _⟩ | ⟨hk, _, _⟩
  ·have hs : stepP l[b].length b i l[b][i] = [inP l[b][i].x] := by unfold stepP; rw [if_pos hk]
   obtain ⟨r, hr, s1, _⟩ := step_part h hb hlt hs
   have er := s1.no rfl
   subst er
   have h2 := bytes_len (inP l[b][i].x).x
   have := lj_sx l (codeF pro l) (startF pro l) (standF pro l (partK pro l b l[b] i) : Int) b i (by omega) (by omega) (by omega) (by omega) l[b] g1 g2 g3 l[b][i] g4 hk ((bytesXS (inP l[b][i].x).x).length : Int) (by omega) (by omega) (by omega) (by omega) (read_stand h hr) j1 j2 (by rw [hk, beq_false_of_ne j2]; rfl) t0 g5
   rw [stand_w h hr, nxt (by omega)] at this
   rw [hs, List.length_singleton] at ih
   exact Rounds.more this ih
  ·have hs : stepP l[b].length b i l[b][i] = [jcP l[b][i].cc l[b][i].to] := by unfold stepP; rw [if_neg (by omega), if_pos hk]
   obtain ⟨r, hr, s1, s2⟩ := step_part h hb hlt hs
   obtain ⟨w1, w2, w3⟩ := s2 rfl
   obtain ⟨y1, y2, y3, y4, y5, y6⟩ := s1.yes rfl
   have ex : xsD r.x = xD 29 r.x.w 0 0 0 0 r.x.imm l[b][i].cc := by
    unfold xsD
    rw [y1, y2, y3, y4, y5, y6]
    rfl
   have hrd := read_stand h hr
   rw [ex] at hrd
   have h2 := bytes_len r.x
   have h3 := stand_next hr
   have := lj_sj l (codeF pro l) (startF pro l) (standF pro l (partK pro l b l[b] i) : Int) b i (by omega) (by omega) (by omega) (by omega) l[b] g1 g2 g3 l[b][i] g4 hk ((bytesXS r.x).length : Int) r.x.w r.x.imm _ (by omega) (by omega) (by omega) (by omega) hrd t0 g5 hu (by omega) (by omega) (by
    rw [h3] at w1
    have w1' : ((standF pro l (partK pro l b l[b] i) + (bytesXS r.x).length : Nat) : Int) + r.x.imm = atI (offF (begF pro l) (parF pro l)) (atI (begF pro l) l[b][i].to.toNat).toNat := w1
    omega)
   rw [stand_w h hr, nxt (by omega)] at this
   rw [hs, List.length_singleton] at ih
   exact Rounds.more this ih
  ·by_cases hsk : i = 0 ∨ i + 1 < l[b].length ∨ l[b][i].to ≠ (b : Int) + 1
   ·have hs : stepP l[b].length b i l[b][i] = [jmP l[b][i].to] := by unfold stepP; rw [if_neg (by omega), if_neg (by omega), if_pos hsk]
    obtain ⟨r, hr, s1, s2⟩ := step_part h hb hlt hs
    obtain ⟨w1, w2, w3⟩ := s2 rfl
    obtain ⟨y1, y2, y3, y4, y5, y6⟩ := s1.yes rfl
    have ex : xsD r.x = xD 28 r.x.w 0 0 0 0 r.x.imm 0 := by
     unfold xsD
     rw [y1, y2, y3, y4, y5, y6]
     rfl
    have hrd := read_stand h hr
    rw [ex] at hrd
    have h2 := bytes_len r.x
    have h3 := stand_next hr
    have he : (standF pro l (partK pro l b l[b] i) : Int) + ((bytesXS r.x).length : Int) + r.x.imm = atI (offF (begF pro l) (parF pro l)) (atI (begF pro l) l[b][i].to.toNat).toNat := by
     rw [h3] at w1
     have w1' : ((standF pro l (partK pro l b l[b] i) + (bytesXS r.x).length : Nat) : Int) + r.x.imm = atI (offF (begF pro l) (parF pro l)) (atI (begF pro l) l[b][i].to.toNat).toNat := w1
     omega
    rw [hs, List.length_singleton] at ih
    by_cases c1 : i + 1 < l[b].length
    ·have := lj_g1 l (codeF pro l) (startF pro l) (standF pro l (partK pro l b l[b] i) : Int) b i (by omega) (by omega) (by omega) (by omega) l[b] g1 g2 g3 l[b][i] g4 hk ((bytesXS r.x).length : Int) r.x.w r.x.imm _ (by rw [irL_len]; omega) (by omega) (by omega) (by omega) (by omega) hrd t0 g5 hu (by omega) (by omega) he
     rw [stand_w h hr, nxt (by omega)] at this
     exact Rounds.more this ih
    ·by_cases c2 : l[b].length ≤ 1
     ·have := lj_g2 l (codeF pro l) (startF pro l) (standF pro l (partK pro l b l[b] i) : Int) b i (by omega) (by omega) (by omega) (by omega) l[b] g1 g2 g3 l[b][i] g4 hk ((bytesXS r.x).length : Int) r.x.w r.x.imm _ (by rw [irL_len]; omega) (by omega) (by omega) (by omega) (by omega) hrd t0 g5 hu (by omega) (by omega) he
      rw [stand_w h hr, nxt (by omega)] at this
      exact Rounds.more this ih
     ·have c3 : l[b][i].to ≠ (b : Int) + 1 := by
       rcases hsk with q | q | q
       ·omega
       ·omega
       ·exact q
      have := lj_g3 l (codeF pro l) (startF pro l) (standF pro l (partK pro l b l[b] i) : Int) b i (by omega) (by omega) (by omega) (by omega) l[b] g1 g2 g3 l[b][i] g4 hk ((bytesXS r.x).length : Int) r.x.w r.x.imm _ (by rw [irL_len]; omega) (by rw [irL_len]; omega) c3 (by omega) (by omega) (by omega) (by omega) hrd t0 g5 hu (by omega) (by omega) he
      rw [stand_w h hr, nxt (by omega)] at this
      exact Rounds.more this ih
   ·have hs : stepP l[b].length b i l[b][i] = [] := by unfold stepP; rw [if_neg (by omega), if_neg (by omega), if_neg hsk]
    rw [hs, List.length_nil, Nat.add_zero] at ih
    have c1 : i ≠ 0 ∧ l[b].length ≤ i + 1 ∧ l[b][i].to = (b : Int) + 1 := by
     refine ⟨fun e => hsk (.inl e), ?_, ?_⟩
     ·rcases Nat.lt_or_ge (i + 1) l[b].length with q | q
      ·exact absurd (.inr (.inl q)) hsk
      ·exact q
     ·rcases Int.decEq l[b][i].to ((b : Int) + 1) with q | q
      ·exact absurd (.inr (.inr q)) hsk
      ·exact q
    have := lj_sk l (codeF pro l) (startF pro l) (standF pro l (partK pro l b l[b] i) : Int) b i (by omega) (by omega) (by omega) (by omega) l[b] g1 g2 g3 l[b][i] g4 hk (by rw [irL_len]; omega) (by rw [irL_len]; omega) c1.2.2
    rw [nxt (by omega)] at this
    exact Rounds.more this ih
theorem lj_blocks {pro : List XS} {l : List (List IrS)} (h : Laid pro l) : ∀ (m b : Nat), b + m = l.length →
  Rounds Try.prog (loopB Try.f9 1) 2 (ljB l (codeF pro l) (startF pro l) (standF pro l (preP pro l b).length : Int) b) [.dead, .dead] (.exit 2) (ljV (codeF pro l) ((bD (codeF pro l)).length : Int)) [.dead, .dead]
 | 0, b, hb => by
  have e : b = l.length := by omega
  subst e
  have h64 := h.g.l64
  have hs : standF pro l (preP pro l l.length).length = (codeF pro l).length := by
   unfold standF codeF finF
   rw [List.take_of_length_le (by rw [finM_len]; exact Nat.le_refl _)]
  rw [len_bD, ← hs]
  exact Rounds.last (lj_be l (codeF pro l) (startF pro l) _ _ (by omega) (by omega) (by rw [rwL_len]; omega)) (fun h => by cases h)
 | m + 1, b, hb => by
  have hlt : b < l.length := by omega
  have h64 := h.g.l64
  have ih := lj_blocks h m (b + 1) (by omega)
  have hsl := LoopRun.of_rounds (show 2 ≤ 2 by decide) (lj_steps h hlt l[b].length 0 (by omega))
  have e0 : partK pro l b l[b] 0 = (preP pro l b).length := by unfold partK; simp [blkG]
  have e1 : partK pro l b l[b] l[b].length = (preP pro l (b + 1)).length := by
   unfold partK
   rw [List.take_of_length_le (Nat.le_refl _), preP_next pro hlt, List.length_append]
   rfl
  rw [e0, e1] at hsl
  have hbg : atI (begF pro l) b = ((preP pro l b).length : Int) := by
   unfold begF preQ atI
   rw [List.take_of_length_le (Nat.le_refl _), List.getD_eq_getElem?_getD, begP_get l pro.length 0 b hlt]
   unfold preP
   rw [List.length_append, List.length_map]
   rfl
  have hst : (startF pro l)[b]? = some (standF pro l (preP pro l b).length : Int) := by
   rw [start_get hlt, hbg, Int.toNat_natCast, (ld_facts h).1 _ (by
    have hpre : (preP pro l b).length ≤ (parF pro l).length := by
     unfold parF preP
     rw [List.length_append, List.length_append, List.take_of_length_le (Nat.le_refl l.length)]
     have e5 : allP 0 l = allP 0 (l.take b ++ l.drop b) := by rw [List.take_append_drop]
     rw [e5, allP_app, List.length_append]
     omega
    exact hpre)]
  have := lj_bi l (codeF pro l) (startF pro l) (standF pro l (preP pro l b).length : Int) b (by omega) (by omega) (standF pro l (preP pro l (b + 1)).length : Int) (by rw [rwL_len]; omega) (by rw [Int.toNat_natCast]; exact intsD_get hst) hsl
  rw [nxt (by omega)] at this
  exact Rounds.more this ih
theorem jumps_any (pro : List XS) (l : List (List IrS)) (hx : AllX pro) (ho : ∀ r ∈ l, AllOk r) (hs : Sized pro l) : Ret Try.prog 9 [.lst .no 8 (xsL pro), .lst .no 1 (rwL l)] (.bool true) := by
 have hG := great_any hs
 cases hgr : (decide (2500 < sumG pro l) || decide (100 < ((rwL l).length : Int))) with
 | true => rw [hgr] at hG; exact lj_great_ok pro l hG
 | false =>
  rw [hgr] at hG
  have hb := not_great hx ho hgr
  have r1 := run_any hb
  unfold runD at r1
  by_cases g1 : goodM pro l = true
  ·rw [if_pos g1] at r1
   by_cases n1 : pro.length + sumL l ≤ 2000 ∧ totF pro l ≤ 16384
   ·rw [if_pos n1] at r1
    have h : Laid pro l := ⟨hb, good_iff.1 g1, n1.1⟩
    have hmy := ld_may h
    have hcl := codeF_len n1.1
    have hc : codeF pro l = catM ((finF pro l).map PaS.x) := rfl
    have hl := ll_any (codeF pro l) (by rw [hc]; exact catM_isB hmy) (by omega)
    have hcp := (catM_len ((finF pro l).map PaS.x)).1
    rw [hc, listM_cat _ _ hmy (by omega), ← hc] at hl
    have h0 := LoopRun.of_rounds (show 2 ≤ 2 by decide) (lj_pro h (startF pro l) pro.length 0 (by omega))
    have h1 := LoopRun.of_rounds (show 2 ≤ 2 by decide) (lj_blocks h l.length 0 (by omega))
    have e0 : standF pro l 0 = 0 := rfl
    have e1 : (preP pro l 0).length = pro.length := by unfold preP; simp [allP]
    rw [e0] at h0
    rw [e1] at h1
    exact lj_ok_ok pro l (codeF pro l) (startF pro l) _ _ (by rw [intsD_len, startF_len, rwL_len]) hG r1 h0 h1 hl
   ·rw [if_neg n1] at r1
    exact lj_bad_ok pro l 3 (by decide) hG r1
  ·rw [if_neg g1] at r1
   exact lj_bad_ok pro l 2 (by decide) hG r1
end Go.Proofs.Ytcngafhpodeenaa
