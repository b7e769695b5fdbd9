/- Contracts and plain laws that a statement's proof leans on (texts merged: FE7i, FE7n, FE8A). -/
import Derived.Test.YtkpneibifdoecaaGreatT04
import Derived.Test.YtkpneibifdoecaaGreatT05
import Derived.Test.YtkpneibifdoecaaGreatT13
set_option linter.unusedVariables false
set_option linter.unusedSimpArgs false
namespace Go.Proofs.YtkpneibifdoecaaGreat
open Go Go.Ev
set_option maxRecDepth 100000
set_option maxHeartbeats 8000000
theorem fe_y220_ok (p : PlS) (r m1 m2 : MachS) (xs ys cs1 : List D) (x2 : (xs.length : Int) ≤ 10) (hcl : cs1.length = 11) (hcs : ∀ c ∈ cs1, c.clean = true) (hm : p.may = true) (hap : p.apart = true) (s0 : 0 ≤ p.sp) (s1 : p.sp ≤ 11) (y1 : 1 ≤ (ys.length : Int)) (y2 : (ys.length : Int) ≤ 10) (hP : Ret Tryz.prog 21 [.agg (plC p)] (.tup [.lst .no 8 xs, .int .i64 0])) (hX : Ret Tryz.prog 19 [.agg (plC p)] (.tup [.lst .no 8 ys, .int .i64 0])) (hI : LoopRun Tryz.prog 9 (.loop (loopB Tryz.f26 0)) (fT7 xs) (fS7 p r sl0C (m0C r) zeC) (.exit 0) dnU (fS7 p r cs1 (maC m1) zeC)) (hJ : LoopRun Tryz.prog 19 (.loop (loopB Tryz.f26 0)) (fT17 ys) (fS17 r (List.map D.demote cs1) (maC m1) zeC) .ret d17R (fS17 r cs1 (maC m2) (maC m2))) (ha : (p.k 1 == 2) = true) (ga : (p.k 1 == 1) = false) (za : (p.k 1 == 0) = false) (ba : 0 ≤ p.n 1) (da : p.n 1 < 11) (hb : (p.k 10 == 2) = true) (gb : (p.k 10 == 1) = false) (zb : (p.k 10 == 0) = false) (bb : 0 ≤ p.n 10) (db : p.n 10 < 11) (hc : (p.k 0 == 2) = false) (gc : (p.k 0 == 1) = false) (zc : (p.k 0 == 0) = true) (va : cs1[(p.n 1).toNat * 1]? = some (.int .u64 2097152)) (vb : cs1[(p.n 10).toNat * 1]? = some (.int .u64 3145792)) (e4 : (m1.q4 != IntKind.u64.wrap (r.q4 - IntKind.u64.wrap (IntKind.i64.wrap (8 * p.sp)))) = false) (e5 : (m2.q4 == r.q4) = true) (e6 : (m2.q0 == 0) = true) (hy : ys[Int.toNat (IntKind.i64.wrap ((ys.length : Int) - 1))]? = some (xD 30 0 0 0 0 0 0 0))  : Ret Tryz.prog 5 ([.agg (plC p), .agg (reC r)]) (.bool true) := by
 have c0 := @rMay_ok p
 have c1 := @ap_ok p
 have c2 := hI
 have c3 := @aSp_ok p hm
 have c4 := hJ
 have c5 := @wakes23_ok
 exact (o5 (d := .bool true) ([.ret _ _ _ hP, .ret _ _ _ hX, tT, tT, tF, tF, .ret _ _ _ c0] ++ List.replicate 3 (tC (eF (nt hm))) ++ [tC (nt hm), tC (eqG 0 (decide_eq_false (Int.not_lt.2 y1))), .ret _ _ _ c1, tC (nt hap), tT, .inl, .head ⟨[2, 4, 6, 14, 15, 16], [0, 1, 1000006, 7, 8], []⟩ _ _ _ _ _ _ _ c2, .cl ([.int .u64 0, .int .u64 0, .int .u64 0, .int .u64 0, .int .u64 0, .int .u64 0, .int .u64 0, .int .u64 0, .int .u64 0, .int .u64 0, .int .u64 0]) (by first | exact clAll rfl | exact hcs | exact rep_clean _), tT, tT, tT, tT, tT] ++ List.replicate 5 (tC (eT (nt (eqI 0 false (eq_of_beq ha))))) ++ [.inl, tC (eqI 1 false (eq_of_beq ha)), tC (eqI 2 true (eq_of_beq ha)), .tst (decide (0 ≤ PlS.n p 1 ∧ PlS.n p 1 < (↑(Int.toNat 11) : Int))) true (by ((try simp only [List.length_set, List.length_map, sl2] at *); (try unfold big at *); omega)), .get _ _ _ va, tC (eT (nt (eqI 0 false (eq_of_beq ha)))), tT, tC (nt (eqI 0 false (eq_of_beq ha))), tF, tT, tT, tT, tT, tT] ++ List.replicate 5 (tC (eT (nt (eqI 0 false (eq_of_beq hb))))) ++ [.inl, tC (eqI 1 false (eq_of_beq hb)), tC (eqI 2 true (eq_of_beq hb)), .tst (decide (0 ≤ PlS.n p 10 ∧ PlS.n p 10 < (↑(Int.toNat 11) : Int))) true (by ((try simp only [List.length_set, List.length_map, sl2] at *); (try unfold big at *); omega)), .get _ _ _ vb, tC (eT (nt (eqI 0 false (eq_of_beq hb)))), tT, tC (nt (eqI 0 false (eq_of_beq hb))), tF, tT, tT, tT, tT, tT, tT, tT, .ret _ _ _ c3, tT, tT, tT, tT, tF, tC e4, .inl, tC gc, tC hc, .inl, .head ⟨[2, 4, 6, 14, 15, 16], [1, 1000006, 17, 18], []⟩ _ _ _ _ _ _ _ c4, .cl cs1 (by first | exact clAll rfl | exact hcs | exact rep_clean _), tT, tT, tT, tT, tT, tT] ++ List.replicate 6 (tC (eT (eqI 0 true (eq_of_beq e6)))) ++ [tC (eqI 0 true (eq_of_beq e6))] ++ List.replicate 5 (tC (eT e5)) ++ [.tst (decide (0 ≤ IntKind.wrap IntKind.i64 ((↑(List.length ys) : Int) - 1))) true (by ((try simp only [List.length_set, List.length_map, sl2] at *); (try unfold big at *); omega)), .get _ _ _ hy, tC (eT e5), tC (eT e5), tC (eT e5), tC e5, tT, .ret _ _ _ c5, tT]) (by kernel_rfl)).to (by simp [wk])
theorem fe_y221_ok (p : PlS) (r m1 m2 : MachS) (xs ys cs1 : List D) (x2 : (xs.length : Int) ≤ 10) (hcl : cs1.length = 11) (hcs : ∀ c ∈ cs1, c.clean = true) (hm : p.may = true) (hap : p.apart = true) (s0 : 0 ≤ p.sp) (s1 : p.sp ≤ 11) (y1 : 1 ≤ (ys.length : Int)) (y2 : (ys.length : Int) ≤ 10) (hP : Ret Tryz.prog 21 [.agg (plC p)] (.tup [.lst .no 8 xs, .int .i64 0])) (hX : Ret Tryz.prog 19 [.agg (plC p)] (.tup [.lst .no 8 ys, .int .i64 0])) (hI : LoopRun Tryz.prog 9 (.loop (loopB Tryz.f26 0)) (fT7 xs) (fS7 p r sl0C (m0C r) zeC) (.exit 0) dnU (fS7 p r cs1 (maC m1) zeC)) (hJ : LoopRun Tryz.prog 19 (.loop (loopB Tryz.f26 0)) (fT17 ys) (fS17 r (List.map D.demote cs1) (maC m1) zeC) .ret d17R (fS17 r cs1 (maC m2) (maC m2))) (ha : (p.k 1 == 2) = true) (ga : (p.k 1 == 1) = false) (za : (p.k 1 == 0) = false) (ba : 0 ≤ p.n 1) (da : p.n 1 < 11) (hb : (p.k 10 == 2) = true) (gb : (p.k 10 == 1) = false) (zb : (p.k 10 == 0) = false) (bb : 0 ≤ p.n 10) (db : p.n 10 < 11) (hc : (p.k 0 == 2) = false) (gc : (p.k 0 == 1) = true) (zc : (p.k 0 == 0) = false) (bc : 0 ≤ p.n 0) (dc : p.n 0 ≤ 15) (va : cs1[(p.n 1).toNat * 1]? = some (.int .u64 2097152)) (vb : cs1[(p.n 10).toNat * 1]? = some (.int .u64 3145792)) (e4 : (m1.q4 != IntKind.u64.wrap (r.q4 - IntKind.u64.wrap (IntKind.i64.wrap (8 * p.sp)))) = false) (e5 : (m2.q4 == r.q4) = true) (e6 : (m2.q0 == rg m1.rl (p.n 0)) = true) (hy : ys[Int.toNat (IntKind.i64.wrap ((ys.length : Int) - 1))]? = some (xD 30 0 0 0 0 0 0 0))  : Ret Tryz.prog 5 ([.agg (plC p), .agg (reC r)]) (.bool true) := by
 have c0 := @rMay_ok p
 have c1 := @ap_ok p
 have c2 := hI
 have c3 := @aSp_ok p hm
 have c4 := hJ
 have c5 := @wakes23_ok
 exact (o5 (d := .bool true) ([.ret _ _ _ hP, .ret _ _ _ hX, tT, tT, tF, tF, .ret _ _ _ c0] ++ List.replicate 3 (tC (eF (nt hm))) ++ [tC (nt hm), tC (eqG 0 (decide_eq_false (Int.not_lt.2 y1))), .ret _ _ _ c1, tC (nt hap), tT, .inl, .head ⟨[2, 4, 6, 14, 15, 16], [0, 1, 1000006, 7, 8], []⟩ _ _ _ _ _ _ _ c2, .cl ([.int .u64 0, .int .u64 0, .int .u64 0, .int .u64 0, .int .u64 0, .int .u64 0, .int .u64 0, .int .u64 0, .int .u64 0, .int .u64 0, .int .u64 0]) (by first | exact clAll rfl | exact hcs | exact rep_clean _), tT, tT, tT, tT, tT] ++ List.replicate 5 (tC (eT (nt (eqI 0 false (eq_of_beq ha))))) ++ [.inl, tC (eqI 1 false (eq_of_beq ha)), tC (eqI 2 true (eq_of_beq ha)), .tst (decide (0 ≤ PlS.n p 1 ∧ PlS.n p 1 < (↑(Int.toNat 11) : Int))) true (by ((try simp only [List.length_set, List.length_map, sl2] at *); (try unfold big at *); omega)), .get _ _ _ va, tC (eT (nt (eqI 0 false (eq_of_beq ha)))), tT, tC (nt (eqI 0 false (eq_of_beq ha))), tF, tT, tT, tT, tT, tT] ++ List.replicate 5 (tC (eT (nt (eqI 0 false (eq_of_beq hb))))) ++ [.inl, tC (eqI 1 false (eq_of_beq hb)), tC (eqI 2 true (eq_of_beq hb)), .tst (decide (0 ≤ PlS.n p 10 ∧ PlS.n p 10 < (↑(Int.toNat 11) : Int))) true (by ((try simp only [List.length_set, List.length_map, sl2] at *); (try unfold big at *); omega)), .get _ _ _ vb, tC (eT (nt (eqI 0 false (eq_of_beq hb)))), tT, tC (nt (eqI 0 false (eq_of_beq hb))), tF, tT, tT, tT, tT, tT, tT, tT, .ret _ _ _ c3, tT, tT, tT, tT, tF, tC e4, .inl, tC (eqI 1 true (eq_of_beq gc)), .tst (decide (0 ≤ PlS.n p 0 ∧ PlS.n p 0 < (↑(16 : Nat) : Int))) true (by ((try simp only [List.length_set, List.length_map, sl2] at *); (try unfold big at *); omega)), .get _ _ _ (@get_regm m1 (PlS.n p 0) ([.bool (MachS.fk m1), .bool (MachS.fc m1), .bool (MachS.fz m1), .bool (MachS.fs m1), .bool (MachS.fo m1), .int .u64 (MachS.pc m1)]) bc dc), .inl, .head ⟨[2, 4, 6, 14, 15, 16], [1, 1000006, 17, 18], []⟩ _ _ _ _ _ _ _ c4, .cl cs1 (by first | exact clAll rfl | exact hcs | exact rep_clean _), tT, tT, tT, tT, tT, tT] ++ List.replicate 6 (tC (eT e6)) ++ [tC e6] ++ List.replicate 5 (tC (eT e5)) ++ [.tst (decide (0 ≤ IntKind.wrap IntKind.i64 ((↑(List.length ys) : Int) - 1))) true (by ((try simp only [List.length_set, List.length_map, sl2] at *); (try unfold big at *); omega)), .get _ _ _ hy, tC (eT e5), tC (eT e5), tC (eT e5), tC e5, tT, .ret _ _ _ c5, tT]) (by kernel_rfl)).to (by simp [wk])
theorem fe_y222_ok (p : PlS) (r m1 m2 : MachS) (xs ys cs1 : List D) (x2 : (xs.length : Int) ≤ 10) (hcl : cs1.length = 11) (hcs : ∀ c ∈ cs1, c.clean = true) (hm : p.may = true) (hap : p.apart = true) (s0 : 0 ≤ p.sp) (s1 : p.sp ≤ 11) (y1 : 1 ≤ (ys.length : Int)) (y2 : (ys.length : Int) ≤ 10) (hP : Ret Tryz.prog 21 [.agg (plC p)] (.tup [.lst .no 8 xs, .int .i64 0])) (hX : Ret Tryz.prog 19 [.agg (plC p)] (.tup [.lst .no 8 ys, .int .i64 0])) (hI : LoopRun Tryz.prog 9 (.loop (loopB Tryz.f26 0)) (fT7 xs) (fS7 p r sl0C (m0C r) zeC) (.exit 0) dnU (fS7 p r cs1 (maC m1) zeC)) (hJ : LoopRun Tryz.prog 19 (.loop (loopB Tryz.f26 0)) (fT17 ys) (fS17 r (List.map D.demote cs1) (maC m1) zeC) .ret d17R (fS17 r cs1 (maC m2) (maC m2))) (ha : (p.k 1 == 2) = true) (ga : (p.k 1 == 1) = false) (za : (p.k 1 == 0) = false) (ba : 0 ≤ p.n 1) (da : p.n 1 < 11) (hb : (p.k 10 == 2) = true) (gb : (p.k 10 == 1) = false) (zb : (p.k 10 == 0) = false) (bb : 0 ≤ p.n 10) (db : p.n 10 < 11) (hc : (p.k 0 == 2) = true) (gc : (p.k 0 == 1) = false) (zc : (p.k 0 == 0) = false) (bc : 0 ≤ p.n 0) (dc : p.n 0 < 11) (va : cs1[(p.n 1).toNat * 1]? = some (.int .u64 2097152)) (vb : cs1[(p.n 10).toNat * 1]? = some (.int .u64 3145792)) (e4 : (m1.q4 != IntKind.u64.wrap (r.q4 - IntKind.u64.wrap (IntKind.i64.wrap (8 * p.sp)))) = false) (e5 : (m2.q4 == r.q4) = true) (v0 : Int) (vc : cs1[(p.n 0).toNat * 1]? = some (.int .u64 v0)) (e6 : (m2.q0 == v0) = true) (hy : ys[Int.toNat (IntKind.i64.wrap ((ys.length : Int) - 1))]? = some (xD 30 0 0 0 0 0 0 0))  : Ret Tryz.prog 5 ([.agg (plC p), .agg (reC r)]) (.bool true) := by
 have c0 := @rMay_ok p
 have c1 := @ap_ok p
 have c2 := hI
 have c3 := @aSp_ok p hm
 have c4 := hJ
 have c5 := @wakes23_ok
 exact (o5 (d := .bool true) ([.ret _ _ _ hP, .ret _ _ _ hX, tT, tT, tF, tF, .ret _ _ _ c0] ++ List.replicate 3 (tC (eF (nt hm))) ++ [tC (nt hm), tC (eqG 0 (decide_eq_false (Int.not_lt.2 y1))), .ret _ _ _ c1, tC (nt hap), tT, .inl, .head ⟨[2, 4, 6, 14, 15, 16], [0, 1, 1000006, 7, 8], []⟩ _ _ _ _ _ _ _ c2, .cl ([.int .u64 0, .int .u64 0, .int .u64 0, .int .u64 0, .int .u64 0, .int .u64 0, .int .u64 0, .int .u64 0, .int .u64 0, .int .u64 0, .int .u64 0]) (by first | exact clAll rfl | exact hcs | exact rep_clean _), tT, tT, tT, tT, tT] ++ List.replicate 5 (tC (eT (nt (eqI 0 false (eq_of_beq ha))))) ++ [.inl, tC (eqI 1 false (eq_of_beq ha)), tC (eqI 2 true (eq_of_beq ha)), .tst (decide (0 ≤ PlS.n p 1 ∧ PlS.n p 1 < (↑(Int.toNat 11) : Int))) true (by ((try simp only [List.length_set, List.length_map, sl2] at *); (try unfold big at *); omega)), .get _ _ _ va, tC (eT (nt (eqI 0 false (eq_of_beq ha)))), tT, tC (nt (eqI 0 false (eq_of_beq ha))), tF, tT, tT, tT, tT, tT] ++ List.replicate 5 (tC (eT (nt (eqI 0 false (eq_of_beq hb))))) ++ [.inl, tC (eqI 1 false (eq_of_beq hb)), tC (eqI 2 true (eq_of_beq hb)), .tst (decide (0 ≤ PlS.n p 10 ∧ PlS.n p 10 < (↑(Int.toNat 11) : Int))) true (by ((try simp only [List.length_set, List.length_map, sl2] at *); (try unfold big at *); omega)), .get _ _ _ vb, tC (eT (nt (eqI 0 false (eq_of_beq hb)))), tT, tC (nt (eqI 0 false (eq_of_beq hb))), tF, tT, tT, tT, tT, tT, tT, tT, .ret _ _ _ c3, tT, tT, tT, tT, tF, tC e4, .inl, tC (eqI 1 false (eq_of_beq hc)), tC (eqI 2 true (eq_of_beq hc)), .tst (decide (0 ≤ PlS.n p 0 ∧ PlS.n p 0 < (↑(Int.toNat 11) : Int))) true (by ((try simp only [List.length_set, List.length_map, sl2] at *); (try unfold big at *); omega)), .get _ _ _ vc, .inl, .head ⟨[2, 4, 6, 14, 15, 16], [1, 1000006, 17, 18], []⟩ _ _ _ _ _ _ _ c4, .cl cs1 (by first | exact clAll rfl | exact hcs | exact rep_clean _), tT, tT, tT, tT, tT, tT] ++ List.replicate 6 (tC (eT e6)) ++ [tC e6] ++ List.replicate 5 (tC (eT e5)) ++ [.tst (decide (0 ≤ IntKind.wrap IntKind.i64 ((↑(List.length ys) : Int) - 1))) true (by ((try simp only [List.length_set, List.length_map, sl2] at *); (try unfold big at *); omega)), .get _ _ _ hy, tC (eT e5), tC (eT e5), tC (eT e5), tC e5, tT, .ret _ _ _ c5, tT]) (by kernel_rfl)).to (by simp [wk])
end Go.Proofs.YtkpneibifdoecaaGreat

namespace Go.Proofs.YtkpneibifdoecaaGreat
open Go Go.Ev
set_option maxRecDepth 100000
set_option maxHeartbeats 8000000
theorem fe_n000_ok (p : PlS) (r m2 : MachS) (ys : List D) (hm : p.may = true) (hap : p.apart = true) (s0 : 0 ≤ p.sp) (s1 : p.sp ≤ 11) (y1 : 1 ≤ (ys.length : Int)) (y2 : (ys.length : Int) ≤ 10) (hP : Ret Tryz.prog 21 [.agg (plC p)] (.tup [.lst .tight 0 [], .int .i64 0])) (hX : Ret Tryz.prog 19 [.agg (plC p)] (.tup [.lst .no 8 ys, .int .i64 0])) (hJ : LoopRun Tryz.prog 15 (.loop (loopB Tryz.f26 0)) (fT13 ys) (fS13 r sl0C (m0C r) zeC) .ret d13R (fS13 r sl0C (maC m2) (maC m2))) (ha : (p.k 1 == 2) = false) (ga : (p.k 1 == 1) = false) (za : (p.k 1 == 0) = true) (hb : (p.k 10 == 2) = false) (gb : (p.k 10 == 1) = false) (zb : (p.k 10 == 0) = true) (hc : (p.k 0 == 2) = false) (gc : (p.k 0 == 1) = false) (zc : (p.k 0 == 0) = true) (e4 : (r.q4 != IntKind.u64.wrap (r.q4 - IntKind.u64.wrap (IntKind.i64.wrap (8 * p.sp)))) = false) (e5 : (m2.q4 == r.q4) = true) (e6 : (m2.q0 == 0) = true) (hy : ys[Int.toNat (IntKind.i64.wrap ((ys.length : Int) - 1))]? = some (xD 30 0 0 0 0 0 0 0))  : Ret Tryz.prog 5 ([.agg (plC p), .agg (reC r)]) (.bool true) := by
 have c0 := @rMay_ok p
 have c1 := @ap_ok p
 have c2 := @aSp_ok p hm
 have c3 := hJ
 have c4 := @wakes23_ok
 exact (o5 (d := .bool true) ([.ret _ _ _ hP, .ret _ _ _ hX, tT, tT, tF, tF, .ret _ _ _ c0] ++ List.replicate 3 (tC (eF (nt hm))) ++ [tC (nt hm), tC (eqG 0 (decide_eq_false (Int.not_lt.2 y1))), .ret _ _ _ c1, tC (nt hap), tT, .inl, .go 64, tF, tT, tT, tT, tT, tT] ++ List.replicate 6 (tC (eT (nt (eqI 0 true (eq_of_beq za))))) ++ [tT, tC (nt (eqI 0 true (eq_of_beq za))), tF, tT, tT, tT, tT, tT] ++ List.replicate 6 (tC (eT (nt (eqI 0 true (eq_of_beq zb))))) ++ [tT, tC (nt (eqI 0 true (eq_of_beq zb))), tF, tT, tT, tT, tT, tT, tT, tT, .ret _ _ _ c2, tT, tT, tT, tT, tF, tC e4, .inl, tC gc, tC hc, .inl, .head ⟨[2, 4, 6, 14, 15, 16], [1, 1000006, 13, 14], []⟩ _ _ _ _ _ _ _ c3, .cl ([.int .u64 0, .int .u64 0, .int .u64 0, .int .u64 0, .int .u64 0, .int .u64 0, .int .u64 0, .int .u64 0, .int .u64 0, .int .u64 0, .int .u64 0]) (by first | exact clAll rfl | exact hcs | exact rep_clean _), tT, tT, tT, tT, tT, tT] ++ List.replicate 6 (tC (eT (eqI 0 true (eq_of_beq e6)))) ++ [tC (eqI 0 true (eq_of_beq e6))] ++ List.replicate 5 (tC (eT e5)) ++ [.tst (decide (0 ≤ IntKind.wrap IntKind.i64 ((↑(List.length ys) : Int) - 1))) true (by ((try simp only [List.length_set, List.length_map, sl2] at *); (try unfold big at *); omega)), .get _ _ _ hy, tC (eT e5), tC (eT e5), tC (eT e5), tC e5, tT, .ret _ _ _ c4, tT]) (by kernel_rfl)).to (by simp [wk])
theorem fe_n001_ok (p : PlS) (r m2 : MachS) (ys : List D) (hm : p.may = true) (hap : p.apart = true) (s0 : 0 ≤ p.sp) (s1 : p.sp ≤ 11) (y1 : 1 ≤ (ys.length : Int)) (y2 : (ys.length : Int) ≤ 10) (hP : Ret Tryz.prog 21 [.agg (plC p)] (.tup [.lst .tight 0 [], .int .i64 0])) (hX : Ret Tryz.prog 19 [.agg (plC p)] (.tup [.lst .no 8 ys, .int .i64 0])) (hJ : LoopRun Tryz.prog 15 (.loop (loopB Tryz.f26 0)) (fT13 ys) (fS13 r sl0C (m0C r) zeC) .ret d13R (fS13 r sl0C (maC m2) (maC m2))) (ha : (p.k 1 == 2) = false) (ga : (p.k 1 == 1) = false) (za : (p.k 1 == 0) = true) (hb : (p.k 10 == 2) = false) (gb : (p.k 10 == 1) = false) (zb : (p.k 10 == 0) = true) (hc : (p.k 0 == 2) = false) (gc : (p.k 0 == 1) = true) (zc : (p.k 0 == 0) = false) (bc : 0 ≤ p.n 0) (dc : p.n 0 ≤ 15) (e4 : (r.q4 != IntKind.u64.wrap (r.q4 - IntKind.u64.wrap (IntKind.i64.wrap (8 * p.sp)))) = false) (e5 : (m2.q4 == r.q4) = true) (e6 : (m2.q0 == rg r.rl (p.n 0)) = true) (hy : ys[Int.toNat (IntKind.i64.wrap ((ys.length : Int) - 1))]? = some (xD 30 0 0 0 0 0 0 0))  : Ret Tryz.prog 5 ([.agg (plC p), .agg (reC r)]) (.bool true) := by
 have c0 := @rMay_ok p
 have c1 := @ap_ok p
 have c2 := @aSp_ok p hm
 have c3 := hJ
 have c4 := @wakes23_ok
 exact (o5 (d := .bool true) ([.ret _ _ _ hP, .ret _ _ _ hX, tT, tT, tF, tF, .ret _ _ _ c0] ++ List.replicate 3 (tC (eF (nt hm))) ++ [tC (nt hm), tC (eqG 0 (decide_eq_false (Int.not_lt.2 y1))), .ret _ _ _ c1, tC (nt hap), tT, .inl, .go 64, tF, tT, tT, tT, tT, tT] ++ List.replicate 6 (tC (eT (nt (eqI 0 true (eq_of_beq za))))) ++ [tT, tC (nt (eqI 0 true (eq_of_beq za))), tF, tT, tT, tT, tT, tT] ++ List.replicate 6 (tC (eT (nt (eqI 0 true (eq_of_beq zb))))) ++ [tT, tC (nt (eqI 0 true (eq_of_beq zb))), tF, tT, tT, tT, tT, tT, tT, tT, .ret _ _ _ c2, tT, tT, tT, tT, tF, tC e4, .inl, tC (eqI 1 true (eq_of_beq gc)), .tst (decide (0 ≤ PlS.n p 0 ∧ PlS.n p 0 < (↑(16 : Nat) : Int))) true (by ((try simp only [List.length_set, List.length_map, sl2] at *); (try unfold big at *); omega)), .get _ _ _ (@get_regm r (PlS.n p 0) ([.bool false, .bool false, .bool false, .bool false, .bool false, .int .u64 0]) bc dc), .inl, .head ⟨[2, 4, 6, 14, 15, 16], [1, 1000006, 13, 14], []⟩ _ _ _ _ _ _ _ c3, .cl ([.int .u64 0, .int .u64 0, .int .u64 0, .int .u64 0, .int .u64 0, .int .u64 0, .int .u64 0, .int .u64 0, .int .u64 0, .int .u64 0, .int .u64 0]) (by first | exact clAll rfl | exact hcs | exact rep_clean _), tT, tT, tT, tT, tT, tT] ++ List.replicate 6 (tC (eT e6)) ++ [tC e6] ++ List.replicate 5 (tC (eT e5)) ++ [.tst (decide (0 ≤ IntKind.wrap IntKind.i64 ((↑(List.length ys) : Int) - 1))) true (by ((try simp only [List.length_set, List.length_map, sl2] at *); (try unfold big at *); omega)), .get _ _ _ hy, tC (eT e5), tC (eT e5), tC (eT e5), tC e5, tT, .ret _ _ _ c4, tT]) (by kernel_rfl)).to (by simp [wk])
end Go.Proofs.YtkpneibifdoecaaGreat

namespace Go.Proofs.YtkpneibifdoecaaGreat
open Go Go.Ev
set_option maxRecDepth 100000
theorem w8 {n : Int} (h : 0 ≤ n ∧ n < 11) : IntKind.i64.wrap (8 * IntKind.i64.wrap n) = 8 * n := by rw [w_i64, w_i64]; omega
theorem pro_any (p : PlS) (hm : p.may = true) (s0 : 0 ≤ p.sp) (s1 : p.sp ≤ 11) : (proX p = [] ∧ p.sp ≤ 0 ∧ p.k 1 = 0 ∧ p.k 10 = 0 ∧ Ret Tryz.prog 21 [.agg (plC p)] (.tup [.lst .tight 0 [], .int .i64 0])) ∨ (Ret Tryz.prog 21 [.agg (plC p)] (.tup [.lst .no 8 ((proX p).map XS.d), .int .i64 0])) := by
 have w1 : IntKind.i64.wrap (8 * p.sp) = 8 * p.sp := by rw [w_i64]; omega
 have o1 := plOK_form (PlS.may_at hm (i := 1) (by decide) (by decide))
 have o10 := plOK_form (PlS.may_at hm (i := 10) (by decide) (by decide))
 by_cases hs : p.sp > 0
 ·rcases o1 with ⟨a, a2⟩ | ⟨a, a2⟩ | ⟨a, a2, a3⟩ <;> rcases o10 with ⟨b, b2⟩ | ⟨b, b2⟩ | ⟨b, b2, b3⟩
  ·have e : proX p = [⟨12, 64, 4, 0, 0, 0, 8 * p.sp, 0⟩] := by
    unfold proX setX
    simp [a, b, hs]
   have q := pro_p00_ok p hm s0 s1 hs (by simp [a]) (by simp [a]) (by simp [b]) (by simp [b])
   rw [w1] at q
   refine .inr ?_
   rw [e]
   exact q
  ·have e : proX p = [⟨12, 64, 4, 0, 0, 0, 8 * p.sp, 0⟩, putX (p.n 10) 3145792] := by
    unfold proX setX
    simp [a, b, hs]
   have q := pro_p01_ok p hm s0 s1 hs (by simp [a]) (by simp [a]) (by simp [b]) (by simp [b])
   rw [w1] at q
   refine .inr ?_
   rw [e]
   exact q
  ·have e : proX p = [⟨12, 64, 4, 0, 0, 0, 8 * p.sp, 0⟩, putX 0 3145792, storeX 0 (p.n 10)] := by
    unfold proX setX
    simp [a, b, hs]
   have q := pro_p02_ok p hm s0 s1 hs (by simp [a]) (by simp [a]) (by simp [b]) b2 b3
   rw [w1, w8 ⟨b2, b3⟩] at q
   refine .inr ?_
   rw [e]
   exact q
  ·have e : proX p = [⟨12, 64, 4, 0, 0, 0, 8 * p.sp, 0⟩, putX (p.n 1) 2097152] := by
    unfold proX setX
    simp [a, b, hs]
   have q := pro_p10_ok p hm s0 s1 hs (by simp [a]) (by simp [a]) (by simp [b]) (by simp [b])
   rw [w1] at q
   refine .inr ?_
   rw [e]
   exact q
  ·have e : proX p = [⟨12, 64, 4, 0, 0, 0, 8 * p.sp, 0⟩, putX (p.n 1) 2097152, putX (p.n 10) 3145792] := by
    unfold proX setX
    simp [a, b, hs]
   have q := pro_p11_ok p hm s0 s1 hs (by simp [a]) (by simp [a]) (by simp [b]) (by simp [b])
   rw [w1] at q
   refine .inr ?_
   rw [e]
   exact q
  ·have e : proX p = [⟨12, 64, 4, 0, 0, 0, 8 * p.sp, 0⟩, putX (p.n 1) 2097152, putX 0 3145792, storeX 0 (p.n 10)] := by
    unfold proX setX
    simp [a, b, hs]
   have q := pro_p12_ok p hm s0 s1 hs (by simp [a]) (by simp [a]) (by simp [b]) b2 b3
   rw [w1, w8 ⟨b2, b3⟩] at q
   refine .inr ?_
   rw [e]
   exact q
  ·have e : proX p = [⟨12, 64, 4, 0, 0, 0, 8 * p.sp, 0⟩, putX 0 2097152, storeX 0 (p.n 1)] := by
    unfold proX setX
    simp [a, b, hs]
   have q := pro_p20_ok p hm s0 s1 hs (by simp [a]) a2 a3 (by simp [b]) (by simp [b])
   rw [w1, w8 ⟨a2, a3⟩] at q
   refine .inr ?_
   rw [e]
   exact q
  ·have e : proX p = [⟨12, 64, 4, 0, 0, 0, 8 * p.sp, 0⟩, putX 0 2097152, storeX 0 (p.n 1), putX (p.n 10) 3145792] := by
    unfold proX setX
    simp [a, b, hs]
   have q := pro_p21_ok p hm s0 s1 hs (by simp [a]) a2 a3 (by simp [b]) (by simp [b])
   rw [w1, w8 ⟨a2, a3⟩] at q
   refine .inr ?_
   rw [e]
   exact q
  ·have e : proX p = [⟨12, 64, 4, 0, 0, 0, 8 * p.sp, 0⟩, putX 0 2097152, storeX 0 (p.n 1), putX 0 3145792, storeX 0 (p.n 10)] := by
    unfold proX setX
    simp [a, b, hs]
   have q := pro_p22_ok p hm s0 s1 hs (by simp [a]) a2 a3 (by simp [b]) b2 b3
   rw [w1, w8 ⟨a2, a3⟩, w8 ⟨b2, b3⟩] at q
   refine .inr ?_
   rw [e]
   exact q
 ·have hs : p.sp ≤ 0 := by omega
  rcases o1 with ⟨a, a2⟩ | ⟨a, a2⟩ | ⟨a, a2, a3⟩ <;> rcases o10 with ⟨b, b2⟩ | ⟨b, b2⟩ | ⟨b, b2, b3⟩
  ·have e : proX p = [] := by
    unfold proX setX
    simp [a, b, show ¬ (0 < p.sp) by omega]
   have q := pro_z00_ok p hm s0 s1 hs (by simp [a]) (by simp [a]) (by simp [b]) (by simp [b])
   exact .inl ⟨e, hs, a, b, q⟩
  ·have e : proX p = [putX (p.n 10) 3145792] := by
    unfold proX setX
    simp [a, b, show ¬ (0 < p.sp) by omega]
   have q := pro_z01_ok p hm s0 s1 hs (by simp [a]) (by simp [a]) (by simp [b]) (by simp [b])
   refine .inr ?_
   rw [e]
   exact q
  ·have e : proX p = [putX 0 3145792, storeX 0 (p.n 10)] := by
    unfold proX setX
    simp [a, b, show ¬ (0 < p.sp) by omega]
   have q := pro_z02_ok p hm s0 s1 hs (by simp [a]) (by simp [a]) (by simp [b]) b2 b3
   rw [w8 ⟨b2, b3⟩] at q
   refine .inr ?_
   rw [e]
   exact q
  ·have e : proX p = [putX (p.n 1) 2097152] := by
    unfold proX setX
    simp [a, b, show ¬ (0 < p.sp) by omega]
   have q := pro_z10_ok p hm s0 s1 hs (by simp [a]) (by simp [a]) (by simp [b]) (by simp [b])
   refine .inr ?_
   rw [e]
   exact q
  ·have e : proX p = [putX (p.n 1) 2097152, putX (p.n 10) 3145792] := by
    unfold proX setX
    simp [a, b, show ¬ (0 < p.sp) by omega]
   have q := pro_z11_ok p hm s0 s1 hs (by simp [a]) (by simp [a]) (by simp [b]) (by simp [b])
   refine .inr ?_
   rw [e]
   exact q
  ·have e : proX p = [putX (p.n 1) 2097152, putX 0 3145792, storeX 0 (p.n 10)] := by
    unfold proX setX
    simp [a, b, show ¬ (0 < p.sp) by omega]
   have q := pro_z12_ok p hm s0 s1 hs (by simp [a]) (by simp [a]) (by simp [b]) b2 b3
   rw [w8 ⟨b2, b3⟩] at q
   refine .inr ?_
   rw [e]
   exact q
  ·have e : proX p = [putX 0 2097152, storeX 0 (p.n 1)] := by
    unfold proX setX
    simp [a, b, show ¬ (0 < p.sp) by omega]
   have q := pro_z20_ok p hm s0 s1 hs (by simp [a]) a2 a3 (by simp [b]) (by simp [b])
   rw [w8 ⟨a2, a3⟩] at q
   refine .inr ?_
   rw [e]
   exact q
  ·have e : proX p = [putX 0 2097152, storeX 0 (p.n 1), putX (p.n 10) 3145792] := by
    unfold proX setX
    simp [a, b, show ¬ (0 < p.sp) by omega]
   have q := pro_z21_ok p hm s0 s1 hs (by simp [a]) a2 a3 (by simp [b]) (by simp [b])
   rw [w8 ⟨a2, a3⟩] at q
   refine .inr ?_
   rw [e]
   exact q
  ·have e : proX p = [putX 0 2097152, storeX 0 (p.n 1), putX 0 3145792, storeX 0 (p.n 10)] := by
    unfold proX setX
    simp [a, b, show ¬ (0 < p.sp) by omega]
   have q := pro_z22_ok p hm s0 s1 hs (by simp [a]) a2 a3 (by simp [b]) b2 b3
   rw [w8 ⟨a2, a3⟩, w8 ⟨b2, b3⟩] at q
   refine .inr ?_
   rw [e]
   exact q
theorem exit_any (p : PlS) (hm : p.may = true) (s0 : 0 ≤ p.sp) (s1 : p.sp ≤ 11) : Ret Tryz.prog 19 [.agg (plC p)] (.tup [.lst .no 8 ((exitX p).map XS.d), .int .i64 0]) := by
 have w1 : IntKind.i64.wrap (8 * p.sp) = 8 * p.sp := by rw [w_i64]; omega
 have o0 := plOK_form (PlS.may_at hm (i := 0) (by decide) (by decide))
 by_cases hs : p.sp > 0
 ·rcases o0 with ⟨a, a2⟩ | ⟨a, a2⟩ | ⟨a, a2, a3⟩
  ·have e : exitX p = [putX 0 0, ⟨9, 64, 4, 0, 0, 0, 8 * p.sp, 0⟩, ⟨30, 0, 0, 0, 0, 0, 0, 0⟩] := by
    unfold exitX intoX
    simp [a, hs]
   have q := exit_p0_ok p hm s0 s1 hs (by simp [a]) (by simp [a])
   rw [w1] at q
   rw [e]
   exact q
  ·have e : exitX p = [⟨0, 64, 0, p.n 0, 0, 0, 0, 0⟩, ⟨9, 64, 4, 0, 0, 0, 8 * p.sp, 0⟩, ⟨30, 0, 0, 0, 0, 0, 0, 0⟩] := by
    unfold exitX intoX
    simp [a, hs]
   have q := exit_p1_ok p hm s0 s1 hs (by simp [a]) (by simp [a])
   rw [w1] at q
   rw [e]
   exact q
  ·have e : exitX p = [⟨26, 64, 0, 0, 4, 8 * p.n 0, 0, 0⟩, ⟨9, 64, 4, 0, 0, 0, 8 * p.sp, 0⟩, ⟨30, 0, 0, 0, 0, 0, 0, 0⟩] := by
    unfold exitX intoX
    simp [a, hs]
   have q := exit_p2_ok p hm s0 s1 hs (by simp [a]) a2 a3
   rw [w1, w8 ⟨a2, a3⟩] at q
   rw [e]
   exact q
 ·have hs : p.sp ≤ 0 := by omega
  rcases o0 with ⟨a, a2⟩ | ⟨a, a2⟩ | ⟨a, a2, a3⟩
  ·have e : exitX p = [putX 0 0, ⟨30, 0, 0, 0, 0, 0, 0, 0⟩] := by
    unfold exitX intoX
    simp [a, show ¬ (0 < p.sp) by omega]
   have q := exit_z0_ok p hm s0 s1 hs (by simp [a]) (by simp [a])
   rw [e]
   exact q
  ·have e : exitX p = [⟨0, 64, 0, p.n 0, 0, 0, 0, 0⟩, ⟨30, 0, 0, 0, 0, 0, 0, 0⟩] := by
    unfold exitX intoX
    simp [a, show ¬ (0 < p.sp) by omega]
   have q := exit_z1_ok p hm s0 s1 hs (by simp [a]) (by simp [a])
   rw [e]
   exact q
  ·have e : exitX p = [⟨26, 64, 0, 0, 4, 8 * p.n 0, 0, 0⟩, ⟨30, 0, 0, 0, 0, 0, 0, 0⟩] := by
    unfold exitX intoX
    simp [a, show ¬ (0 < p.sp) by omega]
   have q := exit_z2_ok p hm s0 s1 hs (by simp [a]) a2 a3
   rw [w8 ⟨a2, a3⟩] at q
   rw [e]
   exact q
theorem spU_up (p : PlS) : ∀ i, p.spU i ≤ p.spU (i + 1)
 | i => by
  rw [PlS.spU]
  split
  ·split <;> omega
  ·omega
theorem sp_zero {p : PlS} (hs : p.sp ≤ 0) (h0 : p.k 0 = 2) (hn : 0 ≤ p.n 0) : False := by
 have h1 : p.spU 1 ≥ p.n 0 + 1 := by
  rw [PlS.spU, show ((0 : Nat) : Int) = 0 from rfl, if_pos h0]
  split <;> omega
 have g1 : p.spU 1 ≤ p.spU 2 := spU_up p 1
 have g2 : p.spU 2 ≤ p.spU 3 := spU_up p 2
 have g3 : p.spU 3 ≤ p.spU 4 := spU_up p 3
 have g4 : p.spU 4 ≤ p.spU 5 := spU_up p 4
 have g5 : p.spU 5 ≤ p.spU 6 := spU_up p 5
 have g6 : p.spU 6 ≤ p.spU 7 := spU_up p 6
 have g7 : p.spU 7 ≤ p.spU 8 := spU_up p 7
 have g8 : p.spU 8 ≤ p.spU 9 := spU_up p 8
 have g9 : p.spU 9 ≤ p.spU 10 := spU_up p 9
 have g10 : p.spU 10 ≤ p.spU 11 := spU_up p 10
 unfold PlS.sp at hs
 omega
theorem ops_all {l : List XS} (h : l.all (fun x => decide (x.op ≤ 127 ∧ x.op ≠ 31)) = true) : ∀ x ∈ l, x.op ≤ 127 ∧ x.op ≠ 31 := fun x hx => by simpa using List.all_eq_true.1 h x hx
theorem pro_ops (p : PlS) : (∀ x ∈ proX p, x.op ≤ 127 ∧ x.op ≠ 31) ∧ endsR (proX p) = false ∧ (proX p).length ≤ 5 := by
 unfold proX setX
 refine ⟨?_, ?_, ?_⟩
 ·exact ops_all (by (repeat' split) <;> rfl)
 ·(repeat' split) <;> rfl
 ·(repeat' split) <;> simp
theorem exit_ops (p : PlS) : (∀ x ∈ exitX p, x.op ≤ 127 ∧ x.op ≠ 31) ∧ endsR (exitX p) = true ∧ (exitX p).length ≤ 3 ∧ ((exitX p).map XS.d)[Int.toNat (IntKind.i64.wrap ((((exitX p).map XS.d).length : Int) - 1))]? = some (xD 30 0 0 0 0 0 0 0) ∧ 1 ≤ (exitX p).length := by
 unfold exitX intoX
 refine ⟨?_, ?_, ?_, ?_, ?_⟩
 ·exact ops_all (by (repeat' split) <;> rfl)
 ·(repeat' split) <;> rfl
 ·(repeat' split) <;> simp
 ·(repeat' split) <;> rfl
 ·simp
abbrev mach0 (r : MachS) : MachS := ⟨r.q0, r.q1, r.q2, r.q3, r.q4, r.q5, r.q6, r.q7, r.q8, r.q9, r.q10, r.q11, r.q12, r.q13, r.q14, r.q15, false, false, false, false, false, 0⟩
theorem at_slot {m : MachS} {s : List Int} {k n v : Int} (hl : s.length = 11) (hn : 0 ≤ n ∧ n < 11) (hk : k = 2) (h : atM m s k n = v) : (u64s s)[n.toNat * 1]? = some (.int .u64 v) := by
 subst hk
 rw [Nat.mul_one, u64s_get (by omega), ← h]
 rfl
theorem at_home {m : MachS} {s : List Int} {k n v : Int} (hk : k = 1) (h : atM m s k n = v) : (rg m.rl n == v) = true := by
 subst hk
 rw [beq_iff_eq, ← h]
 rfl
theorem kb {k : Int} : (k = 0 → (k == 2) = false ∧ (k == 1) = false ∧ (k == 0) = true) ∧ (k = 1 → (k == 2) = false ∧ (k == 1) = true ∧ (k == 0) = false) ∧ (k = 2 → (k == 2) = true ∧ (k == 1) = false ∧ (k == 0) = false) := by
 refine ⟨?_, ?_, ?_⟩ <;> (intro h; subst h; exact ⟨rfl, rfl, rfl⟩)
theorem ends_any (p : PlS) (r : MachS) (h4 : 0 ≤ r.q4 ∧ r.q4 ≤ 18446744073709551615) : Ret Tryz.prog 5 [.agg (plC p), .agg (reC r)] (.bool true) := by
 cases hm : p.may with
 | false => exact fe_no_ok p r hm
 | true =>
 obtain ⟨s0, s1⟩ := PlS.spU_le hm 11 (Nat.le_refl _)
 have s0 : 0 ≤ p.sp := s0
 have s1 : p.sp ≤ 11 := s1
 have hX := exit_any p hm s0 s1
 obtain ⟨xo, xr, xl, xy, x1⟩ := exit_ops p
 obtain ⟨po, pr, pl⟩ := pro_ops p
 have y1 : 1 ≤ (((exitX p).map XS.d).length : Int) := by rw [List.length_map]; omega
 have y2 : (((exitX p).map XS.d).length : Int) ≤ 10 := by rw [List.length_map]; omega
 cases hap : p.apart with
 | false =>
  rcases pro_any p hm s0 s1 with ⟨_, _, _, _, hP⟩ | hP
  ·exact fe_samen_ok p r _ hm hap y1 y2 hP hX
  ·exact fe_same_ok p r _ _ hm hap y1 y2 hP hX
 | true =>
 have f1 := plOK_form (PlS.may_at hm (i := 1) (by decide) (by decide))
 have f10 := plOK_form (PlS.may_at hm (i := 10) (by decide) (by decide))
 have f0 := plOK_form (PlS.may_at hm (i := 0) (by decide) (by decide))
 have fin : ∀ m1 m2 : MachS, rg m1.rl 4 = (if p.sp > 0 then u64 (rg (mach0 r).rl 4 - 8 * p.sp) else rg (mach0 r).rl 4) → rg m2.rl 4 = (if p.sp > 0 then u64 (rg m1.rl 4 + 8 * p.sp) else rg m1.rl 4) → (m1.q4 != IntKind.u64.wrap (r.q4 - IntKind.u64.wrap (IntKind.i64.wrap (8 * p.sp)))) = false ∧ (m2.q4 == r.q4) = true := by
  intro m1 m2 g1 g2
  have g1 : m1.q4 = (if p.sp > 0 then u64 (r.q4 - 8 * p.sp) else r.q4) := g1
  have g2 : m2.q4 = (if p.sp > 0 then u64 (m1.q4 + 8 * p.sp) else m1.q4) := g2
  have e8 : IntKind.i64.wrap (8 * p.sp) = 8 * p.sp := by rw [w_i64]; omega
  rw [bne_eq_false_iff_eq, beq_iff_eq, e8]
  unfold u64 at g1 g2
  rw [w_u64, w_u64]
  rw [w_u64] at g1 g2
  split at g1 <;> split at g2 <;> (constructor <;> omega)
 rcases pro_any p hm s0 s1 with ⟨e, hs, k1, k10, hP⟩ | hP
 ·obtain ⟨m2, d2, q0, q4⟩ := done_exit hm (mach0 r) (List.replicate 11 0) rfl
  have hJ := d13_run r (exitX p) (by omega) (mach0 r) (List.replicate 11 0) m2 (List.replicate 11 0) rfl xo d2
  rw [xr] at hJ
  obtain ⟨e4, e5⟩ := fin (mach0 r) m2 (by rw [if_neg (by omega)]) q4
  obtain ⟨a1, a2, a3⟩ := kb.1 k1
  obtain ⟨b1, b2, b3⟩ := kb.1 k10
  rcases f0 with ⟨c, _⟩ | ⟨c, cn⟩ | ⟨c, c0, c1⟩
  ·obtain ⟨c1, c2, c3⟩ := kb.1 c
   exact fe_n000_ok p r m2 _ hm hap s0 s1 y1 y2 hP hX hJ a1 a2 a3 b1 b2 b3 c1 c2 c3 e4 e5 (by rw [c] at q0; rw [beq_iff_eq]; exact q0) xy
  ·obtain ⟨c1, c2, c3⟩ := kb.2.1 c
   exact fe_n001_ok p r m2 _ hm hap s0 s1 y1 y2 hP hX hJ a1 a2 a3 b1 b2 b3 c1 c2 c3 (by omega) (by omega) e4 e5 (by rw [c] at q0; rw [beq_iff_eq]; exact q0) xy
  ·exact absurd (sp_zero hs c c0) (by simp)
 ·obtain ⟨m1, s1', d1, l1, r4, at1, at10⟩ := done_pro hm hap (mach0 r) (List.replicate 11 0) rfl
  obtain ⟨m2, d2, q0, q4⟩ := done_exit hm m1 s1' l1
  have hI := dn_run p r (proX p) (by omega) (mach0 r) (List.replicate 11 0) m1 s1' rfl po d1
  rw [pr] at hI
  obtain ⟨e4, e5⟩ := fin m1 m2 r4 q4
  have x2 : (((proX p).map XS.d).length : Int) ≤ 10 := by rw [List.length_map]; omega
  have hcl : (u64s s1').length = 11 := by rw [u64s_len]; exact l1
  have h13 := d13_run r (exitX p) (by omega) m1 s1' m2 s1' l1 xo d2
  have h15 := d15_run r (exitX p) (by omega) m1 s1' m2 s1' l1 xo d2
  have h17 := d17_run r (exitX p) (by omega) m1 s1' m2 s1' l1 xo d2
  rw [xr] at h13 h15 h17
  rcases f1 with ⟨a, an⟩ | ⟨a, an⟩ | ⟨a, a0, a1⟩ <;> rcases f10 with ⟨b, bn⟩ | ⟨b, bn⟩ | ⟨b, b0, b1⟩ <;> rcases f0 with ⟨c, cn⟩ | ⟨c, cn⟩ | ⟨c, c0, c1⟩
  ·obtain ⟨u1, u2, u3⟩ := kb.1 a
   obtain ⟨v1, v2, v3⟩ := kb.1 b
   obtain ⟨t1, t2, t3⟩ := kb.1 c
   exact fe_y000_ok p r m1 m2 _ _ (u64s s1') x2 hcl (u64s_clean _) hm hap s0 s1 y1 y2 hP hX hI (by rw [u64s_demote]; exact h13) u1 u2 u3  v1 v2 v3  t1 t2 t3    e4 e5 (by rw [c] at q0; rw [beq_iff_eq]; exact q0) xy
  ·obtain ⟨u1, u2, u3⟩ := kb.1 a
   obtain ⟨v1, v2, v3⟩ := kb.1 b
   obtain ⟨t1, t2, t3⟩ := kb.2.1 c
   exact fe_y001_ok p r m1 m2 _ _ (u64s s1') x2 hcl (u64s_clean _) hm hap s0 s1 y1 y2 hP hX hI (by rw [u64s_demote]; exact h13) u1 u2 u3  v1 v2 v3  t1 t2 t3 (by omega) (by omega)   e4 e5 (by rw [c] at q0; rw [beq_iff_eq]; exact q0) xy
  ·obtain ⟨u1, u2, u3⟩ := kb.1 a
   obtain ⟨v1, v2, v3⟩ := kb.1 b
   obtain ⟨t1, t2, t3⟩ := kb.2.2 c
   exact fe_y002_ok p r m1 m2 _ _ (u64s s1') x2 hcl (u64s_clean _) hm hap s0 s1 y1 y2 hP hX hI (by rw [u64s_demote]; exact h13) u1 u2 u3  v1 v2 v3  t1 t2 t3 c0 c1   e4 e5 _ (at_slot l1 ⟨c0, c1⟩ rfl rfl) (by rw [c] at q0; rw [beq_iff_eq]; exact q0) xy
  ·obtain ⟨u1, u2, u3⟩ := kb.1 a
   obtain ⟨v1, v2, v3⟩ := kb.2.1 b
   obtain ⟨t1, t2, t3⟩ := kb.1 c
   exact fe_y010_ok p r m1 m2 _ _ (u64s s1') x2 hcl (u64s_clean _) hm hap s0 s1 y1 y2 hP hX hI (by rw [u64s_demote]; exact h15) u1 u2 u3  v1 v2 v3 (by omega) (by omega) t1 t2 t3   (at_home b (at10 (by omega))) e4 e5 (by rw [c] at q0; rw [beq_iff_eq]; exact q0) xy
  ·obtain ⟨u1, u2, u3⟩ := kb.1 a
   obtain ⟨v1, v2, v3⟩ := kb.2.1 b
   obtain ⟨t1, t2, t3⟩ := kb.2.1 c
   exact fe_y011_ok p r m1 m2 _ _ (u64s s1') x2 hcl (u64s_clean _) hm hap s0 s1 y1 y2 hP hX hI (by rw [u64s_demote]; exact h15) u1 u2 u3  v1 v2 v3 (by omega) (by omega) t1 t2 t3 (by omega) (by omega)  (at_home b (at10 (by omega))) e4 e5 (by rw [c] at q0; rw [beq_iff_eq]; exact q0) xy
  ·obtain ⟨u1, u2, u3⟩ := kb.1 a
   obtain ⟨v1, v2, v3⟩ := kb.2.1 b
   obtain ⟨t1, t2, t3⟩ := kb.2.2 c
   exact fe_y012_ok p r m1 m2 _ _ (u64s s1') x2 hcl (u64s_clean _) hm hap s0 s1 y1 y2 hP hX hI (by rw [u64s_demote]; exact h15) u1 u2 u3  v1 v2 v3 (by omega) (by omega) t1 t2 t3 c0 c1  (at_home b (at10 (by omega))) e4 e5 _ (at_slot l1 ⟨c0, c1⟩ rfl rfl) (by rw [c] at q0; rw [beq_iff_eq]; exact q0) xy
  ·obtain ⟨u1, u2, u3⟩ := kb.1 a
   obtain ⟨v1, v2, v3⟩ := kb.2.2 b
   obtain ⟨t1, t2, t3⟩ := kb.1 c
   exact fe_y020_ok p r m1 m2 _ _ (u64s s1') x2 hcl (u64s_clean _) hm hap s0 s1 y1 y2 hP hX hI (by rw [u64s_demote]; exact h15) u1 u2 u3  v1 v2 v3 b0 b1 t1 t2 t3   (at_slot l1 ⟨b0, b1⟩ b (at10 (by omega))) e4 e5 (by rw [c] at q0; rw [beq_iff_eq]; exact q0) xy
  ·obtain ⟨u1, u2, u3⟩ := kb.1 a
   obtain ⟨v1, v2, v3⟩ := kb.2.2 b
   obtain ⟨t1, t2, t3⟩ := kb.2.1 c
   exact fe_y021_ok p r m1 m2 _ _ (u64s s1') x2 hcl (u64s_clean _) hm hap s0 s1 y1 y2 hP hX hI (by rw [u64s_demote]; exact h15) u1 u2 u3  v1 v2 v3 b0 b1 t1 t2 t3 (by omega) (by omega)  (at_slot l1 ⟨b0, b1⟩ b (at10 (by omega))) e4 e5 (by rw [c] at q0; rw [beq_iff_eq]; exact q0) xy
  ·obtain ⟨u1, u2, u3⟩ := kb.1 a
   obtain ⟨v1, v2, v3⟩ := kb.2.2 b
   obtain ⟨t1, t2, t3⟩ := kb.2.2 c
   exact fe_y022_ok p r m1 m2 _ _ (u64s s1') x2 hcl (u64s_clean _) hm hap s0 s1 y1 y2 hP hX hI (by rw [u64s_demote]; exact h15) u1 u2 u3  v1 v2 v3 b0 b1 t1 t2 t3 c0 c1  (at_slot l1 ⟨b0, b1⟩ b (at10 (by omega))) e4 e5 _ (at_slot l1 ⟨c0, c1⟩ rfl rfl) (by rw [c] at q0; rw [beq_iff_eq]; exact q0) xy
  ·obtain ⟨u1, u2, u3⟩ := kb.2.1 a
   obtain ⟨v1, v2, v3⟩ := kb.1 b
   obtain ⟨t1, t2, t3⟩ := kb.1 c
   exact fe_y100_ok p r m1 m2 _ _ (u64s s1') x2 hcl (u64s_clean _) hm hap s0 s1 y1 y2 hP hX hI (by rw [u64s_demote]; exact h15) u1 u2 u3 (by omega) (by omega) v1 v2 v3  t1 t2 t3  (at_home a (at1 (by omega)))  e4 e5 (by rw [c] at q0; rw [beq_iff_eq]; exact q0) xy
  ·obtain ⟨u1, u2, u3⟩ := kb.2.1 a
   obtain ⟨v1, v2, v3⟩ := kb.1 b
   obtain ⟨t1, t2, t3⟩ := kb.2.1 c
   exact fe_y101_ok p r m1 m2 _ _ (u64s s1') x2 hcl (u64s_clean _) hm hap s0 s1 y1 y2 hP hX hI (by rw [u64s_demote]; exact h15) u1 u2 u3 (by omega) (by omega) v1 v2 v3  t1 t2 t3 (by omega) (by omega) (at_home a (at1 (by omega)))  e4 e5 (by rw [c] at q0; rw [beq_iff_eq]; exact q0) xy
  ·obtain ⟨u1, u2, u3⟩ := kb.2.1 a
   obtain ⟨v1, v2, v3⟩ := kb.1 b
   obtain ⟨t1, t2, t3⟩ := kb.2.2 c
   exact fe_y102_ok p r m1 m2 _ _ (u64s s1') x2 hcl (u64s_clean _) hm hap s0 s1 y1 y2 hP hX hI (by rw [u64s_demote]; exact h15) u1 u2 u3 (by omega) (by omega) v1 v2 v3  t1 t2 t3 c0 c1 (at_home a (at1 (by omega)))  e4 e5 _ (at_slot l1 ⟨c0, c1⟩ rfl rfl) (by rw [c] at q0; rw [beq_iff_eq]; exact q0) xy
  ·obtain ⟨u1, u2, u3⟩ := kb.2.1 a
   obtain ⟨v1, v2, v3⟩ := kb.2.1 b
   obtain ⟨t1, t2, t3⟩ := kb.1 c
   exact fe_y110_ok p r m1 m2 _ _ (u64s s1') x2 hcl (u64s_clean _) hm hap s0 s1 y1 y2 hP hX hI (by rw [u64s_demote]; exact h17) u1 u2 u3 (by omega) (by omega) v1 v2 v3 (by omega) (by omega) t1 t2 t3  (at_home a (at1 (by omega))) (at_home b (at10 (by omega))) e4 e5 (by rw [c] at q0; rw [beq_iff_eq]; exact q0) xy
  ·obtain ⟨u1, u2, u3⟩ := kb.2.1 a
   obtain ⟨v1, v2, v3⟩ := kb.2.1 b
   obtain ⟨t1, t2, t3⟩ := kb.2.1 c
   exact fe_y111_ok p r m1 m2 _ _ (u64s s1') x2 hcl (u64s_clean _) hm hap s0 s1 y1 y2 hP hX hI (by rw [u64s_demote]; exact h17) u1 u2 u3 (by omega) (by omega) v1 v2 v3 (by omega) (by omega) t1 t2 t3 (by omega) (by omega) (at_home a (at1 (by omega))) (at_home b (at10 (by omega))) e4 e5 (by rw [c] at q0; rw [beq_iff_eq]; exact q0) xy
  ·obtain ⟨u1, u2, u3⟩ := kb.2.1 a
   obtain ⟨v1, v2, v3⟩ := kb.2.1 b
   obtain ⟨t1, t2, t3⟩ := kb.2.2 c
   exact fe_y112_ok p r m1 m2 _ _ (u64s s1') x2 hcl (u64s_clean _) hm hap s0 s1 y1 y2 hP hX hI (by rw [u64s_demote]; exact h17) u1 u2 u3 (by omega) (by omega) v1 v2 v3 (by omega) (by omega) t1 t2 t3 c0 c1 (at_home a (at1 (by omega))) (at_home b (at10 (by omega))) e4 e5 _ (at_slot l1 ⟨c0, c1⟩ rfl rfl) (by rw [c] at q0; rw [beq_iff_eq]; exact q0) xy
  ·obtain ⟨u1, u2, u3⟩ := kb.2.1 a
   obtain ⟨v1, v2, v3⟩ := kb.2.2 b
   obtain ⟨t1, t2, t3⟩ := kb.1 c
   exact fe_y120_ok p r m1 m2 _ _ (u64s s1') x2 hcl (u64s_clean _) hm hap s0 s1 y1 y2 hP hX hI (by rw [u64s_demote]; exact h17) u1 u2 u3 (by omega) (by omega) v1 v2 v3 b0 b1 t1 t2 t3  (at_home a (at1 (by omega))) (at_slot l1 ⟨b0, b1⟩ b (at10 (by omega))) e4 e5 (by rw [c] at q0; rw [beq_iff_eq]; exact q0) xy
  ·obtain ⟨u1, u2, u3⟩ := kb.2.1 a
   obtain ⟨v1, v2, v3⟩ := kb.2.2 b
   obtain ⟨t1, t2, t3⟩ := kb.2.1 c
   exact fe_y121_ok p r m1 m2 _ _ (u64s s1') x2 hcl (u64s_clean _) hm hap s0 s1 y1 y2 hP hX hI (by rw [u64s_demote]; exact h17) u1 u2 u3 (by omega) (by omega) v1 v2 v3 b0 b1 t1 t2 t3 (by omega) (by omega) (at_home a (at1 (by omega))) (at_slot l1 ⟨b0, b1⟩ b (at10 (by omega))) e4 e5 (by rw [c] at q0; rw [beq_iff_eq]; exact q0) xy
  ·obtain ⟨u1, u2, u3⟩ := kb.2.1 a
   obtain ⟨v1, v2, v3⟩ := kb.2.2 b
   obtain ⟨t1, t2, t3⟩ := kb.2.2 c
   exact fe_y122_ok p r m1 m2 _ _ (u64s s1') x2 hcl (u64s_clean _) hm hap s0 s1 y1 y2 hP hX hI (by rw [u64s_demote]; exact h17) u1 u2 u3 (by omega) (by omega) v1 v2 v3 b0 b1 t1 t2 t3 c0 c1 (at_home a (at1 (by omega))) (at_slot l1 ⟨b0, b1⟩ b (at10 (by omega))) e4 e5 _ (at_slot l1 ⟨c0, c1⟩ rfl rfl) (by rw [c] at q0; rw [beq_iff_eq]; exact q0) xy
  ·obtain ⟨u1, u2, u3⟩ := kb.2.2 a
   obtain ⟨v1, v2, v3⟩ := kb.1 b
   obtain ⟨t1, t2, t3⟩ := kb.1 c
   exact fe_y200_ok p r m1 m2 _ _ (u64s s1') x2 hcl (u64s_clean _) hm hap s0 s1 y1 y2 hP hX hI (by rw [u64s_demote]; exact h15) u1 u2 u3 a0 a1 v1 v2 v3  t1 t2 t3  (at_slot l1 ⟨a0, a1⟩ a (at1 (by omega)))  e4 e5 (by rw [c] at q0; rw [beq_iff_eq]; exact q0) xy
  ·obtain ⟨u1, u2, u3⟩ := kb.2.2 a
   obtain ⟨v1, v2, v3⟩ := kb.1 b
   obtain ⟨t1, t2, t3⟩ := kb.2.1 c
   exact fe_y201_ok p r m1 m2 _ _ (u64s s1') x2 hcl (u64s_clean _) hm hap s0 s1 y1 y2 hP hX hI (by rw [u64s_demote]; exact h15) u1 u2 u3 a0 a1 v1 v2 v3  t1 t2 t3 (by omega) (by omega) (at_slot l1 ⟨a0, a1⟩ a (at1 (by omega)))  e4 e5 (by rw [c] at q0; rw [beq_iff_eq]; exact q0) xy
  ·obtain ⟨u1, u2, u3⟩ := kb.2.2 a
   obtain ⟨v1, v2, v3⟩ := kb.1 b
   obtain ⟨t1, t2, t3⟩ := kb.2.2 c
   exact fe_y202_ok p r m1 m2 _ _ (u64s s1') x2 hcl (u64s_clean _) hm hap s0 s1 y1 y2 hP hX hI (by rw [u64s_demote]; exact h15) u1 u2 u3 a0 a1 v1 v2 v3  t1 t2 t3 c0 c1 (at_slot l1 ⟨a0, a1⟩ a (at1 (by omega)))  e4 e5 _ (at_slot l1 ⟨c0, c1⟩ rfl rfl) (by rw [c] at q0; rw [beq_iff_eq]; exact q0) xy
  ·obtain ⟨u1, u2, u3⟩ := kb.2.2 a
   obtain ⟨v1, v2, v3⟩ := kb.2.1 b
   obtain ⟨t1, t2, t3⟩ := kb.1 c
   exact fe_y210_ok p r m1 m2 _ _ (u64s s1') x2 hcl (u64s_clean _) hm hap s0 s1 y1 y2 hP hX hI (by rw [u64s_demote]; exact h17) u1 u2 u3 a0 a1 v1 v2 v3 (by omega) (by omega) t1 t2 t3  (at_slot l1 ⟨a0, a1⟩ a (at1 (by omega))) (at_home b (at10 (by omega))) e4 e5 (by rw [c] at q0; rw [beq_iff_eq]; exact q0) xy
  ·obtain ⟨u1, u2, u3⟩ := kb.2.2 a
   obtain ⟨v1, v2, v3⟩ := kb.2.1 b
   obtain ⟨t1, t2, t3⟩ := kb.2.1 c
   exact fe_y211_ok p r m1 m2 _ _ (u64s s1') x2 hcl (u64s_clean _) hm hap s0 s1 y1 y2 hP hX hI (by rw [u64s_demote]; exact h17) u1 u2 u3 a0 a1 v1 v2 v3 (by omega) (by omega) t1 t2 t3 (by omega) (by omega) (at_slot l1 ⟨a0, a1⟩ a (at1 (by omega))) (at_home b (at10 (by omega))) e4 e5 (by rw [c] at q0; rw [beq_iff_eq]; exact q0) xy
  ·obtain ⟨u1, u2, u3⟩ := kb.2.2 a
   obtain ⟨v1, v2, v3⟩ := kb.2.1 b
   obtain ⟨t1, t2, t3⟩ := kb.2.2 c
   exact fe_y212_ok p r m1 m2 _ _ (u64s s1') x2 hcl (u64s_clean _) hm hap s0 s1 y1 y2 hP hX hI (by rw [u64s_demote]; exact h17) u1 u2 u3 a0 a1 v1 v2 v3 (by omega) (by omega) t1 t2 t3 c0 c1 (at_slot l1 ⟨a0, a1⟩ a (at1 (by omega))) (at_home b (at10 (by omega))) e4 e5 _ (at_slot l1 ⟨c0, c1⟩ rfl rfl) (by rw [c] at q0; rw [beq_iff_eq]; exact q0) xy
  ·obtain ⟨u1, u2, u3⟩ := kb.2.2 a
   obtain ⟨v1, v2, v3⟩ := kb.2.2 b
   obtain ⟨t1, t2, t3⟩ := kb.1 c
   exact fe_y220_ok p r m1 m2 _ _ (u64s s1') x2 hcl (u64s_clean _) hm hap s0 s1 y1 y2 hP hX hI (by rw [u64s_demote]; exact h17) u1 u2 u3 a0 a1 v1 v2 v3 b0 b1 t1 t2 t3  (at_slot l1 ⟨a0, a1⟩ a (at1 (by omega))) (at_slot l1 ⟨b0, b1⟩ b (at10 (by omega))) e4 e5 (by rw [c] at q0; rw [beq_iff_eq]; exact q0) xy
  ·obtain ⟨u1, u2, u3⟩ := kb.2.2 a
   obtain ⟨v1, v2, v3⟩ := kb.2.2 b
   obtain ⟨t1, t2, t3⟩ := kb.2.1 c
   exact fe_y221_ok p r m1 m2 _ _ (u64s s1') x2 hcl (u64s_clean _) hm hap s0 s1 y1 y2 hP hX hI (by rw [u64s_demote]; exact h17) u1 u2 u3 a0 a1 v1 v2 v3 b0 b1 t1 t2 t3 (by omega) (by omega) (at_slot l1 ⟨a0, a1⟩ a (at1 (by omega))) (at_slot l1 ⟨b0, b1⟩ b (at10 (by omega))) e4 e5 (by rw [c] at q0; rw [beq_iff_eq]; exact q0) xy
  ·obtain ⟨u1, u2, u3⟩ := kb.2.2 a
   obtain ⟨v1, v2, v3⟩ := kb.2.2 b
   obtain ⟨t1, t2, t3⟩ := kb.2.2 c
   exact fe_y222_ok p r m1 m2 _ _ (u64s s1') x2 hcl (u64s_clean _) hm hap s0 s1 y1 y2 hP hX hI (by rw [u64s_demote]; exact h17) u1 u2 u3 a0 a1 v1 v2 v3 b0 b1 t1 t2 t3 c0 c1 (at_slot l1 ⟨a0, a1⟩ a (at1 (by omega))) (at_slot l1 ⟨b0, b1⟩ b (at10 (by omega))) e4 e5 _ (at_slot l1 ⟨c0, c1⟩ rfl rfl) (by rw [c] at q0; rw [beq_iff_eq]; exact q0) xy
end Go.Proofs.YtkpneibifdoecaaGreat
