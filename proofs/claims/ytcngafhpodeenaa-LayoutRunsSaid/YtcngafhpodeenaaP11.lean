/- Contracts and plain laws that a statement's proof leans on (texts merged: LR4, LR5, LR3, LR5A, LR6, LR6A, LR7, MdLc, MdLd, MdLa, MdLe, MdLf, MdLg, LR8, LR9). -/
import Derived.Test.YtcngafhpodeenaaP05
import Derived.Test.YtcngafhpodeenaaP08
import Derived.Test.YtcngafhpodeenaaP10
set_option linter.unusedVariables false
set_option linter.unusedSimpArgs false
set_option maxRecDepth 100000
set_option maxHeartbeats 8000000
namespace Go.Proofs.Ytcngafhpodeenaa
open Go Go.Ev
theorem dr_e (pro : List XS) (l : List (List IrS)) (i : Int) (i0 : 0 ≤ i) (i1 : i ≤ 100000) (h : ((xsL pro).length : Int) ≤ i)  : RoundRun Try.prog (loopB Try.f67 3) ⟨[0, 1, 4, 11], [], []⟩ 0 ((.lst .no 8 (xsL pro)) :: (.lst .no 1 (rwL l)) :: (D.undef) :: (D.undef) :: (.lst .tight 0 []) :: (un 6 ++ (.lst .tight 0 []) :: (.int .i64 i) :: (un 165))) [] (.exit 6) ((.lst .no 8 (xsL pro)) :: (.lst .no 1 (rwL l)) :: (D.undef) :: (D.undef) :: (.lst .tight 0 []) :: (un 6 ++ (.lst .tight 0 []) :: (un 166))) ([]) := by
 exact RoundRun.of_eval mixed [tC (by ((try simp only [sL] at *); (try unfold big at *); omega) : (decide (i < (↑(List.length (xsL pro)) : Int))) = false)] (by kernel_rfl)
theorem dr_0 (pro : List XS) (l : List (List IrS)) (i : Int) (i0 : 0 ≤ i) (i1 : i ≤ 100000) (h : i < ((xsL pro).length : Int)) (x : XS) (hx : (xsL pro)[Int.toNat i]? = some (xsD x))  : RoundRun Try.prog (loopB Try.f67 3) ⟨[0, 1, 12], [], [(11, 10)]⟩ 0 ((.lst .no 8 (xsL pro)) :: (.lst .no 1 (rwL l)) :: (D.undef) :: (D.undef) :: (.lst .tight 0 []) :: (un 6 ++ (.lst .tight 0 []) :: (.int .i64 i) :: (un 165))) [] .norm ((.lst .no 8 (xsL pro)) :: (.lst .no 1 (rwL l)) :: (un 9 ++ (.slc 0 10 1) :: (.int .i64 (IntKind.i64.wrap (i + (1 : Int)))) :: (un 165))) ([.box [.int .i8 (XS.op x), .int .i8 (XS.w x), .int .i8 (XS.dst x), .int .i8 (XS.src x), .int .i8 (XS.base x), .int .i64 (XS.disp x), .int .i64 (XS.imm x), .int .i8 (XS.cc x), .int .i64 (-1 : Int), .bool false]]) := by
 exact RoundRun.of_eval mixed [tC (by ((try simp only [sL] at *); (try unfold big at *); omega) : (decide (i < (↑(List.length (xsL pro)) : Int))) = true), tC (v := true) (leL 0 (decide_eq_false (Int.not_lt.2 i0))), .get _ _ _ hx, .go 0, .len ((1 : Nat)) ((2147483648 : Nat)) (by first | decide | omega | (simp; omega)), .cl ([.int .i8 (XS.op x), .int .i8 (XS.w x), .int .i8 (XS.dst x), .int .i8 (XS.src x), .int .i8 (XS.base x), .int .i64 (XS.disp x), .int .i64 (XS.imm x), .int .i8 (XS.cc x), .int .i64 (-1 : Int), .bool false]) (by exact clAll rfl)] (by kernel_rfl)
theorem dr_eb (pro : List XS) (l : List (List IrS)) (i : Int) (i0 : 0 ≤ i) (i1 : i ≤ 100000) (cs : List D) (k : Nat) (hc : ∀ c ∈ cs, c.clean = true) (hl : Nat.beq cs.length (k * 10) = true) (hk : k ≤ 5000) (h : ((xsL pro).length : Int) ≤ i)  : RoundRun Try.prog (loopB Try.f67 3) ⟨[0, 1], [], [(11, 10)]⟩ 0 ((.lst .no 8 (xsL pro)) :: (.lst .no 1 (rwL l)) :: (un 9 ++ (.slc 0 10 k) :: (.int .i64 i) :: (un 165))) [.box cs] (.exit 6) ((.lst .no 8 (xsL pro)) :: (.lst .no 1 (rwL l)) :: (un 9 ++ (.slc 0 10 k) :: (un 166))) ([.box (List.map D.demote cs)]) := by
 exact RoundRun.of_eval mixed [tC (by ((try simp only [sL] at *); (try unfold big at *); omega) : (decide (i < (↑(List.length (xsL pro)) : Int))) = false), .cl (cs) (by first | exact clAll rfl | exact hc | exact cl_app hc rfl)] (by kernel_rfl)
theorem dr_k (pro : List XS) (l : List (List IrS)) (i : Int) (i0 : 0 ≤ i) (i1 : i ≤ 100000) (cs : List D) (k : Nat) (hc : ∀ c ∈ cs, c.clean = true) (hl : Nat.beq cs.length (k * 10) = true) (hk : k ≤ 5000) (h : i < ((xsL pro).length : Int)) (x : XS) (hx : (xsL pro)[Int.toNat i]? = some (xsD x))  : RoundRun Try.prog (loopB Try.f67 3) ⟨[0, 1, 12], [], [(11, 10)]⟩ 0 ((.lst .no 8 (xsL pro)) :: (.lst .no 1 (rwL l)) :: (un 9 ++ (.slc 0 10 k) :: (.int .i64 i) :: (un 165))) [.box cs] .norm ((.lst .no 8 (xsL pro)) :: (.lst .no 1 (rwL l)) :: (un 9 ++ (.slc 0 10 (k + (1 : Nat))) :: (.int .i64 (IntKind.i64.wrap (i + (1 : Int)))) :: (un 165))) ([.box (List.map D.demote (cs ++ [.int .i8 (XS.op x), .int .i8 (XS.w x), .int .i8 (XS.dst x), .int .i8 (XS.src x), .int .i8 (XS.base x), .int .i64 (XS.disp x), .int .i64 (XS.imm x), .int .i8 (XS.cc x), .int .i64 (-1 : Int), .bool false]))]) := by
 exact RoundRun.of_eval mixed [tC (by ((try simp only [sL] at *); (try unfold big at *); omega) : (decide (i < (↑(List.length (xsL pro)) : Int))) = true), tC (v := true) (leL 0 (decide_eq_false (Int.not_lt.2 i0))), .get _ _ _ hx, .len (k + (1 : Nat)) ((2147483648 : Nat)) (by first | decide | omega | (simp; omega)), tC (v := true) hl, .cl (cs ++ [.int .i8 (XS.op x), .int .i8 (XS.w x), .int .i8 (XS.dst x), .int .i8 (XS.src x), .int .i8 (XS.base x), .int .i64 (XS.disp x), .int .i64 (XS.imm x), .int .i8 (XS.cc x), .int .i64 (-1 : Int), .bool false]) (by first | exact clAll rfl | exact hc | exact cl_app hc rfl)] (by kernel_rfl)
theorem dt_e (l : List (List IrS)) (q : List Int) (b i : Int) (b0 : 0 ≤ b) (b1 : b ≤ 1000) (i0 : 0 ≤ i) (i1 : i ≤ 100000) (r : List IrS) (hb : (rwL l)[Int.toNat b]? = some (.lst .no 13 (irL r))) (hrl : ((irL r).length : Int) ≤ 100000) (h : ((irL r).length : Int) ≤ i)  : RoundRun Try.prog (loopB Try.f67 5) ⟨[1, 4, 11, 14], [], [(13, 1)]⟩ 1 ((uu) :: (.lst .no 1 (rwL l)) :: (uu) :: (uu) :: (.lst .tight 0 []) :: (un 6 ++ (.lst .tight 0 []) :: (uu) :: (.lst (.tok 1 0) 1 (intsD q)) :: (.int .i64 b) :: (.int .i64 i) :: (un 162))) [.dead, .fam 0 1] (.exit 10) ((uu) :: (.lst .no 1 (rwL l)) :: (uu) :: (uu) :: (.lst .tight 0 []) :: (un 6 ++ (.lst .tight 0 []) :: (uu) :: (.lst (.tok 1 0) 1 (intsD q)) :: (.int .i64 b) :: (un 163))) ([.dead, .fam 0 1]) := by
 exact RoundRun.of_eval mixed [tC (v := true) (leL 0 (decide_eq_false (Int.not_lt.2 b0))), .get _ _ _ hb, tC (by ((try simp only [sL] at *); (try unfold big at *); omega) : (decide (i < (↑(List.length (irL r)) : Int))) = false)] (by kernel_rfl)
theorem dt_x (l : List (List IrS)) (q : List Int) (b i : Int) (b0 : 0 ≤ b) (b1 : b ≤ 1000) (i0 : 0 ≤ i) (i1 : i ≤ 100000) (r : List IrS) (hb : (rwL l)[Int.toNat b]? = some (.lst .no 13 (irL r))) (hrl : ((irL r).length : Int) ≤ 100000) (h : i < ((irL r).length : Int)) (s : IrS) (hs : (irL r)[Int.toNat i]? = some (IrS.d s)) (hk : s.kind = 0)  : RoundRun Try.prog (loopB Try.f67 5) ⟨[1, 4, 14, 15], [], [(11, 10), (13, 1)]⟩ 1 ((uu) :: (.lst .no 1 (rwL l)) :: (uu) :: (uu) :: (.lst .tight 0 []) :: (un 6 ++ (.lst .tight 0 []) :: (uu) :: (.lst (.tok 1 0) 1 (intsD q)) :: (.int .i64 b) :: (.int .i64 i) :: (un 162))) [.dead, .fam 0 1] .norm ((uu) :: (.lst .no 1 (rwL l)) :: (uu) :: (uu) :: (.lst .tight 0 []) :: (un 6 ++ (.slc 1 10 1) :: (uu) :: (.lst (.tok 2 0) 1 (intsD q)) :: (.int .i64 b) :: (.int .i64 (IntKind.i64.wrap (i + 1))) :: (un 162))) ([.dead, .box [.int .i8 (IrS.op s), .int .i8 (IrS.w s), .int .i8 (IrS.dst s), .int .i8 (IrS.src s), .int .i8 (IrS.base s), .int .i64 (IrS.disp s), .int .i64 (IrS.imm s), .int .i8 (IrS.cc s), .int .i64 (-1), .bool false], .fam 0 1]) := by
 exact RoundRun.of_eval mixed [tC (v := true) (leL 0 (decide_eq_false (Int.not_lt.2 b0))), .get _ _ _ hb, tC (by ((try simp only [sL] at *); (try unfold big at *); omega) : (decide (i < (↑(List.length (irL r)) : Int))) = true), tC (v := true) (leL 0 (decide_eq_false (Int.not_lt.2 b0))), .get _ _ _ hb, tC (v := true) (leL 0 (decide_eq_false (Int.not_lt.2 i0))), .get _ _ _ hs, tC (eqI 0 true (by ((try simp only [sL] at *); (try unfold big at *); omega) : IrS.kind s = 0)), .go 0, .len 1 2147483648 (by decide), .cl ([.int .i8 (IrS.op s), .int .i8 (IrS.w s), .int .i8 (IrS.dst s), .int .i8 (IrS.src s), .int .i8 (IrS.base s), .int .i64 (IrS.disp s), .int .i64 (IrS.imm s), .int .i8 (IrS.cc s), .int .i64 (-1), .bool false]) (by first | exact clAll rfl | exact hc | exact cl_app hc rfl)] (by kernel_rfl)
theorem dt_j (l : List (List IrS)) (q : List Int) (b i : Int) (b0 : 0 ≤ b) (b1 : b ≤ 1000) (i0 : 0 ≤ i) (i1 : i ≤ 100000) (r : List IrS) (hb : (rwL l)[Int.toNat b]? = some (.lst .no 13 (irL r))) (hrl : ((irL r).length : Int) ≤ 100000) (h : i < ((irL r).length : Int)) (s : IrS) (hs : (irL r)[Int.toNat i]? = some (IrS.d s)) (hk : s.kind = 4)  : RoundRun Try.prog (loopB Try.f67 5) ⟨[1, 4, 14, 15], [], [(11, 10), (13, 1)]⟩ 1 ((uu) :: (.lst .no 1 (rwL l)) :: (uu) :: (uu) :: (.lst .tight 0 []) :: (un 6 ++ (.lst .tight 0 []) :: (uu) :: (.lst (.tok 1 0) 1 (intsD q)) :: (.int .i64 b) :: (.int .i64 i) :: (un 162))) [.dead, .fam 0 1] .norm ((uu) :: (.lst .no 1 (rwL l)) :: (uu) :: (uu) :: (.lst .tight 0 []) :: (un 6 ++ (.slc 1 10 1) :: (uu) :: (.lst (.tok 2 0) 1 (intsD q)) :: (.int .i64 b) :: (.int .i64 (IntKind.i64.wrap (i + 1))) :: (un 162))) ([.dead, .box [.int .i8 29, .int .i8 0, .int .i8 0, .int .i8 0, .int .i8 0, .int .i64 0, .int .i64 0, .int .i8 (IrS.cc s), .int .i64 (IrS.to s), .bool false], .fam 0 1]) := by
 exact RoundRun.of_eval mixed [tC (v := true) (leL 0 (decide_eq_false (Int.not_lt.2 b0))), .get _ _ _ hb, tC (by ((try simp only [sL] at *); (try unfold big at *); omega) : (decide (i < (↑(List.length (irL r)) : Int))) = true), tC (v := true) (leL 0 (decide_eq_false (Int.not_lt.2 b0))), .get _ _ _ hb, tC (v := true) (leL 0 (decide_eq_false (Int.not_lt.2 i0))), .get _ _ _ hs, tC (by ((try simp only [sL] at *); (try unfold big at *); omega) : (IrS.kind s == 0) = false), tC (eqI 4 true (by ((try simp only [sL] at *); (try unfold big at *); omega) : IrS.kind s = 4)), .go 0, .len 1 2147483648 (by decide), .cl ([.int .i8 29, .int .i8 0, .int .i8 0, .int .i8 0, .int .i8 0, .int .i64 0, .int .i64 0, .int .i8 (IrS.cc s), .int .i64 (IrS.to s), .bool false]) (by first | exact clAll rfl | exact hc | exact cl_app hc rfl)] (by kernel_rfl)
theorem dt_g1 (l : List (List IrS)) (q : List Int) (b i : Int) (b0 : 0 ≤ b) (b1 : b ≤ 1000) (i0 : 0 ≤ i) (i1 : i ≤ 100000) (r : List IrS) (hb : (rwL l)[Int.toNat b]? = some (.lst .no 13 (irL r))) (hrl : ((irL r).length : Int) ≤ 100000) (h : i < ((irL r).length : Int)) (s : IrS) (hs : (irL r)[Int.toNat i]? = some (IrS.d s)) (hk : s.kind = 5) (hi : i + 1 < ((irL r).length : Int))  : RoundRun Try.prog (loopB Try.f67 5) ⟨[1, 4, 14, 15], [], [(11, 10), (13, 1)]⟩ 1 ((uu) :: (.lst .no 1 (rwL l)) :: (uu) :: (uu) :: (.lst .tight 0 []) :: (un 6 ++ (.lst .tight 0 []) :: (uu) :: (.lst (.tok 1 0) 1 (intsD q)) :: (.int .i64 b) :: (.int .i64 i) :: (un 162))) [.dead, .fam 0 1] .norm ((uu) :: (.lst .no 1 (rwL l)) :: (uu) :: (uu) :: (.lst .tight 0 []) :: (un 6 ++ (.slc 1 10 1) :: (uu) :: (.lst (.tok 2 0) 1 (intsD q)) :: (.int .i64 b) :: (.int .i64 (IntKind.i64.wrap (i + 1))) :: (un 162))) ([.dead, .box [.int .i8 28, .int .i8 0, .int .i8 0, .int .i8 0, .int .i8 0, .int .i64 0, .int .i64 0, .int .i8 0, .int .i64 (IrS.to s), .bool false], .fam 0 1]) := by
 exact RoundRun.of_eval mixed ([tC (v := true) (leL 0 (decide_eq_false (Int.not_lt.2 b0))), .get _ _ _ hb, tC (by ((try simp only [sL] at *); (try unfold big at *); omega) : (decide (i < (↑(List.length (irL r)) : Int))) = true), tC (v := true) (leL 0 (decide_eq_false (Int.not_lt.2 b0))), .get _ _ _ hb, tC (v := true) (leL 0 (decide_eq_false (Int.not_lt.2 i0))), .get _ _ _ hs, tC (by ((try simp only [sL] at *); (try unfold big at *); omega) : (IrS.kind s == 0) = false), tC (by ((try simp only [sL] at *); (try unfold big at *); omega) : (IrS.kind s == 4) = false), tC (eqI 5 true (by ((try simp only [sL] at *); (try unfold big at *); omega) : IrS.kind s = 5)), tC (v := true) (leL 0 (decide_eq_false (Int.not_lt.2 b0))), .get _ _ _ hb] ++ List.replicate 6 (tC (eT (by ((try simp only [sL] at *); (try unfold big at *); omega) : (i == IntKind.i64.wrap ((↑(List.length (irL r)) : Int) - 1)) = false))) ++ [tC (by ((try simp only [sL] at *); (try unfold big at *); omega) : (i == IntKind.i64.wrap ((↑(List.length (irL r)) : Int) - 1)) = false), tF, tF, tF, tF, tF, tF, tF, .go 0, .len 1 2147483648 (by decide), .cl ([.int .i8 28, .int .i8 0, .int .i8 0, .int .i8 0, .int .i8 0, .int .i64 0, .int .i64 0, .int .i8 0, .int .i64 (IrS.to s), .bool false]) (by first | exact clAll rfl | exact hc | exact cl_app hc rfl)]) (by kernel_rfl)
theorem dt_g2 (l : List (List IrS)) (q : List Int) (b i : Int) (b0 : 0 ≤ b) (b1 : b ≤ 1000) (i0 : 0 ≤ i) (i1 : i ≤ 100000) (r : List IrS) (hb : (rwL l)[Int.toNat b]? = some (.lst .no 13 (irL r))) (hrl : ((irL r).length : Int) ≤ 100000) (h : i < ((irL r).length : Int)) (s : IrS) (hs : (irL r)[Int.toNat i]? = some (IrS.d s)) (hk : s.kind = 5) (hi : i + 1 = ((irL r).length : Int)) (hn : ((irL r).length : Int) ≤ 1)  : RoundRun Try.prog (loopB Try.f67 5) ⟨[1, 4, 14, 15], [], [(11, 10), (13, 1)]⟩ 1 ((uu) :: (.lst .no 1 (rwL l)) :: (uu) :: (uu) :: (.lst .tight 0 []) :: (un 6 ++ (.lst .tight 0 []) :: (uu) :: (.lst (.tok 1 0) 1 (intsD q)) :: (.int .i64 b) :: (.int .i64 i) :: (un 162))) [.dead, .fam 0 1] .norm ((uu) :: (.lst .no 1 (rwL l)) :: (uu) :: (uu) :: (.lst .tight 0 []) :: (un 6 ++ (.slc 1 10 1) :: (uu) :: (.lst (.tok 2 0) 1 (intsD q)) :: (.int .i64 b) :: (.int .i64 (IntKind.i64.wrap (i + 1))) :: (un 162))) ([.dead, .box [.int .i8 28, .int .i8 0, .int .i8 0, .int .i8 0, .int .i8 0, .int .i64 0, .int .i64 0, .int .i8 0, .int .i64 (IrS.to s), .bool false], .fam 0 1]) := by
 exact RoundRun.of_eval mixed ([tC (v := true) (leL 0 (decide_eq_false (Int.not_lt.2 b0))), .get _ _ _ hb, tC (by ((try simp only [sL] at *); (try unfold big at *); omega) : (decide (i < (↑(List.length (irL r)) : Int))) = true), tC (v := true) (leL 0 (decide_eq_false (Int.not_lt.2 b0))), .get _ _ _ hb, tC (v := true) (leL 0 (decide_eq_false (Int.not_lt.2 i0))), .get _ _ _ hs, tC (by ((try simp only [sL] at *); (try unfold big at *); omega) : (IrS.kind s == 0) = false), tC (by ((try simp only [sL] at *); (try unfold big at *); omega) : (IrS.kind s == 4) = false), tC (eqI 5 true (by ((try simp only [sL] at *); (try unfold big at *); omega) : IrS.kind s = 5)), tC (v := true) (leL 0 (decide_eq_false (Int.not_lt.2 b0))), .get _ _ _ hb] ++ List.replicate 3 (tC (eT (by ((try simp only [sL] at *); (try unfold big at *); omega) : (i == IntKind.i64.wrap ((↑(List.length (irL r)) : Int) - 1)) = true))) ++ [tC (v := true) (leL 0 (decide_eq_false (Int.not_lt.2 b0))), .get _ _ _ hb] ++ List.replicate 3 (tC (eT (by ((try simp only [sL] at *); (try unfold big at *); omega) : (i == IntKind.i64.wrap ((↑(List.length (irL r)) : Int) - 1)) = true))) ++ [tC (by ((try simp only [sL] at *); (try unfold big at *); omega) : (i == IntKind.i64.wrap ((↑(List.length (irL r)) : Int) - 1)) = true)] ++ List.replicate 5 (tC (eT (ltL 1 (decide_eq_true (Int.lt_add_one_of_le hn))))) ++ [tC (ltL 1 (decide_eq_true (Int.lt_add_one_of_le hn))), tF, .go 0, .len 1 2147483648 (by decide), .cl ([.int .i8 28, .int .i8 0, .int .i8 0, .int .i8 0, .int .i8 0, .int .i64 0, .int .i64 0, .int .i8 0, .int .i64 (IrS.to s), .bool false]) (by first | exact clAll rfl | exact hc | exact cl_app hc rfl)]) (by kernel_rfl)
theorem du_e (l : List (List IrS)) (q : List Int) (b i : Int) (b0 : 0 ≤ b) (b1 : b ≤ 1000) (i0 : 0 ≤ i) (i1 : i ≤ 100000) (r : List IrS) (hb : (rwL l)[Int.toNat b]? = some (.lst .no 13 (irL r))) (hrl : ((irL r).length : Int) ≤ 100000) (cs : List D) (k : Nat) (hc : ∀ c ∈ cs, c.clean = true) (hl : Nat.beq cs.length (k * 10) = true) (hk : k ≤ 5000) (h : ((irL r).length : Int) ≤ i)   : (RoundRun Try.prog (loopB Try.f67 5) ⟨[1, 4, 14], [], [(11, 10), (13, 1)]⟩ 1 ((uu) :: (.lst .no 1 (rwL l)) :: (uu) :: (uu) :: (.lst .tight 0 []) :: (un 6 ++ (.slc 1 10 k) :: (uu) :: (.lst (.tok 2 0) 1 (intsD q)) :: (.int .i64 b) :: (.int .i64 i) :: (un 162))) [.dead, .box cs, .fam 0 1] (.exit 10) ((uu) :: (.lst .no 1 (rwL l)) :: (uu) :: (uu) :: (.lst .tight 0 []) :: (un 6 ++ (.slc 1 10 k) :: (uu) :: (.lst (.tok 2 0) 1 (intsD q)) :: (.int .i64 b) :: (un 163))) ([.dead, .box (List.map D.demote cs), .fam 0 1])) ∧
 (RoundRun Try.prog (loopB Try.f67 5) ⟨[1, 4, 14], [], [(11, 10), (13, 1)]⟩ 2 ((uu) :: (.lst .no 1 (rwL l)) :: (uu) :: (uu) :: (.lst .tight 0 []) :: (un 6 ++ (.slc 2 10 k) :: (uu) :: (.lst (.tok 3 0) 1 (intsD q)) :: (.int .i64 b) :: (.int .i64 i) :: (un 162))) [.dead, .dead, .box cs, .fam 0 1] (.exit 10) ((uu) :: (.lst .no 1 (rwL l)) :: (uu) :: (uu) :: (.lst .tight 0 []) :: (un 6 ++ (.slc 2 10 k) :: (uu) :: (.lst (.tok 3 0) 1 (intsD q)) :: (.int .i64 b) :: (un 163))) ([.dead, .dead, .box (List.map D.demote cs), .fam 0 1])) ∧
 (RoundRun Try.prog (loopB Try.f67 5) ⟨[1, 14], [], [(11, 10), (13, 1)]⟩ 3 ((uu) :: (.lst .no 1 (rwL l)) :: (un 9 ++ (.slc 3 10 k) :: (uu) :: (.lst (.tok 4 0) 1 (intsD q)) :: (.int .i64 b) :: (.int .i64 i) :: (un 162))) [.dead, .dead, .dead, .box cs, .fam 0 1] (.exit 10) ((uu) :: (.lst .no 1 (rwL l)) :: (un 9 ++ (.slc 3 10 k) :: (uu) :: (.lst (.tok 4 0) 1 (intsD q)) :: (.int .i64 b) :: (un 163))) ([.dead, .dead, .dead, .box (List.map D.demote cs), .fam 0 1])) := by
 refine ⟨?_, ?_, ?_⟩ <;> exact RoundRun.of_eval mixed [tC (v := true) (leL 0 (decide_eq_false (Int.not_lt.2 b0))), .get _ _ _ hb, tC (by ((try simp only [sL] at *); (try unfold big at *); omega) : (decide (i < (↑(List.length (irL r)) : Int))) = false), .cl cs (by first | exact clAll rfl | exact hc | exact cl_app hc rfl)] (by kernel_rfl)
theorem du_x (l : List (List IrS)) (q : List Int) (b i : Int) (b0 : 0 ≤ b) (b1 : b ≤ 1000) (i0 : 0 ≤ i) (i1 : i ≤ 100000) (r : List IrS) (hb : (rwL l)[Int.toNat b]? = some (.lst .no 13 (irL r))) (hrl : ((irL r).length : Int) ≤ 100000) (cs : List D) (k : Nat) (hc : ∀ c ∈ cs, c.clean = true) (hl : Nat.beq cs.length (k * 10) = true) (hkk : k ≤ 5000) (h : i < ((irL r).length : Int)) (s : IrS) (hs : (irL r)[Int.toNat i]? = some (IrS.d s)) (hk : s.kind = 0)   : (RoundRun Try.prog (loopB Try.f67 5) ⟨[1, 4, 14, 15], [], [(11, 10), (13, 1)]⟩ 1 ((uu) :: (.lst .no 1 (rwL l)) :: (uu) :: (uu) :: (.lst .tight 0 []) :: (un 6 ++ (.slc 1 10 k) :: (uu) :: (.lst (.tok 2 0) 1 (intsD q)) :: (.int .i64 b) :: (.int .i64 i) :: (un 162))) [.dead, .box cs, .fam 0 1] .norm ((uu) :: (.lst .no 1 (rwL l)) :: (uu) :: (uu) :: (.lst .tight 0 []) :: (un 6 ++ (.slc 1 10 (k + (1 : Nat))) :: (uu) :: (.lst (.tok 2 0) 1 (intsD q)) :: (.int .i64 b) :: (.int .i64 (IntKind.i64.wrap (i + 1))) :: (un 162))) ([.dead, .box (List.map D.demote (cs ++ [.int .i8 (IrS.op s), .int .i8 (IrS.w s), .int .i8 (IrS.dst s), .int .i8 (IrS.src s), .int .i8 (IrS.base s), .int .i64 (IrS.disp s), .int .i64 (IrS.imm s), .int .i8 (IrS.cc s), .int .i64 (-1), .bool false])), .fam 0 1])) ∧
 (RoundRun Try.prog (loopB Try.f67 5) ⟨[1, 4, 14, 15], [], [(11, 10), (13, 1)]⟩ 2 ((uu) :: (.lst .no 1 (rwL l)) :: (uu) :: (uu) :: (.lst .tight 0 []) :: (un 6 ++ (.slc 2 10 k) :: (uu) :: (.lst (.tok 3 0) 1 (intsD q)) :: (.int .i64 b) :: (.int .i64 i) :: (un 162))) [.dead, .dead, .box cs, .fam 0 1] .norm ((uu) :: (.lst .no 1 (rwL l)) :: (uu) :: (uu) :: (.lst .tight 0 []) :: (un 6 ++ (.slc 2 10 (k + (1 : Nat))) :: (uu) :: (.lst (.tok 3 0) 1 (intsD q)) :: (.int .i64 b) :: (.int .i64 (IntKind.i64.wrap (i + 1))) :: (un 162))) ([.dead, .dead, .box (List.map D.demote (cs ++ [.int .i8 (IrS.op s), .int .i8 (IrS.w s), .int .i8 (IrS.dst s), .int .i8 (IrS.src s), .int .i8 (IrS.base s), .int .i64 (IrS.disp s), .int .i64 (IrS.imm s), .int .i8 (IrS.cc s), .int .i64 (-1), .bool false])), .fam 0 1])) ∧
 (RoundRun Try.prog (loopB Try.f67 5) ⟨[1, 14, 15], [], [(11, 10), (13, 1)]⟩ 3 ((uu) :: (.lst .no 1 (rwL l)) :: (un 9 ++ (.slc 3 10 k) :: (uu) :: (.lst (.tok 4 0) 1 (intsD q)) :: (.int .i64 b) :: (.int .i64 i) :: (un 162))) [.dead, .dead, .dead, .box cs, .fam 0 1] .norm ((uu) :: (.lst .no 1 (rwL l)) :: (un 9 ++ (.slc 3 10 (k + (1 : Nat))) :: (uu) :: (.lst (.tok 4 0) 1 (intsD q)) :: (.int .i64 b) :: (.int .i64 (IntKind.i64.wrap (i + 1))) :: (un 162))) ([.dead, .dead, .dead, .box (List.map D.demote (cs ++ [.int .i8 (IrS.op s), .int .i8 (IrS.w s), .int .i8 (IrS.dst s), .int .i8 (IrS.src s), .int .i8 (IrS.base s), .int .i64 (IrS.disp s), .int .i64 (IrS.imm s), .int .i8 (IrS.cc s), .int .i64 (-1), .bool false])), .fam 0 1])) := by
 refine ⟨?_, ?_, ?_⟩ <;> exact RoundRun.of_eval mixed [tC (v := true) (leL 0 (decide_eq_false (Int.not_lt.2 b0))), .get _ _ _ hb, tC (by ((try simp only [sL] at *); (try unfold big at *); omega) : (decide (i < (↑(List.length (irL r)) : Int))) = true), tC (v := true) (leL 0 (decide_eq_false (Int.not_lt.2 b0))), .get _ _ _ hb, tC (v := true) (leL 0 (decide_eq_false (Int.not_lt.2 i0))), .get _ _ _ hs, tC (eqI 0 true (by ((try simp only [sL] at *); (try unfold big at *); omega) : IrS.kind s = 0)), .len (k + (1 : Nat)) ((2147483648 : Nat)) (by first | decide | omega | (simp; omega)), tC (v := true) hl, .cl (cs ++ [.int .i8 (IrS.op s), .int .i8 (IrS.w s), .int .i8 (IrS.dst s), .int .i8 (IrS.src s), .int .i8 (IrS.base s), .int .i64 (IrS.disp s), .int .i64 (IrS.imm s), .int .i8 (IrS.cc s), .int .i64 (-1), .bool false]) (by first | exact clAll rfl | exact hc | exact cl_app hc rfl)] (by kernel_rfl)
theorem du_j (l : List (List IrS)) (q : List Int) (b i : Int) (b0 : 0 ≤ b) (b1 : b ≤ 1000) (i0 : 0 ≤ i) (i1 : i ≤ 100000) (r : List IrS) (hb : (rwL l)[Int.toNat b]? = some (.lst .no 13 (irL r))) (hrl : ((irL r).length : Int) ≤ 100000) (cs : List D) (k : Nat) (hc : ∀ c ∈ cs, c.clean = true) (hl : Nat.beq cs.length (k * 10) = true) (hkk : k ≤ 5000) (h : i < ((irL r).length : Int)) (s : IrS) (hs : (irL r)[Int.toNat i]? = some (IrS.d s)) (hk : s.kind = 4)   : (RoundRun Try.prog (loopB Try.f67 5) ⟨[1, 4, 14, 15], [], [(11, 10), (13, 1)]⟩ 1 ((uu) :: (.lst .no 1 (rwL l)) :: (uu) :: (uu) :: (.lst .tight 0 []) :: (un 6 ++ (.slc 1 10 k) :: (uu) :: (.lst (.tok 2 0) 1 (intsD q)) :: (.int .i64 b) :: (.int .i64 i) :: (un 162))) [.dead, .box cs, .fam 0 1] .norm ((uu) :: (.lst .no 1 (rwL l)) :: (uu) :: (uu) :: (.lst .tight 0 []) :: (un 6 ++ (.slc 1 10 (k + (1 : Nat))) :: (uu) :: (.lst (.tok 2 0) 1 (intsD q)) :: (.int .i64 b) :: (.int .i64 (IntKind.i64.wrap (i + 1))) :: (un 162))) ([.dead, .box (List.map D.demote (cs ++ [.int .i8 29, .int .i8 0, .int .i8 0, .int .i8 0, .int .i8 0, .int .i64 0, .int .i64 0, .int .i8 (IrS.cc s), .int .i64 (IrS.to s), .bool false])), .fam 0 1])) ∧
 (RoundRun Try.prog (loopB Try.f67 5) ⟨[1, 4, 14, 15], [], [(11, 10), (13, 1)]⟩ 2 ((uu) :: (.lst .no 1 (rwL l)) :: (uu) :: (uu) :: (.lst .tight 0 []) :: (un 6 ++ (.slc 2 10 k) :: (uu) :: (.lst (.tok 3 0) 1 (intsD q)) :: (.int .i64 b) :: (.int .i64 i) :: (un 162))) [.dead, .dead, .box cs, .fam 0 1] .norm ((uu) :: (.lst .no 1 (rwL l)) :: (uu) :: (uu) :: (.lst .tight 0 []) :: (un 6 ++ (.slc 2 10 (k + (1 : Nat))) :: (uu) :: (.lst (.tok 3 0) 1 (intsD q)) :: (.int .i64 b) :: (.int .i64 (IntKind.i64.wrap (i + 1))) :: (un 162))) ([.dead, .dead, .box (List.map D.demote (cs ++ [.int .i8 29, .int .i8 0, .int .i8 0, .int .i8 0, .int .i8 0, .int .i64 0, .int .i64 0, .int .i8 (IrS.cc s), .int .i64 (IrS.to s), .bool false])), .fam 0 1])) ∧
 (RoundRun Try.prog (loopB Try.f67 5) ⟨[1, 14, 15], [], [(11, 10), (13, 1)]⟩ 3 ((uu) :: (.lst .no 1 (rwL l)) :: (un 9 ++ (.slc 3 10 k) :: (uu) :: (.lst (.tok 4 0) 1 (intsD q)) :: (.int .i64 b) :: (.int .i64 i) :: (un 162))) [.dead, .dead, .dead, .box cs, .fam 0 1] .norm ((uu) :: (.lst .no 1 (rwL l)) :: (un 9 ++ (.slc 3 10 (k + (1 : Nat))) :: (uu) :: (.lst (.tok 4 0) 1 (intsD q)) :: (.int .i64 b) :: (.int .i64 (IntKind.i64.wrap (i + 1))) :: (un 162))) ([.dead, .dead, .dead, .box (List.map D.demote (cs ++ [.int .i8 29, .int .i8 0, .int .i8 0, .int .i8 0, .int .i8 0, .int .i64 0, .int .i64 0, .int .i8 (IrS.cc s), .int .i64 (IrS.to s), .bool false])), .fam 0 1])) := by
 refine ⟨?_, ?_, ?_⟩ <;> exact RoundRun.of_eval mixed [tC (v := true) (leL 0 (decide_eq_false (Int.not_lt.2 b0))), .get _ _ _ hb, tC (by ((try simp only [sL] at *); (try unfold big at *); omega) : (decide (i < (↑(List.length (irL r)) : Int))) = true), tC (v := true) (leL 0 (decide_eq_false (Int.not_lt.2 b0))), .get _ _ _ hb, tC (v := true) (leL 0 (decide_eq_false (Int.not_lt.2 i0))), .get _ _ _ hs, tC (by ((try simp only [sL] at *); (try unfold big at *); omega) : (IrS.kind s == 0) = false), tC (eqI 4 true (by ((try simp only [sL] at *); (try unfold big at *); omega) : IrS.kind s = 4)), .len (k + (1 : Nat)) ((2147483648 : Nat)) (by first | decide | omega | (simp; omega)), tC (v := true) hl, .cl (cs ++ [.int .i8 29, .int .i8 0, .int .i8 0, .int .i8 0, .int .i8 0, .int .i64 0, .int .i64 0, .int .i8 (IrS.cc s), .int .i64 (IrS.to s), .bool false]) (by first | exact clAll rfl | exact hc | exact cl_app hc rfl)] (by kernel_rfl)
theorem du_g1 (l : List (List IrS)) (q : List Int) (b i : Int) (b0 : 0 ≤ b) (b1 : b ≤ 1000) (i0 : 0 ≤ i) (i1 : i ≤ 100000) (r : List IrS) (hb : (rwL l)[Int.toNat b]? = some (.lst .no 13 (irL r))) (hrl : ((irL r).length : Int) ≤ 100000) (cs : List D) (k : Nat) (hc : ∀ c ∈ cs, c.clean = true) (hl : Nat.beq cs.length (k * 10) = true) (hkk : k ≤ 5000) (h : i < ((irL r).length : Int)) (s : IrS) (hs : (irL r)[Int.toNat i]? = some (IrS.d s)) (hk : s.kind = 5) (hi : i + 1 < ((irL r).length : Int))   : (RoundRun Try.prog (loopB Try.f67 5) ⟨[1, 4, 14, 15], [], [(11, 10), (13, 1)]⟩ 1 ((uu) :: (.lst .no 1 (rwL l)) :: (uu) :: (uu) :: (.lst .tight 0 []) :: (un 6 ++ (.slc 1 10 k) :: (uu) :: (.lst (.tok 2 0) 1 (intsD q)) :: (.int .i64 b) :: (.int .i64 i) :: (un 162))) [.dead, .box cs, .fam 0 1] .norm ((uu) :: (.lst .no 1 (rwL l)) :: (uu) :: (uu) :: (.lst .tight 0 []) :: (un 6 ++ (.slc 1 10 (k + (1 : Nat))) :: (uu) :: (.lst (.tok 2 0) 1 (intsD q)) :: (.int .i64 b) :: (.int .i64 (IntKind.i64.wrap (i + 1))) :: (un 162))) ([.dead, .box (List.map D.demote (cs ++ [.int .i8 28, .int .i8 0, .int .i8 0, .int .i8 0, .int .i8 0, .int .i64 0, .int .i64 0, .int .i8 0, .int .i64 (IrS.to s), .bool false])), .fam 0 1])) ∧
 (RoundRun Try.prog (loopB Try.f67 5) ⟨[1, 4, 14, 15], [], [(11, 10), (13, 1)]⟩ 2 ((uu) :: (.lst .no 1 (rwL l)) :: (uu) :: (uu) :: (.lst .tight 0 []) :: (un 6 ++ (.slc 2 10 k) :: (uu) :: (.lst (.tok 3 0) 1 (intsD q)) :: (.int .i64 b) :: (.int .i64 i) :: (un 162))) [.dead, .dead, .box cs, .fam 0 1] .norm ((uu) :: (.lst .no 1 (rwL l)) :: (uu) :: (uu) :: (.lst .tight 0 []) :: (un 6 ++ (.slc 2 10 (k + (1 : Nat))) :: (uu) :: (.lst (.tok 3 0) 1 (intsD q)) :: (.int .i64 b) :: (.int .i64 (IntKind.i64.wrap (i + 1))) :: (un 162))) ([.dead, .dead, .box (List.map D.demote (cs ++ [.int .i8 28, .int .i8 0, .int .i8 0, .int .i8 0, .int .i8 0, .int .i64 0, .int .i64 0, .int .i8 0, .int .i64 (IrS.to s), .bool false])), .fam 0 1])) ∧
 (RoundRun Try.prog (loopB Try.f67 5) ⟨[1, 14, 15], [], [(11, 10), (13, 1)]⟩ 3 ((uu) :: (.lst .no 1 (rwL l)) :: (un 9 ++ (.slc 3 10 k) :: (uu) :: (.lst (.tok 4 0) 1 (intsD q)) :: (.int .i64 b) :: (.int .i64 i) :: (un 162))) [.dead, .dead, .dead, .box cs, .fam 0 1] .norm ((uu) :: (.lst .no 1 (rwL l)) :: (un 9 ++ (.slc 3 10 (k + (1 : Nat))) :: (uu) :: (.lst (.tok 4 0) 1 (intsD q)) :: (.int .i64 b) :: (.int .i64 (IntKind.i64.wrap (i + 1))) :: (un 162))) ([.dead, .dead, .dead, .box (List.map D.demote (cs ++ [.int .i8 28, .int .i8 0, .int .i8 0, .int .i8 0, .int .i8 0, .int .i64 0, .int .i64 0, .int .i8 0, .int .i64 (IrS.to s), .bool false])), .fam 0 1])) := by
 refine ⟨?_, ?_, ?_⟩ <;> exact RoundRun.of_eval mixed ([tC (v := true) (leL 0 (decide_eq_false (Int.not_lt.2 b0))), .get _ _ _ hb, tC (by ((try simp only [sL] at *); (try unfold big at *); omega) : (decide (i < (↑(List.length (irL r)) : Int))) = true), tC (v := true) (leL 0 (decide_eq_false (Int.not_lt.2 b0))), .get _ _ _ hb, tC (v := true) (leL 0 (decide_eq_false (Int.not_lt.2 i0))), .get _ _ _ hs, tC (by ((try simp only [sL] at *); (try unfold big at *); omega) : (IrS.kind s == 0) = false), tC (by ((try simp only [sL] at *); (try unfold big at *); omega) : (IrS.kind s == 4) = false), tC (eqI 5 true (by ((try simp only [sL] at *); (try unfold big at *); omega) : IrS.kind s = 5)), tC (v := true) (leL 0 (decide_eq_false (Int.not_lt.2 b0))), .get _ _ _ hb, tC (eT (by ((try simp only [sL] at *); (try unfold big at *); omega) : (i == IntKind.i64.wrap ((↑(List.length (irL r)) : Int) - 1)) = false)), tC (eT (by ((try simp only [sL] at *); (try unfold big at *); omega) : (i == IntKind.i64.wrap ((↑(List.length (irL r)) : Int) - 1)) = false)), tC (eT (by ((try simp only [sL] at *); (try unfold big at *); omega) : (i == IntKind.i64.wrap ((↑(List.length (irL r)) : Int) - 1)) = false)), tC (eT (by ((try simp only [sL] at *); (try unfold big at *); omega) : (i == IntKind.i64.wrap ((↑(List.length (irL r)) : Int) - 1)) = false))] ++ [tC (eT (by ((try simp only [sL] at *); (try unfold big at *); omega) : (i == IntKind.i64.wrap ((↑(List.length (irL r)) : Int) - 1)) = false)), tC (eT (by ((try simp only [sL] at *); (try unfold big at *); omega) : (i == IntKind.i64.wrap ((↑(List.length (irL r)) : Int) - 1)) = false)), tC (by ((try simp only [sL] at *); (try unfold big at *); omega) : (i == IntKind.i64.wrap ((↑(List.length (irL r)) : Int) - 1)) = false), tF, tF, tF, tF, tF, tF, tF, .len (k + (1 : Nat)) ((2147483648 : Nat)) (by first | decide | omega | (simp; omega)), tC (v := true) hl, .cl (cs ++ [.int .i8 28, .int .i8 0, .int .i8 0, .int .i8 0, .int .i8 0, .int .i64 0, .int .i64 0, .int .i8 0, .int .i64 (IrS.to s), .bool false]) (by first | exact clAll rfl | exact hc | exact cl_app hc rfl)]) (by kernel_rfl)
theorem du_g2 (l : List (List IrS)) (q : List Int) (b i : Int) (b0 : 0 ≤ b) (b1 : b ≤ 1000) (i0 : 0 ≤ i) (i1 : i ≤ 100000) (r : List IrS) (hb : (rwL l)[Int.toNat b]? = some (.lst .no 13 (irL r))) (hrl : ((irL r).length : Int) ≤ 100000) (cs : List D) (k : Nat) (hc : ∀ c ∈ cs, c.clean = true) (hl : Nat.beq cs.length (k * 10) = true) (hkk : k ≤ 5000) (h : i < ((irL r).length : Int)) (s : IrS) (hs : (irL r)[Int.toNat i]? = some (IrS.d s)) (hk : s.kind = 5) (hi : i + 1 = ((irL r).length : Int)) (hn : ((irL r).length : Int) ≤ 1)   : (RoundRun Try.prog (loopB Try.f67 5) ⟨[1, 4, 14, 15], [], [(11, 10), (13, 1)]⟩ 1 ((uu) :: (.lst .no 1 (rwL l)) :: (uu) :: (uu) :: (.lst .tight 0 []) :: (un 6 ++ (.slc 1 10 k) :: (uu) :: (.lst (.tok 2 0) 1 (intsD q)) :: (.int .i64 b) :: (.int .i64 i) :: (un 162))) [.dead, .box cs, .fam 0 1] .norm ((uu) :: (.lst .no 1 (rwL l)) :: (uu) :: (uu) :: (.lst .tight 0 []) :: (un 6 ++ (.slc 1 10 (k + (1 : Nat))) :: (uu) :: (.lst (.tok 2 0) 1 (intsD q)) :: (.int .i64 b) :: (.int .i64 (IntKind.i64.wrap (i + 1))) :: (un 162))) ([.dead, .box (List.map D.demote (cs ++ [.int .i8 28, .int .i8 0, .int .i8 0, .int .i8 0, .int .i8 0, .int .i64 0, .int .i64 0, .int .i8 0, .int .i64 (IrS.to s), .bool false])), .fam 0 1])) ∧
 (RoundRun Try.prog (loopB Try.f67 5) ⟨[1, 4, 14, 15], [], [(11, 10), (13, 1)]⟩ 2 ((uu) :: (.lst .no 1 (rwL l)) :: (uu) :: (uu) :: (.lst .tight 0 []) :: (un 6 ++ (.slc 2 10 k) :: (uu) :: (.lst (.tok 3 0) 1 (intsD q)) :: (.int .i64 b) :: (.int .i64 i) :: (un 162))) [.dead, .dead, .box cs, .fam 0 1] .norm ((uu) :: (.lst .no 1 (rwL l)) :: (uu) :: (uu) :: (.lst .tight 0 []) :: (un 6 ++ (.slc 2 10 (k + (1 : Nat))) :: (uu) :: (.lst (.tok 3 0) 1 (intsD q)) :: (.int .i64 b) :: (.int .i64 (IntKind.i64.wrap (i + 1))) :: (un 162))) ([.dead, .dead, .box (List.map D.demote (cs ++ [.int .i8 28, .int .i8 0, .int .i8 0, .int .i8 0, .int .i8 0, .int .i64 0, .int .i64 0, .int .i8 0, .int .i64 (IrS.to s), .bool false])), .fam 0 1])) ∧
 (RoundRun Try.prog (loopB Try.f67 5) ⟨[1, 14, 15], [], [(11, 10), (13, 1)]⟩ 3 ((uu) :: (.lst .no 1 (rwL l)) :: (un 9 ++ (.slc 3 10 k) :: (uu) :: (.lst (.tok 4 0) 1 (intsD q)) :: (.int .i64 b) :: (.int .i64 i) :: (un 162))) [.dead, .dead, .dead, .box cs, .fam 0 1] .norm ((uu) :: (.lst .no 1 (rwL l)) :: (un 9 ++ (.slc 3 10 (k + (1 : Nat))) :: (uu) :: (.lst (.tok 4 0) 1 (intsD q)) :: (.int .i64 b) :: (.int .i64 (IntKind.i64.wrap (i + 1))) :: (un 162))) ([.dead, .dead, .dead, .box (List.map D.demote (cs ++ [.int .i8 28, .int .i8 0, .int .i8 0, .int .i8 0, .int .i8 0, .int .i64 0, .int .i64 0, .int .i8 0, .int .i64 (IrS.to s), .bool false])), .fam 0 1])) := by
 refine ⟨?_, ?_, ?_⟩ <;> exact RoundRun.of_eval mixed ([tC (v := true) (leL 0 (decide_eq_false (Int.not_lt.2 b0))), .get _ _ _ hb, tC (by ((try simp only [sL] at *); (try unfold big at *); omega) : (decide (i < (↑(List.length (irL r)) : Int))) = true), tC (v := true) (leL 0 (decide_eq_false (Int.not_lt.2 b0))), .get _ _ _ hb, tC (v := true) (leL 0 (decide_eq_false (Int.not_lt.2 i0))), .get _ _ _ hs, tC (by ((try simp only [sL] at *); (try unfold big at *); omega) : (IrS.kind s == 0) = false), tC (by ((try simp only [sL] at *); (try unfold big at *); omega) : (IrS.kind s == 4) = false), tC (eqI 5 true (by ((try simp only [sL] at *); (try unfold big at *); omega) : IrS.kind s = 5)), tC (v := true) (leL 0 (decide_eq_false (Int.not_lt.2 b0))), .get _ _ _ hb, tC (eT (by ((try simp only [sL] at *); (try unfold big at *); omega) : (i == IntKind.i64.wrap ((↑(List.length (irL r)) : Int) - 1)) = true)), tC (eT (by ((try simp only [sL] at *); (try unfold big at *); omega) : (i == IntKind.i64.wrap ((↑(List.length (irL r)) : Int) - 1)) = true)), tC (eT (by ((try simp only [sL] at *); (try unfold big at *); omega) : (i == IntKind.i64.wrap ((↑(List.length (irL r)) : Int) - 1)) = true)), tC (v := true) (leL 0 (decide_eq_false (Int.not_lt.2 b0)))] ++ [.get _ _ _ hb, tC (eT (by ((try simp only [sL] at *); (try unfold big at *); omega) : (i == IntKind.i64.wrap ((↑(List.length (irL r)) : Int) - 1)) = true)), tC (eT (by ((try simp only [sL] at *); (try unfold big at *); omega) : (i == IntKind.i64.wrap ((↑(List.length (irL r)) : Int) - 1)) = true)), tC (eT (by ((try simp only [sL] at *); (try unfold big at *); omega) : (i == IntKind.i64.wrap ((↑(List.length (irL r)) : Int) - 1)) = true)), tC (by ((try simp only [sL] at *); (try unfold big at *); omega) : (i == IntKind.i64.wrap ((↑(List.length (irL r)) : Int) - 1)) = true), tC (eT (ltL 1 (decide_eq_true (Int.lt_add_one_of_le hn)))), tC (eT (ltL 1 (decide_eq_true (Int.lt_add_one_of_le hn)))), tC (eT (ltL 1 (decide_eq_true (Int.lt_add_one_of_le hn)))), tC (eT (ltL 1 (decide_eq_true (Int.lt_add_one_of_le hn)))), tC (eT (ltL 1 (decide_eq_true (Int.lt_add_one_of_le hn)))), tC (ltL 1 (decide_eq_true (Int.lt_add_one_of_le hn))), tF, .len (k + (1 : Nat)) ((2147483648 : Nat)) (by first | decide | omega | (simp; omega)), tC (v := true) hl, .cl (cs ++ [.int .i8 28, .int .i8 0, .int .i8 0, .int .i8 0, .int .i8 0, .int .i64 0, .int .i64 0, .int .i8 0, .int .i64 (IrS.to s), .bool false]) (by first | exact clAll rfl | exact hc | exact cl_app hc rfl)]) (by kernel_rfl)
theorem du_g3 (l : List (List IrS)) (q : List Int) (b i : Int) (b0 : 0 ≤ b) (b1 : b ≤ 1000) (i0 : 0 ≤ i) (i1 : i ≤ 100000) (r : List IrS) (hb : (rwL l)[Int.toNat b]? = some (.lst .no 13 (irL r))) (hrl : ((irL r).length : Int) ≤ 100000) (cs : List D) (k : Nat) (hc : ∀ c ∈ cs, c.clean = true) (hl : Nat.beq cs.length (k * 10) = true) (hkk : k ≤ 5000) (h : i < ((irL r).length : Int)) (s : IrS) (hs : (irL r)[Int.toNat i]? = some (IrS.d s)) (hk : s.kind = 5) (hi : i + 1 = ((irL r).length : Int)) (hn : 1 < ((irL r).length : Int)) (ht : s.to ≠ b + 1)   : (RoundRun Try.prog (loopB Try.f67 5) ⟨[1, 4, 14, 15], [], [(11, 10), (13, 1)]⟩ 1 ((uu) :: (.lst .no 1 (rwL l)) :: (uu) :: (uu) :: (.lst .tight 0 []) :: (un 6 ++ (.slc 1 10 k) :: (uu) :: (.lst (.tok 2 0) 1 (intsD q)) :: (.int .i64 b) :: (.int .i64 i) :: (un 162))) [.dead, .box cs, .fam 0 1] .norm ((uu) :: (.lst .no 1 (rwL l)) :: (uu) :: (uu) :: (.lst .tight 0 []) :: (un 6 ++ (.slc 1 10 (k + (1 : Nat))) :: (uu) :: (.lst (.tok 2 0) 1 (intsD q)) :: (.int .i64 b) :: (.int .i64 (IntKind.i64.wrap (i + 1))) :: (un 162))) ([.dead, .box (List.map D.demote (cs ++ [.int .i8 28, .int .i8 0, .int .i8 0, .int .i8 0, .int .i8 0, .int .i64 0, .int .i64 0, .int .i8 0, .int .i64 (IrS.to s), .bool false])), .fam 0 1])) ∧
 (RoundRun Try.prog (loopB Try.f67 5) ⟨[1, 4, 14, 15], [], [(11, 10), (13, 1)]⟩ 2 ((uu) :: (.lst .no 1 (rwL l)) :: (uu) :: (uu) :: (.lst .tight 0 []) :: (un 6 ++ (.slc 2 10 k) :: (uu) :: (.lst (.tok 3 0) 1 (intsD q)) :: (.int .i64 b) :: (.int .i64 i) :: (un 162))) [.dead, .dead, .box cs, .fam 0 1] .norm ((uu) :: (.lst .no 1 (rwL l)) :: (uu) :: (uu) :: (.lst .tight 0 []) :: (un 6 ++ (.slc 2 10 (k + (1 : Nat))) :: (uu) :: (.lst (.tok 3 0) 1 (intsD q)) :: (.int .i64 b) :: (.int .i64 (IntKind.i64.wrap (i + 1))) :: (un 162))) ([.dead, .dead, .box (List.map D.demote (cs ++ [.int .i8 28, .int .i8 0, .int .i8 0, .int .i8 0, .int .i8 0, .int .i64 0, .int .i64 0, .int .i8 0, .int .i64 (IrS.to s), .bool false])), .fam 0 1])) ∧
 (RoundRun Try.prog (loopB Try.f67 5) ⟨[1, 14, 15], [], [(11, 10), (13, 1)]⟩ 3 ((uu) :: (.lst .no 1 (rwL l)) :: (un 9 ++ (.slc 3 10 k) :: (uu) :: (.lst (.tok 4 0) 1 (intsD q)) :: (.int .i64 b) :: (.int .i64 i) :: (un 162))) [.dead, .dead, .dead, .box cs, .fam 0 1] .norm ((uu) :: (.lst .no 1 (rwL l)) :: (un 9 ++ (.slc 3 10 (k + (1 : Nat))) :: (uu) :: (.lst (.tok 4 0) 1 (intsD q)) :: (.int .i64 b) :: (.int .i64 (IntKind.i64.wrap (i + 1))) :: (un 162))) ([.dead, .dead, .dead, .box (List.map D.demote (cs ++ [.int .i8 28, .int .i8 0, .int .i8 0, .int .i8 0, .int .i8 0, .int .i64 0, .int .i64 0, .int .i8 0, .int .i64 (IrS.to s), .bool false])), .fam 0 1])) := by
 refine ⟨?_, ?_, ?_⟩ <;> exact RoundRun.of_eval mixed ([tC (v := true) (leL 0 (decide_eq_false (Int.not_lt.2 b0))), .get _ _ _ hb, tC (by ((try simp only [sL] at *); (try unfold big at *); omega) : (decide (i < (↑(List.length (irL r)) : Int))) = true), tC (v := true) (leL 0 (decide_eq_false (Int.not_lt.2 b0))), .get _ _ _ hb, tC (v := true) (leL 0 (decide_eq_false (Int.not_lt.2 i0))), .get _ _ _ hs, tC (by ((try simp only [sL] at *); (try unfold big at *); omega) : (IrS.kind s == 0) = false), tC (by ((try simp only [sL] at *); (try unfold big at *); omega) : (IrS.kind s == 4) = false), tC (eqI 5 true (by ((try simp only [sL] at *); (try unfold big at *); omega) : IrS.kind s = 5)), tC (v := true) (leL 0 (decide_eq_false (Int.not_lt.2 b0))), .get _ _ _ hb, tC (eT (by ((try simp only [sL] at *); (try unfold big at *); omega) : (i == IntKind.i64.wrap ((↑(List.length (irL r)) : Int) - 1)) = true)), tC (eT (by ((try simp only [sL] at *); (try unfold big at *); omega) : (i == IntKind.i64.wrap ((↑(List.length (irL r)) : Int) - 1)) = true)), tC (eT (by ((try simp only [sL] at *); (try unfold big at *); omega) : (i == IntKind.i64.wrap ((↑(List.length (irL r)) : Int) - 1)) = true)), tC (v := true) (leL 0 (decide_eq_false (Int.not_lt.2 b0)))] ++ [.get _ _ _ hb, tC (eT (by ((try simp only [sL] at *); (try unfold big at *); omega) : (i == IntKind.i64.wrap ((↑(List.length (irL r)) : Int) - 1)) = true)), tC (eT (by ((try simp only [sL] at *); (try unfold big at *); omega) : (i == IntKind.i64.wrap ((↑(List.length (irL r)) : Int) - 1)) = true)), tC (eT (by ((try simp only [sL] at *); (try unfold big at *); omega) : (i == IntKind.i64.wrap ((↑(List.length (irL r)) : Int) - 1)) = true)), tC (by ((try simp only [sL] at *); (try unfold big at *); omega) : (i == IntKind.i64.wrap ((↑(List.length (irL r)) : Int) - 1)) = true), tC (eT (ltL 1 (decide_eq_false (by omega : ¬ (↑(List.length (irL r)) : Int) < 2)))), tC (eT (ltL 1 (decide_eq_false (by omega : ¬ (↑(List.length (irL r)) : Int) < 2)))), tC (eT (ltL 1 (decide_eq_false (by omega : ¬ (↑(List.length (irL r)) : Int) < 2)))), tC (eT (ltL 1 (decide_eq_false (by omega : ¬ (↑(List.length (irL r)) : Int) < 2)))), tC (eT (ltL 1 (decide_eq_false (by omega : ¬ (↑(List.length (irL r)) : Int) < 2)))), tC (ltL 1 (decide_eq_false (by omega : ¬ (↑(List.length (irL r)) : Int) < 2))), tC (by ((try simp only [sL] at *); (try unfold big at *); omega) : (IrS.to s == IntKind.i64.wrap (b + 1)) = false), .len (k + (1 : Nat)) ((2147483648 : Nat)) (by first | decide | omega | (simp; omega)), tC (v := true) hl, .cl (cs ++ [.int .i8 28, .int .i8 0, .int .i8 0, .int .i8 0, .int .i8 0, .int .i64 0, .int .i64 0, .int .i8 0, .int .i64 (IrS.to s), .bool false]) (by first | exact clAll rfl | exact hc | exact cl_app hc rfl)]) (by kernel_rfl)
theorem du_s (l : List (List IrS)) (q : List Int) (b i : Int) (b0 : 0 ≤ b) (b1 : b ≤ 1000) (i0 : 0 ≤ i) (i1 : i ≤ 100000) (r : List IrS) (hb : (rwL l)[Int.toNat b]? = some (.lst .no 13 (irL r))) (hrl : ((irL r).length : Int) ≤ 100000) (cs : List D) (k : Nat) (hc : ∀ c ∈ cs, c.clean = true) (hl : Nat.beq cs.length (k * 10) = true) (hkk : k ≤ 5000) (h : i < ((irL r).length : Int)) (s : IrS) (hs : (irL r)[Int.toNat i]? = some (IrS.d s)) (hk : s.kind = 5) (hi : i + 1 = ((irL r).length : Int)) (hn : 1 < ((irL r).length : Int)) (ht : s.to = b + 1)   : (RoundRun Try.prog (loopB Try.f67 5) ⟨[1, 4, 14, 15], [], [(11, 10), (13, 1)]⟩ 1 ((uu) :: (.lst .no 1 (rwL l)) :: (uu) :: (uu) :: (.lst .tight 0 []) :: (un 6 ++ (.slc 1 10 k) :: (uu) :: (.lst (.tok 2 0) 1 (intsD q)) :: (.int .i64 b) :: (.int .i64 i) :: (un 162))) [.dead, .box cs, .fam 0 1] .norm ((uu) :: (.lst .no 1 (rwL l)) :: (uu) :: (uu) :: (.lst .tight 0 []) :: (un 6 ++ (.slc 1 10 k) :: (uu) :: (.lst (.tok 2 0) 1 (intsD q)) :: (.int .i64 b) :: (.int .i64 (IntKind.i64.wrap (i + 1))) :: (un 162))) ([.dead, .box (List.map D.demote cs), .fam 0 1])) ∧
 (RoundRun Try.prog (loopB Try.f67 5) ⟨[1, 4, 14, 15], [], [(11, 10), (13, 1)]⟩ 2 ((uu) :: (.lst .no 1 (rwL l)) :: (uu) :: (uu) :: (.lst .tight 0 []) :: (un 6 ++ (.slc 2 10 k) :: (uu) :: (.lst (.tok 3 0) 1 (intsD q)) :: (.int .i64 b) :: (.int .i64 i) :: (un 162))) [.dead, .dead, .box cs, .fam 0 1] .norm ((uu) :: (.lst .no 1 (rwL l)) :: (uu) :: (uu) :: (.lst .tight 0 []) :: (un 6 ++ (.slc 2 10 k) :: (uu) :: (.lst (.tok 3 0) 1 (intsD q)) :: (.int .i64 b) :: (.int .i64 (IntKind.i64.wrap (i + 1))) :: (un 162))) ([.dead, .dead, .box (List.map D.demote cs), .fam 0 1])) ∧
 (RoundRun Try.prog (loopB Try.f67 5) ⟨[1, 14, 15], [], [(11, 10), (13, 1)]⟩ 3 ((uu) :: (.lst .no 1 (rwL l)) :: (un 9 ++ (.slc 3 10 k) :: (uu) :: (.lst (.tok 4 0) 1 (intsD q)) :: (.int .i64 b) :: (.int .i64 i) :: (un 162))) [.dead, .dead, .dead, .box cs, .fam 0 1] .norm ((uu) :: (.lst .no 1 (rwL l)) :: (un 9 ++ (.slc 3 10 k) :: (uu) :: (.lst (.tok 4 0) 1 (intsD q)) :: (.int .i64 b) :: (.int .i64 (IntKind.i64.wrap (i + 1))) :: (un 162))) ([.dead, .dead, .dead, .box (List.map D.demote cs), .fam 0 1])) := by
 refine ⟨?_, ?_, ?_⟩ <;> exact RoundRun.of_eval mixed ([tC (v := true) (leL 0 (decide_eq_false (Int.not_lt.2 b0))), .get _ _ _ hb, tC (by ((try simp only [sL] at *); (try unfold big at *); omega) : (decide (i < (↑(List.length (irL r)) : Int))) = true), tC (v := true) (leL 0 (decide_eq_false (Int.not_lt.2 b0))), .get _ _ _ hb, tC (v := true) (leL 0 (decide_eq_false (Int.not_lt.2 i0))), .get _ _ _ hs, tC (by ((try simp only [sL] at *); (try unfold big at *); omega) : (IrS.kind s == 0) = false), tC (by ((try simp only [sL] at *); (try unfold big at *); omega) : (IrS.kind s == 4) = false), tC (eqI 5 true (by ((try simp only [sL] at *); (try unfold big at *); omega) : IrS.kind s = 5)), tC (v := true) (leL 0 (decide_eq_false (Int.not_lt.2 b0))), .get _ _ _ hb, tC (eT (by ((try simp only [sL] at *); (try unfold big at *); omega) : (i == IntKind.i64.wrap ((↑(List.length (irL r)) : Int) - 1)) = true)), tC (eT (by ((try simp only [sL] at *); (try unfold big at *); omega) : (i == IntKind.i64.wrap ((↑(List.length (irL r)) : Int) - 1)) = true)), tC (eT (by ((try simp only [sL] at *); (try unfold big at *); omega) : (i == IntKind.i64.wrap ((↑(List.length (irL r)) : Int) - 1)) = true)), tC (v := true) (leL 0 (decide_eq_false (Int.not_lt.2 b0)))] ++ [.get _ _ _ hb, tC (eT (by ((try simp only [sL] at *); (try unfold big at *); omega) : (i == IntKind.i64.wrap ((↑(List.length (irL r)) : Int) - 1)) = true)), tC (eT (by ((try simp only [sL] at *); (try unfold big at *); omega) : (i == IntKind.i64.wrap ((↑(List.length (irL r)) : Int) - 1)) = true)), tC (eT (by ((try simp only [sL] at *); (try unfold big at *); omega) : (i == IntKind.i64.wrap ((↑(List.length (irL r)) : Int) - 1)) = true)), tC (by ((try simp only [sL] at *); (try unfold big at *); omega) : (i == IntKind.i64.wrap ((↑(List.length (irL r)) : Int) - 1)) = true), tC (eT (ltL 1 (decide_eq_false (by omega : ¬ (↑(List.length (irL r)) : Int) < 2)))), tC (eT (ltL 1 (decide_eq_false (by omega : ¬ (↑(List.length (irL r)) : Int) < 2)))), tC (eT (ltL 1 (decide_eq_false (by omega : ¬ (↑(List.length (irL r)) : Int) < 2)))), tC (eT (ltL 1 (decide_eq_false (by omega : ¬ (↑(List.length (irL r)) : Int) < 2)))), tC (eT (ltL 1 (decide_eq_false (by omega : ¬ (↑(List.length (irL r)) : Int) < 2)))), tC (ltL 1 (decide_eq_false (by omega : ¬ (↑(List.length (irL r)) : Int) < 2))), tC (by ((try simp only [sL] at *); (try unfold big at *); omega) : (IrS.to s == IntKind.i64.wrap (b + 1)) = true), .cl cs (by first | exact clAll rfl | exact hc | exact cl_app hc rfl)]) (by kernel_rfl)
theorem dp_end (pro : List XS) (l : List (List IrS)) (n b : Int) (b0 : 0 ≤ b) (b1 : b ≤ 1000) (n0 : 0 ≤ n) (n1 : n ≤ 1000000) (h : ((rwL l).length : Int) ≤ b)  : RoundRun Try.prog (loopB Try.f67 1) ⟨[0, 1, 4, 7], [], []⟩ 0 ((.lst .no 8 (xsL pro)) :: (.lst .no 1 (rwL l)) :: (D.undef) :: (D.undef) :: (.lst .tight 0 []) :: (D.undef) :: (D.undef) :: (.int .i64 n) :: (D.undef) :: (.int .i64 b) :: (un 168)) [] (.exit 2) ((.lst .no 8 (xsL pro)) :: (.lst .no 1 (rwL l)) :: (D.undef) :: (D.undef) :: (.lst .tight 0 []) :: (D.undef) :: (D.undef) :: (.int .i64 n) :: (un 170)) ([]) := by
 exact RoundRun.of_eval mixed [tC (by ((try simp only [sL] at *); (try unfold big at *); omega) : (decide (b < (↑(List.length (rwL l)) : Int))) = false)] (by kernel_rfl)
theorem dp_in (pro : List XS) (l : List (List IrS)) (n b : Int) (b0 : 0 ≤ b) (b1 : b ≤ 1000) (n0 : 0 ≤ n) (n1 : n ≤ 1000000) (h : b < ((rwL l).length : Int)) (r : List IrS) (hr : ((irL r).length : Int) ≤ 100000) (hb : (rwL l)[Int.toNat b]? = some (.lst .no 13 (irL r))) (hlo : LoopRun Try.prog 0 (.loop (loopB Try.f67 2)) (dsT pro l (IntKind.i64.wrap (n + ((irL r).length : Int))) b 0) [] (.exit 4) (dsU pro l (IntKind.i64.wrap (n + ((irL r).length : Int))) b) [])  : RoundRun Try.prog (loopB Try.f67 1) ⟨[0, 1, 4, 7, 9], [], []⟩ 0 ((.lst .no 8 (xsL pro)) :: (.lst .no 1 (rwL l)) :: (D.undef) :: (D.undef) :: (.lst .tight 0 []) :: (D.undef) :: (D.undef) :: (.int .i64 n) :: (D.undef) :: (.int .i64 b) :: (un 168)) [] .norm ((.lst .no 8 (xsL pro)) :: (.lst .no 1 (rwL l)) :: (D.undef) :: (D.undef) :: (.lst .tight 0 []) :: (D.undef) :: (D.undef) :: (.int .i64 (IntKind.i64.wrap (n + (↑(List.length (irL r)) : Int)))) :: (D.undef) :: (.int .i64 (IntKind.i64.wrap (b + (1 : Int)))) :: (un 168)) ([]) := by
 have c0 := @run_id (nat_lit 0) _ (((.lst .no 8 (xsL pro)) :: (.lst .no 1 (rwL l)) :: (D.undef) :: (D.undef) :: (.lst .tight 0 []) :: (D.undef) :: (D.undef) :: (.int .i64 (IntKind.i64.wrap (n + (↑(List.length (irL r)) : Int)))) :: (D.undef) :: (.int .i64 b) :: (.int .i64 0) :: (un 167))) ([]) _ _ _ hlo
 exact RoundRun.of_eval mixed [tC (by ((try simp only [sL] at *); (try unfold big at *); omega) : (decide (b < (↑(List.length (rwL l)) : Int))) = true), tC (v := true) (leL 0 (decide_eq_false (Int.not_lt.2 b0))), .get _ _ _ hb, .head ⟨[0, 1, 4, 7, 9, 10], [], []⟩ _ _ _ _ _ _ _ c0] (by kernel_rfl)
theorem dp_bad (pro : List XS) (l : List (List IrS)) (n b : Int) (b0 : 0 ≤ b) (b1 : b ≤ 1000) (n0 : 0 ≤ n) (n1 : n ≤ 1000000) (h : b < ((rwL l).length : Int)) (r : List IrS) (hr : ((irL r).length : Int) ≤ 100000) (hb : (rwL l)[Int.toNat b]? = some (.lst .no 13 (irL r))) (hlo : LoopRun Try.prog 0 (.loop (loopB Try.f67 2)) (dsT pro l (IntKind.i64.wrap (n + ((irL r).length : Int))) b 0) [] .ret dqE [])  : RoundRun Try.prog (loopB Try.f67 1) ⟨[4, 5, 6], [], []⟩ 0 ((.lst .no 8 (xsL pro)) :: (.lst .no 1 (rwL l)) :: (D.undef) :: (D.undef) :: (.lst .tight 0 []) :: (D.undef) :: (D.undef) :: (.int .i64 n) :: (D.undef) :: (.int .i64 b) :: (un 168)) [] (Ex.ret) (un 4 ++ (.lst .tight 0 []) :: (.lst .tight 0 []) :: (.int .i64 2) :: (un 171)) ([]) := by
 have c0 := @run_id (nat_lit 0) _ (((.lst .no 8 (xsL pro)) :: (.lst .no 1 (rwL l)) :: (D.undef) :: (D.undef) :: (.lst .tight 0 []) :: (D.undef) :: (D.undef) :: (.int .i64 (IntKind.i64.wrap (n + (↑(List.length (irL r)) : Int)))) :: (D.undef) :: (.int .i64 b) :: (.int .i64 0) :: (un 167))) ([]) _ _ _ hlo
 exact RoundRun.of_eval mixed [tC (by ((try simp only [sL] at *); (try unfold big at *); omega) : (decide (b < (↑(List.length (rwL l)) : Int))) = true), tC (v := true) (leL 0 (decide_eq_false (Int.not_lt.2 b0))), .get _ _ _ hb, .head ⟨[0, 1, 4, 7, 9, 10], [], []⟩ _ _ _ _ _ _ _ c0] (by kernel_rfl)
abbrev dtT (l : List (List IrS)) (q : List D) (b i : Int) : List D := ((.undef) :: (.lst .no 1 (rwL l)) :: (.undef) :: (.undef) :: (.lst .tight 0 []) :: (un 6 ++ (.lst .tight 0 []) :: (.undef) :: (.lst (.tok 1 0) 1 q) :: (.int .i64 b) :: (.int .i64 i) :: (un 162)))
abbrev dtU (l : List (List IrS)) (q : List D) (b : Int) : List D := ((.undef) :: (.lst .no 1 (rwL l)) :: (.undef) :: (.undef) :: (.lst .tight 0 []) :: (un 6 ++ (.lst .tight 0 []) :: (.undef) :: (.lst (.tok 1 0) 1 q) :: (.int .i64 b) :: (un 163)))
abbrev du1T (l : List (List IrS)) (q : List D) (b i : Int) (k : Nat) : List D := ((.undef) :: (.lst .no 1 (rwL l)) :: (.undef) :: (.undef) :: (.lst .tight 0 []) :: (un 6 ++ (.slc 1 10 k) :: (.undef) :: (.lst (.tok 2 0) 1 q) :: (.int .i64 b) :: (.int .i64 i) :: (un 162)))
abbrev du1U (l : List (List IrS)) (q : List D) (b : Int) (k : Nat) : List D := ((.undef) :: (.lst .no 1 (rwL l)) :: (.undef) :: (.undef) :: (.lst .tight 0 []) :: (un 6 ++ (.slc 1 10 k) :: (.undef) :: (.lst (.tok 2 0) 1 q) :: (.int .i64 b) :: (un 163)))
abbrev du2T (l : List (List IrS)) (q : List D) (b i : Int) (k : Nat) : List D := ((.undef) :: (.lst .no 1 (rwL l)) :: (.undef) :: (.undef) :: (.lst .tight 0 []) :: (un 6 ++ (.slc 2 10 k) :: (.undef) :: (.lst (.tok 3 0) 1 q) :: (.int .i64 b) :: (.int .i64 i) :: (un 162)))
abbrev du2U (l : List (List IrS)) (q : List D) (b : Int) (k : Nat) : List D := ((.undef) :: (.lst .no 1 (rwL l)) :: (.undef) :: (.undef) :: (.lst .tight 0 []) :: (un 6 ++ (.slc 2 10 k) :: (.undef) :: (.lst (.tok 3 0) 1 q) :: (.int .i64 b) :: (un 163)))
abbrev du3T (l : List (List IrS)) (q : List D) (b i : Int) (k : Nat) : List D := ((.undef) :: (.lst .no 1 (rwL l)) :: (un 9 ++ (.slc 3 10 k) :: (.undef) :: (.lst (.tok 4 0) 1 q) :: (.int .i64 b) :: (.int .i64 i) :: (un 162)))
abbrev du3U (l : List (List IrS)) (q : List D) (b : Int) (k : Nat) : List D := ((.undef) :: (.lst .no 1 (rwL l)) :: (un 9 ++ (.slc 3 10 k) :: (.undef) :: (.lst (.tok 4 0) 1 q) :: (.int .i64 b) :: (un 163)))
theorem dv_e (l : List (List IrS)) (q : List Int) (b : Int) (b0 : 0 ≤ b) (b1 : b ≤ 1000) (hq : ((intsD q).length : Int) ≤ 1000) (h : ((rwL l).length : Int) ≤ b)  : RoundRun Try.prog (loopB Try.f67 4) ⟨[11], [], [(13, 1)]⟩ 0 ((uu) :: (.lst .no 1 (rwL l)) :: (uu) :: (uu) :: (.lst .tight 0 []) :: (un 6 ++ (.lst .tight 0 []) :: (uu) :: (.lst (.tok 0 0) 1 (intsD q)) :: (.int .i64 b) :: (un 163))) [.fam 0 1] (.exit 8) (un 11 ++ (.lst .tight 0 []) :: (uu) :: (.lst (.tok 0 0) 1 (intsD q)) :: (un 164)) ([.fam 0 1]) := by
 exact RoundRun.of_eval mixed [tC (by ((try simp only [sL] at *); (try unfold big at *); omega) : (decide (b < (↑(List.length (rwL l)) : Int))) = false)] (by kernel_rfl)
theorem dv_0 (l : List (List IrS)) (q : List Int) (b : Int) (b0 : 0 ≤ b) (b1 : b ≤ 1000) (hq : ((intsD q).length : Int) ≤ 1000) (h : b < ((rwL l).length : Int)) (r : List IrS) (hb : (rwL l)[Int.toNat b]? = some (.lst .no 13 (irL r))) (hrl : ((irL r).length : Int) ≤ 100000) (hlo : LoopRun Try.prog 1 (.loop (loopB Try.f67 5)) (dtT l (intsD q ++ [.int .i64 0]) b 0) [.dead, .fam 0 1] (.exit 10) (dtU l (intsD q ++ [.int .i64 0]) b) [.dead, .fam 0 1])  : RoundRun Try.prog (loopB Try.f67 4) ⟨[1, 4, 11, 14], [], [(13, 1)]⟩ 0 ((uu) :: (.lst .no 1 (rwL l)) :: (uu) :: (uu) :: (.lst .tight 0 []) :: (un 6 ++ (.lst .tight 0 []) :: (uu) :: (.lst (.tok 0 0) 1 (intsD q)) :: (.int .i64 b) :: (un 163))) [.fam 0 1] .norm ((uu) :: (.lst .no 1 (rwL l)) :: (uu) :: (uu) :: (.lst .tight 0 []) :: (un 6 ++ (.lst .tight 0 []) :: (uu) :: (.lst (.tok 0 0) 1 (intsD q ++ [.int .i64 0])) :: (.int .i64 (IntKind.i64.wrap (b + 1))) :: (un 163))) ([.fam 0 1]) := by
 have c0 := @run_id (nat_lit 1) _ (((uu) :: (.lst .no 1 (rwL l)) :: (uu) :: (uu) :: (.lst .tight 0 []) :: (un 6 ++ (.lst .tight 0 []) :: (uu) :: (.lst (.tok 1 0) 1 (intsD q ++ [.int .i64 0])) :: (.int .i64 b) :: (.int .i64 0) :: (un 162)))) ([.dead, .fam 0 1]) _ _ _ hlo
 exact RoundRun.of_eval mixed [tC (by ((try simp only [sL] at *); (try unfold big at *); omega) : (decide (b < (↑(List.length (rwL l)) : Int))) = true), .len (List.length (intsD q) + (1 : Nat)) ((2147483648 : Nat)) (by first | decide | omega | (simp; omega)), .head ⟨[1, 4, 11, 14, 15], [], [(13, 1)]⟩ _ _ _ _ _ _ _ c0] (by kernel_rfl)
theorem dv_1 (l : List (List IrS)) (q : List Int) (b : Int) (b0 : 0 ≤ b) (b1 : b ≤ 1000) (hq : ((intsD q).length : Int) ≤ 1000) (cs2 : List D) (k2 : Nat) (hc2 : ∀ c ∈ cs2, c.clean = true) (h : b < ((rwL l).length : Int)) (r : List IrS) (hb : (rwL l)[Int.toNat b]? = some (.lst .no 13 (irL r))) (hrl : ((irL r).length : Int) ≤ 100000) (hlo : LoopRun Try.prog 1 (.loop (loopB Try.f67 5)) (dtT l (intsD q ++ [.int .i64 0]) b 0) [.dead, .fam 0 1] (.exit 10) (du1U l (intsD q ++ [.int .i64 0]) b k2) [.dead, .box cs2, .fam 0 1])  : RoundRun Try.prog (loopB Try.f67 4) ⟨[1, 4, 14], [], [(11, 10), (13, 1)]⟩ 0 ((uu) :: (.lst .no 1 (rwL l)) :: (uu) :: (uu) :: (.lst .tight 0 []) :: (un 6 ++ (.lst .tight 0 []) :: (uu) :: (.lst (.tok 0 0) 1 (intsD q)) :: (.int .i64 b) :: (un 163))) [.fam 0 1] .norm ((uu) :: (.lst .no 1 (rwL l)) :: (uu) :: (uu) :: (.lst .tight 0 []) :: (un 6 ++ (.slc 0 10 k2) :: (uu) :: (.lst (.tok 1 0) 1 (intsD q ++ [.int .i64 0])) :: (.int .i64 (IntKind.i64.wrap (b + 1))) :: (un 163))) ([.box (List.map D.demote cs2), .fam 0 1]) := by
 have c0 := @run_id (nat_lit 1) _ (((uu) :: (.lst .no 1 (rwL l)) :: (uu) :: (uu) :: (.lst .tight 0 []) :: (un 6 ++ (.lst .tight 0 []) :: (uu) :: (.lst (.tok 1 0) 1 (intsD q ++ [.int .i64 0])) :: (.int .i64 b) :: (.int .i64 0) :: (un 162)))) ([.dead, .fam 0 1]) _ _ _ hlo
 exact RoundRun.of_eval mixed [tC (by ((try simp only [sL] at *); (try unfold big at *); omega) : (decide (b < (↑(List.length (rwL l)) : Int))) = true), .len (List.length (intsD q) + (1 : Nat)) ((2147483648 : Nat)) (by first | decide | omega | (simp; omega)), .head ⟨[1, 4, 11, 14, 15], [], [(13, 1)]⟩ _ _ _ _ _ _ _ c0, .cl cs2 (by first | exact clAll rfl | exact hc | exact hc2)] (by kernel_rfl)
theorem dw0_e (l : List (List IrS)) (q : List Int) (b : Int) (b0 : 0 ≤ b) (b1 : b ≤ 1000) (hq : ((intsD q).length : Int) ≤ 1000) (cs : List D) (k : Nat) (hc : ∀ c ∈ cs, c.clean = true) (hl : Nat.beq cs.length (k * 10) = true) (hk : k ≤ 5000) (h : ((rwL l).length : Int) ≤ b)  : RoundRun Try.prog (loopB Try.f67 4) ⟨[], [], [(4, 10), (11, 10), (13, 1)]⟩ 0 ((uu) :: (.lst .no 1 (rwL l)) :: (uu) :: (uu) :: (.lst .tight 0 []) :: (un 6 ++ (.slc 0 10 k) :: (uu) :: (.lst (.tok 1 0) 1 (intsD q)) :: (.int .i64 b) :: (un 163))) [.box cs, .fam 0 1] (.exit 8) (un 4 ++ (.lst (.tok 0 0) 10 []) :: (un 6 ++ (.slc 1 10 k) :: (uu) :: (.lst (.tok 2 0) 1 (intsD q)) :: (un 164))) ([.fam 0 10, .box (List.map D.demote cs), .fam 0 1]) := by
 exact RoundRun.of_eval mixed [tC (by ((try simp only [sL] at *); (try unfold big at *); omega) : (decide (b < (↑(List.length (rwL l)) : Int))) = false), .cl cs (by first | exact clAll rfl | exact hc | exact hc2)] (by kernel_rfl)
theorem dw0_1 (l : List (List IrS)) (q : List Int) (b : Int) (b0 : 0 ≤ b) (b1 : b ≤ 1000) (hq : ((intsD q).length : Int) ≤ 1000) (cs : List D) (k : Nat) (hc : ∀ c ∈ cs, c.clean = true) (hl : Nat.beq cs.length (k * 10) = true) (hk : k ≤ 5000) (cs2 : List D) (k2 : Nat) (hc2 : ∀ c ∈ cs2, c.clean = true) (h : b < ((rwL l).length : Int)) (r : List IrS) (hb : (rwL l)[Int.toNat b]? = some (.lst .no 13 (irL r))) (hrl : ((irL r).length : Int) ≤ 100000) (hlo : LoopRun Try.prog 2 (.loop (loopB Try.f67 5)) (du2T l (intsD q ++ [.int .i64 (k : Int)]) b 0 k) [.dead, .dead, .box (List.map D.demote cs), .fam 0 1] (.exit 10) (du2U l (intsD q ++ [.int .i64 (k : Int)]) b k2) [.dead, .dead, .box cs2, .fam 0 1])  : RoundRun Try.prog (loopB Try.f67 4) ⟨[1, 4, 14], [], [(11, 10), (13, 1)]⟩ 0 ((uu) :: (.lst .no 1 (rwL l)) :: (uu) :: (uu) :: (.lst .tight 0 []) :: (un 6 ++ (.slc 0 10 k) :: (uu) :: (.lst (.tok 1 0) 1 (intsD q)) :: (.int .i64 b) :: (un 163))) [.box cs, .fam 0 1] .norm ((uu) :: (.lst .no 1 (rwL l)) :: (uu) :: (uu) :: (.lst .tight 0 []) :: (un 6 ++ (.slc 0 10 k2) :: (uu) :: (.lst (.tok 1 0) 1 (intsD q ++ [.int .i64 (↑k : Int)])) :: (.int .i64 (IntKind.i64.wrap (b + 1))) :: (un 163))) ([.box (List.map D.demote cs2), .fam 0 1]) := by
 have c0 := @run_id (nat_lit 2) _ (((uu) :: (.lst .no 1 (rwL l)) :: (uu) :: (uu) :: (.lst .tight 0 []) :: (un 6 ++ (.slc 2 10 k) :: (uu) :: (.lst (.tok 3 0) 1 (intsD q ++ [.int .i64 (↑k : Int)])) :: (.int .i64 b) :: (.int .i64 0) :: (un 162)))) ([.dead, .dead, .box (List.map D.demote cs), .fam 0 1]) _ _ _ hlo
 exact RoundRun.of_eval mixed [tC (by ((try simp only [sL] at *); (try unfold big at *); omega) : (decide (b < (↑(List.length (rwL l)) : Int))) = true), .len (List.length (intsD q) + (1 : Nat)) ((2147483648 : Nat)) (by first | decide | omega | (simp; omega)), .head ⟨[1, 4, 14, 15], [], [(11, 10), (13, 1)]⟩ _ _ _ _ _ _ _ c0, .cl cs (by first | exact clAll rfl | exact hc | exact hc2), .cl cs2 (by first | exact clAll rfl | exact hc | exact hc2)] (by kernel_rfl)
theorem dw1_e (l : List (List IrS)) (q : List Int) (b : Int) (b0 : 0 ≤ b) (b1 : b ≤ 1000) (hq : ((intsD q).length : Int) ≤ 1000) (cs : List D) (k : Nat) (hc : ∀ c ∈ cs, c.clean = true) (hl : Nat.beq cs.length (k * 10) = true) (hk : k ≤ 5000) (h : ((rwL l).length : Int) ≤ b)  : RoundRun Try.prog (loopB Try.f67 4) ⟨[], [], [(11, 10), (13, 1)]⟩ 1 ((uu) :: (.lst .no 1 (rwL l)) :: (un 9 ++ (.slc 1 10 k) :: (uu) :: (.lst (.tok 2 0) 1 (intsD q)) :: (.int .i64 b) :: (un 163))) [.dead, .box cs, .fam 0 1] (.exit 8) (un 11 ++ (.slc 1 10 k) :: (uu) :: (.lst (.tok 2 0) 1 (intsD q)) :: (un 164)) ([.dead, .box (List.map D.demote cs), .fam 0 1]) := by
 exact RoundRun.of_eval mixed [tC (by ((try simp only [sL] at *); (try unfold big at *); omega) : (decide (b < (↑(List.length (rwL l)) : Int))) = false), .cl cs (by first | exact clAll rfl | exact hc | exact hc2)] (by kernel_rfl)
theorem dw1_1 (l : List (List IrS)) (q : List Int) (b : Int) (b0 : 0 ≤ b) (b1 : b ≤ 1000) (hq : ((intsD q).length : Int) ≤ 1000) (cs : List D) (k : Nat) (hc : ∀ c ∈ cs, c.clean = true) (hl : Nat.beq cs.length (k * 10) = true) (hk : k ≤ 5000) (cs2 : List D) (k2 : Nat) (hc2 : ∀ c ∈ cs2, c.clean = true) (h : b < ((rwL l).length : Int)) (r : List IrS) (hb : (rwL l)[Int.toNat b]? = some (.lst .no 13 (irL r))) (hrl : ((irL r).length : Int) ≤ 100000) (hlo : LoopRun Try.prog 3 (.loop (loopB Try.f67 5)) (du3T l (intsD q ++ [.int .i64 (k : Int)]) b 0 k) [.dead, .dead, .dead, .box (List.map D.demote cs), .fam 0 1] (.exit 10) (du3U l (intsD q ++ [.int .i64 (k : Int)]) b k2) [.dead, .dead, .dead, .box cs2, .fam 0 1])  : RoundRun Try.prog (loopB Try.f67 4) ⟨[1, 14], [], [(11, 10), (13, 1)]⟩ 1 ((uu) :: (.lst .no 1 (rwL l)) :: (un 9 ++ (.slc 1 10 k) :: (uu) :: (.lst (.tok 2 0) 1 (intsD q)) :: (.int .i64 b) :: (un 163))) [.dead, .box cs, .fam 0 1] .norm ((uu) :: (.lst .no 1 (rwL l)) :: (un 9 ++ (.slc 1 10 k2) :: (uu) :: (.lst (.tok 2 0) 1 (intsD q ++ [.int .i64 (↑k : Int)])) :: (.int .i64 (IntKind.i64.wrap (b + 1))) :: (un 163))) ([.dead, .box (List.map D.demote cs2), .fam 0 1]) := by
 have c0 := @run_id (nat_lit 3) _ (((uu) :: (.lst .no 1 (rwL l)) :: (un 9 ++ (.slc 3 10 k) :: (uu) :: (.lst (.tok 4 0) 1 (intsD q ++ [.int .i64 (↑k : Int)])) :: (.int .i64 b) :: (.int .i64 0) :: (un 162)))) ([.dead, .dead, .dead, .box (List.map D.demote cs), .fam 0 1]) _ _ _ hlo
 exact RoundRun.of_eval mixed [tC (by ((try simp only [sL] at *); (try unfold big at *); omega) : (decide (b < (↑(List.length (rwL l)) : Int))) = true), .len (List.length (intsD q) + (1 : Nat)) ((2147483648 : Nat)) (by first | decide | omega | (simp; omega)), .head ⟨[1, 14, 15], [], [(11, 10), (13, 1)]⟩ _ _ _ _ _ _ _ c0, .cl cs (by first | exact clAll rfl | exact hc | exact hc2), .cl cs2 (by first | exact clAll rfl | exact hc | exact hc2)] (by kernel_rfl)
abbrev dpT (pro : List XS) (l : List (List IrS)) (n b : Int) : List D := ((.lst .no 8 (xsL pro)) :: (.lst .no 1 (rwL l)) :: (.undef) :: (.undef) :: (.lst .tight 0 []) :: (.undef) :: (.undef) :: (.int .i64 n) :: (.undef) :: (.int .i64 b) :: (un 168))
abbrev drT (pro : List XS) (l : List (List IrS)) (i : Int) : List D := ((.lst .no 8 (xsL pro)) :: (.lst .no 1 (rwL l)) :: (.undef) :: (.undef) :: (.lst .tight 0 []) :: (un 6 ++ (.lst .tight 0 []) :: (.int .i64 i) :: (un 165)))
abbrev drU (pro : List XS) (l : List (List IrS)) : List D := ((.lst .no 8 (xsL pro)) :: (.lst .no 1 (rwL l)) :: (.undef) :: (.undef) :: (.lst .tight 0 []) :: (un 6 ++ (.lst .tight 0 []) :: (un 166)))
abbrev drB (pro : List XS) (l : List (List IrS)) (k : Nat) : List D := ((.lst .no 8 (xsL pro)) :: (.lst .no 1 (rwL l)) :: (un 9 ++ (.slc 0 10 k) :: (un 166)))
abbrev dvT (l : List (List IrS)) (q : List D) (b : Int) : List D := ((.undef) :: (.lst .no 1 (rwL l)) :: (.undef) :: (.undef) :: (.lst .tight 0 []) :: (un 6 ++ (.lst .tight 0 []) :: (.undef) :: (.lst (.tok 0 0) 1 q) :: (.int .i64 b) :: (un 163)))
abbrev dvU (q : List D) : List D := (un 11 ++ (.lst .tight 0 []) :: (.undef) :: (.lst (.tok 0 0) 1 q) :: (un 164))
abbrev dvB (q : List D) (k : Nat) : List D := (un 4 ++ (.lst (.tok 0 0) 10 []) :: (un 6 ++ (.slc 1 10 k) :: (.undef) :: (.lst (.tok 2 0) 1 q) :: (un 164)))
abbrev dwT (l : List (List IrS)) (q : List D) (b : Int) (k : Nat) : List D := ((.undef) :: (.lst .no 1 (rwL l)) :: (un 9 ++ (.slc 1 10 k) :: (.undef) :: (.lst (.tok 2 0) 1 q) :: (.int .i64 b) :: (un 163)))
abbrev dwU (q : List D) (k : Nat) : List D := (un 11 ++ (.slc 1 10 k) :: (.undef) :: (.lst (.tok 2 0) 1 q) :: (un 164))
theorem pd_e0_ok (pro : List XS) (l : List (List IrS)) (h : ((rwL l).length : Int) = 0)  : Ret Try.prog 67 ([.lst .no 8 (xsL pro), .lst .no 1 (rwL l)]) (.tup [.lst .tight 0 [], .lst .tight 0 [], .int .i64 2]) := by
 exact (o67 (d := .tup [.lst .tight 0 [], .lst .tight 0 [], .int .i64 2]) (List.replicate 3 (tC (eF (eqI 0 true (by ((try simp only [sL] at *); (try unfold big at *); omega) : (↑(List.length (rwL l)) : Int) = 0)))) ++ [tC (eqI 0 true (by ((try simp only [sL] at *); (try unfold big at *); omega) : (↑(List.length (rwL l)) : Int) = 0)), tT]) (by kernel_rfl)).to (by first | (simp [wk, wkL, wkO]; done) | exact ⟨⟨rfl, .inl rfl, trivial, .inr rfl⟩, ⟨rfl, .inl rfl, trivial, .inr rfl⟩, rfl, trivial⟩ | exact ⟨⟨rfl, .inl rfl, rfl, .inr rfl⟩, ⟨rfl, .inl rfl, trivial, .inr rfl⟩, rfl, trivial⟩ | exact ⟨⟨rfl, .inl rfl, rfl, .inl rfl⟩, ⟨rfl, .inl rfl, trivial, .inr rfl⟩, rfl, trivial⟩)
theorem pd_e1_ok (pro : List XS) (l : List (List IrS)) (h : 64 < ((rwL l).length : Int))  : Ret Try.prog 67 ([.lst .no 8 (xsL pro), .lst .no 1 (rwL l)]) (.tup [.lst .tight 0 [], .lst .tight 0 [], .int .i64 2]) := by
 exact (o67 (d := .tup [.lst .tight 0 [], .lst .tight 0 [], .int .i64 2]) (List.replicate 3 (tC (eF (eqG 0 (decide_eq_false (by omega : ¬ (↑(List.length (rwL l)) : Int) < 65))))) ++ [tC (eqG 0 (decide_eq_false (by omega : ¬ (↑(List.length (rwL l)) : Int) < 65))), tC (ltL 64 (decide_eq_false (by omega : ¬ (↑(List.length (rwL l)) : Int) < 65)))]) (by kernel_rfl)).to (by first | (simp [wk, wkL, wkO]; done) | exact ⟨⟨rfl, .inl rfl, trivial, .inr rfl⟩, ⟨rfl, .inl rfl, trivial, .inr rfl⟩, rfl, trivial⟩ | exact ⟨⟨rfl, .inl rfl, rfl, .inr rfl⟩, ⟨rfl, .inl rfl, trivial, .inr rfl⟩, rfl, trivial⟩ | exact ⟨⟨rfl, .inl rfl, rfl, .inl rfl⟩, ⟨rfl, .inl rfl, trivial, .inr rfl⟩, rfl, trivial⟩)
theorem pd_ep_ok (pro : List XS) (l : List (List IrS)) (hl0 : 1 ≤ ((rwL l).length : Int)) (hl1 : ((rwL l).length : Int) ≤ 64) (h0 : LoopRun Try.prog 0 (.loop (loopB Try.f67 0)) (dqT pro l ((xsL pro).length : Int) 0) [] .ret dqE [])  : Ret Try.prog 67 ([.lst .no 8 (xsL pro), .lst .no 1 (rwL l)]) (.tup [.lst .tight 0 [], .lst .tight 0 [], .int .i64 2]) := by
 have c0 := @run_id (nat_lit 0) _ (((.lst .no 8 (xsL pro)) :: (.lst .no 1 (rwL l)) :: (uu) :: (uu) :: (.lst .tight 0 []) :: (uu) :: (uu) :: (.int .i64 (↑(List.length (xsL pro)) : Int)) :: (.int .i64 0) :: (un 169))) ([]) _ _ _ h0
 exact (o67 (d := .tup [.lst .tight 0 [], .lst .tight 0 [], .int .i64 2]) (List.replicate 3 (tC (eF (eqG 0 (decide_eq_false (Int.not_lt.2 hl0))))) ++ [tC (eqG 0 (decide_eq_false (Int.not_lt.2 hl0))), tC (ltL 64 (decide_eq_true (Int.lt_add_one_of_le hl1))), .head ⟨[0, 1, 4, 7, 8], [], []⟩ _ _ _ _ _ _ _ c0]) (by kernel_rfl)).to (by first | (simp [wk, wkL, wkO]; done) | exact ⟨⟨rfl, .inl rfl, trivial, .inr rfl⟩, ⟨rfl, .inl rfl, trivial, .inr rfl⟩, rfl, trivial⟩ | exact ⟨⟨rfl, .inl rfl, rfl, .inr rfl⟩, ⟨rfl, .inl rfl, trivial, .inr rfl⟩, rfl, trivial⟩ | exact ⟨⟨rfl, .inl rfl, rfl, .inl rfl⟩, ⟨rfl, .inl rfl, trivial, .inr rfl⟩, rfl, trivial⟩)
theorem pd_eb_ok (pro : List XS) (l : List (List IrS)) (hl0 : 1 ≤ ((rwL l).length : Int)) (hl1 : ((rwL l).length : Int) ≤ 64) (h0 : LoopRun Try.prog 0 (.loop (loopB Try.f67 0)) (dqT pro l ((xsL pro).length : Int) 0) [] (.exit 0) (dqU pro l ((xsL pro).length : Int)) []) (h1 : LoopRun Try.prog 0 (.loop (loopB Try.f67 1)) (dpT pro l ((xsL pro).length : Int) 0) [] .ret dqE [])  : Ret Try.prog 67 ([.lst .no 8 (xsL pro), .lst .no 1 (rwL l)]) (.tup [.lst .tight 0 [], .lst .tight 0 [], .int .i64 2]) := by
 have c0 := @run_id (nat_lit 0) _ (((.lst .no 8 (xsL pro)) :: (.lst .no 1 (rwL l)) :: (uu) :: (uu) :: (.lst .tight 0 []) :: (uu) :: (uu) :: (.int .i64 (↑(List.length (xsL pro)) : Int)) :: (.int .i64 0) :: (un 169))) ([]) _ _ _ h0
 have c1 := @run_id (nat_lit 0) _ (((.lst .no 8 (xsL pro)) :: (.lst .no 1 (rwL l)) :: (uu) :: (uu) :: (.lst .tight 0 []) :: (uu) :: (uu) :: (.int .i64 (↑(List.length (xsL pro)) : Int)) :: (uu) :: (.int .i64 0) :: (un 168))) ([]) _ _ _ h1
 exact (o67 (d := .tup [.lst .tight 0 [], .lst .tight 0 [], .int .i64 2]) (List.replicate 3 (tC (eF (eqG 0 (decide_eq_false (Int.not_lt.2 hl0))))) ++ [tC (eqG 0 (decide_eq_false (Int.not_lt.2 hl0))), tC (ltL 64 (decide_eq_true (Int.lt_add_one_of_le hl1))), .head ⟨[0, 1, 4, 7, 8], [], []⟩ _ _ _ _ _ _ _ c0, .head ⟨[0, 1, 4, 7, 9], [], []⟩ _ _ _ _ _ _ _ c1]) (by kernel_rfl)).to (by first | (simp [wk, wkL, wkO]; done) | exact ⟨⟨rfl, .inl rfl, trivial, .inr rfl⟩, ⟨rfl, .inl rfl, trivial, .inr rfl⟩, rfl, trivial⟩ | exact ⟨⟨rfl, .inl rfl, rfl, .inr rfl⟩, ⟨rfl, .inl rfl, trivial, .inr rfl⟩, rfl, trivial⟩ | exact ⟨⟨rfl, .inl rfl, rfl, .inl rfl⟩, ⟨rfl, .inl rfl, trivial, .inr rfl⟩, rfl, trivial⟩)
theorem pd_n_ok (pro : List XS) (l : List (List IrS)) (hl0 : 1 ≤ ((rwL l).length : Int)) (hl1 : ((rwL l).length : Int) ≤ 64) (h0 : LoopRun Try.prog 0 (.loop (loopB Try.f67 0)) (dqT pro l ((xsL pro).length : Int) 0) [] (.exit 0) (dqU pro l ((xsL pro).length : Int)) []) (n : Int) (h1 : LoopRun Try.prog 0 (.loop (loopB Try.f67 1)) (dpT pro l ((xsL pro).length : Int) 0) [] (.exit 2) (dqU pro l n) []) (h : 2000 < n)  : Ret Try.prog 67 ([.lst .no 8 (xsL pro), .lst .no 1 (rwL l)]) (.tup [.lst .tight 0 [], .lst .tight 0 [], .int .i64 3]) := by
 have c0 := @run_id (nat_lit 0) _ (((.lst .no 8 (xsL pro)) :: (.lst .no 1 (rwL l)) :: (uu) :: (uu) :: (.lst .tight 0 []) :: (uu) :: (uu) :: (.int .i64 (↑(List.length (xsL pro)) : Int)) :: (.int .i64 0) :: (un 169))) ([]) _ _ _ h0
 have c1 := @run_id (nat_lit 0) _ (((.lst .no 8 (xsL pro)) :: (.lst .no 1 (rwL l)) :: (uu) :: (uu) :: (.lst .tight 0 []) :: (uu) :: (uu) :: (.int .i64 (↑(List.length (xsL pro)) : Int)) :: (uu) :: (.int .i64 0) :: (un 168))) ([]) _ _ _ h1
 exact (o67 (d := .tup [.lst .tight 0 [], .lst .tight 0 [], .int .i64 3]) (List.replicate 3 (tC (eF (eqG 0 (decide_eq_false (Int.not_lt.2 hl0))))) ++ [tC (eqG 0 (decide_eq_false (Int.not_lt.2 hl0))), tC (ltL 64 (decide_eq_true (Int.lt_add_one_of_le hl1))), .head ⟨[0, 1, 4, 7, 8], [], []⟩ _ _ _ _ _ _ _ c0, .head ⟨[0, 1, 4, 7, 9], [], []⟩ _ _ _ _ _ _ _ c1, tC (ltL 2000 (decide_eq_false (by omega : ¬ n < 2001)))]) (by kernel_rfl)).to (by first | (simp [wk, wkL, wkO]; done) | exact ⟨⟨rfl, .inl rfl, trivial, .inr rfl⟩, ⟨rfl, .inl rfl, trivial, .inr rfl⟩, rfl, trivial⟩ | exact ⟨⟨rfl, .inl rfl, rfl, .inr rfl⟩, ⟨rfl, .inl rfl, trivial, .inr rfl⟩, rfl, trivial⟩ | exact ⟨⟨rfl, .inl rfl, rfl, .inl rfl⟩, ⟨rfl, .inl rfl, trivial, .inr rfl⟩, rfl, trivial⟩)
theorem pd_L_ok (pro : List XS) (l : List (List IrS)) (hl0 : 1 ≤ ((rwL l).length : Int)) (hl1 : ((rwL l).length : Int) ≤ 64) (h0 : LoopRun Try.prog 0 (.loop (loopB Try.f67 0)) (dqT pro l ((xsL pro).length : Int) 0) [] (.exit 0) (dqU pro l ((xsL pro).length : Int)) []) (n : Int) (h1 : LoopRun Try.prog 0 (.loop (loopB Try.f67 1)) (dpT pro l ((xsL pro).length : Int) 0) [] (.exit 2) (dqU pro l n) []) (h : n ≤ 2000) (h3 : LoopRun Try.prog 0 (.loop (loopB Try.f67 3)) (drT pro l 0) [] (.exit 6) (drU pro l) []) (q : List Int) (h4 : LoopRun Try.prog 0 (.loop (loopB Try.f67 4)) (dvT l [] 0) [.fam 0 1] (.exit 8) (dvU (intsD q)) [.fam 0 1])  : Ret Try.prog 67 ([.lst .no 8 (xsL pro), .lst .no 1 (rwL l)]) (.tup [.lst .tight 0 [], .lst .no 1 (intsD q), .int .i64 0]) := by
 have c0 := @run_id (nat_lit 0) _ (((.lst .no 8 (xsL pro)) :: (.lst .no 1 (rwL l)) :: (uu) :: (uu) :: (.lst .tight 0 []) :: (uu) :: (uu) :: (.int .i64 (↑(List.length (xsL pro)) : Int)) :: (.int .i64 0) :: (un 169))) ([]) _ _ _ h0
 have c1 := @run_id (nat_lit 0) _ (((.lst .no 8 (xsL pro)) :: (.lst .no 1 (rwL l)) :: (uu) :: (uu) :: (.lst .tight 0 []) :: (uu) :: (uu) :: (.int .i64 (↑(List.length (xsL pro)) : Int)) :: (uu) :: (.int .i64 0) :: (un 168))) ([]) _ _ _ h1
 have c2 := @run_id (nat_lit 0) _ (((.lst .no 8 (xsL pro)) :: (.lst .no 1 (rwL l)) :: (uu) :: (uu) :: (.lst .tight 0 []) :: (un 6 ++ (.lst .tight 0 []) :: (.int .i64 0) :: (un 165)))) ([]) _ _ _ h3
 have c3 := @run_id (nat_lit 0) _ (((uu) :: (.lst .no 1 (rwL l)) :: (uu) :: (uu) :: (.lst .tight 0 []) :: (un 6 ++ (.lst .tight 0 []) :: (uu) :: (.lst (.tok 0 0) 1 []) :: (.int .i64 0) :: (un 163)))) ([.fam 0 1]) _ _ _ h4
 exact (o67 (d := .tup [.lst .tight 0 [], .lst (.fresh 1) 1 (intsD q), .int .i64 0]) (List.replicate 3 (tC (eF (eqG 0 (decide_eq_false (Int.not_lt.2 hl0))))) ++ [tC (eqG 0 (decide_eq_false (Int.not_lt.2 hl0))), tC (ltL 64 (decide_eq_true (Int.lt_add_one_of_le hl1))), .head ⟨[0, 1, 4, 7, 8], [], []⟩ _ _ _ _ _ _ _ c0, .head ⟨[0, 1, 4, 7, 9], [], []⟩ _ _ _ _ _ _ _ c1, tC (ltL 2000 (decide_eq_true (Int.lt_add_one_of_le h))), .head ⟨[0, 1, 4, 11, 12], [], []⟩ _ _ _ _ _ _ _ c2, .head ⟨[1, 4, 11, 14], [], [(13, 1)]⟩ _ _ _ _ _ _ _ c3]) (by kernel_rfl)).to (by first | (simp [wk, wkL, wkO]; done) | exact ⟨⟨rfl, .inl rfl, trivial, .inr rfl⟩, ⟨rfl, .inl rfl, trivial, .inr rfl⟩, rfl, trivial⟩ | exact ⟨⟨rfl, .inl rfl, rfl, .inr rfl⟩, ⟨rfl, .inl rfl, trivial, .inr rfl⟩, rfl, trivial⟩ | exact ⟨⟨rfl, .inl rfl, rfl, .inl rfl⟩, ⟨rfl, .inl rfl, trivial, .inr rfl⟩, rfl, trivial⟩)
theorem pd_S_ok (pro : List XS) (l : List (List IrS)) (hl0 : 1 ≤ ((rwL l).length : Int)) (hl1 : ((rwL l).length : Int) ≤ 64) (h0 : LoopRun Try.prog 0 (.loop (loopB Try.f67 0)) (dqT pro l ((xsL pro).length : Int) 0) [] (.exit 0) (dqU pro l ((xsL pro).length : Int)) []) (n : Int) (h1 : LoopRun Try.prog 0 (.loop (loopB Try.f67 1)) (dpT pro l ((xsL pro).length : Int) 0) [] (.exit 2) (dqU pro l n) []) (h : n ≤ 2000) (h3 : LoopRun Try.prog 0 (.loop (loopB Try.f67 3)) (drT pro l 0) [] (.exit 6) (drU pro l) []) (q : List Int) (cs2 : List D) (k2 : Nat) (h4 : LoopRun Try.prog 0 (.loop (loopB Try.f67 4)) (dvT l [] 0) [.fam 0 1] (.exit 8) (dvB (intsD q) k2) [.fam 0 10, .box cs2, .fam 0 1])  : CallRun Try.prog 67 ([.lst .no 8 (xsL pro), .lst .no 1 (rwL l)]) ([]) (.tup [.slc 1 10 k2, .lst (.tok 2 0) 1 (intsD q), .int .i64 0]) ([.dead, .box cs2, .fam 0 1]) := by
 have c0 := @run_id (nat_lit 0) _ (((.lst .no 8 (xsL pro)) :: (.lst .no 1 (rwL l)) :: (uu) :: (uu) :: (.lst .tight 0 []) :: (uu) :: (uu) :: (.int .i64 (↑(List.length (xsL pro)) : Int)) :: (.int .i64 0) :: (un 169))) ([]) _ _ _ h0
 have c1 := @run_id (nat_lit 0) _ (((.lst .no 8 (xsL pro)) :: (.lst .no 1 (rwL l)) :: (uu) :: (uu) :: (.lst .tight 0 []) :: (uu) :: (uu) :: (.int .i64 (↑(List.length (xsL pro)) : Int)) :: (uu) :: (.int .i64 0) :: (un 168))) ([]) _ _ _ h1
 have c2 := @run_id (nat_lit 0) _ (((.lst .no 8 (xsL pro)) :: (.lst .no 1 (rwL l)) :: (uu) :: (uu) :: (.lst .tight 0 []) :: (un 6 ++ (.lst .tight 0 []) :: (.int .i64 0) :: (un 165)))) ([]) _ _ _ h3
 have c3 := @run_id (nat_lit 0) _ (((uu) :: (.lst .no 1 (rwL l)) :: (uu) :: (uu) :: (.lst .tight 0 []) :: (un 6 ++ (.lst .tight 0 []) :: (uu) :: (.lst (.tok 0 0) 1 []) :: (.int .i64 0) :: (un 163)))) ([.fam 0 1]) _ _ _ h4
 exact CallRun.of_eval (keep := [1, 2]) mixed [tC (eF (eqG 0 (decide_eq_false (Int.not_lt.2 hl0)))), tC (eF (eqG 0 (decide_eq_false (Int.not_lt.2 hl0)))), tC (eF (eqG 0 (decide_eq_false (Int.not_lt.2 hl0)))), tC (eqG 0 (decide_eq_false (Int.not_lt.2 hl0))), tC (ltL 64 (decide_eq_true (Int.lt_add_one_of_le hl1))), .head ⟨[0, 1, 4, 7, 8], [], []⟩ _ _ _ _ _ _ _ c0, .head ⟨[0, 1, 4, 7, 9], [], []⟩ _ _ _ _ _ _ _ c1, tC (ltL 2000 (decide_eq_true (Int.lt_add_one_of_le h))), .head ⟨[0, 1, 4, 11, 12], [], []⟩ _ _ _ _ _ _ _ c2, .head ⟨[1, 4, 11, 14], [], [(13, 1)]⟩ _ _ _ _ _ _ _ c3] (by kernel_rfl)
theorem pd_B_ok (pro : List XS) (l : List (List IrS)) (hl0 : 1 ≤ ((rwL l).length : Int)) (hl1 : ((rwL l).length : Int) ≤ 64) (h0 : LoopRun Try.prog 0 (.loop (loopB Try.f67 0)) (dqT pro l ((xsL pro).length : Int) 0) [] (.exit 0) (dqU pro l ((xsL pro).length : Int)) []) (n : Int) (h1 : LoopRun Try.prog 0 (.loop (loopB Try.f67 1)) (dpT pro l ((xsL pro).length : Int) 0) [] (.exit 2) (dqU pro l n) []) (h : n ≤ 2000) (cs : List D) (k : Nat) (hc : ∀ c ∈ cs, c.clean = true) (h3 : LoopRun Try.prog 0 (.loop (loopB Try.f67 3)) (drT pro l 0) [] (.exit 6) (drB pro l k) [.box cs]) (q : List Int) (cs2 : List D) (k2 : Nat) (h4 : LoopRun Try.prog 1 (.loop (loopB Try.f67 4)) (dwT l [] 0 k) [.dead, .box (List.map D.demote cs), .fam 0 1] (.exit 8) (dwU (intsD q) k2) [.dead, .box cs2, .fam 0 1])  : CallRun Try.prog 67 ([.lst .no 8 (xsL pro), .lst .no 1 (rwL l)]) ([]) (.tup [.slc 1 10 k2, .lst (.tok 2 0) 1 (intsD q), .int .i64 0]) ([.dead, .box cs2, .fam 0 1]) := by
 have c0 := @run_id (nat_lit 0) _ (((.lst .no 8 (xsL pro)) :: (.lst .no 1 (rwL l)) :: (uu) :: (uu) :: (.lst .tight 0 []) :: (uu) :: (uu) :: (.int .i64 (↑(List.length (xsL pro)) : Int)) :: (.int .i64 0) :: (un 169))) ([]) _ _ _ h0
 have c1 := @run_id (nat_lit 0) _ (((.lst .no 8 (xsL pro)) :: (.lst .no 1 (rwL l)) :: (uu) :: (uu) :: (.lst .tight 0 []) :: (uu) :: (uu) :: (.int .i64 (↑(List.length (xsL pro)) : Int)) :: (uu) :: (.int .i64 0) :: (un 168))) ([]) _ _ _ h1
 have c2 := @run_id (nat_lit 0) _ (((.lst .no 8 (xsL pro)) :: (.lst .no 1 (rwL l)) :: (uu) :: (uu) :: (.lst .tight 0 []) :: (un 6 ++ (.lst .tight 0 []) :: (.int .i64 0) :: (un 165)))) ([]) _ _ _ h3
 have c3 := @run_id (nat_lit 1) _ (((uu) :: (.lst .no 1 (rwL l)) :: (un 9 ++ (.slc 1 10 k) :: (uu) :: (.lst (.tok 2 0) 1 []) :: (.int .i64 0) :: (un 163)))) ([.dead, .box (List.map D.demote cs), .fam 0 1]) _ _ _ h4
 exact CallRun.of_eval (keep := [1, 2]) mixed [tC (eF (eqG 0 (decide_eq_false (Int.not_lt.2 hl0)))), tC (eF (eqG 0 (decide_eq_false (Int.not_lt.2 hl0)))), tC (eF (eqG 0 (decide_eq_false (Int.not_lt.2 hl0)))), tC (eqG 0 (decide_eq_false (Int.not_lt.2 hl0))), tC (ltL 64 (decide_eq_true (Int.lt_add_one_of_le hl1))), .head ⟨[0, 1, 4, 7, 8], [], []⟩ _ _ _ _ _ _ _ c0, .head ⟨[0, 1, 4, 7, 9], [], []⟩ _ _ _ _ _ _ _ c1, tC (ltL 2000 (decide_eq_true (Int.lt_add_one_of_le h))), .head ⟨[0, 1, 4, 11, 12], [], []⟩ _ _ _ _ _ _ _ c2, .head ⟨[1, 14], [], [(11, 10), (13, 1)]⟩ _ _ _ _ _ _ _ c3, .cl cs (by first | exact clAll rfl | exact hc)] (by kernel_rfl)
end Go.Proofs.Ytcngafhpodeenaa
namespace Go.Ev
open Go
def PaS.imm (p : PaS) (v : Int) : PaS := ⟨{ p.x with imm := v }, p.j, p.to⟩
def PaS.w (p : PaS) (v : Int) : PaS := ⟨{ p.x with w := v }, p.j, p.to⟩
theorem paC_at (A B : List PaS) (p : PaS) : paC (A ++ p :: B) = paC A ++ (p.c ++ paC B) := by rw [paC_app]; rfl
theorem paC_get (A B : List PaS) (p : PaS) (n : Nat) (h : n < 10) : (paC (A ++ p :: B))[A.length * 10 + n]? = p.c[n]? := by
 rw [paC_at, List.getElem?_append_right (by rw [paC_len]; omega), paC_len, Nat.add_sub_cancel_left, List.getElem?_append_left (by simp [PaS.c]; omega)]
theorem paC_put (A B : List PaS) (p : PaS) (n : Nat) (h : n < 10) (d : D) : (paC (A ++ p :: B)).set (A.length * 10 + n) d = paC A ++ (p.c.set n d ++ paC B) := by
 rw [paC_at, List.set_append_right _ _ (by rw [paC_len]; omega), paC_len, Nat.add_sub_cancel_left, List.set_append_left _ _ (by simp [PaS.c]; omega)]
theorem paC_imm (A B : List PaS) (p : PaS) (v : Int) : (paC (A ++ p :: B)).set (A.length * 10 + 6) (.int .i64 v) = paC (A ++ p.imm v :: B) := by
 rw [paC_put _ _ _ _ (by decide), paC_at]; rfl
theorem paC_w (A B : List PaS) (p : PaS) (v : Int) : (paC (A ++ p :: B)).set (A.length * 10 + 1) (.int .i8 v) = paC (A ++ p.w v :: B) := by
 rw [paC_put _ _ _ _ (by decide), paC_at]; rfl
theorem paC_gets (A B : List PaS) (p : PaS) (n : Nat) (h : n ≤ 10) : GetsA (paC (A ++ p :: B)) (A.length * 10) n (p.c.take n) := by
 refine ⟨?_, ?_⟩
 ·rw [paC_at, List.drop_append_of_le_length (by rw [paC_len]; omega), List.drop_eq_nil_of_le (by rw [paC_len]; omega), List.nil_append, List.take_append_of_le_length (by simp [PaS.c]; omega)]
 ·rw [paC_len]
  simp only [List.length_append, List.length_cons]
  omega
def lenP (p : PaS) : Int := lenX p.x.op p.x.w p.x.dst p.x.src p.x.base p.x.disp p.x.imm p.x.cc
def offM : Int → List PaS → List Int
  | s, [] => [s]
  | s, p :: r => s :: offM (s + lenP p) r
def totM : List PaS → Int
  | [] => 0
  | p :: r => lenP p + totM r
theorem offM_len : ∀ (l : List PaS) (s : Int), (offM s l).length = l.length + 1
 | [], s => rfl
 | p :: r, s => by simp [offM, offM_len r]
theorem offM_get : ∀ (l : List PaS) (s : Int) (k : Nat), k ≤ l.length → (offM s l)[k]? = some (s + totM (l.take k))
 | [], s, k, h => by
  have : k = 0 := by simpa using h
  subst this
  simp [offM, totM]
 | p :: r, s, 0, h => by simp [offM, totM]
 | p :: r, s, k + 1, h => by
  simp only [offM, List.getElem?_cons_succ, List.take_succ_cons, totM]
  rw [offM_get r _ k (by simpa using h)]
  congr 1
  omega
theorem offM_snoc : ∀ (l : List PaS) (s : Int) (p : PaS), offM s (l ++ [p]) = offM s l ++ [s + totM l + lenP p]
 | [], s, p => by simp [offM, totM]
 | a :: l, s, p => by
  rw [List.cons_append, offM, offM, offM_snoc l _ p, List.cons_append, totM]
  congr 3
  omega
def atI (a : List Int) (n : Nat) : Int := a.getD n 0
def wayM (a q : List Int) (k : Nat) (to : Int) : Int := atI a (atI q to.toNat).toNat - atI a (k + 1)
def farB (d : Int) : Bool := decide (d < -128) || decide (127 < d)
def turnM (a q : List Int) (k : Nat) (p : PaS) : Bool := p.j && (decide (p.x.w = 8) && farB (wayM a q k p.to))
def stepJ (a q : List Int) (k : Nat) (p : PaS) : PaS :=
  if p.j then (if turnM a q k p then (p.imm 0).w 32 else p.imm 0) else p
def jumpL (a q : List Int) : Nat → List PaS → List PaS
  | _, [] => []
  | k, p :: r => stepJ a q k p :: jumpL a q (k + 1) r
def moreL (a q : List Int) : Nat → List PaS → Bool
  | _, [] => false
  | k, p :: r => turnM a q k p || moreL a q (k + 1) r
theorem jumpL_len (a q : List Int) : ∀ (l : List PaS) (k : Nat), (jumpL a q k l).length = l.length
 | [], k => rfl
 | p :: r, k => by simp [jumpL, jumpL_len a q r]
theorem jumpL_snoc (a q : List Int) : ∀ (l : List PaS) (k : Nat) (p : PaS), jumpL a q k (l ++ [p]) = jumpL a q k l ++ [stepJ a q (k + l.length) p]
 | [], k, p => by simp [jumpL]
 | b :: l, k, p => by
  rw [List.cons_append, jumpL, jumpL, jumpL_snoc a q l, List.cons_append]
  congr 4
  simp only [List.length_cons]
  omega
theorem moreL_snoc (a q : List Int) : ∀ (l : List PaS) (k : Nat) (p : PaS), moreL a q k (l ++ [p]) = (moreL a q k l || turnM a q (k + l.length) p)
 | [], k, p => by simp [moreL]
 | b :: l, k, p => by
  rw [List.cons_append, moreL, moreL, moreL_snoc a q l, Bool.or_assoc]
  congr 3
  simp only [List.length_cons]
  omega
def shortN : List PaS → Nat
  | [] => 0
  | p :: r => (if p.j = true ∧ p.x.w = 8 then 1 else 0) + shortN r
theorem stepJ_short (a q : List Int) (k : Nat) (p : PaS) : (if (stepJ a q k p).j = true ∧ (stepJ a q k p).x.w = 8 then 1 else 0) + (if turnM a q k p then 1 else 0) = (if p.j = true ∧ p.x.w = 8 then 1 else 0) := by
 unfold stepJ turnM
 cases hj : p.j
 ·simp [hj]
 ·by_cases hw : p.x.w = 8
  ·cases hf : farB (wayM a q k p.to) <;> simp [hw, hf, PaS.imm, PaS.w, hj]
  ·simp [hw, PaS.imm, PaS.w, hj]
theorem short_less (a q : List Int) : ∀ (l : List PaS) (k : Nat), shortN (jumpL a q k l) + (if moreL a q k l then 1 else 0) ≤ shortN l
 | [], k => by simp [jumpL, moreL, shortN]
 | p :: r, k => by
  have h1 := stepJ_short a q k p
  have h2 := short_less a q r (k + 1)
  simp only [jumpL, moreL, shortN]
  by_cases ht : turnM a q k p = true
  ·simp only [ht, Bool.true_or, if_true] at h1 ⊢
   omega
  ·have ht' : turnM a q k p = false := by simpa using ht
   simp only [ht', Bool.false_or, Bool.false_eq_true, if_false] at h1 ⊢
   omega
def relaxM (q : List Int) : Nat → List PaS → List PaS × List Int
  | 0, ps => (ps, offM 0 ps)
  | n + 1, ps => if moreL (offM 0 ps) q 0 ps then relaxM q n (jumpL (offM 0 ps) q 0 ps) else (jumpL (offM 0 ps) q 0 ps, offM 0 ps)
def stepW (a q : List Int) (k : Nat) (p : PaS) : PaS := if p.j then p.imm (wayM a q k p.to) else p
def wayL (a q : List Int) : Nat → List PaS → List PaS
  | _, [] => []
  | k, p :: r => stepW a q k p :: wayL a q (k + 1) r
theorem wayL_len (a q : List Int) : ∀ (l : List PaS) (k : Nat), (wayL a q k l).length = l.length
 | [], k => rfl
 | p :: r, k => by simp [wayL, wayL_len a q r]
theorem wayL_snoc (a q : List Int) : ∀ (l : List PaS) (k : Nat) (p : PaS), wayL a q k (l ++ [p]) = wayL a q k l ++ [stepW a q (k + l.length) p]
 | [], k, p => by simp [wayL]
 | b :: l, k, p => by
  rw [List.cons_append, wayL, wayL, wayL_snoc a q l, List.cons_append]
  congr 4
  simp only [List.length_cons]
  omega
structure PaOK (nb : Nat) (p : PaS) : Prop where
  op : p.x.op ≤ 127
  to0 : p.j = true → 0 ≤ p.to
  to1 : p.j = true → p.to < nb
def AllPa (nb : Nat) (l : List PaS) : Prop := ∀ p ∈ l, PaOK nb p
theorem PaOK.stepJ {nb : Nat} {p : PaS} (h : PaOK nb p) (a q : List Int) (k : Nat) : PaOK nb (stepJ a q k p) := by
 unfold Go.Ev.stepJ
 split
 ·split <;> exact ⟨h.op, h.to0, h.to1⟩
 ·exact h
theorem AllPa.jumpL {nb : Nat} (a q : List Int) : ∀ {l : List PaS} (k : Nat), AllPa nb l → AllPa nb (jumpL a q k l)
 | [], k, h => fun p hp => by cases hp
 | x :: r, k, h => by
  intro p hp
  rcases List.mem_cons.1 hp with rfl | hp
  ·exact (h x (List.mem_cons_self ..)).stepJ a q k
  ·exact AllPa.jumpL a q (k + 1) (fun y hy => h y (List.mem_cons_of_mem _ hy)) p hp
theorem lenP_le (p : PaS) : 0 ≤ lenP p ∧ lenP p ≤ 11 := by
 unfold lenP lenX bytesL
 split
 ·have := (bytes_len p.x)
  rw [len_bD]
  unfold bytesXS at this
  omega
 ·simp
theorem totM_le : ∀ l : List PaS, 0 ≤ totM l ∧ totM l ≤ 11 * l.length
 | [] => by simp [totM]
 | p :: r => by
  have h1 := lenP_le p
  have h2 := totM_le r
  simp only [totM, List.length_cons]
  omega
def BegOK (q : List Int) (nb m : Nat) : Prop := q.length = nb ∧ ∀ x ∈ q, 0 ≤ x ∧ x ≤ m
theorem relaxM_len (q : List Int) : ∀ (n : Nat) (ps : List PaS), (relaxM q n ps).1.length = ps.length
 | 0, ps => rfl
 | n + 1, ps => by
  simp only [relaxM]
  split
  ·rw [relaxM_len q n, jumpL_len]
  ·rw [jumpL_len]
theorem relaxM_all {nb : Nat} (q : List Int) : ∀ (n : Nat) (ps : List PaS), AllPa nb ps → AllPa nb (relaxM q n ps).1
 | 0, ps, h => h
 | n + 1, ps, h => by
  simp only [relaxM]
  split
  ·exact relaxM_all q n _ (AllPa.jumpL _ _ _ h)
  ·exact AllPa.jumpL _ _ _ h
theorem relaxM_off (q : List Int) : ∀ (n : Nat) (ps : List PaS), ∃ p0 : List PaS, p0.length = ps.length ∧ (relaxM q n ps).2 = offM 0 p0
 | 0, ps => ⟨ps, rfl, rfl⟩
 | n + 1, ps => by
  simp only [relaxM]
  split
  ·obtain ⟨p0, h1, h2⟩ := relaxM_off q n (jumpL (offM 0 ps) q 0 ps)
   exact ⟨p0, by rw [h1, jumpL_len], h2⟩
  ·exact ⟨ps, rfl, rfl⟩
def finM (q : List Int) (ps : List PaS) : List PaS := wayL (relaxM q (shortN ps + 1) ps).2 q 0 (relaxM q (shortN ps + 1) ps).1
def offF (q : List Int) (ps : List PaS) : List Int := (relaxM q (shortN ps + 1) ps).2
theorem finM_len (q : List Int) (ps : List PaS) : (finM q ps).length = ps.length := by unfold finM; rw [wayL_len, relaxM_len]
theorem offF_len (q : List Int) (ps : List PaS) : (offF q ps).length = ps.length + 1 := by
 obtain ⟨p0, h1, h2⟩ := relaxM_off q (shortN ps + 1) ps
 unfold offF
 rw [h2, offM_len, h1]
structure JxOK (p : PaS) : Prop where
  no : p.j = false → mayXS p.x = true ∧ p.x.op ≠ 28 ∧ p.x.op ≠ 29
  yes : p.j = true → (p.x.op = 28 ∧ p.x.cc = 0 ∨ p.x.op = 29 ∧ ccM p.x.cc = true) ∧ (p.x.w = 8 ∨ p.x.w = 32) ∧ p.x.dst = 0 ∧ p.x.src = 0 ∧ p.x.base = 0 ∧ p.x.disp = 0
def AllJx (l : List PaS) : Prop := ∀ p ∈ l, JxOK p
theorem jump_may {p : PaS} (h : JxOK p) (hj : p.j = true) {v : Int} (v0 : -2147483648 ≤ v) (v1 : v ≤ 2147483647) (hs : p.x.w = 8 → -128 ≤ v ∧ v ≤ 127) : mayXS (p.imm v).x = true := by
 obtain ⟨ho, hw, h1, h2, h3, h4⟩ := h.yes hj
 have e28 : shapeM 28 = 9 := by decide
 have e29 : shapeM 29 = 10 := by decide
 unfold mayXS PaS.imm
 rcases ho with ⟨ho, hc⟩ | ⟨ho, hc⟩
 ·rcases hw with hw | hw
  ·have := hs hw
   simp [mayX, mayS, regM, jumpM, ho, hc, hw, h1, h2, h3, h4, e28]
   omega
  ·simp [mayX, mayS, regM, jumpM, ho, hc, hw, h1, h2, h3, h4, e28]
   omega
 ·rcases hw with hw | hw
  ·have := hs hw
   simp [mayX, mayS, regM, jumpM, ho, hc, hw, h1, h2, h3, h4, e29]
   omega
  ·simp [mayX, mayS, regM, jumpM, ho, hc, hw, h1, h2, h3, h4, e29]
   omega
theorem JxOK.imm {p : PaS} (h : JxOK p) (hj : p.j = true) (v : Int) : JxOK (p.imm v) := ⟨(fun e => by rw [show (p.imm v).j = p.j from rfl, hj] at e; cases e), fun _ => h.yes hj⟩
theorem JxOK.w32 {p : PaS} (h : JxOK p) (hj : p.j = true) : JxOK (p.w 32) := by
 refine ⟨(fun e => by rw [show (p.w 32).j = p.j from rfl, hj] at e; cases e), fun _ => ?_⟩
 obtain ⟨ho, _, h1⟩ := h.yes hj
 exact ⟨ho, .inr rfl, h1⟩
theorem JxOK.stepJ {p : PaS} (h : JxOK p) (a q : List Int) (k : Nat) : JxOK (stepJ a q k p) := by
 unfold Go.Ev.stepJ
 cases hj : p.j
 ·exact h
 ·simp only [if_true]
  split
  ·exact (h.imm hj 0).w32 hj
  ·exact h.imm hj 0
theorem AllJx.jumpL (a q : List Int) : ∀ {l : List PaS} (k : Nat), AllJx l → AllJx (jumpL a q k l)
 | [], k, h => fun p hp => by cases hp
 | x :: r, k, h => by
  intro p hp
  rcases List.mem_cons.1 hp with rfl | hp
  ·exact (h x (List.mem_cons_self ..)).stepJ a q k
  ·exact AllJx.jumpL a q (k + 1) (fun y hy => h y (List.mem_cons_of_mem _ hy)) p hp
theorem relaxM_jx (q : List Int) : ∀ (n : Nat) (ps : List PaS), AllJx ps → AllJx (relaxM q n ps).1
 | 0, ps, h => h
 | n + 1, ps, h => by
  simp only [relaxM]
  split
  ·exact relaxM_jx q n _ (AllJx.jumpL _ _ _ h)
  ·exact AllJx.jumpL _ _ _ h
def reachL (a q : List Int) : Nat → List PaS → Prop
  | _, [] => True
  | k, p :: r => (p.j = true → p.x.w = 8 → farB (wayM a q k p.to) = false) ∧ reachL a q (k + 1) r
theorem reach_jump (a q : List Int) : ∀ (l : List PaS) (k : Nat), moreL a q k l = false → reachL a q k (jumpL a q k l)
 | [], k, h => trivial
 | p :: r, k, h => by
  simp only [moreL, Bool.or_eq_false_iff] at h
  refine ⟨?_, reach_jump a q r (k + 1) h.2⟩
  have ht := h.1
  unfold Go.Ev.stepJ
  cases hj : p.j
  ·simp [hj]
  ·simp only [if_true, ht, Bool.false_eq_true, if_false]
   intro _ hw
   unfold turnM at ht
   rw [hj, Bool.true_and, show p.x.w = 8 from hw] at ht
   show farB (wayM a q k p.to) = false
   simpa using ht
theorem relaxM_reach (q : List Int) : ∀ (n : Nat) (ps : List PaS), shortN ps < n → reachL (relaxM q n ps).2 q 0 (relaxM q n ps).1
 | 0, ps, h => by omega
 | n + 1, ps, h => by
  simp only [relaxM]
  cases hm : moreL (offM 0 ps) q 0 ps
  ·simp only [Bool.false_eq_true, if_false]
   exact reach_jump _ q ps 0 hm
  ·simp only [if_true]
   have hs := short_less (offM 0 ps) q ps 0
   rw [hm] at hs
   simp only [if_true] at hs
   exact relaxM_reach q n _ (by omega)
theorem wayM_rng {p0 : List PaS} {q : List Int} {k : Nat} {to : Int} (hl : p0.length ≤ 2000) : -22000 ≤ wayM (offM 0 p0) q k to ∧ wayM (offM 0 p0) q k to ≤ 22000 := by
 have h : ∀ n : Nat, 0 ≤ atI (offM 0 p0) n ∧ atI (offM 0 p0) n ≤ 22000 := by
  intro n
  unfold atI
  rw [List.getD_eq_getElem?_getD]
  by_cases hn : n ≤ p0.length
  ·rw [offM_get _ _ _ hn]
   have := totM_le (p0.take n)
   rw [List.length_take] at this
   simp only [Option.getD_some]
   omega
  ·rw [List.getElem?_eq_none (by rw [offM_len]; omega)]
   simp
 unfold wayM
 have h1 := h (atI q to.toNat).toNat
 have h2 := h (k + 1)
 omega
theorem wayL_may {p0 : List PaS} {q : List Int} (hl : p0.length ≤ 2000) : ∀ (l : List PaS) (k : Nat), AllJx l → reachL (offM 0 p0) q k l → ∀ p ∈ wayL (offM 0 p0) q k l, mayXS p.x = true
 | [], k, h, hr, p, hp => by cases hp
 | x :: r, k, h, hr, p, hp => by
  rcases List.mem_cons.1 hp with rfl | hp
  ·have hx := h x (List.mem_cons_self ..)
   unfold stepW
   cases hj : x.j
   ·exact (hx.no hj).1
   ·have hw := wayM_rng (p0 := p0) (q := q) (k := k) (to := x.to) hl
    refine jump_may hx hj (by omega) (by omega) ?_
    intro h8
    have := hr.1 hj h8
    unfold farB at this
    simp at this
    omega
  ·exact wayL_may hl r (k + 1) (fun y hy => h y (List.mem_cons_of_mem _ hy)) hr.2 p hp
theorem finM_may {q : List Int} {ps : List PaS} (hl : ps.length ≤ 2000) (h : AllJx ps) : ∀ p ∈ finM q ps, mayXS p.x = true := by
 obtain ⟨p0, h1, h2⟩ := relaxM_off q (shortN ps + 1) ps
 have hr := relaxM_reach q (shortN ps + 1) ps (by omega)
 unfold finM
 rw [h2] at hr ⊢
 exact wayL_may (by omega) _ 0 (relaxM_jx q _ ps h) hr
theorem mayL_facts {s : IrS} {n : Int} (h : mayL s n = true) : (s.kind = 0 ∧ mayXS s.x = true ∧ s.op ≠ 28 ∧ s.op ≠ 29) ∨ (s.kind = 4 ∧ ccM s.cc = true ∧ 0 ≤ s.to ∧ s.to < n) ∨ (s.kind = 5 ∧ 0 ≤ s.to ∧ s.to < n) := by
 unfold mayL at h
 split at h
 ·rename_i hk
  simp only [Bool.and_eq_true, Bool.not_eq_true', decide_eq_false_iff_not, not_or] at h
  exact .inl ⟨hk, h.2.1, h.2.2⟩
 ·split at h
  ·rename_i hk
   simp only [Bool.and_eq_true, decide_eq_true_eq] at h
   obtain ⟨hm, ht⟩ := h
   unfold IrS.may at hm
   rcases hk with hk | hk
   ·rw [hk, mayI_4] at hm
    simp only [Bool.and_eq_true, decide_eq_true_eq] at hm
    exact .inr (.inl ⟨hk, hm.1.1.1, hm.1.2.1, ht⟩)
   ·rw [hk, mayI_5] at hm
    simp only [Bool.and_eq_true, decide_eq_true_eq] at hm
    exact .inr (.inr ⟨hk, hm.1.1.1, ht⟩)
  ·cases h
theorem inP_ok (nb : Nat) {x : XS} (h : mayXS x = true) (h1 : x.op ≠ 28) (h2 : x.op ≠ 29) : PaOK nb (inP x) ∧ JxOK (inP x) := by
 have ho : x.op ≤ 127 := by
  have := may_op h
  simp only [ops32, List.mem_cons, List.not_mem_nil, or_false] at this
  omega
 exact ⟨⟨ho, (fun e => by cases e), (fun e => by cases e)⟩, ⟨fun _ => ⟨h, h1, h2⟩, (fun e => by cases e)⟩⟩
theorem stepP_ok {nb : Nat} {s : IrS} (h : mayL s (nb : Int) = true) (n : Nat) (b : Int) (i : Nat) : ∀ p ∈ stepP n b i s, PaOK nb p ∧ JxOK p := by
 intro p hp
 have jm : ∀ to : Int, 0 ≤ to → to < nb → PaOK nb (jmP to) ∧ JxOK (jmP to) := fun to t0 t1 =>
  ⟨⟨(show (28 : Int) ≤ 127 by decide), fun _ => t0, fun _ => t1⟩, ⟨(fun e => by cases e), fun _ => ⟨.inl ⟨rfl, rfl⟩, .inl rfl, rfl, rfl, rfl, rfl⟩⟩⟩
 unfold stepP at hp
 rcases mayL_facts h with ⟨hk, hm, h1, h2⟩ | ⟨hk, hc, t0, t1⟩ | ⟨hk, t0, t1⟩
 ·rw [if_pos hk, List.mem_singleton] at hp
  subst hp
  exact inP_ok nb hm h1 h2
 ·rw [if_neg (by omega), if_pos hk, List.mem_singleton] at hp
  subst hp
  exact ⟨⟨(show (29 : Int) ≤ 127 by decide), fun _ => t0, fun _ => t1⟩, ⟨(fun e => by cases e), fun _ => ⟨.inr ⟨rfl, hc⟩, .inl rfl, rfl, rfl, rfl, rfl⟩⟩⟩
 ·rw [if_neg (by omega), if_neg (by omega)] at hp
  split at hp
  ·rw [List.mem_singleton] at hp
   subst hp
   exact jm _ t0 t1
  ·cases hp
theorem blkG_ok {nb : Nat} (n : Nat) (b : Int) : ∀ (l : List IrS) (i : Nat), (∀ s ∈ l, mayL s (nb : Int) = true) → ∀ p ∈ blkG n b i l, PaOK nb p ∧ JxOK p
 | [], i, h, p, hp => by cases hp
 | s :: r, i, h, p, hp => by
  rcases List.mem_append.1 hp with q | q
  ·exact stepP_ok (h s (List.mem_cons_self ..)) n b i p q
  ·exact blkG_ok n b r (i + 1) (fun y hy => h y (List.mem_cons_of_mem _ hy)) p q
theorem allP_ok {nb : Nat} : ∀ (l : List (List IrS)) (b : Int), (∀ r ∈ l, ∀ s ∈ r, mayL s (nb : Int) = true) → ∀ p ∈ allP b l, PaOK nb p ∧ JxOK p
 | [], b, h, p, hp => by cases hp
 | r :: l, b, h, p, hp => by
  rcases List.mem_append.1 hp with q | q
  ·exact blkG_ok _ b r 0 (h r (List.mem_cons_self ..)) p q
  ·exact allP_ok l (b + 1) (fun y hy => h y (List.mem_cons_of_mem _ hy)) p q
theorem begP_rng : ∀ (l : List (List IrS)) (k : Nat) (b : Int), ∀ x ∈ begP k b l, 0 ≤ x ∧ x ≤ ((k + (allP b l).length : Nat) : Int)
 | [], k, b, x, hx => by cases hx
 | r :: l, k, b, x, hx => by
  simp only [allP, List.length_append]
  rcases List.mem_cons.1 hx with rfl | hx
  ·omega
  ·have := begP_rng l _ (b + 1) x hx
   omega
def listM : Nat → List Int → Option (List XS)
  | 0, _ => none
  | n + 1, b => if b = [] then some [] else
    match readM b with
    | none => none
    | some x => (listM n (b.drop (bytesXS x).length)).map (x :: ·)
def NoJ (A : List PaS) : Prop := ∀ p ∈ A, p.j = false
structure SameP (p r : PaS) : Prop where
  j : r.j = p.j
  to : r.to = p.to
  no : p.j = false → r = p
  yes : p.j = true → r.x.op = p.x.op ∧ r.x.cc = p.x.cc ∧ r.x.dst = p.x.dst ∧ r.x.src = p.x.src ∧ r.x.base = p.x.base ∧ r.x.disp = p.x.disp
theorem SameP.rfl' (p : PaS) : SameP p p := ⟨rfl, rfl, fun _ => rfl, fun _ => ⟨rfl, rfl, rfl, rfl, rfl, rfl⟩⟩
theorem SameP.trans {p r s : PaS} (h : SameP p r) (k : SameP r s) : SameP p s := by
 refine ⟨k.j.trans h.j, k.to.trans h.to, fun e => ?_, fun e => ?_⟩
 ·have := h.no e
  subst this
  exact k.no e
 ·obtain ⟨a1, a2, a3, a4, a5, a6⟩ := h.yes e
  obtain ⟨b1, b2, b3, b4, b5, b6⟩ := k.yes (h.j.trans e)
  exact ⟨b1.trans a1, b2.trans a2, b3.trans a3, b4.trans a4, b5.trans a5, b6.trans a6⟩
theorem SameP.stepJ (a q : List Int) (k : Nat) (p : PaS) : SameP p (stepJ a q k p) := by
 unfold Go.Ev.stepJ
 cases hj : p.j
 ·exact SameP.rfl' p
 ·simp only [if_true]
  split
  ·exact ⟨rfl, rfl, (fun e => by rw [hj] at e; cases e), fun _ => ⟨rfl, rfl, rfl, rfl, rfl, rfl⟩⟩
  ·exact ⟨rfl, rfl, (fun e => by rw [hj] at e; cases e), fun _ => ⟨rfl, rfl, rfl, rfl, rfl, rfl⟩⟩
theorem SameP.stepW (a q : List Int) (k : Nat) (p : PaS) : SameP p (stepW a q k p) := by
 unfold Go.Ev.stepW
 cases hj : p.j
 ·exact SameP.rfl' p
 ·exact ⟨rfl, rfl, (fun e => by rw [hj] at e; cases e), fun _ => ⟨rfl, rfl, rfl, rfl, rfl, rfl⟩⟩
def SameL (l m : List PaS) : Prop := l.length = m.length ∧ ∀ (k : Nat) (p r : PaS), l[k]? = some p → m[k]? = some r → SameP p r
theorem wayL_get (a q : List Int) : ∀ (l : List PaS) (k i : Nat), (wayL a q k l)[i]? = (l[i]?).map (stepW a q (k + i))
 | [], k, i => by simp [wayL]
 | p :: r, k, 0 => by simp [wayL]
 | p :: r, k, i + 1 => by
  simp only [wayL, List.getElem?_cons_succ]
  rw [wayL_get a q r (k + 1) i, show k + 1 + i = k + (i + 1) by omega]
def ImmZ (l : List PaS) : Prop := ∀ p ∈ l, p.j = true → p.x.imm = 0
theorem allP_app : ∀ (x y : List (List IrS)) (b : Int), allP b (x ++ y) = allP b x ++ allP (b + x.length) y
 | [], y, b => by simp [allP]
 | a :: x, y, b => by
  rw [List.cons_append, allP, allP, allP_app x y (b + 1), List.append_assoc]
  congr 3
  simp only [List.length_cons]
  omega
theorem stepP_immz {n : Nat} {b : Int} {i : Nat} {s : IrS} : ImmZ (stepP n b i s) := by
 intro p hp hj
 unfold stepP at hp
 split at hp
 ·rw [List.mem_singleton] at hp; subst hp; cases hj
 ·split at hp
  ·rw [List.mem_singleton] at hp; subst hp; rfl
  ·split at hp
   ·rw [List.mem_singleton] at hp; subst hp; rfl
   ·cases hp
theorem blkG_immz (n : Nat) (b : Int) : ∀ (l : List IrS) (i : Nat), ImmZ (blkG n b i l)
 | [], i, p, hp, _ => by cases hp
 | s :: r, i, p, hp, hj => by
  rcases List.mem_append.1 hp with q | q
  ·exact stepP_immz p q hj
  ·exact blkG_immz n b r (i + 1) p q hj
theorem allP_immz : ∀ (l : List (List IrS)) (b : Int), ImmZ (allP b l)
 | [], b, p, hp, _ => by cases hp
 | r :: l, b, p, hp, hj => by
  rcases List.mem_append.1 hp with q | q
  ·exact blkG_immz _ b r 0 p q hj
  ·exact allP_immz l (b + 1) p q hj
def PaS.dc (p : PaS) : List D :=
  if p.j = true then [.int .i8 p.x.op, .int .i8 0, .int .i8 p.x.dst, .int .i8 p.x.src, .int .i8 p.x.base, .int .i64 p.x.disp, .int .i64 0, .int .i8 p.x.cc, .int .i64 p.to, .bool (decide (p.x.w ≠ 8))]
  else [.int .i8 p.x.op, .int .i8 p.x.w, .int .i8 p.x.dst, .int .i8 p.x.src, .int .i8 p.x.base, .int .i64 p.x.disp, .int .i64 p.x.imm, .int .i8 p.x.cc, .int .i64 (-1), .bool false]
def daC : List PaS → List D
  | [] => []
  | p :: r => p.dc ++ daC r
theorem PaS.dc_len (p : PaS) : p.dc.length = 10 := by unfold PaS.dc; split <;> rfl
theorem daC_len : ∀ l : List PaS, (daC l).length = l.length * 10
 | [] => rfl
 | p :: r => by simp only [daC, List.length_append, List.length_cons, daC_len r, PaS.dc_len]; omega
theorem daC_app : ∀ a b : List PaS, daC (a ++ b) = daC a ++ daC b
 | [], b => rfl
 | p :: a, b => by rw [List.cons_append, daC, daC, daC_app a b, List.append_assoc]
theorem daC_snoc (a : List PaS) (p : PaS) : daC (a ++ [p]) = daC a ++ p.dc := by rw [daC_app]; simp [daC]
theorem PaS.dc_clean (p : PaS) : ∀ c ∈ p.dc, c.clean = true := by
 intro c h
 unfold PaS.dc at h
 split at h <;> (simp only [List.mem_cons, List.not_mem_nil, or_false] at h; rcases h with rfl | rfl | rfl | rfl | rfl | rfl | rfl | rfl | rfl | rfl <;> rfl)
theorem daC_clean : ∀ l : List PaS, ∀ c ∈ daC l, c.clean = true
 | [], c, h => by cases h
 | p :: r, c, h => (List.mem_append.1 h).elim (p.dc_clean c) (daC_clean r c)
theorem PaS.dc_demote (p : PaS) : p.dc.map D.demote = p.dc := by unfold PaS.dc; split <;> rfl
theorem daC_demote : ∀ l : List PaS, (daC l).map D.demote = daC l
 | [] => rfl
 | p :: r => by rw [daC, List.map_append, p.dc_demote, daC_demote r]
end Go.Ev
namespace Go.Proofs.Ytcngafhpodeenaa
open Go Go.Ev
theorem dp_facts {pro : List XS} {l : List (List IrS)} (hb : BlkIn pro l) {b : Nat} (hlt : b < l.length) : l[b].length ≤ 10000 ∧ ((irL l[b]).length : Int) ≤ 100000 ∧ (b : Int) < ((rwL l).length : Int) ∧ (rwL l)[Int.toNat (b : Int)]? = some (.lst .no 13 (irL l[b])) ∧
  IntKind.i64.wrap (preN pro l b + ((irL l[b]).length : Int)) = preN pro l (b + 1) ∧ IntKind.i64.wrap ((b : Int) + 1) = ((b + 1 : Nat) : Int) ∧ 0 ≤ preN pro l b ∧ preN pro l b ≤ 1000000 ∧ b ≤ 1000 := by
 have h3 := hb.b
 have h4 := hb.n
 have h6 := sumL_mem (List.getElem_mem hlt)
 obtain ⟨f1, f2, f3, f4, f5, f6, f7, f8, f9, f10, f11⟩ := pt_facts hb hlt
 exact ⟨by omega, f8, f6, f7, f9, f10, f4, f5, by omega⟩
theorem dp_rounds {pro : List XS} {l : List (List IrS)} (hb : BlkIn pro l) (hg : ∀ r ∈ l, goodB l r) : ∀ (m b : Nat), b + m = l.length →
  Rounds Try.prog (loopB Try.f67 1) 0 (dpT pro l (preN pro l b) b) [] (.exit 2) (dqU pro l (preN pro l l.length)) []
 | 0, b, hm => by
  have e : b = l.length := by omega
  subst e
  exact Rounds.last (dp_end pro l _ (l.length : Int) (by omega) (by have := hb.b; omega) (by unfold preN; omega) (by unfold preN; have := sumL_take l l.length; have := hb.n; omega) (by rw [rwL_len]; omega)) (fun h => by cases h)
 | m + 1, b, hm => by
  have hlt : b < l.length := by omega
  obtain ⟨f1, f2, f3, f4, f5, f6, f7, f8, f9⟩ := dp_facts hb hlt
  have hl := LoopRun.of_rounds (Nat.le_refl 0) (ds_rounds pro l (IntKind.i64.wrap (preN pro l b + ((irL l[b]).length : Int))) hlt f9 (hb.ok _ (List.getElem_mem hlt)) f1 (hg _ (List.getElem_mem hlt)) l[b].length 0 (by omega))
  have := dp_in pro l (preN pro l b) b (by omega) (by omega) f7 f8 f3 l[b] f2 f4 hl
  rw [f5, f6] at this
  exact Rounds.more this (dp_rounds hb hg m (b + 1) (by omega))
theorem dp_roundsE {pro : List XS} {l : List (List IrS)} (hb : BlkIn pro l) (hg : ¬ ∀ r ∈ l, goodB l r) : ∀ (m b : Nat), b + m = l.length → (∀ r ∈ l.take b, goodB l r) →
  Rounds Try.prog (loopB Try.f67 1) 0 (dpT pro l (preN pro l b) b) [] .ret dqE []
 | 0, b, hm, ha => by
  rw [List.take_of_length_le (show l.length ≤ b by omega)] at ha
  exact absurd ha hg
 | m + 1, b, hm, ha => by
  have hlt : b < l.length := by omega
  obtain ⟨f1, f2, f3, f4, f5, f6, f7, f8, f9⟩ := dp_facts hb hlt
  by_cases h0 : goodB l l[b]
  ·have hl := LoopRun.of_rounds (Nat.le_refl 0) (ds_rounds pro l (IntKind.i64.wrap (preN pro l b + ((irL l[b]).length : Int))) hlt f9 (hb.ok _ (List.getElem_mem hlt)) f1 h0 l[b].length 0 (by omega))
   have := dp_in pro l (preN pro l b) b (by omega) (by omega) f7 f8 f3 l[b] f2 f4 hl
   rw [f5, f6] at this
   exact Rounds.more this (dp_roundsE hb hg m (b + 1) (by omega) (by
    rw [List.take_succ_eq_append_getElem hlt]
    intro x hx
    rcases List.mem_append.1 hx with q | q
    ·exact ha x q
    ·rw [List.mem_singleton] at q
     subst q
     exact h0))
  ·have hl := LoopRun.of_rounds (Nat.le_refl 0) (ds_roundsE pro l (IntKind.i64.wrap (preN pro l b + ((irL l[b]).length : Int))) hlt f9 (hb.ok _ (List.getElem_mem hlt)) f1 h0 l[b].length 0 (by omega) (by simp))
   exact Rounds.last (dp_bad pro l (preN pro l b) b (by omega) (by omega) f7 f8 f3 l[b] f2 f4 hl) (fun h => by cases h)
abbrev drK (pro : List XS) (l : List (List IrS)) (k : Nat) (i : Int) : List D := ((.lst .no 8 (xsL pro)) :: (.lst .no 1 (rwL l)) :: (un 9 ++ (.slc 0 10 k) :: (.int .i64 i) :: (un 165)))
theorem inP_dc (x : XS) : (inP x).dc = [.int .i8 x.op, .int .i8 x.w, .int .i8 x.dst, .int .i8 x.src, .int .i8 x.base, .int .i64 x.disp, .int .i64 x.imm, .int .i8 x.cc, .int .i64 (-1), .bool false] := rfl
theorem daC_beq (l : List PaS) : Nat.beq (daC l).length (l.length * 10) = true := by rw [Nat.beq_eq, daC_len]
theorem dr_rounds (l : List (List IrS)) (pro : List XS) (hl : pro.length ≤ 2500) : ∀ (m k : Nat), k + m = pro.length →
  Rounds Try.prog (loopB Try.f67 3) 0 (drK pro l k k) [.box (daC ((pro.take k).map inP))] (.exit 6) (drB pro l pro.length) [.box (daC (pro.map inP))]
 | 0, k, hk => by
  have e : k = pro.length := by omega
  subst e
  rw [List.take_of_length_le (Nat.le_refl _)]
  have hq := daC_beq (pro.map inP)
  rw [List.length_map] at hq
  have := dr_eb pro l (pro.length : Int) (by omega) (by omega) (daC (pro.map inP)) pro.length (daC_clean _) hq (by omega) (by rw [xsL_len]; omega)
  rw [daC_demote] at this
  exact Rounds.last this (fun h => by cases h)
 | m + 1, k, hk => by
  have hlt : k < pro.length := by omega
  have ih := dr_rounds l pro hl m (k + 1) (by omega)
  have hq := daC_beq ((pro.take k).map inP)
  rw [List.length_map, List.length_take, Nat.min_eq_left (by omega)] at hq
  have := dr_k pro l (k : Int) (by omega) (by omega) (daC ((pro.take k).map inP)) k (daC_clean _) hq (by omega) (by rw [xsL_len]; omega) pro[k] (by rw [Int.toNat_natCast]; exact xsL_get pro k hlt)
  rw [← inP_dc, ← daC_snoc, daC_demote, show IntKind.i64.wrap ((k : Int) + 1) = ((k + 1 : Nat) : Int) by rw [w_i64]; omega] at this
  rw [List.take_succ_eq_append_getElem hlt, List.map_append] at ih
  exact Rounds.more this ih
theorem dr_roundsB (l : List (List IrS)) (pro : List XS) (hl : pro.length ≤ 2500) (hne : pro ≠ []) :
  Rounds Try.prog (loopB Try.f67 3) 0 (drT pro l 0) [] (.exit 6) (drB pro l pro.length) [.box (daC (pro.map inP))] := by
 have h0 : 0 < pro.length := List.length_pos_iff.2 hne
 have h1 := dr_0 pro l 0 (by omega) (by omega) (by rw [xsL_len]; omega) pro[0] (xsL_get pro 0 h0)
 have h2 := dr_rounds l pro hl (pro.length - 1) 1 (by omega)
 have e : (pro.take 1).map inP = [inP pro[0]] := by
  rw [show pro.take 1 = pro.take 0 ++ [pro[0]] from List.take_succ_eq_append_getElem h0]
  rfl
 rw [e] at h2
 have e2 : daC [inP pro[0]] = (inP pro[0]).dc := by simp [daC]
 rw [e2, inP_dc] at h2
 rw [show IntKind.i64.wrap ((0 : Int) + 1) = ((1 : Nat) : Int) by rw [w_i64]; rfl] at h1
 exact Rounds.more h1 h2
theorem dr_roundsL (l : List (List IrS)) : Rounds Try.prog (loopB Try.f67 3) 0 (drT [] l 0) [] (.exit 6) (drU [] l) [] :=
 Rounds.last (dr_e [] l 0 (by omega) (by omega) (by decide)) (fun h => by cases h)
end Go.Proofs.Ytcngafhpodeenaa
