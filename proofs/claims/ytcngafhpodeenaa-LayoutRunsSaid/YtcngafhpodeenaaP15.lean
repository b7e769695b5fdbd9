/- Contracts and plain laws that a statement's proof leans on (texts merged: XL1, LM4, LM4A, LM5, LM6, LJF, LS0, LS1, LS2, LS2A, LS3, LS4, LQ8, LQ9, LQ9A, LQ9B, LQ10). -/
import Derived.Test.YtcngafhpodeenaaP04
import Derived.Test.YtcngafhpodeenaaP08
import Derived.Test.YtcngafhpodeenaaP11
import Derived.Test.YtcngafhpodeenaaP13
import Derived.Test.YtcngafhpodeenaaP14
set_option linter.unusedVariables false
set_option linter.unusedSimpArgs false
set_option maxRecDepth 100000
set_option maxHeartbeats 8000000
namespace Go.Proofs.Ytcngafhpodeenaa
open Go Go.Ev
theorem lw_ir_ok  : Ret Try.prog 74 ([irD 5 0 0 0 0 0 0 0 0 0 0 0 0]) (.bool true) := by
 exact (Ret.of_eval (d := .bool true) mixed Try.func74 (by kernel_rfl) ([.inl, .inl, tT, tT, tT, tT, tT, tT, tT, tT, tT, .get ([D.fn (Fn.func 164) [] [], D.fn (Fn.func 161) [] [], D.fn (Fn.func 161) [] [], D.fn (Fn.func 168) [] [], D.fn (Fn.func 169) [] [.ptr false 2 0], D.fn (Fn.func 163) [] [], D.fn (Fn.func 171) [] []]) 5 _ rfl, tT, .inl, .inl, tT] ++ [tT, tT, tT, tT, tT, tT, tT, tT, tT, .flat _ _ flat_Ir, tT]) (by kernel_rfl)).to (by simp [wk])
theorem blkw_ok  : Ret Try.prog 126 ([.lst .no 13 [irD 0 1 32 0 0 0 0 5 0 0 0 0 0, irD 5 0 0 0 0 0 0 0 0 0 0 0 0], .int .i64 0]) (.lst .no 10 [.agg [.int .i8 1, .int .i8 32, .int .i8 0, .int .i8 0, .int .i8 0, .int .i64 0, .int .i64 5, .int .i8 0, .bool false, .int .i64 0], .agg [.int .i8 28, .int .i8 8, .int .i8 0, .int .i8 0, .int .i8 0, .int .i64 0, .int .i64 0, .int .i8 0, .bool true, .int .i64 0]]) := by
 exact (Ret.of_eval (d := .lst (.fresh 10) 10 [.agg [.int .i8 1, .int .i8 32, .int .i8 0, .int .i8 0, .int .i8 0, .int .i64 0, .int .i64 5, .int .i8 0, .bool false, .int .i64 0], .agg [.int .i8 28, .int .i8 8, .int .i8 0, .int .i8 0, .int .i8 0, .int .i64 0, .int .i64 0, .int .i8 0, .bool true, .int .i64 0]]) mixed Try.func126 (by kernel_rfl) ([.go 64, tT, tT, .get ([(irD 0 1 32 0 0 0 0 5 0 0 0 0 0), (irD 5 0 0 0 0 0 0 0 0 0 0 0 0)]) 0 _ rfl, tT, .len ((1 : Nat)) ((2147483648 : Nat)) (by first | decide | omega | (simp; omega)), tT, tT, .get ([(irD 0 1 32 0 0 0 0 5 0 0 0 0 0), (irD 5 0 0 0 0 0 0 0 0 0 0 0 0)]) 1 _ rfl, tF, tF, tT, tT, tT, tT, tT] ++ [tF, tT, tT, tT, tT, tT, tF, tT, .len ((2 : Nat)) ((2147483648 : Nat)) (by first | decide | omega | (simp; omega)), tF]) (by kernel_rfl)).to (by first | (simp [wk, wkO]; done) | exact ⟨rfl, .inl rfl, trivial, .inr rfl⟩)
theorem wakes24_ok  : Ret Try.prog 25 ([]) (.bool true) := by
 have c0 := @lw_may_ok
 have c1 := @lw_ir_ok
 have c2 := Ret.args (as' := [.lst .tight 13 [(irD 0 1 32 0 0 0 0 5 0 0 0 0 0), (irD 5 0 0 0 0 0 0 0 0 0 0 0 0)], .int .i64 0]) (@blkw_ok) (by simp [wkL, wk, wkO])
 have c3 := @lw_len5_ok
 have c4 := @lw_len2_ok
 have c5 := @lw_b5_ok
 have c6 := @lw_b2_ok
 exact (Ret.of_eval (d := .bool true) mixed Try.func25 (by kernel_rfl) ([.inl, .inl, tT, tT, tT, tF, tF, .go 64, tF, .go 64, tT, tT, .get ([.lst .tight 13 [(irD 0 1 32 0 0 0 0 5 0 0 0 0 0), (irD 5 0 0 0 0 0 0 0 0 0 0 0 0)]]) 0 _ rfl, tT, .get ([.lst .tight 13 [(irD 0 1 32 0 0 0 0 5 0 0 0 0 0), (irD 5 0 0 0 0 0 0 0 0 0 0 0 0)]]) 0 _ rfl, .go 64] ++ [tT, tT, .get ([(irD 0 1 32 0 0 0 0 5 0 0 0 0 0), (irD 5 0 0 0 0 0 0 0 0 0 0 0 0)]) 0 _ rfl, .inl, tT, .flat _ _ flat_Ir, tT, tT, tT, .ret _ _ _ c0, tT, tT, tT, tT, .inl, tT] ++ [tT, tT, tF, tT, tT, tF, tT, tT, .get ([(irD 0 1 32 0 0 0 0 5 0 0 0 0 0), (irD 5 0 0 0 0 0 0 0 0 0 0 0 0)]) 1 _ rfl, .inl, tF, tF, tT, .ret _ _ _ c1, tT, tT] ++ [tT, tT, tT, tF, tF, .len ((1 : Nat)) ((2147483648 : Nat)) (by first | decide | omega | (simp; omega)), tT, .get ([.lst .tight 13 [(irD 0 1 32 0 0 0 0 5 0 0 0 0 0), (irD 5 0 0 0 0 0 0 0 0 0 0 0 0)]]) 0 _ rfl, .ret _ _ _ c2, .inl, .go 64, tT, tT, .get ([.lst .tight 0 [], .lst .no 10 [.agg [.int .i8 1, .int .i8 32, .int .i8 0, .int .i8 0, .int .i8 0, .int .i64 0, .int .i64 5, .int .i8 0, .bool false, .int .i64 0], .agg [.int .i8 28, .int .i8 8, .int .i8 0, .int .i8 0, .int .i8 0, .int .i64 0, .int .i64 0, .int .i8 0, .bool true, .int .i64 0]]]) 0 _ rfl, .go 1, .len ((0 : Nat)) ((2147483648 : Nat)) (by first | decide | omega | (simp; omega))] ++ [tT, tT, .get ([.lst .tight 0 [], .lst .no 10 [.agg [.int .i8 1, .int .i8 32, .int .i8 0, .int .i8 0, .int .i8 0, .int .i64 0, .int .i64 5, .int .i8 0, .bool false, .int .i64 0], .agg [.int .i8 28, .int .i8 8, .int .i8 0, .int .i8 0, .int .i8 0, .int .i64 0, .int .i64 0, .int .i8 0, .bool true, .int .i64 0]]]) 1 _ rfl, .go 0, .len ((2 : Nat)) ((2147483648 : Nat)) (by first | decide | omega | (simp; omega)), tF, tF, tF, tF, .inl, tT, .go 64, .inl, .go 64, tT, tT] ++ [.get ([.int .i64 0, .int .i64 0, .int .i64 0]) 0 _ rfl, tT, .getA ([.int .i8 1, .int .i8 32, .int .i8 0, .int .i8 0, .int .i8 0, .int .i64 0, .int .i64 5, .int .i8 0, .bool false, .int .i64 0, .int .i8 28, .int .i8 8, .int .i8 0, .int .i8 0, .int .i8 0, .int .i64 0, .int .i64 0, .int .i8 0, .bool true, .int .i64 0]) 0 8 ([.int .i8 1, .int .i8 32, .int .i8 0, .int .i8 0, .int .i8 0, .int .i64 0, .int .i64 5, .int .i8 0]) ⟨rfl, by first | decide | simp⟩, .ret _ _ _ c3, tT, .putA ([.int .i64 0, .int .i64 0, .int .i64 0]) 1 ([.int .i64 5]) ([.int .i64 0, .int .i64 5, .int .i64 0]) ⟨rfl, by first | decide | simp⟩, tT, tT, .get ([.int .i64 0, .int .i64 5, .int .i64 0]) 1 _ rfl, tT, .getA ([.int .i8 1, .int .i8 32, .int .i8 0, .int .i8 0, .int .i8 0, .int .i64 0, .int .i64 5, .int .i8 0, .bool false, .int .i64 0, .int .i8 28, .int .i8 8, .int .i8 0, .int .i8 0, .int .i8 0, .int .i64 0, .int .i64 0, .int .i8 0, .bool true, .int .i64 0]) 10 8 ([.int .i8 28, .int .i8 8, .int .i8 0, .int .i8 0, .int .i8 0, .int .i64 0, .int .i64 0, .int .i8 0]) ⟨rfl, by first | decide | simp⟩, .ret _ _ _ c4, tT, .putA ([.int .i64 0, .int .i64 5, .int .i64 0]) 2 ([.int .i64 7]) ([.int .i64 0, .int .i64 5, .int .i64 7]) ⟨rfl, by first | decide | simp⟩, tF, .go 64] ++ [tT, tT, .get ([.int .i8 1, .int .i8 32, .int .i8 0, .int .i8 0, .int .i8 0, .int .i64 0, .int .i64 5, .int .i8 0, .bool false, .int .i64 0, .int .i8 28, .int .i8 8, .int .i8 0, .int .i8 0, .int .i8 0, .int .i64 0, .int .i64 0, .int .i8 0, .bool true, .int .i64 0]) 8 _ rfl, tT, tT, tT, .get ([.int .i8 1, .int .i8 32, .int .i8 0, .int .i8 0, .int .i8 0, .int .i64 0, .int .i64 5, .int .i8 0, .bool false, .int .i64 0, .int .i8 28, .int .i8 8, .int .i8 0, .int .i8 0, .int .i8 0, .int .i64 0, .int .i64 0, .int .i8 0, .bool true, .int .i64 0]) 18 _ rfl, tF, .putA ([.int .i8 1, .int .i8 32, .int .i8 0, .int .i8 0, .int .i8 0, .int .i64 0, .int .i64 5, .int .i8 0, .bool false, .int .i64 0, .int .i8 28, .int .i8 8, .int .i8 0, .int .i8 0, .int .i8 0, .int .i64 0, .int .i64 0, .int .i8 0, .bool true, .int .i64 0]) 16 ([.int .i64 0]) ([.int .i8 1, .int .i8 32, .int .i8 0, .int .i8 0, .int .i8 0, .int .i64 0, .int .i64 5, .int .i8 0, .bool false, .int .i64 0, .int .i8 28, .int .i8 8, .int .i8 0, .int .i8 0, .int .i8 0, .int .i64 0, .int .i64 0, .int .i8 0, .bool true, .int .i64 0]) ⟨rfl, by first | decide | simp⟩, .get ([.int .i8 1, .int .i8 32, .int .i8 0, .int .i8 0, .int .i8 0, .int .i64 0, .int .i64 5, .int .i8 0, .bool false, .int .i64 0, .int .i8 28, .int .i8 8, .int .i8 0, .int .i8 0, .int .i8 0, .int .i64 0, .int .i64 0, .int .i8 0, .bool true, .int .i64 0]) 19 _ rfl, tT, .get ([.int .i64 0]) 0 _ rfl, tT, .get ([.int .i64 0, .int .i64 5, .int .i64 7]) 0 _ rfl, tT, .get ([.int .i64 0, .int .i64 5, .int .i64 7]) 2 _ rfl] ++ [.get ([.int .i8 1, .int .i8 32, .int .i8 0, .int .i8 0, .int .i8 0, .int .i64 0, .int .i64 5, .int .i8 0, .bool false, .int .i64 0, .int .i8 28, .int .i8 8, .int .i8 0, .int .i8 0, .int .i8 0, .int .i64 0, .int .i64 0, .int .i8 0, .bool true, .int .i64 0]) 11 _ rfl, tT, tT, tT, tT, tT, tT, tF, tT, tF, tF, tT, .go 64, tT, tT, .get ([.int .i8 1, .int .i8 32, .int .i8 0, .int .i8 0, .int .i8 0, .int .i64 0, .int .i64 5, .int .i8 0, .bool false, .int .i64 0, .int .i8 28, .int .i8 8, .int .i8 0, .int .i8 0, .int .i8 0, .int .i64 0, .int .i64 0, .int .i8 0, .bool true, .int .i64 0]) 8 _ rfl] ++ [tF, tT, tT, .get ([.int .i8 1, .int .i8 32, .int .i8 0, .int .i8 0, .int .i8 0, .int .i64 0, .int .i64 5, .int .i8 0, .bool false, .int .i64 0, .int .i8 28, .int .i8 8, .int .i8 0, .int .i8 0, .int .i8 0, .int .i64 0, .int .i64 0, .int .i8 0, .bool true, .int .i64 0]) 18 _ rfl, tT, .get ([.int .i8 1, .int .i8 32, .int .i8 0, .int .i8 0, .int .i8 0, .int .i64 0, .int .i64 5, .int .i8 0, .bool false, .int .i64 0, .int .i8 28, .int .i8 8, .int .i8 0, .int .i8 0, .int .i8 0, .int .i64 0, .int .i64 0, .int .i8 0, .bool true, .int .i64 0]) 19 _ rfl, tT, .get ([.int .i64 0]) 0 _ rfl, tT, .get ([.int .i64 0, .int .i64 5, .int .i64 7]) 0 _ rfl, tT, .get ([.int .i64 0, .int .i64 5, .int .i64 7]) 2 _ rfl, .putA ([.int .i8 1, .int .i8 32, .int .i8 0, .int .i8 0, .int .i8 0, .int .i64 0, .int .i64 5, .int .i8 0, .bool false, .int .i64 0, .int .i8 28, .int .i8 8, .int .i8 0, .int .i8 0, .int .i8 0, .int .i64 0, .int .i64 0, .int .i8 0, .bool true, .int .i64 0]) 16 ([.int .i64 (-7 : Int)]) ([.int .i8 1, .int .i8 32, .int .i8 0, .int .i8 0, .int .i8 0, .int .i64 0, .int .i64 5, .int .i8 0, .bool false, .int .i64 0, .int .i8 28, .int .i8 8, .int .i8 0, .int .i8 0, .int .i8 0, .int .i64 0, .int .i64 (-7 : Int), .int .i8 0, .bool true, .int .i64 0]) ⟨rfl, by first | decide | simp⟩, tF, tT, .get ([.int .i64 0, .int .i64 5, .int .i64 7]) 2 _ rfl] ++ [tF, .go 64, tT, tT, .getA ([.int .i8 1, .int .i8 32, .int .i8 0, .int .i8 0, .int .i8 0, .int .i64 0, .int .i64 5, .int .i8 0, .bool false, .int .i64 0, .int .i8 28, .int .i8 8, .int .i8 0, .int .i8 0, .int .i8 0, .int .i64 0, .int .i64 (-7 : Int), .int .i8 0, .bool true, .int .i64 0]) 0 10 ([.int .i8 1, .int .i8 32, .int .i8 0, .int .i8 0, .int .i8 0, .int .i64 0, .int .i64 5, .int .i8 0, .bool false, .int .i64 0]) ⟨rfl, by first | decide | simp⟩, .ret _ _ _ c5, .inl, .go 64, tT, tT, .get ([.lst .tight 0 [], .lst .no 1 [.int .u8 184, .int .u8 5, .int .u8 0, .int .u8 0, .int .u8 0]]) 0 _ rfl, .len ((0 : Nat)) ((2147483648 : Nat)) (by first | decide | omega | (simp; omega)), tT, tT, .get ([.lst .tight 0 [], .lst .no 1 [.int .u8 184, .int .u8 5, .int .u8 0, .int .u8 0, .int .u8 0]]) 1 _ rfl, .len ((5 : Nat)) ((2147483648 : Nat)) (by first | decide | omega | (simp; omega))] ++ [tF, tT, tT, .getA ([.int .i8 1, .int .i8 32, .int .i8 0, .int .i8 0, .int .i8 0, .int .i64 0, .int .i64 5, .int .i8 0, .bool false, .int .i64 0, .int .i8 28, .int .i8 8, .int .i8 0, .int .i8 0, .int .i8 0, .int .i64 0, .int .i64 (-7 : Int), .int .i8 0, .bool true, .int .i64 0]) 10 10 ([.int .i8 28, .int .i8 8, .int .i8 0, .int .i8 0, .int .i8 0, .int .i64 0, .int .i64 (-7 : Int), .int .i8 0, .bool true, .int .i64 0]) ⟨rfl, by first | decide | simp⟩, .ret _ _ _ c6, .inl, .go 64, tT, tT, .get ([.lst .no 1 [.int .u8 184, .int .u8 5, .int .u8 0, .int .u8 0, .int .u8 0], .lst .no 1 [.int .u8 235, .int .u8 249]]) 0 _ rfl, .len ((5 : Nat)) ((2147483648 : Nat)) (by first | decide | omega | (simp; omega)), tT, tT, .get ([.lst .no 1 [.int .u8 184, .int .u8 5, .int .u8 0, .int .u8 0, .int .u8 0], .lst .no 1 [.int .u8 235, .int .u8 249]]) 1 _ rfl, .len ((7 : Nat)) ((2147483648 : Nat)) (by first | decide | omega | (simp; omega)), tF] ++ [tF, .go 64, tT, tT, .get ([.int .i64 0]) 0 _ rfl, tT, .get ([.int .i64 0, .int .i64 5, .int .i64 7]) 0 _ rfl, .len ((1 : Nat)) ((2147483648 : Nat)) (by first | decide | omega | (simp; omega)), tF, tT, tT, tT, tT, tT, tT, tT] ++ [tT, tT, tT, tT, .get ([.int .i64 0]) 0 _ rfl, tT, tT, tT]) (by kernel_rfl)).to (by simp [wk])
theorem gr_e1 (l : List (List IrS)) (n i : Int) (i0 : 0 ≤ i) (i1 : i ≤ 1000) (n0 : 0 ≤ n) (n1 : n ≤ 1000000000000000000) (h : ((rwL l).length : Int) ≤ i)  : RoundRun Try.prog (loopB Try.f24 0) ⟨[1, 5], [], []⟩ 0 ((D.undef) :: (.lst .no 1 (rwL l)) :: (D.undef) :: (D.undef) :: (D.undef) :: (.int .i64 n) :: (.int .i64 i) :: (un 26)) [] (.exit 0) ((D.undef) :: (.lst .no 1 (rwL l)) :: (D.undef) :: (D.undef) :: (D.undef) :: (.int .i64 n) :: (un 27)) ([]) := by
 exact RoundRun.of_eval mixed [tC (eT (by ((try simp only [sL] at *); (try unfold big at *); omega) : (decide (i < (↑(List.length (rwL l)) : Int))) = false)), tC (eT (by ((try simp only [sL] at *); (try unfold big at *); omega) : (decide (i < (↑(List.length (rwL l)) : Int))) = false)), tC (by ((try simp only [sL] at *); (try unfold big at *); omega) : (decide (i < (↑(List.length (rwL l)) : Int))) = false), tF] (by kernel_rfl)
theorem gr_e2 (l : List (List IrS)) (n i : Int) (i0 : 0 ≤ i) (i1 : i ≤ 1000) (n0 : 0 ≤ n) (n1 : n ≤ 1000000000000000000) (h : i < ((rwL l).length : Int)) (h2 : 100 < i)  : RoundRun Try.prog (loopB Try.f24 0) ⟨[1, 5], [], []⟩ 0 ((D.undef) :: (.lst .no 1 (rwL l)) :: (D.undef) :: (D.undef) :: (D.undef) :: (.int .i64 n) :: (.int .i64 i) :: (un 26)) [] (.exit 0) ((D.undef) :: (.lst .no 1 (rwL l)) :: (D.undef) :: (D.undef) :: (D.undef) :: (.int .i64 n) :: (un 27)) ([]) := by
 exact RoundRun.of_eval mixed [tC (eT (by ((try simp only [sL] at *); (try unfold big at *); omega) : (decide (i < (↑(List.length (rwL l)) : Int))) = true)), tC (eT (by ((try simp only [sL] at *); (try unfold big at *); omega) : (decide (i < (↑(List.length (rwL l)) : Int))) = true)), tC (by ((try simp only [sL] at *); (try unfold big at *); omega) : (decide (i < (↑(List.length (rwL l)) : Int))) = true), tC (leC 100 (decide_eq_false (by omega : ¬ i < 101)))] (by kernel_rfl)
theorem gr_in (l : List (List IrS)) (n i : Int) (i0 : 0 ≤ i) (i1 : i ≤ 1000) (n0 : 0 ≤ n) (n1 : n ≤ 1000000000000000000) (h : i < ((rwL l).length : Int)) (h2 : i ≤ 100) (r : List IrS) (hx : (rwL l)[Int.toNat i]? = some (.lst .no 13 (irL r)))  : RoundRun Try.prog (loopB Try.f24 0) ⟨[1, 5, 6], [], []⟩ 0 ((D.undef) :: (.lst .no 1 (rwL l)) :: (D.undef) :: (D.undef) :: (D.undef) :: (.int .i64 n) :: (.int .i64 i) :: (un 26)) [] .norm ((D.undef) :: (.lst .no 1 (rwL l)) :: (D.undef) :: (D.undef) :: (D.undef) :: (.int .i64 (IntKind.i64.wrap (n + (↑(List.length (irL r)) : Int)))) :: (.int .i64 (IntKind.i64.wrap (i + (1 : Int)))) :: (un 26)) ([]) := by
 exact RoundRun.of_eval mixed [tC (eT (by ((try simp only [sL] at *); (try unfold big at *); omega) : (decide (i < (↑(List.length (rwL l)) : Int))) = true)), tC (eT (by ((try simp only [sL] at *); (try unfold big at *); omega) : (decide (i < (↑(List.length (rwL l)) : Int))) = true)), tC (by ((try simp only [sL] at *); (try unfold big at *); omega) : (decide (i < (↑(List.length (rwL l)) : Int))) = true), tC (leC 100 (decide_eq_true (Int.lt_add_one_of_le h2))), tC (v := true) (leL 0 (decide_eq_false (Int.not_lt.2 i0))), .get _ _ _ hx] (by kernel_rfl)
abbrev grT (l : List (List IrS)) (n i : Int) : List D := ((.undef) :: (.lst .no 1 (rwL l)) :: (.undef) :: (.undef) :: (.undef) :: (.int .i64 n) :: (.int .i64 i) :: (un 26))
abbrev grU (l : List (List IrS)) (n : Int) : List D := ((.undef) :: (.lst .no 1 (rwL l)) :: (.undef) :: (.undef) :: (.undef) :: (.int .i64 n) :: (un 27))
abbrev mvT (a b c : List Int) (n i : Int) : List D := (un 6 ++ (.lst .no 1 (intsD a)) :: (.undef) :: (.lst .no 1 (bD c)) :: (.lst .no 1 (intsD b)) :: (.undef) :: (.int .i64 n) :: (.int .i64 i) :: (un 77))
abbrev mvU (c : List Int) (n : Int) : List D := (un 8 ++ (.lst .no 1 (bD c)) :: (.undef) :: (.undef) :: (.int .i64 n) :: (un 78))
def sumG (pro : List XS) (l : List (List IrS)) : Int := ((pro.length + sumL (l.take 101) : Nat) : Int)
def Sized (pro : List XS) (l : List (List IrS)) : Prop := pro.length ≤ 140737488355328 ∧ ∀ r ∈ l, r.length ≤ 140737488355328
theorem sumL_le {l : List (List IrS)} (h : ∀ r ∈ l, r.length ≤ 140737488355328) : sumL l ≤ l.length * 140737488355328 := by
 induction l with
 | nil => simp [sumL]
 | cons a l ih =>
  have h1 := h a (List.mem_cons_self ..)
  have h2 := ih (fun r hr => h r (List.mem_cons_of_mem _ hr))
  simp only [sumL, List.map_cons, List.sum_cons, List.length_cons] at h2 ⊢
  omega
theorem gr_rounds (pro : List XS) (l : List (List IrS)) (hs : Sized pro l) : ∀ (j k : Nat), k + j = 101 →
  Rounds Try.prog (loopB Try.f24 0) 0 (grT l ((pro.length + sumL (l.take k) : Nat) : Int) k) [] (.exit 0) (grU l (sumG pro l)) []
 | 0, k, hk => by
  have hk' : k = 101 := by omega
  subst hk'
  have hb := sumL_le (l := l.take 101) (fun r hr => hs.2 r (List.mem_of_mem_take hr))
  rw [List.length_take] at hb
  have h1 := hs.1
  by_cases h : l.length ≤ 101
  ·exact Rounds.last (gr_e1 l (sumG pro l) ((101 : Nat) : Int) (by omega) (by omega) (by unfold sumG; omega) (by unfold sumG; omega) (by rw [rwL_len]; omega)) (fun h => by cases h)
  ·exact Rounds.last (gr_e2 l (sumG pro l) ((101 : Nat) : Int) (by omega) (by omega) (by unfold sumG; omega) (by unfold sumG; omega) (by rw [rwL_len]; omega) (by omega)) (fun h => by cases h)
 | j + 1, k, hk => by
  have hb := sumL_le (l := l.take k) (fun r hr => hs.2 r (List.mem_of_mem_take hr))
  rw [List.length_take] at hb
  have h1 := hs.1
  by_cases h : l.length ≤ k
  ·have e : sumG pro l = ((pro.length + sumL (l.take k) : Nat) : Int) := by unfold sumG; rw [List.take_of_length_le (by omega), List.take_of_length_le h]
   rw [e]
   exact Rounds.last (gr_e1 l _ (k : Int) (by omega) (by omega) (by omega) (by omega) (by rw [rwL_len]; omega)) (fun h => by cases h)
  ·have hlt : k < l.length := by omega
   have hr := hs.2 l[k] (List.getElem_mem hlt)
   have := gr_in l ((pro.length + sumL (l.take k) : Nat) : Int) (k : Int) (by omega) (by omega) (by omega) (by omega) (by rw [rwL_len]; omega) (by omega) l[k] (by rw [Int.toNat_natCast]; exact rwL_get l k hlt)
   rw [nxt (by omega), show IntKind.i64.wrap (((pro.length + sumL (l.take k) : Nat) : Int) + ((irL l[k]).length : Int)) = ((pro.length + sumL (l.take (k + 1)) : Nat) : Int) by
    rw [List.take_succ_eq_append_getElem hlt, sumL_snoc, irL_len, w_i64]; omega] at this
   exact Rounds.more this (gr_rounds pro l hs j (k + 1) (by omega))
theorem gr_loop (pro : List XS) (l : List (List IrS)) (hs : Sized pro l) : LoopRun Try.prog 0 (.loop (loopB Try.f24 0)) (grT l ((xsL pro).length : Int) 0) [] (.exit 0) (grU l (sumG pro l)) [] :=
 LoopRun.of_rounds (Nat.le_refl 0) (by have := gr_rounds pro l hs 101 0 (by omega); rw [xsL_len]; simpa [sumL] using this)
theorem great_ok (pro : List XS) (l : List (List IrS)) (n : Int) (hx : LoopRun Try.prog 0 (.loop (loopB Try.f24 0)) (grT l ((xsL pro).length : Int) 0) [] (.exit 0) (grU l n) [])  : Ret Try.prog 24 ([.lst .no 8 (xsL pro), .lst .no 1 (rwL l)]) (.bool (decide (2500 < n) || decide (100 < ((rwL l).length : Int)))) := by
 have c0 := @run_id (nat_lit 0) _ (((D.undef) :: (.lst .no 1 (rwL l)) :: (D.undef) :: (D.undef) :: (D.undef) :: (.int .i64 (↑(List.length (xsL pro)) : Int)) :: (.int .i64 0) :: (un 26))) ([]) _ _ _ hx
 rcases Bool.eq_false_or_eq_true (decide (n < (2501 : Int))) with h1 | h1
 ·skip
  exact (Ret.of_eval (d := .bool (decide ((↑(List.length (rwL l)) : Int) > (100 : Int)))) mixed Try.func24 (by kernel_rfl) [.head ⟨[1, 5, 6], [], []⟩ _ _ _ _ _ _ _ c0, tC (eF (ltL 2500 h1)), tC (eF (ltL 2500 h1)), tC (eF (ltL 2500 h1)), tC (ltL 2500 h1)] (by kernel_rfl)).to (by first | rfl | (simp [wk]; done) | (simp [wk]; omega) | (simp only [decide_eq_true_eq, decide_eq_false_iff_not] at *; simp [wk, *]; done) | (simp only [decide_eq_true_eq, decide_eq_false_iff_not] at *; simp [wk]; omega))
 ·skip
  exact (Ret.of_eval (d := .bool true) mixed Try.func24 (by kernel_rfl) [.head ⟨[1, 5, 6], [], []⟩ _ _ _ _ _ _ _ c0, tC (eF (ltL 2500 h1)), tC (eF (ltL 2500 h1)), tC (eF (ltL 2500 h1)), tC (ltL 2500 h1)] (by kernel_rfl)).to (by first | rfl | (simp [wk]; done) | (simp [wk]; omega) | (simp only [decide_eq_true_eq, decide_eq_false_iff_not] at *; simp [wk, *]; done) | (simp only [decide_eq_true_eq, decide_eq_false_iff_not] at *; simp [wk]; omega))
theorem BlkIn.nil {pro : List XS} {l : List (List IrS)} (h : BlkIn pro l) : BlkIn [] l := ⟨h.ok, (fun x hx => by cases hx), (by have := h.n; rw [List.length_nil]; omega), h.b⟩
theorem Good.nil {pro : List XS} {l : List (List IrS)} (h : Good pro l) : Good [] l := ⟨h.l1, h.l64, (fun x hx => by cases hx), h.blk⟩
theorem great_any {pro : List XS} {l : List (List IrS)} (hs : Sized pro l) : Ret Try.prog 24 [.lst .no 8 (xsL pro), .lst .no 1 (rwL l)] (.bool (decide (2500 < sumG pro l) || decide (100 < ((rwL l).length : Int)))) :=
 great_ok pro l (sumG pro l) (gr_loop pro l hs)
theorem not_great {pro : List XS} {l : List (List IrS)} (hx : AllX pro) (ho : ∀ r ∈ l, AllOk r) (h : (decide (2500 < sumG pro l) || decide (100 < ((rwL l).length : Int))) = false) : BlkIn pro l := by
 rw [Bool.or_eq_false_iff, decide_eq_false_iff_not, decide_eq_false_iff_not, rwL_len] at h
 have h2 : l.length ≤ 100 := by omega
 have h1 := h.1
 unfold sumG at h1
 rw [List.take_of_length_le (by omega)] at h1
 exact ⟨ho, hx, by omega, h2⟩
structure Laid (pro : List XS) (l : List (List IrS)) : Prop where
  b : BlkIn pro l
  g : Good pro l
  n : pro.length + sumL l ≤ 2000
def finF (pro : List XS) (l : List (List IrS)) : List PaS := finM (begF pro l) (parF pro l)
def standF (pro : List XS) (l : List (List IrS)) (k : Nat) : Nat := (catM (((finF pro l).take k).map PaS.x)).length
theorem finF_len (pro : List XS) (l : List (List IrS)) : (finF pro l).length = (parF pro l).length := finM_len _ _
end Go.Proofs.Ytcngafhpodeenaa
namespace Go.Ev
open Go Go.RowKit
theorem ret_toCall {P : Program} {f : FuncId} {args args' : List D} {d : D} (h : Ret P f args' d) (hc : args.all D.clean = true) (hd : args.map D.demote = args') (s : List Ob) : CallRun P f args s d.demote s := by
 refine ⟨h.ent, Nat.le_refl _, fun w0 M own w vs hw hup hr => ?_⟩
 have hb : RepL M.bare args' vs := by
  subst hd
  refine ⟨by rw [List.length_map]; exact hr.1, fun i d' v hi hv => ?_⟩
  rw [List.getElem?_map] at hi
  cases e : args[i]? with
  | none => rw [e] at hi; cases hi
  | some x =>
   rw [e] at hi
   obtain rfl := Option.some.inj hi
   exact (hr.2 i x v e hv).toBare (List.all_eq_true.1 hc x (List.mem_of_getElem? e))
 refine Calls.mono (h.run w M.cell vs hw.cells hb) fun e w' hh => ?_
 obtain ⟨v, C', rfl, hext, hrep, hfresh⟩ := hh
 let M1 : MM := ⟨C', M.box, M.hist, M.mrk⟩
 have hx : Ext M w M1 w' := ⟨hext.below, hext.cell, hext.only, hext.cells⟩
 obtain ⟨hw1, le1⟩ := hw.ext hx rfl rfl rfl
 have hup1 : M1.upto s.length := ⟨hup.1, hup.2⟩
 exact ⟨v, M1, own, rfl, hw1, hup1, le1, (hrep.mono (bare_le M1)).demote⟩
end Go.Ev
namespace Go.Proofs.Ytcngafhpodeenaa
open Go Go.Ev
theorem sz_end (ps : List D) (m k : Nat) (a b : Int) (a0 : 0 ≤ a) (a1 : a ≤ 100000) (b0 : 0 ≤ b) (b1 : b ≤ 100000) (hps : ∀ c ∈ ps, c.clean = true) (hm : m ≤ 2000) (dps : ps.map D.demote = ps) (h : m ≤ k)  : RoundRun Try.prog (loopB Try.f28 0) ⟨[4, 5], [], []⟩ 6 (un 4 ++ (.int .i64 a) :: (.int .i64 b) :: (un 29 ++ (.slc 1 10 m) :: (.int .i64 (↑m : Int)) :: (.int .i64 (↑k : Int)) :: (un 24))) [.dead, .box ps, .dead, .dead, .dead, .dead] (.exit 0) (un 4 ++ (.int .i64 a) :: (.int .i64 b) :: (un 56)) ([.dead, .dead, .dead, .dead, .dead, .dead]) := by
 exact RoundRun.of_eval mixed [tC (by ((try simp only [sL] at *); (try unfold big at *); omega) : (decide ((↑k : Int) < (↑m : Int))) = false)] (by kernel_rfl)
theorem sz_s (ps : List D) (m k : Nat) (a b : Int) (a0 : 0 ≤ a) (a1 : a ≤ 100000) (b0 : 0 ≤ b) (b1 : b ≤ 100000) (hps : ∀ c ∈ ps, c.clean = true) (hm : m ≤ 2000) (dps : ps.map D.demote = ps) (hk : k < m) (x : XS) (to : Int) (hA : GetsA ps (k * 10) 10 [.int .i8 x.op, .int .i8 x.w, .int .i8 x.dst, .int .i8 x.src, .int .i8 x.base, .int .i64 x.disp, .int .i64 x.imm, .int .i8 x.cc, .bool true, .int .i64 to]) (hw : x.w = 8)  : RoundRun Try.prog (loopB Try.f28 0) ⟨[4, 5, 35, 36, 37], [1000001], []⟩ 6 (un 4 ++ (.int .i64 a) :: (.int .i64 b) :: (un 29 ++ (.slc 1 10 m) :: (.int .i64 (↑m : Int)) :: (.int .i64 (↑k : Int)) :: (un 24))) [.dead, .box ps, .dead, .dead, .dead, .dead] .norm (un 4 ++ (.int .i64 (IntKind.i64.wrap (a + (1 : Int)))) :: (.int .i64 b) :: (un 29 ++ (.slc 1 10 m) :: (.int .i64 (↑m : Int)) :: (.int .i64 (IntKind.i64.wrap ((↑k : Int) + (1 : Int)))) :: (un 24))) ([.dead, .box (List.map D.demote ps), .dead, .dead, .dead, .dead]) := by
 exact RoundRun.of_eval mixed [tC (by ((try simp only [sL] at *); (try unfold big at *); omega) : (decide ((↑k : Int) < (↑m : Int))) = true), .tst (decide ((0 : Int) ≤ (↑k : Int) ∧ (↑k : Int) < (↑m : Int))) true (by ((try simp only [sL] at *); (try unfold big at *); omega)), .getA _ _ _ _ (@gets_id (ps) (Int.toNat (↑k : Int) * (10 : Nat)) ((10 : Nat)) _ hA), tT, tT, tT, tT, tT, tC (eqI 8 true (by ((try simp only [sL] at *); (try unfold big at *); omega) : XS.w x = (8 : Int))), .cl (ps) (by first | exact clAll rfl | exact hps)] (by kernel_rfl)
theorem sz_n (ps : List D) (m k : Nat) (a b : Int) (a0 : 0 ≤ a) (a1 : a ≤ 100000) (b0 : 0 ≤ b) (b1 : b ≤ 100000) (hps : ∀ c ∈ ps, c.clean = true) (hm : m ≤ 2000) (dps : ps.map D.demote = ps) (hk : k < m) (x : XS) (to : Int) (hA : GetsA ps (k * 10) 10 [.int .i8 x.op, .int .i8 x.w, .int .i8 x.dst, .int .i8 x.src, .int .i8 x.base, .int .i64 x.disp, .int .i64 x.imm, .int .i8 x.cc, .bool true, .int .i64 to]) (hw : x.w ≠ 8)  : RoundRun Try.prog (loopB Try.f28 0) ⟨[4, 5, 35, 36, 37], [1000001], []⟩ 6 (un 4 ++ (.int .i64 a) :: (.int .i64 b) :: (un 29 ++ (.slc 1 10 m) :: (.int .i64 (↑m : Int)) :: (.int .i64 (↑k : Int)) :: (un 24))) [.dead, .box ps, .dead, .dead, .dead, .dead] .norm (un 4 ++ (.int .i64 a) :: (.int .i64 (IntKind.i64.wrap (b + (1 : Int)))) :: (un 29 ++ (.slc 1 10 m) :: (.int .i64 (↑m : Int)) :: (.int .i64 (IntKind.i64.wrap ((↑k : Int) + (1 : Int)))) :: (un 24))) ([.dead, .box (List.map D.demote ps), .dead, .dead, .dead, .dead]) := by
 exact RoundRun.of_eval mixed [tC (by ((try simp only [sL] at *); (try unfold big at *); omega) : (decide ((↑k : Int) < (↑m : Int))) = true), .tst (decide ((0 : Int) ≤ (↑k : Int) ∧ (↑k : Int) < (↑m : Int))) true (by ((try simp only [sL] at *); (try unfold big at *); omega)), .getA _ _ _ _ (@gets_id (ps) (Int.toNat (↑k : Int) * (10 : Nat)) ((10 : Nat)) _ hA), tT, tT, tT, tT, tT, tC (by ((try simp only [sL] at *); (try unfold big at *); omega) : (XS.w x == (8 : Int)) = false), tT, .cl (ps) (by first | exact clAll rfl | exact hps)] (by kernel_rfl)
theorem sz_0 (ps : List D) (m k : Nat) (a b : Int) (a0 : 0 ≤ a) (a1 : a ≤ 100000) (b0 : 0 ≤ b) (b1 : b ≤ 100000) (hps : ∀ c ∈ ps, c.clean = true) (hm : m ≤ 2000) (dps : ps.map D.demote = ps) (hk : k < m) (x : XS) (to : Int) (hA : GetsA ps (k * 10) 10 [.int .i8 x.op, .int .i8 x.w, .int .i8 x.dst, .int .i8 x.src, .int .i8 x.base, .int .i64 x.disp, .int .i64 x.imm, .int .i8 x.cc, .bool false, .int .i64 to])  : RoundRun Try.prog (loopB Try.f28 0) ⟨[4, 5, 35, 36, 37], [1000001], []⟩ 6 (un 4 ++ (.int .i64 a) :: (.int .i64 b) :: (un 29 ++ (.slc 1 10 m) :: (.int .i64 (↑m : Int)) :: (.int .i64 (↑k : Int)) :: (un 24))) [.dead, .box ps, .dead, .dead, .dead, .dead] .norm (un 4 ++ (.int .i64 a) :: (.int .i64 b) :: (un 29 ++ (.slc 1 10 m) :: (.int .i64 (↑m : Int)) :: (.int .i64 (IntKind.i64.wrap ((↑k : Int) + (1 : Int)))) :: (un 24))) ([.dead, .box (List.map D.demote ps), .dead, .dead, .dead, .dead]) := by
 exact RoundRun.of_eval mixed [tC (by ((try simp only [sL] at *); (try unfold big at *); omega) : (decide ((↑k : Int) < (↑m : Int))) = true), .tst (decide ((0 : Int) ≤ (↑k : Int) ∧ (↑k : Int) < (↑m : Int))) true (by ((try simp only [sL] at *); (try unfold big at *); omega)), .getA _ _ _ _ (@gets_id (ps) (Int.toNat (↑k : Int) * (10 : Nat)) ((10 : Nat)) _ hA), tF, tF, tF, tF, tF, tF, tF, .cl (ps) (by first | exact clAll rfl | exact hps)] (by kernel_rfl)
abbrev szT (a b : Int) (m k : Nat) : List D := (un 4 ++ (.int .i64 a) :: (.int .i64 b) :: (un 29 ++ (.slc 1 10 m) :: (.int .i64 (m : Int)) :: (.int .i64 (k : Int)) :: (un 24)))
abbrev szU (a b : Int) : List D := (un 4 ++ (.int .i64 a) :: (.int .i64 b) :: (un 56))
abbrev szS (ps : List D) : List Ob := [.dead, .box ps, .dead, .dead, .dead, .dead]
abbrev szE : List Ob := [.dead, .dead, .dead, .dead, .dead, .dead]
abbrev shT (c : List Int) (z : List XS) (sh nr n s k i : Int) : List D := (un 5 ++ (.lst .no 1 (bD c)) :: (.undef) :: (.undef) :: (.int .i64 sh) :: (.int .i64 nr) :: (.undef) :: (.lst .no 8 (xsL z)) :: (.undef) :: (.int .i64 n) :: (.int .i64 s) :: (.int .i64 k) :: (.int .i64 i) :: (un 100))
abbrev shU (c : List Int) (sh nr n s k : Int) : List D := (un 5 ++ (.lst .no 1 (bD c)) :: (.undef) :: (.undef) :: (.int .i64 sh) :: (.int .i64 nr) :: (.undef) :: (.undef) :: (.undef) :: (.int .i64 n) :: (.int .i64 s) :: (.int .i64 k) :: (un 101))
theorem cidRun_ok {ar : List D} {s : List Ob} {d : D} {s' : List Ob} (h : CallRun Try.prog 26 ar s d s') : CallRun Try.prog 26 ar s d s' := h
theorem cidParts_ok {ar : List D} {s : List Ob} {d : D} {s' : List Ob} (h : CallRun Try.prog 64 ar s d s') : CallRun Try.prog 64 ar s d s' := h
theorem cidRelax_ok {ar : List D} {s : List Ob} {d : D} {s' : List Ob} (h : CallRun Try.prog 65 ar s d s') : CallRun Try.prog 65 ar s d s' := h
theorem size_err_ok (pro : List XS) (l : List (List IrS)) (e : Int) (he : e ≠ 0) (hr : CallRun Try.prog 26 [.lst .no 8 (xsL pro), .lst .no 1 (rwL l)] [] (.tup [.lst .tight 0 [], .lst .tight 0 [], .int .i64 e]) [])  : Ret Try.prog 28 ([.lst .no 8 (xsL pro), .lst .no 1 (rwL l)]) (.tup [.int .i64 0, .int .i64 0, .int .i64 e]) := by
 exact (Ret.of_eval (d := .tup [.int .i64 0, .int .i64 0, .int .i64 e]) mixed Try.func28 (by kernel_rfl) [.callR _ _ _ _ _ (@cidRun_ok ([.lst .no 8 (xsL pro), .lst .no 1 (rwL l)]) ([]) _ _ hr), tC (nt (by ((try simp only [sL] at *); (try unfold big at *); omega) : (e == (0 : Int)) = false))] (by kernel_rfl)).to (by first | rfl | (simp [wk, wkL, wkO]; done))
theorem size_ok_ok (pro : List XS) (l : List (List IrS)) (c s q : List Int) (ps ps2 av : List D) (m : Nat) (a b : Int) (hm : m ≤ 2000) (hps : ∀ c ∈ ps2, c.clean = true) (hr : CallRun Try.prog 26 [.lst .no 8 (xsL pro), .lst .no 1 (rwL l)] [] (.tup [.lst .no 1 (bD c), .lst .no 1 (intsD s), .int .i64 0]) []) (hp : CallRun Try.prog 64 [.lst .no 8 (xsL pro), .lst .no 1 (rwL l)] [] (.tup [.slc 1 10 m, .lst (.tok 2 0) 1 (intsD q), .int .i64 0]) [.dead, .box ps, .fam 0 1]) (hx : CallRun Try.prog 65 [.slc 1 10 m, .lst (.tok 2 0) 1 (intsD q)] [.dead, .box ps, .fam 0 1] (.slc 4 1 (m + 1)) [.dead, .box ps2, .dead, .dead, .box av, .dead]) (h0 : LoopRun Try.prog 6 (.loop (loopB Try.f28 0)) (szT 0 0 m 0) (szS (List.map D.demote ps2)) (.exit 0) (szU a b) szE)  : Ret Try.prog 28 ([.lst .no 8 (xsL pro), .lst .no 1 (rwL l)]) (.tup [.int .i64 a, .int .i64 b, .int .i64 0]) := by
 have c0 := @run_id (nat_lit 6) _ ((un 4 ++ (.int .i64 0) :: (.int .i64 0) :: (un 29 ++ (.slc 1 10 m) :: (.int .i64 (↑m : Int)) :: (.int .i64 0) :: (un 24)))) ([.dead, .box (List.map D.demote ps2), .dead, .dead, .dead, .dead]) _ _ _ h0
 exact (Ret.of_eval (d := .tup [.int .i64 a, .int .i64 b, .int .i64 0]) mixed Try.func28 (by kernel_rfl) [.callR _ _ _ _ _ (@cidRun_ok ([.lst .no 8 (xsL pro), .lst .no 1 (rwL l)]) ([]) _ _ hr), tF, .callR _ _ _ _ _ (@cidParts_ok ([.lst .no 8 (xsL pro), .lst .no 1 (rwL l)]) ([]) _ _ hp), .callR _ _ _ _ _ (@cidRelax_ok ([.slc 1 10 m, .lst (.tok 2 0) 1 (intsD q)]) ([.dead, .box ps, .fam 0 1]) _ _ hx), .head ⟨[4, 5, 35, 36, 37], [1000001], []⟩ _ _ _ _ _ _ _ c0, .cl (ps2) (by first | exact clAll rfl | exact hps)] (by kernel_rfl)).to (by first | rfl | (simp [wk, wkL, wkO]; done))
theorem size_nil_ok (pro : List XS) (l : List (List IrS)) (c : List D) (s q : List Int) (sz : Nat) (hr : CallRun Try.prog 26 [.lst .no 8 (xsL pro), .lst .no 1 (rwL l)] [] (.tup [.lst .no sz c, .lst .no 1 (intsD s), .int .i64 0]) []) (hp : Ret Try.prog 64 [.lst .no 8 (xsL pro), .lst .no 1 (rwL l)] (.tup [.lst .no 10 [], .lst .no 1 (intsD q), .int .i64 0]))  : Ret Try.prog 28 ([.lst .no 8 (xsL pro), .lst .no 1 (rwL l)]) (.tup [.int .i64 0, .int .i64 0, .int .i64 0]) := by
 exact (Ret.of_eval (d := .tup [.int .i64 0, .int .i64 0, .int .i64 0]) mixed Try.func28 (by kernel_rfl) [.callR _ _ _ _ _ (@cidRun_ok ([.lst .no 8 (xsL pro), .lst .no 1 (rwL l)]) ([]) _ _ hr), tF, .ret _ _ _ hp, .inl, tT, .go 64, .inl, .go 64, tF, .go 64, tF, tT, .go 64, tF, .go 64, tF] (by kernel_rfl)).to (by first | rfl | (simp [wk, wkL, wkO]; done))
def cntS : List PaS → Int
  | [] => 0
  | p :: r => (if p.j = true ∧ p.x.w = 8 then 1 else 0) + cntS r
def cntN : List PaS → Int
  | [] => 0
  | p :: r => (if p.j = true ∧ p.x.w ≠ 8 then 1 else 0) + cntN r
theorem cntS_snoc : ∀ (l : List PaS) (p : PaS), cntS (l ++ [p]) = cntS l + (if p.j = true ∧ p.x.w = 8 then 1 else 0)
 | [], p => by simp [cntS]
 | x :: r, p => by rw [List.cons_append, cntS, cntS, cntS_snoc r p]; omega
theorem cntN_snoc : ∀ (l : List PaS) (p : PaS), cntN (l ++ [p]) = cntN l + (if p.j = true ∧ p.x.w ≠ 8 then 1 else 0)
 | [], p => by simp [cntN]
 | x :: r, p => by rw [List.cons_append, cntN, cntN, cntN_snoc r p]; omega
theorem cntS_rng : ∀ l : List PaS, 0 ≤ cntS l ∧ cntS l ≤ l.length
 | [] => by simp [cntS]
 | x :: r => by have := cntS_rng r; rw [cntS, List.length_cons]; split <;> omega
theorem cntN_rng : ∀ l : List PaS, 0 ≤ cntN l ∧ cntN l ≤ l.length
 | [] => by simp [cntN]
 | x :: r => by have := cntN_rng r; rw [cntN, List.length_cons]; split <;> omega
theorem sz_rounds (fs : List PaS) (hm : fs.length ≤ 2000) : ∀ (j k : Nat), k + j = fs.length →
  Rounds Try.prog (loopB Try.f28 0) 6 (szT (cntS (fs.take k)) (cntN (fs.take k)) fs.length k) (szS (paC fs)) (.exit 0) (szU (cntS fs) (cntN fs)) szE
 | 0, k, hk => by
  rw [List.take_of_length_le (by omega)]
  have h1 := cntS_rng fs
  have h2 := cntN_rng fs
  exact Rounds.last (sz_end (paC fs) fs.length k (cntS fs) (cntN fs) (by omega) (by omega) (by omega) (by omega) (paC_clean _) hm (paC_demote _) (by omega)) (fun h => by cases h)
 | j + 1, k, hk => by
  have hlt : k < fs.length := by omega
  have ih := sz_rounds fs hm j (k + 1) (by omega)
  have h1 := cntS_rng (fs.take k)
  have h2 := cntN_rng (fs.take k)
  rw [List.length_take, Nat.min_eq_left (by omega)] at h1 h2
  have hsp : fs = fs.take k ++ fs[k] :: fs.drop (k + 1) := by rw [← List.drop_eq_getElem_cons hlt, List.take_append_drop]
  have hA : GetsA (paC fs) (k * 10) 10 [.int .i8 fs[k].x.op, .int .i8 fs[k].x.w, .int .i8 fs[k].x.dst, .int .i8 fs[k].x.src, .int .i8 fs[k].x.base, .int .i64 fs[k].x.disp, .int .i64 fs[k].x.imm, .int .i8 fs[k].x.cc, .bool fs[k].j, .int .i64 fs[k].to] := by
   have := paC_gets (fs.take k) (fs.drop (k + 1)) fs[k] 10 (by decide)
   rw [← hsp, List.length_take, Nat.min_eq_left (by omega)] at this
   exact this
  rw [List.take_succ_eq_append_getElem hlt, cntS_snoc, cntN_snoc] at ih
  cases hj : fs[k].j with
  | false =>
   rw [hj] at hA
   have := sz_0 (paC fs) fs.length k (cntS (fs.take k)) (cntN (fs.take k)) (by omega) (by omega) (by omega) (by omega) (paC_clean _) hm (paC_demote _) hlt fs[k].x fs[k].to hA
   rw [paC_demote, nxt (by omega)] at this
   rw [hj, if_neg (by simp), if_neg (by simp), Int.add_zero, Int.add_zero] at ih
   exact Rounds.more this ih
  | true =>
   rw [hj] at hA
   by_cases hw : fs[k].x.w = 8
   ·have := sz_s (paC fs) fs.length k (cntS (fs.take k)) (cntN (fs.take k)) (by omega) (by omega) (by omega) (by omega) (paC_clean _) hm (paC_demote _) hlt fs[k].x fs[k].to hA hw
    rw [paC_demote, nxt (by omega), show IntKind.i64.wrap (cntS (fs.take k) + 1) = cntS (fs.take k) + 1 by rw [w_i64]; omega] at this
    rw [hj, if_pos ⟨rfl, hw⟩, if_neg (by simp [hw]), Int.add_zero] at ih
    exact Rounds.more this ih
   ·have := sz_n (paC fs) fs.length k (cntS (fs.take k)) (cntN (fs.take k)) (by omega) (by omega) (by omega) (by omega) (paC_clean _) hm (paC_demote _) hlt fs[k].x fs[k].to hA hw
    rw [paC_demote, nxt (by omega), show IntKind.i64.wrap (cntN (fs.take k) + 1) = cntN (fs.take k) + 1 by rw [w_i64]; omega] at this
    rw [hj, if_neg (by simp [hw]), if_pos ⟨rfl, hw⟩, Int.add_zero] at ih
    exact Rounds.more this ih
theorem runC_any {pro : List XS} {l : List (List IrS)} (hb : BlkIn pro l) : CallRun Try.prog 26 [.lst .no 8 (xsL pro), .lst .no 1 (rwL l)] [] (runD pro l).demote [] := ret_toCall (run_any hb) rfl rfl []
theorem sizes_any {pro : List XS} {l : List (List IrS)} (hb : BlkIn pro l) : Ret Try.prog 28 [.lst .no 8 (xsL pro), .lst .no 1 (rwL l)]
  (if goodM pro l = true then (if pro.length + sumL l ≤ 2000 ∧ totF pro l ≤ 16384 then .tup [.int .i64 (cntS (finF pro l)), .int .i64 (cntN (finF pro l)), .int .i64 0] else .tup [.int .i64 0, .int .i64 0, .int .i64 3]) else .tup [.int .i64 0, .int .i64 0, .int .i64 2]) := by
 have hr := runC_any hb
 unfold runD at hr
 by_cases hg : goodM pro l = true
 case neg => rw [if_neg hg] at hr ⊢; exact size_err_ok pro l 2 (by decide) hr
 rw [if_pos hg] at hr ⊢
 by_cases hn : pro.length + sumL l ≤ 2000 ∧ totF pro l ≤ 16384
 case neg => rw [if_neg hn] at hr ⊢; exact size_err_ok pro l 3 (by decide) hr
 rw [if_pos hn] at hr ⊢
 have g := good_iff.1 hg
 have hbn := hb.n
 have hbb := hb.b
 have L1 : 1 ≤ ((rwL l).length : Int) := by rw [rwL_len]; have := g.l1; omega
 have L2 : ((rwL l).length : Int) ≤ 64 := by rw [rwL_len]; have := g.l64; omega
 have hpr := g.pro
 have hgb := g.blk
 have hpl := pr_loop l pro ((xsL pro).length : Int) hb.px (by omega) hpr
 have e0 : ptT l (pro.map inP) [] ((xsL pro).length : Int) 0 = ptT l (preP pro l 0) (preQ pro l 0) (preN pro l 0) ((0 : Nat) : Int) := by
  unfold preP preQ preN
  rw [xsL_len]
  simp [allP, begP, sumL]
 have hN : preN pro l l.length = ((pro.length + sumL l : Nat) : Int) := by unfold preN; rw [List.take_of_length_le (Nat.le_refl _)]
 have hS := fun hne : parF pro l ≠ [] => (by
  have hl := LoopRun.of_rounds (show 1 ≤ 3 by decide) (pt_roundsS hb hgb hne (l.length - 1) 0 (by have := g.l1; omega))
  rw [← e0] at hl
  exact hl : LoopRun Try.prog 1 (.loop (loopB Try.f64 1)) (ptT l (pro.map inP) [] ((xsL pro).length : Int) 0) ptS (.exit 2) (ptV (parF pro l).length (begF pro l) (preN pro l l.length)) (ptB (parF pro l)))
 have hL : LoopRun Try.prog 1 (.loop (loopB Try.f64 1)) (ptT l (pro.map inP) [] ((xsL pro).length : Int) 0) ptS (.exit 2) (ptU (parF pro l) (begF pro l) (preN pro l l.length)) ptS := by
  have hl := LoopRun.of_rounds (show 1 ≤ 3 by decide) (pt_roundsL hb hgb l.length 0 (by omega))
  rw [← e0] at hl
  exact hl
 have hml := parF_len hn.1
 obtain ⟨hpa, hjx⟩ := good_all g
 have hbg := good_beg pro l
 by_cases hne : parF pro l = []
 ·have hp := pa_L_ok pro l L1 L2 (pro.map inP) (parF pro l) (begF pro l) (preN pro l l.length) hpl hL (by rw [hN]; omega)
  rw [hne] at hp
  have hf : finF pro l = [] := by
   have := finF_len pro l
   rw [hne] at this
   exact List.length_eq_zero_iff.1 this
  rw [hf]
  exact size_nil_ok pro l _ _ (begF pro l) 1 hr hp
 ·have hp := pa_S_ok pro l L1 L2 (pro.map inP) (parF pro l) (begF pro l) (preN pro l l.length) hpl (hS hne) (by rw [hN]; omega)
  have hx := relax_any (parF pro l) hml l.length hpa (begF pro l) hbg
  have hfl := finF_len pro l
  have h0 := LoopRun.of_rounds (show 6 ≤ 6 by decide) (sz_rounds (finF pro l) (by omega) _ 0 (Nat.zero_add _))
  rw [hfl] at h0
  refine size_ok_ok pro l _ _ (begF pro l) _ _ _ (parF pro l).length _ _ hml (paC_clean _) hr hp hx ?_
  rw [paC_demote]
  exact h0
theorem rby_may {x : XS} (hm : mayXS x = true) : Ret Try.prog 55 [xD x.op x.w x.dst x.src x.base x.disp x.imm x.cc] (.tup [.lst .no 1 (bD (bytesXS x)), .int .i64 0]) := by
 have ho := may_op hm
 simp only [ops32, List.mem_cons, List.not_mem_nil, or_false] at ho
 have := rbytes_any_ok x.op x.w x.dst x.src x.base x.disp x.imm x.cc (by omega)
 have hm' : mayX x.op x.w x.dst x.src x.base x.disp x.imm x.cc = true := hm
 simp only [bytesL, bytesE, hm', if_true] at this
 exact this
structure Way (a q : List Int) (fs : List PaS) : Prop where
  may : ∀ p ∈ fs, mayXS p.x = true
  way : ∀ (k : Nat) (p : PaS), fs[k]? = some p → p.j = true → p.x.imm = wayM a q k p.to ∧ (p.x.w = 8 ∨ p.x.w = 32) ∧ 0 ≤ p.to ∧ p.to.toNat < q.length
theorem dc_rounds (p0 : List PaS) (q : List Int) (fs : List PaS) (hm : fs.length ≤ 2000) (hp0 : p0.length = fs.length) (nb : Nat) (hq : BegOK q nb fs.length) (hw : Way (offM 0 p0) q fs) : ∀ (j k : Nat), k + j = fs.length →
  Rounds Try.prog (loopB Try.f27 0) 4 (dcT (bD (catM ((fs.take k).map PaS.x))) (intsD q) (intsD (offM 0 p0)) fs.length k) (dcS (daC fs)) (.exit 0) (dcU (bD (catM (fs.map PaS.x))) (intsD q) (intsD (offM 0 p0))) dcE
 | 0, k, hk => by
  rw [List.take_of_length_le (by omega)]
  have hc := (catM_len (fs.map PaS.x)).2
  rw [List.length_map] at hc
  exact Rounds.last (dc_end (catM (fs.map PaS.x)) (intsD q) (daC fs) (intsD (offM 0 p0)) fs.length k (daC_clean _) hm (by rw [len_bD]; omega) (by omega)) (fun h => by cases h)
 | j + 1, k, hk => by
  have hlt : k < fs.length := by omega
  have ih := dc_rounds p0 q fs hm hp0 nb hq hw j (k + 1) (by omega)
  have hp := hw.may _ (List.getElem_mem hlt)
  have hbt := rby_may hp
  have hbl := bytes_len fs[k].x
  have hsp : fs = fs.take k ++ fs[k] :: fs.drop (k + 1) := by rw [← List.drop_eq_getElem_cons hlt, List.take_append_drop]
  have hA := daC_gets (fs.take k) (fs.drop (k + 1)) fs[k] 8 (by decide)
  have g8 := daC_get (fs.take k) (fs.drop (k + 1)) fs[k] 8 (by decide)
  have g9 := daC_get (fs.take k) (fs.drop (k + 1)) fs[k] 9 (by decide)
  rw [← hsp, List.length_take, Nat.min_eq_left (by omega)] at hA g8 g9
  have hc := (catM_len ((fs.take k).map PaS.x)).2
  rw [List.length_map, List.length_take] at hc
  rw [List.take_succ_eq_append_getElem hlt, List.map_append, List.map_cons, List.map_nil, catM_snoc, bD_append] at ih
  cases hj : fs[k].j with
  | false =>
   rw [Go.Ev.dc_n hj] at hA g8
   have := dc_n (catM ((fs.take k).map PaS.x)) (intsD q) (daC fs) (intsD (offM 0 p0)) fs.length k (daC_clean _) hm (by rw [len_bD]; omega) hlt fs[k].x (bytesXS fs[k].x) 0 hA g8 (by rw [len_bD]; omega) hbt
   rw [daC_demote, nxt (by omega)] at this
   exact Rounds.more this ih
  | true =>
   rw [dc_j hj] at hA g8 g9
   obtain ⟨hi, hw8, to0, htl⟩ := hw.way k _ (List.getElem?_eq_getElem hlt) hj
   obtain ⟨hql, hqm⟩ := hq
   obtain ⟨to, hto⟩ : ∃ to : Nat, fs[k].to = (to : Int) := ⟨fs[k].to.toNat, by omega⟩
   have htl' : to < q.length := by omega
   have hqe : q[to]? = some q[to] := List.getElem?_eq_getElem htl'
   obtain ⟨b0, b1⟩ := hqm q[to] (List.getElem_mem htl')
   obtain ⟨bg, hbg⟩ : ∃ bg : Nat, q[to] = (bg : Int) := ⟨q[to].toNat, by omega⟩
   have hu : (offM 0 p0)[bg]? = some (totM (p0.take bg)) := by rw [offM_get _ _ _ (by omega), Int.zero_add]
   have hv : (offM 0 p0)[k + 1]? = some (totM (p0.take (k + 1))) := by rw [offM_get _ _ _ (by omega), Int.zero_add]
   have u1 := totM_le (p0.take bg)
   have v1 := totM_le (p0.take (k + 1))
   rw [List.length_take] at u1 v1
   have hway : wayM (offM 0 p0) q k fs[k].to = totM (p0.take bg) - totM (p0.take (k + 1)) := by
    unfold wayM atI
    rw [hto, Int.toNat_natCast, List.getD_eq_getElem?_getD, List.getD_eq_getElem?_getD, List.getD_eq_getElem?_getD, hqe, Option.getD_some, hbg, Int.toNat_natCast, hu, hv]
    rfl
   have hwr : IntKind.i64.wrap (totM (p0.take bg) - totM (p0.take (k + 1))) = fs[k].x.imm := by rw [hi, hway, w_i64]; omega
   have hqq : (intsD q)[to]? = some (.int .i64 (bg : Int)) := intsD_get (by rw [hqe, hbg])
   have huu : (intsD (offM 0 p0))[bg]? = some (.int .i64 (totM (p0.take bg))) := intsD_get hu
   have hvv : (intsD (offM 0 p0))[Int.toNat (IntKind.i64.wrap ((k : Int) + 1))]? = some (.int .i64 (totM (p0.take (k + 1)))) := by rw [nxt (by omega), Int.toNat_natCast]; exact intsD_get hv
   have g8' : (daC fs)[k * 10 + 8]? = some (.int .i64 (to : Int)) := by rw [g8, ← hto]; rfl
   have hal : (intsD (offM 0 p0)).length = fs.length + 1 := by rw [intsD_len, offM_len, hp0]
   rcases hw8 with h8 | h8
   ·have g9' : (daC fs)[k * 10 + 9]? = some (.bool false) := by rw [g9]; simp [h8]
    rw [h8] at hbt
    have := dc_8 (catM ((fs.take k).map PaS.x)) (intsD q) (daC fs) (intsD (offM 0 p0)) fs.length k (daC_clean _) hm (by rw [len_bD]; omega) hlt fs[k].x (bytesXS fs[k].x) 0 to bg _ _ hA g8' hqq huu hvv hal (by omega) (by omega) (by omega) (by omega) g9' (by rw [len_bD]; omega) (by rw [hwr]; exact hbt)
    rw [daC_demote, nxt (by omega)] at this
    exact Rounds.more this ih
   ·have g9' : (daC fs)[k * 10 + 9]? = some (.bool true) := by rw [g9]; simp [h8]
    rw [h8] at hbt
    have := dc_32 (catM ((fs.take k).map PaS.x)) (intsD q) (daC fs) (intsD (offM 0 p0)) fs.length k (daC_clean _) hm (by rw [len_bD]; omega) hlt fs[k].x (bytesXS fs[k].x) 0 to bg _ _ hA g8' hqq huu hvv hal (by omega) (by omega) (by omega) (by omega) g9' (by rw [len_bD]; omega) (by rw [hwr]; exact hbt)
    rw [daC_demote, nxt (by omega)] at this
    exact Rounds.more this ih
theorem da_rounds (cs : List D) (q : List Int) (m nb : Nat) (hq : BegOK q nb m) (hn : q.length ≤ 1000) (av : List Int) (hav : av.length = m + 1) : ∀ (j k : Nat), k + j = q.length →
  Rounds Try.prog (loopB Try.f27 1) 5 (daT cs (intsD q) (intsD av) (intsD ((q.take k).map fun b => atI av b.toNat)) k) daS (.exit 2) (daU cs (intsD (q.map fun b => atI av b.toNat))) daE
 | 0, k, hk => by
  rw [List.take_of_length_le (by omega)]
  exact Rounds.last (da_end cs (intsD q) (intsD av) (q.map fun b => atI av b.toNat) k (by rw [intsD_len]; exact hn) (by rw [intsD_len, List.length_map]; omega) (by rw [intsD_len]; omega)) (fun h => by cases h)
 | j + 1, k, hk => by
  have hlt : k < q.length := by omega
  have ih := da_rounds cs q m nb hq hn av hav j (k + 1) (by omega)
  obtain ⟨b0, b1⟩ := hq.2 q[k] (List.getElem_mem hlt)
  obtain ⟨bg, hbg⟩ : ∃ bg : Nat, q[k] = (bg : Int) := ⟨q[k].toNat, by omega⟩
  have hbl : bg < av.length := by omega
  have := da_in cs (intsD q) (intsD av) ((q.take k).map fun b => atI av b.toNat) k (by rw [intsD_len]; exact hn) (by rw [intsD_len, List.length_map, List.length_take]; omega) (by rw [intsD_len]; exact hlt) bg av[bg] (by rw [intsD_gt hlt, hbg]) (intsD_gt hbl)
  rw [nxt (by omega), show intsD ((q.take k).map fun b => atI av b.toNat) ++ [D.int .i64 av[bg]] = intsD ((q.take (k + 1)).map fun b => atI av b.toNat) by
   rw [List.take_succ_eq_append_getElem hlt, List.map_append, intsD_snoc']
   congr 2
   simp only [List.map_cons, List.map_nil, hbg, Int.toNat_natCast]
   unfold atI
   rw [List.getD_eq_getElem?_getD, List.getElem?_eq_getElem hbl]
   rfl] at this
  exact Rounds.more this ih
theorem dn_rounds (q : List Int) (hn : q.length ≤ 1000) (h0 : ∀ x ∈ q, x = 0) : ∀ (j k : Nat), k + j = q.length →
  Rounds Try.prog (loopB Try.f27 1) 2 (dnT (intsD q) (intsD (q.take k)) k) [.dead, .dead, .fam 0 1] (.exit 2) (dnU (intsD q)) [.dead, .dead, .fam 0 1]
 | 0, k, hk => by
  rw [List.take_of_length_le (by omega)]
  exact Rounds.last (dn_end (intsD q) q k (by rw [intsD_len]; exact hn) (by rw [intsD_len]; omega) (by rw [intsD_len]; omega)) (fun h => by cases h)
 | j + 1, k, hk => by
  have hlt : k < q.length := by omega
  have ih := dn_rounds q hn h0 j (k + 1) (by omega)
  have := dn_in (intsD q) (q.take k) k (by rw [intsD_len]; exact hn) (by rw [intsD_len, List.length_take]; omega) (by rw [intsD_len]; exact hlt) (by rw [intsD_gt hlt, h0 _ (List.getElem_mem hlt)])
  rw [nxt (by omega), show intsD (q.take k) ++ [D.int .i64 0] = intsD (q.take (k + 1)) by
   rw [List.take_succ_eq_append_getElem hlt, ← intsD_snoc', h0 _ (List.getElem_mem hlt)]] at this
  exact Rounds.more this ih
theorem parF_do {pro : List XS} {l : List (List IrS)} (hg : Good pro l) : AllDO (parF pro l) := by
 obtain ⟨hpa, hjx⟩ := good_all hg
 refine allDO hpa hjx ?_
 unfold parF preP
 intro p hp
 rcases List.mem_append.1 hp with h | h
 ·obtain ⟨x, hx, rfl⟩ := List.mem_map.1 h
  intro e
  cases e
 ·exact allP_immz _ _ p h
theorem fin_way {pro : List XS} {l : List (List IrS)} (hg : Good pro l) (hml : (parF pro l).length ≤ 2000) : ∃ p0 : List PaS, p0.length = (parF pro l).length ∧ offF (begF pro l) (parF pro l) = offM 0 p0 ∧ Way (offM 0 p0) (begF pro l) (finM (begF pro l) (parF pro l)) := by
 obtain ⟨hpa, hjx⟩ := good_all hg
 obtain ⟨p0, e0, e1⟩ := relaxM_off (begF pro l) (shortN (parF pro l) + 1) (parF pro l)
 have hbg := good_beg pro l
 refine ⟨p0, e0, e1, finM_may hml hjx, ?_⟩
 intro k p hp hj
 unfold finM at hp
 rw [e1, wayL_get, Nat.zero_add] at hp
 obtain ⟨r, hr, rfl⟩ := Option.map_eq_some_iff.1 hp
 have hjr : r.j = true := by
  unfold stepW at hj
  split at hj
  ·assumption
  ·exact hj
 have hmem := List.mem_of_getElem? hr
 have h1 := relaxM_all (begF pro l) (shortN (parF pro l) + 1) (parF pro l) hpa r hmem
 have h2 := relaxM_jx (begF pro l) (shortN (parF pro l) + 1) (parF pro l) hjx r hmem
 have hs : stepW (offM 0 p0) (begF pro l) k r = r.imm (wayM (offM 0 p0) (begF pro l) k r.to) := by unfold stepW; rw [hjr]; rfl
 rw [hs]
 have t0 := h1.to0 hjr
 have t1 := h1.to1 hjr
 exact ⟨rfl, (h2.yes hjr).2.1, t0, by rw [hbg.1]; show r.to.toNat < l.length; omega⟩
theorem rrun_any {pro : List XS} {l : List (List IrS)} (hb : BlkIn pro l) : Ret Try.prog 27 [.lst .no 8 (xsL pro), .lst .no 1 (rwL l)] (runD pro l) := by
 unfold runD
 have hbb := hb.b
 by_cases hg : goodM pro l = true
 case neg => rw [if_neg hg]; exact drun_err_ok pro l 2 (by decide) (pd_err hb (fun h => hg (good_iff.2 h)))
 rw [if_pos hg]
 have g := good_iff.1 hg
 by_cases hn : pro.length + sumL l ≤ 2000
 case neg => rw [if_neg (fun h => hn h.1)]; exact drun_err_ok pro l 3 (by decide) (pd_long hb g hn)
 have hml := parF_len hn
 obtain ⟨hpa, hjx⟩ := good_all g
 have hbg := good_beg pro l
 have hl64 := g.l64
 by_cases hne : parF pro l = []
 ·have hq0 : ∀ x ∈ begF pro l, x = 0 := by
   intro x hx
   have := hbg.2 x hx
   rw [hne] at this
   simp only [List.length_nil] at this
   omega
  have hoff : offF (begF pro l) (parF pro l) = [0] := by rw [hne]; rfl
  have hst : startF pro l = begF pro l := by
   unfold startF
   rw [hoff]
   have : ∀ x ∈ begF pro l, (fun b : Int => atI [0] b.toNat) x = id x := by
    intro x hx
    rw [hq0 x hx]
    rfl
   rw [List.map_congr_left this, List.map_id]
  have hcode : codeF pro l = [] := by unfold codeF; rw [hne]; rfl
  have htot : totF pro l = 0 := by unfold totF; rw [hoff, hne]; rfl
  rw [if_pos ⟨hn, by rw [htot]; decide⟩, hst, hcode]
  have hlr := LoopRun.of_rounds (show 2 ≤ 3 by decide) (dn_rounds (begF pro l) (by rw [hbg.1]; omega) hq0 (begF pro l).length 0 (by omega))
  exact (drun_nil_ok pro l (begF pro l) (begF pro l) (pd_nil hb g hn hne) (rlx_nil_ok _) hlr).to (by exact ⟨⟨rfl, .inr rfl, trivial, .inl rfl⟩, ⟨rfl, .inl rfl, trivial, .inr rfl⟩, rfl, trivial⟩)
 ·have hp := pd_box hb g hn hne
  have hx := rlx_any (parF pro l) hml l.length hpa (parF_do g) (begF pro l) hbg
  have hol := offF_len (begF pro l) (parF pro l)
  have hfl := finM_len (begF pro l) (parF pro l)
  have ht : (intsD (offF (begF pro l) (parF pro l)))[(parF pro l).length]? = some (.int .i64 (totF pro l)) := by
   rw [intsD_gt (by omega)]
   unfold totF atI
   rw [List.getD_eq_getElem?_getD, List.getElem?_eq_getElem (by omega)]
   rfl
  by_cases hto : totF pro l ≤ 16384
  ·rw [if_pos ⟨hn, hto⟩]
   obtain ⟨p0, e0, e1, hw⟩ := fin_way g hml
   have h0 := LoopRun.of_rounds (show 4 ≤ 5 by decide) (dc_rounds p0 (begF pro l) (finM (begF pro l) (parF pro l)) (by omega) (by omega) l.length (by rw [hfl]; exact hbg) hw _ 0 (Nat.zero_add _))
   have h1 := LoopRun.of_rounds (show 5 ≤ 6 by decide) (da_rounds (bD (codeF pro l)) (begF pro l) (parF pro l).length l.length hbg (by rw [hbg.1]; omega) (offF (begF pro l) (parF pro l)) hol (begF pro l).length 0 (by omega))
   rw [hfl, ← e1] at h0
   refine drun_ok_ok pro l (codeF pro l) (startF pro l) (begF pro l) _ _ _ (parF pro l).length hml (daC_clean _) _ ht hp hx hto ?_ ?_
   ·rw [daC_demote]; exact h0
   ·exact h1
  ·rw [if_neg (fun h => hto h.2)]
   exact drun_long_ok pro l (begF pro l) _ _ _ (parF pro l).length hml (daC_clean _) _ ht hp hx (by omega)
theorem dsz_rounds (fs : List PaS) (hm : fs.length ≤ 2000) (hto : ∀ p ∈ fs, p.j = true → 0 ≤ p.to) : ∀ (j k : Nat), k + j = fs.length →
  Rounds Try.prog (loopB Try.f29 0) 4 (dszT (cntS (fs.take k)) (cntN (fs.take k)) fs.length k) (dszS (daC fs)) (.exit 0) (dszU (cntS fs) (cntN fs)) dszE
 | 0, k, hk => by
  rw [List.take_of_length_le (by omega)]
  have h1 := cntS_rng fs
  have h2 := cntN_rng fs
  exact Rounds.last (dsz_end (daC fs) fs.length k (cntS fs) (cntN fs) (by omega) (by omega) (by omega) (by omega) (daC_clean _) hm (by omega)) (fun h => by cases h)
 | j + 1, k, hk => by
  have hlt : k < fs.length := by omega
  have ih := dsz_rounds fs hm hto j (k + 1) (by omega)
  have h1 := cntS_rng (fs.take k)
  have h2 := cntN_rng (fs.take k)
  rw [List.length_take, Nat.min_eq_left (by omega)] at h1 h2
  have hsp : fs = fs.take k ++ fs[k] :: fs.drop (k + 1) := by rw [← List.drop_eq_getElem_cons hlt, List.take_append_drop]
  have g8 := daC_get (fs.take k) (fs.drop (k + 1)) fs[k] 8 (by decide)
  have g9 := daC_get (fs.take k) (fs.drop (k + 1)) fs[k] 9 (by decide)
  rw [← hsp, List.length_take, Nat.min_eq_left (by omega)] at g8 g9
  rw [List.take_succ_eq_append_getElem hlt, cntS_snoc, cntN_snoc] at ih
  cases hj : fs[k].j with
  | false =>
   rw [Go.Ev.dc_n hj] at g8
   have := dsz_n (daC fs) fs.length k (cntS (fs.take k)) (cntN (fs.take k)) (by omega) (by omega) (by omega) (by omega) (daC_clean _) hm hlt g8
   rw [daC_demote, nxt (by omega)] at this
   rw [hj, if_neg (by simp), if_neg (by simp), Int.add_zero, Int.add_zero] at ih
   exact Rounds.more this ih
  | true =>
   rw [dc_j hj] at g8 g9
   have t0 := hto _ (List.getElem_mem hlt) hj
   by_cases hw : fs[k].x.w = 8
   ·have := dsz_s (daC fs) fs.length k (cntS (fs.take k)) (cntN (fs.take k)) (by omega) (by omega) (by omega) (by omega) (daC_clean _) hm hlt fs[k].to t0 g8 (by rw [g9]; simp [hw])
    rw [daC_demote, nxt (by omega), show IntKind.i64.wrap (cntS (fs.take k) + 1) = cntS (fs.take k) + 1 by rw [w_i64]; omega] at this
    rw [hj, if_pos ⟨rfl, hw⟩, if_neg (by simp [hw]), Int.add_zero] at ih
    exact Rounds.more this ih
   ·have := dsz_r (daC fs) fs.length k (cntS (fs.take k)) (cntN (fs.take k)) (by omega) (by omega) (by omega) (by omega) (daC_clean _) hm hlt fs[k].to t0 g8 (by rw [g9]; simp [hw])
    rw [daC_demote, nxt (by omega), show IntKind.i64.wrap (cntN (fs.take k) + 1) = cntN (fs.take k) + 1 by rw [w_i64]; omega] at this
    rw [hj, if_neg (by simp [hw]), if_pos ⟨rfl, hw⟩, Int.add_zero] at ih
    exact Rounds.more this ih
theorem rrunC_any {pro : List XS} {l : List (List IrS)} (hb : BlkIn pro l) : CallRun Try.prog 27 [.lst .no 8 (xsL pro), .lst .no 1 (rwL l)] [] (runD pro l).demote [] := ret_toCall (rrun_any hb) rfl rfl []
def sizD (pro : List XS) (l : List (List IrS)) : D := if goodM pro l = true then (if pro.length + sumL l ≤ 2000 ∧ totF pro l ≤ 16384 then .tup [.int .i64 (cntS (finF pro l)), .int .i64 (cntN (finF pro l)), .int .i64 0] else .tup [.int .i64 0, .int .i64 0, .int .i64 3]) else .tup [.int .i64 0, .int .i64 0, .int .i64 2]
theorem rsizes_any {pro : List XS} {l : List (List IrS)} (hb : BlkIn pro l) : Ret Try.prog 29 [.lst .no 8 (xsL pro), .lst .no 1 (rwL l)] (sizD pro l) := by
 unfold sizD
 have hr := rrunC_any hb
 unfold runD at hr
 by_cases hg : goodM pro l = true
 case neg => rw [if_neg hg] at hr ⊢; exact dsize_err_ok pro l 2 (by decide) hr
 rw [if_pos hg] at hr ⊢
 by_cases hn : pro.length + sumL l ≤ 2000 ∧ totF pro l ≤ 16384
 case neg => rw [if_neg hn] at hr ⊢; exact dsize_err_ok pro l 3 (by decide) hr
 rw [if_pos hn] at hr ⊢
 have g := good_iff.1 hg
 have hml := parF_len hn.1
 obtain ⟨hpa, hjx⟩ := good_all g
 have hbg := good_beg pro l
 by_cases hne : parF pro l = []
 ·have hf : finF pro l = [] := by
   have := finF_len pro l
   rw [hne] at this
   exact List.length_eq_zero_iff.1 this
  rw [hf]
  exact dsize_nil_ok pro l _ (startF pro l) (begF pro l) 1 hr (pd_nil hb g hn.1 hne) (rlx_nil_ok _)
 ·have hp := pd_box hb g hn.1 hne
  have hx := rlx_any (parF pro l) hml l.length hpa (parF_do g) (begF pro l) hbg
  have hfl := finF_len pro l
  obtain ⟨p0, e0, e1, hw⟩ := fin_way g hml
  have h0 := LoopRun.of_rounds (show 4 ≤ 4 by decide) (dsz_rounds (finF pro l) (by omega) (fun p hp hj => by
   obtain ⟨i, hi, rfl⟩ := List.getElem_of_mem hp
   exact (hw.way i _ (List.getElem?_eq_getElem hi) hj).2.2.1) _ 0 (Nat.zero_add _))
  rw [hfl] at h0
  refine dsize_ok_ok pro l (codeF pro l) (startF pro l) (begF pro l) _ _ _ (parF pro l).length hml (daC_clean _) _ _ hr hp hx ?_
  rw [daC_demote]
  exact h0
theorem ln_end (a : List Int) (k : Nat) (hk : k ≤ 1000) (h : ((intsD a).length : Int) ≤ k)  : RoundRun Try.prog (loopB Try.f7 0) ⟨[], [], []⟩ 5 (un 6 ++ (.lst .no 1 (intsD a)) :: (D.undef) :: (D.undef) :: (.lst .no 1 (intsD a)) :: (un 7 ++ (.int .i64 (↑k : Int)) :: (un 80))) [.dead, .dead, .dead, .dead, .dead] (.exit 0) (un 98) ([.dead, .dead, .dead, .dead, .dead]) := by
 exact RoundRun.of_eval mixed [tC (by ((try simp only [sL] at *); (try unfold big at *); omega) : (decide ((↑k : Int) < (↑(List.length (intsD a)) : Int))) = false)] (by kernel_rfl)
theorem ln_in (a : List Int) (k : Nat) (hk : k ≤ 1000) (h : k < ((intsD a).length : Int)) (u : Int) (hu : (intsD a)[k]? = some (.int .i64 u))  : RoundRun Try.prog (loopB Try.f7 0) ⟨[6, 9, 17], [], []⟩ 5 (un 6 ++ (.lst .no 1 (intsD a)) :: (D.undef) :: (D.undef) :: (.lst .no 1 (intsD a)) :: (un 7 ++ (.int .i64 (↑k : Int)) :: (un 80))) [.dead, .dead, .dead, .dead, .dead] .norm (un 6 ++ (.lst .no 1 (intsD a)) :: (D.undef) :: (D.undef) :: (.lst .no 1 (intsD a)) :: (un 7 ++ (.int .i64 (IntKind.i64.wrap ((↑k : Int) + (1 : Int)))) :: (un 80))) ([.dead, .dead, .dead, .dead, .dead]) := by
 exact RoundRun.of_eval mixed [tC (by ((try simp only [sL] at *); (try unfold big at *); omega) : (decide ((↑k : Int) < (↑(List.length (intsD a)) : Int))) = true), tT, .get _ _ _ hu, tT, .get _ _ _ hu, tC (nt (beq_self_eq_true (u)))] (by kernel_rfl)
abbrev lnT (a : List D) (k : Nat) : List D := (un 6 ++ (.lst .no 1 a) :: (.undef) :: (.undef) :: (.lst .no 1 a) :: (un 7 ++ (.int .i64 (k : Int)) :: (un 80)))
abbrev lnU : List D := (un 98)
theorem ln_great_ok (pro : List XS) (l : List (List IrS)) (hG : Ret Try.prog 24 [.lst .no 8 (xsL pro), .lst .no 1 (rwL l)] (.bool true))  : Ret Try.prog 7 ([.lst .no 8 (xsL pro), .lst .no 1 (rwL l)]) (.bool true) := by
 have c0 := @wakes24_ok
 exact (Ret.of_eval (d := .bool true) mixed Try.func7 (by kernel_rfl) [.ret _ _ _ hG, tT, .ret _ _ _ c0] (by kernel_rfl)).to (by first | rfl | (simp [wk]; done))
theorem ln_bad_ok (pro : List XS) (l : List (List IrS)) (e : Int) (hG : Ret Try.prog 24 [.lst .no 8 (xsL pro), .lst .no 1 (rwL l)] (.bool false)) (r1 : Ret Try.prog 26 [.lst .no 8 (xsL pro), .lst .no 1 (rwL l)] (.tup [.lst .tight 0 [], .lst .tight 0 [], .int .i64 e])) (r2 : Ret Try.prog 27 [.lst .no 8 (xsL pro), .lst .no 1 (rwL l)] (.tup [.lst .tight 0 [], .lst .tight 0 [], .int .i64 e])) (r3 : Ret Try.prog 28 [.lst .no 8 (xsL pro), .lst .no 1 (rwL l)] (.tup [.int .i64 0, .int .i64 0, .int .i64 e])) (r4 : Ret Try.prog 29 [.lst .no 8 (xsL pro), .lst .no 1 (rwL l)] (.tup [.int .i64 0, .int .i64 0, .int .i64 e]))  : Ret Try.prog 7 ([.lst .no 8 (xsL pro), .lst .no 1 (rwL l)]) (.bool true) := by
 have c0 := @wakes24_ok
 exact (Ret.of_eval (d := .bool true) mixed Try.func7 (by kernel_rfl) ([.ret _ _ _ hG, tF, .ret _ _ _ r1, .ret _ _ _ r2, .ret _ _ _ r3, .ret _ _ _ r4, tT, tT, tT, tT, tT, tF, tC (eF (nt (beq_self_eq_true (e)))), tC (eF (nt (beq_self_eq_true (e)))), tC (eF (nt (beq_self_eq_true (e)))), tC (eF (nt (beq_self_eq_true (e))))] ++ [tC (eF (nt (beq_self_eq_true (e)))), tC (nt (beq_self_eq_true (e))), tT, tT, tT, tF, tT, tT, tT, tF, tT, tT, tT, tF, tC (nt (beq_self_eq_true (e))), .go 64] ++ [tF, .ret _ _ _ c0]) (by kernel_rfl)).to (by first | rfl | (simp [wk]; done))
theorem ln_ok_ok (pro : List XS) (l : List (List IrS)) (c a : List Int) (i j : Int) (hG : Ret Try.prog 24 [.lst .no 8 (xsL pro), .lst .no 1 (rwL l)] (.bool false)) (r1 : Ret Try.prog 26 [.lst .no 8 (xsL pro), .lst .no 1 (rwL l)] (.tup [.lst .no 1 (bD c), .lst .no 1 (intsD a), .int .i64 0])) (r2 : Ret Try.prog 27 [.lst .no 8 (xsL pro), .lst .no 1 (rwL l)] (.tup [.lst .no 1 (bD c), .lst .no 1 (intsD a), .int .i64 0])) (r3 : Ret Try.prog 28 [.lst .no 8 (xsL pro), .lst .no 1 (rwL l)] (.tup [.int .i64 i, .int .i64 j, .int .i64 0])) (r4 : Ret Try.prog 29 [.lst .no 8 (xsL pro), .lst .no 1 (rwL l)] (.tup [.int .i64 i, .int .i64 j, .int .i64 0])) (h0 : LoopRun Try.prog 5 (.loop (loopB Try.f7 0)) (lnT (intsD a) 0) [.dead, .dead, .dead, .dead, .dead] (.exit 0) lnU [.dead, .dead, .dead, .dead, .dead])  : Ret Try.prog 7 ([.lst .no 8 (xsL pro), .lst .no 1 (rwL l)]) (.bool true) := by
 have c0 := @run_id (nat_lit 5) _ ((un 6 ++ (.lst .no 1 (intsD a)) :: (D.undef) :: (D.undef) :: (.lst .no 1 (intsD a)) :: (un 7 ++ (.int .i64 0) :: (un 80)))) ([.dead, .dead, .dead, .dead, .dead]) _ _ _ h0
 have c1 := @wakes24_ok
 exact (Ret.of_eval (d := .bool true) mixed Try.func7 (by kernel_rfl) ([.ret _ _ _ hG, tF, .ret _ _ _ r1, .ret _ _ _ r2, .ret _ _ _ r3, .ret _ _ _ r4, tC (v := true) (@allB (c)), tC (v := true) (@allB (c)), tC (eF (nt (beq_self_eq_true (ByteArray.toList (strD (bD c)))))), tC (eF (nt (beq_self_eq_true (ByteArray.toList (strD (bD c)))))), tC (eF (nt (beq_self_eq_true (ByteArray.toList (strD (bD c)))))), tC (nt (beq_self_eq_true (ByteArray.toList (strD (bD c))))), tT, tT, tT, tT] ++ [tT, tF, tC (eF (nt (beq_self_eq_true ((↑(List.length (intsD a)) : Int))))), tC (eF (nt (beq_self_eq_true ((↑(List.length (intsD a)) : Int))))), tC (eF (nt (beq_self_eq_true ((↑(List.length (intsD a)) : Int))))), tC (nt (beq_self_eq_true ((↑(List.length (intsD a)) : Int)))), tC (eF (nt (beq_self_eq_true (i)))), tC (eF (nt (beq_self_eq_true (i)))), tC (eF (nt (beq_self_eq_true (i)))), tC (nt (beq_self_eq_true (i))), tC (eF (nt (beq_self_eq_true (j)))), tC (eF (nt (beq_self_eq_true (j)))), tC (eF (nt (beq_self_eq_true (j)))), tC (nt (beq_self_eq_true (j))), tF, .head ⟨[6, 9, 17], [], []⟩ _ _ _ _ _ _ _ c0] ++ [.ret _ _ _ c1]) (by kernel_rfl)).to (by first | rfl | (simp [wk]; done))
theorem ln_rounds (a : List Int) (hn : a.length ≤ 1000) : ∀ (j k : Nat), k + j = a.length →
  Rounds Try.prog (loopB Try.f7 0) 5 (lnT (intsD a) k) [.dead, .dead, .dead, .dead, .dead] (.exit 0) lnU [.dead, .dead, .dead, .dead, .dead]
 | 0, k, hk => Rounds.last (ln_end a k (by omega) (by rw [intsD_len]; omega)) (fun h => by cases h)
 | j + 1, k, hk => by
  have hlt : k < a.length := by omega
  have := ln_in a k (by omega) (by rw [intsD_len]; omega) a[k] (intsD_gt hlt)
  rw [nxt (by omega)] at this
  exact Rounds.more this (ln_rounds a hn j (k + 1) (by omega))
theorem runs_any (pro : List XS) (l : List (List IrS)) (hx : AllX pro) (ho : ∀ r ∈ l, AllOk r) (hs : Sized pro l) : Ret Try.prog 7 [.lst .no 8 (xsL pro), .lst .no 1 (rwL l)] (.bool true) := by
 have hG := great_any hs
 cases hgr : (decide (2500 < sumG pro l) || decide (100 < ((rwL l).length : Int))) with
 | true => rw [hgr] at hG; exact ln_great_ok pro l hG
 | false =>
  rw [hgr] at hG
  have hb := not_great hx ho hgr
  have r1 := run_any hb
  have r2 := rrun_any hb
  have r3 := sizes_any hb
  have r4 := rsizes_any hb
  unfold runD at r1 r2
  unfold sizD at r4
  by_cases g1 : goodM pro l = true
  ·rw [if_pos g1] at r1 r2 r3 r4
   by_cases n1 : pro.length + sumL l ≤ 2000 ∧ totF pro l ≤ 16384
   ·rw [if_pos n1] at r1 r2 r3 r4
    have hl : (startF pro l).length ≤ 1000 := by
     have := (good_beg pro l).1
     have := hb.b
     unfold startF
     rw [List.length_map]
     omega
    have h0 := LoopRun.of_rounds (show 5 ≤ 5 by decide) (ln_rounds (startF pro l) hl (startF pro l).length 0 (by omega))
    exact ln_ok_ok pro l (codeF pro l) (startF pro l) _ _ hG r1 r2 r3 r4 h0
   ·rw [if_neg n1] at r1 r2 r3 r4
    exact ln_bad_ok pro l 3 hG r1 r2 r3 r4
  ·rw [if_neg g1] at r1 r2 r3 r4
   exact ln_bad_ok pro l 2 hG r1 r2 r3 r4
end Go.Proofs.Ytcngafhpodeenaa
