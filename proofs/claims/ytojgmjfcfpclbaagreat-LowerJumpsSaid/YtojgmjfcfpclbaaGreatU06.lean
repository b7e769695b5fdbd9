/- Contracts and plain laws that a statement's proof leans on (texts merged: ZJ0, MdT, MdI, MdJ, MdK, MdG, MdR, MdN, MdD, ZJ2). -/
import Derived.Test.YtojgmjfcfpclbaaGreatU04
import Derived.Test.YtojgmjfcfpclbaaGreatU05
set_option linter.unusedVariables false
set_option linter.unusedSimpArgs false
namespace Go.Proofs.YtojgmjfcfpclbaaGreat
open Go Go.Ev
set_option maxRecDepth 100000
set_option maxHeartbeats 8000000
theorem jrun_cmp_true_ok (op : Int) (o0 : 0 ≤ op) (o1 : op ≤ 10) (hs : (op == 10) = false) (dst src imm : Int) (hm : mayM 3 op 0 0 true dst src 0 imm = true) (hx : mayM 6 0 0 0 false 0 0 0 0 = true) : Ret Tryz.prog 43 ([.agg [.int .i64 0, .lst .no 9 [instD 3 op 0 0 true dst src 0 imm, instD 6 0 0 0 false 0 0 0 0]]]) (.tup [.lst .no 1 [.lst .no 13 [takeD 0 dst, takeD 1 src, two 7 64 0 1, irD 4 29 0 0 0 0 0 0 (toccM op).1 0 0 0 1, irD 5 0 0 0 0 0 0 0 0 0 0 0 1], .lst .no 13 [irD 6 0 0 0 0 0 0 0 0 0 0 0 0]], .int .i64 0]) := by
 have c0 := @within64_ok ((0 : Int)) ((0 : Int)) ((256 : Int))
 have c1 := @within64_ok (IntKind.wrap IntKind.i64 ((↑(List.length [(instD 3 op 0 0 true dst src 0 imm), (instD 6 0 0 0 false 0 0 0 0)]) : Int) - (1 : Int))) ((0 : Int)) ((63 : Int))
 have c2 := @instrMay_ok ((3 : Int)) (op) ((0 : Int)) ((0 : Int)) (true) (dst) (src) ((0 : Int)) (imm)
 have c3 := @within64_ok ((0 : Int)) ((-1099511627776 : Int)) ((1099511627776 : Int))
 have c4 := @within64_ok ((0 : Int)) ((-1099511627776 : Int)) ((1099511627776 : Int))
 have c5 := @within64_ok ((1 : Int)) ((0 : Int)) (IntKind.wrap IntKind.i64 ((↑(List.length [(instD 3 op 0 0 true dst src 0 imm), (instD 6 0 0 0 false 0 0 0 0)]) : Int) - (1 : Int)))
 have c6 := @instrMay_ok ((6 : Int)) ((0 : Int)) ((0 : Int)) ((0 : Int)) (false) ((0 : Int)) ((0 : Int)) ((0 : Int)) ((0 : Int))
 have c7 := @within64_ok ((0 : Int)) ((-1099511627776 : Int)) ((1099511627776 : Int))
 have c8 := @within64_ok ((0 : Int)) ((-1099511627776 : Int)) ((1099511627776 : Int))
 have c9 := @within64_ok ((0 : Int)) ((-1099511627776 : Int)) ((1099511627776 : Int))
 have c10 := @within64_ok ((0 : Int)) ((-1099511627776 : Int)) ((1099511627776 : Int))
 have c11 := @l_take_ok ((0 : Int)) (dst)
 have c12 := @l_num_ok ((14 : Int)) ((64 : Int)) ((0 : Int)) (imm)
 have c13 := @l_steps_ok ([(irD 1 0 0 0 0 0 0 0 0 dst 0 0 0), (irD 0 14 64 0 0 0 0 imm 0 0 0 0 0)])
 have c14 := @l_take_ok ((1 : Int)) (src)
 have c15 := @l_two_ok ((7 : Int)) ((64 : Int)) ((0 : Int)) ((1 : Int))
 have c16 := @l_steps_ok ([(irD 1 0 0 0 0 0 0 0 0 dst 0 0 0), (irD 1 0 0 0 0 0 0 0 0 src 1 0 0), (irD 0 7 64 0 1 0 0 0 0 0 0 0 0)])
 have c17 := @tocc_in_ok (op) o0 o1
 have c18 := @l_goes_ok ((1 : Int))
 have c19 := @l_steps_ok ([(irD 6 0 0 0 0 0 0 0 0 0 0 0 0)])
 exact (Ret.of_eval (d := .tup [.lst (.fresh 1) 1 [.lst .no 13 [(irD 1 0 0 0 0 0 0 0 0 dst 0 0 0), (irD 1 0 0 0 0 0 0 0 0 src 1 0 0), (irD 0 7 64 0 1 0 0 0 0 0 0 0 0), (irD 4 29 0 0 0 0 0 0 (Prod.fst (toccM op)) 0 0 0 1), (irD 5 0 0 0 0 0 0 0 0 0 0 0 1)], .lst .no 13 [(irD 6 0 0 0 0 0 0 0 0 0 0 0 0)]], .int .i64 0]) mixed Tryz.func43 (by kernel_rfl) ([.inl, .inl, .ret _ _ _ c0, tF, .ret _ _ _ c1, tF, .go 64, tT, tT, .get ([(instD 3 op 0 0 true dst src 0 imm), (instD 6 0 0 0 false 0 0 0 0)]) 0 ((instD 3 op 0 0 true dst src 0 imm)) rfl, .ret _ _ _ c2, tC (nt hm), .inl, tF, tF, tF] ++ [tF, tT, tT, .ret _ _ _ c3, tT, tF, tT, tT, tT, .ret _ _ _ c4, tT, tF, tF, tT, tT, tT] ++ [.ret _ _ _ c5, tT, tT, tF, tT, tT, .get ([(instD 3 op 0 0 true dst src 0 imm), (instD 6 0 0 0 false 0 0 0 0)]) 1 ((instD 6 0 0 0 false 0 0 0 0)) rfl, .ret _ _ _ c6, tF, .inl, tT, tT, tT, tT, tF, tF] ++ [tF, tT, tF, tF, tF, tF, tT, tT, tF, tF, tF, tF, tF, tF, tF, tT] ++ [.get ([(instD 3 op 0 0 true dst src 0 imm), (instD 6 0 0 0 false 0 0 0 0)]) 1 ((instD 6 0 0 0 false 0 0 0 0)) rfl, tT, tT, tT, tF, tF, .go 64, tT, tT, .get ([(instD 3 op 0 0 true dst src 0 imm), (instD 6 0 0 0 false 0 0 0 0)]) 0 ((instD 3 op 0 0 true dst src 0 imm)) rfl, tT, tT, .inl, tF, tF, tF] ++ [tF, tT, tT, .ret _ _ _ c7, tT, tF, tT, tT, tT, .ret _ _ _ c8, tT, tF, tF, tT, tT, tT] ++ [.get ([(instD 3 op 0 0 true dst src 0 imm), (instD 6 0 0 0 false 0 0 0 0)]) 1 ((instD 6 0 0 0 false 0 0 0 0)) rfl, tF, tF, tT, .inl, tT, tT, tT, tT, tF, tF, tF, tT, tF, tF, tF] ++ [tF, tT, tT, tF, tF, tT, .go 64, tT, .mget ([((0 : Int), .bool true), ((1 : Int), .bool true), ((2 : Int), .bool true)]) ((0 : Int)) (some (.bool true)) rfl, tT, .go 0, .len ((1 : Nat)) ((2147483648 : Nat)) (by first | decide | omega | (simp; omega)), tT, .putA ([.int .i64 0, .int .i64 0]) 0 ([.int .i64 (IntKind.wrap IntKind.i64 ((↑(List.length [D.agg [.int .i64 0, .int .i64 0, .lst .tight 0 []]]) : Int) - (1 : Int)))]) ([.int .i64 (IntKind.wrap IntKind.i64 ((↑(List.length [D.agg [.int .i64 0, .int .i64 0, .lst .tight 0 []]]) : Int) - (1 : Int))), .int .i64 0]) ⟨rfl, by first | decide | simp⟩, tT, .get ([.int .i64 0, .int .i64 0]) 0 (.int .i64 0) rfl] ++ [tT, .putA ([.int .i64 0, .int .i64 0, .lst .tight 0 []]) 1 ([.int .i64 1]) ([.int .i64 0, .int .i64 1, .lst .tight 0 []]) ⟨rfl, by first | decide | simp⟩, tT, .mget ([((0 : Int), .bool true), ((1 : Int), .bool true), ((2 : Int), .bool true)]) ((1 : Int)) (some (.bool true)) rfl, tT, .len ((2 : Nat)) ((2147483648 : Nat)) (by first | decide | omega | (simp; omega)), tT, .putA ([.int .i64 0, .int .i64 0]) 1 ([.int .i64 (IntKind.wrap IntKind.i64 ((↑(List.length [D.agg [.int .i64 0, .int .i64 0, .lst .tight 0 []]] + List.length [D.agg [.int .i64 1, .int .i64 0, .lst .tight 0 []]]) : Int) - (1 : Int)))]) ([.int .i64 0, .int .i64 (IntKind.wrap IntKind.i64 ((↑(List.length [D.agg [.int .i64 0, .int .i64 0, .lst .tight 0 []]] + List.length [D.agg [.int .i64 1, .int .i64 0, .lst .tight 0 []]]) : Int) - (1 : Int)))]) ⟨rfl, by first | decide | simp⟩, tT, .get ([.int .i64 0, .int .i64 1]) 1 (.int .i64 1) rfl, tT, .putA ([.int .i64 0, .int .i64 1, .lst .tight 0 [], .int .i64 1, .int .i64 0, .lst .tight 0 []]) 4 ([.int .i64 2]) ([.int .i64 0, .int .i64 1, .lst .tight 0 [], .int .i64 1, .int .i64 2, .lst .tight 0 []]) ⟨rfl, by first | decide | simp⟩, tF, .go 64, tT, tT] ++ [.get ([.int .i64 0, .int .i64 1, .lst .tight 0 [], .int .i64 1, .int .i64 2, .lst .tight 0 []]) 1 (.int .i64 1) rfl, tT, .get ([(instD 3 op 0 0 true dst src 0 imm), (instD 6 0 0 0 false 0 0 0 0)]) 0 ((instD 3 op 0 0 true dst src 0 imm)) rfl, .inl, tF, tF, tF, tF, tT, tT, .ret _ _ _ c9, tT, tF, tT, tT, tT] ++ [.ret _ _ _ c10, tT, tF, tF, tT, tT, .get ([.int .i64 0, .int .i64 1, .lst .tight 0 [], .int .i64 1, .int .i64 2, .lst .tight 0 []]) 2 (.lst .tight 0 []) rfl, tT, .get ([.int .i64 0, .int .i64 1]) 1 (.int .i64 1) rfl, .len ((1 : Nat)) ((2147483648 : Nat)) (by first | decide | omega | (simp; omega)), tT, .putA ([.int .i64 0, .int .i64 1, .lst .tight 0 [], .int .i64 1, .int .i64 2, .lst .tight 0 []]) 2 ([.lst (Own.tok (27 : Nat) (0 : Nat)) (1 : Nat) [.int .i64 1]]) ([.int .i64 0, .int .i64 1, .lst (Own.tok (27 : Nat) (0 : Nat)) (1 : Nat) [.int .i64 1], .int .i64 1, .int .i64 2, .lst .tight 0 []]) ⟨rfl, by first | decide | simp⟩, tT, .get ([(instD 3 op 0 0 true dst src 0 imm), (instD 6 0 0 0 false 0 0 0 0)]) 0 ((instD 3 op 0 0 true dst src 0 imm)) rfl, tT, tT] ++ [tT, tT, tT, .get ([.int .i64 0, .int .i64 1, .lst (Own.tok (27 : Nat) (0 : Nat)) (1 : Nat) [.int .i64 1], .int .i64 1, .int .i64 2, .lst .tight 0 []]) 2 (.lst (Own.tok (27 : Nat) (0 : Nat)) (1 : Nat) [.int .i64 1]) rfl, .len ((2 : Nat)) ((2147483648 : Nat)) (by first | decide | omega | (simp; omega)), tT, .putA ([.int .i64 0, .int .i64 1, .lst (Own.tok (27 : Nat) (0 : Nat)) (1 : Nat) [.int .i64 1], .int .i64 1, .int .i64 2, .lst .tight 0 []]) 2 ([.lst (Own.tok (27 : Nat) (1 : Nat)) (1 : Nat) [.int .i64 1, .int .i64 1]]) ([.int .i64 0, .int .i64 1, .lst (Own.tok (27 : Nat) (1 : Nat)) (1 : Nat) [.int .i64 1, .int .i64 1], .int .i64 1, .int .i64 2, .lst .tight 0 []]) ⟨rfl, by first | decide | simp⟩, tT, tT, .get ([.int .i64 0, .int .i64 1, .lst (Own.tok (27 : Nat) (1 : Nat)) (1 : Nat) [.int .i64 1, .int .i64 1], .int .i64 1, .int .i64 2, .lst .tight 0 []]) 4 (.int .i64 2) rfl, tT, .get ([(instD 3 op 0 0 true dst src 0 imm), (instD 6 0 0 0 false 0 0 0 0)]) 1 ((instD 6 0 0 0 false 0 0 0 0)) rfl, .inl, tT, tT, tT] ++ [tT, tF, tF, tF, tT, tF, tF, tF, tF, tT, tT, tF, tT, .get ([(instD 3 op 0 0 true dst src 0 imm), (instD 6 0 0 0 false 0 0 0 0)]) 1 ((instD 6 0 0 0 false 0 0 0 0)) rfl, tT, tT] ++ [tT, tF, tF, tF, .go 64, tT, tT, .get ([.int .i64 0, .int .i64 1, .lst (Own.tok (27 : Nat) (1 : Nat)) (1 : Nat) [.int .i64 1, .int .i64 1], .int .i64 1, .int .i64 2, .lst .tight 0 []]) 2 (.lst (Own.tok (27 : Nat) (1 : Nat)) (1 : Nat) [.int .i64 1, .int .i64 1]) rfl, tT, .get ([.int .i64 0, .int .i64 1, .lst (Own.tok (27 : Nat) (1 : Nat)) (1 : Nat) [.int .i64 1, .int .i64 1], .int .i64 1, .int .i64 2, .lst .tight 0 []]) 0 (.int .i64 0) rfl, tT, .get ([.int .i64 0, .int .i64 1, .lst (Own.tok (27 : Nat) (1 : Nat)) (1 : Nat) [.int .i64 1, .int .i64 1], .int .i64 1, .int .i64 2, .lst .tight 0 []]) 1 (.int .i64 1) rfl, tT, .go 64, tT, tT] ++ [.get ([(instD 3 op 0 0 true dst src 0 imm)]) 0 ((instD 3 op 0 0 true dst src 0 imm)) rfl, tT, .inl, tC hs, .ret _ _ _ c11, .ret _ _ _ c12, .ret _ _ _ c13, tT, .get ([(irD 1 0 0 0 0 0 0 0 0 dst 0 0 0), (irD 0 14 64 0 0 0 0 imm 0 0 0 0 0)]) 0 ((irD 1 0 0 0 0 0 0 0 0 dst 0 0 0)) rfl, .ret _ _ _ c14, .ret _ _ _ c15, .ret _ _ _ c16, .ret _ _ _ c17, .get ([.int .i64 1, .int .i64 1]) 0 (.int .i64 1) rfl, .get ([.int .i64 1, .int .i64 1]) 1 (.int .i64 1) rfl, .ret _ _ _ c18] ++ [.len ((5 : Nat)) ((2147483648 : Nat)) (by first | decide | omega | (simp; omega)), .len ((5 : Nat)) ((2147483648 : Nat)) (by first | decide | omega | (simp; omega)), tF, tT, .get ([.int .i64 0, .int .i64 1, .lst (Own.tok (27 : Nat) (1 : Nat)) (1 : Nat) [.int .i64 1, .int .i64 1], .int .i64 1, .int .i64 2, .lst .tight 0 []]) 1 (.int .i64 1) rfl, tT, .get ([(instD 3 op 0 0 true dst src 0 imm), (instD 6 0 0 0 false 0 0 0 0)]) 0 ((instD 3 op 0 0 true dst src 0 imm)) rfl, tF, tF, tF, tF, tF, tF, tF, .len ((1 : Nat)) ((2147483648 : Nat)) (by first | decide | omega | (simp; omega)), tT] ++ [tT, .get ([.int .i64 0, .int .i64 1, .lst (Own.tok (27 : Nat) (1 : Nat)) (1 : Nat) [.int .i64 1, .int .i64 1], .int .i64 1, .int .i64 2, .lst .tight 0 []]) 5 (.lst .tight 0 []) rfl, tT, .get ([.int .i64 0, .int .i64 1, .lst (Own.tok (27 : Nat) (1 : Nat)) (1 : Nat) [.int .i64 1, .int .i64 1], .int .i64 1, .int .i64 2, .lst .tight 0 []]) 3 (.int .i64 1) rfl, tT, .get ([.int .i64 0, .int .i64 1, .lst (Own.tok (27 : Nat) (1 : Nat)) (1 : Nat) [.int .i64 1, .int .i64 1], .int .i64 1, .int .i64 2, .lst .tight 0 []]) 4 (.int .i64 2) rfl, tT, .go 64, tT, tT, .get ([(instD 6 0 0 0 false 0 0 0 0)]) 0 ((instD 6 0 0 0 false 0 0 0 0)) rfl, tF, tF, .inl, tT, .get ([D.fn (Fn.func 138) [] [], D.fn (Fn.func 139) [] [], D.fn (Fn.func 140) [] [], D.nilf, D.nilf, D.fn (Fn.func 141) [] [], D.fn (Fn.func 142) [] []]) 6 (D.fn (Fn.func 142) [] []) rfl] ++ [tT, .inl, .ret _ _ _ c19, .len ((1 : Nat)) ((2147483648 : Nat)) (by first | decide | omega | (simp; omega)), tF, tT, .get ([.int .i64 0, .int .i64 1, .lst (Own.tok (27 : Nat) (1 : Nat)) (1 : Nat) [.int .i64 1, .int .i64 1], .int .i64 1, .int .i64 2, .lst .tight 0 []]) 4 (.int .i64 2) rfl, tT, .get ([(instD 3 op 0 0 true dst src 0 imm), (instD 6 0 0 0 false 0 0 0 0)]) 1 ((instD 6 0 0 0 false 0 0 0 0)) rfl, tT, tT, tT, tT, tT, tT, tF] ++ [.len ((2 : Nat)) ((2147483648 : Nat)) (by first | decide | omega | (simp; omega)), tF]) (by kernel_rfl)).to (by first | (simp [wk, wkL, wkO]; done) | (simp [wk, wkL, wkO, toccM]; done) | exact ⟨⟨rfl, .inl rfl, trivial, .inr rfl⟩, rfl, trivial⟩)
theorem jrun_set_true_ok (dst src imm : Int) (hm : mayM 3 10 0 0 true dst src 0 imm = true) (hx : mayM 6 0 0 0 false 0 0 0 0 = true) : Ret Tryz.prog 43 ([.agg [.int .i64 0, .lst .no 9 [instD 3 10 0 0 true dst src 0 imm, instD 6 0 0 0 false 0 0 0 0]]]) (.tup [.lst .no 1 [.lst .no 13 [takeD 0 dst, takeD 1 src, two 8 64 0 1, irD 4 29 0 0 0 0 0 0 (toccM 10).1 0 0 0 1, irD 5 0 0 0 0 0 0 0 0 0 0 0 1], .lst .no 13 [irD 6 0 0 0 0 0 0 0 0 0 0 0 0]], .int .i64 0]) := by
 have c0 := @within64_ok ((0 : Int)) ((0 : Int)) ((256 : Int))
 have c1 := @within64_ok (IntKind.wrap IntKind.i64 ((↑(List.length [(instD 3 10 0 0 true dst src 0 imm), (instD 6 0 0 0 false 0 0 0 0)]) : Int) - (1 : Int))) ((0 : Int)) ((63 : Int))
 have c2 := @instrMay_ok ((3 : Int)) ((10 : Int)) ((0 : Int)) ((0 : Int)) (true) (dst) (src) ((0 : Int)) (imm)
 have c3 := @within64_ok ((0 : Int)) ((-1099511627776 : Int)) ((1099511627776 : Int))
 have c4 := @within64_ok ((0 : Int)) ((-1099511627776 : Int)) ((1099511627776 : Int))
 have c5 := @within64_ok ((1 : Int)) ((0 : Int)) (IntKind.wrap IntKind.i64 ((↑(List.length [(instD 3 10 0 0 true dst src 0 imm), (instD 6 0 0 0 false 0 0 0 0)]) : Int) - (1 : Int)))
 have c6 := @instrMay_ok ((6 : Int)) ((0 : Int)) ((0 : Int)) ((0 : Int)) (false) ((0 : Int)) ((0 : Int)) ((0 : Int)) ((0 : Int))
 have c7 := @within64_ok ((0 : Int)) ((-1099511627776 : Int)) ((1099511627776 : Int))
 have c8 := @within64_ok ((0 : Int)) ((-1099511627776 : Int)) ((1099511627776 : Int))
 have c9 := @within64_ok ((0 : Int)) ((-1099511627776 : Int)) ((1099511627776 : Int))
 have c10 := @within64_ok ((0 : Int)) ((-1099511627776 : Int)) ((1099511627776 : Int))
 have c11 := @l_take_ok ((0 : Int)) (dst)
 have c12 := @l_num_ok ((15 : Int)) ((64 : Int)) ((0 : Int)) (imm)
 have c13 := @l_steps_ok ([(irD 1 0 0 0 0 0 0 0 0 dst 0 0 0), (irD 0 15 64 0 0 0 0 imm 0 0 0 0 0)])
 have c14 := @l_take_ok ((1 : Int)) (src)
 have c15 := @l_two_ok ((8 : Int)) ((64 : Int)) ((0 : Int)) ((1 : Int))
 have c16 := @l_steps_ok ([(irD 1 0 0 0 0 0 0 0 0 dst 0 0 0), (irD 1 0 0 0 0 0 0 0 0 src 1 0 0), (irD 0 8 64 0 1 0 0 0 0 0 0 0 0)])
 have c17 := @tocc_in_ok ((10 : Int)) (by first | rfl | decide) (by first | rfl | decide)
 have c18 := @l_goes_ok ((1 : Int))
 have c19 := @l_steps_ok ([(irD 6 0 0 0 0 0 0 0 0 0 0 0 0)])
 exact (Ret.of_eval (d := .tup [.lst (.fresh 1) 1 [.lst .no 13 [(irD 1 0 0 0 0 0 0 0 0 dst 0 0 0), (irD 1 0 0 0 0 0 0 0 0 src 1 0 0), (irD 0 8 64 0 1 0 0 0 0 0 0 0 0), (irD 4 29 0 0 0 0 0 0 5 0 0 0 1), (irD 5 0 0 0 0 0 0 0 0 0 0 0 1)], .lst .no 13 [(irD 6 0 0 0 0 0 0 0 0 0 0 0 0)]], .int .i64 0]) mixed Tryz.func43 (by kernel_rfl) ([.inl, .inl, .ret _ _ _ c0, tF, .ret _ _ _ c1, tF, .go 64, tT, tT, .get ([(instD 3 10 0 0 true dst src 0 imm), (instD 6 0 0 0 false 0 0 0 0)]) 0 ((instD 3 10 0 0 true dst src 0 imm)) rfl, .ret _ _ _ c2, tC (nt hm), .inl, tF, tF, tF] ++ [tF, tT, tT, .ret _ _ _ c3, tT, tF, tT, tT, tT, .ret _ _ _ c4, tT, tF, tF, tT, tT, tT] ++ [.ret _ _ _ c5, tT, tT, tF, tT, tT, .get ([(instD 3 10 0 0 true dst src 0 imm), (instD 6 0 0 0 false 0 0 0 0)]) 1 ((instD 6 0 0 0 false 0 0 0 0)) rfl, .ret _ _ _ c6, tF, .inl, tT, tT, tT, tT, tF, tF] ++ [tF, tT, tF, tF, tF, tF, tT, tT, tF, tF, tF, tF, tF, tF, tF, tT] ++ [.get ([(instD 3 10 0 0 true dst src 0 imm), (instD 6 0 0 0 false 0 0 0 0)]) 1 ((instD 6 0 0 0 false 0 0 0 0)) rfl, tT, tT, tT, tF, tF, .go 64, tT, tT, .get ([(instD 3 10 0 0 true dst src 0 imm), (instD 6 0 0 0 false 0 0 0 0)]) 0 ((instD 3 10 0 0 true dst src 0 imm)) rfl, tT, tT, .inl, tF, tF, tF] ++ [tF, tT, tT, .ret _ _ _ c7, tT, tF, tT, tT, tT, .ret _ _ _ c8, tT, tF, tF, tT, tT, tT] ++ [.get ([(instD 3 10 0 0 true dst src 0 imm), (instD 6 0 0 0 false 0 0 0 0)]) 1 ((instD 6 0 0 0 false 0 0 0 0)) rfl, tF, tF, tT, .inl, tT, tT, tT, tT, tF, tF, tF, tT, tF, tF, tF] ++ [tF, tT, tT, tF, tF, tT, .go 64, tT, .mget ([((0 : Int), .bool true), ((1 : Int), .bool true), ((2 : Int), .bool true)]) ((0 : Int)) (some (.bool true)) rfl, tT, .go 0, .len ((1 : Nat)) ((2147483648 : Nat)) (by first | decide | omega | (simp; omega)), tT, .putA ([.int .i64 0, .int .i64 0]) 0 ([.int .i64 (IntKind.wrap IntKind.i64 ((↑(List.length [D.agg [.int .i64 0, .int .i64 0, .lst .tight 0 []]]) : Int) - (1 : Int)))]) ([.int .i64 (IntKind.wrap IntKind.i64 ((↑(List.length [D.agg [.int .i64 0, .int .i64 0, .lst .tight 0 []]]) : Int) - (1 : Int))), .int .i64 0]) ⟨rfl, by first | decide | simp⟩, tT, .get ([.int .i64 0, .int .i64 0]) 0 (.int .i64 0) rfl] ++ [tT, .putA ([.int .i64 0, .int .i64 0, .lst .tight 0 []]) 1 ([.int .i64 1]) ([.int .i64 0, .int .i64 1, .lst .tight 0 []]) ⟨rfl, by first | decide | simp⟩, tT, .mget ([((0 : Int), .bool true), ((1 : Int), .bool true), ((2 : Int), .bool true)]) ((1 : Int)) (some (.bool true)) rfl, tT, .len ((2 : Nat)) ((2147483648 : Nat)) (by first | decide | omega | (simp; omega)), tT, .putA ([.int .i64 0, .int .i64 0]) 1 ([.int .i64 (IntKind.wrap IntKind.i64 ((↑(List.length [D.agg [.int .i64 0, .int .i64 0, .lst .tight 0 []]] + List.length [D.agg [.int .i64 1, .int .i64 0, .lst .tight 0 []]]) : Int) - (1 : Int)))]) ([.int .i64 0, .int .i64 (IntKind.wrap IntKind.i64 ((↑(List.length [D.agg [.int .i64 0, .int .i64 0, .lst .tight 0 []]] + List.length [D.agg [.int .i64 1, .int .i64 0, .lst .tight 0 []]]) : Int) - (1 : Int)))]) ⟨rfl, by first | decide | simp⟩, tT, .get ([.int .i64 0, .int .i64 1]) 1 (.int .i64 1) rfl, tT, .putA ([.int .i64 0, .int .i64 1, .lst .tight 0 [], .int .i64 1, .int .i64 0, .lst .tight 0 []]) 4 ([.int .i64 2]) ([.int .i64 0, .int .i64 1, .lst .tight 0 [], .int .i64 1, .int .i64 2, .lst .tight 0 []]) ⟨rfl, by first | decide | simp⟩, tF, .go 64, tT, tT] ++ [.get ([.int .i64 0, .int .i64 1, .lst .tight 0 [], .int .i64 1, .int .i64 2, .lst .tight 0 []]) 1 (.int .i64 1) rfl, tT, .get ([(instD 3 10 0 0 true dst src 0 imm), (instD 6 0 0 0 false 0 0 0 0)]) 0 ((instD 3 10 0 0 true dst src 0 imm)) rfl, .inl, tF, tF, tF, tF, tT, tT, .ret _ _ _ c9, tT, tF, tT, tT, tT] ++ [.ret _ _ _ c10, tT, tF, tF, tT, tT, .get ([.int .i64 0, .int .i64 1, .lst .tight 0 [], .int .i64 1, .int .i64 2, .lst .tight 0 []]) 2 (.lst .tight 0 []) rfl, tT, .get ([.int .i64 0, .int .i64 1]) 1 (.int .i64 1) rfl, .len ((1 : Nat)) ((2147483648 : Nat)) (by first | decide | omega | (simp; omega)), tT, .putA ([.int .i64 0, .int .i64 1, .lst .tight 0 [], .int .i64 1, .int .i64 2, .lst .tight 0 []]) 2 ([.lst (Own.tok (27 : Nat) (0 : Nat)) (1 : Nat) [.int .i64 1]]) ([.int .i64 0, .int .i64 1, .lst (Own.tok (27 : Nat) (0 : Nat)) (1 : Nat) [.int .i64 1], .int .i64 1, .int .i64 2, .lst .tight 0 []]) ⟨rfl, by first | decide | simp⟩, tT, .get ([(instD 3 10 0 0 true dst src 0 imm), (instD 6 0 0 0 false 0 0 0 0)]) 0 ((instD 3 10 0 0 true dst src 0 imm)) rfl, tT, tT] ++ [tT, tT, tT, .get ([.int .i64 0, .int .i64 1, .lst (Own.tok (27 : Nat) (0 : Nat)) (1 : Nat) [.int .i64 1], .int .i64 1, .int .i64 2, .lst .tight 0 []]) 2 (.lst (Own.tok (27 : Nat) (0 : Nat)) (1 : Nat) [.int .i64 1]) rfl, .len ((2 : Nat)) ((2147483648 : Nat)) (by first | decide | omega | (simp; omega)), tT, .putA ([.int .i64 0, .int .i64 1, .lst (Own.tok (27 : Nat) (0 : Nat)) (1 : Nat) [.int .i64 1], .int .i64 1, .int .i64 2, .lst .tight 0 []]) 2 ([.lst (Own.tok (27 : Nat) (1 : Nat)) (1 : Nat) [.int .i64 1, .int .i64 1]]) ([.int .i64 0, .int .i64 1, .lst (Own.tok (27 : Nat) (1 : Nat)) (1 : Nat) [.int .i64 1, .int .i64 1], .int .i64 1, .int .i64 2, .lst .tight 0 []]) ⟨rfl, by first | decide | simp⟩, tT, tT, .get ([.int .i64 0, .int .i64 1, .lst (Own.tok (27 : Nat) (1 : Nat)) (1 : Nat) [.int .i64 1, .int .i64 1], .int .i64 1, .int .i64 2, .lst .tight 0 []]) 4 (.int .i64 2) rfl, tT, .get ([(instD 3 10 0 0 true dst src 0 imm), (instD 6 0 0 0 false 0 0 0 0)]) 1 ((instD 6 0 0 0 false 0 0 0 0)) rfl, .inl, tT, tT, tT] ++ [tT, tF, tF, tF, tT, tF, tF, tF, tF, tT, tT, tF, tT, .get ([(instD 3 10 0 0 true dst src 0 imm), (instD 6 0 0 0 false 0 0 0 0)]) 1 ((instD 6 0 0 0 false 0 0 0 0)) rfl, tT, tT] ++ [tT, tF, tF, tF, .go 64, tT, tT, .get ([.int .i64 0, .int .i64 1, .lst (Own.tok (27 : Nat) (1 : Nat)) (1 : Nat) [.int .i64 1, .int .i64 1], .int .i64 1, .int .i64 2, .lst .tight 0 []]) 2 (.lst (Own.tok (27 : Nat) (1 : Nat)) (1 : Nat) [.int .i64 1, .int .i64 1]) rfl, tT, .get ([.int .i64 0, .int .i64 1, .lst (Own.tok (27 : Nat) (1 : Nat)) (1 : Nat) [.int .i64 1, .int .i64 1], .int .i64 1, .int .i64 2, .lst .tight 0 []]) 0 (.int .i64 0) rfl, tT, .get ([.int .i64 0, .int .i64 1, .lst (Own.tok (27 : Nat) (1 : Nat)) (1 : Nat) [.int .i64 1, .int .i64 1], .int .i64 1, .int .i64 2, .lst .tight 0 []]) 1 (.int .i64 1) rfl, tT, .go 64, tT, tT] ++ [.get ([(instD 3 10 0 0 true dst src 0 imm)]) 0 ((instD 3 10 0 0 true dst src 0 imm)) rfl, tT, .inl, tT, .ret _ _ _ c11, .ret _ _ _ c12, .ret _ _ _ c13, tT, .get ([(irD 1 0 0 0 0 0 0 0 0 dst 0 0 0), (irD 0 15 64 0 0 0 0 imm 0 0 0 0 0)]) 0 ((irD 1 0 0 0 0 0 0 0 0 dst 0 0 0)) rfl, .ret _ _ _ c14, .ret _ _ _ c15, .ret _ _ _ c16, .ret _ _ _ c17, .get ([.int .i64 1, .int .i64 1]) 0 (.int .i64 1) rfl, .get ([.int .i64 1, .int .i64 1]) 1 (.int .i64 1) rfl, .ret _ _ _ c18] ++ [.len ((5 : Nat)) ((2147483648 : Nat)) (by first | decide | omega | (simp; omega)), .len ((5 : Nat)) ((2147483648 : Nat)) (by first | decide | omega | (simp; omega)), tF, tT, .get ([.int .i64 0, .int .i64 1, .lst (Own.tok (27 : Nat) (1 : Nat)) (1 : Nat) [.int .i64 1, .int .i64 1], .int .i64 1, .int .i64 2, .lst .tight 0 []]) 1 (.int .i64 1) rfl, tT, .get ([(instD 3 10 0 0 true dst src 0 imm), (instD 6 0 0 0 false 0 0 0 0)]) 0 ((instD 3 10 0 0 true dst src 0 imm)) rfl, tF, tF, tF, tF, tF, tF, tF, .len ((1 : Nat)) ((2147483648 : Nat)) (by first | decide | omega | (simp; omega)), tT] ++ [tT, .get ([.int .i64 0, .int .i64 1, .lst (Own.tok (27 : Nat) (1 : Nat)) (1 : Nat) [.int .i64 1, .int .i64 1], .int .i64 1, .int .i64 2, .lst .tight 0 []]) 5 (.lst .tight 0 []) rfl, tT, .get ([.int .i64 0, .int .i64 1, .lst (Own.tok (27 : Nat) (1 : Nat)) (1 : Nat) [.int .i64 1, .int .i64 1], .int .i64 1, .int .i64 2, .lst .tight 0 []]) 3 (.int .i64 1) rfl, tT, .get ([.int .i64 0, .int .i64 1, .lst (Own.tok (27 : Nat) (1 : Nat)) (1 : Nat) [.int .i64 1, .int .i64 1], .int .i64 1, .int .i64 2, .lst .tight 0 []]) 4 (.int .i64 2) rfl, tT, .go 64, tT, tT, .get ([(instD 6 0 0 0 false 0 0 0 0)]) 0 ((instD 6 0 0 0 false 0 0 0 0)) rfl, tF, tF, .inl, tT, .get ([D.fn (Fn.func 138) [] [], D.fn (Fn.func 139) [] [], D.fn (Fn.func 140) [] [], D.nilf, D.nilf, D.fn (Fn.func 141) [] [], D.fn (Fn.func 142) [] []]) 6 (D.fn (Fn.func 142) [] []) rfl] ++ [tT, .inl, .ret _ _ _ c19, .len ((1 : Nat)) ((2147483648 : Nat)) (by first | decide | omega | (simp; omega)), tF, tT, .get ([.int .i64 0, .int .i64 1, .lst (Own.tok (27 : Nat) (1 : Nat)) (1 : Nat) [.int .i64 1, .int .i64 1], .int .i64 1, .int .i64 2, .lst .tight 0 []]) 4 (.int .i64 2) rfl, tT, .get ([(instD 3 10 0 0 true dst src 0 imm), (instD 6 0 0 0 false 0 0 0 0)]) 1 ((instD 6 0 0 0 false 0 0 0 0)) rfl, tT, tT, tT, tT, tT, tT, tF] ++ [.len ((2 : Nat)) ((2147483648 : Nat)) (by first | decide | omega | (simp; omega)), tF]) (by kernel_rfl)).to (by first | (simp [wk, wkL, wkO]; done) | (simp [wk, wkL, wkO, toccM]; done) | exact ⟨⟨rfl, .inl rfl, trivial, .inr rfl⟩, rfl, trivial⟩)
theorem jrun_cmp_false_ok (op : Int) (o0 : 0 ≤ op) (o1 : op ≤ 10) (hs : (op == 10) = false) (dst src imm : Int) (hm : mayM 3 op 0 0 false dst src 0 imm = true) (hx : mayM 6 0 0 0 false 0 0 0 0 = true) : Ret Tryz.prog 43 ([.agg [.int .i64 0, .lst .no 9 [instD 3 op 0 0 false dst src 0 imm, instD 6 0 0 0 false 0 0 0 0]]]) (.tup [.lst .no 1 [.lst .no 13 [takeD 0 dst, num 14 64 0 imm, irD 4 29 0 0 0 0 0 0 (toccM op).1 0 0 0 1, irD 5 0 0 0 0 0 0 0 0 0 0 0 1], .lst .no 13 [irD 6 0 0 0 0 0 0 0 0 0 0 0 0]], .int .i64 0]) := by
 have c0 := @within64_ok ((0 : Int)) ((0 : Int)) ((256 : Int))
 have c1 := @within64_ok (IntKind.wrap IntKind.i64 ((↑(List.length [(instD 3 op 0 0 false dst src 0 imm), (instD 6 0 0 0 false 0 0 0 0)]) : Int) - (1 : Int))) ((0 : Int)) ((63 : Int))
 have c2 := @instrMay_ok ((3 : Int)) (op) ((0 : Int)) ((0 : Int)) (false) (dst) (src) ((0 : Int)) (imm)
 have c3 := @within64_ok ((0 : Int)) ((-1099511627776 : Int)) ((1099511627776 : Int))
 have c4 := @within64_ok ((0 : Int)) ((-1099511627776 : Int)) ((1099511627776 : Int))
 have c5 := @within64_ok ((1 : Int)) ((0 : Int)) (IntKind.wrap IntKind.i64 ((↑(List.length [(instD 3 op 0 0 false dst src 0 imm), (instD 6 0 0 0 false 0 0 0 0)]) : Int) - (1 : Int)))
 have c6 := @instrMay_ok ((6 : Int)) ((0 : Int)) ((0 : Int)) ((0 : Int)) (false) ((0 : Int)) ((0 : Int)) ((0 : Int)) ((0 : Int))
 have c7 := @within64_ok ((0 : Int)) ((-1099511627776 : Int)) ((1099511627776 : Int))
 have c8 := @within64_ok ((0 : Int)) ((-1099511627776 : Int)) ((1099511627776 : Int))
 have c9 := @within64_ok ((0 : Int)) ((-1099511627776 : Int)) ((1099511627776 : Int))
 have c10 := @within64_ok ((0 : Int)) ((-1099511627776 : Int)) ((1099511627776 : Int))
 have c11 := @l_take_ok ((0 : Int)) (dst)
 have c12 := @l_num_ok ((14 : Int)) ((64 : Int)) ((0 : Int)) (imm)
 have c13 := @l_steps_ok ([(irD 1 0 0 0 0 0 0 0 0 dst 0 0 0), (irD 0 14 64 0 0 0 0 imm 0 0 0 0 0)])
 have c14 := @tocc_in_ok (op) o0 o1
 have c15 := @l_goes_ok ((1 : Int))
 have c16 := @l_steps_ok ([(irD 6 0 0 0 0 0 0 0 0 0 0 0 0)])
 exact (Ret.of_eval (d := .tup [.lst (.fresh 1) 1 [.lst .no 13 [(irD 1 0 0 0 0 0 0 0 0 dst 0 0 0), (irD 0 14 64 0 0 0 0 imm 0 0 0 0 0), (irD 4 29 0 0 0 0 0 0 (Prod.fst (toccM op)) 0 0 0 1), (irD 5 0 0 0 0 0 0 0 0 0 0 0 1)], .lst .no 13 [(irD 6 0 0 0 0 0 0 0 0 0 0 0 0)]], .int .i64 0]) mixed Tryz.func43 (by kernel_rfl) ([.inl, .inl, .ret _ _ _ c0, tF, .ret _ _ _ c1, tF, .go 64, tT, tT, .get ([(instD 3 op 0 0 false dst src 0 imm), (instD 6 0 0 0 false 0 0 0 0)]) 0 ((instD 3 op 0 0 false dst src 0 imm)) rfl, .ret _ _ _ c2, tC (nt hm), .inl, tF, tF, tF] ++ [tF, tT, tT, .ret _ _ _ c3, tT, tF, tT, tT, tT, .ret _ _ _ c4, tT, tF, tF, tT, tT, tT] ++ [.ret _ _ _ c5, tT, tT, tF, tT, tT, .get ([(instD 3 op 0 0 false dst src 0 imm), (instD 6 0 0 0 false 0 0 0 0)]) 1 ((instD 6 0 0 0 false 0 0 0 0)) rfl, .ret _ _ _ c6, tF, .inl, tT, tT, tT, tT, tF, tF] ++ [tF, tT, tF, tF, tF, tF, tT, tT, tF, tF, tF, tF, tF, tF, tF, tT] ++ [.get ([(instD 3 op 0 0 false dst src 0 imm), (instD 6 0 0 0 false 0 0 0 0)]) 1 ((instD 6 0 0 0 false 0 0 0 0)) rfl, tT, tT, tT, tF, tF, .go 64, tT, tT, .get ([(instD 3 op 0 0 false dst src 0 imm), (instD 6 0 0 0 false 0 0 0 0)]) 0 ((instD 3 op 0 0 false dst src 0 imm)) rfl, tT, tT, .inl, tF, tF, tF] ++ [tF, tT, tT, .ret _ _ _ c7, tT, tF, tT, tT, tT, .ret _ _ _ c8, tT, tF, tF, tT, tT, tT] ++ [.get ([(instD 3 op 0 0 false dst src 0 imm), (instD 6 0 0 0 false 0 0 0 0)]) 1 ((instD 6 0 0 0 false 0 0 0 0)) rfl, tF, tF, tT, .inl, tT, tT, tT, tT, tF, tF, tF, tT, tF, tF, tF] ++ [tF, tT, tT, tF, tF, tT, .go 64, tT, .mget ([((0 : Int), .bool true), ((1 : Int), .bool true), ((2 : Int), .bool true)]) ((0 : Int)) (some (.bool true)) rfl, tT, .go 0, .len ((1 : Nat)) ((2147483648 : Nat)) (by first | decide | omega | (simp; omega)), tT, .putA ([.int .i64 0, .int .i64 0]) 0 ([.int .i64 (IntKind.wrap IntKind.i64 ((↑(List.length [D.agg [.int .i64 0, .int .i64 0, .lst .tight 0 []]]) : Int) - (1 : Int)))]) ([.int .i64 (IntKind.wrap IntKind.i64 ((↑(List.length [D.agg [.int .i64 0, .int .i64 0, .lst .tight 0 []]]) : Int) - (1 : Int))), .int .i64 0]) ⟨rfl, by first | decide | simp⟩, tT, .get ([.int .i64 0, .int .i64 0]) 0 (.int .i64 0) rfl] ++ [tT, .putA ([.int .i64 0, .int .i64 0, .lst .tight 0 []]) 1 ([.int .i64 1]) ([.int .i64 0, .int .i64 1, .lst .tight 0 []]) ⟨rfl, by first | decide | simp⟩, tT, .mget ([((0 : Int), .bool true), ((1 : Int), .bool true), ((2 : Int), .bool true)]) ((1 : Int)) (some (.bool true)) rfl, tT, .len ((2 : Nat)) ((2147483648 : Nat)) (by first | decide | omega | (simp; omega)), tT, .putA ([.int .i64 0, .int .i64 0]) 1 ([.int .i64 (IntKind.wrap IntKind.i64 ((↑(List.length [D.agg [.int .i64 0, .int .i64 0, .lst .tight 0 []]] + List.length [D.agg [.int .i64 1, .int .i64 0, .lst .tight 0 []]]) : Int) - (1 : Int)))]) ([.int .i64 0, .int .i64 (IntKind.wrap IntKind.i64 ((↑(List.length [D.agg [.int .i64 0, .int .i64 0, .lst .tight 0 []]] + List.length [D.agg [.int .i64 1, .int .i64 0, .lst .tight 0 []]]) : Int) - (1 : Int)))]) ⟨rfl, by first | decide | simp⟩, tT, .get ([.int .i64 0, .int .i64 1]) 1 (.int .i64 1) rfl, tT, .putA ([.int .i64 0, .int .i64 1, .lst .tight 0 [], .int .i64 1, .int .i64 0, .lst .tight 0 []]) 4 ([.int .i64 2]) ([.int .i64 0, .int .i64 1, .lst .tight 0 [], .int .i64 1, .int .i64 2, .lst .tight 0 []]) ⟨rfl, by first | decide | simp⟩, tF, .go 64, tT, tT] ++ [.get ([.int .i64 0, .int .i64 1, .lst .tight 0 [], .int .i64 1, .int .i64 2, .lst .tight 0 []]) 1 (.int .i64 1) rfl, tT, .get ([(instD 3 op 0 0 false dst src 0 imm), (instD 6 0 0 0 false 0 0 0 0)]) 0 ((instD 3 op 0 0 false dst src 0 imm)) rfl, .inl, tF, tF, tF, tF, tT, tT, .ret _ _ _ c9, tT, tF, tT, tT, tT] ++ [.ret _ _ _ c10, tT, tF, tF, tT, tT, .get ([.int .i64 0, .int .i64 1, .lst .tight 0 [], .int .i64 1, .int .i64 2, .lst .tight 0 []]) 2 (.lst .tight 0 []) rfl, tT, .get ([.int .i64 0, .int .i64 1]) 1 (.int .i64 1) rfl, .len ((1 : Nat)) ((2147483648 : Nat)) (by first | decide | omega | (simp; omega)), tT, .putA ([.int .i64 0, .int .i64 1, .lst .tight 0 [], .int .i64 1, .int .i64 2, .lst .tight 0 []]) 2 ([.lst (Own.tok (27 : Nat) (0 : Nat)) (1 : Nat) [.int .i64 1]]) ([.int .i64 0, .int .i64 1, .lst (Own.tok (27 : Nat) (0 : Nat)) (1 : Nat) [.int .i64 1], .int .i64 1, .int .i64 2, .lst .tight 0 []]) ⟨rfl, by first | decide | simp⟩, tT, .get ([(instD 3 op 0 0 false dst src 0 imm), (instD 6 0 0 0 false 0 0 0 0)]) 0 ((instD 3 op 0 0 false dst src 0 imm)) rfl, tT, tT] ++ [tT, tT, tT, .get ([.int .i64 0, .int .i64 1, .lst (Own.tok (27 : Nat) (0 : Nat)) (1 : Nat) [.int .i64 1], .int .i64 1, .int .i64 2, .lst .tight 0 []]) 2 (.lst (Own.tok (27 : Nat) (0 : Nat)) (1 : Nat) [.int .i64 1]) rfl, .len ((2 : Nat)) ((2147483648 : Nat)) (by first | decide | omega | (simp; omega)), tT, .putA ([.int .i64 0, .int .i64 1, .lst (Own.tok (27 : Nat) (0 : Nat)) (1 : Nat) [.int .i64 1], .int .i64 1, .int .i64 2, .lst .tight 0 []]) 2 ([.lst (Own.tok (27 : Nat) (1 : Nat)) (1 : Nat) [.int .i64 1, .int .i64 1]]) ([.int .i64 0, .int .i64 1, .lst (Own.tok (27 : Nat) (1 : Nat)) (1 : Nat) [.int .i64 1, .int .i64 1], .int .i64 1, .int .i64 2, .lst .tight 0 []]) ⟨rfl, by first | decide | simp⟩, tT, tT, .get ([.int .i64 0, .int .i64 1, .lst (Own.tok (27 : Nat) (1 : Nat)) (1 : Nat) [.int .i64 1, .int .i64 1], .int .i64 1, .int .i64 2, .lst .tight 0 []]) 4 (.int .i64 2) rfl, tT, .get ([(instD 3 op 0 0 false dst src 0 imm), (instD 6 0 0 0 false 0 0 0 0)]) 1 ((instD 6 0 0 0 false 0 0 0 0)) rfl, .inl, tT, tT, tT] ++ [tT, tF, tF, tF, tT, tF, tF, tF, tF, tT, tT, tF, tT, .get ([(instD 3 op 0 0 false dst src 0 imm), (instD 6 0 0 0 false 0 0 0 0)]) 1 ((instD 6 0 0 0 false 0 0 0 0)) rfl, tT, tT] ++ [tT, tF, tF, tF, .go 64, tT, tT, .get ([.int .i64 0, .int .i64 1, .lst (Own.tok (27 : Nat) (1 : Nat)) (1 : Nat) [.int .i64 1, .int .i64 1], .int .i64 1, .int .i64 2, .lst .tight 0 []]) 2 (.lst (Own.tok (27 : Nat) (1 : Nat)) (1 : Nat) [.int .i64 1, .int .i64 1]) rfl, tT, .get ([.int .i64 0, .int .i64 1, .lst (Own.tok (27 : Nat) (1 : Nat)) (1 : Nat) [.int .i64 1, .int .i64 1], .int .i64 1, .int .i64 2, .lst .tight 0 []]) 0 (.int .i64 0) rfl, tT, .get ([.int .i64 0, .int .i64 1, .lst (Own.tok (27 : Nat) (1 : Nat)) (1 : Nat) [.int .i64 1, .int .i64 1], .int .i64 1, .int .i64 2, .lst .tight 0 []]) 1 (.int .i64 1) rfl, tT, .go 64, tT, tT] ++ [.get ([(instD 3 op 0 0 false dst src 0 imm)]) 0 ((instD 3 op 0 0 false dst src 0 imm)) rfl, tT, .inl, tC hs, .ret _ _ _ c11, .ret _ _ _ c12, .ret _ _ _ c13, tF, .ret _ _ _ c14, .get ([.int .i64 1, .int .i64 1]) 0 (.int .i64 1) rfl, .get ([.int .i64 1, .int .i64 1]) 1 (.int .i64 1) rfl, .ret _ _ _ c15, .len ((4 : Nat)) ((2147483648 : Nat)) (by first | decide | omega | (simp; omega)), .len ((4 : Nat)) ((2147483648 : Nat)) (by first | decide | omega | (simp; omega)), tF, tT] ++ [.get ([.int .i64 0, .int .i64 1, .lst (Own.tok (27 : Nat) (1 : Nat)) (1 : Nat) [.int .i64 1, .int .i64 1], .int .i64 1, .int .i64 2, .lst .tight 0 []]) 1 (.int .i64 1) rfl, tT, .get ([(instD 3 op 0 0 false dst src 0 imm), (instD 6 0 0 0 false 0 0 0 0)]) 0 ((instD 3 op 0 0 false dst src 0 imm)) rfl, tF, tF, tF, tF, tF, tF, tF, .len ((1 : Nat)) ((2147483648 : Nat)) (by first | decide | omega | (simp; omega)), tT, tT, .get ([.int .i64 0, .int .i64 1, .lst (Own.tok (27 : Nat) (1 : Nat)) (1 : Nat) [.int .i64 1, .int .i64 1], .int .i64 1, .int .i64 2, .lst .tight 0 []]) 5 (.lst .tight 0 []) rfl, tT, .get ([.int .i64 0, .int .i64 1, .lst (Own.tok (27 : Nat) (1 : Nat)) (1 : Nat) [.int .i64 1, .int .i64 1], .int .i64 1, .int .i64 2, .lst .tight 0 []]) 3 (.int .i64 1) rfl] ++ [tT, .get ([.int .i64 0, .int .i64 1, .lst (Own.tok (27 : Nat) (1 : Nat)) (1 : Nat) [.int .i64 1, .int .i64 1], .int .i64 1, .int .i64 2, .lst .tight 0 []]) 4 (.int .i64 2) rfl, tT, .go 64, tT, tT, .get ([(instD 6 0 0 0 false 0 0 0 0)]) 0 ((instD 6 0 0 0 false 0 0 0 0)) rfl, tF, tF, .inl, tT, .get ([D.fn (Fn.func 138) [] [], D.fn (Fn.func 139) [] [], D.fn (Fn.func 140) [] [], D.nilf, D.nilf, D.fn (Fn.func 141) [] [], D.fn (Fn.func 142) [] []]) 6 (D.fn (Fn.func 142) [] []) rfl, tT, .inl, .ret _ _ _ c16, .len ((1 : Nat)) ((2147483648 : Nat)) (by first | decide | omega | (simp; omega))] ++ [tF, tT, .get ([.int .i64 0, .int .i64 1, .lst (Own.tok (27 : Nat) (1 : Nat)) (1 : Nat) [.int .i64 1, .int .i64 1], .int .i64 1, .int .i64 2, .lst .tight 0 []]) 4 (.int .i64 2) rfl, tT, .get ([(instD 3 op 0 0 false dst src 0 imm), (instD 6 0 0 0 false 0 0 0 0)]) 1 ((instD 6 0 0 0 false 0 0 0 0)) rfl, tT, tT, tT, tT, tT, tT, tF, .len ((2 : Nat)) ((2147483648 : Nat)) (by first | decide | omega | (simp; omega)), tF]) (by kernel_rfl)).to (by first | (simp [wk, wkL, wkO]; done) | (simp [wk, wkL, wkO, toccM]; done) | exact ⟨⟨rfl, .inl rfl, trivial, .inr rfl⟩, rfl, trivial⟩)
theorem jrun_set_false_ok (dst src imm : Int) (hm : mayM 3 10 0 0 false dst src 0 imm = true) (hx : mayM 6 0 0 0 false 0 0 0 0 = true) : Ret Tryz.prog 43 ([.agg [.int .i64 0, .lst .no 9 [instD 3 10 0 0 false dst src 0 imm, instD 6 0 0 0 false 0 0 0 0]]]) (.tup [.lst .no 1 [.lst .no 13 [takeD 0 dst, num 15 64 0 imm, irD 4 29 0 0 0 0 0 0 (toccM 10).1 0 0 0 1, irD 5 0 0 0 0 0 0 0 0 0 0 0 1], .lst .no 13 [irD 6 0 0 0 0 0 0 0 0 0 0 0 0]], .int .i64 0]) := by
 have c0 := @within64_ok ((0 : Int)) ((0 : Int)) ((256 : Int))
 have c1 := @within64_ok (IntKind.wrap IntKind.i64 ((↑(List.length [(instD 3 10 0 0 false dst src 0 imm), (instD 6 0 0 0 false 0 0 0 0)]) : Int) - (1 : Int))) ((0 : Int)) ((63 : Int))
 have c2 := @instrMay_ok ((3 : Int)) ((10 : Int)) ((0 : Int)) ((0 : Int)) (false) (dst) (src) ((0 : Int)) (imm)
 have c3 := @within64_ok ((0 : Int)) ((-1099511627776 : Int)) ((1099511627776 : Int))
 have c4 := @within64_ok ((0 : Int)) ((-1099511627776 : Int)) ((1099511627776 : Int))
 have c5 := @within64_ok ((1 : Int)) ((0 : Int)) (IntKind.wrap IntKind.i64 ((↑(List.length [(instD 3 10 0 0 false dst src 0 imm), (instD 6 0 0 0 false 0 0 0 0)]) : Int) - (1 : Int)))
 have c6 := @instrMay_ok ((6 : Int)) ((0 : Int)) ((0 : Int)) ((0 : Int)) (false) ((0 : Int)) ((0 : Int)) ((0 : Int)) ((0 : Int))
 have c7 := @within64_ok ((0 : Int)) ((-1099511627776 : Int)) ((1099511627776 : Int))
 have c8 := @within64_ok ((0 : Int)) ((-1099511627776 : Int)) ((1099511627776 : Int))
 have c9 := @within64_ok ((0 : Int)) ((-1099511627776 : Int)) ((1099511627776 : Int))
 have c10 := @within64_ok ((0 : Int)) ((-1099511627776 : Int)) ((1099511627776 : Int))
 have c11 := @l_take_ok ((0 : Int)) (dst)
 have c12 := @l_num_ok ((15 : Int)) ((64 : Int)) ((0 : Int)) (imm)
 have c13 := @l_steps_ok ([(irD 1 0 0 0 0 0 0 0 0 dst 0 0 0), (irD 0 15 64 0 0 0 0 imm 0 0 0 0 0)])
 have c14 := @tocc_in_ok ((10 : Int)) (by first | rfl | decide) (by first | rfl | decide)
 have c15 := @l_goes_ok ((1 : Int))
 have c16 := @l_steps_ok ([(irD 6 0 0 0 0 0 0 0 0 0 0 0 0)])
 exact (Ret.of_eval (d := .tup [.lst (.fresh 1) 1 [.lst .no 13 [(irD 1 0 0 0 0 0 0 0 0 dst 0 0 0), (irD 0 15 64 0 0 0 0 imm 0 0 0 0 0), (irD 4 29 0 0 0 0 0 0 5 0 0 0 1), (irD 5 0 0 0 0 0 0 0 0 0 0 0 1)], .lst .no 13 [(irD 6 0 0 0 0 0 0 0 0 0 0 0 0)]], .int .i64 0]) mixed Tryz.func43 (by kernel_rfl) ([.inl, .inl, .ret _ _ _ c0, tF, .ret _ _ _ c1, tF, .go 64, tT, tT, .get ([(instD 3 10 0 0 false dst src 0 imm), (instD 6 0 0 0 false 0 0 0 0)]) 0 ((instD 3 10 0 0 false dst src 0 imm)) rfl, .ret _ _ _ c2, tC (nt hm), .inl, tF, tF, tF] ++ [tF, tT, tT, .ret _ _ _ c3, tT, tF, tT, tT, tT, .ret _ _ _ c4, tT, tF, tF, tT, tT, tT] ++ [.ret _ _ _ c5, tT, tT, tF, tT, tT, .get ([(instD 3 10 0 0 false dst src 0 imm), (instD 6 0 0 0 false 0 0 0 0)]) 1 ((instD 6 0 0 0 false 0 0 0 0)) rfl, .ret _ _ _ c6, tF, .inl, tT, tT, tT, tT, tF, tF] ++ [tF, tT, tF, tF, tF, tF, tT, tT, tF, tF, tF, tF, tF, tF, tF, tT] ++ [.get ([(instD 3 10 0 0 false dst src 0 imm), (instD 6 0 0 0 false 0 0 0 0)]) 1 ((instD 6 0 0 0 false 0 0 0 0)) rfl, tT, tT, tT, tF, tF, .go 64, tT, tT, .get ([(instD 3 10 0 0 false dst src 0 imm), (instD 6 0 0 0 false 0 0 0 0)]) 0 ((instD 3 10 0 0 false dst src 0 imm)) rfl, tT, tT, .inl, tF, tF, tF] ++ [tF, tT, tT, .ret _ _ _ c7, tT, tF, tT, tT, tT, .ret _ _ _ c8, tT, tF, tF, tT, tT, tT] ++ [.get ([(instD 3 10 0 0 false dst src 0 imm), (instD 6 0 0 0 false 0 0 0 0)]) 1 ((instD 6 0 0 0 false 0 0 0 0)) rfl, tF, tF, tT, .inl, tT, tT, tT, tT, tF, tF, tF, tT, tF, tF, tF] ++ [tF, tT, tT, tF, tF, tT, .go 64, tT, .mget ([((0 : Int), .bool true), ((1 : Int), .bool true), ((2 : Int), .bool true)]) ((0 : Int)) (some (.bool true)) rfl, tT, .go 0, .len ((1 : Nat)) ((2147483648 : Nat)) (by first | decide | omega | (simp; omega)), tT, .putA ([.int .i64 0, .int .i64 0]) 0 ([.int .i64 (IntKind.wrap IntKind.i64 ((↑(List.length [D.agg [.int .i64 0, .int .i64 0, .lst .tight 0 []]]) : Int) - (1 : Int)))]) ([.int .i64 (IntKind.wrap IntKind.i64 ((↑(List.length [D.agg [.int .i64 0, .int .i64 0, .lst .tight 0 []]]) : Int) - (1 : Int))), .int .i64 0]) ⟨rfl, by first | decide | simp⟩, tT, .get ([.int .i64 0, .int .i64 0]) 0 (.int .i64 0) rfl] ++ [tT, .putA ([.int .i64 0, .int .i64 0, .lst .tight 0 []]) 1 ([.int .i64 1]) ([.int .i64 0, .int .i64 1, .lst .tight 0 []]) ⟨rfl, by first | decide | simp⟩, tT, .mget ([((0 : Int), .bool true), ((1 : Int), .bool true), ((2 : Int), .bool true)]) ((1 : Int)) (some (.bool true)) rfl, tT, .len ((2 : Nat)) ((2147483648 : Nat)) (by first | decide | omega | (simp; omega)), tT, .putA ([.int .i64 0, .int .i64 0]) 1 ([.int .i64 (IntKind.wrap IntKind.i64 ((↑(List.length [D.agg [.int .i64 0, .int .i64 0, .lst .tight 0 []]] + List.length [D.agg [.int .i64 1, .int .i64 0, .lst .tight 0 []]]) : Int) - (1 : Int)))]) ([.int .i64 0, .int .i64 (IntKind.wrap IntKind.i64 ((↑(List.length [D.agg [.int .i64 0, .int .i64 0, .lst .tight 0 []]] + List.length [D.agg [.int .i64 1, .int .i64 0, .lst .tight 0 []]]) : Int) - (1 : Int)))]) ⟨rfl, by first | decide | simp⟩, tT, .get ([.int .i64 0, .int .i64 1]) 1 (.int .i64 1) rfl, tT, .putA ([.int .i64 0, .int .i64 1, .lst .tight 0 [], .int .i64 1, .int .i64 0, .lst .tight 0 []]) 4 ([.int .i64 2]) ([.int .i64 0, .int .i64 1, .lst .tight 0 [], .int .i64 1, .int .i64 2, .lst .tight 0 []]) ⟨rfl, by first | decide | simp⟩, tF, .go 64, tT, tT] ++ [.get ([.int .i64 0, .int .i64 1, .lst .tight 0 [], .int .i64 1, .int .i64 2, .lst .tight 0 []]) 1 (.int .i64 1) rfl, tT, .get ([(instD 3 10 0 0 false dst src 0 imm), (instD 6 0 0 0 false 0 0 0 0)]) 0 ((instD 3 10 0 0 false dst src 0 imm)) rfl, .inl, tF, tF, tF, tF, tT, tT, .ret _ _ _ c9, tT, tF, tT, tT, tT] ++ [.ret _ _ _ c10, tT, tF, tF, tT, tT, .get ([.int .i64 0, .int .i64 1, .lst .tight 0 [], .int .i64 1, .int .i64 2, .lst .tight 0 []]) 2 (.lst .tight 0 []) rfl, tT, .get ([.int .i64 0, .int .i64 1]) 1 (.int .i64 1) rfl, .len ((1 : Nat)) ((2147483648 : Nat)) (by first | decide | omega | (simp; omega)), tT, .putA ([.int .i64 0, .int .i64 1, .lst .tight 0 [], .int .i64 1, .int .i64 2, .lst .tight 0 []]) 2 ([.lst (Own.tok (27 : Nat) (0 : Nat)) (1 : Nat) [.int .i64 1]]) ([.int .i64 0, .int .i64 1, .lst (Own.tok (27 : Nat) (0 : Nat)) (1 : Nat) [.int .i64 1], .int .i64 1, .int .i64 2, .lst .tight 0 []]) ⟨rfl, by first | decide | simp⟩, tT, .get ([(instD 3 10 0 0 false dst src 0 imm), (instD 6 0 0 0 false 0 0 0 0)]) 0 ((instD 3 10 0 0 false dst src 0 imm)) rfl, tT, tT] ++ [tT, tT, tT, .get ([.int .i64 0, .int .i64 1, .lst (Own.tok (27 : Nat) (0 : Nat)) (1 : Nat) [.int .i64 1], .int .i64 1, .int .i64 2, .lst .tight 0 []]) 2 (.lst (Own.tok (27 : Nat) (0 : Nat)) (1 : Nat) [.int .i64 1]) rfl, .len ((2 : Nat)) ((2147483648 : Nat)) (by first | decide | omega | (simp; omega)), tT, .putA ([.int .i64 0, .int .i64 1, .lst (Own.tok (27 : Nat) (0 : Nat)) (1 : Nat) [.int .i64 1], .int .i64 1, .int .i64 2, .lst .tight 0 []]) 2 ([.lst (Own.tok (27 : Nat) (1 : Nat)) (1 : Nat) [.int .i64 1, .int .i64 1]]) ([.int .i64 0, .int .i64 1, .lst (Own.tok (27 : Nat) (1 : Nat)) (1 : Nat) [.int .i64 1, .int .i64 1], .int .i64 1, .int .i64 2, .lst .tight 0 []]) ⟨rfl, by first | decide | simp⟩, tT, tT, .get ([.int .i64 0, .int .i64 1, .lst (Own.tok (27 : Nat) (1 : Nat)) (1 : Nat) [.int .i64 1, .int .i64 1], .int .i64 1, .int .i64 2, .lst .tight 0 []]) 4 (.int .i64 2) rfl, tT, .get ([(instD 3 10 0 0 false dst src 0 imm), (instD 6 0 0 0 false 0 0 0 0)]) 1 ((instD 6 0 0 0 false 0 0 0 0)) rfl, .inl, tT, tT, tT] ++ [tT, tF, tF, tF, tT, tF, tF, tF, tF, tT, tT, tF, tT, .get ([(instD 3 10 0 0 false dst src 0 imm), (instD 6 0 0 0 false 0 0 0 0)]) 1 ((instD 6 0 0 0 false 0 0 0 0)) rfl, tT, tT] ++ [tT, tF, tF, tF, .go 64, tT, tT, .get ([.int .i64 0, .int .i64 1, .lst (Own.tok (27 : Nat) (1 : Nat)) (1 : Nat) [.int .i64 1, .int .i64 1], .int .i64 1, .int .i64 2, .lst .tight 0 []]) 2 (.lst (Own.tok (27 : Nat) (1 : Nat)) (1 : Nat) [.int .i64 1, .int .i64 1]) rfl, tT, .get ([.int .i64 0, .int .i64 1, .lst (Own.tok (27 : Nat) (1 : Nat)) (1 : Nat) [.int .i64 1, .int .i64 1], .int .i64 1, .int .i64 2, .lst .tight 0 []]) 0 (.int .i64 0) rfl, tT, .get ([.int .i64 0, .int .i64 1, .lst (Own.tok (27 : Nat) (1 : Nat)) (1 : Nat) [.int .i64 1, .int .i64 1], .int .i64 1, .int .i64 2, .lst .tight 0 []]) 1 (.int .i64 1) rfl, tT, .go 64, tT, tT] ++ [.get ([(instD 3 10 0 0 false dst src 0 imm)]) 0 ((instD 3 10 0 0 false dst src 0 imm)) rfl, tT, .inl, tT, .ret _ _ _ c11, .ret _ _ _ c12, .ret _ _ _ c13, tF, .ret _ _ _ c14, .get ([.int .i64 1, .int .i64 1]) 0 (.int .i64 1) rfl, .get ([.int .i64 1, .int .i64 1]) 1 (.int .i64 1) rfl, .ret _ _ _ c15, .len ((4 : Nat)) ((2147483648 : Nat)) (by first | decide | omega | (simp; omega)), .len ((4 : Nat)) ((2147483648 : Nat)) (by first | decide | omega | (simp; omega)), tF, tT] ++ [.get ([.int .i64 0, .int .i64 1, .lst (Own.tok (27 : Nat) (1 : Nat)) (1 : Nat) [.int .i64 1, .int .i64 1], .int .i64 1, .int .i64 2, .lst .tight 0 []]) 1 (.int .i64 1) rfl, tT, .get ([(instD 3 10 0 0 false dst src 0 imm), (instD 6 0 0 0 false 0 0 0 0)]) 0 ((instD 3 10 0 0 false dst src 0 imm)) rfl, tF, tF, tF, tF, tF, tF, tF, .len ((1 : Nat)) ((2147483648 : Nat)) (by first | decide | omega | (simp; omega)), tT, tT, .get ([.int .i64 0, .int .i64 1, .lst (Own.tok (27 : Nat) (1 : Nat)) (1 : Nat) [.int .i64 1, .int .i64 1], .int .i64 1, .int .i64 2, .lst .tight 0 []]) 5 (.lst .tight 0 []) rfl, tT, .get ([.int .i64 0, .int .i64 1, .lst (Own.tok (27 : Nat) (1 : Nat)) (1 : Nat) [.int .i64 1, .int .i64 1], .int .i64 1, .int .i64 2, .lst .tight 0 []]) 3 (.int .i64 1) rfl] ++ [tT, .get ([.int .i64 0, .int .i64 1, .lst (Own.tok (27 : Nat) (1 : Nat)) (1 : Nat) [.int .i64 1, .int .i64 1], .int .i64 1, .int .i64 2, .lst .tight 0 []]) 4 (.int .i64 2) rfl, tT, .go 64, tT, tT, .get ([(instD 6 0 0 0 false 0 0 0 0)]) 0 ((instD 6 0 0 0 false 0 0 0 0)) rfl, tF, tF, .inl, tT, .get ([D.fn (Fn.func 138) [] [], D.fn (Fn.func 139) [] [], D.fn (Fn.func 140) [] [], D.nilf, D.nilf, D.fn (Fn.func 141) [] [], D.fn (Fn.func 142) [] []]) 6 (D.fn (Fn.func 142) [] []) rfl, tT, .inl, .ret _ _ _ c16, .len ((1 : Nat)) ((2147483648 : Nat)) (by first | decide | omega | (simp; omega))] ++ [tF, tT, .get ([.int .i64 0, .int .i64 1, .lst (Own.tok (27 : Nat) (1 : Nat)) (1 : Nat) [.int .i64 1, .int .i64 1], .int .i64 1, .int .i64 2, .lst .tight 0 []]) 4 (.int .i64 2) rfl, tT, .get ([(instD 3 10 0 0 false dst src 0 imm), (instD 6 0 0 0 false 0 0 0 0)]) 1 ((instD 6 0 0 0 false 0 0 0 0)) rfl, tT, tT, tT, tT, tT, tT, tF, .len ((2 : Nat)) ((2147483648 : Nat)) (by first | decide | omega | (simp; omega)), tF]) (by kernel_rfl)).to (by first | (simp [wk, wkL, wkO]; done) | (simp [wk, wkL, wkO, toccM]; done) | exact ⟨⟨rfl, .inl rfl, trivial, .inr rfl⟩, rfl, trivial⟩)
end Go.Proofs.YtojgmjfcfpclbaaGreat

namespace Go.Ev
open Go
theorem bit_at (v : Int) (i : Nat) : (BitVec.ofInt 64 v).getLsbD i = decide ((v % 18446744073709551616).toNat / 2 ^ i % 2 = 1) := by
 rw [← BitVec.testBit_toNat, toNat_ofInt, Nat.testBit_eq_decide_div_mod_eq]
 rfl
theorem neg32 (v : Int) : negM v 32 = (BitVec.ofInt 64 v).getLsbD 31 := by
 rw [bit_at, show negM v 32 = decide (IntKind.i64.wrap (u64 (IntKind.i32.wrap v)) < 0) from rfl, decide_eq_decide]
 unfold u64
 rw [w_i64, w_u64, w_i32]
 omega
theorem neg64 (v : Int) : negM v 64 = (BitVec.ofInt 64 v).getLsbD 63 := by
 rw [bit_at, show negM v 64 = decide (IntKind.i64.wrap v < 0) from rfl, decide_eq_decide]
 rw [w_i64]
 omega
def topM (v w : Int) : Bool := IntKind.u64.wrap ((BitVec.ofInt 64 (v.fdiv (2 ^ (min (IntKind.i8.wrap (w - 1)).toNat 64))) &&& BitVec.ofInt 64 1).toNat : Int) == 1
theorem and1 (a : Int) : ((BitVec.ofInt 64 a &&& BitVec.ofInt 64 1).toNat : Int) = a % 2 := by have := and_ones 64 1 (by omega) a; exact this
theorem top32 (v : Int) : topM v 32 = (BitVec.ofInt 64 v).getLsbD 31 := by
 have e : topM v 32 = (IntKind.u64.wrap ((BitVec.ofInt 64 (v.fdiv 2147483648) &&& BitVec.ofInt 64 1).toNat : Int) == 1) := rfl
 rw [e, and1, w_u64, Int.fdiv_eq_ediv_of_nonneg _ (by decide), bit_at, Bool.eq_iff_iff, beq_iff_eq, decide_eq_true_eq]
 omega
theorem top64 (v : Int) : topM v 64 = (BitVec.ofInt 64 v).getLsbD 63 := by
 have e : topM v 64 = (IntKind.u64.wrap ((BitVec.ofInt 64 (v.fdiv 9223372036854775808) &&& BitVec.ofInt 64 1).toNat : Int) == 1) := rfl
 rw [e, and1, w_u64, Int.fdiv_eq_ediv_of_nonneg _ (by decide), bit_at, Bool.eq_iff_iff, beq_iff_eq, decide_eq_true_eq]
 omega
theorem ofInt_u64 (n : Int) : BitVec.ofInt 64 (u64 n) = BitVec.ofInt 64 n := by
 apply BitVec.eq_of_toNat_eq
 rw [toNat_ofInt, toNat_ofInt]
 unfold u64
 rw [w_u64, show ((2 ^ 64 : Nat) : Int) = 18446744073709551616 from rfl, Int.emod_emod]
theorem ofInt_toNat (x : BitVec 64) : BitVec.ofInt 64 (x.toNat : Int) = x := by
 apply BitVec.eq_of_toNat_eq
 simp
theorem bit_xor (a b : Int) (i : Nat) : (BitVec.ofInt 64 (xor64 a b)).getLsbD i = ((BitVec.ofInt 64 a).getLsbD i != (BitVec.ofInt 64 b).getLsbD i) := by
 unfold xor64
 rw [ofInt_u64, ofInt_toNat, BitVec.getLsbD_xor]
theorem bit_and (a b : Int) (i : Nat) : (BitVec.ofInt 64 (and64u a b)).getLsbD i = ((BitVec.ofInt 64 a).getLsbD i && (BitVec.ofInt 64 b).getLsbD i) := by
 unfold and64u
 rw [ofInt_u64, ofInt_toNat, BitVec.getLsbD_and]
theorem subO_top {w a b : Int} (hw : longM w = true) : subO w a b = ((topM a w != topM b w) && (topM (u64 (a - b)) w != topM a w)) := by
 unfold subO
 rcases long_cases hw with rfl | rfl
 ·rw [neg32, bit_and, bit_xor, bit_xor, top32, top32, top32]
  cases (BitVec.ofInt 64 a).getLsbD 31 <;> cases (BitVec.ofInt 64 b).getLsbD 31 <;> cases (BitVec.ofInt 64 (u64 (a - b))).getLsbD 31 <;> rfl
 ·rw [neg64, bit_and, bit_xor, bit_xor, top64, top64, top64]
  cases (BitVec.ofInt 64 a).getLsbD 63 <;> cases (BitVec.ofInt 64 b).getLsbD 63 <;> cases (BitVec.ofInt 64 (u64 (a - b))).getLsbD 63 <;> rfl
theorem neg_top {w v : Int} (hw : longM w = true) : negM v w = topM v w := by
 rcases long_cases hw with rfl | rfl
 ·rw [neg32, top32]
 ·rw [neg64, top64]
end Go.Ev

namespace Go.Ev
open Go
structure RgS where
  (r0 r1 r2 r3 r4 r5 r6 r7 r8 r9 r10 : Int)
deriving DecidableEq
def RgS.c (r : RgS) : List D := [.int .u64 r.r0, .int .u64 r.r1, .int .u64 r.r2, .int .u64 r.r3, .int .u64 r.r4, .int .u64 r.r5, .int .u64 r.r6, .int .u64 r.r7, .int .u64 r.r8, .int .u64 r.r9, .int .u64 r.r10]
def RgS.d (r : RgS) : D := .agg r.c
def RgS.l (r : RgS) : List Int := [r.r0, r.r1, r.r2, r.r3, r.r4, r.r5, r.r6, r.r7, r.r8, r.r9, r.r10]
def RgS.get (r : RgS) (i : Int) : Int := rg r.l i
def RgS.put (r : RgS) (i v : Int) : RgS := ⟨st 0 i v r.r0, st 1 i v r.r1, st 2 i v r.r2, st 3 i v r.r3, st 4 i v r.r4, st 5 i v r.r5, st 6 i v r.r6, st 7 i v r.r7, st 8 i v r.r8, st 9 i v r.r9, st 10 i v r.r10⟩
def RgS.zero : RgS := ⟨0, 0, 0, 0, 0, 0, 0, 0, 0, 0, 0⟩
theorem fin11 {i : Int} (h0 : 0 ≤ i) (h1 : i ≤ 10) : i = 0 ∨ i = 1 ∨ i = 2 ∨ i = 3 ∨ i = 4 ∨ i = 5 ∨ i = 6 ∨ i = 7 ∨ i = 8 ∨ i = 9 ∨ i = 10 := by omega
section
variable {r0 r1 r2 r3 r4 r5 r6 r7 r8 r9 r10 i v : Int} {tl : List D}
theorem get_rg (h0 : 0 ≤ i) (h1 : i ≤ 10) : (D.int .u64 r0 :: D.int .u64 r1 :: D.int .u64 r2 :: D.int .u64 r3 :: D.int .u64 r4 :: D.int .u64 r5 :: D.int .u64 r6 :: D.int .u64 r7 :: D.int .u64 r8 :: D.int .u64 r9 :: D.int .u64 r10 :: tl : List D)[0 + i.toNat * 1]? = some (.int .u64 (rg [r0, r1, r2, r3, r4, r5, r6, r7, r8, r9, r10] i)) := by
 rcases fin11 h0 h1 with rfl | rfl | rfl | rfl | rfl | rfl | rfl | rfl | rfl | rfl | rfl <;> rfl
theorem put_rg (h0 : 0 ≤ i) (h1 : i ≤ 10) : PutsA (D.int .u64 r0 :: D.int .u64 r1 :: D.int .u64 r2 :: D.int .u64 r3 :: D.int .u64 r4 :: D.int .u64 r5 :: D.int .u64 r6 :: D.int .u64 r7 :: D.int .u64 r8 :: D.int .u64 r9 :: D.int .u64 r10 :: tl : List D) (0 + i.toNat * 1) [D.int .u64 v] (D.int .u64 (st 0 i v r0) :: D.int .u64 (st 1 i v r1) :: D.int .u64 (st 2 i v r2) :: D.int .u64 (st 3 i v r3) :: D.int .u64 (st 4 i v r4) :: D.int .u64 (st 5 i v r5) :: D.int .u64 (st 6 i v r6) :: D.int .u64 (st 7 i v r7) :: D.int .u64 (st 8 i v r8) :: D.int .u64 (st 9 i v r9) :: D.int .u64 (st 10 i v r10) :: tl) := by
 rcases fin11 h0 h1 with rfl | rfl | rfl | rfl | rfl | rfl | rfl | rfl | rfl | rfl | rfl <;> exact ⟨rfl, by simp⟩
end
theorem sl3 (n : Nat) : decide ((0 : Int) ≤ (n : Int) ∧ (n : Int) ≤ (n : Int) ∧ (n : Int) = (n : Int)) = true := by simp
theorem len_lt1 {x : D} {tl : List D} : decide (((x :: tl).length : Int) < 1) = false := by simp; omega
theorem len_ge1 {x : D} {tl : List D} : decide ((0 : Int) ≤ (1 : Int) ∧ (1 : Int) ≤ ((x :: tl).length : Int)) = true := by simp; omega
def MachS.c (m : MachS) : List D := [.int .u64 m.q0, .int .u64 m.q1, .int .u64 m.q2, .int .u64 m.q3, .int .u64 m.q4, .int .u64 m.q5, .int .u64 m.q6, .int .u64 m.q7, .int .u64 m.q8, .int .u64 m.q9, .int .u64 m.q10, .int .u64 m.q11, .int .u64 m.q12, .int .u64 m.q13, .int .u64 m.q14, .int .u64 m.q15, .bool m.fk, .bool m.fc, .bool m.fz, .bool m.fs, .bool m.fo, .int .u64 m.pc]
def IrS.x (s : IrS) : XS := ⟨s.op, s.w, s.dst, s.src, s.base, s.disp, s.imm, s.cc⟩
def scrM (n : Int) : Bool := decide (n = 0 ∨ n = 1 ∨ n = 2 ∨ n = 11)
theorem scr_bit_all : ∀ n : Fin 128, (bitOf 2055 (n.val : Int) == 1) = scrM (n.val : Int) := by decide +kernel
theorem wk_bool {a b : Bool} (h : a = b) : wk (.bool a) (.bool b) := by subst h; simp [wk]
theorem scr_bit_eq {n : Int} (h0 : decide (n < 0) = false) (h1 : n ≤ 127) : (bitOf 2055 n == 1) = scrM n := by
 rw [decide_eq_false_iff_not] at h0
 have := scr_bit_all ⟨n.toNat, by omega⟩
 simp only [Int.toNat_of_nonneg (show 0 ≤ n by omega)] at this
 exact this
theorem scr_neg {n : Int} (h0 : decide (n < 0) = true) : false = scrM n := by
 rw [decide_eq_true_eq] at h0
 exact (decide_eq_false (by omega)).symm
def namesM (op w dst src base disp imm cc : Int) : Int := or64 (readsXX op w dst src base disp imm cc) (writesXX op w dst src base disp imm cc)
def ownM (op w dst src base disp imm cc : Int) : Bool := andNot64 (namesM op w dst src base disp imm cc) 2055 == 0
theorem own_t {op w dst src base disp imm cc : Int} (h : ownM op w dst src base disp imm cc = true) : (IntKind.i64.wrap ((BitVec.ofInt IntKind.i64.bits (IntKind.i64.wrap ((BitVec.ofInt IntKind.i64.bits (readsXX op w dst src base disp imm cc) ||| BitVec.ofInt IntKind.i64.bits (writesXX op w dst src base disp imm cc)).toNat : Int)) &&& ~~~BitVec.ofInt IntKind.i64.bits 2055).toNat : Int) == 0) = true := h
theorem own_f {op w dst src base disp imm cc : Int} (h : ownM op w dst src base disp imm cc = false) : (IntKind.i64.wrap ((BitVec.ofInt IntKind.i64.bits (IntKind.i64.wrap ((BitVec.ofInt IntKind.i64.bits (readsXX op w dst src base disp imm cc) ||| BitVec.ofInt IntKind.i64.bits (writesXX op w dst src base disp imm cc)).toNat : Int)) &&& ~~~BitVec.ofInt IntKind.i64.bits 2055).toNat : Int) == 0) = false := h
def zeroX (op w dst src base disp imm cc : Int) : Bool := decide (op = 0 ∧ w = 0 ∧ dst = 0 ∧ src = 0 ∧ base = 0 ∧ disp = 0 ∧ imm = 0 ∧ cc = 0)
def mayI (kind op w dst src base disp imm cc reg phys num to : Int) : Bool :=
  if kind = 0 then mayX op w dst src base disp imm cc && decide (op < 28) && ownM op w dst src base disp imm cc && decide (reg = 0 ∧ phys = 0 ∧ num = 0 ∧ to = 0)
  else if kind = 1 ∨ kind = 2 then decide (0 ≤ reg ∧ reg ≤ 10) && scrM phys && zeroX op w dst src base disp imm cc && decide (num = 0 ∧ to = 0)
  else if kind = 3 then decide (0 ≤ num ∧ num ≤ 15) && zeroX op w dst src base disp imm cc && decide (reg = 0 ∧ phys = 0 ∧ to = 0)
  else if kind = 4 then ccM cc && zeroX (op - 29) w dst src base disp imm 0 && decide (0 ≤ to ∧ to ≤ 64) && decide (reg = 0 ∧ phys = 0 ∧ num = 0)
  else if kind = 5 then decide (0 ≤ to ∧ to ≤ 64) && zeroX op w dst src base disp imm cc && decide (reg = 0 ∧ phys = 0 ∧ num = 0)
  else if kind = 6 then zeroX op w dst src base disp imm cc && decide (reg = 0 ∧ phys = 0 ∧ num = 0 ∧ to = 0)
  else false
theorem eq_irc (k1 a1 a2 a3 a4 a5 a6 a7 a8 a9 a10 a11 a12 k2 b1 b2 b3 b4 b5 b6 b7 b8 b9 b10 b11 b12 : Int) : eqCells (irC k1 a1 a2 a3 a4 a5 a6 a7 a8 a9 a10 a11 a12) (irC k2 b1 b2 b3 b4 b5 b6 b7 b8 b9 b10 b11 b12) =
  decide (k1 = k2 ∧ a1 = b1 ∧ a2 = b2 ∧ a3 = b3 ∧ a4 = b4 ∧ a5 = b5 ∧ a6 = b6 ∧ a7 = b7 ∧ a8 = b8 ∧ a9 = b9 ∧ a10 = b10 ∧ a11 = b11 ∧ a12 = b12) := by
 rw [Bool.eq_iff_iff]
 simp [eqCells, eqCell]
theorem mayI_0 (op w dst src base disp imm cc reg phys num to : Int) : mayI 0 op w dst src base disp imm cc reg phys num to = (mayX op w dst src base disp imm cc && decide (op < 28) && ownM op w dst src base disp imm cc && decide (reg = 0 ∧ phys = 0 ∧ num = 0 ∧ to = 0)) := rfl
theorem mayI_1 (op w dst src base disp imm cc reg phys num to : Int) : mayI 1 op w dst src base disp imm cc reg phys num to = (decide (0 ≤ reg ∧ reg ≤ 10) && scrM phys && zeroX op w dst src base disp imm cc && decide (num = 0 ∧ to = 0)) := rfl
theorem mayI_2 (op w dst src base disp imm cc reg phys num to : Int) : mayI 2 op w dst src base disp imm cc reg phys num to = (decide (0 ≤ reg ∧ reg ≤ 10) && scrM phys && zeroX op w dst src base disp imm cc && decide (num = 0 ∧ to = 0)) := rfl
theorem mayI_3 (op w dst src base disp imm cc reg phys num to : Int) : mayI 3 op w dst src base disp imm cc reg phys num to = (decide (0 ≤ num ∧ num ≤ 15) && zeroX op w dst src base disp imm cc && decide (reg = 0 ∧ phys = 0 ∧ to = 0)) := rfl
theorem mayI_4 (op w dst src base disp imm cc reg phys num to : Int) : mayI 4 op w dst src base disp imm cc reg phys num to = (ccM cc && zeroX (op - 29) w dst src base disp imm 0 && decide (0 ≤ to ∧ to ≤ 64) && decide (reg = 0 ∧ phys = 0 ∧ num = 0)) := rfl
theorem mayI_5 (op w dst src base disp imm cc reg phys num to : Int) : mayI 5 op w dst src base disp imm cc reg phys num to = (decide (0 ≤ to ∧ to ≤ 64) && zeroX op w dst src base disp imm cc && decide (reg = 0 ∧ phys = 0 ∧ num = 0)) := rfl
theorem mayI_6 (op w dst src base disp imm cc reg phys num to : Int) : mayI 6 op w dst src base disp imm cc reg phys num to = (zeroX op w dst src base disp imm cc && decide (reg = 0 ∧ phys = 0 ∧ num = 0 ∧ to = 0)) := rfl
def stopsI (kind op : Int) : Bool := decide ((3 ≤ kind ∧ kind ≤ 6) ∨ (kind = 0 ∧ (op = 26 ∨ op = 27)))
theorem stops_op {op : Int} (h2 : ¬ op = 26) : wk (.bool (op == (27 : Int))) (.bool (stopsI 0 op)) := by
 apply wk_bool; unfold stopsI
 by_cases q : op = 27
 ·subst q; rfl
 ·have e : (op == 27) = false := beq_eq_false_iff_ne.mpr q
  rw [e]; symm; rw [decide_eq_false_iff_not]; omega
def IrS.ok (s : IrS) : Prop := -128 ≤ s.kind ∧ s.kind ≤ 127 ∧ s.op ≤ 127 ∧ s.cc ≤ 127 ∧ s.phys ≤ 127 ∧ -128 ≤ s.reg ∧ s.reg ≤ 127
def AllOk (l : List IrS) : Prop := ∀ s ∈ l, s.ok
def IrS.may (s : IrS) : Bool := mayI s.kind s.op s.w s.dst s.src s.base s.disp s.imm s.cc s.reg s.phys s.num s.to
def IrS.stops (s : IrS) : Bool := stopsI s.kind s.op
def badI (l : List IrS) : Option Nat := l.findIdx? (fun s => !s.may)
def chkI (l : List IrS) : Int × Int := match badI l with
  | some k => ((k : Int), 2)
  | none => (0, 0)
def runI : List IrS → RgS → MachS → RgS × MachS × Nat × Int
  | [], r, m => (r, m, 0, 0)
  | s :: t, r, m => match s.stops with
    | true => (r, m, t.length + 1, 0)
    | false => if s.kind = 1 then runI t r (m.put s.phys (r.get s.reg))
      else if s.kind = 2 then runI t (r.put s.reg (rg m.rl s.phys)) m
      else if (execS m s.x 0).2 = 0 then runI t r ((execS m s.x 0).1.at 0)
      else (.zero, .zero, t.length + 1, (execS m s.x 0).2)
def restI (l : List IrS) (r : RgS) (m : MachS) : List IrS := l.drop (l.length - (runI l r m).2.2.1)
def doI (l : List IrS) (r : RgS) : RgS × MachS × Int × Int :=
  if (chkI l).2 = 0 then
    let q := runI l r .zero
    if q.2.2.2 = 0 then (q.1, q.2.1, ((l.length - q.2.2.1 : Nat) : Int), 0) else (.zero, .zero, 0, q.2.2.2)
  else (.zero, .zero, 0, 2)
def namedI (k : Int) (n : Int) : List IrS → Int
  | [] => n
  | s :: t => namedI k (if s.kind = k ∧ 0 ≤ s.reg ∧ s.reg ≤ 10 then or64 n (sh8 s.reg) else n) t
end Go.Ev

namespace Go.Ev
open Go
theorem chk_ok {l : List IrS} : (chkI l).2 = 0 ↔ ∀ s ∈ l, s.may = true := by
 unfold chkI badI
 cases e : l.findIdx? (fun s => !s.may) with
 | none =>
  rw [List.findIdx?_eq_none_iff] at e
  simp only [true_iff]
  intro s hs
  simpa using e s hs
 | some k =>
  simp only [show ((2 : Int) = 0) = False from by simp, false_iff]
  intro h
  rw [List.findIdx?_eq_some_iff_getElem] at e
  obtain ⟨hk, h1, _⟩ := e
  simp [h _ (List.getElem_mem hk)] at h1
theorem stops_take {s : IrS} (h : s.kind = 1 ∨ s.kind = 2) : s.stops = false := by
 unfold IrS.stops stopsI
 rw [decide_eq_false_iff_not]
 omega
theorem runI_stop {s : IrS} {t : List IrS} {r : RgS} {m : MachS} (h : s.stops = true) : runI (s :: t) r m = (r, m, t.length + 1, 0) := by
 rw [runI, h]
theorem runI_take {s : IrS} {t : List IrS} {r : RgS} {m : MachS} (h : s.kind = 1) : runI (s :: t) r m = runI t r (m.put s.phys (r.get s.reg)) := by
 rw [runI, stops_take (.inl h)]
 simp only [if_pos h]
theorem runI_give {s : IrS} {t : List IrS} {r : RgS} {m : MachS} (h : s.kind = 2) : runI (s :: t) r m = runI t (r.put s.reg (rg m.rl s.phys)) m := by
 rw [runI, stops_take (.inr h)]
 simp only [if_neg (show ¬ s.kind = 1 by omega), if_pos h]
theorem runI_x {s : IrS} {t : List IrS} {r : RgS} {m : MachS} (hs : s.stops = false) (h1 : s.kind ≠ 1) (h2 : s.kind ≠ 2) (h : (execS m s.x 0).2 = 0) : runI (s :: t) r m = runI t r ((execS m s.x 0).1.at 0) := by
 rw [runI, hs]
 simp only [if_neg h1, if_neg h2, if_pos h]
theorem runI_xe {s : IrS} {t : List IrS} {r : RgS} {m : MachS} (hs : s.stops = false) (h1 : s.kind ≠ 1) (h2 : s.kind ≠ 2) (h : (execS m s.x 0).2 ≠ 0) : runI (s :: t) r m = (.zero, .zero, t.length + 1, (execS m s.x 0).2) := by
 rw [runI, hs]
 simp only [if_neg h1, if_neg h2, if_neg h]
theorem runI_left (l : List IrS) (r : RgS) (m : MachS) : (runI l r m).2.2.1 ≤ l.length := by
 induction l generalizing r m with
 | nil => simp [runI]
 | cons s t ih =>
  cases hs : s.stops
  ·by_cases h1 : s.kind = 1
   ·rw [runI_take h1]; have := ih r (m.put s.phys (r.get s.reg)); simp; omega
   ·by_cases h2 : s.kind = 2
    ·rw [runI_give h2]; have := ih (r.put s.reg (rg m.rl s.phys)) m; simp; omega
    ·by_cases he : (execS m s.x 0).2 = 0
     ·rw [runI_x hs h1 h2 he]; have := ih r ((execS m s.x 0).1.at 0); simp; omega
     ·rw [runI_xe hs h1 h2 he]; simp
  ·rw [runI_stop hs]; simp
theorem restI_len (l : List IrS) (r : RgS) (m : MachS) : (restI l r m).length = (runI l r m).2.2.1 := by
 have := runI_left l r m
 unfold restI
 rw [List.length_drop]
 omega
theorem restI_cons {s : IrS} {t : List IrS} {r r' : RgS} {m m' : MachS} (h : runI (s :: t) r m = runI t r' m') : restI (s :: t) r m = restI t r' m' := by
 unfold restI
 rw [h]
 have := runI_left t r' m'
 rw [List.length_cons, show t.length + 1 - (runI t r' m').2.2.1 = (t.length - (runI t r' m').2.2.1) + 1 by omega, List.drop_succ_cons]
theorem restI_stop {s : IrS} {t : List IrS} {r : RgS} {m : MachS} (h : s.stops = true) : restI (s :: t) r m = s :: t := by
 unfold restI
 rw [runI_stop h, List.length_cons, Nat.sub_self, List.drop_zero]
theorem may_kind0 {s : IrS} (hm : s.may = true) (hs : s.stops = false) (h1 : s.kind ≠ 1) (h2 : s.kind ≠ 2) : s.kind = 0 := by
 obtain ⟨kind, op, w, dst, src, base, disp, imm, cc, reg, phys, num, to⟩ := s
 replace hs : stopsI kind op = false := hs
 unfold stopsI at hs
 rw [decide_eq_false_iff_not] at hs
 replace hm : mayI kind op w dst src base disp imm cc reg phys num to = true := hm
 unfold mayI at hm
 refine Classical.byContradiction fun hk => ?_
 replace h1 : kind ≠ 1 := h1
 replace h2 : kind ≠ 2 := h2
 replace hk : ¬ kind = 0 := hk
 rw [if_neg hk, if_neg (by omega), if_neg (by omega), if_neg (by omega), if_neg (by omega), if_neg (by omega)] at hm
 cases hm
theorem doI_ok {l : List IrS} {r : RgS} (h : (chkI l).2 = 0) (h2 : (runI l r .zero).2.2.2 = 0) : doI l r = ((runI l r .zero).1, (runI l r .zero).2.1, ((l.length - (runI l r .zero).2.2.1 : Nat) : Int), 0) := by
 unfold doI
 simp only [if_pos h, if_pos h2]
end Go.Ev

namespace Go.Ev
open Go
theorem may_reg {s : IrS} (h : s.may = true) (hk : s.kind = 1 ∨ s.kind = 2) : 0 ≤ s.reg ∧ s.reg ≤ 10 ∧ scrM s.phys = true := by
 unfold IrS.may mayI at h
 rw [if_neg (by omega), if_pos hk] at h
 simp only [Bool.and_eq_true, decide_eq_true_eq] at h
 exact ⟨h.1.1.1.1, h.1.1.1.2, h.1.1.2⟩
def EqBut (o : Int) (r r' : RgS) : Prop := ∀ k, 0 ≤ k → k ≤ 10 → k ≠ o → r.get k = r'.get k
end Go.Ev

namespace Go.Ev
open Go
theorem may_forms {kind op width size : Int} {byReg : Bool} {dst src off imm : Int} (h : mayM kind op width size byReg dst src off imm = true) :
    (0 ≤ dst ∧ dst ≤ 10 ∧ 0 ≤ src ∧ src ≤ 10 ∧ -32768 ≤ off ∧ off ≤ 32767 ∧ -2147483648 ≤ imm ∧ imm ≤ 2147483647) ∧
    ((kind = 0 ∧ size = 0 ∧ off = 0 ∧ dst < 10 ∧ (op = 8 → byReg = false) ∧ (op = 0 ∨ op = 1 ∨ op = 2 ∨ op = 3 ∨ op = 4 ∨ op = 5 ∨ op = 6 ∨ op = 7 ∨ op = 8 ∨ op = 9 ∨ op = 10 ∨ op = 11 ∨ op = 12) ∧ (width = 32 ∨ width = 64) ∧ (byReg = true → imm = 0) ∧ (byReg = false → src = 0)) ∨
     (kind = 1 ∧ op = 0 ∧ width = 0 ∧ byReg = false ∧ imm = 0 ∧ dst < 10 ∧ (size = 1 ∨ size = 2 ∨ size = 4 ∨ size = 8)) ∨
     (kind = 2 ∧ op = 0 ∧ width = 0 ∧ byReg = false ∧ imm = 0 ∧ (size = 1 ∨ size = 2 ∨ size = 4 ∨ size = 8)) ∨
     (kind = 3 ∧ width = 0 ∧ size = 0 ∧ (op = 0 ∨ op = 1 ∨ op = 2 ∨ op = 3 ∨ op = 4 ∨ op = 5 ∨ op = 6 ∨ op = 7 ∨ op = 8 ∨ op = 9 ∨ op = 10) ∧ (byReg = true → imm = 0) ∧ (byReg = false → src = 0)) ∨
     (kind = 4 ∧ op = 0 ∧ width = 0 ∧ size = 0 ∧ byReg = false ∧ dst = 0 ∧ src = 0 ∧ imm = 0) ∨
     (kind = 5 ∧ op = 0 ∧ width = 0 ∧ size = 0 ∧ byReg = false ∧ dst = 0 ∧ src = 0 ∧ off = 0 ∧ 0 ≤ imm ∧ imm ≤ 15) ∨
     (kind = 6 ∧ op = 0 ∧ width = 0 ∧ size = 0 ∧ byReg = false ∧ dst = 0 ∧ src = 0 ∧ off = 0 ∧ imm = 0)) := by
  unfold mayM mayRange at h
  rw [Bool.and_eq_true, decide_eq_true_eq] at h
  refine ⟨h.1, ?_⟩
  have h2 := h.2
  clear h
  unfold mayKind sizedM at h2
  split at h2
  · refine .inl ?_
    cases byReg <;> simp at h2 ⊢ <;> omega
  · split at h2
    · simp at h2; refine .inr (.inl ?_); simp [h2]; omega
    · split at h2
      · simp at h2; refine .inr (.inr (.inl ?_)); simp [h2]; omega
      · split at h2
        · refine .inr (.inr (.inr (.inl ?_)))
          cases byReg <;> simp at h2 ⊢ <;> omega
        · split at h2
          · simp at h2; refine .inr (.inr (.inr (.inr (.inl ?_)))); simp [h2]; omega
          · split at h2
            · simp at h2; refine .inr (.inr (.inr (.inr (.inr (.inl ?_))))); simp [h2]; omega
            · split at h2
              · simp at h2; refine .inr (.inr (.inr (.inr (.inr (.inr ?_))))); simp [h2]; omega
              · cases h2
def oneOK (kind op width size : Int) (byReg : Bool) (dst src off imm : Int) : Bool := mayM kind op width size byReg dst src off imm && (!(kind == 3) && !(kind == 4))
def oneL (kind op width size : Int) (byReg : Bool) (dst src off imm : Int) : List D := if oneOK kind op width size byReg dst src off imm then stepsM kind op width size byReg dst src off imm else []
def oneE (kind op width size : Int) (byReg : Bool) (dst src off imm : Int) : Int := if oneOK kind op width size byReg dst src off imm then 0 else 2
end Go.Ev
namespace Go.Ev
open Go
def irOf : D → IrS
  | .agg [.int _ a, .int _ b, .int _ c, .int _ d, .int _ e, .int _ f, .int _ g, .int _ h, .int _ i, .int _ j, .int _ k, .int _ l, .int _ m] => ⟨a, b, c, d, e, f, g, h, i, j, k, l, m⟩
  | _ => ⟨0, 0, 0, 0, 0, 0, 0, 0, 0, 0, 0, 0, 0⟩
def AllIr (l : List D) : Prop := (l.map irOf).map IrS.d = l
end Go.Ev

namespace Go.Ev
open Go
set_option maxRecDepth 10000
abbrev takeS (p r : Int) : IrS := ⟨1, 0, 0, 0, 0, 0, 0, 0, 0, r, p, 0, 0⟩
abbrev giveS (r p : Int) : IrS := ⟨2, 0, 0, 0, 0, 0, 0, 0, 0, r, p, 0, 0⟩
abbrev xS (op w dst src imm cc : Int) : IrS := ⟨0, op, w, dst, src, 0, 0, imm, cc, 0, 0, 0, 0⟩
theorem run_take {p i : Int} {t : List IrS} {r : RgS} {m : MachS} : runI (takeS p i :: t) r m = runI t r (m.put p (r.get i)) := runI_take rfl
theorem run_x {op w dst src imm cc : Int} {t : List IrS} {r : RgS} {m m' : MachS} (hs : stopsI 0 op = false) (hm : mayX op w dst src 0 0 imm cc = true)
  (hd : doS (m.at (u64 (m.pc + u64 (XS.len ⟨op, w, dst, src, 0, 0, imm, cc⟩)))) ⟨op, w, dst, src, 0, 0, imm, cc⟩ 0 = (m', 0)) : runI (xS op w dst src imm cc :: t) r m = runI t r (m'.at 0) := by
 have e : execS m (xS op w dst src imm cc).x 0 = (m', 0) := by
  rw [execS_may (x := (xS op w dst src imm cc).x) hm]
  exact hd
 have h := runI_x (s := xS op w dst src imm cc) (t := t) (r := r) (m := m) hs (show (0 : Int) ≠ 1 by decide) (show (0 : Int) ≠ 2 by decide) (by rw [e])
 rw [h, e]
theorem may_imm {op w d imm : Int} (hw : w = 32 ∨ w = 64) (ho : op = 1 ∨ op = 9 ∨ op = 10 ∨ op = 11 ∨ op = 12 ∨ op = 13 ∨ op = 14 ∨ op = 15) (hd : d = 0 ∨ d = 1 ∨ d = 2 ∨ d = 11) (i1 : -2147483648 ≤ imm) (i2 : imm ≤ 2147483647) : mayX op w d 0 0 0 imm 0 = true := by
 have hi : decide (-2147483648 ≤ imm ∧ imm ≤ 2147483647) = true := decide_eq_true ⟨i1, i2⟩
 unfold mayX
 rw [hi]
 rcases hw with rfl | rfl <;> rcases ho with rfl | rfl | rfl | rfl | rfl | rfl | rfl | rfl <;> rcases hd with rfl | rfl | rfl | rfl <;> rfl
def Gives (l : List IrS) (r : RgS) (d v : Int) : Prop := ∀ m, ∃ m', runI l r m = (r.put d v, m', 0, 0)
theorem and_self {x : Int} (h : inU x) : and64u x x = x := by
 unfold and64u
 rw [BitVec.and_self, toNat_ofInt]
 unfold u64 inU at *
 rw [w_u64]
 rw [show ((2 ^ 64 : Nat) : Int) = 18446744073709551616 from rfl]
 omega
theorem u64_range (n : Int) : inU (u64 n) := by
 unfold inU u64
 rw [w_u64]
 omega
end Go.Ev

namespace Go.Ev
open Go
def Mays (l : List IrS) : Prop := ∀ s ∈ l, s.may = true
theorem mays_nil : Mays [] := fun _ h => by cases h
theorem mays_cons {s : IrS} {t : List IrS} (h : s.may = true) (k : Mays t) : Mays (s :: t) := by
 intro x hx
 rcases List.mem_cons.mp hx with rfl | hx
 ·exact h
 ·exact k x hx
theorem mays_take {p i : Int} {t : List IrS} (i0 : 0 ≤ i) (i1 : i ≤ 10) (k : Mays t) (hp : scrM p = true := by rfl) : Mays (takeS p i :: t) := by
 refine mays_cons ?_ k
 show (decide (0 ≤ i ∧ i ≤ 10) && scrM p && true && true) = true
 rw [hp, decide_eq_true (show 0 ≤ i ∧ i ≤ 10 from ⟨i0, i1⟩)]; rfl
theorem mays_x {op w dst src imm cc : Int} {t : List IrS} (hm : mayX op w dst src 0 0 imm cc = true) (k : Mays t) (ho : decide (op < 28) = true := by rfl) (h : (andNot64 (or64 (readsX op dst src 0) (writesX op dst)) 2055 == 0) = true := by rfl) : Mays (xS op w dst src imm cc :: t) := by
 refine mays_cons ?_ k
 show (mayX op w dst src 0 0 imm cc && decide (op < 28) && ownM op w dst src 0 0 imm cc && true) = true
 unfold ownM namesM
 rw [reads_may hm, writes_may hm, hm, ho, h]; rfl
end Go.Ev

namespace Go.Ev
open Go
def hS (op a b : Int) : Bool :=
  if op = 0 then decide (a = b) else if op = 1 then decide (a ≠ b) else if op = 2 then decide (b < a) else if op = 3 then decide (b ≤ a) else if op = 4 then decide (a < b) else if op = 5 then decide (a ≤ b)
  else if op = 6 then decide (IntKind.i64.wrap b < IntKind.i64.wrap a) else if op = 7 then decide (IntKind.i64.wrap b ≤ IntKind.i64.wrap a) else if op = 8 then decide (IntKind.i64.wrap a < IntKind.i64.wrap b) else if op = 9 then decide (IntKind.i64.wrap a ≤ IntKind.i64.wrap b)
  else decide (and64u a b ≠ 0)
theorem top_in {v : Int} (h : inU v) : topM v 64 = decide (9223372036854775808 ≤ v) := by
 obtain ⟨h0, h1⟩ := h
 rw [← neg_top (w := 64) rfl]
 unfold negM
 rw [show signM v 64 = v from rfl, w_i64]
 exact decide_eq_decide.2 (by omega)
theorem cc_cmp {op a b : Int} (o0 : 0 ≤ op) (o1 : op ≤ 9) (ha : inU a) (hb : inU b) :
  holdM (toccM op).1 (subC 64 a b) (cutM (u64 (a - b)) 64 == 0) (negM (u64 (a - b)) 64) (subO 64 a b) = hS op a b := by
 rw [subO_top rfl, neg_top rfl, top_in ha, top_in hb, top_in (u64_range _)]
 rw [show cutM (u64 (a - b)) 64 = u64 (a - b) from rfl, show subC 64 a b = decide (a < b) from rfl]
 have hd : u64 (a - b) = if b ≤ a then a - b else a - b + 18446744073709551616 := by
  unfold u64 inU at *
  rw [w_u64]
  split <;> omega
 generalize u64 (a - b) = d at *
 obtain ⟨a0, a1⟩ := ha
 obtain ⟨b0, b1⟩ := hb
 have ho : op = 0 ∨ op = 1 ∨ op = 2 ∨ op = 3 ∨ op = 4 ∨ op = 5 ∨ op = 6 ∨ op = 7 ∨ op = 8 ∨ op = 9 := by omega
 rw [Bool.eq_iff_iff]
 rcases ho with rfl | rfl | rfl | rfl | rfl | rfl | rfl | rfl | rfl | rfl
 all_goals simp [holdM, toccM, hS, w_i64]
 all_goals (split at hd <;> first | omega | grind)
theorem cc_set {a b : Int} : holdM (toccM 10).1 false (cutM (doM 5 64 a b) 64 == 0) (negM (doM 5 64 a b) 64) false = hS 10 a b := by
 rw [show (toccM 10).1 = 5 from rfl, show cutM (doM 5 64 a b) 64 = and64u a b from rfl]
 rw [Bool.eq_iff_iff]
 simp [holdM, hS]
theorem do_cmpR {r : RgS} {d e : Int} (d0 : 0 ≤ d) (d1 : d ≤ 10) (e0 : 0 ≤ e) (e1 : e ≤ 10) :
  ∃ m : MachS, doI [takeS 0 d, takeS 1 e, xS 7 64 0 1 0 0] r = (r, m, 3, 0) ∧ m.fk = true ∧ m.fc = subC 64 (r.get d) (r.get e) ∧ m.fz = (cutM (u64 ((r.get d) - (r.get e))) 64 == 0) ∧ m.fs = (negM (u64 ((r.get d) - (r.get e))) 64) ∧ m.fo = (subO 64 (r.get d) (r.get e)) := by
 have hm := (rfl : mayX 7 64 0 1 0 0 0 0 = true)
 have hc : (chkI [takeS 0 d, takeS 1 e, xS 7 64 0 1 0 0]).2 = 0 := chk_ok.mpr (mays_take d0 d1 (mays_take e0 e1 (mays_x hm mays_nil)))
 have h : ∃ m : MachS, runI [takeS 0 d, takeS 1 e, xS 7 64 0 1 0 0] r .zero = (r, m, 0, 0) ∧ m.fk = true ∧ m.fc = subC 64 (r.get d) (r.get e) ∧ m.fz = (cutM (u64 ((r.get d) - (r.get e))) 64 == 0) ∧ m.fs = (negM (u64 ((r.get d) - (r.get e))) 64) ∧ m.fo = (subO 64 (r.get d) (r.get e)) :=
  ⟨_, by rw [run_take, run_take, run_x rfl hm rfl]; rfl, rfl, rfl, rfl, rfl, rfl⟩
 obtain ⟨m, e, h⟩ := h
 exact ⟨m, by rw [doI_ok hc (by rw [e]), e]; rfl, h⟩
theorem do_cmpI {r : RgS} {d imm : Int} (d0 : 0 ≤ d) (d1 : d ≤ 10) (i1 : -2147483648 ≤ imm) (i2 : imm ≤ 2147483647) :
  ∃ m : MachS, doI [takeS 0 d, xS 14 64 0 0 imm 0] r = (r, m, 2, 0) ∧ m.fk = true ∧ m.fc = subC 64 (r.get d) (u64 imm) ∧ m.fz = (cutM (u64 ((r.get d) - (u64 imm))) 64 == 0) ∧ m.fs = (negM (u64 ((r.get d) - (u64 imm))) 64) ∧ m.fo = (subO 64 (r.get d) (u64 imm)) := by
 have hm := (may_imm (op := 14) (w := 64) (.inr rfl) (by omega) (.inl rfl) i1 i2)
 have hc : (chkI [takeS 0 d, xS 14 64 0 0 imm 0]).2 = 0 := chk_ok.mpr (mays_take d0 d1 (mays_x hm mays_nil))
 have h : ∃ m : MachS, runI [takeS 0 d, xS 14 64 0 0 imm 0] r .zero = (r, m, 0, 0) ∧ m.fk = true ∧ m.fc = subC 64 (r.get d) (u64 imm) ∧ m.fz = (cutM (u64 ((r.get d) - (u64 imm))) 64 == 0) ∧ m.fs = (negM (u64 ((r.get d) - (u64 imm))) 64) ∧ m.fo = (subO 64 (r.get d) (u64 imm)) :=
  ⟨_, by rw [run_take, run_x rfl hm rfl]; rfl, rfl, rfl, rfl, rfl, rfl⟩
 obtain ⟨m, e, h⟩ := h
 exact ⟨m, by rw [doI_ok hc (by rw [e]), e]; rfl, h⟩
theorem do_tstR {r : RgS} {d e : Int} (d0 : 0 ≤ d) (d1 : d ≤ 10) (e0 : 0 ≤ e) (e1 : e ≤ 10) :
  ∃ m : MachS, doI [takeS 0 d, takeS 1 e, xS 8 64 0 1 0 0] r = (r, m, 3, 0) ∧ m.fk = true ∧ m.fc = false ∧ m.fz = (cutM (doM 5 64 (r.get d) (r.get e)) 64 == 0) ∧ m.fs = (negM (doM 5 64 (r.get d) (r.get e)) 64) ∧ m.fo = false := by
 have hm := (rfl : mayX 8 64 0 1 0 0 0 0 = true)
 have hc : (chkI [takeS 0 d, takeS 1 e, xS 8 64 0 1 0 0]).2 = 0 := chk_ok.mpr (mays_take d0 d1 (mays_take e0 e1 (mays_x hm mays_nil)))
 have h : ∃ m : MachS, runI [takeS 0 d, takeS 1 e, xS 8 64 0 1 0 0] r .zero = (r, m, 0, 0) ∧ m.fk = true ∧ m.fc = false ∧ m.fz = (cutM (doM 5 64 (r.get d) (r.get e)) 64 == 0) ∧ m.fs = (negM (doM 5 64 (r.get d) (r.get e)) 64) ∧ m.fo = false :=
  ⟨_, by rw [run_take, run_take, run_x rfl hm rfl]; rfl, rfl, rfl, rfl, rfl, rfl⟩
 obtain ⟨m, e, h⟩ := h
 exact ⟨m, by rw [doI_ok hc (by rw [e]), e]; rfl, h⟩
theorem do_tstI {r : RgS} {d imm : Int} (d0 : 0 ≤ d) (d1 : d ≤ 10) (i1 : -2147483648 ≤ imm) (i2 : imm ≤ 2147483647) :
  ∃ m : MachS, doI [takeS 0 d, xS 15 64 0 0 imm 0] r = (r, m, 2, 0) ∧ m.fk = true ∧ m.fc = false ∧ m.fz = (cutM (doM 5 64 (r.get d) (u64 imm)) 64 == 0) ∧ m.fs = (negM (doM 5 64 (r.get d) (u64 imm)) 64) ∧ m.fo = false := by
 have hm := (may_imm (op := 15) (w := 64) (.inr rfl) (by omega) (.inl rfl) i1 i2)
 have hc : (chkI [takeS 0 d, xS 15 64 0 0 imm 0]).2 = 0 := chk_ok.mpr (mays_take d0 d1 (mays_x hm mays_nil))
 have h : ∃ m : MachS, runI [takeS 0 d, xS 15 64 0 0 imm 0] r .zero = (r, m, 0, 0) ∧ m.fk = true ∧ m.fc = false ∧ m.fz = (cutM (doM 5 64 (r.get d) (u64 imm)) 64 == 0) ∧ m.fs = (negM (doM 5 64 (r.get d) (u64 imm)) 64) ∧ m.fo = false :=
  ⟨_, by rw [run_take, run_x rfl hm rfl]; rfl, rfl, rfl, rfl, rfl, rfl⟩
 obtain ⟨m, e, h⟩ := h
 exact ⟨m, by rw [doI_ok hc (by rw [e]), e]; rfl, h⟩
end Go.Ev

namespace Go.Proofs.YtojgmjfcfpclbaaGreat
open Go Go.Ev
set_option maxRecDepth 100000
set_option maxHeartbeats 8000000
theorem cut64_ok (v : Int) : Ret Tryz.prog 64 ([.int .u64 v, .int .i8 64]) (.int .u64 v) := by
 exact (Ret.of_eval (d := .int .u64 v) mixed Tryz.func64 (by kernel_rfl) [.inl, tT, tT, tF, tT, tT, tF, tT, tT, tF, tT, tT, tF, tT] (by kernel_rfl)).to (by simp [wk])
theorem sign64_ok (v : Int) (hv : inU v) : Ret Tryz.prog 89 ([.int .u64 v, .int .i8 64]) (.int .u64 v) := by
 have c0 := @cut64_ok (v)
 by_cases h1 : IntKind.wrap IntKind.u64 (↑(BitVec.toNat (BitVec.ofInt (64 : Nat) (Int.fdiv v (9223372036854775808 : Int)) &&& BitVec.ofInt (64 : Nat) (1 : Int))) : Int) = 1
 ·skip
  exact (Ret.of_eval (d := .int .u64 v) mixed Tryz.func89 (by kernel_rfl) ([.inl, tT, tT, tF, tT, tT, tF, tT, tT, tF, tF, .ret _ _ _ c0, tT, tC (eT (eqI 1 true h1)), tC (eT (eqI 1 true h1)), tC (eqI 1 true h1)] ++ [tF]) (by kernel_rfl)).to (by first | rfl | (simp [wk]; done) | (simp only [wk, D.int.injEq, true_and]; done) | (simp only [wk, D.int.injEq, true_and]; unfold inU at hv; simp only [w_u64, w_i64]; omega))
 ·skip
  exact (Ret.of_eval (d := .int .u64 v) mixed Tryz.func89 (by kernel_rfl) ([.inl, tT, tT, tF, tT, tT, tF, tT, tT, tF, tF, .ret _ _ _ c0, tT, tC (eT (neOf h1)), tC (eT (neOf h1)), tC (neOf h1)] ++ [tF]) (by kernel_rfl)).to (by first | rfl | (simp [wk]; done) | (simp only [wk, D.int.injEq, true_and]; done) | (simp only [wk, D.int.injEq, true_and]; unfold inU at hv; simp only [w_u64, w_i64]; omega))
def SpZJ20 (k0_ : Int) : Prop := ∀ (a b : Int) (ha : inU a) (hb : inU b), Ret Tryz.prog 44 ([.int .i8 k0_, .int .i8 64, .int .u64 a, .int .u64 b]) (.tup [.bool (hS k0_ a b), .int .i64 0])
theorem rhold_0_ok : SpZJ20 0 := by
  intro a b ha hb
  have c0 := @cut64_ok (a)
  have c1 := @cut64_ok (b)
  have c2 := @sign64_ok (a) ha
  have c3 := @sign64_ok (b) hb
  exact (Ret.of_eval (d := .tup [.bool (a == b), .int .i64 0]) mixed Tryz.func44 (by kernel_rfl) ([tT, tT, tF, tT, tT, .inl, tT, tT, tF, tT, tF, tF, .ret _ _ _ c0, .ret _ _ _ c1, .ret _ _ _ c2, .ret _ _ _ c3] ++ [tT]) (by kernel_rfl)).to (by first | (simp [wk, wkL, hS, and64u, u64]; done) | (simp [wk, wkL, hS, ]; done) | (simp [wk, wkL, hS]; done) | (simp only [wk, wkL, D.bool.injEq, and_true]; rw [Bool.eq_iff_iff]; simp [hS, *]; try omega))
theorem rhold_1_ok : SpZJ20 1 := by
 intro a b ha hb
 have c0 := @cut64_ok (a)
 have c1 := @cut64_ok (b)
 have c2 := @sign64_ok (a) ha
 have c3 := @sign64_ok (b) hb
 exact (Ret.of_eval (d := .tup [.bool (a != b), .int .i64 0]) mixed Tryz.func44 (by kernel_rfl) ([tT, tT, tF, tT, tT, .inl, tT, tT, tF, tT, tF, tF, .ret _ _ _ c0, .ret _ _ _ c1, .ret _ _ _ c2, .ret _ _ _ c3] ++ [tF, tT]) (by kernel_rfl)).to (by first | (simp [wk, wkL, hS, and64u, u64]; done) | (simp [wk, wkL, hS, ]; done) | (simp [wk, wkL, hS]; done) | (simp only [wk, wkL, D.bool.injEq, and_true]; rw [Bool.eq_iff_iff]; simp [hS, *]; try omega))
theorem rhold_2_ok : SpZJ20 2 := by
 intro a b ha hb
 have c0 := @cut64_ok (a)
 have c1 := @cut64_ok (b)
 have c2 := @sign64_ok (a) ha
 have c3 := @sign64_ok (b) hb
 exact (Ret.of_eval (d := .tup [.bool (decide (a > b)), .int .i64 0]) mixed Tryz.func44 (by kernel_rfl) ([tT, tT, tF, tT, tT, .inl, tT, tT, tF, tT, tF, tF, .ret _ _ _ c0, .ret _ _ _ c1, .ret _ _ _ c2, .ret _ _ _ c3] ++ [tF, tF, tT]) (by kernel_rfl)).to (by first | (simp [wk, wkL, hS, and64u, u64]; done) | (simp [wk, wkL, hS, ]; done) | (simp [wk, wkL, hS]; done) | (simp only [wk, wkL, D.bool.injEq, and_true]; rw [Bool.eq_iff_iff]; simp [hS, *]; try omega))
theorem rhold_3_ok : SpZJ20 3 := by
 intro a b ha hb
 have c0 := @cut64_ok (a)
 have c1 := @cut64_ok (b)
 have c2 := @sign64_ok (a) ha
 have c3 := @sign64_ok (b) hb
 exact (Ret.of_eval (d := .tup [.bool (decide (a ≥ b)), .int .i64 0]) mixed Tryz.func44 (by kernel_rfl) ([tT, tT, tF, tT, tT, .inl, tT, tT, tF, tT, tF, tF, .ret _ _ _ c0, .ret _ _ _ c1, .ret _ _ _ c2, .ret _ _ _ c3] ++ [tF, tF, tF, tT]) (by kernel_rfl)).to (by first | (simp [wk, wkL, hS, and64u, u64]; done) | (simp [wk, wkL, hS, ]; done) | (simp [wk, wkL, hS]; done) | (simp only [wk, wkL, D.bool.injEq, and_true]; rw [Bool.eq_iff_iff]; simp [hS, *]; try omega))
theorem rhold_4_ok : SpZJ20 4 := by
 intro a b ha hb
 have c0 := @cut64_ok (a)
 have c1 := @cut64_ok (b)
 have c2 := @sign64_ok (a) ha
 have c3 := @sign64_ok (b) hb
 exact (Ret.of_eval (d := .tup [.bool (decide (a < b)), .int .i64 0]) mixed Tryz.func44 (by kernel_rfl) ([tT, tT, tF, tT, tT, .inl, tT, tT, tF, tT, tF, tF, .ret _ _ _ c0, .ret _ _ _ c1, .ret _ _ _ c2, .ret _ _ _ c3] ++ [tF, tF, tF, tF, tT]) (by kernel_rfl)).to (by first | (simp [wk, wkL, hS, and64u, u64]; done) | (simp [wk, wkL, hS, ]; done) | (simp [wk, wkL, hS]; done) | (simp only [wk, wkL, D.bool.injEq, and_true]; rw [Bool.eq_iff_iff]; simp [hS, *]; try omega))
theorem rhold_5_ok : SpZJ20 5 := by
 intro a b ha hb
 have c0 := @cut64_ok (a)
 have c1 := @cut64_ok (b)
 have c2 := @sign64_ok (a) ha
 have c3 := @sign64_ok (b) hb
 exact (Ret.of_eval (d := .tup [.bool (decide (a ≤ b)), .int .i64 0]) mixed Tryz.func44 (by kernel_rfl) ([tT, tT, tF, tT, tT, .inl, tT, tT, tF, tT, tF, tF, .ret _ _ _ c0, .ret _ _ _ c1, .ret _ _ _ c2, .ret _ _ _ c3] ++ [tF, tF, tF, tF, tF, tT]) (by kernel_rfl)).to (by first | (simp [wk, wkL, hS, and64u, u64]; done) | (simp [wk, wkL, hS, ]; done) | (simp [wk, wkL, hS]; done) | (simp only [wk, wkL, D.bool.injEq, and_true]; rw [Bool.eq_iff_iff]; simp [hS, *]; try omega))
theorem rhold_6_ok : SpZJ20 6 := by
 intro a b ha hb
 have c0 := @cut64_ok (a)
 have c1 := @cut64_ok (b)
 have c2 := @sign64_ok (a) ha
 have c3 := @sign64_ok (b) hb
 exact (Ret.of_eval (d := .tup [.bool (decide (IntKind.wrap IntKind.i64 a > IntKind.wrap IntKind.i64 b)), .int .i64 0]) mixed Tryz.func44 (by kernel_rfl) ([tT, tT, tF, tT, tT, .inl, tT, tT, tF, tT, tF, tF, .ret _ _ _ c0, .ret _ _ _ c1, .ret _ _ _ c2, .ret _ _ _ c3] ++ [tF, tF, tF, tF, tF, tF, tT]) (by kernel_rfl)).to (by first | (simp [wk, wkL, hS, and64u, u64]; done) | (simp [wk, wkL, hS, ]; done) | (simp [wk, wkL, hS]; done) | (simp only [wk, wkL, D.bool.injEq, and_true]; rw [Bool.eq_iff_iff]; simp [hS, *]; try omega))
theorem rhold_7_ok : SpZJ20 7 := by
 intro a b ha hb
 have c0 := @cut64_ok (a)
 have c1 := @cut64_ok (b)
 have c2 := @sign64_ok (a) ha
 have c3 := @sign64_ok (b) hb
 exact (Ret.of_eval (d := .tup [.bool (decide (IntKind.wrap IntKind.i64 a ≥ IntKind.wrap IntKind.i64 b)), .int .i64 0]) mixed Tryz.func44 (by kernel_rfl) ([tT, tT, tF, tT, tT, .inl, tT, tT, tF, tT, tF, tF, .ret _ _ _ c0, .ret _ _ _ c1, .ret _ _ _ c2, .ret _ _ _ c3] ++ [tF, tF, tF, tF, tF, tF, tF, tT]) (by kernel_rfl)).to (by first | (simp [wk, wkL, hS, and64u, u64]; done) | (simp [wk, wkL, hS, ]; done) | (simp [wk, wkL, hS]; done) | (simp only [wk, wkL, D.bool.injEq, and_true]; rw [Bool.eq_iff_iff]; simp [hS, *]; try omega))
theorem rhold_8_ok : SpZJ20 8 := by
 intro a b ha hb
 have c0 := @cut64_ok (a)
 have c1 := @cut64_ok (b)
 have c2 := @sign64_ok (a) ha
 have c3 := @sign64_ok (b) hb
 exact (Ret.of_eval (d := .tup [.bool (decide (IntKind.wrap IntKind.i64 a < IntKind.wrap IntKind.i64 b)), .int .i64 0]) mixed Tryz.func44 (by kernel_rfl) ([tT, tT, tF, tT, tT, .inl, tT, tT, tF, tT, tF, tF, .ret _ _ _ c0, .ret _ _ _ c1, .ret _ _ _ c2, .ret _ _ _ c3] ++ [tF, tF, tF, tF, tF, tF, tF, tF, tT]) (by kernel_rfl)).to (by first | (simp [wk, wkL, hS, and64u, u64]; done) | (simp [wk, wkL, hS, ]; done) | (simp [wk, wkL, hS]; done) | (simp only [wk, wkL, D.bool.injEq, and_true]; rw [Bool.eq_iff_iff]; simp [hS, *]; try omega))
theorem rhold_9_ok : SpZJ20 9 := by
 intro a b ha hb
 have c0 := @cut64_ok (a)
 have c1 := @cut64_ok (b)
 have c2 := @sign64_ok (a) ha
 have c3 := @sign64_ok (b) hb
 exact (Ret.of_eval (d := .tup [.bool (decide (IntKind.wrap IntKind.i64 a ≤ IntKind.wrap IntKind.i64 b)), .int .i64 0]) mixed Tryz.func44 (by kernel_rfl) ([tT, tT, tF, tT, tT, .inl, tT, tT, tF, tT, tF, tF, .ret _ _ _ c0, .ret _ _ _ c1, .ret _ _ _ c2, .ret _ _ _ c3] ++ [tF, tF, tF, tF, tF, tF, tF, tF, tF, tT]) (by kernel_rfl)).to (by first | (simp [wk, wkL, hS, and64u, u64]; done) | (simp [wk, wkL, hS, ]; done) | (simp [wk, wkL, hS]; done) | (simp only [wk, wkL, D.bool.injEq, and_true]; rw [Bool.eq_iff_iff]; simp [hS, *]; try omega))
theorem rhold_10_ok : SpZJ20 10 := by
 intro a b ha hb
 have c0 := @cut64_ok (a)
 have c1 := @cut64_ok (b)
 have c2 := @sign64_ok (a) ha
 have c3 := @sign64_ok (b) hb
 exact (Ret.of_eval (d := .tup [.bool (IntKind.wrap IntKind.u64 (↑(BitVec.toNat (BitVec.ofInt (64 : Nat) a &&& BitVec.ofInt (64 : Nat) b)) : Int) != (0 : Int)), .int .i64 0]) mixed Tryz.func44 (by kernel_rfl) ([tT, tT, tF, tT, tT, .inl, tT, tT, tF, tT, tF, tF, .ret _ _ _ c0, .ret _ _ _ c1, .ret _ _ _ c2, .ret _ _ _ c3] ++ [tF, tF, tF, tF, tF, tF, tF, tF, tF, tF]) (by kernel_rfl)).to (by (simp only [wk, wkL, D.bool.injEq, and_true]; show _ = decide (and64u a b ≠ 0); rw [Bool.eq_iff_iff, decide_eq_true_eq, bne_iff_ne]; exact Iff.rfl))
end Go.Proofs.YtojgmjfcfpclbaaGreat
