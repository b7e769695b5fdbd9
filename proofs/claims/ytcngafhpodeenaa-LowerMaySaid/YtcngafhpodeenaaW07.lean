/- Contracts and plain laws that a statement's proof leans on (texts merged: MdK1, KT0, KT0A, KT1, KT1A, KT2, KT2A, MdK2, MdK3, MdK4, MdK5, MdK6, MdK7, KR1, KR1A, KR2). -/
import Derived.Test.YtcngafhpodeenaaW04
import Derived.Test.YtcngafhpodeenaaW05
import Derived.Test.YtcngafhpodeenaaW06
set_option linter.unusedVariables false
set_option linter.unusedSimpArgs false
namespace Go.Ev
open Go
def InstS.may (x : InstS) : Bool := mayM x.kind x.op x.width x.size x.byReg x.dst x.src x.off x.imm
def isd (l : List InstS) : List D := l.map InstS.d
theorem isd_len (l : List InstS) : (isd l).length = l.length := by simp [isd]
theorem isd_get (l : List InstS) (j : Nat) (h : j < l.length) : (isd l)[j]? = some l[j].d := by simp [isd, h]
def tgt2 (i kind off : Int) : Bool := (kind == 3 || kind == 4) && (decide (-1099511627776 ≤ i ∧ i ≤ 1099511627776) && decide (-1099511627776 ≤ off ∧ off ≤ 1099511627776))
def tgt1 (i kind off : Int) : Int := if tgt2 i kind off = true then i + 1 + off else 0
def ckFrom (n : Int) : Int → List InstS → Option (Int × Int)
  | _, [] => none
  | i, x :: r => if x.may = false then some (i, 31) else if tgt2 i x.kind x.off = true ∧ ¬ (0 ≤ tgt1 i x.kind x.off ∧ tgt1 i x.kind x.off < n) then some (i, 32) else ckFrom n (i + 1) r
def kindAt (l : List InstS) (i : Nat) : Int := match l[i]? with | some x => x.kind | none => 0
def checkM (ctx : Int) (l : List InstS) : Int × Int :=
  if ctx < 0 ∨ 256 < ctx then (0, 2) else if l.length < 1 ∨ 64 < l.length then (0, 3)
  else match ckFrom l.length 0 l with
    | some r => r
    | none => if kindAt l (l.length - 1) = 4 ∨ kindAt l (l.length - 1) = 6 then (0, 0) else (l.length - 1, 33)
end Go.Ev

namespace Go.Proofs.Ytcngafhpodeenaa
open Go Go.Ev
set_option maxRecDepth 100000
set_option maxHeartbeats 8000000
theorem tgt_ok (i kind op width size : Int) (byReg : Bool) (dst src off imm : Int) : Ret Try.prog 76 ([.int .i64 i, instD kind op width size byReg dst src off imm]) (.tup [.int .i64 (if tgt2 i kind off = true then IntKind.i64.wrap (IntKind.i64.wrap (i + 1) + off) else 0), .bool (tgt2 i kind off)]) := by
 by_cases h0 : kind = 3
 ·subst h0
  have c1 := @within64_ok i (-1099511627776) 1099511627776
  let E1 : EL := [tF, tF, tF, tF, tT, tT, .ret _ _ _ c1, tT, tF]
  rcases bft (decide (i < (-1099511627776))) with h2 | h2
  ·exact (o76 (d := .tup [.int .i64 0, .bool false]) (E1 ++ List.replicate 4 (tC (eF (nt (andF (y := decide (i ≤ 1099511627776)) (leL (-1099511627776) h2))))) ++ [tC (nt (andF (y := decide (i ≤ 1099511627776)) (leL (-1099511627776) h2))), tT]) (by kernel_rfl)).to (by clear E1; (try simp only [decide_eq_true_eq, decide_eq_false_iff_not, beq_iff_eq, bne_iff_ne, beq_eq_false_iff_ne, bne_eq_false_iff_eq, ne_eq] at *); (first | (simp [wk, wkL, wkO, tgt2, *]; done) | (simp [wk, wkL, wkO, tgt2, *]; omega)))
  rcases bft (decide (i < 1099511627777)) with h3 | h3
  ·have c4 := @within64_ok off (-1099511627776) 1099511627776
   let E2 : EL := E1 ++ List.replicate 3 (tC (eF (nt (andT (leL (-1099511627776) h2) (leC 1099511627776 h3))))) ++ [.ret _ _ _ c4, tC (eF (nt (andT (leL (-1099511627776) h2) (leC 1099511627776 h3)))), tC (nt (andT (leL (-1099511627776) h2) (leC 1099511627776 h3)))]
   rcases bft (decide (off < (-1099511627776))) with h5 | h5
   ·exact (o76 (d := .tup [.int .i64 0, .bool false]) (E2 ++ [tC (nt (andF (y := decide (off ≤ 1099511627776)) (leL (-1099511627776) h5)))]) (by kernel_rfl)).to (by clear E1 E2; (try simp only [decide_eq_true_eq, decide_eq_false_iff_not, beq_iff_eq, bne_iff_ne, beq_eq_false_iff_ne, bne_eq_false_iff_eq, ne_eq] at *); (first | (simp [wk, wkL, wkO, tgt2, *]; done) | (simp [wk, wkL, wkO, tgt2, *]; omega)))
   rcases bft (decide (off < 1099511627777)) with h6 | h6
   ·exact (o76 (d := .tup [.int .i64 (IntKind.wrap IntKind.i64 (IntKind.wrap IntKind.i64 (i + 1) + off)), .bool true]) (E2 ++ [tC (nt (andT (leL (-1099511627776) h5) (leC 1099511627776 h6)))]) (by kernel_rfl)).to (by clear E1 E2; (try simp only [decide_eq_true_eq, decide_eq_false_iff_not, beq_iff_eq, bne_iff_ne, beq_eq_false_iff_ne, bne_eq_false_iff_eq, ne_eq] at *); (first | (simp [wk, wkL, wkO, tgt2, *]; done) | (simp [wk, wkL, wkO, tgt2, *]; omega)))
   exact (o76 (d := .tup [.int .i64 0, .bool false]) (E2 ++ [tC (nt (andT (leL (-1099511627776) h5) (leC 1099511627776 h6)))]) (by kernel_rfl)).to (by clear E1 E2; (try simp only [decide_eq_true_eq, decide_eq_false_iff_not, beq_iff_eq, bne_iff_ne, beq_eq_false_iff_ne, bne_eq_false_iff_eq, ne_eq] at *); (first | (simp [wk, wkL, wkO, tgt2, *]; done) | (simp [wk, wkL, wkO, tgt2, *]; omega)))
  exact (o76 (d := .tup [.int .i64 0, .bool false]) (E1 ++ List.replicate 4 (tC (eF (nt (andT (leL (-1099511627776) h2) (leC 1099511627776 h3))))) ++ [tC (nt (andT (leL (-1099511627776) h2) (leC 1099511627776 h3))), tT]) (by kernel_rfl)).to (by clear E1; (try simp only [decide_eq_true_eq, decide_eq_false_iff_not, beq_iff_eq, bne_iff_ne, beq_eq_false_iff_ne, bne_eq_false_iff_eq, ne_eq] at *); (first | (simp [wk, wkL, wkO, tgt2, *]; done) | (simp [wk, wkL, wkO, tgt2, *]; omega)))
 let E3 : EL := (List.replicate 3 (tC (eT (nt (neOf h0)))) ++ [tC (nt (neOf h0))])
 by_cases h7 : kind = 4
 ·subst h7
  have c8 := @within64_ok i (-1099511627776) 1099511627776
  let E4 : EL := E3 ++ [tT, tT, .ret _ _ _ c8, tT, tF]
  rcases bft (decide (i < (-1099511627776))) with h9 | h9
  ·exact (o76 (d := .tup [.int .i64 0, .bool false]) (E4 ++ List.replicate 4 (tC (eF (nt (andF (y := decide (i ≤ 1099511627776)) (leL (-1099511627776) h9))))) ++ [tC (nt (andF (y := decide (i ≤ 1099511627776)) (leL (-1099511627776) h9))), tT]) (by kernel_rfl)).to (by clear E3 E4; (try simp only [decide_eq_true_eq, decide_eq_false_iff_not, beq_iff_eq, bne_iff_ne, beq_eq_false_iff_ne, bne_eq_false_iff_eq, ne_eq] at *); (first | (simp [wk, wkL, wkO, tgt2, *]; done) | (simp [wk, wkL, wkO, tgt2, *]; omega)))
  rcases bft (decide (i < 1099511627777)) with h10 | h10
  ·have c11 := @within64_ok off (-1099511627776) 1099511627776
   let E5 : EL := E4 ++ List.replicate 3 (tC (eF (nt (andT (leL (-1099511627776) h9) (leC 1099511627776 h10))))) ++ [.ret _ _ _ c11, tC (eF (nt (andT (leL (-1099511627776) h9) (leC 1099511627776 h10)))), tC (nt (andT (leL (-1099511627776) h9) (leC 1099511627776 h10)))]
   rcases bft (decide (off < (-1099511627776))) with h12 | h12
   ·exact (o76 (d := .tup [.int .i64 0, .bool false]) (E5 ++ [tC (nt (andF (y := decide (off ≤ 1099511627776)) (leL (-1099511627776) h12)))]) (by kernel_rfl)).to (by clear E3 E4 E5; (try simp only [decide_eq_true_eq, decide_eq_false_iff_not, beq_iff_eq, bne_iff_ne, beq_eq_false_iff_ne, bne_eq_false_iff_eq, ne_eq] at *); (first | (simp [wk, wkL, wkO, tgt2, *]; done) | (simp [wk, wkL, wkO, tgt2, *]; omega)))
   rcases bft (decide (off < 1099511627777)) with h13 | h13
   ·exact (o76 (d := .tup [.int .i64 (IntKind.wrap IntKind.i64 (IntKind.wrap IntKind.i64 (i + 1) + off)), .bool true]) (E5 ++ [tC (nt (andT (leL (-1099511627776) h12) (leC 1099511627776 h13)))]) (by kernel_rfl)).to (by clear E3 E4 E5; (try simp only [decide_eq_true_eq, decide_eq_false_iff_not, beq_iff_eq, bne_iff_ne, beq_eq_false_iff_ne, bne_eq_false_iff_eq, ne_eq] at *); (first | (simp [wk, wkL, wkO, tgt2, *]; done) | (simp [wk, wkL, wkO, tgt2, *]; omega)))
   exact (o76 (d := .tup [.int .i64 0, .bool false]) (E5 ++ [tC (nt (andT (leL (-1099511627776) h12) (leC 1099511627776 h13)))]) (by kernel_rfl)).to (by clear E3 E4 E5; (try simp only [decide_eq_true_eq, decide_eq_false_iff_not, beq_iff_eq, bne_iff_ne, beq_eq_false_iff_ne, bne_eq_false_iff_eq, ne_eq] at *); (first | (simp [wk, wkL, wkO, tgt2, *]; done) | (simp [wk, wkL, wkO, tgt2, *]; omega)))
  exact (o76 (d := .tup [.int .i64 0, .bool false]) (E4 ++ List.replicate 4 (tC (eF (nt (andT (leL (-1099511627776) h9) (leC 1099511627776 h10))))) ++ [tC (nt (andT (leL (-1099511627776) h9) (leC 1099511627776 h10))), tT]) (by kernel_rfl)).to (by clear E3 E4; (try simp only [decide_eq_true_eq, decide_eq_false_iff_not, beq_iff_eq, bne_iff_ne, beq_eq_false_iff_ne, bne_eq_false_iff_eq, ne_eq] at *); (first | (simp [wk, wkL, wkO, tgt2, *]; done) | (simp [wk, wkL, wkO, tgt2, *]; omega)))
 exact (o76 (d := .tup [.int .i64 0, .bool false]) (E3 ++ List.replicate 3 (tC (eF (nt (neOf h7)))) ++ [tC (nt (neOf h7)), tF, tF, tF, tF, tT, tT]) (by kernel_rfl)).to (by clear E3; (try simp only [decide_eq_true_eq, decide_eq_false_iff_not, beq_iff_eq, bne_iff_ne, beq_eq_false_iff_ne, bne_eq_false_iff_eq, ne_eq] at *); (first | (simp [wk, wkL, wkO, tgt2, *]; done) | (simp [wk, wkL, wkO, tgt2, *]; omega)))
theorem rtgt_ok (i kind op width size : Int) (byReg : Bool) (dst src off imm : Int) : Ret Try.prog 70 ([.int .i64 i, instD kind op width size byReg dst src off imm]) (.tup [.int .i64 (if tgt2 i kind off = true then IntKind.i64.wrap (IntKind.i64.wrap (i + 1) + off) else 0), .bool (tgt2 i kind off)]) := by
 by_cases h0 : kind = 3
 ·subst h0
  let E1 : EL := [tF, tF, tF, tF, tT, tT, tF]
  rcases bft (decide (i < (-1099511627776))) with h1 | h1
  ·exact (o70 (d := .tup [.int .i64 0, .bool false]) (E1 ++ [tC (eF h1), tC (eF h1), tC h1, tF, tF, tF, tT, tF, tF, tF, tT, tT]) (by kernel_rfl)).to (by clear E1; (try simp only [decide_eq_true_eq, decide_eq_false_iff_not, beq_iff_eq, bne_iff_ne, beq_eq_false_iff_ne, bne_eq_false_iff_eq, ne_eq] at *); (first | (simp [wk, wkL, wkO, tgt2, *]; done) | (simp [wk, wkL, wkO, tgt2, *]; omega)))
  let E2 : EL := E1 ++ [tC (eF h1), tC (eF h1), tC h1]
  rcases bft (decide (i < 1099511627777)) with h2 | h2
  ·let E3 : EL := E2 ++ List.replicate 3 (tC (eF (ltL 1099511627776 h2))) ++ [tC (ltL 1099511627776 h2)]
   rcases bft (decide (off < (-1099511627776))) with h3 | h3
   ·exact (o70 (d := .tup [.int .i64 0, .bool false]) (E3 ++ [tC (eF h3), tC (eF h3), tC (eF h3), tC h3, tT]) (by kernel_rfl)).to (by clear E1 E2 E3; (try simp only [decide_eq_true_eq, decide_eq_false_iff_not, beq_iff_eq, bne_iff_ne, beq_eq_false_iff_ne, bne_eq_false_iff_eq, ne_eq] at *); (first | (simp [wk, wkL, wkO, tgt2, *]; done) | (simp [wk, wkL, wkO, tgt2, *]; omega)))
   rcases bft (decide (off < 1099511627777)) with h4 | h4
   ·exact (o70 (d := .tup [.int .i64 (IntKind.wrap IntKind.i64 (IntKind.wrap IntKind.i64 (i + 1) + off)), .bool true]) (E3 ++ [tC (eF h3), tC (eF h3), tC (eF h3), tC h3, tC (ltL 1099511627776 h4)]) (by kernel_rfl)).to (by clear E1 E2 E3; (try simp only [decide_eq_true_eq, decide_eq_false_iff_not, beq_iff_eq, bne_iff_ne, beq_eq_false_iff_ne, bne_eq_false_iff_eq, ne_eq] at *); (first | (simp [wk, wkL, wkO, tgt2, *]; done) | (simp [wk, wkL, wkO, tgt2, *]; omega)))
   exact (o70 (d := .tup [.int .i64 0, .bool false]) (E3 ++ [tC (eF h3), tC (eF h3), tC (eF h3), tC h3, tC (ltL 1099511627776 h4)]) (by kernel_rfl)).to (by clear E1 E2 E3; (try simp only [decide_eq_true_eq, decide_eq_false_iff_not, beq_iff_eq, bne_iff_ne, beq_eq_false_iff_ne, bne_eq_false_iff_eq, ne_eq] at *); (first | (simp [wk, wkL, wkO, tgt2, *]; done) | (simp [wk, wkL, wkO, tgt2, *]; omega)))
  exact (o70 (d := .tup [.int .i64 0, .bool false]) (E2 ++ List.replicate 3 (tC (eF (ltL 1099511627776 h2))) ++ [tC (ltL 1099511627776 h2), tF, tF, tF, tT, tT]) (by kernel_rfl)).to (by clear E1 E2; (try simp only [decide_eq_true_eq, decide_eq_false_iff_not, beq_iff_eq, bne_iff_ne, beq_eq_false_iff_ne, bne_eq_false_iff_eq, ne_eq] at *); (first | (simp [wk, wkL, wkO, tgt2, *]; done) | (simp [wk, wkL, wkO, tgt2, *]; omega)))
 let E4 : EL := (List.replicate 3 (tC (eT (nt (neOf h0)))) ++ [tC (nt (neOf h0))])
 by_cases h5 : kind = 4
 ·subst h5
  rcases bft (decide (i < (-1099511627776))) with h6 | h6
  ·exact (o70 (d := .tup [.int .i64 0, .bool false]) (E4 ++ [tT, tT, tF, tC (eF h6), tC (eF h6), tC h6, tF, tF, tF, tT, tF, tF, tF, tT, tT]) (by kernel_rfl)).to (by clear E4; (try simp only [decide_eq_true_eq, decide_eq_false_iff_not, beq_iff_eq, bne_iff_ne, beq_eq_false_iff_ne, bne_eq_false_iff_eq, ne_eq] at *); (first | (simp [wk, wkL, wkO, tgt2, *]; done) | (simp [wk, wkL, wkO, tgt2, *]; omega)))
  let E5 : EL := E4 ++ [tT, tT, tF, tC (eF h6), tC (eF h6), tC h6]
  rcases bft (decide (i < 1099511627777)) with h7 | h7
  ·let E6 : EL := E5 ++ List.replicate 3 (tC (eF (ltL 1099511627776 h7))) ++ [tC (ltL 1099511627776 h7)]
   rcases bft (decide (off < (-1099511627776))) with h8 | h8
   ·exact (o70 (d := .tup [.int .i64 0, .bool false]) (E6 ++ [tC (eF h8), tC (eF h8), tC (eF h8), tC h8, tT]) (by kernel_rfl)).to (by clear E4 E5 E6; (try simp only [decide_eq_true_eq, decide_eq_false_iff_not, beq_iff_eq, bne_iff_ne, beq_eq_false_iff_ne, bne_eq_false_iff_eq, ne_eq] at *); (first | (simp [wk, wkL, wkO, tgt2, *]; done) | (simp [wk, wkL, wkO, tgt2, *]; omega)))
   rcases bft (decide (off < 1099511627777)) with h9 | h9
   ·exact (o70 (d := .tup [.int .i64 (IntKind.wrap IntKind.i64 (IntKind.wrap IntKind.i64 (i + 1) + off)), .bool true]) (E6 ++ [tC (eF h8), tC (eF h8), tC (eF h8), tC h8, tC (ltL 1099511627776 h9)]) (by kernel_rfl)).to (by clear E4 E5 E6; (try simp only [decide_eq_true_eq, decide_eq_false_iff_not, beq_iff_eq, bne_iff_ne, beq_eq_false_iff_ne, bne_eq_false_iff_eq, ne_eq] at *); (first | (simp [wk, wkL, wkO, tgt2, *]; done) | (simp [wk, wkL, wkO, tgt2, *]; omega)))
   exact (o70 (d := .tup [.int .i64 0, .bool false]) (E6 ++ [tC (eF h8), tC (eF h8), tC (eF h8), tC h8, tC (ltL 1099511627776 h9)]) (by kernel_rfl)).to (by clear E4 E5 E6; (try simp only [decide_eq_true_eq, decide_eq_false_iff_not, beq_iff_eq, bne_iff_ne, beq_eq_false_iff_ne, bne_eq_false_iff_eq, ne_eq] at *); (first | (simp [wk, wkL, wkO, tgt2, *]; done) | (simp [wk, wkL, wkO, tgt2, *]; omega)))
  exact (o70 (d := .tup [.int .i64 0, .bool false]) (E5 ++ List.replicate 3 (tC (eF (ltL 1099511627776 h7))) ++ [tC (ltL 1099511627776 h7), tF, tF, tF, tT, tT]) (by kernel_rfl)).to (by clear E4 E5; (try simp only [decide_eq_true_eq, decide_eq_false_iff_not, beq_iff_eq, bne_iff_ne, beq_eq_false_iff_ne, bne_eq_false_iff_eq, ne_eq] at *); (first | (simp [wk, wkL, wkO, tgt2, *]; done) | (simp [wk, wkL, wkO, tgt2, *]; omega)))
 exact (o70 (d := .tup [.int .i64 0, .bool false]) (E4 ++ [tC (eF (nt (neOf h5))), tC (eF (nt (neOf h5))), tC (nt (neOf h5)), tF, tF, tT, tF, tF, tF, tT, tF, tF, tF, tT, tT]) (by kernel_rfl)).to (by clear E4; (try simp only [decide_eq_true_eq, decide_eq_false_iff_not, beq_iff_eq, bne_iff_ne, beq_eq_false_iff_ne, bne_eq_false_iff_eq, ne_eq] at *); (first | (simp [wk, wkL, wkO, tgt2, *]; done) | (simp [wk, wkL, wkO, tgt2, *]; omega)))
end Go.Proofs.Ytcngafhpodeenaa

namespace Go.Proofs.Ytcngafhpodeenaa
open Go Go.Ev
set_option maxRecDepth 100000
theorem tgtw (i kind off : Int) : (if tgt2 i kind off = true then IntKind.i64.wrap (IntKind.i64.wrap (i + 1) + off) else 0) = tgt1 i kind off := by
 unfold tgt1
 split
 ·rename_i h
  simp only [tgt2, Bool.and_eq_true, decide_eq_true_eq] at h
  rw [w_i64, w_i64]
  omega
 ·rfl
theorem target_ok (i kind op width size : Int) (byReg : Bool) (dst src off imm : Int) : Ret Try.prog 76 [.int .i64 i, instD kind op width size byReg dst src off imm] (.tup [.int .i64 (tgt1 i kind off), .bool (tgt2 i kind off)]) := by
 have := tgt_ok i kind op width size byReg dst src off imm
 rw [tgtw] at this
 exact this
theorem rtarget_ok (i kind op width size : Int) (byReg : Bool) (dst src off imm : Int) : Ret Try.prog 70 [.int .i64 i, instD kind op width size byReg dst src off imm] (.tup [.int .i64 (tgt1 i kind off), .bool (tgt2 i kind off)]) := by
 have := rtgt_ok i kind op width size byReg dst src off imm
 rw [tgtw] at this
 exact this
end Go.Proofs.Ytcngafhpodeenaa

namespace Go.Proofs.Ytcngafhpodeenaa
open Go Go.Ev
set_option maxRecDepth 100000
set_option maxHeartbeats 8000000
theorem ck_end (l : List D) (ctx n k : Int) (h : n ≤ k) (m : Int) (hm : m = n - 1)  : RoundRun Try.prog (loopB Try.f42 0) ⟨[1, 4], [0], []⟩ 3 [uu, D.ptr false 0 0, uu, uu, .int .i64 m, uu, uu, uu, uu, uu, uu, uu, uu, uu, uu, uu, uu, uu, uu, uu, uu, uu, uu, uu, .lst .no 9 l, .int .i64 n, .int .i64 k, uu, uu, uu, uu, uu, uu, uu, uu, uu, uu, uu, uu, uu, uu, uu, uu, uu, uu, uu, uu, uu, uu, uu, uu, uu, uu, uu, uu, uu, uu, uu, uu, uu, uu, uu, uu] [Ob.box [.int .i64 ctx, .lst .no 9 l], Ob.dead, Ob.dead] (Ex.exit (1 : Nat)) [uu, D.ptr false 0 0, uu, uu, .int .i64 m, uu, uu, uu, uu, uu, uu, uu, uu, uu, uu, uu, uu, uu, uu, uu, uu, uu, uu, uu, uu, uu, uu, uu, uu, uu, uu, uu, uu, uu, uu, uu, uu, uu, uu, uu, uu, uu, uu, uu, uu, uu, uu, uu, uu, uu, uu, uu, uu, uu, uu, uu, uu, uu, uu, uu, uu, uu, uu] ([Ob.box [.int .i64 ctx, .lst .no 9 l], Ob.dead, Ob.dead]) := by
 exact (RoundRun.of_eval (sp := ⟨[1, 4], [0], []⟩) (n0 := 3) (ex := Ex.exit (1 : Nat)) (t' := [uu, D.ptr false 0 0, uu, uu, .int .i64 m, uu, uu, uu, uu, uu, uu, uu, uu, uu, uu, uu, uu, uu, uu, uu, uu, uu, uu, uu, uu, uu, uu, uu, uu, uu, uu, uu, uu, uu, uu, uu, uu, uu, uu, uu, uu, uu, uu, uu, uu, uu, uu, uu, uu, uu, uu, uu, uu, uu, uu, uu, uu, uu, uu, uu, uu, uu, uu]) (s' := [Ob.box [.int .i64 ctx, .lst .no 9 l], Ob.dead, Ob.dead]) mixed [tC (by ((try simp only [List.length_append, List.length_cons, List.length_nil, sl2] at *); omega) : (decide (k < n)) = false)] (by kernel_rfl)).cast (by rfl) (by rfl)
theorem ck_op (l : List D) (ctx n k : Int) (k0 : 0 ≤ k) (k1 : k < n) (n1 : n ≤ 64) (kind op width size : Int) (byReg : Bool) (dst src off imm : Int) (hx : l[k.toNat]? = some (instD kind op width size byReg dst src off imm)) (he : mayM kind op width size byReg dst src off imm = false) (m : Int) (hm : m = n - 1)  : RoundRun Try.prog (loopB Try.f42 0) ⟨[2, 3], [], []⟩ 3 [uu, D.ptr false 0 0, uu, uu, .int .i64 m, uu, uu, uu, uu, uu, uu, uu, uu, uu, uu, uu, uu, uu, uu, uu, uu, uu, uu, uu, .lst .no 9 l, .int .i64 n, .int .i64 k, uu, uu, uu, uu, uu, uu, uu, uu, uu, uu, uu, uu, uu, uu, uu, uu, uu, uu, uu, uu, uu, uu, uu, uu, uu, uu, uu, uu, uu, uu, uu, uu, uu, uu, uu, uu] [Ob.box [.int .i64 ctx, .lst .no 9 l], Ob.dead, Ob.dead] (Ex.ret) [uu, uu, .int .i64 k, .int .i64 31, uu, uu, uu, uu, uu, uu, uu, uu, uu, uu, uu, uu, uu, uu, uu, uu, uu, uu, uu, uu, uu, uu, uu, uu, uu, uu, uu, uu, uu, uu, uu, uu, uu, uu, uu, uu, uu, uu, uu, uu, uu, uu, uu, uu, uu, uu, uu, uu, uu, uu, uu, uu, uu, uu, uu, uu, uu, uu, uu] ([Ob.dead, Ob.dead, Ob.dead]) := by
 have c0 := @instrMay_ok kind op width size byReg dst src off imm
 exact (RoundRun.of_eval (sp := ⟨[2, 3], [], []⟩) (n0 := 3) (ex := Ex.ret) (t' := [uu, uu, .int .i64 k, .int .i64 31, uu, uu, uu, uu, uu, uu, uu, uu, uu, uu, uu, uu, uu, uu, uu, uu, uu, uu, uu, uu, uu, uu, uu, uu, uu, uu, uu, uu, uu, uu, uu, uu, uu, uu, uu, uu, uu, uu, uu, uu, uu, uu, uu, uu, uu, uu, uu, uu, uu, uu, uu, uu, uu, uu, uu, uu, uu, uu, uu]) (s' := [Ob.dead, Ob.dead, Ob.dead]) mixed [tC (by ((try simp only [List.length_append, List.length_cons, List.length_nil, sl2] at *); omega) : (decide (k < n)) = true), tC (v := true) (leL 0 (decide_eq_false (Int.not_lt.2 k0))), .get _ _ _ hx, .ret _ _ _ c0, tC (nt he)] (by kernel_rfl)).cast (by rfl) (by rfl)
theorem ck_low (l : List D) (ctx n k : Int) (k0 : 0 ≤ k) (k1 : k < n) (n1 : n ≤ 64) (kind op width size : Int) (byReg : Bool) (dst src off imm : Int) (hx : l[k.toNat]? = some (instD kind op width size byReg dst src off imm)) (he : mayM kind op width size byReg dst src off imm = true) (ht : tgt2 k kind off = true) (h : tgt1 k kind off < 0) (m : Int) (hm : m = n - 1)  : RoundRun Try.prog (loopB Try.f42 0) ⟨[2, 3], [], []⟩ 3 [uu, D.ptr false 0 0, uu, uu, .int .i64 m, uu, uu, uu, uu, uu, uu, uu, uu, uu, uu, uu, uu, uu, uu, uu, uu, uu, uu, uu, .lst .no 9 l, .int .i64 n, .int .i64 k, uu, uu, uu, uu, uu, uu, uu, uu, uu, uu, uu, uu, uu, uu, uu, uu, uu, uu, uu, uu, uu, uu, uu, uu, uu, uu, uu, uu, uu, uu, uu, uu, uu, uu, uu, uu] [Ob.box [.int .i64 ctx, .lst .no 9 l], Ob.dead, Ob.dead] (Ex.ret) [uu, uu, .int .i64 k, .int .i64 32, uu, uu, uu, uu, uu, uu, uu, uu, uu, uu, uu, uu, uu, uu, uu, uu, uu, uu, uu, uu, uu, uu, uu, uu, uu, uu, uu, uu, uu, uu, uu, uu, uu, uu, uu, uu, uu, uu, uu, uu, uu, uu, uu, uu, uu, uu, uu, uu, uu, uu, uu, uu, uu, uu, uu, uu, uu, uu, uu] ([Ob.dead, Ob.dead, Ob.dead]) := by
 have c0 := @instrMay_ok kind op width size byReg dst src off imm
 have c1 := @target_ok k kind op width size byReg dst src off imm
 have c2 := @within64_ok (tgt1 k kind off) 0 m
 exact (RoundRun.of_eval (sp := ⟨[2, 3], [], []⟩) (n0 := 3) (ex := Ex.ret) (t' := [uu, uu, .int .i64 k, .int .i64 32, uu, uu, uu, uu, uu, uu, uu, uu, uu, uu, uu, uu, uu, uu, uu, uu, uu, uu, uu, uu, uu, uu, uu, uu, uu, uu, uu, uu, uu, uu, uu, uu, uu, uu, uu, uu, uu, uu, uu, uu, uu, uu, uu, uu, uu, uu, uu, uu, uu, uu, uu, uu, uu, uu, uu, uu, uu, uu, uu]) (s' := [Ob.dead, Ob.dead, Ob.dead]) mixed [tC (by ((try simp only [List.length_append, List.length_cons, List.length_nil, sl2] at *); omega) : (decide (k < n)) = true), tC (v := true) (leL 0 (decide_eq_false (Int.not_lt.2 k0))), .get _ _ _ hx, .ret _ _ _ c0, tC (nt he), .ret _ _ _ c1, tC (eT ht), tC (eT ht), tC (eT ht), .ret _ _ _ c2, tC (eT ht), tC ht, tC (nt (andF (y := decide (tgt1 k kind off ≤ m)) (leL 0 (decide_eq_true h))))] (by kernel_rfl)).cast (by rfl) (by rfl)
theorem ck_high (l : List D) (ctx n k : Int) (k0 : 0 ≤ k) (k1 : k < n) (n1 : n ≤ 64) (kind op width size : Int) (byReg : Bool) (dst src off imm : Int) (hx : l[k.toNat]? = some (instD kind op width size byReg dst src off imm)) (he : mayM kind op width size byReg dst src off imm = true) (ht : tgt2 k kind off = true) (h0 : 0 ≤ tgt1 k kind off) (h : n ≤ tgt1 k kind off) (m : Int) (hm : m = n - 1)  : RoundRun Try.prog (loopB Try.f42 0) ⟨[2, 3], [], []⟩ 3 [uu, D.ptr false 0 0, uu, uu, .int .i64 m, uu, uu, uu, uu, uu, uu, uu, uu, uu, uu, uu, uu, uu, uu, uu, uu, uu, uu, uu, .lst .no 9 l, .int .i64 n, .int .i64 k, uu, uu, uu, uu, uu, uu, uu, uu, uu, uu, uu, uu, uu, uu, uu, uu, uu, uu, uu, uu, uu, uu, uu, uu, uu, uu, uu, uu, uu, uu, uu, uu, uu, uu, uu, uu] [Ob.box [.int .i64 ctx, .lst .no 9 l], Ob.dead, Ob.dead] (Ex.ret) [uu, uu, .int .i64 k, .int .i64 32, uu, uu, uu, uu, uu, uu, uu, uu, uu, uu, uu, uu, uu, uu, uu, uu, uu, uu, uu, uu, uu, uu, uu, uu, uu, uu, uu, uu, uu, uu, uu, uu, uu, uu, uu, uu, uu, uu, uu, uu, uu, uu, uu, uu, uu, uu, uu, uu, uu, uu, uu, uu, uu, uu, uu, uu, uu, uu, uu] ([Ob.dead, Ob.dead, Ob.dead]) := by
 have c0 := @instrMay_ok kind op width size byReg dst src off imm
 have c1 := @target_ok k kind op width size byReg dst src off imm
 have c2 := @within64_ok (tgt1 k kind off) 0 m
 exact (RoundRun.of_eval (sp := ⟨[2, 3], [], []⟩) (n0 := 3) (ex := Ex.ret) (t' := [uu, uu, .int .i64 k, .int .i64 32, uu, uu, uu, uu, uu, uu, uu, uu, uu, uu, uu, uu, uu, uu, uu, uu, uu, uu, uu, uu, uu, uu, uu, uu, uu, uu, uu, uu, uu, uu, uu, uu, uu, uu, uu, uu, uu, uu, uu, uu, uu, uu, uu, uu, uu, uu, uu, uu, uu, uu, uu, uu, uu, uu, uu, uu, uu, uu, uu]) (s' := [Ob.dead, Ob.dead, Ob.dead]) mixed [tC (by ((try simp only [List.length_append, List.length_cons, List.length_nil, sl2] at *); omega) : (decide (k < n)) = true), tC (v := true) (leL 0 (decide_eq_false (Int.not_lt.2 k0))), .get _ _ _ hx, .ret _ _ _ c0, tC (nt he), .ret _ _ _ c1, tC (eT ht), tC (eT ht), tC (eT ht), .ret _ _ _ c2, tC (eT ht), tC ht, tC (nt (andT (leL 0 (decide_eq_false (Int.not_lt.2 h0))) (by ((try simp only [List.length_append, List.length_cons, List.length_nil, sl2] at *); omega) : (decide (tgt1 k kind off ≤ m)) = false)))] (by kernel_rfl)).cast (by rfl) (by rfl)
theorem ck_in (l : List D) (ctx n k : Int) (k0 : 0 ≤ k) (k1 : k < n) (n1 : n ≤ 64) (kind op width size : Int) (byReg : Bool) (dst src off imm : Int) (hx : l[k.toNat]? = some (instD kind op width size byReg dst src off imm)) (he : mayM kind op width size byReg dst src off imm = true) (ht : tgt2 k kind off = true) (h0 : 0 ≤ tgt1 k kind off) (h : tgt1 k kind off < n) (m : Int) (hm : m = n - 1)  : RoundRun Try.prog (loopB Try.f42 0) ⟨[1, 4, 24, 25, 26], [0], []⟩ 3 [uu, D.ptr false 0 0, uu, uu, .int .i64 m, uu, uu, uu, uu, uu, uu, uu, uu, uu, uu, uu, uu, uu, uu, uu, uu, uu, uu, uu, .lst .no 9 l, .int .i64 n, .int .i64 k, uu, uu, uu, uu, uu, uu, uu, uu, uu, uu, uu, uu, uu, uu, uu, uu, uu, uu, uu, uu, uu, uu, uu, uu, uu, uu, uu, uu, uu, uu, uu, uu, uu, uu, uu, uu] [Ob.box [.int .i64 ctx, .lst .no 9 l], Ob.dead, Ob.dead] (Ex.norm) [uu, D.ptr false 0 0, uu, uu, .int .i64 m, uu, uu, uu, uu, uu, uu, uu, uu, uu, uu, uu, uu, uu, uu, uu, uu, uu, uu, uu, .lst .no 9 l, .int .i64 n, .int .i64 (IntKind.wrap IntKind.i64 (k + 1)), uu, uu, uu, uu, uu, uu, uu, uu, uu, uu, uu, uu, uu, uu, uu, uu, uu, uu, uu, uu, uu, uu, uu, uu, uu, uu, uu, uu, uu, uu, uu, uu, uu, uu, uu, uu] ([.box [.int .i64 ctx, .lst .no 9 l], .dead, .dead]) := by
 have c0 := @instrMay_ok kind op width size byReg dst src off imm
 have c1 := @target_ok k kind op width size byReg dst src off imm
 have c2 := @within64_ok (tgt1 k kind off) 0 m
 exact (RoundRun.of_eval (sp := ⟨[1, 4, 24, 25, 26], [0], []⟩) (n0 := 3) (ex := Ex.norm) (t' := [uu, D.ptr false 0 0, uu, uu, .int .i64 m, uu, uu, uu, uu, uu, uu, uu, uu, uu, uu, uu, uu, uu, uu, uu, uu, uu, uu, uu, .lst .no 9 l, .int .i64 n, .int .i64 (IntKind.wrap IntKind.i64 (k + 1)), uu, uu, uu, uu, uu, uu, uu, uu, uu, uu, uu, uu, uu, uu, uu, uu, uu, uu, uu, uu, uu, uu, uu, uu, uu, uu, uu, uu, uu, uu, uu, uu, uu, uu, uu, uu]) (s' := [Ob.box [.int .i64 ctx, .lst .no 9 l], Ob.dead, Ob.dead]) mixed [tC (by ((try simp only [List.length_append, List.length_cons, List.length_nil, sl2] at *); omega) : (decide (k < n)) = true), tC (v := true) (leL 0 (decide_eq_false (Int.not_lt.2 k0))), .get _ _ _ hx, .ret _ _ _ c0, tC (nt he), .ret _ _ _ c1, tC (eT ht), tC (eT ht), tC (eT ht), .ret _ _ _ c2, tC (eT ht), tC ht, tC (nt (andT (leL 0 (decide_eq_false (Int.not_lt.2 h0))) (by ((try simp only [List.length_append, List.length_cons, List.length_nil, sl2] at *); omega) : (decide (tgt1 k kind off ≤ m)) = true)))] (by kernel_rfl)).cast (by rfl) (by rfl)
theorem ck_no (l : List D) (ctx n k : Int) (k0 : 0 ≤ k) (k1 : k < n) (n1 : n ≤ 64) (kind op width size : Int) (byReg : Bool) (dst src off imm : Int) (hx : l[k.toNat]? = some (instD kind op width size byReg dst src off imm)) (he : mayM kind op width size byReg dst src off imm = true) (ht : tgt2 k kind off = false) (m : Int) (hm : m = n - 1)  : RoundRun Try.prog (loopB Try.f42 0) ⟨[1, 4, 24, 25, 26], [0], []⟩ 3 [uu, D.ptr false 0 0, uu, uu, .int .i64 m, uu, uu, uu, uu, uu, uu, uu, uu, uu, uu, uu, uu, uu, uu, uu, uu, uu, uu, uu, .lst .no 9 l, .int .i64 n, .int .i64 k, uu, uu, uu, uu, uu, uu, uu, uu, uu, uu, uu, uu, uu, uu, uu, uu, uu, uu, uu, uu, uu, uu, uu, uu, uu, uu, uu, uu, uu, uu, uu, uu, uu, uu, uu, uu] [Ob.box [.int .i64 ctx, .lst .no 9 l], Ob.dead, Ob.dead] (Ex.norm) [uu, D.ptr false 0 0, uu, uu, .int .i64 m, uu, uu, uu, uu, uu, uu, uu, uu, uu, uu, uu, uu, uu, uu, uu, uu, uu, uu, uu, .lst .no 9 l, .int .i64 n, .int .i64 (IntKind.wrap IntKind.i64 (k + 1)), uu, uu, uu, uu, uu, uu, uu, uu, uu, uu, uu, uu, uu, uu, uu, uu, uu, uu, uu, uu, uu, uu, uu, uu, uu, uu, uu, uu, uu, uu, uu, uu, uu, uu, uu, uu] ([.box [.int .i64 ctx, .lst .no 9 l], .dead, .dead]) := by
 have c0 := @instrMay_ok kind op width size byReg dst src off imm
 have c1 := @target_ok k kind op width size byReg dst src off imm
 exact (RoundRun.of_eval (sp := ⟨[1, 4, 24, 25, 26], [0], []⟩) (n0 := 3) (ex := Ex.norm) (t' := [uu, D.ptr false 0 0, uu, uu, .int .i64 m, uu, uu, uu, uu, uu, uu, uu, uu, uu, uu, uu, uu, uu, uu, uu, uu, uu, uu, uu, .lst .no 9 l, .int .i64 n, .int .i64 (IntKind.wrap IntKind.i64 (k + 1)), uu, uu, uu, uu, uu, uu, uu, uu, uu, uu, uu, uu, uu, uu, uu, uu, uu, uu, uu, uu, uu, uu, uu, uu, uu, uu, uu, uu, uu, uu, uu, uu, uu, uu, uu, uu]) (s' := [Ob.box [.int .i64 ctx, .lst .no 9 l], Ob.dead, Ob.dead]) mixed ([tC (by ((try simp only [List.length_append, List.length_cons, List.length_nil, sl2] at *); omega) : (decide (k < n)) = true), tC (v := true) (leL 0 (decide_eq_false (Int.not_lt.2 k0))), .get _ _ _ hx, .ret _ _ _ c0, tC (nt he), .ret _ _ _ c1] ++ List.replicate 4 (tC (eT ht)) ++ [tC ht, tF]) (by kernel_rfl)).cast (by rfl) (by rfl)
theorem rck_end (l : List D) (ctx n k : Int) (h : n ≤ k)  : RoundRun Try.prog (loopB Try.f43 0) ⟨[1, 4], [0], []⟩ 1 [uu, D.ptr false 0 0, uu, uu, .int .i64 n, .int .i64 k, uu, uu, uu, uu, uu, uu, uu, uu, uu, uu, uu, uu, uu, uu, uu, uu, uu, uu, uu, uu, uu, uu, uu, uu, uu, uu, uu, uu, uu, uu, uu, uu, uu, uu, uu, uu, uu, uu, uu, uu, uu, uu, uu, uu, uu, uu, uu, uu, uu, uu, uu, uu, uu, uu, uu, uu, uu, uu, uu, uu, uu, uu, uu, uu, uu, uu, uu, uu, uu, uu, uu, uu, uu] [Ob.box [.int .i64 ctx, .lst .no 9 l]] (Ex.exit (0 : Nat)) [uu, D.ptr false 0 0, uu, uu, .int .i64 n, uu, uu, uu, uu, uu, uu, uu, uu, uu, uu, uu, uu, uu, uu, uu, uu, uu, uu, uu, uu, uu, uu, uu, uu, uu, uu, uu, uu, uu, uu, uu, uu, uu, uu, uu, uu, uu, uu, uu, uu, uu, uu, uu, uu, uu, uu, uu, uu, uu, uu, uu, uu, uu, uu, uu, uu, uu, uu, uu, uu, uu, uu, uu, uu, uu, uu, uu, uu, uu, uu, uu, uu, uu, uu] ([Ob.box [.int .i64 ctx, .lst .no 9 l]]) := by
 exact (RoundRun.of_eval (sp := ⟨[1, 4], [0], []⟩) (n0 := 1) (ex := Ex.exit (0 : Nat)) (t' := [uu, D.ptr false 0 0, uu, uu, .int .i64 n, uu, uu, uu, uu, uu, uu, uu, uu, uu, uu, uu, uu, uu, uu, uu, uu, uu, uu, uu, uu, uu, uu, uu, uu, uu, uu, uu, uu, uu, uu, uu, uu, uu, uu, uu, uu, uu, uu, uu, uu, uu, uu, uu, uu, uu, uu, uu, uu, uu, uu, uu, uu, uu, uu, uu, uu, uu, uu, uu, uu, uu, uu, uu, uu, uu, uu, uu, uu, uu, uu, uu, uu, uu, uu]) (s' := [Ob.box [.int .i64 ctx, .lst .no 9 l]]) mixed [tC (by ((try simp only [List.length_append, List.length_cons, List.length_nil, sl2] at *); omega) : (decide (k < n)) = false)] (by kernel_rfl)).cast (by rfl) (by rfl)
theorem rck_op (l : List D) (ctx n k : Int) (k0 : 0 ≤ k) (k1 : k < n) (n1 : n ≤ 64) (kind op width size : Int) (byReg : Bool) (dst src off imm : Int) (hx : l[k.toNat]? = some (instD kind op width size byReg dst src off imm)) (he : mayM kind op width size byReg dst src off imm = false)  : RoundRun Try.prog (loopB Try.f43 0) ⟨[2, 3], [], []⟩ 1 [uu, D.ptr false 0 0, uu, uu, .int .i64 n, .int .i64 k, uu, uu, uu, uu, uu, uu, uu, uu, uu, uu, uu, uu, uu, uu, uu, uu, uu, uu, uu, uu, uu, uu, uu, uu, uu, uu, uu, uu, uu, uu, uu, uu, uu, uu, uu, uu, uu, uu, uu, uu, uu, uu, uu, uu, uu, uu, uu, uu, uu, uu, uu, uu, uu, uu, uu, uu, uu, uu, uu, uu, uu, uu, uu, uu, uu, uu, uu, uu, uu, uu, uu, uu, uu] [Ob.box [.int .i64 ctx, .lst .no 9 l]] (Ex.ret) [uu, uu, .int .i64 k, .int .i64 31, uu, uu, uu, uu, uu, uu, uu, uu, uu, uu, uu, uu, uu, uu, uu, uu, uu, uu, uu, uu, uu, uu, uu, uu, uu, uu, uu, uu, uu, uu, uu, uu, uu, uu, uu, uu, uu, uu, uu, uu, uu, uu, uu, uu, uu, uu, uu, uu, uu, uu, uu, uu, uu, uu, uu, uu, uu, uu, uu, uu, uu, uu, uu, uu, uu, uu, uu, uu, uu, uu, uu, uu, uu, uu, uu] ([Ob.dead]) := by
 have c0 := @refMay_ok kind op width size byReg dst src off imm
 exact (RoundRun.of_eval (sp := ⟨[2, 3], [], []⟩) (n0 := 1) (ex := Ex.ret) (t' := [uu, uu, .int .i64 k, .int .i64 31, uu, uu, uu, uu, uu, uu, uu, uu, uu, uu, uu, uu, uu, uu, uu, uu, uu, uu, uu, uu, uu, uu, uu, uu, uu, uu, uu, uu, uu, uu, uu, uu, uu, uu, uu, uu, uu, uu, uu, uu, uu, uu, uu, uu, uu, uu, uu, uu, uu, uu, uu, uu, uu, uu, uu, uu, uu, uu, uu, uu, uu, uu, uu, uu, uu, uu, uu, uu, uu, uu, uu, uu, uu, uu, uu]) (s' := [Ob.dead]) mixed [tC (by ((try simp only [List.length_append, List.length_cons, List.length_nil, sl2] at *); omega) : (decide (k < n)) = true), tC (v := true) (leL 0 (decide_eq_false (Int.not_lt.2 k0))), .get _ _ _ hx, .ret _ _ _ c0, tC (nt he)] (by kernel_rfl)).cast (by rfl) (by rfl)
theorem rck_low (l : List D) (ctx n k : Int) (k0 : 0 ≤ k) (k1 : k < n) (n1 : n ≤ 64) (kind op width size : Int) (byReg : Bool) (dst src off imm : Int) (hx : l[k.toNat]? = some (instD kind op width size byReg dst src off imm)) (he : mayM kind op width size byReg dst src off imm = true) (ht : tgt2 k kind off = true) (h : tgt1 k kind off < 0)  : RoundRun Try.prog (loopB Try.f43 0) ⟨[2, 3], [], []⟩ 1 [uu, D.ptr false 0 0, uu, uu, .int .i64 n, .int .i64 k, uu, uu, uu, uu, uu, uu, uu, uu, uu, uu, uu, uu, uu, uu, uu, uu, uu, uu, uu, uu, uu, uu, uu, uu, uu, uu, uu, uu, uu, uu, uu, uu, uu, uu, uu, uu, uu, uu, uu, uu, uu, uu, uu, uu, uu, uu, uu, uu, uu, uu, uu, uu, uu, uu, uu, uu, uu, uu, uu, uu, uu, uu, uu, uu, uu, uu, uu, uu, uu, uu, uu, uu, uu] [Ob.box [.int .i64 ctx, .lst .no 9 l]] (Ex.ret) [uu, uu, .int .i64 k, .int .i64 32, uu, uu, uu, uu, uu, uu, uu, uu, uu, uu, uu, uu, uu, uu, uu, uu, uu, uu, uu, uu, uu, uu, uu, uu, uu, uu, uu, uu, uu, uu, uu, uu, uu, uu, uu, uu, uu, uu, uu, uu, uu, uu, uu, uu, uu, uu, uu, uu, uu, uu, uu, uu, uu, uu, uu, uu, uu, uu, uu, uu, uu, uu, uu, uu, uu, uu, uu, uu, uu, uu, uu, uu, uu, uu, uu] ([Ob.dead]) := by
 have c0 := @refMay_ok kind op width size byReg dst src off imm
 have c1 := @rtarget_ok k kind op width size byReg dst src off imm
 exact (RoundRun.of_eval (sp := ⟨[2, 3], [], []⟩) (n0 := 1) (ex := Ex.ret) (t' := [uu, uu, .int .i64 k, .int .i64 32, uu, uu, uu, uu, uu, uu, uu, uu, uu, uu, uu, uu, uu, uu, uu, uu, uu, uu, uu, uu, uu, uu, uu, uu, uu, uu, uu, uu, uu, uu, uu, uu, uu, uu, uu, uu, uu, uu, uu, uu, uu, uu, uu, uu, uu, uu, uu, uu, uu, uu, uu, uu, uu, uu, uu, uu, uu, uu, uu, uu, uu, uu, uu, uu, uu, uu, uu, uu, uu, uu, uu, uu, uu, uu, uu]) (s' := [Ob.dead]) mixed ([tC (by ((try simp only [List.length_append, List.length_cons, List.length_nil, sl2] at *); omega) : (decide (k < n)) = true), tC (v := true) (leL 0 (decide_eq_false (Int.not_lt.2 k0))), .get _ _ _ hx, .ret _ _ _ c0, tC (nt he), tC (v := true) (leL 0 (decide_eq_false (Int.not_lt.2 k0))), .get _ _ _ hx, .ret _ _ _ c1, tC (eT ht), tC (eT ht), tC (eT ht)] ++ List.replicate 3 (tC (eF (decide_eq_true h))) ++ [tC (eT ht), tC (decide_eq_true h), tC ht, tT]) (by kernel_rfl)).cast (by rfl) (by rfl)
theorem rck_high (l : List D) (ctx n k : Int) (k0 : 0 ≤ k) (k1 : k < n) (n1 : n ≤ 64) (kind op width size : Int) (byReg : Bool) (dst src off imm : Int) (hx : l[k.toNat]? = some (instD kind op width size byReg dst src off imm)) (he : mayM kind op width size byReg dst src off imm = true) (ht : tgt2 k kind off = true) (h0 : 0 ≤ tgt1 k kind off) (h : n ≤ tgt1 k kind off)  : RoundRun Try.prog (loopB Try.f43 0) ⟨[2, 3], [], []⟩ 1 [uu, D.ptr false 0 0, uu, uu, .int .i64 n, .int .i64 k, uu, uu, uu, uu, uu, uu, uu, uu, uu, uu, uu, uu, uu, uu, uu, uu, uu, uu, uu, uu, uu, uu, uu, uu, uu, uu, uu, uu, uu, uu, uu, uu, uu, uu, uu, uu, uu, uu, uu, uu, uu, uu, uu, uu, uu, uu, uu, uu, uu, uu, uu, uu, uu, uu, uu, uu, uu, uu, uu, uu, uu, uu, uu, uu, uu, uu, uu, uu, uu, uu, uu, uu, uu] [Ob.box [.int .i64 ctx, .lst .no 9 l]] (Ex.ret) [uu, uu, .int .i64 k, .int .i64 32, uu, uu, uu, uu, uu, uu, uu, uu, uu, uu, uu, uu, uu, uu, uu, uu, uu, uu, uu, uu, uu, uu, uu, uu, uu, uu, uu, uu, uu, uu, uu, uu, uu, uu, uu, uu, uu, uu, uu, uu, uu, uu, uu, uu, uu, uu, uu, uu, uu, uu, uu, uu, uu, uu, uu, uu, uu, uu, uu, uu, uu, uu, uu, uu, uu, uu, uu, uu, uu, uu, uu, uu, uu, uu, uu] ([Ob.dead]) := by
 have c0 := @refMay_ok kind op width size byReg dst src off imm
 have c1 := @rtarget_ok k kind op width size byReg dst src off imm
 exact (RoundRun.of_eval (sp := ⟨[2, 3], [], []⟩) (n0 := 1) (ex := Ex.ret) (t' := [uu, uu, .int .i64 k, .int .i64 32, uu, uu, uu, uu, uu, uu, uu, uu, uu, uu, uu, uu, uu, uu, uu, uu, uu, uu, uu, uu, uu, uu, uu, uu, uu, uu, uu, uu, uu, uu, uu, uu, uu, uu, uu, uu, uu, uu, uu, uu, uu, uu, uu, uu, uu, uu, uu, uu, uu, uu, uu, uu, uu, uu, uu, uu, uu, uu, uu, uu, uu, uu, uu, uu, uu, uu, uu, uu, uu, uu, uu, uu, uu, uu, uu]) (s' := [Ob.dead]) mixed ([tC (by ((try simp only [List.length_append, List.length_cons, List.length_nil, sl2] at *); omega) : (decide (k < n)) = true), tC (v := true) (leL 0 (decide_eq_false (Int.not_lt.2 k0))), .get _ _ _ hx, .ret _ _ _ c0, tC (nt he), tC (v := true) (leL 0 (decide_eq_false (Int.not_lt.2 k0))), .get _ _ _ hx, .ret _ _ _ c1, tC (eT ht), tC (eT ht), tC (eT ht)] ++ List.replicate 3 (tC (eF (decide_eq_false (Int.not_lt.2 h0)))) ++ [tC (eT ht), tC (decide_eq_false (Int.not_lt.2 h0)), tC ht, tC (by ((try simp only [List.length_append, List.length_cons, List.length_nil, sl2] at *); omega) : (decide (tgt1 k kind off ≥ n)) = true)]) (by kernel_rfl)).cast (by rfl) (by rfl)
theorem rck_in (l : List D) (ctx n k : Int) (k0 : 0 ≤ k) (k1 : k < n) (n1 : n ≤ 64) (kind op width size : Int) (byReg : Bool) (dst src off imm : Int) (hx : l[k.toNat]? = some (instD kind op width size byReg dst src off imm)) (he : mayM kind op width size byReg dst src off imm = true) (ht : tgt2 k kind off = true) (h0 : 0 ≤ tgt1 k kind off) (h : tgt1 k kind off < n)  : RoundRun Try.prog (loopB Try.f43 0) ⟨[1, 4, 5], [0], []⟩ 1 [uu, D.ptr false 0 0, uu, uu, .int .i64 n, .int .i64 k, uu, uu, uu, uu, uu, uu, uu, uu, uu, uu, uu, uu, uu, uu, uu, uu, uu, uu, uu, uu, uu, uu, uu, uu, uu, uu, uu, uu, uu, uu, uu, uu, uu, uu, uu, uu, uu, uu, uu, uu, uu, uu, uu, uu, uu, uu, uu, uu, uu, uu, uu, uu, uu, uu, uu, uu, uu, uu, uu, uu, uu, uu, uu, uu, uu, uu, uu, uu, uu, uu, uu, uu, uu] [Ob.box [.int .i64 ctx, .lst .no 9 l]] (Ex.norm) [uu, D.ptr false 0 0, uu, uu, .int .i64 n, .int .i64 (IntKind.wrap IntKind.i64 (k + 1)), uu, uu, uu, uu, uu, uu, uu, uu, uu, uu, uu, uu, uu, uu, uu, uu, uu, uu, uu, uu, uu, uu, uu, uu, uu, uu, uu, uu, uu, uu, uu, uu, uu, uu, uu, uu, uu, uu, uu, uu, uu, uu, uu, uu, uu, uu, uu, uu, uu, uu, uu, uu, uu, uu, uu, uu, uu, uu, uu, uu, uu, uu, uu, uu, uu, uu, uu, uu, uu, uu, uu, uu, uu] ([.box [.int .i64 ctx, .lst .no 9 l]]) := by
 have c0 := @refMay_ok kind op width size byReg dst src off imm
 have c1 := @rtarget_ok k kind op width size byReg dst src off imm
 exact (RoundRun.of_eval (sp := ⟨[1, 4, 5], [0], []⟩) (n0 := 1) (ex := Ex.norm) (t' := [uu, D.ptr false 0 0, uu, uu, .int .i64 n, .int .i64 (IntKind.wrap IntKind.i64 (k + 1)), uu, uu, uu, uu, uu, uu, uu, uu, uu, uu, uu, uu, uu, uu, uu, uu, uu, uu, uu, uu, uu, uu, uu, uu, uu, uu, uu, uu, uu, uu, uu, uu, uu, uu, uu, uu, uu, uu, uu, uu, uu, uu, uu, uu, uu, uu, uu, uu, uu, uu, uu, uu, uu, uu, uu, uu, uu, uu, uu, uu, uu, uu, uu, uu, uu, uu, uu, uu, uu, uu, uu, uu, uu]) (s' := [Ob.box [.int .i64 ctx, .lst .no 9 l]]) mixed ([tC (by ((try simp only [List.length_append, List.length_cons, List.length_nil, sl2] at *); omega) : (decide (k < n)) = true), tC (v := true) (leL 0 (decide_eq_false (Int.not_lt.2 k0))), .get _ _ _ hx, .ret _ _ _ c0, tC (nt he), tC (v := true) (leL 0 (decide_eq_false (Int.not_lt.2 k0))), .get _ _ _ hx, .ret _ _ _ c1, tC (eT ht), tC (eT ht), tC (eT ht)] ++ List.replicate 3 (tC (eF (decide_eq_false (Int.not_lt.2 h0)))) ++ [tC (eT ht), tC (decide_eq_false (Int.not_lt.2 h0)), tC ht, tC (by ((try simp only [List.length_append, List.length_cons, List.length_nil, sl2] at *); omega) : (decide (tgt1 k kind off ≥ n)) = false)]) (by kernel_rfl)).cast (by rfl) (by rfl)
theorem rck_no (l : List D) (ctx n k : Int) (k0 : 0 ≤ k) (k1 : k < n) (n1 : n ≤ 64) (kind op width size : Int) (byReg : Bool) (dst src off imm : Int) (hx : l[k.toNat]? = some (instD kind op width size byReg dst src off imm)) (he : mayM kind op width size byReg dst src off imm = true) (ht : tgt2 k kind off = false)  : RoundRun Try.prog (loopB Try.f43 0) ⟨[1, 4, 5], [0], []⟩ 1 [uu, D.ptr false 0 0, uu, uu, .int .i64 n, .int .i64 k, uu, uu, uu, uu, uu, uu, uu, uu, uu, uu, uu, uu, uu, uu, uu, uu, uu, uu, uu, uu, uu, uu, uu, uu, uu, uu, uu, uu, uu, uu, uu, uu, uu, uu, uu, uu, uu, uu, uu, uu, uu, uu, uu, uu, uu, uu, uu, uu, uu, uu, uu, uu, uu, uu, uu, uu, uu, uu, uu, uu, uu, uu, uu, uu, uu, uu, uu, uu, uu, uu, uu, uu, uu] [Ob.box [.int .i64 ctx, .lst .no 9 l]] (Ex.norm) [uu, D.ptr false 0 0, uu, uu, .int .i64 n, .int .i64 (IntKind.wrap IntKind.i64 (k + 1)), uu, uu, uu, uu, uu, uu, uu, uu, uu, uu, uu, uu, uu, uu, uu, uu, uu, uu, uu, uu, uu, uu, uu, uu, uu, uu, uu, uu, uu, uu, uu, uu, uu, uu, uu, uu, uu, uu, uu, uu, uu, uu, uu, uu, uu, uu, uu, uu, uu, uu, uu, uu, uu, uu, uu, uu, uu, uu, uu, uu, uu, uu, uu, uu, uu, uu, uu, uu, uu, uu, uu, uu, uu] ([.box [.int .i64 ctx, .lst .no 9 l]]) := by
 have c0 := @refMay_ok kind op width size byReg dst src off imm
 have c1 := @rtarget_ok k kind op width size byReg dst src off imm
 exact (RoundRun.of_eval (sp := ⟨[1, 4, 5], [0], []⟩) (n0 := 1) (ex := Ex.norm) (t' := [uu, D.ptr false 0 0, uu, uu, .int .i64 n, .int .i64 (IntKind.wrap IntKind.i64 (k + 1)), uu, uu, uu, uu, uu, uu, uu, uu, uu, uu, uu, uu, uu, uu, uu, uu, uu, uu, uu, uu, uu, uu, uu, uu, uu, uu, uu, uu, uu, uu, uu, uu, uu, uu, uu, uu, uu, uu, uu, uu, uu, uu, uu, uu, uu, uu, uu, uu, uu, uu, uu, uu, uu, uu, uu, uu, uu, uu, uu, uu, uu, uu, uu, uu, uu, uu, uu, uu, uu, uu, uu, uu, uu]) (s' := [Ob.box [.int .i64 ctx, .lst .no 9 l]]) mixed ([tC (by ((try simp only [List.length_append, List.length_cons, List.length_nil, sl2] at *); omega) : (decide (k < n)) = true), tC (v := true) (leL 0 (decide_eq_false (Int.not_lt.2 k0))), .get _ _ _ hx, .ret _ _ _ c0, tC (nt he), tC (v := true) (leL 0 (decide_eq_false (Int.not_lt.2 k0))), .get _ _ _ hx, .ret _ _ _ c1] ++ List.replicate 4 (tC (eT ht)) ++ [tC ht, tF]) (by kernel_rfl)).cast (by rfl) (by rfl)
end Go.Proofs.Ytcngafhpodeenaa

namespace Go.Proofs.Ytcngafhpodeenaa
open Go Go.Ev
set_option maxRecDepth 100000
theorem ckFrom_at {l : List InstS} {n : Int} {k : Nat} (h : k < l.length) : ckFrom n k (l.drop k) = if l[k].may = false then some ((k : Int), 31) else if tgt2 k l[k].kind l[k].off = true ∧ ¬ (0 ≤ tgt1 k l[k].kind l[k].off ∧ tgt1 k l[k].kind l[k].off < n) then some ((k : Int), 32) else ckFrom n ((k + 1 : Nat) : Int) (l.drop (k + 1)) := by
 rw [List.drop_eq_getElem_cons h, ckFrom]
 push_cast
 rfl
theorem ckFrom_out {l : List InstS} {n : Int} {k : Nat} (h : l.length ≤ k) : ckFrom n k (l.drop k) = none := by
 rw [List.drop_eq_nil_of_le h]
 rfl
abbrev ckT (l : List InstS) (k : Int) : List D := [.undef, .ptr false 0 0, .undef, .undef, .int .i64 (IntKind.i64.wrap (((isd l).length : Int) - 1)), .undef, .undef, .undef, .undef, .undef, .undef, .undef, .undef, .undef, .undef, .undef, .undef, .undef, .undef, .undef, .undef, .undef, .undef, .undef, .lst .no 9 (isd l), .int .i64 ((isd l).length : Int), .int .i64 k, .undef, .undef, .undef, .undef, .undef, .undef, .undef, .undef, .undef, .undef, .undef, .undef, .undef, .undef, .undef, .undef, .undef, .undef, .undef, .undef, .undef, .undef, .undef, .undef, .undef, .undef, .undef, .undef, .undef, .undef, .undef, .undef, .undef, .undef, .undef, .undef]
abbrev ckE (l : List InstS) : List D := [.undef, .ptr false 0 0, .undef, .undef, .int .i64 (IntKind.i64.wrap (((isd l).length : Int) - 1)), .undef, .undef, .undef, .undef, .undef, .undef, .undef, .undef, .undef, .undef, .undef, .undef, .undef, .undef, .undef, .undef, .undef, .undef, .undef, .undef, .undef, .undef, .undef, .undef, .undef, .undef, .undef, .undef, .undef, .undef, .undef, .undef, .undef, .undef, .undef, .undef, .undef, .undef, .undef, .undef, .undef, .undef, .undef, .undef, .undef, .undef, .undef, .undef, .undef, .undef, .undef, .undef, .undef, .undef, .undef, .undef, .undef, .undef]
abbrev ckR (r : Int × Int) : List D := [.undef, .undef, .int .i64 r.1, .int .i64 r.2, .undef, .undef, .undef, .undef, .undef, .undef, .undef, .undef, .undef, .undef, .undef, .undef, .undef, .undef, .undef, .undef, .undef, .undef, .undef, .undef, .undef, .undef, .undef, .undef, .undef, .undef, .undef, .undef, .undef, .undef, .undef, .undef, .undef, .undef, .undef, .undef, .undef, .undef, .undef, .undef, .undef, .undef, .undef, .undef, .undef, .undef, .undef, .undef, .undef, .undef, .undef, .undef, .undef, .undef, .undef, .undef, .undef, .undef, .undef]
theorem ck_rounds (l : List InstS) (h64 : l.length ≤ 64) (ctx : Int) : ∀ (m k : Nat), k + m = l.length → match ckFrom l.length k (l.drop k) with
  | none => Rounds Try.prog (loopB Try.f42 0) 3 (ckT l k) [.box [.int .i64 ctx, .lst .no 9 (isd l)], .dead, .dead] (.exit 1) (ckE l) [.box [.int .i64 ctx, .lst .no 9 (isd l)], .dead, .dead]
  | some r => Rounds Try.prog (loopB Try.f42 0) 3 (ckT l k) [.box [.int .i64 ctx, .lst .no 9 (isd l)], .dead, .dead] .ret (ckR r) [.dead, .dead, .dead]
 | 0, k, hk => by
  rw [ckFrom_out (by omega)]
  exact Rounds.last (ck_end (isd l) ctx ((isd l).length : Int) k (by rw [isd_len]; omega) (IntKind.i64.wrap (((isd l).length : Int) - 1)) (by rw [isd_len, w_i64]; omega)) (fun h => by cases h)
 | m + 1, k, hk => by
  have hlt : k < l.length := by omega
  have ih := ck_rounds l h64 ctx m (k + 1) (by omega)
  have hw : IntKind.i64.wrap ((k : Int) + 1) = ((k + 1 : Nat) : Int) := by rw [w_i64]; omega
  have hx : (isd l)[(k : Int).toNat]? = some (instD l[k].kind l[k].op l[k].width l[k].size l[k].byReg l[k].dst l[k].src l[k].off l[k].imm) := by rw [Int.toNat_natCast]; exact isd_get l k hlt
  have k1 : (k : Int) < ((isd l).length : Int) := by rw [isd_len]; omega
  have n1 : ((isd l).length : Int) ≤ 64 := by rw [isd_len]; omega
  rw [ckFrom_at hlt]
  cases hm : l[k].may with
  | false =>
   rw [if_pos rfl]
   exact Rounds.last (ck_op (isd l) ctx _ k (by omega) k1 n1 _ _ _ _ _ _ _ _ _ hx hm (IntKind.i64.wrap (((isd l).length : Int) - 1)) (by rw [isd_len, w_i64]; omega)) (fun h => by cases h)
  | true =>
   rw [if_neg (by simp)]
   cases ht : tgt2 k l[k].kind l[k].off with
   | false =>
    rw [if_neg (fun h => by cases h.1)]
    have := ck_no (isd l) ctx _ k (by omega) k1 n1 _ _ _ _ _ _ _ _ _ hx hm ht (IntKind.i64.wrap (((isd l).length : Int) - 1)) (by rw [isd_len, w_i64]; omega)
    rw [hw] at this
    split
    ·rename_i e; rw [e] at ih; exact Rounds.more this ih
    ·rename_i r e; rw [e] at ih; exact Rounds.more this ih
   | true =>
    by_cases h0 : 0 ≤ tgt1 k l[k].kind l[k].off
    ·by_cases h1 : tgt1 k l[k].kind l[k].off < (l.length : Int)
     ·rw [if_neg (fun h => h.2 ⟨h0, h1⟩)]
      have := ck_in (isd l) ctx _ k (by omega) k1 n1 _ _ _ _ _ _ _ _ _ hx hm ht h0 (by rw [isd_len]; exact h1) (IntKind.i64.wrap (((isd l).length : Int) - 1)) (by rw [isd_len, w_i64]; omega)
      rw [hw] at this
      split
      ·rename_i e; rw [e] at ih; exact Rounds.more this ih
      ·rename_i r e; rw [e] at ih; exact Rounds.more this ih
     ·rw [if_pos ⟨rfl, fun h => h1 h.2⟩]
      exact Rounds.last (ck_high (isd l) ctx _ k (by omega) k1 n1 _ _ _ _ _ _ _ _ _ hx hm ht h0 (by rw [isd_len]; omega) (IntKind.i64.wrap (((isd l).length : Int) - 1)) (by rw [isd_len, w_i64]; omega)) (fun h => by cases h)
    ·rw [if_pos ⟨rfl, fun h => h0 h.1⟩]
     exact Rounds.last (ck_low (isd l) ctx _ k (by omega) k1 n1 _ _ _ _ _ _ _ _ _ hx hm ht (by omega) (IntKind.i64.wrap (((isd l).length : Int) - 1)) (by rw [isd_len, w_i64]; omega)) (fun h => by cases h)
theorem ck_none (l : List InstS) (h64 : l.length ≤ 64) (ctx : Int) (h : ckFrom l.length 0 l = none) : LoopRun Try.prog 3 (.loop (loopB Try.f42 0)) (ckT l 0) [.box [.int .i64 ctx, .lst .no 9 (isd l)], .dead, .dead] (.exit 1) (ckE l) [.box [.int .i64 ctx, .lst .no 9 (isd l)], .dead, .dead] := by
 have := ck_rounds l h64 ctx l.length 0 (by omega)
 rw [List.drop_zero, show ((0 : Nat) : Int) = 0 from rfl, h] at this
 exact LoopRun.of_rounds (Nat.le_refl _) this
theorem ck_some (l : List InstS) (h64 : l.length ≤ 64) (ctx : Int) (r : Int × Int) (h : ckFrom l.length 0 l = some r) : LoopRun Try.prog 3 (.loop (loopB Try.f42 0)) (ckT l 0) [.box [.int .i64 ctx, .lst .no 9 (isd l)], .dead, .dead] .ret (ckR r) [.dead, .dead, .dead] := by
 have := ck_rounds l h64 ctx l.length 0 (by omega)
 rw [List.drop_zero, show ((0 : Nat) : Int) = 0 from rfl, h] at this
 exact LoopRun.of_rounds (Nat.le_refl _) this
abbrev rckT (l : List InstS) (k : Int) : List D := [.undef, .ptr false 0 0, .undef, .undef, .int .i64 ((isd l).length : Int), .int .i64 k, .undef, .undef, .undef, .undef, .undef, .undef, .undef, .undef, .undef, .undef, .undef, .undef, .undef, .undef, .undef, .undef, .undef, .undef, .undef, .undef, .undef, .undef, .undef, .undef, .undef, .undef, .undef, .undef, .undef, .undef, .undef, .undef, .undef, .undef, .undef, .undef, .undef, .undef, .undef, .undef, .undef, .undef, .undef, .undef, .undef, .undef, .undef, .undef, .undef, .undef, .undef, .undef, .undef, .undef, .undef, .undef, .undef, .undef, .undef, .undef, .undef, .undef, .undef, .undef, .undef, .undef, .undef, .undef, .undef, .undef, .undef, .undef, .undef]
abbrev rckE (l : List InstS) : List D := [.undef, .ptr false 0 0, .undef, .undef, .int .i64 ((isd l).length : Int), .undef, .undef, .undef, .undef, .undef, .undef, .undef, .undef, .undef, .undef, .undef, .undef, .undef, .undef, .undef, .undef, .undef, .undef, .undef, .undef, .undef, .undef, .undef, .undef, .undef, .undef, .undef, .undef, .undef, .undef, .undef, .undef, .undef, .undef, .undef, .undef, .undef, .undef, .undef, .undef, .undef, .undef, .undef, .undef, .undef, .undef, .undef, .undef, .undef, .undef, .undef, .undef, .undef, .undef, .undef, .undef, .undef, .undef, .undef, .undef, .undef, .undef, .undef, .undef, .undef, .undef, .undef, .undef, .undef, .undef, .undef, .undef, .undef, .undef]
abbrev rckR (r : Int × Int) : List D := [.undef, .undef, .int .i64 r.1, .int .i64 r.2, .undef, .undef, .undef, .undef, .undef, .undef, .undef, .undef, .undef, .undef, .undef, .undef, .undef, .undef, .undef, .undef, .undef, .undef, .undef, .undef, .undef, .undef, .undef, .undef, .undef, .undef, .undef, .undef, .undef, .undef, .undef, .undef, .undef, .undef, .undef, .undef, .undef, .undef, .undef, .undef, .undef, .undef, .undef, .undef, .undef, .undef, .undef, .undef, .undef, .undef, .undef, .undef, .undef, .undef, .undef, .undef, .undef, .undef, .undef, .undef, .undef, .undef, .undef, .undef, .undef, .undef, .undef, .undef, .undef, .undef, .undef, .undef, .undef, .undef, .undef]
theorem rck_rounds (l : List InstS) (h64 : l.length ≤ 64) (ctx : Int) : ∀ (m k : Nat), k + m = l.length → match ckFrom l.length k (l.drop k) with
  | none => Rounds Try.prog (loopB Try.f43 0) 1 (rckT l k) [.box [.int .i64 ctx, .lst .no 9 (isd l)]] (.exit 0) (rckE l) [.box [.int .i64 ctx, .lst .no 9 (isd l)]]
  | some r => Rounds Try.prog (loopB Try.f43 0) 1 (rckT l k) [.box [.int .i64 ctx, .lst .no 9 (isd l)]] .ret (rckR r) [.dead]
 | 0, k, hk => by
  rw [ckFrom_out (by omega)]
  exact Rounds.last (rck_end (isd l) ctx ((isd l).length : Int) k (by rw [isd_len]; omega)) (fun h => by cases h)
 | m + 1, k, hk => by
  have hlt : k < l.length := by omega
  have ih := rck_rounds l h64 ctx m (k + 1) (by omega)
  have hw : IntKind.i64.wrap ((k : Int) + 1) = ((k + 1 : Nat) : Int) := by rw [w_i64]; omega
  have hx : (isd l)[(k : Int).toNat]? = some (instD l[k].kind l[k].op l[k].width l[k].size l[k].byReg l[k].dst l[k].src l[k].off l[k].imm) := by rw [Int.toNat_natCast]; exact isd_get l k hlt
  have k1 : (k : Int) < ((isd l).length : Int) := by rw [isd_len]; omega
  have n1 : ((isd l).length : Int) ≤ 64 := by rw [isd_len]; omega
  rw [ckFrom_at hlt]
  cases hm : l[k].may with
  | false =>
   rw [if_pos rfl]
   exact Rounds.last (rck_op (isd l) ctx _ k (by omega) k1 n1 _ _ _ _ _ _ _ _ _ hx hm) (fun h => by cases h)
  | true =>
   rw [if_neg (by simp)]
   cases ht : tgt2 k l[k].kind l[k].off with
   | false =>
    rw [if_neg (fun h => by cases h.1)]
    have := rck_no (isd l) ctx _ k (by omega) k1 n1 _ _ _ _ _ _ _ _ _ hx hm ht
    rw [hw] at this
    split
    ·rename_i e; rw [e] at ih; exact Rounds.more this ih
    ·rename_i r e; rw [e] at ih; exact Rounds.more this ih
   | true =>
    by_cases h0 : 0 ≤ tgt1 k l[k].kind l[k].off
    ·by_cases h1 : tgt1 k l[k].kind l[k].off < (l.length : Int)
     ·rw [if_neg (fun h => h.2 ⟨h0, h1⟩)]
      have := rck_in (isd l) ctx _ k (by omega) k1 n1 _ _ _ _ _ _ _ _ _ hx hm ht h0 (by rw [isd_len]; exact h1)
      rw [hw] at this
      split
      ·rename_i e; rw [e] at ih; exact Rounds.more this ih
      ·rename_i r e; rw [e] at ih; exact Rounds.more this ih
     ·rw [if_pos ⟨rfl, fun h => h1 h.2⟩]
      exact Rounds.last (rck_high (isd l) ctx _ k (by omega) k1 n1 _ _ _ _ _ _ _ _ _ hx hm ht h0 (by rw [isd_len]; omega)) (fun h => by cases h)
    ·rw [if_pos ⟨rfl, fun h => h0 h.1⟩]
     exact Rounds.last (rck_low (isd l) ctx _ k (by omega) k1 n1 _ _ _ _ _ _ _ _ _ hx hm ht (by omega)) (fun h => by cases h)
theorem rck_none (l : List InstS) (h64 : l.length ≤ 64) (ctx : Int) (h : ckFrom l.length 0 l = none) : LoopRun Try.prog 1 (.loop (loopB Try.f43 0)) (rckT l 0) [.box [.int .i64 ctx, .lst .no 9 (isd l)]] (.exit 0) (rckE l) [.box [.int .i64 ctx, .lst .no 9 (isd l)]] := by
 have := rck_rounds l h64 ctx l.length 0 (by omega)
 rw [List.drop_zero, show ((0 : Nat) : Int) = 0 from rfl, h] at this
 exact LoopRun.of_rounds (Nat.le_refl _) this
theorem rck_some (l : List InstS) (h64 : l.length ≤ 64) (ctx : Int) (r : Int × Int) (h : ckFrom l.length 0 l = some r) : LoopRun Try.prog 1 (.loop (loopB Try.f43 0)) (rckT l 0) [.box [.int .i64 ctx, .lst .no 9 (isd l)]] .ret (rckR r) [.dead] := by
 have := rck_rounds l h64 ctx l.length 0 (by omega)
 rw [List.drop_zero, show ((0 : Nat) : Int) = 0 from rfl, h] at this
 exact LoopRun.of_rounds (Nat.le_refl _) this
end Go.Proofs.Ytcngafhpodeenaa

namespace Go.Proofs.Ytcngafhpodeenaa
open Go Go.Ev
set_option maxRecDepth 100000
set_option maxHeartbeats 8000000
theorem chk_neg_ok (ctx : Int) (l : List InstS) (h : ctx < 0)  : Ret Try.prog 42 ([.agg [.int .i64 ctx, .lst .no 9 (isd l)]]) (.tup [.int .i64 (0), .int .i64 (2)]) := by
 have c0 := @within64_ok ctx 0 256
 exact (o42 (d := .tup [.int .i64 0, .int .i64 2]) [.ret _ _ _ c0, tC (nt (andF (y := decide (ctx ≤ 256)) (leL 0 (decide_eq_true h))))] (by kernel_rfl)).to (by simp [wk, wkL, wkO])
theorem chk_far_ok (ctx : Int) (l : List InstS) (h : 256 < ctx)  : Ret Try.prog 42 ([.agg [.int .i64 ctx, .lst .no 9 (isd l)]]) (.tup [.int .i64 (0), .int .i64 (2)]) := by
 have c0 := @within64_ok ctx 0 256
 exact (o42 (d := .tup [.int .i64 0, .int .i64 2]) [.ret _ _ _ c0, tC (nt (andT (leL 0 (ltD 0 (decide_eq_false (by omega : ¬ ctx < 257)))) (leC 256 (decide_eq_false (by omega : ¬ ctx < 257)))))] (by kernel_rfl)).to (by simp [wk, wkL, wkO])
theorem chk_nil_ok (ctx : Int) (l : List InstS) (p0 : 0 ≤ ctx) (p1 : ctx ≤ 256) (h : ((isd l).length : Int) ≤ 0)  : Ret Try.prog 42 ([.agg [.int .i64 ctx, .lst .no 9 (isd l)]]) (.tup [.int .i64 (0), .int .i64 (3)]) := by
 have c0 := @within64_ok ctx 0 256
 have c1 := @within64_ok (IntKind.wrap IntKind.i64 ((↑(List.length (isd l)) : Int) - 1)) 0 63
 exact (o42 (d := .tup [.int .i64 0, .int .i64 3]) [.ret _ _ _ c0, tC (nt (andT (leL 0 (decide_eq_false (Int.not_lt.2 p0))) (leC 256 (decide_eq_true (Int.lt_add_one_of_le p1))))), .ret _ _ _ c1, tC (nt (andF (y := decide (IntKind.wrap IntKind.i64 ((↑(List.length (isd l)) : Int) - 1) ≤ 63)) (leL 0 (by ((try simp only [List.length_append, List.length_cons, List.length_nil, sl2] at *); omega) : (decide (IntKind.wrap IntKind.i64 ((↑(List.length (isd l)) : Int) - 1) < 0)) = true))))] (by kernel_rfl)).to (by simp [wk, wkL, wkO])
theorem chk_big_ok (ctx : Int) (l : List InstS) (p0 : 0 ≤ ctx) (p1 : ctx ≤ 256) (h : 64 < ((isd l).length : Int)) (h9 : ((isd l).length : Int) ≤ 1000000)  : Ret Try.prog 42 ([.agg [.int .i64 ctx, .lst .no 9 (isd l)]]) (.tup [.int .i64 (0), .int .i64 (3)]) := by
 have c0 := @within64_ok ctx 0 256
 have c1 := @within64_ok (IntKind.wrap IntKind.i64 ((↑(List.length (isd l)) : Int) - 1)) 0 63
 exact (o42 (d := .tup [.int .i64 0, .int .i64 3]) [.ret _ _ _ c0, tC (nt (andT (leL 0 (decide_eq_false (Int.not_lt.2 p0))) (leC 256 (decide_eq_true (Int.lt_add_one_of_le p1))))), .ret _ _ _ c1, tC (nt (andT (leL 0 (by ((try simp only [List.length_append, List.length_cons, List.length_nil, sl2] at *); omega) : (decide (IntKind.wrap IntKind.i64 ((↑(List.length (isd l)) : Int) - 1) < 0)) = false)) (leC 63 (by ((try simp only [List.length_append, List.length_cons, List.length_nil, sl2] at *); omega) : (decide (IntKind.wrap IntKind.i64 ((↑(List.length (isd l)) : Int) - 1) < 64)) = false))))] (by kernel_rfl)).to (by simp [wk, wkL, wkO])
theorem chk_at_ok (ctx : Int) (l : List InstS) (p0 : 0 ≤ ctx) (p1 : ctx ≤ 256) (n0 : 1 ≤ ((isd l).length : Int)) (n1 : ((isd l).length : Int) ≤ 64) (h64 : l.length ≤ 64) (i e : Int) (h : ckFrom l.length 0 l = some (i, e))  : Ret Try.prog 42 ([.agg [.int .i64 ctx, .lst .no 9 (isd l)]]) (.tup [.int .i64 i, .int .i64 e]) := by
 have c0 := @within64_ok ctx 0 256
 have c1 := @within64_ok (IntKind.wrap IntKind.i64 ((↑(List.length (isd l)) : Int) - 1)) 0 63
 have c2 := @ck_some l h64 ctx _ h
 exact (o42 (d := .tup [.int .i64 (Prod.fst (i, e)), .int .i64 (Prod.snd (i, e))]) [.ret _ _ _ c0, tC (nt (andT (leL 0 (decide_eq_false (Int.not_lt.2 p0))) (leC 256 (decide_eq_true (Int.lt_add_one_of_le p1))))), .ret _ _ _ c1, tC (nt (andT (leL 0 (by ((try simp only [List.length_append, List.length_cons, List.length_nil, sl2] at *); omega) : (decide (IntKind.wrap IntKind.i64 ((↑(List.length (isd l)) : Int) - 1) < 0)) = false)) (leC 63 (by ((try simp only [List.length_append, List.length_cons, List.length_nil, sl2] at *); omega) : (decide (IntKind.wrap IntKind.i64 ((↑(List.length (isd l)) : Int) - 1) < 64)) = true)))), .head ⟨[1, 4, 24, 25, 26], [0], []⟩ _ _ _ _ _ _ _ c2] (by kernel_rfl)).to (by simp [wk, wkL, wkO])
theorem chk_fall_ok (ctx : Int) (l : List InstS) (p0 : 0 ≤ ctx) (p1 : ctx ≤ 256) (n0 : 1 ≤ ((isd l).length : Int)) (n1 : ((isd l).length : Int) ≤ 64) (h64 : l.length ≤ 64) (h : ckFrom l.length 0 l = none) (kind op width size : Int) (byReg : Bool) (dst src off imm : Int) (hx : (isd l)[Int.toNat (IntKind.i64.wrap (((isd l).length : Int) - 1))]? = some (instD kind op width size byReg dst src off imm)) (k4 : (kind == 4) = false) (k6 : (kind == 6) = false)  : Ret Try.prog 42 ([.agg [.int .i64 ctx, .lst .no 9 (isd l)]]) (.tup [.int .i64 (IntKind.i64.wrap (((isd l).length : Int) - 1)), .int .i64 (33)]) := by
 have c0 := @within64_ok ctx 0 256
 have c1 := @within64_ok (IntKind.wrap IntKind.i64 ((↑(List.length (isd l)) : Int) - 1)) 0 63
 have c2 := @ck_none l h64 ctx h
 exact (o42 (d := .tup [.int .i64 (IntKind.wrap IntKind.i64 ((↑(List.length (isd l)) : Int) - 1)), .int .i64 33]) [.ret _ _ _ c0, tC (nt (andT (leL 0 (decide_eq_false (Int.not_lt.2 p0))) (leC 256 (decide_eq_true (Int.lt_add_one_of_le p1))))), .ret _ _ _ c1, tC (nt (andT (leL 0 (by ((try simp only [List.length_append, List.length_cons, List.length_nil, sl2] at *); omega) : (decide (IntKind.wrap IntKind.i64 ((↑(List.length (isd l)) : Int) - 1) < 0)) = false)) (leC 63 (by ((try simp only [List.length_append, List.length_cons, List.length_nil, sl2] at *); omega) : (decide (IntKind.wrap IntKind.i64 ((↑(List.length (isd l)) : Int) - 1) < 64)) = true)))), .head ⟨[1, 4, 24, 25, 26], [0], []⟩ _ _ _ _ _ _ _ c2, tC (v := true) (leL 0 (by ((try simp only [List.length_append, List.length_cons, List.length_nil, sl2] at *); omega) : (decide (IntKind.wrap IntKind.i64 ((↑(List.length (isd l)) : Int) - 1) < 0)) = false)), .get _ _ _ hx, tC (eT (nt k4)), tC (eT (nt k4)), tC (nt k4), tC (nt k6)] (by kernel_rfl)).to (by simp [wk, wkL, wkO])
theorem chk_goto_ok (ctx : Int) (l : List InstS) (p0 : 0 ≤ ctx) (p1 : ctx ≤ 256) (n0 : 1 ≤ ((isd l).length : Int)) (n1 : ((isd l).length : Int) ≤ 64) (h64 : l.length ≤ 64) (h : ckFrom l.length 0 l = none) (kind op width size : Int) (byReg : Bool) (dst src off imm : Int) (hx : (isd l)[Int.toNat (IntKind.i64.wrap (((isd l).length : Int) - 1))]? = some (instD kind op width size byReg dst src off imm)) (k4 : kind = 4)  : Ret Try.prog 42 ([.agg [.int .i64 ctx, .lst .no 9 (isd l)]]) (.tup [.int .i64 (0), .int .i64 (0)]) := by
 have c0 := @within64_ok ctx 0 256
 have c1 := @within64_ok (IntKind.wrap IntKind.i64 ((↑(List.length (isd l)) : Int) - 1)) 0 63
 have c2 := @ck_none l h64 ctx h
 exact (o42 (d := .tup [.int .i64 0, .int .i64 0]) [.ret _ _ _ c0, tC (nt (andT (leL 0 (decide_eq_false (Int.not_lt.2 p0))) (leC 256 (decide_eq_true (Int.lt_add_one_of_le p1))))), .ret _ _ _ c1, tC (nt (andT (leL 0 (by ((try simp only [List.length_append, List.length_cons, List.length_nil, sl2] at *); omega) : (decide (IntKind.wrap IntKind.i64 ((↑(List.length (isd l)) : Int) - 1) < 0)) = false)) (leC 63 (by ((try simp only [List.length_append, List.length_cons, List.length_nil, sl2] at *); omega) : (decide (IntKind.wrap IntKind.i64 ((↑(List.length (isd l)) : Int) - 1) < 64)) = true)))), .head ⟨[1, 4, 24, 25, 26], [0], []⟩ _ _ _ _ _ _ _ c2, tC (v := true) (leL 0 (by ((try simp only [List.length_append, List.length_cons, List.length_nil, sl2] at *); omega) : (decide (IntKind.wrap IntKind.i64 ((↑(List.length (isd l)) : Int) - 1) < 0)) = false)), .get _ _ _ hx, tC (eT (nt (eqI 4 true (by ((try simp only [List.length_append, List.length_cons, List.length_nil, sl2] at *); omega) : kind = 4)))), tC (eT (nt (eqI 4 true (by ((try simp only [List.length_append, List.length_cons, List.length_nil, sl2] at *); omega) : kind = 4)))), tC (nt (eqI 4 true (by ((try simp only [List.length_append, List.length_cons, List.length_nil, sl2] at *); omega) : kind = 4))), tF] (by kernel_rfl)).to (by simp [wk, wkL, wkO])
theorem chk_exit_ok (ctx : Int) (l : List InstS) (p0 : 0 ≤ ctx) (p1 : ctx ≤ 256) (n0 : 1 ≤ ((isd l).length : Int)) (n1 : ((isd l).length : Int) ≤ 64) (h64 : l.length ≤ 64) (h : ckFrom l.length 0 l = none) (kind op width size : Int) (byReg : Bool) (dst src off imm : Int) (hx : (isd l)[Int.toNat (IntKind.i64.wrap (((isd l).length : Int) - 1))]? = some (instD kind op width size byReg dst src off imm)) (k6 : kind = 6)  : Ret Try.prog 42 ([.agg [.int .i64 ctx, .lst .no 9 (isd l)]]) (.tup [.int .i64 (0), .int .i64 (0)]) := by
 have c0 := @within64_ok ctx 0 256
 have c1 := @within64_ok (IntKind.wrap IntKind.i64 ((↑(List.length (isd l)) : Int) - 1)) 0 63
 have c2 := @ck_none l h64 ctx h
 exact (o42 (d := .tup [.int .i64 0, .int .i64 0]) [.ret _ _ _ c0, tC (nt (andT (leL 0 (decide_eq_false (Int.not_lt.2 p0))) (leC 256 (decide_eq_true (Int.lt_add_one_of_le p1))))), .ret _ _ _ c1, tC (nt (andT (leL 0 (by ((try simp only [List.length_append, List.length_cons, List.length_nil, sl2] at *); omega) : (decide (IntKind.wrap IntKind.i64 ((↑(List.length (isd l)) : Int) - 1) < 0)) = false)) (leC 63 (by ((try simp only [List.length_append, List.length_cons, List.length_nil, sl2] at *); omega) : (decide (IntKind.wrap IntKind.i64 ((↑(List.length (isd l)) : Int) - 1) < 64)) = true)))), .head ⟨[1, 4, 24, 25, 26], [0], []⟩ _ _ _ _ _ _ _ c2, tC (v := true) (leL 0 (by ((try simp only [List.length_append, List.length_cons, List.length_nil, sl2] at *); omega) : (decide (IntKind.wrap IntKind.i64 ((↑(List.length (isd l)) : Int) - 1) < 0)) = false)), .get _ _ _ hx, tC (eT (nt (by ((try simp only [List.length_append, List.length_cons, List.length_nil, sl2] at *); omega) : (kind == 4) = false))), tC (eT (nt (by ((try simp only [List.length_append, List.length_cons, List.length_nil, sl2] at *); omega) : (kind == 4) = false))), tC (nt (by ((try simp only [List.length_append, List.length_cons, List.length_nil, sl2] at *); omega) : (kind == 4) = false)), tC (nt (eqI 6 true (by ((try simp only [List.length_append, List.length_cons, List.length_nil, sl2] at *); omega) : kind = 6)))] (by kernel_rfl)).to (by simp [wk, wkL, wkO])
theorem rchk_neg_ok (ctx : Int) (l : List InstS) (h : ctx < 0)  : Ret Try.prog 43 ([.agg [.int .i64 ctx, .lst .no 9 (isd l)]]) (.tup [.int .i64 (0), .int .i64 (2)]) := by
 exact (o43 (d := .tup [.int .i64 0, .int .i64 2]) (List.replicate 3 (tC (eF (decide_eq_true h))) ++ [tC (decide_eq_true h), tT]) (by kernel_rfl)).to (by simp [wk, wkL, wkO])
theorem rchk_far_ok (ctx : Int) (l : List InstS) (h : 256 < ctx)  : Ret Try.prog 43 ([.agg [.int .i64 ctx, .lst .no 9 (isd l)]]) (.tup [.int .i64 (0), .int .i64 (2)]) := by
 exact (o43 (d := .tup [.int .i64 0, .int .i64 2]) (List.replicate 3 (tC (eF (ltD 0 (decide_eq_false (by omega : ¬ ctx < 257))))) ++ [tC (ltD 0 (decide_eq_false (by omega : ¬ ctx < 257))), tC (ltL 256 (decide_eq_false (by omega : ¬ ctx < 257)))]) (by kernel_rfl)).to (by simp [wk, wkL, wkO])
theorem rchk_nil_ok (ctx : Int) (l : List InstS) (p0 : 0 ≤ ctx) (p1 : ctx ≤ 256) (h : ((isd l).length : Int) ≤ 0)  : Ret Try.prog 43 ([.agg [.int .i64 ctx, .lst .no 9 (isd l)]]) (.tup [.int .i64 (0), .int .i64 (3)]) := by
 exact (o43 (d := .tup [.int .i64 0, .int .i64 3]) (List.replicate 3 (tC (eF (decide_eq_false (Int.not_lt.2 p0)))) ++ [tC (decide_eq_false (Int.not_lt.2 p0)), tC (ltL 256 (decide_eq_true (Int.lt_add_one_of_le p1))), tC (eF (decide_eq_true (Int.lt_add_one_of_le h))), tC (eF (decide_eq_true (Int.lt_add_one_of_le h))), tC (decide_eq_true (Int.lt_add_one_of_le h)), tT]) (by kernel_rfl)).to (by simp [wk, wkL, wkO])
theorem rchk_big_ok (ctx : Int) (l : List InstS) (p0 : 0 ≤ ctx) (p1 : ctx ≤ 256) (h : 64 < ((isd l).length : Int)) (h9 : ((isd l).length : Int) ≤ 1000000)  : Ret Try.prog 43 ([.agg [.int .i64 ctx, .lst .no 9 (isd l)]]) (.tup [.int .i64 (0), .int .i64 (3)]) := by
 exact (o43 (d := .tup [.int .i64 0, .int .i64 3]) (List.replicate 3 (tC (eF (decide_eq_false (Int.not_lt.2 p0)))) ++ [tC (decide_eq_false (Int.not_lt.2 p0)), tC (ltL 256 (decide_eq_true (Int.lt_add_one_of_le p1))), tC (eF (ltD 1 (decide_eq_false (by omega : ¬ (↑(List.length (isd l)) : Int) < 65)))), tC (eF (ltD 1 (decide_eq_false (by omega : ¬ (↑(List.length (isd l)) : Int) < 65)))), tC (ltD 1 (decide_eq_false (by omega : ¬ (↑(List.length (isd l)) : Int) < 65))), tC (ltL 64 (decide_eq_false (by omega : ¬ (↑(List.length (isd l)) : Int) < 65)))]) (by kernel_rfl)).to (by simp [wk, wkL, wkO])
theorem rchk_at_ok (ctx : Int) (l : List InstS) (p0 : 0 ≤ ctx) (p1 : ctx ≤ 256) (n0 : 1 ≤ ((isd l).length : Int)) (n1 : ((isd l).length : Int) ≤ 64) (h64 : l.length ≤ 64) (i e : Int) (h : ckFrom l.length 0 l = some (i, e))  : Ret Try.prog 43 ([.agg [.int .i64 ctx, .lst .no 9 (isd l)]]) (.tup [.int .i64 i, .int .i64 e]) := by
 have c0 := @rck_some l h64 ctx _ h
 exact (o43 (d := .tup [.int .i64 (Prod.fst (i, e)), .int .i64 (Prod.snd (i, e))]) (List.replicate 3 (tC (eF (decide_eq_false (Int.not_lt.2 p0)))) ++ [tC (decide_eq_false (Int.not_lt.2 p0)), tC (ltL 256 (decide_eq_true (Int.lt_add_one_of_le p1))), tC (eF (decide_eq_false (Int.not_lt.2 n0))), tC (eF (decide_eq_false (Int.not_lt.2 n0))), tC (decide_eq_false (Int.not_lt.2 n0)), tC (ltL 64 (decide_eq_true (Int.lt_add_one_of_le n1))), .head ⟨[1, 4, 5], [0], []⟩ _ _ _ _ _ _ _ c0]) (by kernel_rfl)).to (by simp [wk, wkL, wkO])
theorem rchk_fall_ok (ctx : Int) (l : List InstS) (p0 : 0 ≤ ctx) (p1 : ctx ≤ 256) (n0 : 1 ≤ ((isd l).length : Int)) (n1 : ((isd l).length : Int) ≤ 64) (h64 : l.length ≤ 64) (h : ckFrom l.length 0 l = none) (kind op width size : Int) (byReg : Bool) (dst src off imm : Int) (hx : (isd l)[Int.toNat (IntKind.i64.wrap (((isd l).length : Int) - 1))]? = some (instD kind op width size byReg dst src off imm)) (k4 : (kind == 4) = false) (k6 : (kind == 6) = false)  : Ret Try.prog 43 ([.agg [.int .i64 ctx, .lst .no 9 (isd l)]]) (.tup [.int .i64 (IntKind.i64.wrap (((isd l).length : Int) - 1)), .int .i64 (33)]) := by
 have c0 := @rck_none l h64 ctx h
 exact (o43 (d := .tup [.int .i64 (IntKind.wrap IntKind.i64 ((↑(List.length (isd l)) : Int) - 1)), .int .i64 33]) (List.replicate 3 (tC (eF (decide_eq_false (Int.not_lt.2 p0)))) ++ [tC (decide_eq_false (Int.not_lt.2 p0)), tC (ltL 256 (decide_eq_true (Int.lt_add_one_of_le p1))), tC (eF (decide_eq_false (Int.not_lt.2 n0))), tC (eF (decide_eq_false (Int.not_lt.2 n0))), tC (decide_eq_false (Int.not_lt.2 n0)), tC (ltL 64 (decide_eq_true (Int.lt_add_one_of_le n1))), .head ⟨[1, 4, 5], [0], []⟩ _ _ _ _ _ _ _ c0, .tst (decide (0 ≤ IntKind.wrap IntKind.i64 ((↑(List.length (isd l)) : Int) - 1))) true (by ((try simp only [List.length_append, List.length_cons, List.length_nil, sl2] at *); omega)), .get _ _ _ hx] ++ List.replicate 5 (tC (eT (nt k4))) ++ [.tst (decide (0 ≤ IntKind.wrap IntKind.i64 ((↑(List.length (isd l)) : Int) - 1))) true (by ((try simp only [List.length_append, List.length_cons, List.length_nil, sl2] at *); omega)), .get _ _ _ hx] ++ List.replicate 3 (tC (eT (nt k4))) ++ [tC (nt k4), tC (nt k6)]) (by kernel_rfl)).to (by simp [wk, wkL, wkO])
theorem rchk_goto_ok (ctx : Int) (l : List InstS) (p0 : 0 ≤ ctx) (p1 : ctx ≤ 256) (n0 : 1 ≤ ((isd l).length : Int)) (n1 : ((isd l).length : Int) ≤ 64) (h64 : l.length ≤ 64) (h : ckFrom l.length 0 l = none) (kind op width size : Int) (byReg : Bool) (dst src off imm : Int) (hx : (isd l)[Int.toNat (IntKind.i64.wrap (((isd l).length : Int) - 1))]? = some (instD kind op width size byReg dst src off imm)) (k4 : kind = 4)  : Ret Try.prog 43 ([.agg [.int .i64 ctx, .lst .no 9 (isd l)]]) (.tup [.int .i64 (0), .int .i64 (0)]) := by
 have c0 := @rck_none l h64 ctx h
 exact (o43 (d := .tup [.int .i64 0, .int .i64 0]) (List.replicate 3 (tC (eF (decide_eq_false (Int.not_lt.2 p0)))) ++ [tC (decide_eq_false (Int.not_lt.2 p0)), tC (ltL 256 (decide_eq_true (Int.lt_add_one_of_le p1))), tC (eF (decide_eq_false (Int.not_lt.2 n0))), tC (eF (decide_eq_false (Int.not_lt.2 n0))), tC (decide_eq_false (Int.not_lt.2 n0)), tC (ltL 64 (decide_eq_true (Int.lt_add_one_of_le n1))), .head ⟨[1, 4, 5], [0], []⟩ _ _ _ _ _ _ _ c0, .tst (decide (0 ≤ IntKind.wrap IntKind.i64 ((↑(List.length (isd l)) : Int) - 1))) true (by ((try simp only [List.length_append, List.length_cons, List.length_nil, sl2] at *); omega)), .get _ _ _ hx] ++ List.replicate 8 (tC (eT (nt (eqI 4 true (by ((try simp only [List.length_append, List.length_cons, List.length_nil, sl2] at *); omega) : kind = 4))))) ++ [tC (nt (eqI 4 true (by ((try simp only [List.length_append, List.length_cons, List.length_nil, sl2] at *); omega) : kind = 4))), tF]) (by kernel_rfl)).to (by simp [wk, wkL, wkO])
theorem rchk_exit_ok (ctx : Int) (l : List InstS) (p0 : 0 ≤ ctx) (p1 : ctx ≤ 256) (n0 : 1 ≤ ((isd l).length : Int)) (n1 : ((isd l).length : Int) ≤ 64) (h64 : l.length ≤ 64) (h : ckFrom l.length 0 l = none) (kind op width size : Int) (byReg : Bool) (dst src off imm : Int) (hx : (isd l)[Int.toNat (IntKind.i64.wrap (((isd l).length : Int) - 1))]? = some (instD kind op width size byReg dst src off imm)) (k6 : kind = 6)  : Ret Try.prog 43 ([.agg [.int .i64 ctx, .lst .no 9 (isd l)]]) (.tup [.int .i64 (0), .int .i64 (0)]) := by
 have c0 := @rck_none l h64 ctx h
 exact (o43 (d := .tup [.int .i64 0, .int .i64 0]) (List.replicate 3 (tC (eF (decide_eq_false (Int.not_lt.2 p0)))) ++ [tC (decide_eq_false (Int.not_lt.2 p0)), tC (ltL 256 (decide_eq_true (Int.lt_add_one_of_le p1))), tC (eF (decide_eq_false (Int.not_lt.2 n0))), tC (eF (decide_eq_false (Int.not_lt.2 n0))), tC (decide_eq_false (Int.not_lt.2 n0)), tC (ltL 64 (decide_eq_true (Int.lt_add_one_of_le n1))), .head ⟨[1, 4, 5], [0], []⟩ _ _ _ _ _ _ _ c0, .tst (decide (0 ≤ IntKind.wrap IntKind.i64 ((↑(List.length (isd l)) : Int) - 1))) true (by ((try simp only [List.length_append, List.length_cons, List.length_nil, sl2] at *); omega)), .get _ _ _ hx] ++ List.replicate 5 (tC (eT (nt (by ((try simp only [List.length_append, List.length_cons, List.length_nil, sl2] at *); omega) : (kind == 4) = false)))) ++ [.tst (decide (0 ≤ IntKind.wrap IntKind.i64 ((↑(List.length (isd l)) : Int) - 1))) true (by ((try simp only [List.length_append, List.length_cons, List.length_nil, sl2] at *); omega)), .get _ _ _ hx] ++ List.replicate 3 (tC (eT (nt (by ((try simp only [List.length_append, List.length_cons, List.length_nil, sl2] at *); omega) : (kind == 4) = false)))) ++ [tC (nt (by ((try simp only [List.length_append, List.length_cons, List.length_nil, sl2] at *); omega) : (kind == 4) = false)), tC (nt (eqI 6 true (by ((try simp only [List.length_append, List.length_cons, List.length_nil, sl2] at *); omega) : kind = 6)))]) (by kernel_rfl)).to (by simp [wk, wkL, wkO])
end Go.Proofs.Ytcngafhpodeenaa

namespace Go.Proofs.Ytcngafhpodeenaa
open Go Go.Ev
set_option maxRecDepth 100000
theorem check_ok (ctx : Int) (l : List InstS) (h100 : l.length ≤ 100) : Ret Try.prog 42 [.agg [.int .i64 ctx, .lst .no 9 (isd l)]] (.tup [.int .i64 (checkM ctx l).1, .int .i64 (checkM ctx l).2]) := by
 have hd : ((isd l).length : Int) = (l.length : Int) := by rw [isd_len]
 by_cases h1 : ctx < 0
 ·rw [show checkM ctx l = (0, 2) by unfold checkM; rw [if_pos (.inl h1)]]
  exact chk_neg_ok ctx l h1
 by_cases h2 : 256 < ctx
 ·rw [show checkM ctx l = (0, 2) by unfold checkM; rw [if_pos (.inr h2)]]
  exact chk_far_ok ctx l h2
 have e1 : ¬ (ctx < 0 ∨ 256 < ctx) := by omega
 by_cases h3 : l.length < 1
 ·rw [show checkM ctx l = (0, 3) by unfold checkM; rw [if_neg e1, if_pos (.inl h3)]]
  exact chk_nil_ok ctx l (by omega) (by omega) (by omega)
 by_cases h4 : 64 < l.length
 ·rw [show checkM ctx l = (0, 3) by unfold checkM; rw [if_neg e1, if_pos (.inr h4)]]
  exact chk_big_ok ctx l (by omega) (by omega) (by omega) (by omega)
 have e2 : ¬ (l.length < 1 ∨ 64 < l.length) := by omega
 cases h5 : ckFrom l.length 0 l with
 | some r =>
  rw [show checkM ctx l = r by unfold checkM; rw [if_neg e1, if_neg e2, h5]]
  exact chk_at_ok ctx l (by omega) (by omega) (by omega) (by omega) (by omega) r.1 r.2 h5
 | none =>
  have hlt : l.length - 1 < l.length := by omega
  have hw : IntKind.i64.wrap (((isd l).length : Int) - 1) = ((l.length - 1 : Nat) : Int) := by rw [hd, w_i64]; omega
  have hx : (isd l)[(IntKind.i64.wrap (((isd l).length : Int) - 1)).toNat]? = some l[l.length - 1].d := by
   rw [hw, Int.toNat_natCast]; exact isd_get l _ hlt
  have hk : kindAt l (l.length - 1) = l[l.length - 1].kind := by unfold kindAt; rw [List.getElem?_eq_getElem hlt]
  by_cases k4 : l[l.length - 1].kind = 4
  ·rw [show checkM ctx l = (0, 0) by unfold checkM; rw [if_neg e1, if_neg e2, h5]; exact if_pos (.inl (hk.trans k4))]
   exact chk_goto_ok ctx l (by omega) (by omega) (by omega) (by omega) (by omega) h5 _ _ _ _ _ _ _ _ _ hx k4
  by_cases k6 : l[l.length - 1].kind = 6
  ·rw [show checkM ctx l = (0, 0) by unfold checkM; rw [if_neg e1, if_neg e2, h5]; exact if_pos (.inr (hk.trans k6))]
   exact chk_exit_ok ctx l (by omega) (by omega) (by omega) (by omega) (by omega) h5 _ _ _ _ _ _ _ _ _ hx k6
  ·rw [show checkM ctx l = (((l.length - 1 : Nat) : Int), 33) by unfold checkM; rw [if_neg e1, if_neg e2, h5, hk]; simp only [if_neg (show ¬ (l[l.length - 1].kind = 4 ∨ l[l.length - 1].kind = 6) by omega)]; congr 1; omega]
   have := chk_fall_ok ctx l (by omega) (by omega) (by omega) (by omega) (by omega) h5 _ _ _ _ _ _ _ _ _ hx (by simpa using k4) (by simpa using k6)
   rw [hw] at this
   exact this
theorem rcheck_ok (ctx : Int) (l : List InstS) (h100 : l.length ≤ 100) : Ret Try.prog 43 [.agg [.int .i64 ctx, .lst .no 9 (isd l)]] (.tup [.int .i64 (checkM ctx l).1, .int .i64 (checkM ctx l).2]) := by
 have hd : ((isd l).length : Int) = (l.length : Int) := by rw [isd_len]
 by_cases h1 : ctx < 0
 ·rw [show checkM ctx l = (0, 2) by unfold checkM; rw [if_pos (.inl h1)]]
  exact rchk_neg_ok ctx l h1
 by_cases h2 : 256 < ctx
 ·rw [show checkM ctx l = (0, 2) by unfold checkM; rw [if_pos (.inr h2)]]
  exact rchk_far_ok ctx l h2
 have e1 : ¬ (ctx < 0 ∨ 256 < ctx) := by omega
 by_cases h3 : l.length < 1
 ·rw [show checkM ctx l = (0, 3) by unfold checkM; rw [if_neg e1, if_pos (.inl h3)]]
  exact rchk_nil_ok ctx l (by omega) (by omega) (by omega)
 by_cases h4 : 64 < l.length
 ·rw [show checkM ctx l = (0, 3) by unfold checkM; rw [if_neg e1, if_pos (.inr h4)]]
  exact rchk_big_ok ctx l (by omega) (by omega) (by omega) (by omega)
 have e2 : ¬ (l.length < 1 ∨ 64 < l.length) := by omega
 cases h5 : ckFrom l.length 0 l with
 | some r =>
  rw [show checkM ctx l = r by unfold checkM; rw [if_neg e1, if_neg e2, h5]]
  exact rchk_at_ok ctx l (by omega) (by omega) (by omega) (by omega) (by omega) r.1 r.2 h5
 | none =>
  have hlt : l.length - 1 < l.length := by omega
  have hw : IntKind.i64.wrap (((isd l).length : Int) - 1) = ((l.length - 1 : Nat) : Int) := by rw [hd, w_i64]; omega
  have hx : (isd l)[(IntKind.i64.wrap (((isd l).length : Int) - 1)).toNat]? = some l[l.length - 1].d := by
   rw [hw, Int.toNat_natCast]; exact isd_get l _ hlt
  have hk : kindAt l (l.length - 1) = l[l.length - 1].kind := by unfold kindAt; rw [List.getElem?_eq_getElem hlt]
  by_cases k4 : l[l.length - 1].kind = 4
  ·rw [show checkM ctx l = (0, 0) by unfold checkM; rw [if_neg e1, if_neg e2, h5]; exact if_pos (.inl (hk.trans k4))]
   exact rchk_goto_ok ctx l (by omega) (by omega) (by omega) (by omega) (by omega) h5 _ _ _ _ _ _ _ _ _ hx k4
  by_cases k6 : l[l.length - 1].kind = 6
  ·rw [show checkM ctx l = (0, 0) by unfold checkM; rw [if_neg e1, if_neg e2, h5]; exact if_pos (.inr (hk.trans k6))]
   exact rchk_exit_ok ctx l (by omega) (by omega) (by omega) (by omega) (by omega) h5 _ _ _ _ _ _ _ _ _ hx k6
  ·rw [show checkM ctx l = (((l.length - 1 : Nat) : Int), 33) by unfold checkM; rw [if_neg e1, if_neg e2, h5, hk]; simp only [if_neg (show ¬ (l[l.length - 1].kind = 4 ∨ l[l.length - 1].kind = 6) by omega)]; congr 1; omega]
   have := rchk_fall_ok ctx l (by omega) (by omega) (by omega) (by omega) (by omega) h5 _ _ _ _ _ _ _ _ _ hx (by simpa using k4) (by simpa using k6)
   rw [hw] at this
   exact this
end Go.Proofs.Ytcngafhpodeenaa

namespace Go.Ev
open Go
theorem look_upd (es : List (Int × D)) (n : Int) (v : D) (m : Int) : lookD (updD es n v) m = if m = n then some v else lookD es m := by
 induction es with
 | nil =>
  by_cases h : m = n
  ·subst h; simp [updD, lookD]
  ·have : (m == n) = false := by simpa using h
   simp [updD, lookD, this, h]
 | cons p r ih =>
  obtain ⟨a, d⟩ := p
  rw [updD]
  by_cases hn : n = a
  ·subst hn
   simp only [beq_self_eq_true]
   by_cases h : m = n
   ·subst h; simp [lookD]
   ·have : (m == n) = false := by simpa using h
    simp [lookD, this, h]
  ·have e : (n == a) = false := by simpa using hn
   simp only [e]
   by_cases h : m = a
   ·subst h
    have : ¬ m = n := fun q => hn q.symm
    simp [lookD, this]
   ·have e2 : (m == a) = false := by simpa using h
    simp only [lookD, e2]
    exact ih
def stopK (k : Int) : Bool := k == 3 || k == 4 || k == 6
def stepB (es : List (Int × D)) (k : Int) (x : InstS) : List (Int × D) :=
  if tgt2 k x.kind x.off = true then updD (if stopK x.kind = true then updD es (k + 1) (.bool true) else es) (tgt1 k x.kind x.off) (.bool true)
  else if stopK x.kind = true then updD es (k + 1) (.bool true) else es
def begE (l : List InstS) : Nat → List (Int × D)
  | 0 => [(0, .bool true)]
  | k + 1 => match l[k]? with
    | some x => stepB (begE l k) k x
    | none => begE l k
def begS (l : List InstS) (k : Nat) (i : Int) : Bool := match l[k]? with
  | some x => (stopK x.kind && i == (k : Int) + 1) || (tgt2 k x.kind x.off && i == tgt1 k x.kind x.off)
  | none => false
def begU (l : List InstS) (i : Int) : Nat → Bool
  | 0 => i == 0
  | k + 1 => begU l i k || begS l k i
theorem beg_look (l : List InstS) (i : Int) : ∀ n, lookD (begE l n) i = if begU l i n = true then some (.bool true) else none
 | 0 => by
  simp only [begE, begU, lookD]
  by_cases h : i = 0
  ·subst h; simp
  ·have : (i == 0) = false := by simpa using h
   simp [this]
 | n + 1 => by
  have ih := beg_look l i n
  rw [begE, begU]
  unfold begS
  cases hx : l[n]? with
  | none => simp only [Bool.or_false]; exact ih
  | some x =>
   simp only []
   unfold stepB
   rcases Bool.eq_false_or_eq_true (stopK x.kind) with h1 | h1 <;> rcases Bool.eq_false_or_eq_true (tgt2 n x.kind x.off) with h2 | h2 <;> simp only [h1, h2, if_true, if_false, Bool.false_eq_true, Bool.true_and, Bool.false_and, Bool.or_false, Bool.false_or, look_upd, ih]
   ·by_cases e : i = tgt1 n x.kind x.off
    ·simp [e]
    ·by_cases e' : i = (n : Int) + 1
     ·simp [e']
     ·have q1 : (i == tgt1 n x.kind x.off) = false := by simpa using e
      have q2 : (i == (n : Int) + 1) = false := by simpa using e'
      simp [e, e', q1, q2]
   ·by_cases e : i = (n : Int) + 1
    ·simp [e]
    ·have : (i == (n : Int) + 1) = false := by simpa using e
     simp [e, this]
   ·by_cases e : i = tgt1 n x.kind x.off
    ·simp [e]
    ·have : (i == tgt1 n x.kind x.off) = false := by simpa using e
     simp [e, this]
theorem begU_iff (l : List InstS) (i : Int) : ∀ n, begU l i n = true ↔ i = 0 ∨ ∃ j, j < n ∧ begS l j i = true
 | 0 => by simp [begU]
 | n + 1 => by
  rw [begU, Bool.or_eq_true, begU_iff l i n]
  constructor
  ·rintro ((h | ⟨j, h1, h2⟩) | h)
   ·exact .inl h
   ·exact .inr ⟨j, by omega, h2⟩
   ·exact .inr ⟨n, by omega, h⟩
  ·rintro (h | ⟨j, h1, h2⟩)
   ·exact .inl (.inl h)
   ·rcases Nat.lt_or_ge j n with q | q
    ·exact .inl (.inr ⟨j, q, h2⟩)
    ·obtain rfl : j = n := by omega
     exact .inr h2
def begM (l : List InstS) (i : Int) : Bool := begU l i l.length
theorem begM_zero (l : List InstS) : begM l 0 = true := (begU_iff l 0 _).2 (.inl rfl)
end Go.Ev

namespace Go.Ev
open Go
structure OkP (l : List InstS) : Prop where
  pos : 1 ≤ l.length
  le : l.length ≤ 64
  may : ∀ j (h : j < l.length), l[j].may = true
  tgt : ∀ j (h : j < l.length), tgt2 j l[j].kind l[j].off = true → 0 ≤ tgt1 j l[j].kind l[j].off ∧ tgt1 j l[j].kind l[j].off < l.length
  last : kindAt l (l.length - 1) = 4 ∨ kindAt l (l.length - 1) = 6
theorem ck_none {n : Int} : ∀ {l : List InstS} {i : Int}, ckFrom n i l = none → ∀ j (h : j < l.length), l[j].may = true ∧ (tgt2 (i + j) l[j].kind l[j].off = true → 0 ≤ tgt1 (i + j) l[j].kind l[j].off ∧ tgt1 (i + j) l[j].kind l[j].off < n)
 | [], i, _, j, h => by simp at h
 | x :: r, i, hc, j, h => by
  rw [ckFrom] at hc
  split at hc
  ·cases hc
  ·rename_i hm
   split at hc
   ·cases hc
   ·rename_i ht
    cases j with
    | zero =>
     refine ⟨by simpa using hm, fun h2 => ?_⟩
     simp only [List.getElem_cons_zero, Int.ofNat_zero, Int.add_zero] at h2 ⊢
     exact Classical.byContradiction fun q => ht ⟨by simpa using h2, by simpa using q⟩
    | succ j =>
     have := ck_none hc j (by simpa using h)
     simp only [List.getElem_cons_succ]
     rw [show i + ((j + 1 : Nat) : Int) = i + 1 + (j : Int) by push_cast; omega]
     exact this
theorem check_OkP {ctx : Int} {l : List InstS} (h : (checkM ctx l).2 = 0) : OkP l := by
 unfold checkM at h
 split at h
 ·cases h
 ·split at h
  ·cases h
  ·rename_i h1 h2
   split at h
   ·rename_i r hr
    exfalso
    have : ∀ {l : List InstS} {n i : Int} {r : Int × Int}, ckFrom n i l = some r → r.2 ≠ 0 := by
     intro l
     induction l with
     | nil => intro n i r h; cases h
     | cons x t ih =>
      intro n i r h
      rw [ckFrom] at h
      split at h
      ·cases h; simp
      ·split at h
       ·cases h; simp
       ·exact ih h
    exact this hr h
   ·rename_i hr
    have hj := ck_none hr
    split at h
    ·rename_i hl
     refine ⟨by omega, by omega, fun j hlt => (hj j hlt).1, fun j hlt ht => ?_, hl⟩
     have := (hj j hlt).2
     rw [Int.zero_add] at this
     exact this ht
    ·cases h
theorem may_off {x : InstS} (h : x.may = true) : -32768 ≤ x.off ∧ x.off ≤ 32767 := by
 unfold InstS.may mayM mayRange at h
 simp only [Bool.and_eq_true, decide_eq_true_eq] at h
 omega
theorem tgt2_may {x : InstS} (h : x.may = true) {k : Nat} (hk : k ≤ 100) : tgt2 k x.kind x.off = (x.kind == 3 || x.kind == 4) := by
 obtain ⟨h1, h2⟩ := may_off h
 unfold tgt2
 rw [decide_eq_true (p := -1099511627776 ≤ (k : Int) ∧ (k : Int) ≤ 1099511627776) (by omega), decide_eq_true (p := -1099511627776 ≤ x.off ∧ x.off ≤ 1099511627776) (by omega)]
 simp
end Go.Ev

namespace Go.Ev
open Go
theorem put_set {l : List D} {i : Nat} {x : D} (h : (i : Int) < (l.length : Int)) : PutsA l i [x] (l.set i x) := by
 refine ⟨?_, by simp; omega⟩
 rw [List.set_eq_take_append_cons_drop, if_pos (by omega)]
 rfl
theorem get_set {l : List D} {i : Nat} {x : D} (h : (i : Int) < (l.length : Int)) : (l.set i x)[i]? = some x := by
 rw [List.getElem?_set_self (by omega)]
theorem beq_len {l : List D} {r : Nat} (h : l.length = r * 3) : Nat.beq l.length (r * 3) = true := by
 rw [Nat.beq_eq]; exact h
theorem cl_set {l : List D} {i : Nat} {x : D} (h : ∀ c ∈ l, c.clean = true) (hx : x.clean = true) : ∀ c ∈ l.set i x, c.clean = true := by
 intro c hc
 rcases List.mem_or_eq_of_mem_set hc with q | rfl
 ·exact h c q
 ·exact hx
theorem cl_app {l m : List D} (h : ∀ c ∈ l, c.clean = true) (hm : m.all D.clean = true) : ∀ c ∈ l ++ m, c.clean = true := by
 intro c hc
 rcases List.mem_append.1 hc with q | q
 ·exact h c q
 ·exact List.all_eq_true.1 hm c q
end Go.Ev

namespace Go.Ev
open Go
def i64s (l : List Int) : List D := l.map (.int .i64)
theorem i64s_len (l : List Int) : (i64s l).length = l.length := by simp [i64s]
theorem i64s_clean (l : List Int) : ∀ c ∈ i64s l, c.clean = true := by
 intro c hc
 obtain ⟨n, _, rfl⟩ := List.mem_map.1 hc
 rfl
theorem i64s_demote (l : List Int) : (i64s l).map D.demote = i64s l := by
 simp only [i64s, List.map_map]
 rfl
theorem i64s_set (l : List Int) (i : Nat) (v : Int) : (i64s l).set i (.int .i64 v) = i64s (l.set i v) := by simp [i64s, List.map_set]
theorem i64s_get {l : List Int} {i : Nat} {v : Int} (h : l[i]? = some v) : (i64s l)[i]? = some (.int .i64 v) := by simp [i64s, h]
structure RowS where
  fr : Int
  to : Int
  nx : List Int
deriving DecidableEq
def nxD : List Int → D
  | [] => .lst .tight 0 []
  | a :: r => .lst .no 1 (i64s (a :: r))
def rowC (r : RowS) : List D := [.int .i64 r.fr, .int .i64 r.to, nxD r.nx]
def rowsC : List RowS → List D
  | [] => []
  | r :: t => .int .i64 r.fr :: .int .i64 r.to :: nxD r.nx :: rowsC t
def RowS.d (r : RowS) : D := .agg (rowC r)
theorem nxD_clean (l : List Int) : (nxD l).clean = true := by cases l <;> rfl
theorem nxD_demote (l : List Int) : (nxD l).demote = nxD l := by cases l <;> rfl
theorem rowsC_len : ∀ rs : List RowS, (rowsC rs).length = rs.length * 3
 | [] => rfl
 | r :: t => by simp only [rowsC, List.length_cons, rowsC_len t]; omega
theorem rowsC_clean : ∀ rs : List RowS, ∀ c ∈ rowsC rs, c.clean = true
 | [], c, h => by simp [rowsC] at h
 | r :: t, c, h => by
  simp only [rowsC, List.mem_cons] at h
  rcases h with rfl | rfl | rfl | h
  ·rfl
  ·rfl
  ·exact nxD_clean _
  ·exact rowsC_clean t c h
theorem rowsC_demote : ∀ rs : List RowS, (rowsC rs).map D.demote = rowsC rs
 | [] => rfl
 | r :: t => by simp only [rowsC, List.map_cons, rowsC_demote t, nxD_demote]; rfl
theorem rowsC_app : ∀ (a b : List RowS), rowsC (a ++ b) = rowsC a ++ rowsC b
 | [], b => rfl
 | r :: t, b => by simp only [List.cons_append, rowsC, rowsC_app t b]
theorem rowsC_to : ∀ (rs : List RowS) (j : Nat) (v : Int), (rowsC rs).set (j * 3 + 1) (.int .i64 v) = rowsC (rs.modify j fun r => { r with to := v })
 | [], j, v => by simp [rowsC]
 | r :: t, 0, v => by simp [rowsC]
 | r :: t, j + 1, v => by
  have h := rowsC_to t j v
  rw [show (j + 1) * 3 + 1 = (j * 3 + 1) + 1 + 1 + 1 by omega]
  simp only [rowsC, List.set_cons_succ, List.modify_succ_cons, h]
theorem rowsC_nx : ∀ (rs : List RowS) (j : Nat) (o : Own) (a : Int) (l : List Int), o.demote = .no → ((rowsC rs).set (j * 3 + 2) (.lst o 1 (i64s (a :: l)))).map D.demote = rowsC (rs.modify j fun r => { r with nx := a :: l })
 | [], j, o, a, l, h => by simp [rowsC]
 | r :: t, 0, o, a, l, h => by
  simp only [Nat.zero_mul, Nat.zero_add, rowsC, List.set_cons_succ, List.set_cons_zero, List.map_cons, rowsC_demote, List.modify_zero_cons, D.demote, h]
  rfl
 | r :: t, j + 1, o, a, l, h => by
  have q := rowsC_nx t j o a l h
  rw [show (j + 1) * 3 + 2 = (j * 3 + 2) + 1 + 1 + 1 by omega]
  simp only [rowsC, List.set_cons_succ, List.map_cons, List.modify_succ_cons, q, nxD_demote]
  rfl
theorem rowsC_get1 : ∀ {rs : List RowS} {j : Nat} {r : RowS}, rs[j]? = some r → (rowsC rs)[j * 3 + 1]? = some (.int .i64 r.to)
 | x :: t, 0, r, h => by simp at h; subst h; simp [rowsC]
 | x :: t, j + 1, r, h => by
  rw [show (j + 1) * 3 + 1 = (j * 3 + 1) + 1 + 1 + 1 by omega]
  simp only [rowsC, List.getElem?_cons_succ]
  exact rowsC_get1 (by simpa using h)
theorem rowsC_get2 : ∀ {rs : List RowS} {j : Nat} {r : RowS}, rs[j]? = some r → (rowsC rs)[j * 3 + 2]? = some (nxD r.nx)
 | x :: t, 0, r, h => by simp at h; subst h; simp [rowsC]
 | x :: t, j + 1, r, h => by
  rw [show (j + 1) * 3 + 2 = (j * 3 + 2) + 1 + 1 + 1 by omega]
  simp only [rowsC, List.getElem?_cons_succ]
  exact rowsC_get2 (by simpa using h)
theorem rows_rowsC : ∀ rs : List RowS, rows 3 rs.length (rowsC rs) = rs.map RowS.d
 | [] => rfl
 | r :: t => by
  have h := rows_rowsC t
  simp only [List.length_cons, rows, rowsC, List.map_cons]
  rw [show (D.int .i64 r.fr :: D.int .i64 r.to :: nxD r.nx :: rowsC t).drop 3 = rowsC t from rfl, h]
  rfl
end Go.Ev

namespace Go.Ev
open Go
def cutP (l : List InstS) : Nat → List RowS
  | 0 => []
  | k + 1 => if begM l k = true then cutP l k ++ [⟨k, (k : Int) + 1, []⟩] else (cutP l k).modify ((cutP l k).length - 1) fun r => { r with to := (k : Int) + 1 }
def ofU (l : List InstS) (n : Nat) : Nat → List Int
  | 0 => List.replicate n 0
  | k + 1 => (ofU l n k).set k (((cutP l (k + 1)).length : Int) - 1)
theorem ofU_len (l : List InstS) (n : Nat) : ∀ k, (ofU l n k).length = n
 | 0 => by simp [ofU]
 | k + 1 => by simp [ofU, ofU_len l n k]
theorem cutP_len (l : List InstS) : ∀ k, (cutP l k).length ≤ k ∧ (1 ≤ k → 1 ≤ (cutP l k).length)
 | 0 => ⟨Nat.le_refl _, fun h => h⟩
 | k + 1 => by
  obtain ⟨h1, h2⟩ := cutP_len l k
  rw [cutP]
  split
  ·simp only [List.length_append, List.length_cons, List.length_nil]; omega
  ·rename_i hb
   have : 1 ≤ k := by
    rcases Nat.eq_zero_or_pos k with e | e
    ·subst e; exact absurd (begM_zero l) hb
    ·exact e
   simp only [List.length_modify]
   exact ⟨by omega, fun _ => h2 this⟩
theorem ofU_get (l : List InstS) (n : Nat) : ∀ k, k ≤ n → ∀ i, i < k → (ofU l n k)[i]? = some (((cutP l (i + 1)).length : Int) - 1)
 | 0, _, i, h => absurd h (by omega)
 | k + 1, hk, i, h => by
  rw [ofU]
  by_cases e : i = k
  ·subst e
   rw [List.getElem?_set_self (by rw [ofU_len]; omega)]
  ·rw [List.getElem?_set_ne (fun q => e q.symm)]
   exact ofU_get l n k (by omega) i (by omega)
theorem modify_snoc {α : Type} (f : α → α) : ∀ (a : List α) (x : α), (a ++ [x]).modify a.length f = a ++ [f x]
 | [], x => rfl
 | y :: a, x => by simp only [List.cons_append, List.length_cons, List.modify_succ_cons, modify_snoc f a x]
end Go.Ev

namespace Go.Ev
open Go
def blkOf (l : List InstS) (t : Int) : Int := ((cutP l (t.toNat + 1)).length : Int) - 1
def nxK (l : List InstS) (b : Int) (i : Nat) (x : InstS) : List Int := (if tgt2 i x.kind x.off = true then [blkOf l (tgt1 i x.kind x.off)] else []) ++ (if x.kind = 4 ∨ x.kind = 6 then [] else [b + 1])
def nxR (l : List InstS) (b : Int) (r : RowS) : List Int := match l[(r.to - 1).toNat]? with
  | some x => nxK l b (r.to - 1).toNat x
  | none => []
def nextP (l : List InstS) (rs : List RowS) : Nat → List RowS
  | 0 => rs
  | b + 1 => (nextP l rs b).modify b fun r => { r with nx := nxR l b r }
theorem nextP_len (l : List InstS) (rs : List RowS) : ∀ b, (nextP l rs b).length = rs.length
 | 0 => rfl
 | b + 1 => by rw [nextP, List.length_modify, nextP_len l rs b]
theorem nextP_get (l : List InstS) (rs : List RowS) : ∀ b j, b ≤ j → (nextP l rs b)[j]? = rs[j]?
 | 0, j, _ => rfl
 | b + 1, j, h => by
  rw [nextP, List.getElem?_modify, nextP_get l rs b j (by omega)]
  have : ¬ b = j := by omega
  simp only [this, if_false]
  cases rs[j]? <;> rfl
theorem cutP_rows (l : List InstS) : ∀ k, ∀ r ∈ cutP l k, 1 ≤ r.to ∧ r.to ≤ k ∧ r.nx = []
 | 0, r, h => by simp [cutP] at h
 | k + 1, r, h => by
  have ih := cutP_rows l k
  rw [cutP] at h
  split at h
  ·rcases List.mem_append.1 h with q | q
   ·have := ih r q; exact ⟨this.1, by omega, this.2.2⟩
   ·simp at q; subst q; exact ⟨by simp; omega, by simp, rfl⟩
  ·obtain ⟨j, hj⟩ := List.mem_iff_getElem?.1 h
   rw [List.getElem?_modify] at hj
   cases e : (cutP l k)[j]? with
   | none => rw [e] at hj; simp at hj
   | some r0 =>
    have := ih r0 (List.mem_of_getElem? e)
    rw [e] at hj
    by_cases q : (cutP l k).length - 1 = j
    ·simp [q] at hj; subst hj; exact ⟨by simp; omega, by simp, this.2.2⟩
    ·simp [q] at hj; subst hj; exact ⟨this.1, by omega, this.2.2⟩
end Go.Ev

namespace Go.Proofs.Ytcngafhpodeenaa
open Go Go.Ev
set_option maxRecDepth 100000
set_option maxHeartbeats 8000000
theorem bs_end (l : List D) (ctx i j : Int) (h : (l.length : Int) ≤ j)  : RoundRun Try.prog (loopB Try.f69 0) ⟨[], [], []⟩ 1 [uu, .int .i64 i, D.ptr false 0 0, uu, uu, uu, .int .i64 j, uu, uu, uu, uu, uu, uu, uu, uu, uu, uu, uu, uu, uu, uu, uu, uu, uu, uu, uu, uu, uu, uu, uu, uu, uu, uu, uu, uu, uu, uu, uu, uu, uu, uu, uu, uu, uu, uu, uu, uu, uu, uu, uu, uu] [Ob.box [.int .i64 ctx, .lst .no 9 l]] (Ex.exit (0 : Nat)) [uu, uu, uu, uu, uu, uu, uu, uu, uu, uu, uu, uu, uu, uu, uu, uu, uu, uu, uu, uu, uu, uu, uu, uu, uu, uu, uu, uu, uu, uu, uu, uu, uu, uu, uu, uu, uu, uu, uu, uu, uu, uu, uu, uu, uu, uu, uu, uu, uu, uu, uu] ([Ob.dead]) := by
 exact (RoundRun.of_eval (sp := ⟨[], [], []⟩) (n0 := 1) (ex := Ex.exit (0 : Nat)) (t' := [uu, uu, uu, uu, uu, uu, uu, uu, uu, uu, uu, uu, uu, uu, uu, uu, uu, uu, uu, uu, uu, uu, uu, uu, uu, uu, uu, uu, uu, uu, uu, uu, uu, uu, uu, uu, uu, uu, uu, uu, uu, uu, uu, uu, uu, uu, uu, uu, uu, uu, uu]) (s' := [Ob.dead]) mixed [tC (by ((try simp only [List.length_append, List.length_cons, List.length_nil, sl2] at *); omega) : (decide (j < (↑(List.length l) : Int))) = false)] (by kernel_rfl)).cast (by rfl) (by rfl)
theorem bs_hit (l : List D) (ctx i j : Int) (k0 : 0 ≤ j) (k1 : j < (l.length : Int)) (n1 : (l.length : Int) ≤ 64) (kind op width size : Int) (byReg : Bool) (dst src off imm : Int) (hx : l[j.toNat]? = some (instD kind op width size byReg dst src off imm)) (ht : tgt2 j kind off = true) (hg : tgt1 j kind off = i)  : RoundRun Try.prog (loopB Try.f69 0) ⟨[4], [], []⟩ 1 [uu, .int .i64 i, D.ptr false 0 0, uu, uu, uu, .int .i64 j, uu, uu, uu, uu, uu, uu, uu, uu, uu, uu, uu, uu, uu, uu, uu, uu, uu, uu, uu, uu, uu, uu, uu, uu, uu, uu, uu, uu, uu, uu, uu, uu, uu, uu, uu, uu, uu, uu, uu, uu, uu, uu, uu, uu] [Ob.box [.int .i64 ctx, .lst .no 9 l]] (Ex.ret) [uu, uu, uu, uu, .bool true, uu, uu, uu, uu, uu, uu, uu, uu, uu, uu, uu, uu, uu, uu, uu, uu, uu, uu, uu, uu, uu, uu, uu, uu, uu, uu, uu, uu, uu, uu, uu, uu, uu, uu, uu, uu, uu, uu, uu, uu, uu, uu, uu, uu, uu, uu] ([Ob.dead]) := by
 have c0 := @rtarget_ok j kind op width size byReg dst src off imm
 exact (RoundRun.of_eval (sp := ⟨[4], [], []⟩) (n0 := 1) (ex := Ex.ret) (t' := [uu, uu, uu, uu, .bool true, uu, uu, uu, uu, uu, uu, uu, uu, uu, uu, uu, uu, uu, uu, uu, uu, uu, uu, uu, uu, uu, uu, uu, uu, uu, uu, uu, uu, uu, uu, uu, uu, uu, uu, uu, uu, uu, uu, uu, uu, uu, uu, uu, uu, uu, uu]) (s' := [Ob.dead]) mixed [tC (by ((try simp only [List.length_append, List.length_cons, List.length_nil, sl2] at *); omega) : (decide (j < (↑(List.length l) : Int))) = true), tC (v := true) (leL 0 (decide_eq_false (Int.not_lt.2 k0))), .get _ _ _ hx, .ret _ _ _ c0, tC (eT ht), tC (eT ht), tC (eT ht), tC ht, tC (by ((try simp only [List.length_append, List.length_cons, List.length_nil, sl2] at *); omega) : (tgt1 j kind off == i) = true)] (by kernel_rfl)).cast (by rfl) (by rfl)
theorem bs_off (l : List D) (ctx i j : Int) (k0 : 0 ≤ j) (k1 : j < (l.length : Int)) (n1 : (l.length : Int) ≤ 64) (kind op width size : Int) (byReg : Bool) (dst src off imm : Int) (hx : l[j.toNat]? = some (instD kind op width size byReg dst src off imm)) (ht : tgt2 j kind off = true) (hg : (tgt1 j kind off == i) = false)  : RoundRun Try.prog (loopB Try.f69 0) ⟨[1, 2, 6], [0], []⟩ 1 [uu, .int .i64 i, D.ptr false 0 0, uu, uu, uu, .int .i64 j, uu, uu, uu, uu, uu, uu, uu, uu, uu, uu, uu, uu, uu, uu, uu, uu, uu, uu, uu, uu, uu, uu, uu, uu, uu, uu, uu, uu, uu, uu, uu, uu, uu, uu, uu, uu, uu, uu, uu, uu, uu, uu, uu, uu] [Ob.box [.int .i64 ctx, .lst .no 9 l]] (Ex.norm) [uu, .int .i64 i, D.ptr false 0 0, uu, uu, uu, .int .i64 (IntKind.wrap IntKind.i64 (j + 1)), uu, uu, uu, uu, uu, uu, uu, uu, uu, uu, uu, uu, uu, uu, uu, uu, uu, uu, uu, uu, uu, uu, uu, uu, uu, uu, uu, uu, uu, uu, uu, uu, uu, uu, uu, uu, uu, uu, uu, uu, uu, uu, uu, uu] ([Ob.box [.int .i64 ctx, .lst .no 9 l]]) := by
 have c0 := @rtarget_ok j kind op width size byReg dst src off imm
 exact (RoundRun.of_eval (sp := ⟨[1, 2, 6], [0], []⟩) (n0 := 1) (ex := Ex.norm) (t' := [uu, .int .i64 i, D.ptr false 0 0, uu, uu, uu, .int .i64 (IntKind.wrap IntKind.i64 (j + 1)), uu, uu, uu, uu, uu, uu, uu, uu, uu, uu, uu, uu, uu, uu, uu, uu, uu, uu, uu, uu, uu, uu, uu, uu, uu, uu, uu, uu, uu, uu, uu, uu, uu, uu, uu, uu, uu, uu, uu, uu, uu, uu, uu, uu]) (s' := [Ob.box [.int .i64 ctx, .lst .no 9 l]]) mixed [tC (by ((try simp only [List.length_append, List.length_cons, List.length_nil, sl2] at *); omega) : (decide (j < (↑(List.length l) : Int))) = true), tC (v := true) (leL 0 (decide_eq_false (Int.not_lt.2 k0))), .get _ _ _ hx, .ret _ _ _ c0, tC (eT ht), tC (eT ht), tC (eT ht), tC ht, tC hg] (by kernel_rfl)).cast (by rfl) (by rfl)
theorem bs_no (l : List D) (ctx i j : Int) (k0 : 0 ≤ j) (k1 : j < (l.length : Int)) (n1 : (l.length : Int) ≤ 64) (kind op width size : Int) (byReg : Bool) (dst src off imm : Int) (hx : l[j.toNat]? = some (instD kind op width size byReg dst src off imm)) (ht : tgt2 j kind off = false)  : RoundRun Try.prog (loopB Try.f69 0) ⟨[1, 2, 6], [0], []⟩ 1 [uu, .int .i64 i, D.ptr false 0 0, uu, uu, uu, .int .i64 j, uu, uu, uu, uu, uu, uu, uu, uu, uu, uu, uu, uu, uu, uu, uu, uu, uu, uu, uu, uu, uu, uu, uu, uu, uu, uu, uu, uu, uu, uu, uu, uu, uu, uu, uu, uu, uu, uu, uu, uu, uu, uu, uu, uu] [Ob.box [.int .i64 ctx, .lst .no 9 l]] (Ex.norm) [uu, .int .i64 i, D.ptr false 0 0, uu, uu, uu, .int .i64 (IntKind.wrap IntKind.i64 (j + 1)), uu, uu, uu, uu, uu, uu, uu, uu, uu, uu, uu, uu, uu, uu, uu, uu, uu, uu, uu, uu, uu, uu, uu, uu, uu, uu, uu, uu, uu, uu, uu, uu, uu, uu, uu, uu, uu, uu, uu, uu, uu, uu, uu, uu] ([Ob.box [.int .i64 ctx, .lst .no 9 l]]) := by
 have c0 := @rtarget_ok j kind op width size byReg dst src off imm
 exact (RoundRun.of_eval (sp := ⟨[1, 2, 6], [0], []⟩) (n0 := 1) (ex := Ex.norm) (t' := [uu, .int .i64 i, D.ptr false 0 0, uu, uu, uu, .int .i64 (IntKind.wrap IntKind.i64 (j + 1)), uu, uu, uu, uu, uu, uu, uu, uu, uu, uu, uu, uu, uu, uu, uu, uu, uu, uu, uu, uu, uu, uu, uu, uu, uu, uu, uu, uu, uu, uu, uu, uu, uu, uu, uu, uu, uu, uu, uu, uu, uu, uu, uu, uu]) (s' := [Ob.box [.int .i64 ctx, .lst .no 9 l]]) mixed [tC (by ((try simp only [List.length_append, List.length_cons, List.length_nil, sl2] at *); omega) : (decide (j < (↑(List.length l) : Int))) = true), tC (v := true) (leL 0 (decide_eq_false (Int.not_lt.2 k0))), .get _ _ _ hx, .ret _ _ _ c0, tC (eT ht), tC (eT ht), tC (eT ht), tC ht, tF] (by kernel_rfl)).cast (by rfl) (by rfl)
end Go.Proofs.Ytcngafhpodeenaa

namespace Go.Proofs.Ytcngafhpodeenaa
open Go Go.Ev
set_option maxRecDepth 100000
def hitAt (l : List InstS) (i : Int) (j : Nat) : Bool := match l[j]? with
  | some x => tgt2 j x.kind x.off && (tgt1 j x.kind x.off == i)
  | none => false
def hitFrom (l : List InstS) (i : Int) : Nat → Nat → Bool
  | 0, _ => false
  | m + 1, k => hitAt l i k || hitFrom l i m (k + 1)
abbrev bsT (i j : Int) : List D := [.undef, .int .i64 i, .ptr false 0 0, .undef, .undef, .undef, .int .i64 j, .undef, .undef, .undef, .undef, .undef, .undef, .undef, .undef, .undef, .undef, .undef, .undef, .undef, .undef, .undef, .undef, .undef, .undef, .undef, .undef, .undef, .undef, .undef, .undef, .undef, .undef, .undef, .undef, .undef, .undef, .undef, .undef, .undef, .undef, .undef, .undef, .undef, .undef, .undef, .undef, .undef, .undef, .undef, .undef]
abbrev bsR : List D := [.undef, .undef, .undef, .undef, .bool true, .undef, .undef, .undef, .undef, .undef, .undef, .undef, .undef, .undef, .undef, .undef, .undef, .undef, .undef, .undef, .undef, .undef, .undef, .undef, .undef, .undef, .undef, .undef, .undef, .undef, .undef, .undef, .undef, .undef, .undef, .undef, .undef, .undef, .undef, .undef, .undef, .undef, .undef, .undef, .undef, .undef, .undef, .undef, .undef, .undef, .undef]
abbrev bsU : List D := [.undef, .undef, .undef, .undef, .undef, .undef, .undef, .undef, .undef, .undef, .undef, .undef, .undef, .undef, .undef, .undef, .undef, .undef, .undef, .undef, .undef, .undef, .undef, .undef, .undef, .undef, .undef, .undef, .undef, .undef, .undef, .undef, .undef, .undef, .undef, .undef, .undef, .undef, .undef, .undef, .undef, .undef, .undef, .undef, .undef, .undef, .undef, .undef, .undef, .undef, .undef]
theorem bs_rounds (l : List InstS) (h64 : l.length ≤ 64) (ctx i : Int) : ∀ (m k : Nat), k + m = l.length →
  Rounds Try.prog (loopB Try.f69 0) 1 (bsT i k) [.box [.int .i64 ctx, .lst .no 9 (isd l)]] (if hitFrom l i m k = true then .ret else .exit 0) (if hitFrom l i m k = true then bsR else bsU) [.dead]
 | 0, k, hk => by
  rw [show hitFrom l i 0 k = false from rfl]
  exact Rounds.last (bs_end (isd l) ctx i k (by rw [isd_len]; omega)) (fun h => by cases h)
 | m + 1, k, hk => by
  have hlt : k < l.length := by omega
  have ih := bs_rounds l h64 ctx i m (k + 1) (by omega)
  have hw : IntKind.i64.wrap ((k : Int) + 1) = ((k + 1 : Nat) : Int) := by rw [w_i64]; omega
  have hx : (isd l)[(k : Int).toNat]? = some (instD l[k].kind l[k].op l[k].width l[k].size l[k].byReg l[k].dst l[k].src l[k].off l[k].imm) := by rw [Int.toNat_natCast]; exact isd_get l k hlt
  have k1 : (k : Int) < ((isd l).length : Int) := by rw [isd_len]; omega
  have n1 : ((isd l).length : Int) ≤ 64 := by rw [isd_len]; omega
  have hh : hitAt l i k = (tgt2 k l[k].kind l[k].off && (tgt1 k l[k].kind l[k].off == i)) := by unfold hitAt; rw [List.getElem?_eq_getElem hlt]
  rw [show hitFrom l i (m + 1) k = (hitAt l i k || hitFrom l i m (k + 1)) from rfl, hh]
  rcases Bool.eq_false_or_eq_true (tgt2 k l[k].kind l[k].off) with t | t
  ·rcases Bool.eq_false_or_eq_true (tgt1 k l[k].kind l[k].off == i) with g | g
   ·rw [t, g]
    exact Rounds.last (bs_hit (isd l) ctx i k (by omega) k1 n1 _ _ _ _ _ _ _ _ _ hx t (by simpa using g)) (fun h => by cases h)
   ·have := bs_off (isd l) ctx i k (by omega) k1 n1 _ _ _ _ _ _ _ _ _ hx t g
    rw [hw] at this
    rw [t, g]
    exact Rounds.more this ih
  ·have := bs_no (isd l) ctx i k (by omega) k1 n1 _ _ _ _ _ _ _ _ _ hx t
   rw [hw] at this
   rw [t]
   exact Rounds.more this ih
theorem bs_yes (l : List InstS) (h64 : l.length ≤ 64) (ctx i : Int) (h : hitFrom l i l.length 0 = true) : LoopRun Try.prog 1 (.loop (loopB Try.f69 0)) (bsT i 0) [.box [.int .i64 ctx, .lst .no 9 (isd l)]] .ret bsR [.dead] := by
 have := bs_rounds l h64 ctx i l.length 0 (by omega)
 rw [h] at this
 exact LoopRun.of_rounds (Nat.le_refl _) this
theorem bs_none (l : List InstS) (h64 : l.length ≤ 64) (ctx i : Int) (h : hitFrom l i l.length 0 = false) : LoopRun Try.prog 1 (.loop (loopB Try.f69 0)) (bsT i 0) [.box [.int .i64 ctx, .lst .no 9 (isd l)]] (.exit 0) bsU [.dead] := by
 have := bs_rounds l h64 ctx i l.length 0 (by omega)
 rw [h] at this
 exact LoopRun.of_rounds (Nat.le_refl _) this
end Go.Proofs.Ytcngafhpodeenaa

namespace Go.Proofs.Ytcngafhpodeenaa
open Go Go.Ev
set_option maxRecDepth 100000
set_option maxHeartbeats 8000000
theorem bgn_zero_ok (ctx i : Int) (l : List InstS) (h64 : l.length ≤ 64) (hi : i = 0)  : Ret Try.prog 69 ([.agg [.int .i64 ctx, .lst .no 9 (isd l)], .int .i64 i]) (.bool true) := by
 exact (o69 (d := .bool true) [tC (eqI 0 true (by ((try simp only [List.length_append, List.length_cons, List.length_nil, sl2] at *); omega) : i = 0))] (by kernel_rfl)).to (by simp [wk, wkL, wkO])
def SpKR20 (k0_ : Int) : Prop := ∀ (ctx i : Int) (l : List InstS) (h64 : l.length ≤ 64) (i1 : 1 ≤ i) (i2 : i ≤ 64) (kind op width size : Int) (byReg : Bool) (dst src off imm : Int) (hx : (isd l)[Int.toNat (IntKind.i64.wrap (i - 1))]? = some (instD kind op width size byReg dst src off imm)) (kk : kind = k0_), Ret Try.prog 69 ([.agg [.int .i64 ctx, .lst .no 9 (isd l)], .int .i64 i]) (.bool true)
theorem bgn_3_ok : SpKR20 3 := by
 intro ctx i l h64 i1 i2 kind op width size byReg dst src off imm hx kk
 exact (o69 (d := .bool true) [tC (eqG 0 (decide_eq_false (Int.not_lt.2 i1))), .tst (decide (0 ≤ IntKind.wrap IntKind.i64 (i - 1))) true (by ((try simp only [List.length_append, List.length_cons, List.length_nil, sl2] at *); omega)), .get _ _ _ hx, tC (eF (eqI 3 true (by ((try simp only [List.length_append, List.length_cons, List.length_nil, sl2] at *); omega) : kind = 3))), tC (eF (eqI 3 true (by ((try simp only [List.length_append, List.length_cons, List.length_nil, sl2] at *); omega) : kind = 3))), tC (eqI 3 true (by ((try simp only [List.length_append, List.length_cons, List.length_nil, sl2] at *); omega) : kind = 3)), tF, tF, tT, tT] (by kernel_rfl)).to (by simp [wk, wkL, wkO])
theorem bgn_4_ok : SpKR20 4 := by
 intro ctx i l h64 i1 i2 kind op width size byReg dst src off imm hx kk
 exact (o69 (d := .bool true) [tC (eqG 0 (decide_eq_false (Int.not_lt.2 i1))), .tst (decide (0 ≤ IntKind.wrap IntKind.i64 (i - 1))) true (by ((try simp only [List.length_append, List.length_cons, List.length_nil, sl2] at *); omega)), .get _ _ _ hx, tC (eF (by ((try simp only [List.length_append, List.length_cons, List.length_nil, sl2] at *); omega) : (kind == 3) = false)), tC (eF (by ((try simp only [List.length_append, List.length_cons, List.length_nil, sl2] at *); omega) : (kind == 3) = false)), tC (by ((try simp only [List.length_append, List.length_cons, List.length_nil, sl2] at *); omega) : (kind == 3) = false), tC (eF (eqI 4 true (by ((try simp only [List.length_append, List.length_cons, List.length_nil, sl2] at *); omega) : kind = 4))), tC (eF (eqI 4 true (by ((try simp only [List.length_append, List.length_cons, List.length_nil, sl2] at *); omega) : kind = 4))), tC (eqI 4 true (by ((try simp only [List.length_append, List.length_cons, List.length_nil, sl2] at *); omega) : kind = 4)), tT] (by kernel_rfl)).to (by simp [wk, wkL, wkO])
theorem bgn_6_ok : SpKR20 6 := by
 intro ctx i l h64 i1 i2 kind op width size byReg dst src off imm hx kk
 exact (o69 (d := .bool true) [tC (eqG 0 (decide_eq_false (Int.not_lt.2 i1))), .tst (decide (0 ≤ IntKind.wrap IntKind.i64 (i - 1))) true (by ((try simp only [List.length_append, List.length_cons, List.length_nil, sl2] at *); omega)), .get _ _ _ hx, tC (eF (by ((try simp only [List.length_append, List.length_cons, List.length_nil, sl2] at *); omega) : (kind == 3) = false)), tC (eF (by ((try simp only [List.length_append, List.length_cons, List.length_nil, sl2] at *); omega) : (kind == 3) = false)), tC (by ((try simp only [List.length_append, List.length_cons, List.length_nil, sl2] at *); omega) : (kind == 3) = false), tC (eF (by ((try simp only [List.length_append, List.length_cons, List.length_nil, sl2] at *); omega) : (kind == 4) = false)), tC (eF (by ((try simp only [List.length_append, List.length_cons, List.length_nil, sl2] at *); omega) : (kind == 4) = false)), tC (by ((try simp only [List.length_append, List.length_cons, List.length_nil, sl2] at *); omega) : (kind == 4) = false), tC (eqI 6 true (by ((try simp only [List.length_append, List.length_cons, List.length_nil, sl2] at *); omega) : kind = 6))] (by kernel_rfl)).to (by simp [wk, wkL, wkO])
theorem bgn_yes_ok (ctx i : Int) (l : List InstS) (h64 : l.length ≤ 64) (i1 : 1 ≤ i) (i2 : i ≤ 64) (kind op width size : Int) (byReg : Bool) (dst src off imm : Int) (hx : (isd l)[Int.toNat (IntKind.i64.wrap (i - 1))]? = some (instD kind op width size byReg dst src off imm)) (q3 : (kind == 3) = false) (q4 : (kind == 4) = false) (q6 : (kind == 6) = false) (h : hitFrom l i l.length 0 = true)  : Ret Try.prog 69 ([.agg [.int .i64 ctx, .lst .no 9 (isd l)], .int .i64 i]) (.bool true) := by
 have c0 := @bs_yes l h64 ctx i h
 exact (o69 (d := .bool true) [tC (eqG 0 (decide_eq_false (Int.not_lt.2 i1))), .tst (decide (0 ≤ IntKind.wrap IntKind.i64 (i - 1))) true (by ((try simp only [List.length_append, List.length_cons, List.length_nil, sl2] at *); omega)), .get _ _ _ hx, tC (eF q3), tC (eF q3), tC q3, tC (eF q4), tC (eF q4), tC q4, tC q6, .head ⟨[1, 2, 6], [0], []⟩ _ _ _ _ _ _ _ c0] (by kernel_rfl)).to (by simp [wk, wkL, wkO])
theorem bgn_no_ok (ctx i : Int) (l : List InstS) (h64 : l.length ≤ 64) (i1 : 1 ≤ i) (i2 : i ≤ 64) (kind op width size : Int) (byReg : Bool) (dst src off imm : Int) (hx : (isd l)[Int.toNat (IntKind.i64.wrap (i - 1))]? = some (instD kind op width size byReg dst src off imm)) (q3 : (kind == 3) = false) (q4 : (kind == 4) = false) (q6 : (kind == 6) = false) (h : hitFrom l i l.length 0 = false)  : Ret Try.prog 69 ([.agg [.int .i64 ctx, .lst .no 9 (isd l)], .int .i64 i]) (.bool false) := by
 have c0 := @bs_none l h64 ctx i h
 exact (o69 (d := .bool false) [tC (eqG 0 (decide_eq_false (Int.not_lt.2 i1))), .tst (decide (0 ≤ IntKind.wrap IntKind.i64 (i - 1))) true (by ((try simp only [List.length_append, List.length_cons, List.length_nil, sl2] at *); omega)), .get _ _ _ hx, tC (eF q3), tC (eF q3), tC q3, tC (eF q4), tC (eF q4), tC q4, tC q6, .head ⟨[1, 2, 6], [0], []⟩ _ _ _ _ _ _ _ c0] (by kernel_rfl)).to (by simp [wk, wkL, wkO])
end Go.Proofs.Ytcngafhpodeenaa
