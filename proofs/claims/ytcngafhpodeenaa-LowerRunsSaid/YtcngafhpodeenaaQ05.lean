/- Contracts and plain laws that a statement's proof leans on (texts merged: MdW, MdF2, MdE, MdP, MdS, KS0, KS0A, Az, Steps0, KSR0, EvR). -/
import Derived.ProofKit
import Derived.Carry
import Derived.SizedLaws
import Derived.Test.YtcngafhpodeenaaQ04
set_option linter.unusedVariables false
set_option linter.unusedSimpArgs false
namespace Go.Ev
open Go
def readsX (op dst src base : Int) : Int :=
  if op = 0 then sh8 src
  else if op = 1 ∨ op = 28 ∨ op = 29 then 0
  else if 20 ≤ op ∧ op ≤ 22 then or64 (sh8 dst) (sh8 1)
  else if op = 24 then or64 (or64 (sh8 dst) (sh8 0)) (sh8 2)
  else if op = 26 then sh8 base
  else if op = 27 then or64 (sh8 base) (sh8 src)
  else if op = 30 then 17
  else if op = 31 then 1477
  else if shapeM op = 1 ∨ shapeM op = 2 ∨ shapeM op = 6 then or64 (sh8 dst) (sh8 src)
  else sh8 dst
def writesX (op dst : Int) : Int :=
  if op = 7 ∨ op = 8 ∨ op = 14 ∨ op = 15 ∨ op = 27 ∨ op = 28 ∨ op = 29 then 0
  else if op = 24 then 5
  else if op = 30 then 16
  else if op = 31 then 2051
  else sh8 dst
def readsXX (op w dst src base disp imm cc : Int) : Int := if mayX op w dst src base disp imm cc then readsX op dst src base else 0
def writesXX (op w dst src base disp imm cc : Int) : Int := if mayX op w dst src base disp imm cc then writesX op dst else 0
end Go.Ev

namespace Go.Ev
open Go
def addC (w a b : Int) : Bool := decide (cutM (u64 (a + b)) w < cutM a w)
def addO (w a b : Int) : Bool := negM (and64u (xor64 a (u64 (a + b))) (xor64 b (u64 (a + b)))) w
def subC (w a b : Int) : Bool := decide (cutM a w < cutM b w)
def subO (w a b : Int) : Bool := negM (and64u (xor64 a b) (xor64 a (u64 (a - b)))) w
def holdM (cc : Int) (c z s o : Bool) : Bool :=
  if cc = 2 then c else if cc = 3 then !c else if cc = 4 then z else if cc = 5 then !z else if cc = 6 then (c || z) else if cc = 7 then !(c || z)
  else if cc = 12 then (s != o) else if cc = 13 then !(s != o) else if cc = 14 then (z || (s != o)) else !(z || (s != o))
def wrOp (op : Int) : Bool := !(decide (op = 7 ∨ op = 8 ∨ op = 14 ∨ op = 15 ∨ op = 27 ∨ op = 28 ∨ op = 29))
end Go.Ev

namespace Go.Ev
open Go
def inU (n : Int) : Prop := 0 ≤ n ∧ n ≤ 18446744073709551615
theorem cut_cut (v w : Int) : cutM (cutM v w) w = cutM v w := by
 unfold cutM
 split
 ·omega
 ·split
  ·omega
  ·split
   ·omega
   ·rfl
def bitOf (w k : Int) : Int := IntKind.i64.wrap ((BitVec.ofInt 64 (w.fdiv (2 ^ (min k.toNat 64))) &&& BitVec.ofInt 64 1).toNat : Int)
def mayP (w dst src : Int) : Bool := longM w && regM dst && regM src
end Go.Ev

namespace Go.Ev
open Go
end Go.Ev

namespace Go.Ev
open Go
structure MachS where
  (q0 q1 q2 q3 q4 q5 q6 q7 q8 q9 q10 q11 q12 q13 q14 q15 : Int)
  (fk fc fz fs fo : Bool)
  (pc : Int)
deriving DecidableEq
def MachS.d (m : MachS) : D := .agg [.int .u64 m.q0, .int .u64 m.q1, .int .u64 m.q2, .int .u64 m.q3, .int .u64 m.q4, .int .u64 m.q5, .int .u64 m.q6, .int .u64 m.q7, .int .u64 m.q8, .int .u64 m.q9, .int .u64 m.q10, .int .u64 m.q11, .int .u64 m.q12, .int .u64 m.q13, .int .u64 m.q14, .int .u64 m.q15, .bool m.fk, .bool m.fc, .bool m.fz, .bool m.fs, .bool m.fo, .int .u64 m.pc]
def MachS.rl (m : MachS) : List Int := [m.q0, m.q1, m.q2, m.q3, m.q4, m.q5, m.q6, m.q7, m.q8, m.q9, m.q10, m.q11, m.q12, m.q13, m.q14, m.q15]
def MachS.put (m : MachS) (i v : Int) : MachS := ⟨st 0 i v m.q0, st 1 i v m.q1, st 2 i v m.q2, st 3 i v m.q3, st 4 i v m.q4, st 5 i v m.q5, st 6 i v m.q6, st 7 i v m.q7, st 8 i v m.q8, st 9 i v m.q9, st 10 i v m.q10, st 11 i v m.q11, st 12 i v m.q12, st 13 i v m.q13, st 14 i v m.q14, st 15 i v m.q15, m.fk, m.fc, m.fz, m.fs, m.fo, m.pc⟩
def MachS.flags (m : MachS) (k c z s o : Bool) : MachS := ⟨m.q0, m.q1, m.q2, m.q3, m.q4, m.q5, m.q6, m.q7, m.q8, m.q9, m.q10, m.q11, m.q12, m.q13, m.q14, m.q15, k, c, z, s, o, m.pc⟩
def MachS.at (m : MachS) (v : Int) : MachS := ⟨m.q0, m.q1, m.q2, m.q3, m.q4, m.q5, m.q6, m.q7, m.q8, m.q9, m.q10, m.q11, m.q12, m.q13, m.q14, m.q15, m.fk, m.fc, m.fz, m.fs, m.fo, v⟩
def MachS.zero : MachS := ⟨0, 0, 0, 0, 0, 0, 0, 0, 0, 0, 0, 0, 0, 0, 0, 0, false, false, false, false, false, 0⟩
def XS.len (x : XS) : Int := lenX x.op x.w x.dst x.src x.base x.disp x.imm x.cc
def XS.may (x : XS) : Bool := mayX x.op x.w x.dst x.src x.base x.disp x.imm x.cc
def sopM (op : Int) : Option (Int × Int) :=
  match op with
  | 2 => some (0, 0)
  | 3 => some (4, 0)
  | 4 => some (5, 0)
  | 5 => some (1, 0)
  | 6 => some (10, 0)
  | 7 => some (1, 0)
  | 8 => some (5, 0)
  | 9 => some (0, 1)
  | 10 => some (4, 1)
  | 11 => some (5, 1)
  | 12 => some (1, 1)
  | 13 => some (10, 1)
  | 14 => some (1, 1)
  | 15 => some (5, 1)
  | 16 => some (2, 0)
  | 17 => some (6, 1)
  | 18 => some (7, 1)
  | 19 => some (12, 1)
  | 20 => some (6, 2)
  | 21 => some (7, 2)
  | 22 => some (12, 2)
  | 23 => some (8, 0)
  | _ => none
def secS (m : MachS) (x : XS) (k : Int) : Int := match k with
  | 2 => m.q1
  | 1 => u64 x.imm
  | _ => rg m.rl x.src
def flagS (m : MachS) (s w a b v : Int) : MachS := match s with
  | 0 => m.flags true (addC w a b) (cutM (u64 (a + b)) w == 0) (negM (u64 (a + b)) w) (addO w a b)
  | 1 => m.flags true (subC w a b) (cutM (u64 (a - b)) w == 0) (negM (u64 (a - b)) w) (subO w a b)
  | 8 => m.flags true (subC w 0 a) (cutM (u64 (0 - a)) w == 0) (negM (u64 (0 - a)) w) (subO w 0 a)
  | 4 => m.flags true false (cutM v w == 0) (negM v w) false
  | 5 => m.flags true false (cutM v w == 0) (negM v w) false
  | 10 => m.flags true false (cutM v w == 0) (negM v w) false
  | _ => m.flags false false false false false
def keepOp (op : Int) : Bool := match op with
  | 7 => true
  | 8 => true
  | 14 => true
  | 15 => true
  | _ => false
def doS (m : MachS) (x : XS) (ld : Int) : MachS × Int := match sopM x.op with
  | some (s, k) =>
    let a := rg m.rl x.dst
    let b := secS m x k
    let v := doM s x.w a b
    match keepOp x.op with
    | true => (flagS m s x.w a b v, 0)
    | false => ((flagS m s x.w a b v).put x.dst v, 0)
  | none => match x.op with
    | 0 => (m.put x.dst (cutM (rg m.rl x.src) x.w), 0)
    | 1 => (m.put x.dst (cutM (u64 x.imm) x.w), 0)
    | 24 => match cutM (rg m.rl x.dst) x.w == 0 with
      | true => (.zero, 20)
      | false => match cutM m.q2 x.w == 0 with
        | false => (.zero, 20)
        | true => (({ m with q0 := u64 ((cutM m.q0 x.w).tdiv (cutM (rg m.rl x.dst) x.w)), q2 := (cutM m.q0 x.w).tmod (cutM (rg m.rl x.dst) x.w) }).flags false false false false false, 0)
    | 25 => match m.fk with
      | false => (.zero, 20)
      | true => (m.put x.dst (cutM (if holdM x.cc m.fc m.fz m.fs m.fo then rg m.rl x.src else rg m.rl x.dst) x.w), 0)
    | 26 => (m.put x.dst (cutM ld x.w), 0)
    | 28 => (m.at (u64 (m.pc + u64 x.imm)), 0)
    | 29 => match m.fk with
      | false => (.zero, 20)
      | true => (m.at (if holdM x.cc m.fc m.fz m.fs m.fo then u64 (m.pc + u64 x.imm) else m.pc), 0)
    | 30 => (({ m with q4 := u64 (m.q4 + 8) }).at ld, 0)
    | 31 => ({ m with q0 := ld, q1 := 0, q11 := 0 }, 0)
    | _ => (m, 0)
def execS (m : MachS) (x : XS) (ld : Int) : MachS × Int := match x.may with
  | false => (.zero, 2)
  | true => doS (m.at (u64 (m.pc + u64 x.len))) x ld
def execM (m : MachS) (x : XS) (ld : Int) : MachS := (execS m x ld).1
def execE (m : MachS) (x : XS) (ld : Int) : Int := (execS m x ld).2
def pcX (m : MachS) (op w dst src base disp imm cc : Int) : Int := u64 (m.pc + u64 (lenX op w dst src base disp imm cc))
def xT (op w dst src base disp imm cc ld : Int) : List D := [.int .i8 op, .int .i8 w, .int .i8 dst, .int .i8 src, .int .i8 base, .int .i64 disp, .int .i64 imm, .int .i8 cc, .int .u64 ld]
def fT (m : MachS) (p : Int) (tl : List D) : List D := .bool m.fk :: .bool m.fc :: .bool m.fz :: .bool m.fs :: .bool m.fo :: .int .u64 p :: tl
def zC : List D := [.int .u64 0, .int .u64 0, .int .u64 0, .int .u64 0, .int .u64 0, .int .u64 0, .int .u64 0, .int .u64 0, .int .u64 0, .int .u64 0, .int .u64 0, .int .u64 0, .int .u64 0, .int .u64 0, .int .u64 0, .int .u64 0, .bool false, .bool false, .bool false, .bool false, .bool false, .int .u64 0]
def MachS.cw (m : MachS) (p : Int) (tl : List D) : List D := .int .u64 m.q0 :: .int .u64 m.q1 :: .int .u64 m.q2 :: .int .u64 m.q3 :: .int .u64 m.q4 :: .int .u64 m.q5 :: .int .u64 m.q6 :: .int .u64 m.q7 :: .int .u64 m.q8 :: .int .u64 m.q9 :: .int .u64 m.q10 :: .int .u64 m.q11 :: .int .u64 m.q12 :: .int .u64 m.q13 :: .int .u64 m.q14 :: .int .u64 m.q15 :: .bool m.fk :: .bool m.fc :: .bool m.fz :: .bool m.fs :: .bool m.fo :: .int .u64 p :: tl
def addrS (m : MachS) (x : XS) : Int × Int × Bool :=
  if x.may = true ∧ (x.op = 26 ∨ x.op = 27) then (u64 (rg m.rl x.base + u64 x.disp), x.w / 8, true)
  else if x.may = true ∧ x.op = 30 then (m.q4, 8, true)
  else (0, 0, false)
def storedS (m : MachS) (x : XS) : Int := if x.may = true ∧ x.op = 27 then cutM (rg m.rl x.src) x.w else 0
def numS (m : MachS) : Int × Bool := if 16 ≤ m.q0 then (0, false) else (IntKind.i64.wrap m.q0, true)
def numV (q : Int) : Int := if 16 ≤ q then 0 else IntKind.i64.wrap q
def numB (q : Int) : Bool := !decide (16 ≤ q)
def argsS (m : MachS) : List Int := if 16 ≤ m.q0 then [] else [m.q7, m.q6, m.q2, m.q10, m.q8].take (m.q0.toNat % 6)
def wD (l : List Int) : List D := l.map (fun x => .int .u64 x)
def toccM (cc : Int) : Int × Bool :=
  if cc = 0 then (4, true) else if cc = 1 then (5, true) else if cc = 2 then (7, true) else if cc = 3 then (3, true) else if cc = 4 then (2, true) else if cc = 5 then (6, true)
  else if cc = 6 then (15, true) else if cc = 7 then (13, true) else if cc = 8 then (12, true) else if cc = 9 then (14, true) else if cc = 10 then (5, true) else (0, false)
def ccM' (cc : Int) : Int × Bool :=
  if cc = 4 then (0, true) else if cc = 5 then (1, true) else if cc = 7 then (2, true) else if cc = 3 then (3, true) else if cc = 2 then (4, true) else if cc = 6 then (5, true)
  else if cc = 15 then (6, true) else if cc = 13 then (7, true) else if cc = 12 then (8, true) else if cc = 14 then (9, true) else (0, false)
end Go.Ev

namespace Go.Proofs.Ytcngafhpodeenaa
open Go Go.Ev
set_option maxRecDepth 100000
set_option maxHeartbeats 8000000
theorem tocc_0_ok  : Ret Try.prog 81 ([.int .i8 0]) (.tup [.int .i8 (toccM 0).1, .bool (toccM 0).2]) := by
 exact (Ret.of_eval (d := .tup [.int .i8 4, .bool true]) mixed Try.func81 (by kernel_rfl) [tT, tT, tF, tF, .inl, tT, .get ([.int .i8 4, .int .i8 5, .int .i8 7, .int .i8 3, .int .i8 2, .int .i8 6, .int .i8 15, .int .i8 13, .int .i8 12, .int .i8 14, .int .i8 5]) 0 (.int .i8 4) rfl] (by kernel_rfl)).to (by first | rfl | exact ⟨rfl, rfl, trivial⟩ | (simp [wk, wkL, toccM]; done))
theorem tocc_1_ok  : Ret Try.prog 81 ([.int .i8 1]) (.tup [.int .i8 (toccM 1).1, .bool (toccM 1).2]) := by
 exact (Ret.of_eval (d := .tup [.int .i8 5, .bool true]) mixed Try.func81 (by kernel_rfl) [tT, tT, tF, tF, .inl, tT, .get ([.int .i8 4, .int .i8 5, .int .i8 7, .int .i8 3, .int .i8 2, .int .i8 6, .int .i8 15, .int .i8 13, .int .i8 12, .int .i8 14, .int .i8 5]) 1 (.int .i8 5) rfl] (by kernel_rfl)).to (by first | rfl | exact ⟨rfl, rfl, trivial⟩ | (simp [wk, wkL, toccM]; done))
theorem tocc_2_ok  : Ret Try.prog 81 ([.int .i8 2]) (.tup [.int .i8 (toccM 2).1, .bool (toccM 2).2]) := by
 exact (Ret.of_eval (d := .tup [.int .i8 7, .bool true]) mixed Try.func81 (by kernel_rfl) [tT, tT, tF, tF, .inl, tT, .get ([.int .i8 4, .int .i8 5, .int .i8 7, .int .i8 3, .int .i8 2, .int .i8 6, .int .i8 15, .int .i8 13, .int .i8 12, .int .i8 14, .int .i8 5]) 2 (.int .i8 7) rfl] (by kernel_rfl)).to (by first | rfl | exact ⟨rfl, rfl, trivial⟩ | (simp [wk, wkL, toccM]; done))
theorem tocc_3_ok  : Ret Try.prog 81 ([.int .i8 3]) (.tup [.int .i8 (toccM 3).1, .bool (toccM 3).2]) := by
 exact (Ret.of_eval (d := .tup [.int .i8 3, .bool true]) mixed Try.func81 (by kernel_rfl) [tT, tT, tF, tF, .inl, tT, .get ([.int .i8 4, .int .i8 5, .int .i8 7, .int .i8 3, .int .i8 2, .int .i8 6, .int .i8 15, .int .i8 13, .int .i8 12, .int .i8 14, .int .i8 5]) 3 (.int .i8 3) rfl] (by kernel_rfl)).to (by first | rfl | exact ⟨rfl, rfl, trivial⟩ | (simp [wk, wkL, toccM]; done))
theorem tocc_4_ok  : Ret Try.prog 81 ([.int .i8 4]) (.tup [.int .i8 (toccM 4).1, .bool (toccM 4).2]) := by
 exact (Ret.of_eval (d := .tup [.int .i8 2, .bool true]) mixed Try.func81 (by kernel_rfl) [tT, tT, tF, tF, .inl, tT, .get ([.int .i8 4, .int .i8 5, .int .i8 7, .int .i8 3, .int .i8 2, .int .i8 6, .int .i8 15, .int .i8 13, .int .i8 12, .int .i8 14, .int .i8 5]) 4 (.int .i8 2) rfl] (by kernel_rfl)).to (by first | rfl | exact ⟨rfl, rfl, trivial⟩ | (simp [wk, wkL, toccM]; done))
theorem tocc_5_ok  : Ret Try.prog 81 ([.int .i8 5]) (.tup [.int .i8 (toccM 5).1, .bool (toccM 5).2]) := by
 exact (Ret.of_eval (d := .tup [.int .i8 6, .bool true]) mixed Try.func81 (by kernel_rfl) [tT, tT, tF, tF, .inl, tT, .get ([.int .i8 4, .int .i8 5, .int .i8 7, .int .i8 3, .int .i8 2, .int .i8 6, .int .i8 15, .int .i8 13, .int .i8 12, .int .i8 14, .int .i8 5]) 5 (.int .i8 6) rfl] (by kernel_rfl)).to (by first | rfl | exact ⟨rfl, rfl, trivial⟩ | (simp [wk, wkL, toccM]; done))
theorem tocc_6_ok  : Ret Try.prog 81 ([.int .i8 6]) (.tup [.int .i8 (toccM 6).1, .bool (toccM 6).2]) := by
 exact (Ret.of_eval (d := .tup [.int .i8 15, .bool true]) mixed Try.func81 (by kernel_rfl) [tT, tT, tF, tF, .inl, tT, .get ([.int .i8 4, .int .i8 5, .int .i8 7, .int .i8 3, .int .i8 2, .int .i8 6, .int .i8 15, .int .i8 13, .int .i8 12, .int .i8 14, .int .i8 5]) 6 (.int .i8 15) rfl] (by kernel_rfl)).to (by first | rfl | exact ⟨rfl, rfl, trivial⟩ | (simp [wk, wkL, toccM]; done))
theorem tocc_7_ok  : Ret Try.prog 81 ([.int .i8 7]) (.tup [.int .i8 (toccM 7).1, .bool (toccM 7).2]) := by
 exact (Ret.of_eval (d := .tup [.int .i8 13, .bool true]) mixed Try.func81 (by kernel_rfl) [tT, tT, tF, tF, .inl, tT, .get ([.int .i8 4, .int .i8 5, .int .i8 7, .int .i8 3, .int .i8 2, .int .i8 6, .int .i8 15, .int .i8 13, .int .i8 12, .int .i8 14, .int .i8 5]) 7 (.int .i8 13) rfl] (by kernel_rfl)).to (by first | rfl | exact ⟨rfl, rfl, trivial⟩ | (simp [wk, wkL, toccM]; done))
theorem tocc_8_ok  : Ret Try.prog 81 ([.int .i8 8]) (.tup [.int .i8 (toccM 8).1, .bool (toccM 8).2]) := by
 exact (Ret.of_eval (d := .tup [.int .i8 12, .bool true]) mixed Try.func81 (by kernel_rfl) [tT, tT, tF, tF, .inl, tT, .get ([.int .i8 4, .int .i8 5, .int .i8 7, .int .i8 3, .int .i8 2, .int .i8 6, .int .i8 15, .int .i8 13, .int .i8 12, .int .i8 14, .int .i8 5]) 8 (.int .i8 12) rfl] (by kernel_rfl)).to (by first | rfl | exact ⟨rfl, rfl, trivial⟩ | (simp [wk, wkL, toccM]; done))
theorem tocc_9_ok  : Ret Try.prog 81 ([.int .i8 9]) (.tup [.int .i8 (toccM 9).1, .bool (toccM 9).2]) := by
 exact (Ret.of_eval (d := .tup [.int .i8 14, .bool true]) mixed Try.func81 (by kernel_rfl) [tT, tT, tF, tF, .inl, tT, .get ([.int .i8 4, .int .i8 5, .int .i8 7, .int .i8 3, .int .i8 2, .int .i8 6, .int .i8 15, .int .i8 13, .int .i8 12, .int .i8 14, .int .i8 5]) 9 (.int .i8 14) rfl] (by kernel_rfl)).to (by first | rfl | exact ⟨rfl, rfl, trivial⟩ | (simp [wk, wkL, toccM]; done))
theorem tocc_10_ok  : Ret Try.prog 81 ([.int .i8 10]) (.tup [.int .i8 (toccM 10).1, .bool (toccM 10).2]) := by
 exact (Ret.of_eval (d := .tup [.int .i8 5, .bool true]) mixed Try.func81 (by kernel_rfl) [tT, tT, tF, tF, .inl, tT, .get ([.int .i8 4, .int .i8 5, .int .i8 7, .int .i8 3, .int .i8 2, .int .i8 6, .int .i8 15, .int .i8 13, .int .i8 12, .int .i8 14, .int .i8 5]) 10 (.int .i8 5) rfl] (by kernel_rfl)).to (by first | rfl | exact ⟨rfl, rfl, trivial⟩ | (simp [wk, wkL, toccM]; done))
theorem rtocc_0_ok  : Ret Try.prog 38 ([.int .i8 0]) (.tup [.int .i8 (toccM 0).1, .bool (toccM 0).2]) := by
 exact (Ret.of_eval (d := .tup [.int .i8 4, .bool true]) mixed Try.func38 (by kernel_rfl) [tT] (by kernel_rfl)).to (by first | rfl | exact ⟨rfl, rfl, trivial⟩ | (simp [wk, wkL, toccM]; done))
theorem rtocc_1_ok  : Ret Try.prog 38 ([.int .i8 1]) (.tup [.int .i8 (toccM 1).1, .bool (toccM 1).2]) := by
 exact (Ret.of_eval (d := .tup [.int .i8 5, .bool true]) mixed Try.func38 (by kernel_rfl) [tF, tT, tT] (by kernel_rfl)).to (by first | rfl | exact ⟨rfl, rfl, trivial⟩ | (simp [wk, wkL, toccM]; done))
theorem rtocc_2_ok  : Ret Try.prog 38 ([.int .i8 2]) (.tup [.int .i8 (toccM 2).1, .bool (toccM 2).2]) := by
 exact (Ret.of_eval (d := .tup [.int .i8 7, .bool true]) mixed Try.func38 (by kernel_rfl) [tF, tF, tF, tT] (by kernel_rfl)).to (by first | rfl | exact ⟨rfl, rfl, trivial⟩ | (simp [wk, wkL, toccM]; done))
theorem rtocc_3_ok  : Ret Try.prog 38 ([.int .i8 3]) (.tup [.int .i8 (toccM 3).1, .bool (toccM 3).2]) := by
 exact (Ret.of_eval (d := .tup [.int .i8 3, .bool true]) mixed Try.func38 (by kernel_rfl) [tF, tF, tF, tF, tT] (by kernel_rfl)).to (by first | rfl | exact ⟨rfl, rfl, trivial⟩ | (simp [wk, wkL, toccM]; done))
theorem rtocc_4_ok  : Ret Try.prog 38 ([.int .i8 4]) (.tup [.int .i8 (toccM 4).1, .bool (toccM 4).2]) := by
 exact (Ret.of_eval (d := .tup [.int .i8 2, .bool true]) mixed Try.func38 (by kernel_rfl) [tF, tF, tF, tF, tF, tT] (by kernel_rfl)).to (by first | rfl | exact ⟨rfl, rfl, trivial⟩ | (simp [wk, wkL, toccM]; done))
theorem rtocc_5_ok  : Ret Try.prog 38 ([.int .i8 5]) (.tup [.int .i8 (toccM 5).1, .bool (toccM 5).2]) := by
 exact (Ret.of_eval (d := .tup [.int .i8 6, .bool true]) mixed Try.func38 (by kernel_rfl) [tF, tF, tF, tF, tF, tF, tT] (by kernel_rfl)).to (by first | rfl | exact ⟨rfl, rfl, trivial⟩ | (simp [wk, wkL, toccM]; done))
theorem rtocc_6_ok  : Ret Try.prog 38 ([.int .i8 6]) (.tup [.int .i8 (toccM 6).1, .bool (toccM 6).2]) := by
 exact (Ret.of_eval (d := .tup [.int .i8 15, .bool true]) mixed Try.func38 (by kernel_rfl) [tF, tF, tF, tF, tF, tF, tF, tT] (by kernel_rfl)).to (by first | rfl | exact ⟨rfl, rfl, trivial⟩ | (simp [wk, wkL, toccM]; done))
theorem rtocc_7_ok  : Ret Try.prog 38 ([.int .i8 7]) (.tup [.int .i8 (toccM 7).1, .bool (toccM 7).2]) := by
 exact (Ret.of_eval (d := .tup [.int .i8 13, .bool true]) mixed Try.func38 (by kernel_rfl) [tF, tF, tF, tF, tF, tF, tF, tF, tT] (by kernel_rfl)).to (by first | rfl | exact ⟨rfl, rfl, trivial⟩ | (simp [wk, wkL, toccM]; done))
theorem rtocc_8_ok  : Ret Try.prog 38 ([.int .i8 8]) (.tup [.int .i8 (toccM 8).1, .bool (toccM 8).2]) := by
 exact (Ret.of_eval (d := .tup [.int .i8 12, .bool true]) mixed Try.func38 (by kernel_rfl) [tF, tF, tF, tF, tF, tF, tF, tF, tF, tT] (by kernel_rfl)).to (by first | rfl | exact ⟨rfl, rfl, trivial⟩ | (simp [wk, wkL, toccM]; done))
theorem rtocc_9_ok  : Ret Try.prog 38 ([.int .i8 9]) (.tup [.int .i8 (toccM 9).1, .bool (toccM 9).2]) := by
 exact (Ret.of_eval (d := .tup [.int .i8 14, .bool true]) mixed Try.func38 (by kernel_rfl) [tF, tF, tF, tF, tF, tF, tF, tF, tF, tF, tT] (by kernel_rfl)).to (by first | rfl | exact ⟨rfl, rfl, trivial⟩ | (simp [wk, wkL, toccM]; done))
theorem rtocc_10_ok  : Ret Try.prog 38 ([.int .i8 10]) (.tup [.int .i8 (toccM 10).1, .bool (toccM 10).2]) := by
 exact (Ret.of_eval (d := .tup [.int .i8 5, .bool true]) mixed Try.func38 (by kernel_rfl) [tF, tF, tT] (by kernel_rfl)).to (by first | rfl | exact ⟨rfl, rfl, trivial⟩ | (simp [wk, wkL, toccM]; done))
end Go.Proofs.Ytcngafhpodeenaa

namespace Go.Proofs.Ytcngafhpodeenaa
open Go Go.Ev
theorem cc11 {cc : Int} (h0 : 0 ≤ cc) (h1 : cc ≤ 10) : cc = 0 ∨ cc = 1 ∨ cc = 2 ∨ cc = 3 ∨ cc = 4 ∨ cc = 5 ∨ cc = 6 ∨ cc = 7 ∨ cc = 8 ∨ cc = 9 ∨ cc = 10 := by omega
theorem tocc_in_ok (cc : Int) (h0 : 0 ≤ cc) (h1 : cc ≤ 10) : Ret Try.prog 81 [.int .i8 cc] (.tup [.int .i8 (toccM cc).1, .bool (toccM cc).2]) := by
 rcases cc11 h0 h1 with rfl | rfl | rfl | rfl | rfl | rfl | rfl | rfl | rfl | rfl | rfl
 ·exact tocc_0_ok
 ·exact tocc_1_ok
 ·exact tocc_2_ok
 ·exact tocc_3_ok
 ·exact tocc_4_ok
 ·exact tocc_5_ok
 ·exact tocc_6_ok
 ·exact tocc_7_ok
 ·exact tocc_8_ok
 ·exact tocc_9_ok
 ·exact tocc_10_ok
theorem rtocc_in_ok (cc : Int) (h0 : 0 ≤ cc) (h1 : cc ≤ 10) : Ret Try.prog 38 [.int .i8 cc] (.tup [.int .i8 (toccM cc).1, .bool (toccM cc).2]) := by
 rcases cc11 h0 h1 with rfl | rfl | rfl | rfl | rfl | rfl | rfl | rfl | rfl | rfl | rfl
 ·exact rtocc_0_ok
 ·exact rtocc_1_ok
 ·exact rtocc_2_ok
 ·exact rtocc_3_ok
 ·exact rtocc_4_ok
 ·exact rtocc_5_ok
 ·exact rtocc_6_ok
 ·exact rtocc_7_ok
 ·exact rtocc_8_ok
 ·exact rtocc_9_ok
 ·exact rtocc_10_ok
end Go.Proofs.Ytcngafhpodeenaa

namespace Go.Proofs.Ytcngafhpodeenaa
open Go Go.Ev
abbrev EL := List (Ev Try.prog)
theorem bft (b : Bool) : b = true ∨ b = false := Bool.eq_false_or_eq_true b
theorem sl0 : (∀ {p : Prop} [Decidable p], (decide p = true) = p) ∧ (∀ {p : Prop} [Decidable p], (decide p = false) ↔ ¬p) ∧ (∀ (b : Bool), (¬(b = true)) = (b = false)) ∧ (∀ {α : Type} [BEq α] [LawfulBEq α] {a b : α}, (a == b) = true ↔ a = b) ∧ (∀ {α : Type} [BEq α] [LawfulBEq α] {a b : α}, (a == b) = false ↔ a ≠ b) ∧ (∀ (a b : Bool), (D.bool a = D.bool b) = (a = b)) := ⟨@decide_eq_true_eq, @decide_eq_false_iff_not, @Bool.not_eq_true, @beq_iff_eq, @beq_eq_false_iff_ne, @D.bool.injEq⟩
theorem sl2 : (∀ n : Int, IntKind.i8.wrap n = (n + 128) % 256 - 128) ∧ (∀ n : Int, IntKind.u8.wrap n = n % 256) ∧ (∀ n : Int, IntKind.i64.wrap n = (n + 9223372036854775808) % 18446744073709551616 - 9223372036854775808) ∧ (∀ n : Int, IntKind.u64.wrap n = n % 18446744073709551616) ∧ (∀ {p : Prop} [Decidable p], (decide p = true) = p) ∧ (∀ {p : Prop} [Decidable p], (decide p = false) ↔ ¬p) ∧ (∀ {α : Type} [BEq α] [LawfulBEq α] {a b : α}, (a == b) = true ↔ a = b) ∧ (∀ {α : Type} [BEq α] [LawfulBEq α] {a b : α}, (a != b) = true ↔ a ≠ b) ∧ (∀ {α : Type} [BEq α] [LawfulBEq α] {a b : α}, (a == b) = false ↔ a ≠ b) ∧ (∀ {α : Type} [BEq α] [LawfulBEq α] {a b : α}, (a != b) = false ↔ a = b) ∧ (∀ (b : Bool), ((!b) = true) = (b = false)) ∧ (∀ (b : Bool), ((!b) = false) = (b = true)) ∧ (∀ (a b : Bool), ((a && b) = true) = (a = true ∧ b = true)) ∧ (∀ (a b : Bool), ((a || b) = true) = (a = true ∨ b = true)) := ⟨@w_i8, @w_u8, @w_i64, @w_u64, @decide_eq_true_eq, @decide_eq_false_iff_not, @beq_iff_eq, @bne_iff_ne, @beq_eq_false_iff_ne, @bne_eq_false_iff_eq, @Bool.not_eq_true', @Bool.not_eq_false', @Bool.and_eq_true, @Bool.or_eq_true⟩
def OE (n : Nat) (f : Func) : Prop := ∀ {x : List D} {d : D} (o : EL), evalRet Try.prog f x o = some (d, selfs o True) → Ret Try.prog n x d
theorem o0 : OE 0 Try.f0 := Ret.of_eval mixed Try.func0 (by kernel_rfl)
theorem o1 : OE 1 Try.f1 := Ret.of_eval mixed Try.func1 (by kernel_rfl)
theorem o2 : OE 2 Try.f2 := Ret.of_eval mixed Try.func2 (by kernel_rfl)
theorem o3 : OE 3 Try.f3 := Ret.of_eval mixed Try.func3 (by kernel_rfl)
theorem o36 : OE 36 Try.f36 := Ret.of_eval mixed Try.func36 (by kernel_rfl)
theorem o37 : OE 37 Try.f37 := Ret.of_eval mixed Try.func37 (by kernel_rfl)
theorem o41 : OE 41 Try.f41 := Ret.of_eval mixed Try.func41 (by kernel_rfl)
theorem o42 : OE 42 Try.f42 := Ret.of_eval mixed Try.func42 (by kernel_rfl)
theorem o43 : OE 43 Try.f43 := Ret.of_eval mixed Try.func43 (by kernel_rfl)
theorem o69 : OE 69 Try.f69 := Ret.of_eval mixed Try.func69 (by kernel_rfl)
theorem o70 : OE 70 Try.f70 := Ret.of_eval mixed Try.func70 (by kernel_rfl)
theorem o75 : OE 75 Try.f75 := Ret.of_eval mixed Try.func75 (by kernel_rfl)
theorem o76 : OE 76 Try.f76 := Ret.of_eval mixed Try.func76 (by kernel_rfl)
theorem o77 : OE 77 Try.f77 := Ret.of_eval mixed Try.func77 (by kernel_rfl)
theorem o78 : OE 78 Try.f78 := Ret.of_eval mixed Try.func78 (by kernel_rfl)
theorem o79 : OE 79 Try.f79 := Ret.of_eval mixed Try.func79 (by kernel_rfl)
theorem o80 : OE 80 Try.f80 := Ret.of_eval mixed Try.func80 (by kernel_rfl)
theorem o93 : OE 93 Try.f93 := Ret.of_eval mixed Try.func93 (by kernel_rfl)
theorem o94 : OE 94 Try.f94 := Ret.of_eval mixed Try.func94 (by kernel_rfl)
theorem o143 : OE 143 Try.f143 := Ret.of_eval mixed Try.func143 (by kernel_rfl)
theorem o147 : OE 147 Try.f147 := Ret.of_eval mixed Try.func147 (by kernel_rfl)
theorem o148 : OE 148 Try.f148 := Ret.of_eval mixed Try.func148 (by kernel_rfl)
theorem o175 : OE 175 Try.f175 := Ret.of_eval mixed Try.func175 (by kernel_rfl)
theorem o176 : OE 176 Try.f176 := Ret.of_eval mixed Try.func176 (by kernel_rfl)
theorem o191 : OE 191 Try.f191 := Ret.of_eval mixed Try.func191 (by kernel_rfl)
end Go.Proofs.Ytcngafhpodeenaa

namespace Go.Proofs.Ytcngafhpodeenaa
open Go Go.Ev
set_option maxRecDepth 100000
set_option maxHeartbeats 8000000
theorem l_take_ok (phys reg : Int) : Ret Try.prog 78 ([.int .i8 phys, .int .i8 reg]) ((irD 1 0 0 0 0 0 0 0 0 reg phys 0 0)) := by
 exact (o78 (d := (irD 1 0 0 0 0 0 0 0 0 reg phys 0 0)) [] (by kernel_rfl)).to (by simp [wk, wkL, wkO])
theorem l_give_ok (reg phys : Int) : Ret Try.prog 143 ([.int .i8 reg, .int .i8 phys]) ((irD 2 0 0 0 0 0 0 0 0 reg phys 0 0)) := by
 exact (o143 (d := (irD 2 0 0 0 0 0 0 0 0 reg phys 0 0)) [] (by kernel_rfl)).to (by simp [wk, wkL, wkO])
theorem l_two_ok (op w dst src : Int) : Ret Try.prog 80 ([.int .i8 op, .int .i8 w, .int .i8 dst, .int .i8 src]) ((irD 0 op w dst src 0 0 0 0 0 0 0 0)) := by
 exact (o80 (d := (irD 0 op w dst src 0 0 0 0 0 0 0 0)) [] (by kernel_rfl)).to (by simp [wk, wkL, wkO])
theorem l_one_ok (op w dst : Int) : Ret Try.prog 175 ([.int .i8 op, .int .i8 w, .int .i8 dst]) ((irD 0 op w dst 0 0 0 0 0 0 0 0 0)) := by
 have c0 := @l_two_ok op w dst 0
 exact (o175 (d := (irD 0 op w dst 0 0 0 0 0 0 0 0 0)) [.ret _ _ _ c0] (by kernel_rfl)).to (by simp [wk, wkL, wkO])
theorem l_num_ok (op w dst n : Int) : Ret Try.prog 79 ([.int .i8 op, .int .i8 w, .int .i8 dst, .int .i64 n]) ((irD 0 op w dst 0 0 0 n 0 0 0 0 0)) := by
 exact (o79 (d := (irD 0 op w dst 0 0 0 n 0 0 0 0 0)) [] (by kernel_rfl)).to (by simp [wk, wkL, wkO])
theorem l_goes_ok (n : Int) : Ret Try.prog 36 ([.int .i64 n]) ((irD 5 0 0 0 0 0 0 0 0 0 0 0 n)) := by
 exact (o36 (d := (irD 5 0 0 0 0 0 0 0 0 0 0 0 n)) [] (by kernel_rfl)).to (by simp [wk, wkL, wkO])
theorem l_steps_ok (l : List D) : Ret Try.prog 77 ([.lst .tight 13 l]) (.lst .tight 13 l) := by
 exact (o77 (d := .lst .tight 13 l) [] (by kernel_rfl)).to (by simp [wk, wkL, wkO])
theorem l_choose_ok (w dst : Int) : Ret Try.prog 191 ([.int .i8 w, .int .i8 dst]) (.lst .tight 13 [(irD 0 8 w 1 1 0 0 0 0 0 0 0 0), (irD 0 25 w dst 11 0 0 0 4 0 0 0 0)]) := by
 have c0 := @l_two_ok 25 w dst 11
 have c1 := @l_two_ok 8 w 1 1
 have c2 := @l_steps_ok ([(irD 0 8 w 1 1 0 0 0 0 0 0 0 0), (irD 0 25 w dst 11 0 0 0 4 0 0 0 0)])
 exact (o191 (d := .lst .tight 13 [(irD 0 8 w 1 1 0 0 0 0 0 0 0 0), (irD 0 25 w dst 11 0 0 0 4 0 0 0 0)]) [.ret _ _ _ c0, .ret _ _ _ c1, .ret _ _ _ c2] (by kernel_rfl)).to (by simp [wk, wkL, wkO])
theorem l_short32_ok (kind op size : Int) (byReg : Bool) (dst src off imm : Int) : Ret Try.prog 176 ([instD kind op 32 size byReg dst src off imm]) (.lst .tight 13 [(irD 0 0 32 0 0 0 0 0 0 0 0 0 0)]) := by
 have c0 := @l_two_ok 0 32 0 0
 have c1 := @l_steps_ok ([(irD 0 0 32 0 0 0 0 0 0 0 0 0 0)])
 exact (o176 (d := .lst .tight 13 [(irD 0 0 32 0 0 0 0 0 0 0 0 0 0)]) [tT, .ret _ _ _ c0, .ret _ _ _ c1] (by kernel_rfl)).to (by simp [wk, wkL, wkO])
theorem l_short64_ok (kind op size : Int) (byReg : Bool) (dst src off imm : Int) : Ret Try.prog 176 ([instD kind op 64 size byReg dst src off imm]) (.lst .tight 0 []) := by
 exact (o176 (d := .lst .tight 0 []) [tF] (by kernel_rfl)).to (by simp [wk, wkL, wkO])
end Go.Proofs.Ytcngafhpodeenaa

namespace Go.Proofs.Ytcngafhpodeenaa
open Go Go.Ev
set_option maxRecDepth 100000
set_option maxHeartbeats 8000000
theorem r_take_ok (phys reg : Int) : Ret Try.prog 87 ([.int .i8 phys, .int .i8 reg]) ((irD 1 0 0 0 0 0 0 0 0 reg phys 0 0)) := by
 exact (Ret.of_eval (d := (irD 1 0 0 0 0 0 0 0 0 reg phys 0 0)) mixed Try.func87 (by kernel_rfl) [] (by kernel_rfl)).to (by simp [wk, wkL, wkO])
theorem r_give_ok (reg phys : Int) : Ret Try.prog 92 ([.int .i8 reg, .int .i8 phys]) ((irD 2 0 0 0 0 0 0 0 0 reg phys 0 0)) := by
 exact (Ret.of_eval (d := (irD 2 0 0 0 0 0 0 0 0 reg phys 0 0)) mixed Try.func92 (by kernel_rfl) [] (by kernel_rfl)).to (by simp [wk, wkL, wkO])
theorem r_x_ok (op w dst src base disp imm cc : Int) : Ret Try.prog 91 ([xD op w dst src base disp imm cc]) ((irD 0 op w dst src base disp imm cc 0 0 0 0)) := by
 exact (Ret.of_eval (d := (irD 0 op w dst src base disp imm cc 0 0 0 0)) mixed Try.func91 (by kernel_rfl) [] (by kernel_rfl)).to (by simp [wk, wkL, wkO])
theorem r_two_ok (op w dst src : Int) : Ret Try.prog 88 ([.int .i8 op, .int .i8 w, .int .i8 dst, .int .i8 src]) ((irD 0 op w dst src 0 0 0 0 0 0 0 0)) := by
 have c0 := @r_x_ok (op) (w) (dst) (src) ((0 : Int)) ((0 : Int)) ((0 : Int)) ((0 : Int))
 exact (Ret.of_eval (d := (irD 0 op w dst src 0 0 0 0 0 0 0 0)) mixed Try.func88 (by kernel_rfl) [.ret _ _ _ c0] (by kernel_rfl)).to (by simp [wk, wkL, wkO])
theorem r_imm_ok (op w dst n : Int) : Ret Try.prog 89 ([.int .i8 op, .int .i8 w, .int .i8 dst, .int .i64 n]) ((irD 0 op w dst 0 0 0 n 0 0 0 0 0)) := by
 have c0 := @r_x_ok (op) (w) (dst) ((0 : Int)) ((0 : Int)) ((0 : Int)) (n) ((0 : Int))
 exact (Ret.of_eval (d := (irD 0 op w dst 0 0 0 n 0 0 0 0 0)) mixed Try.func89 (by kernel_rfl) [.ret _ _ _ c0] (by kernel_rfl)).to (by simp [wk, wkL, wkO])
theorem r_goes_ok (n : Int) : Ret Try.prog 40 ([.int .i64 n]) ((irD 5 0 0 0 0 0 0 0 0 0 0 0 n)) := by
 exact (Ret.of_eval (d := (irD 5 0 0 0 0 0 0 0 0 0 0 0 n)) mixed Try.func40 (by kernel_rfl) [] (by kernel_rfl)).to (by simp [wk, wkL, wkO])
theorem r_choose_ok (w dst : Int) : Ret Try.prog 179 ([.int .i8 w, .int .i8 dst]) (.lst .tight 13 [(irD 0 8 w 1 1 0 0 0 0 0 0 0 0), (irD 0 25 w dst 11 0 0 0 4 0 0 0 0)]) := by
 have c0 := @r_two_ok ((8 : Int)) (w) ((1 : Int)) ((1 : Int))
 have c1 := @r_x_ok ((25 : Int)) (w) (dst) ((11 : Int)) ((0 : Int)) ((0 : Int)) ((0 : Int)) ((4 : Int))
 exact (Ret.of_eval (d := .lst .tight 13 [(irD 0 8 w 1 1 0 0 0 0 0 0 0 0), (irD 0 25 w dst 11 0 0 0 4 0 0 0 0)]) mixed Try.func179 (by kernel_rfl) [.ret _ _ _ c0, .ret _ _ _ c1] (by kernel_rfl)).to (by simp [wk, wkL, wkO])
end Go.Proofs.Ytcngafhpodeenaa

namespace Go.Ev
open Go Go.RowKit Go.ChangeShapes Go.WideShapes
theorem trodAll_below {H : Type} {enc : TypeId × Value → H} {P : Program} (hl : laidOutB P = true) {W W' : World} (hb : Below W.heap.size W W') : ∀ {ts : List TypeId} {vs : List Value} {ds : List (DataW H)} {ps : List MemPlace},
  (∀ t ∈ ts, P.readableRec t = true ∧ t < P.types.size) → DataW.TrodAll enc P W 0 (fun _ => true) true ts vs ds ps → (∀ x ∈ ps, x.block < W.heap.size) → DataW.TrodAll enc P W' 0 (fun b => decide (b < W.heap.size)) true ts vs ds ps
 | [], vs, ds, ps, _, h, _ => by
  obtain ⟨rfl, rfl, rfl⟩ := trodAll_nil h
  rfl
 | t :: ts, vs, ds, ps, hr, h, hp => by
  obtain ⟨v, vs', d, ds', p, q, rfl, rfl, rfl, h1, h2⟩ := trodAll_cons h
  have hrt := hr t (by simp)
  exact ⟨p, q, Below.trod hl hrt.1 hrt.2 h1 hb (fun x hx => hp x (by simp [hx])), trodAll_below hl hb (fun t ht => hr t (by simp [ht])) h2 (fun x hx => hp x (by simp [hx])), rfl⟩
theorem trodAll_lengths {H : Type} {enc : TypeId × Value → H} {P : Program} {W : World} {b : Nat} {sp : Nat → Bool} {hd : Bool} : ∀ {ts : List TypeId} {vs : List Value} {ds : List (DataW H)} {ps : List MemPlace}, DataW.TrodAll enc P W b sp hd ts vs ds ps → vs.length = ts.length ∧ ds.length = ts.length
 | [], vs, ds, ps, h => by
  obtain ⟨rfl, rfl, rfl⟩ := trodAll_nil h
  exact ⟨rfl, rfl⟩
 | t :: ts, vs, ds, ps, h => by
  obtain ⟨v, vs', d, ds', p, q, rfl, rfl, rfl, h1, h2⟩ := trodAll_cons h
  obtain ⟨k1, k2⟩ := trodAll_lengths h2
  exact ⟨by simp [k1], by simp [k2]⟩
theorem law_lifted {a : Assume} {H : Type} {enc : TypeId × Value → H} {C : Checked} {os : Os} {f : FuncId} {fn : Func} {s : ChangeSpec} {conds : List PathCond} {fresh handsOn : Bool} {tb : TypeId}
  (own : ownKnob C.prog.godebug = none) (started : os.Started) (noInit : C.prog.inits.idxOf? f = none) (hfn : C.prog.funcs[f]? = some fn) (hl : laidOutB C.prog = true) (hvars : s.vars = [])
  (hparams : ∀ t ∈ fn.params.toList, C.prog.readableRec t = true ∧ t < C.prog.types.size) (hres : fn.resultTypes = #[tb]) (htb : C.prog.underlying tb = some .bool)
  (hspec : ∀ ds : List (DataW H), ds.length = fn.params.toList.length → (s.fn H ds).results = [.lit (.bool true)] ∧ (s.fn H ds).args = ds ∧ (s.fn H ds).vars = [])
  (witness : ∃ (w : World) (tape : Tape) (i : Input), w.os = os ∧ (w.forCall tape i).Shaped C.prog ∧ i.vars = [] ∧ Input.okWide C.prog (w.forCall tape i) .any w.heap.size f i ∧
   s.pre6 enc C.prog fn conds false (w.forCall tape i).memory i.args ∧ a.holds C.prog (lone (Frame.enter C.prog f i.args .normal) [] (w.forCall tape i)))
  (law : ∀ (W : World) (base : Nat) (args : Array Value) (ds : List (DataW H)) (ps : List MemPlace), (∀ (j : Nat) t v, fn.params[j]? = some t → args[j]? = some v → Value.okWide C.prog W .any base t v) →
   args.toList.length = fn.params.toList.length → DataW.TrodAll enc C.prog W 0 (fun _ => true) true fn.params.toList args.toList ds ps → (DataW.weightsEach C.prog fn.params.toList ds).all (· ≤ reachBytes) = true →
   Calls C.prog f args W fun e W' => e = .returned (.bool true) ∧ Below W.heap.size W W') :
  ReturnsInHanded a C os f .any (s.pre6 enc C.prog fn conds false) (s.post enc C.prog fn false fresh handsOn false) := by
 refine returnsInHanded_of_change_sized own started noInit hfn witness ?_
 intro W base args ds gs before hval hW _ hz _
 have hW' := hW
 obtain ⟨p, q, hA, hV, rfl, hfz, hnd⟩ := hW
 rw [hvars] at hV
 obtain ⟨rfl, rfl⟩ := trodVars_none hV
 obtain ⟨l1, l2⟩ := trodAll_lengths hA
 have hz' : (DataW.weightsEach C.prog fn.params.toList ds).all (· ≤ reachBytes) = true := by
  have e : s.plain.varTypes C.prog = [] := by simp [ChangeSpec.plain, DataSpec.varTypes, hvars]
  rw [e, List.append_nil, List.append_nil] at hz
  exact hz
 refine (law W base args ds p hval l1 hA hz').mono fun e W' ⟨he, hb⟩ => ?_
 subst he
 refine ⟨_, rfl, ds, [], p ++ [], [], p, [], hW', ?_⟩
 rw [List.append_nil]
 obtain ⟨s1, s2, s3⟩ := hspec ds l2
 rw [s1, s2, s3, hres, hvars]
 refine ⟨?_, trodAll_below hl hb hparams hA (fun x hx => by simpa using hW'.lt x (by simpa using hx)), rfl, Below.frame hb _, fun h => nomatch h⟩
 exact trodAll_mk1 (shut_bool htb true)
def okL : List LK → List D → Prop
  | [], ds => ds = []
  | .bool :: ks, ds => ∃ (b : Bool) (r : List D), ds = .bool b :: r ∧ okL ks r
  | .int k :: ks, ds => ∃ (n : Int) (r : List D), ds = .int k n :: r ∧ k.has n ∧ okL ks r
  | .str :: ks, ds => ∃ (b : ByteArray) (r : List D), ds = .str b :: r ∧ (b.size : Int) ≤ IntKind.i64.max ∧ okL ks r
def kindOf (P : Program) (t : TypeId) : Option LK := match P.underlying t with
  | some .bool => some .bool
  | some (.int k) => some (.int k)
  | some .string => some .str
  | _ => none
def kindsOf (P : Program) : List TypeId → Option (List LK)
  | [] => some []
  | t :: r => match kindOf P t, kindsOf P r with
    | some k, some l => some (k :: l)
    | _, _ => none
def allOf (w : World) : Nat → Nat → Option Value := fun b o => w.cell? ⟨b, o, none⟩
theorem Ret.law {P : Program} {f : FuncId} {args : List D} (h : Ret P f args (.bool true)) {W : World} {vs : Array Value} (hr : RepL (bareOf (allOf W)) args vs) : Calls P f vs W fun e W' => e = .returned (.bool true) ∧ Below W.heap.size W W' := by
 refine Calls.mono (h.run W (allOf W) vs (fun b o v k => k) hr) ?_
 rintro e W' ⟨v, C', rfl, hext, hrep, _⟩
 cases hrep
 exact ⟨rfl, hext.below⟩
end Go.Ev
