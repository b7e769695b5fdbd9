/- Contracts and plain laws that a statement's proof leans on (texts merged: MdS, MdI, MdO, MdPl, FEH, FE0, MdJ, MdT, MdK, MdFr, FE0A, FE1, FE1A, FE2). -/
import Derived.Test.YtkpneibifdoecaaGreatT04
set_option linter.unusedVariables false
set_option linter.unusedSimpArgs false
namespace Go.Ev
open Go
structure MachS where
  (q0 q1 q2 q3 q4 q5 q6 q7 q8 q9 q10 q11 q12 q13 q14 q15 : Int)
  (fk fc fz fs fo : Bool)
  (pc : Int)
deriving DecidableEq
def MachS.d (m : MachS) : D := .agg [.int .u64 m.q0, .int .u64 m.q1, .int .u64 m.q2, .int .u64 m.q3, .int .u64 m.q4, .int .u64 m.q5, .int .u64 m.q6, .int .u64 m.q7, .int .u64 m.q8, .int .u64 m.q9, .int .u64 m.q10, .int .u64 m.q11, .int .u64 m.q12, .int .u64 m.q13, .int .u64 m.q14, .int .u64 m.q15, .bool m.fk, .bool m.fc, .bool m.fz, .bool m.fs, .bool m.fo, .int .u64 m.pc]
def MachS.rl (m : MachS) : List Int := [m.q0, m.q1, m.q2, m.q3, m.q4, m.q5, m.q6, m.q7, m.q8, m.q9, m.q10, m.q11, m.q12, m.q13, m.q14, m.q15]
def MachS.put (m : MachS) (i v : Int) : MachS := ⟨st 0 i v m.q0, st 1 i v m.q1, st 2 i v m.q2, st 3 i v m.q3, st 4 i v m.q4, st 5 i v m.q5, st 6 i v m.q6, st 7 i v m.q7, st 8 i v m.q8, st 9 i v m.q9, st 10 i v m.q10, st 11 i v m.q11, st 12 i v m.q12, st 13 i v m.q13, st 14 i v m.q14, st 15 i v m.q15, m.fk, m.fc, m.fz, m.fs, m.fo, m.pc⟩
def MachS.flags (m : MachS) (k c z s o : Bool) : MachS := ⟨m.q0, m.q1, m.q2, m.q3, m.q4, m.q5, m.q6, m.q7, m.q8, m.q9, m.q10, m.q11, m.q12, m.q13, m.q14, m.q15, k, c, z, s, o, m.pc⟩
def MachS.at (m : MachS) (v : Int) : MachS := ⟨m.q0, m.q1, m.q2, m.q3, m.q4, m.q5, m.q6, m.q7, m.q8, m.q9, m.q10, m.q11, m.q12, m.q13, m.q14, m.q15, m.fk, m.fc, m.fz, m.fs, m.fo, v⟩
def MachS.zero : MachS := ⟨0, 0, 0, 0, 0, 0, 0, 0, 0, 0, 0, 0, 0, 0, 0, 0, false, false, false, false, false, 0⟩
def XS.len (x : XS) : Int := lenX x.op x.w x.dst x.src x.base x.disp x.imm x.cc
def XS.may (x : XS) : Bool := mayX x.op x.w x.dst x.src x.base x.disp x.imm x.cc
def sopM (op : Int) : Option (Int × Int) :=
  match op with
  | 2 => some (0, 0)
  | 3 => some (4, 0)
  | 4 => some (5, 0)
  | 5 => some (1, 0)
  | 6 => some (10, 0)
  | 7 => some (1, 0)
  | 8 => some (5, 0)
  | 9 => some (0, 1)
  | 10 => some (4, 1)
  | 11 => some (5, 1)
  | 12 => some (1, 1)
  | 13 => some (10, 1)
  | 14 => some (1, 1)
  | 15 => some (5, 1)
  | 16 => some (2, 0)
  | 17 => some (6, 1)
  | 18 => some (7, 1)
  | 19 => some (12, 1)
  | 20 => some (6, 2)
  | 21 => some (7, 2)
  | 22 => some (12, 2)
  | 23 => some (8, 0)
  | _ => none
def secS (m : MachS) (x : XS) (k : Int) : Int := match k with
  | 2 => m.q1
  | 1 => u64 x.imm
  | _ => rg m.rl x.src
def flagS (m : MachS) (s w a b v : Int) : MachS := match s with
  | 0 => m.flags true (addC w a b) (cutM (u64 (a + b)) w == 0) (negM (u64 (a + b)) w) (addO w a b)
  | 1 => m.flags true (subC w a b) (cutM (u64 (a - b)) w == 0) (negM (u64 (a - b)) w) (subO w a b)
  | 8 => m.flags true (subC w 0 a) (cutM (u64 (0 - a)) w == 0) (negM (u64 (0 - a)) w) (subO w 0 a)
  | 4 => m.flags true false (cutM v w == 0) (negM v w) false
  | 5 => m.flags true false (cutM v w == 0) (negM v w) false
  | 10 => m.flags true false (cutM v w == 0) (negM v w) false
  | _ => m.flags false false false false false
def keepOp (op : Int) : Bool := match op with
  | 7 => true
  | 8 => true
  | 14 => true
  | 15 => true
  | _ => false
def doS (m : MachS) (x : XS) (ld : Int) : MachS × Int := match sopM x.op with
  | some (s, k) =>
    let a := rg m.rl x.dst
    let b := secS m x k
    let v := doM s x.w a b
    match keepOp x.op with
    | true => (flagS m s x.w a b v, 0)
    | false => ((flagS m s x.w a b v).put x.dst v, 0)
  | none => match x.op with
    | 0 => (m.put x.dst (cutM (rg m.rl x.src) x.w), 0)
    | 1 => (m.put x.dst (cutM (u64 x.imm) x.w), 0)
    | 24 => match cutM (rg m.rl x.dst) x.w == 0 with
      | true => (.zero, 20)
      | false => match cutM m.q2 x.w == 0 with
        | false => (.zero, 20)
        | true => (({ m with q0 := u64 ((cutM m.q0 x.w).tdiv (cutM (rg m.rl x.dst) x.w)), q2 := (cutM m.q0 x.w).tmod (cutM (rg m.rl x.dst) x.w) }).flags false false false false false, 0)
    | 25 => match m.fk with
      | false => (.zero, 20)
      | true => (m.put x.dst (cutM (if holdM x.cc m.fc m.fz m.fs m.fo then rg m.rl x.src else rg m.rl x.dst) x.w), 0)
    | 26 => (m.put x.dst (cutM ld x.w), 0)
    | 28 => (m.at (u64 (m.pc + u64 x.imm)), 0)
    | 29 => match m.fk with
      | false => (.zero, 20)
      | true => (m.at (if holdM x.cc m.fc m.fz m.fs m.fo then u64 (m.pc + u64 x.imm) else m.pc), 0)
    | 30 => (({ m with q4 := u64 (m.q4 + 8) }).at ld, 0)
    | 31 => ({ m with q0 := ld, q1 := 0, q11 := 0 }, 0)
    | _ => (m, 0)
def execS (m : MachS) (x : XS) (ld : Int) : MachS × Int := match x.may with
  | false => (.zero, 2)
  | true => doS (m.at (u64 (m.pc + u64 x.len))) x ld
def execM (m : MachS) (x : XS) (ld : Int) : MachS := (execS m x ld).1
def execE (m : MachS) (x : XS) (ld : Int) : Int := (execS m x ld).2
theorem execS_no {m : MachS} {x : XS} {ld : Int} (h : x.may = false) : execS m x ld = (.zero, 2) := by unfold execS; rw [h]
theorem execS_may {m : MachS} {x : XS} {ld : Int} (h : x.may = true) : execS m x ld = doS (m.at (u64 (m.pc + u64 x.len))) x ld := by unfold execS; rw [h]
def pcX (m : MachS) (op w dst src base disp imm cc : Int) : Int := u64 (m.pc + u64 (lenX op w dst src base disp imm cc))
def xT (op w dst src base disp imm cc ld : Int) : List D := [.int .i8 op, .int .i8 w, .int .i8 dst, .int .i8 src, .int .i8 base, .int .i64 disp, .int .i64 imm, .int .i8 cc, .int .u64 ld]
def fT (m : MachS) (p : Int) (tl : List D) : List D := .bool m.fk :: .bool m.fc :: .bool m.fz :: .bool m.fs :: .bool m.fo :: .int .u64 p :: tl
def zC : List D := [.int .u64 0, .int .u64 0, .int .u64 0, .int .u64 0, .int .u64 0, .int .u64 0, .int .u64 0, .int .u64 0, .int .u64 0, .int .u64 0, .int .u64 0, .int .u64 0, .int .u64 0, .int .u64 0, .int .u64 0, .int .u64 0, .bool false, .bool false, .bool false, .bool false, .bool false, .int .u64 0]
def MachS.cw (m : MachS) (p : Int) (tl : List D) : List D := .int .u64 m.q0 :: .int .u64 m.q1 :: .int .u64 m.q2 :: .int .u64 m.q3 :: .int .u64 m.q4 :: .int .u64 m.q5 :: .int .u64 m.q6 :: .int .u64 m.q7 :: .int .u64 m.q8 :: .int .u64 m.q9 :: .int .u64 m.q10 :: .int .u64 m.q11 :: .int .u64 m.q12 :: .int .u64 m.q13 :: .int .u64 m.q14 :: .int .u64 m.q15 :: .bool m.fk :: .bool m.fc :: .bool m.fz :: .bool m.fs :: .bool m.fo :: .int .u64 p :: tl
theorem get_regm (m : MachS) (i : Int) (tl : List D) (h0 : 0 ≤ i) (h1 : i ≤ 15) : (D.int .u64 m.q0 :: D.int .u64 m.q1 :: D.int .u64 m.q2 :: D.int .u64 m.q3 :: D.int .u64 m.q4 :: D.int .u64 m.q5 :: D.int .u64 m.q6 :: D.int .u64 m.q7 :: D.int .u64 m.q8 :: D.int .u64 m.q9 :: D.int .u64 m.q10 :: D.int .u64 m.q11 :: D.int .u64 m.q12 :: D.int .u64 m.q13 :: D.int .u64 m.q14 :: D.int .u64 m.q15 :: tl : List D)[0 + i.toNat * 1]? = some (.int .u64 (rg m.rl i)) := get_reg h0 h1
theorem put_regm (m : MachS) (i v : Int) (tl : List D) (h0 : 0 ≤ i) (h1 : i ≤ 15) : PutsA (D.int .u64 m.q0 :: D.int .u64 m.q1 :: D.int .u64 m.q2 :: D.int .u64 m.q3 :: D.int .u64 m.q4 :: D.int .u64 m.q5 :: D.int .u64 m.q6 :: D.int .u64 m.q7 :: D.int .u64 m.q8 :: D.int .u64 m.q9 :: D.int .u64 m.q10 :: D.int .u64 m.q11 :: D.int .u64 m.q12 :: D.int .u64 m.q13 :: D.int .u64 m.q14 :: D.int .u64 m.q15 :: tl : List D) (0 + i.toNat * 1) [D.int .u64 v] (D.int .u64 (m.put i v).q0 :: D.int .u64 (m.put i v).q1 :: D.int .u64 (m.put i v).q2 :: D.int .u64 (m.put i v).q3 :: D.int .u64 (m.put i v).q4 :: D.int .u64 (m.put i v).q5 :: D.int .u64 (m.put i v).q6 :: D.int .u64 (m.put i v).q7 :: D.int .u64 (m.put i v).q8 :: D.int .u64 (m.put i v).q9 :: D.int .u64 (m.put i v).q10 :: D.int .u64 (m.put i v).q11 :: D.int .u64 (m.put i v).q12 :: D.int .u64 (m.put i v).q13 :: D.int .u64 (m.put i v).q14 :: D.int .u64 (m.put i v).q15 :: tl) := put_reg h0 h1
def addrS (m : MachS) (x : XS) : Int × Int × Bool :=
  if x.may = true ∧ (x.op = 26 ∨ x.op = 27) then (u64 (rg m.rl x.base + u64 x.disp), x.w / 8, true)
  else if x.may = true ∧ x.op = 30 then (m.q4, 8, true)
  else (0, 0, false)
def storedS (m : MachS) (x : XS) : Int := if x.may = true ∧ x.op = 27 then cutM (rg m.rl x.src) x.w else 0
def numS (m : MachS) : Int × Bool := if 16 ≤ m.q0 then (0, false) else (IntKind.i64.wrap m.q0, true)
def numV (q : Int) : Int := if 16 ≤ q then 0 else IntKind.i64.wrap q
def numB (q : Int) : Bool := !decide (16 ≤ q)
def argsS (m : MachS) : List Int := if 16 ≤ m.q0 then [] else [m.q7, m.q6, m.q2, m.q10, m.q8].take (m.q0.toNat % 6)
def wD (l : List Int) : List D := l.map (fun x => .int .u64 x)
def toccM (cc : Int) : Int × Bool :=
  if cc = 0 then (4, true) else if cc = 1 then (5, true) else if cc = 2 then (7, true) else if cc = 3 then (3, true) else if cc = 4 then (2, true) else if cc = 5 then (6, true)
  else if cc = 6 then (15, true) else if cc = 7 then (13, true) else if cc = 8 then (12, true) else if cc = 9 then (14, true) else if cc = 10 then (5, true) else (0, false)
def ccM' (cc : Int) : Int × Bool :=
  if cc = 4 then (0, true) else if cc = 5 then (1, true) else if cc = 7 then (2, true) else if cc = 3 then (3, true) else if cc = 2 then (4, true) else if cc = 6 then (5, true)
  else if cc = 15 then (6, true) else if cc = 13 then (7, true) else if cc = 12 then (8, true) else if cc = 14 then (9, true) else (0, false)
end Go.Ev

namespace Go.Ev
open Go
structure RgS where
  (r0 r1 r2 r3 r4 r5 r6 r7 r8 r9 r10 : Int)
deriving DecidableEq
def RgS.c (r : RgS) : List D := [.int .u64 r.r0, .int .u64 r.r1, .int .u64 r.r2, .int .u64 r.r3, .int .u64 r.r4, .int .u64 r.r5, .int .u64 r.r6, .int .u64 r.r7, .int .u64 r.r8, .int .u64 r.r9, .int .u64 r.r10]
def RgS.d (r : RgS) : D := .agg r.c
def RgS.l (r : RgS) : List Int := [r.r0, r.r1, r.r2, r.r3, r.r4, r.r5, r.r6, r.r7, r.r8, r.r9, r.r10]
def RgS.get (r : RgS) (i : Int) : Int := rg r.l i
def RgS.put (r : RgS) (i v : Int) : RgS := ⟨st 0 i v r.r0, st 1 i v r.r1, st 2 i v r.r2, st 3 i v r.r3, st 4 i v r.r4, st 5 i v r.r5, st 6 i v r.r6, st 7 i v r.r7, st 8 i v r.r8, st 9 i v r.r9, st 10 i v r.r10⟩
def RgS.zero : RgS := ⟨0, 0, 0, 0, 0, 0, 0, 0, 0, 0, 0⟩
theorem fin11 {i : Int} (h0 : 0 ≤ i) (h1 : i ≤ 10) : i = 0 ∨ i = 1 ∨ i = 2 ∨ i = 3 ∨ i = 4 ∨ i = 5 ∨ i = 6 ∨ i = 7 ∨ i = 8 ∨ i = 9 ∨ i = 10 := by omega
section
variable {r0 r1 r2 r3 r4 r5 r6 r7 r8 r9 r10 i v : Int} {tl : List D}
end
def MachS.c (m : MachS) : List D := [.int .u64 m.q0, .int .u64 m.q1, .int .u64 m.q2, .int .u64 m.q3, .int .u64 m.q4, .int .u64 m.q5, .int .u64 m.q6, .int .u64 m.q7, .int .u64 m.q8, .int .u64 m.q9, .int .u64 m.q10, .int .u64 m.q11, .int .u64 m.q12, .int .u64 m.q13, .int .u64 m.q14, .int .u64 m.q15, .bool m.fk, .bool m.fc, .bool m.fz, .bool m.fs, .bool m.fo, .int .u64 m.pc]
def IrS.x (s : IrS) : XS := ⟨s.op, s.w, s.dst, s.src, s.base, s.disp, s.imm, s.cc⟩
def scrM (n : Int) : Bool := decide (n = 0 ∨ n = 1 ∨ n = 2 ∨ n = 11)
theorem wk_bool {a b : Bool} (h : a = b) : wk (.bool a) (.bool b) := by subst h; simp [wk]
def namesM (op w dst src base disp imm cc : Int) : Int := or64 (readsXX op w dst src base disp imm cc) (writesXX op w dst src base disp imm cc)
def ownM (op w dst src base disp imm cc : Int) : Bool := andNot64 (namesM op w dst src base disp imm cc) 2055 == 0
def zeroX (op w dst src base disp imm cc : Int) : Bool := decide (op = 0 ∧ w = 0 ∧ dst = 0 ∧ src = 0 ∧ base = 0 ∧ disp = 0 ∧ imm = 0 ∧ cc = 0)
def mayI (kind op w dst src base disp imm cc reg phys num to : Int) : Bool :=
  if kind = 0 then mayX op w dst src base disp imm cc && decide (op < 28) && ownM op w dst src base disp imm cc && decide (reg = 0 ∧ phys = 0 ∧ num = 0 ∧ to = 0)
  else if kind = 1 ∨ kind = 2 then decide (0 ≤ reg ∧ reg ≤ 10) && scrM phys && zeroX op w dst src base disp imm cc && decide (num = 0 ∧ to = 0)
  else if kind = 3 then decide (0 ≤ num ∧ num ≤ 15) && zeroX op w dst src base disp imm cc && decide (reg = 0 ∧ phys = 0 ∧ to = 0)
  else if kind = 4 then ccM cc && zeroX (op - 29) w dst src base disp imm 0 && decide (0 ≤ to ∧ to ≤ 64) && decide (reg = 0 ∧ phys = 0 ∧ num = 0)
  else if kind = 5 then decide (0 ≤ to ∧ to ≤ 64) && zeroX op w dst src base disp imm cc && decide (reg = 0 ∧ phys = 0 ∧ num = 0)
  else if kind = 6 then zeroX op w dst src base disp imm cc && decide (reg = 0 ∧ phys = 0 ∧ num = 0 ∧ to = 0)
  else false
def stopsI (kind op : Int) : Bool := decide ((3 ≤ kind ∧ kind ≤ 6) ∨ (kind = 0 ∧ (op = 26 ∨ op = 27)))
def IrS.ok (s : IrS) : Prop := -128 ≤ s.kind ∧ s.kind ≤ 127 ∧ s.op ≤ 127 ∧ s.cc ≤ 127 ∧ s.phys ≤ 127 ∧ -128 ≤ s.reg ∧ s.reg ≤ 127
def AllOk (l : List IrS) : Prop := ∀ s ∈ l, s.ok
def IrS.may (s : IrS) : Bool := mayI s.kind s.op s.w s.dst s.src s.base s.disp s.imm s.cc s.reg s.phys s.num s.to
def IrS.stops (s : IrS) : Bool := stopsI s.kind s.op
def badI (l : List IrS) : Option Nat := l.findIdx? (fun s => !s.may)
def chkI (l : List IrS) : Int × Int := match badI l with
  | some k => ((k : Int), 2)
  | none => (0, 0)
def runI : List IrS → RgS → MachS → RgS × MachS × Nat × Int
  | [], r, m => (r, m, 0, 0)
  | s :: t, r, m => match s.stops with
    | true => (r, m, t.length + 1, 0)
    | false => if s.kind = 1 then runI t r (m.put s.phys (r.get s.reg))
      else if s.kind = 2 then runI t (r.put s.reg (rg m.rl s.phys)) m
      else if (execS m s.x 0).2 = 0 then runI t r ((execS m s.x 0).1.at 0)
      else (.zero, .zero, t.length + 1, (execS m s.x 0).2)
def restI (l : List IrS) (r : RgS) (m : MachS) : List IrS := l.drop (l.length - (runI l r m).2.2.1)
def doI (l : List IrS) (r : RgS) : RgS × MachS × Int × Int :=
  if (chkI l).2 = 0 then
    let q := runI l r .zero
    if q.2.2.2 = 0 then (q.1, q.2.1, ((l.length - q.2.2.1 : Nat) : Int), 0) else (.zero, .zero, 0, q.2.2.2)
  else (.zero, .zero, 0, 2)
def namedI (k : Int) (n : Int) : List IrS → Int
  | [] => n
  | s :: t => namedI k (if s.kind = k ∧ 0 ≤ s.reg ∧ s.reg ≤ 10 then or64 n (sh8 s.reg) else n) t
end Go.Ev

namespace Go.Ev
open Go
def homeP (k n : Int) : Bool := decide (k = 1 ∧ (n = 3 ∨ n = 9 ∨ n = 6 ∨ n = 7 ∨ n = 8 ∨ n = 10))
def plOK (k n : Int) : Bool := decide (k = 0 ∧ n = 0) || homeP k n || decide (k = 2 ∧ 0 ≤ n ∧ n < 11)
def mayPl (kl nl : List Int) : Bool := (List.range 11).all fun i => plOK (rg kl (i : Int)) (rg nl (i : Int))
section
variable {k0 n0 k1 n1 k2 n2 k3 n3 k4 n4 k5 n5 k6 n6 k7 n7 k8 n8 k9 n9 k10 n10 i : Int} {tl : List D}
end
end Go.Ev

namespace Go.Ev
open Go
structure PlS where
  k : Int → Int
  n : Int → Int
def PlS.d (p : PlS) : D := .agg [.int .i8 (p.k 0), .int .i8 (p.n 0), .int .i8 (p.k 1), .int .i8 (p.n 1), .int .i8 (p.k 2), .int .i8 (p.n 2), .int .i8 (p.k 3), .int .i8 (p.n 3), .int .i8 (p.k 4), .int .i8 (p.n 4), .int .i8 (p.k 5), .int .i8 (p.n 5), .int .i8 (p.k 6), .int .i8 (p.n 6), .int .i8 (p.k 7), .int .i8 (p.n 7), .int .i8 (p.k 8), .int .i8 (p.n 8), .int .i8 (p.k 9), .int .i8 (p.n 9), .int .i8 (p.k 10), .int .i8 (p.n 10)]
section
variable {p : PlS} {i : Int} {tl : List D}
theorem getp (h0 : 0 ≤ i) (h1 : i ≤ 10) : GetsA (.int .i8 (p.k 0) :: .int .i8 (p.n 0) :: .int .i8 (p.k 1) :: .int .i8 (p.n 1) :: .int .i8 (p.k 2) :: .int .i8 (p.n 2) :: .int .i8 (p.k 3) :: .int .i8 (p.n 3) :: .int .i8 (p.k 4) :: .int .i8 (p.n 4) :: .int .i8 (p.k 5) :: .int .i8 (p.n 5) :: .int .i8 (p.k 6) :: .int .i8 (p.n 6) :: .int .i8 (p.k 7) :: .int .i8 (p.n 7) :: .int .i8 (p.k 8) :: .int .i8 (p.n 8) :: .int .i8 (p.k 9) :: .int .i8 (p.n 9) :: .int .i8 (p.k 10) :: .int .i8 (p.n 10) :: tl : List D) (0 + i.toNat * 2) 2 [.int .i8 (p.k i), .int .i8 (p.n i)] := by
 rcases fin11 h0 h1 with rfl | rfl | rfl | rfl | rfl | rfl | rfl | rfl | rfl | rfl | rfl <;> exact ⟨rfl, by simp⟩
theorem getp' (h0 : 0 ≤ i) (h1 : i ≤ 10) : GetsA (.int .i8 (p.k 0) :: .int .i8 (p.n 0) :: .int .i8 (p.k 1) :: .int .i8 (p.n 1) :: .int .i8 (p.k 2) :: .int .i8 (p.n 2) :: .int .i8 (p.k 3) :: .int .i8 (p.n 3) :: .int .i8 (p.k 4) :: .int .i8 (p.n 4) :: .int .i8 (p.k 5) :: .int .i8 (p.n 5) :: .int .i8 (p.k 6) :: .int .i8 (p.n 6) :: .int .i8 (p.k 7) :: .int .i8 (p.n 7) :: .int .i8 (p.k 8) :: .int .i8 (p.n 8) :: .int .i8 (p.k 9) :: .int .i8 (p.n 9) :: .int .i8 (p.k 10) :: .int .i8 (p.n 10) :: tl : List D) (i.toNat * 2) 2 [.int .i8 (p.k i), .int .i8 (p.n i)] := by
 rcases fin11 h0 h1 with rfl | rfl | rfl | rfl | rfl | rfl | rfl | rfl | rfl | rfl | rfl <;> exact ⟨rfl, by simp⟩
theorem getpk (h0 : 0 ≤ i) (h1 : i ≤ 10) : (.int .i8 (p.k 0) :: .int .i8 (p.n 0) :: .int .i8 (p.k 1) :: .int .i8 (p.n 1) :: .int .i8 (p.k 2) :: .int .i8 (p.n 2) :: .int .i8 (p.k 3) :: .int .i8 (p.n 3) :: .int .i8 (p.k 4) :: .int .i8 (p.n 4) :: .int .i8 (p.k 5) :: .int .i8 (p.n 5) :: .int .i8 (p.k 6) :: .int .i8 (p.n 6) :: .int .i8 (p.k 7) :: .int .i8 (p.n 7) :: .int .i8 (p.k 8) :: .int .i8 (p.n 8) :: .int .i8 (p.k 9) :: .int .i8 (p.n 9) :: .int .i8 (p.k 10) :: .int .i8 (p.n 10) :: tl : List D)[0 + i.toNat * 2 + 0]? = some (.int .i8 (p.k i)) := by
 rcases fin11 h0 h1 with rfl | rfl | rfl | rfl | rfl | rfl | rfl | rfl | rfl | rfl | rfl <;> rfl
end
def PlS.okAt (p : PlS) (i : Int) : Bool := plOK (p.k i) (p.n i)
def PlS.mayU (p : PlS) : Nat → Nat → Bool
  | 0, _ => true
  | m + 1, i => p.okAt i && p.mayU m (i + 1)
def PlS.may (p : PlS) : Bool := p.mayU 11 0
theorem PlS.mayU_iff (p : PlS) : ∀ m i, p.mayU m i = true ↔ ∀ j : Nat, i ≤ j → j < i + m → p.okAt j = true
 | 0, i => by simp [PlS.mayU]; omega
 | m + 1, i => by
  rw [PlS.mayU, Bool.and_eq_true, PlS.mayU_iff p m (i + 1)]
  constructor
  ·rintro ⟨h1, h2⟩ j h3 h4
   rcases Nat.eq_or_lt_of_le h3 with e | e
   ·subst e; exact h1
   ·exact h2 j e (by omega)
  ·intro h
   exact ⟨h i (Nat.le_refl _) (by omega), fun j h1 h2 => h j (by omega) (by omega)⟩
theorem PlS.may_at {p : PlS} (h : p.may = true) {i : Int} (h0 : 0 ≤ i) (h1 : i ≤ 10) : p.okAt i = true := by
 have := (p.mayU_iff 11 0).1 h i.toNat (by omega) (by omega)
 rwa [Int.toNat_of_nonneg h0] at this
theorem plOK_form {k n : Int} (h : plOK k n = true) : (k = 0 ∧ n = 0) ∨ (k = 1 ∧ (n = 3 ∨ n = 9 ∨ n = 6 ∨ n = 7 ∨ n = 8 ∨ n = 10)) ∨ (k = 2 ∧ 0 ≤ n ∧ n < 11) := by
 unfold plOK homeP at h
 simp only [Bool.or_eq_true, decide_eq_true_eq] at h
 omega
def PlS.spU (p : PlS) : Nat → Int
  | 0 => 0
  | i + 1 => if p.k i = 2 then (if p.n i + 1 > p.spU i then p.n i + 1 else p.spU i) else p.spU i
def PlS.sp (p : PlS) : Int := p.spU 11
def PlS.hit (p : PlS) (i k : Int) : Bool := decide (p.k i ≠ 0 ∧ p.k i = p.k k ∧ p.n i = p.n k)
def PlS.hitU (p : PlS) (i : Int) : Nat → Nat → Bool
  | 0, _ => false
  | m + 1, k => p.hit i k || p.hitU i m (k + 1)
def PlS.sameU (p : PlS) : Nat → Nat → Bool
  | 0, _ => false
  | m + 1, i => p.hitU i i 0 || p.sameU m (i + 1)
def PlS.apart (p : PlS) : Bool := !p.sameU 11 0
theorem PlS.hitU_iff (p : PlS) (i : Int) : ∀ m k, p.hitU i m k = true ↔ ∃ j : Nat, k ≤ j ∧ j < k + m ∧ p.hit i j = true
 | 0, k => by simp [PlS.hitU]; omega
 | m + 1, k => by
  rw [PlS.hitU, Bool.or_eq_true, PlS.hitU_iff p i m (k + 1)]
  constructor
  ·rintro (h | ⟨j, h1, h2, h3⟩)
   ·exact ⟨k, by omega, by omega, h⟩
   ·exact ⟨j, by omega, by omega, h3⟩
  ·rintro ⟨j, h1, h2, h3⟩
   rcases Nat.eq_or_lt_of_le h1 with e | e
   ·subst e; exact .inl h3
   ·exact .inr ⟨j, by omega, by omega, h3⟩
theorem PlS.sameU_iff (p : PlS) : ∀ m i, p.sameU m i = true ↔ ∃ j : Nat, i ≤ j ∧ j < i + m ∧ p.hitU j j 0 = true
 | 0, i => by simp [PlS.sameU]; omega
 | m + 1, i => by
  rw [PlS.sameU, Bool.or_eq_true, PlS.sameU_iff p m (i + 1)]
  constructor
  ·rintro (h | ⟨j, h1, h2, h3⟩)
   ·exact ⟨i, by omega, by omega, h⟩
   ·exact ⟨j, by omega, by omega, h3⟩
  ·rintro ⟨j, h1, h2, h3⟩
   rcases Nat.eq_or_lt_of_le h1 with e | e
   ·subst e; exact .inl h3
   ·exact .inr ⟨j, by omega, by omega, h3⟩
theorem PlS.apart_ne {p : PlS} (h : p.apart = true) {i k : Int} (i0 : 0 ≤ i) (i1 : i ≤ 10) (k0 : 0 ≤ k) (k1 : k ≤ 10) (hne : i ≠ k) (hk : p.k i ≠ 0) : ¬ (p.k i = p.k k ∧ p.n i = p.n k) := by
 have key : ∀ a b : Nat, b < a → a < 11 → p.k a ≠ 0 → ¬ (p.k a = p.k b ∧ p.n a = p.n b) := by
  intro a b hab ha hka hh
  have : p.sameU 11 0 = true := (p.sameU_iff 11 0).2 ⟨a, by omega, by omega, (p.hitU_iff a a 0).2 ⟨b, by omega, by omega, by unfold PlS.hit; simp [hka, hh.1, hh.2]; rw [← hh.1]; exact hka⟩⟩
  unfold PlS.apart at h
  rw [this] at h
  cases h
 intro hh
 have e1 : ((i.toNat : Nat) : Int) = i := Int.toNat_of_nonneg i0
 have e2 : ((k.toNat : Nat) : Int) = k := Int.toNat_of_nonneg k0
 rcases Int.lt_or_gt_of_ne hne with q | q
 ·have := key k.toNat i.toNat (by omega) (by omega) (by rw [e2, ← hh.1]; exact hk)
  rw [e1, e2] at this
  exact this ⟨hh.1.symm, hh.2.symm⟩
 ·have := key i.toNat k.toNat (by omega) (by omega) (by rw [e1]; exact hk)
  rw [e1, e2] at this
  exact this hh
abbrev putX (dst n : Int) : XS := ⟨1, 32, dst, 0, 0, 0, n, 0⟩
abbrev storeX (src slot : Int) : XS := ⟨27, 64, 0, src, 4, 8 * slot, 0, 0⟩
def intoX (to k n : Int) : XS := if k = 1 then ⟨0, 64, to, n, 0, 0, 0, 0⟩ else if k = 2 then ⟨26, 64, to, 0, 4, 8 * n, 0, 0⟩ else putX to 0
def giveX (phys k n : Int) : List XS := if k = 1 then [⟨0, 64, n, phys, 0, 0, 0, 0⟩] else if k = 2 then [storeX phys n] else []
def setX (v k n : Int) : List XS := if k = 2 then [putX 0 v, storeX 0 n] else if k = 1 then [putX n v] else []
def proX (p : PlS) : List XS := (if p.sp > 0 then [⟨12, 64, 4, 0, 0, 0, 8 * p.sp, 0⟩] else []) ++ (setX 2097152 (p.k 1) (p.n 1) ++ setX 3145792 (p.k 10) (p.n 10))
def exitX (p : PlS) : List XS := intoX 0 (p.k 0) (p.n 0) :: ((if p.sp > 0 then [⟨9, 64, 4, 0, 0, 0, 8 * p.sp, 0⟩] else []) ++ [⟨30, 0, 0, 0, 0, 0, 0, 0⟩])
def slotOk (x : XS) (n : Nat) : Bool := decide (x.base = 4 ∧ x.w = 64 ∧ x.disp % 8 = 0 ∧ 0 ≤ x.disp ∧ x.disp / 8 < (n : Int))
def slotPut (x : XS) (m : MachS) (s : List Int) : List Int := if x.op = 27 then s.set (x.disp / 8).toNat (rg m.rl x.src) else s
def doneM : List XS → MachS → List Int → MachS × List Int × Bool
  | [], m, s => (m, s, true)
  | x :: t, m, s => if x.op = 31 ∨ x.op = 30 then (m, s, true)
    else if x.op = 26 ∨ x.op = 27 then
      (if slotOk x s.length = true then
        (if execE m x (s.getD (x.disp / 8).toNat 0) = 0 then doneM t (execM m x (s.getD (x.disp / 8).toNat 0)) (slotPut x m s) else (m, slotPut x m s, false))
       else (m, s, false))
    else if execE m x 0 = 0 then doneM t (execM m x 0) s else (m, s, false)
end Go.Ev

namespace Go.Proofs.YtkpneibifdoecaaGreat
open Go Go.Ev
abbrev un (n : Nat) : List D := List.replicate n .undef
abbrev plC (p : PlS) : List D := [.int .i8 (p.k 0), .int .i8 (p.n 0), .int .i8 (p.k 1), .int .i8 (p.n 1), .int .i8 (p.k 2), .int .i8 (p.n 2), .int .i8 (p.k 3), .int .i8 (p.n 3), .int .i8 (p.k 4), .int .i8 (p.n 4), .int .i8 (p.k 5), .int .i8 (p.n 5), .int .i8 (p.k 6), .int .i8 (p.n 6), .int .i8 (p.k 7), .int .i8 (p.n 7), .int .i8 (p.k 8), .int .i8 (p.n 8), .int .i8 (p.k 9), .int .i8 (p.n 9), .int .i8 (p.k 10), .int .i8 (p.n 10)]
abbrev maC (m : MachS) : List D := [.int .u64 m.q0, .int .u64 m.q1, .int .u64 m.q2, .int .u64 m.q3, .int .u64 m.q4, .int .u64 m.q5, .int .u64 m.q6, .int .u64 m.q7, .int .u64 m.q8, .int .u64 m.q9, .int .u64 m.q10, .int .u64 m.q11, .int .u64 m.q12, .int .u64 m.q13, .int .u64 m.q14, .int .u64 m.q15, .bool m.fk, .bool m.fc, .bool m.fz, .bool m.fs, .bool m.fo, .int .u64 m.pc]
abbrev reC (r : MachS) : List D := [.int .u64 r.q0, .int .u64 r.q1, .int .u64 r.q2, .int .u64 r.q3, .int .u64 r.q4, .int .u64 r.q5, .int .u64 r.q6, .int .u64 r.q7, .int .u64 r.q8, .int .u64 r.q9, .int .u64 r.q10, .int .u64 r.q11, .int .u64 r.q12, .int .u64 r.q13, .int .u64 r.q14, .int .u64 r.q15]
abbrev m0C (r : MachS) : List D := [.int .u64 r.q0, .int .u64 r.q1, .int .u64 r.q2, .int .u64 r.q3, .int .u64 r.q4, .int .u64 r.q5, .int .u64 r.q6, .int .u64 r.q7, .int .u64 r.q8, .int .u64 r.q9, .int .u64 r.q10, .int .u64 r.q11, .int .u64 r.q12, .int .u64 r.q13, .int .u64 r.q14, .int .u64 r.q15, .bool false, .bool false, .bool false, .bool false, .bool false, .int .u64 0]
abbrev zeC : List D := [.int .u64 0, .int .u64 0, .int .u64 0, .int .u64 0, .int .u64 0, .int .u64 0, .int .u64 0, .int .u64 0, .int .u64 0, .int .u64 0, .int .u64 0, .int .u64 0, .int .u64 0, .int .u64 0, .int .u64 0, .int .u64 0, .bool false, .bool false, .bool false, .bool false, .bool false, .int .u64 0]
abbrev sl0C : List D := List.map D.demote (repD 11 [D.int .u64 0])
end Go.Proofs.YtkpneibifdoecaaGreat

namespace Go.Proofs.YtkpneibifdoecaaGreat
open Go Go.Ev
set_option maxRecDepth 100000
set_option maxHeartbeats 8000000
theorem amay_ok (k n : Int) : Ret Tryz.prog 56 ([.agg [.int .i8 k, .int .i8 n], .bool false]) (.bool (homeP k n)) := by
 by_cases h0 : k = 1
 ·subst h0
  let E1 : EL := [tT, tT, .inl, tF]
  by_cases h1 : n = 3
  ·subst h1
   exact (o56 (d := .bool true) (E1 ++ [.keep [(0, Ob.box [.int .i8 1, .int .i8 3])], tT, tT, tT, .inl, .inl, .go 64, tT, tT, .get ([.int .i8 3, .int .i8 9, .int .i8 6, .int .i8 7, .int .i8 8, .int .i8 10]) 0 (.int .i8 3) rfl, tT, tT]) (by kernel_rfl)).to (by clear E1; first | (simp [wk, homeP, ]; done) | (apply wk_bool; unfold homeP; symm; first | (rw [decide_eq_true_eq]; simp only [beq_iff_eq, beq_eq_false_iff_ne, ne_eq] at *; omega) | (rw [decide_eq_false_iff_not]; simp only [beq_iff_eq, beq_eq_false_iff_ne, ne_eq] at *; omega)))
  by_cases h2 : n = 9
  ·subst h2
   exact (o56 (d := .bool true) (E1 ++ [.keep [(0, Ob.box [.int .i8 1, .int .i8 9])], tT, tT, tT, .inl, .inl, .go 64, tT, tT, .get ([.int .i8 3, .int .i8 9, .int .i8 6, .int .i8 7, .int .i8 8, .int .i8 10]) 0 (.int .i8 3) rfl, tC (neOf h1), tT, tT, .get ([.int .i8 3, .int .i8 9, .int .i8 6, .int .i8 7, .int .i8 8, .int .i8 10]) 1 (.int .i8 9) rfl, tT, tT]) (by kernel_rfl)).to (by clear E1; first | (simp [wk, homeP, h1]; done) | (apply wk_bool; unfold homeP; symm; first | (rw [decide_eq_true_eq]; simp only [beq_iff_eq, beq_eq_false_iff_ne, ne_eq] at *; omega) | (rw [decide_eq_false_iff_not]; simp only [beq_iff_eq, beq_eq_false_iff_ne, ne_eq] at *; omega)))
  by_cases h3 : n = 6
  ·subst h3
   exact (o56 (d := .bool true) (E1 ++ [.keep [(0, Ob.box [.int .i8 1, .int .i8 6])], tT, tT, tT, .inl, .inl, .go 64, tT, tT, .get ([.int .i8 3, .int .i8 9, .int .i8 6, .int .i8 7, .int .i8 8, .int .i8 10]) 0 (.int .i8 3) rfl, tC (neOf h1), tT, tT, .get ([.int .i8 3, .int .i8 9, .int .i8 6, .int .i8 7, .int .i8 8, .int .i8 10]) 1 (.int .i8 9) rfl, tC (neOf h2), tT, tT, .get ([.int .i8 3, .int .i8 9, .int .i8 6, .int .i8 7, .int .i8 8, .int .i8 10]) 2 (.int .i8 6) rfl, tT, tT]) (by kernel_rfl)).to (by clear E1; first | (simp [wk, homeP, h1, h2]; done) | (apply wk_bool; unfold homeP; symm; first | (rw [decide_eq_true_eq]; simp only [beq_iff_eq, beq_eq_false_iff_ne, ne_eq] at *; omega) | (rw [decide_eq_false_iff_not]; simp only [beq_iff_eq, beq_eq_false_iff_ne, ne_eq] at *; omega)))
  by_cases h4 : n = 7
  ·subst h4
   exact (o56 (d := .bool true) (E1 ++ [.keep [(0, Ob.box [.int .i8 1, .int .i8 7])], tT, tT, tT, .inl, .inl, .go 64, tT, tT, .get ([.int .i8 3, .int .i8 9, .int .i8 6, .int .i8 7, .int .i8 8, .int .i8 10]) 0 (.int .i8 3) rfl, tC (neOf h1), tT, tT, .get ([.int .i8 3, .int .i8 9, .int .i8 6, .int .i8 7, .int .i8 8, .int .i8 10]) 1 (.int .i8 9) rfl, tC (neOf h2), tT, tT, .get ([.int .i8 3, .int .i8 9, .int .i8 6, .int .i8 7, .int .i8 8, .int .i8 10]) 2 (.int .i8 6) rfl, tC (neOf h3), tT, tT, .get ([.int .i8 3, .int .i8 9, .int .i8 6, .int .i8 7, .int .i8 8, .int .i8 10]) 3 (.int .i8 7) rfl, tT, tT]) (by kernel_rfl)).to (by clear E1; first | (simp [wk, homeP, h1, h2, h3]; done) | (apply wk_bool; unfold homeP; symm; first | (rw [decide_eq_true_eq]; simp only [beq_iff_eq, beq_eq_false_iff_ne, ne_eq] at *; omega) | (rw [decide_eq_false_iff_not]; simp only [beq_iff_eq, beq_eq_false_iff_ne, ne_eq] at *; omega)))
  by_cases h5 : n = 8
  ·subst h5
   exact (o56 (d := .bool true) (E1 ++ [.keep [(0, Ob.box [.int .i8 1, .int .i8 8])], tT, tT, tT, .inl, .inl, .go 64, tT, tT, .get ([.int .i8 3, .int .i8 9, .int .i8 6, .int .i8 7, .int .i8 8, .int .i8 10]) 0 (.int .i8 3) rfl, tC (neOf h1), tT, tT, .get ([.int .i8 3, .int .i8 9, .int .i8 6, .int .i8 7, .int .i8 8, .int .i8 10]) 1 (.int .i8 9) rfl, tC (neOf h2), tT, tT, .get ([.int .i8 3, .int .i8 9, .int .i8 6, .int .i8 7, .int .i8 8, .int .i8 10]) 2 (.int .i8 6) rfl, tC (neOf h3), tT, tT, .get ([.int .i8 3, .int .i8 9, .int .i8 6, .int .i8 7, .int .i8 8, .int .i8 10]) 3 (.int .i8 7) rfl, tC (neOf h4), tT, tT, .get ([.int .i8 3, .int .i8 9, .int .i8 6, .int .i8 7, .int .i8 8, .int .i8 10]) 4 (.int .i8 8) rfl, tT, tT]) (by kernel_rfl)).to (by clear E1; first | (simp [wk, homeP, h1, h2, h3, h4]; done) | (apply wk_bool; unfold homeP; symm; first | (rw [decide_eq_true_eq]; simp only [beq_iff_eq, beq_eq_false_iff_ne, ne_eq] at *; omega) | (rw [decide_eq_false_iff_not]; simp only [beq_iff_eq, beq_eq_false_iff_ne, ne_eq] at *; omega)))
  by_cases h6 : n = 10
  ·subst h6
   exact (o56 (d := .bool true) (E1 ++ [.keep [(0, Ob.box [.int .i8 1, .int .i8 10])], tT, tT, tT, .inl, .inl, .go 64, tT, tT, .get ([.int .i8 3, .int .i8 9, .int .i8 6, .int .i8 7, .int .i8 8, .int .i8 10]) 0 (.int .i8 3) rfl, tC (neOf h1), tT, tT, .get ([.int .i8 3, .int .i8 9, .int .i8 6, .int .i8 7, .int .i8 8, .int .i8 10]) 1 (.int .i8 9) rfl, tC (neOf h2), tT, tT, .get ([.int .i8 3, .int .i8 9, .int .i8 6, .int .i8 7, .int .i8 8, .int .i8 10]) 2 (.int .i8 6) rfl, tC (neOf h3), tT, tT, .get ([.int .i8 3, .int .i8 9, .int .i8 6, .int .i8 7, .int .i8 8, .int .i8 10]) 3 (.int .i8 7) rfl, tC (neOf h4), tT, tT, .get ([.int .i8 3, .int .i8 9, .int .i8 6, .int .i8 7, .int .i8 8, .int .i8 10]) 4 (.int .i8 8) rfl, tC (neOf h5), tT, tT, .get ([.int .i8 3, .int .i8 9, .int .i8 6, .int .i8 7, .int .i8 8, .int .i8 10]) 5 (.int .i8 10) rfl, tT, tT]) (by kernel_rfl)).to (by clear E1; first | (simp [wk, homeP, h1, h2, h3, h4, h5]; done) | (apply wk_bool; unfold homeP; symm; first | (rw [decide_eq_true_eq]; simp only [beq_iff_eq, beq_eq_false_iff_ne, ne_eq] at *; omega) | (rw [decide_eq_false_iff_not]; simp only [beq_iff_eq, beq_eq_false_iff_ne, ne_eq] at *; omega)))
  exact (o56 (d := .bool false) (E1 ++ [.keep [(0, Ob.box [.int .i8 1, .int .i8 n])], tT, tT, tT, .inl, .inl, .go 64, tT, tT, .get ([.int .i8 3, .int .i8 9, .int .i8 6, .int .i8 7, .int .i8 8, .int .i8 10]) 0 (.int .i8 3) rfl, tC (neOf h1), tT, tT, .get ([.int .i8 3, .int .i8 9, .int .i8 6, .int .i8 7, .int .i8 8, .int .i8 10]) 1 (.int .i8 9) rfl, tC (neOf h2), tT, tT, .get ([.int .i8 3, .int .i8 9, .int .i8 6, .int .i8 7, .int .i8 8, .int .i8 10]) 2 (.int .i8 6) rfl, tC (neOf h3), tT, tT, .get ([.int .i8 3, .int .i8 9, .int .i8 6, .int .i8 7, .int .i8 8, .int .i8 10]) 3 (.int .i8 7) rfl, tC (neOf h4), tT, tT, .get ([.int .i8 3, .int .i8 9, .int .i8 6, .int .i8 7, .int .i8 8, .int .i8 10]) 4 (.int .i8 8) rfl, tC (neOf h5), tT, tT, .get ([.int .i8 3, .int .i8 9, .int .i8 6, .int .i8 7, .int .i8 8, .int .i8 10]) 5 (.int .i8 10) rfl, tC (neOf h6), tF, tT]) (by kernel_rfl)).to (by clear E1; first | (simp [wk, homeP, h1, h2, h3, h4, h5, h6]; done) | (apply wk_bool; unfold homeP; symm; first | (rw [decide_eq_true_eq]; simp only [beq_iff_eq, beq_eq_false_iff_ne, ne_eq] at *; omega) | (rw [decide_eq_false_iff_not]; simp only [beq_iff_eq, beq_eq_false_iff_ne, ne_eq] at *; omega)))
 exact (o56 (d := .bool false) (List.replicate 5 (tC (eT (neOf h0))) ++ [tC (neOf h0)]) (by kernel_rfl)).to (by first | (simp [wk, homeP, h0]; done) | (apply wk_bool; unfold homeP; symm; first | (rw [decide_eq_true_eq]; simp only [beq_iff_eq, beq_eq_false_iff_ne, ne_eq] at *; omega) | (rw [decide_eq_false_iff_not]; simp only [beq_iff_eq, beq_eq_false_iff_ne, ne_eq] at *; omega)))
theorem rhome_ok (n : Int) : Ret Tryz.prog 53 ([.bool false, .int .i8 n]) (.bool (homeP 1 n)) := by
 let E1 : EL := [.inl, tF, .go 64, tT, tT, .get ([.int .i8 3, .int .i8 9, .int .i8 6, .int .i8 7, .int .i8 8, .int .i8 10]) 0 (.int .i8 3) rfl]
 rcases bft (3 == n) with h0 | h0
 ·exact (o53 (d := .bool true) (E1 ++ [tC h0]) (by kernel_rfl)).to (by clear E1; apply wk_bool; unfold homeP; (try simp only [beq_iff_eq, beq_eq_false_iff_ne, ne_eq] at *); symm; first | exact decide_eq_true ⟨trivial, by omega⟩ | exact decide_eq_false (fun q => by have := q.2; omega))
 let E2 : EL := E1 ++ [tC h0, tT, tT, .get ([.int .i8 3, .int .i8 9, .int .i8 6, .int .i8 7, .int .i8 8, .int .i8 10]) 1 (.int .i8 9) rfl]
 rcases bft (9 == n) with h1 | h1
 ·exact (o53 (d := .bool true) (E2 ++ [tC h1]) (by kernel_rfl)).to (by clear E1 E2; apply wk_bool; unfold homeP; (try simp only [beq_iff_eq, beq_eq_false_iff_ne, ne_eq] at *); symm; first | exact decide_eq_true ⟨trivial, by omega⟩ | exact decide_eq_false (fun q => by have := q.2; omega))
 let E3 : EL := E2 ++ [tC h1, tT, tT, .get ([.int .i8 3, .int .i8 9, .int .i8 6, .int .i8 7, .int .i8 8, .int .i8 10]) 2 (.int .i8 6) rfl]
 rcases bft (6 == n) with h2 | h2
 ·exact (o53 (d := .bool true) (E3 ++ [tC h2]) (by kernel_rfl)).to (by clear E1 E2 E3; apply wk_bool; unfold homeP; (try simp only [beq_iff_eq, beq_eq_false_iff_ne, ne_eq] at *); symm; first | exact decide_eq_true ⟨trivial, by omega⟩ | exact decide_eq_false (fun q => by have := q.2; omega))
 let E4 : EL := E3 ++ [tC h2, tT, tT, .get ([.int .i8 3, .int .i8 9, .int .i8 6, .int .i8 7, .int .i8 8, .int .i8 10]) 3 (.int .i8 7) rfl]
 rcases bft (7 == n) with h3 | h3
 ·exact (o53 (d := .bool true) (E4 ++ [tC h3]) (by kernel_rfl)).to (by clear E1 E2 E3 E4; apply wk_bool; unfold homeP; (try simp only [beq_iff_eq, beq_eq_false_iff_ne, ne_eq] at *); symm; first | exact decide_eq_true ⟨trivial, by omega⟩ | exact decide_eq_false (fun q => by have := q.2; omega))
 let E5 : EL := E4 ++ [tC h3, tT, tT, .get ([.int .i8 3, .int .i8 9, .int .i8 6, .int .i8 7, .int .i8 8, .int .i8 10]) 4 (.int .i8 8) rfl]
 rcases bft (8 == n) with h4 | h4
 ·exact (o53 (d := .bool true) (E5 ++ [tC h4]) (by kernel_rfl)).to (by clear E1 E2 E3 E4 E5; apply wk_bool; unfold homeP; (try simp only [beq_iff_eq, beq_eq_false_iff_ne, ne_eq] at *); symm; first | exact decide_eq_true ⟨trivial, by omega⟩ | exact decide_eq_false (fun q => by have := q.2; omega))
 let E6 : EL := E5 ++ [tC h4, tT, tT, .get ([.int .i8 3, .int .i8 9, .int .i8 6, .int .i8 7, .int .i8 8, .int .i8 10]) 5 (.int .i8 10) rfl]
 rcases bft (10 == n) with h5 | h5
 ·exact (o53 (d := .bool true) (E6 ++ [tC h5]) (by kernel_rfl)).to (by clear E1 E2 E3 E4 E5 E6; apply wk_bool; unfold homeP; (try simp only [beq_iff_eq, beq_eq_false_iff_ne, ne_eq] at *); symm; first | exact decide_eq_true ⟨trivial, by omega⟩ | exact decide_eq_false (fun q => by have := q.2; omega))
 exact (o53 (d := .bool false) (E6 ++ [tC h5, tF]) (by kernel_rfl)).to (by clear E1 E2 E3 E4 E5 E6; apply wk_bool; unfold homeP; (try simp only [beq_iff_eq, beq_eq_false_iff_ne, ne_eq] at *); symm; first | exact decide_eq_true ⟨trivial, by omega⟩ | exact decide_eq_false (fun q => by have := q.2; omega))
theorem pm_done (p : PlS)  : RoundRun Tryz.prog (loopB Tryz.f28 0) ⟨[2], [], []⟩ 1 (uu :: uu :: uu :: uu :: uu :: .agg (plC p) :: .int .i64 11 :: un 27) [Ob.dead] (Ex.exit (0 : Nat)) (un 34) ([Ob.dead]) := by
 exact (RoundRun.of_eval (sp := ⟨[2], [], []⟩) (n0 := 1) (ex := Ex.exit (0 : Nat)) (t' := (un 34)) (s' := [Ob.dead]) mixed [tF] (by kernel_rfl)).cast (by rfl) (by rfl)
theorem pm_zero (p : PlS) (i : Nat) (i1 : (i : Int) ≤ 10) (ha : (p.k (i : Int) == 0) = true) (hb : (p.n (i : Int) == 0) = true)  : RoundRun Tryz.prog (loopB Tryz.f28 0) ⟨[5, 6], [], []⟩ 1 (uu :: uu :: uu :: uu :: uu :: .agg (plC p) :: .int .i64 (↑i : Int) :: un 27) [Ob.dead] (Ex.norm) (uu :: uu :: uu :: uu :: uu :: .agg (plC p) :: .int .i64 (IntKind.wrap IntKind.i64 ((↑i : Int) + 1)) :: un 27) ([Ob.dead]) := by
 exact (RoundRun.of_eval (sp := ⟨[5, 6], [], []⟩) (n0 := 1) (ex := Ex.norm) (t' := (uu :: uu :: uu :: uu :: uu :: .agg (plC p) :: .int .i64 (IntKind.wrap IntKind.i64 ((↑i : Int) + 1)) :: un 27)) (s' := [Ob.dead]) mixed ([tC (decide_eq_true (Int.lt_add_one_of_le i1)), .tst (decide (0 ≤ (↑i : Int) ∧ (↑i : Int) < (↑(11 : Nat) : Int))) true (by ((try simp only [sl2] at *); (try unfold big at *); omega)), .getA _ _ _ _ (@getp' p ((↑i : Int)) ([]) (by ((try simp only [sl2] at *); (try unfold big at *); omega)) i1), .flat _ _ flat_Place] ++ List.replicate 3 (tC (eT (nt (andT (eqI 0 true (eq_of_beq ha)) (andT (eqI 0 true (eq_of_beq hb)) (rfl : true = true)))))) ++ [tC (nt (andT (eqI 0 true (eq_of_beq ha)) (andT (eqI 0 true (eq_of_beq hb)) (rfl : true = true))))] ++ List.replicate 10 tF) (by kernel_rfl)).cast (by rfl) (by rfl)
theorem pm_home (p : PlS) (i : Nat) (i1 : (i : Int) ≤ 10) (ha : (p.k (i : Int) == 1) = true) (hb : homeP (p.k (i : Int)) (p.n (i : Int)) = true)  : RoundRun Tryz.prog (loopB Tryz.f28 0) ⟨[5, 6], [], []⟩ 1 (uu :: uu :: uu :: uu :: uu :: .agg (plC p) :: .int .i64 (↑i : Int) :: un 27) [Ob.dead] (Ex.norm) (uu :: uu :: uu :: uu :: uu :: .agg (plC p) :: .int .i64 (IntKind.wrap IntKind.i64 ((↑i : Int) + 1)) :: un 27) ([Ob.dead]) := by
 have c0 := @amay_ok (PlS.k p (↑i : Int)) (PlS.n p (↑i : Int))
 exact (RoundRun.of_eval (sp := ⟨[5, 6], [], []⟩) (n0 := 1) (ex := Ex.norm) (t' := (uu :: uu :: uu :: uu :: uu :: .agg (plC p) :: .int .i64 (IntKind.wrap IntKind.i64 ((↑i : Int) + 1)) :: un 27)) (s' := [Ob.dead]) mixed ([tC (decide_eq_true (Int.lt_add_one_of_le i1)), .tst (decide (0 ≤ (↑i : Int) ∧ (↑i : Int) < (↑(11 : Nat) : Int))) true (by ((try simp only [sl2] at *); (try unfold big at *); omega)), .getA _ _ _ _ (@getp' p ((↑i : Int)) ([]) (by ((try simp only [sl2] at *); (try unfold big at *); omega)) i1), .flat _ _ flat_Place, tC (eT (nt (andF (y := eqCells [.int .i8 (PlS.n p (↑i : Int))] [.int .i8 0]) (eqI 0 false (eq_of_beq ha))))), tC (eT (nt (andF (y := eqCells [.int .i8 (PlS.n p (↑i : Int))] [.int .i8 0]) (eqI 0 false (eq_of_beq ha))))), .ret _ _ _ c0, tC (eT (nt (andF (y := eqCells [.int .i8 (PlS.n p (↑i : Int))] [.int .i8 0]) (eqI 0 false (eq_of_beq ha))))), tC (nt (andF (y := eqCells [.int .i8 (PlS.n p (↑i : Int))] [.int .i8 0]) (eqI 0 false (eq_of_beq ha))))] ++ List.replicate 8 (tC (eT (nt hb))) ++ [tC (nt hb), tF]) (by kernel_rfl)).cast (by rfl) (by rfl)
theorem pm_slot (p : PlS) (i : Nat) (i1 : (i : Int) ≤ 10) (ha : (p.k (i : Int) == 2) = true) (hb : homeP (p.k (i : Int)) (p.n (i : Int)) = false) (hc : 0 ≤ p.n (i : Int)) (hd : p.n (i : Int) < 11)  : RoundRun Tryz.prog (loopB Tryz.f28 0) ⟨[5, 6], [], []⟩ 1 (uu :: uu :: uu :: uu :: uu :: .agg (plC p) :: .int .i64 (↑i : Int) :: un 27) [Ob.dead] (Ex.norm) (uu :: uu :: uu :: uu :: uu :: .agg (plC p) :: .int .i64 (IntKind.wrap IntKind.i64 ((↑i : Int) + 1)) :: un 27) ([Ob.dead]) := by
 have c0 := @amay_ok (PlS.k p (↑i : Int)) (PlS.n p (↑i : Int))
 exact (RoundRun.of_eval (sp := ⟨[5, 6], [], []⟩) (n0 := 1) (ex := Ex.norm) (t' := (uu :: uu :: uu :: uu :: uu :: .agg (plC p) :: .int .i64 (IntKind.wrap IntKind.i64 ((↑i : Int) + 1)) :: un 27)) (s' := [Ob.dead]) mixed ([tC (decide_eq_true (Int.lt_add_one_of_le i1)), .tst (decide (0 ≤ (↑i : Int) ∧ (↑i : Int) < (↑(11 : Nat) : Int))) true (by ((try simp only [sl2] at *); (try unfold big at *); omega)), .getA _ _ _ _ (@getp' p ((↑i : Int)) ([]) (by ((try simp only [sl2] at *); (try unfold big at *); omega)) i1), .flat _ _ flat_Place, tC (eT (nt (andF (y := eqCells [.int .i8 (PlS.n p (↑i : Int))] [.int .i8 0]) (eqI 0 false (eq_of_beq ha))))), tC (eT (nt (andF (y := eqCells [.int .i8 (PlS.n p (↑i : Int))] [.int .i8 0]) (eqI 0 false (eq_of_beq ha))))), .ret _ _ _ c0, tC (eT (nt (andF (y := eqCells [.int .i8 (PlS.n p (↑i : Int))] [.int .i8 0]) (eqI 0 false (eq_of_beq ha))))), tC (nt (andF (y := eqCells [.int .i8 (PlS.n p (↑i : Int))] [.int .i8 0]) (eqI 0 false (eq_of_beq ha))))] ++ List.replicate 4 (tC (eT (nt hb))) ++ List.replicate 3 (tC (eT (eqI 2 true (eq_of_beq ha)))) ++ [tC (eT (nt hb)), tC (eqI 2 true (eq_of_beq ha)), tC (eT (nt hb))] ++ List.replicate 3 (tC (eT (leL 0 (decide_eq_false (Int.not_lt.2 hc))))) ++ [tC (eT (nt hb)), tC (leL 0 (decide_eq_false (Int.not_lt.2 hc))), tC (eT (nt hb)), tC (nt hb), tC (nt (decide_eq_true hd))]) (by kernel_rfl)).cast (by rfl) (by rfl)
theorem pm_b0 (p : PlS) (i : Nat) (i1 : (i : Int) ≤ 10) (ha : (p.k (i : Int) == 0) = true) (hb : (p.n (i : Int) == 0) = false) (hc : homeP (p.k (i : Int)) (p.n (i : Int)) = false)  : RoundRun Tryz.prog (loopB Tryz.f28 0) ⟨[2], [], []⟩ 1 (uu :: uu :: uu :: uu :: uu :: .agg (plC p) :: .int .i64 (↑i : Int) :: un 27) [Ob.dead] (Ex.ret) (uu :: uu :: .bool false :: un 31) ([Ob.dead]) := by
 have c0 := @amay_ok (PlS.k p (↑i : Int)) (PlS.n p (↑i : Int))
 exact (RoundRun.of_eval (sp := ⟨[2], [], []⟩) (n0 := 1) (ex := Ex.ret) (t' := (uu :: uu :: .bool false :: un 31)) (s' := [Ob.dead]) mixed ([tC (decide_eq_true (Int.lt_add_one_of_le i1)), .tst (decide (0 ≤ (↑i : Int) ∧ (↑i : Int) < (↑(11 : Nat) : Int))) true (by ((try simp only [sl2] at *); (try unfold big at *); omega)), .getA _ _ _ _ (@getp' p ((↑i : Int)) ([]) (by ((try simp only [sl2] at *); (try unfold big at *); omega)) i1), .flat _ _ flat_Place, tC (eT (nt (andT (eqI 0 true (eq_of_beq ha)) (andF (y := true) hb)))), tC (eT (nt (andT (eqI 0 true (eq_of_beq ha)) (andF (y := true) hb)))), .ret _ _ _ c0, tC (eT (nt (andT (eqI 0 true (eq_of_beq ha)) (andF (y := true) hb)))), tC (nt (andT (eqI 0 true (eq_of_beq ha)) (andF (y := true) hb)))] ++ List.replicate 4 (tC (eT (nt hc))) ++ List.replicate 3 (tC (eT (eqI 2 false (eq_of_beq ha)))) ++ [tC (eT (nt hc)), tC (eqI 2 false (eq_of_beq ha)), tC (eT (nt hc)), tF, tF, tF, tC (eT (nt hc)), tF, tC (eT (nt hc)), tC (nt hc), tT]) (by kernel_rfl)).cast (by rfl) (by rfl)
theorem pm_b1 (p : PlS) (i : Nat) (i1 : (i : Int) ≤ 10) (ha : (p.k (i : Int) == 1) = true) (hb : homeP (p.k (i : Int)) (p.n (i : Int)) = false)  : RoundRun Tryz.prog (loopB Tryz.f28 0) ⟨[2], [], []⟩ 1 (uu :: uu :: uu :: uu :: uu :: .agg (plC p) :: .int .i64 (↑i : Int) :: un 27) [Ob.dead] (Ex.ret) (uu :: uu :: .bool false :: un 31) ([Ob.dead]) := by
 have c0 := @amay_ok (PlS.k p (↑i : Int)) (PlS.n p (↑i : Int))
 exact (RoundRun.of_eval (sp := ⟨[2], [], []⟩) (n0 := 1) (ex := Ex.ret) (t' := (uu :: uu :: .bool false :: un 31)) (s' := [Ob.dead]) mixed ([tC (decide_eq_true (Int.lt_add_one_of_le i1)), .tst (decide (0 ≤ (↑i : Int) ∧ (↑i : Int) < (↑(11 : Nat) : Int))) true (by ((try simp only [sl2] at *); (try unfold big at *); omega)), .getA _ _ _ _ (@getp' p ((↑i : Int)) ([]) (by ((try simp only [sl2] at *); (try unfold big at *); omega)) i1), .flat _ _ flat_Place, tC (eT (nt (andF (y := eqCells [.int .i8 (PlS.n p (↑i : Int))] [.int .i8 0]) (eqI 0 false (eq_of_beq ha))))), tC (eT (nt (andF (y := eqCells [.int .i8 (PlS.n p (↑i : Int))] [.int .i8 0]) (eqI 0 false (eq_of_beq ha))))), .ret _ _ _ c0, tC (eT (nt (andF (y := eqCells [.int .i8 (PlS.n p (↑i : Int))] [.int .i8 0]) (eqI 0 false (eq_of_beq ha))))), tC (nt (andF (y := eqCells [.int .i8 (PlS.n p (↑i : Int))] [.int .i8 0]) (eqI 0 false (eq_of_beq ha))))] ++ List.replicate 4 (tC (eT (nt hb))) ++ List.replicate 3 (tC (eT (eqI 2 false (eq_of_beq ha)))) ++ [tC (eT (nt hb)), tC (eqI 2 false (eq_of_beq ha)), tC (eT (nt hb)), tF, tF, tF, tC (eT (nt hb)), tF, tC (eT (nt hb)), tC (nt hb), tT]) (by kernel_rfl)).cast (by rfl) (by rfl)
theorem pm_b2 (p : PlS) (i : Nat) (i1 : (i : Int) ≤ 10) (ha : (p.k (i : Int) == 2) = true) (hb : homeP (p.k (i : Int)) (p.n (i : Int)) = false) (hc : p.n (i : Int) < 0)  : RoundRun Tryz.prog (loopB Tryz.f28 0) ⟨[2], [], []⟩ 1 (uu :: uu :: uu :: uu :: uu :: .agg (plC p) :: .int .i64 (↑i : Int) :: un 27) [Ob.dead] (Ex.ret) (uu :: uu :: .bool false :: un 31) ([Ob.dead]) := by
 have c0 := @amay_ok (PlS.k p (↑i : Int)) (PlS.n p (↑i : Int))
 exact (RoundRun.of_eval (sp := ⟨[2], [], []⟩) (n0 := 1) (ex := Ex.ret) (t' := (uu :: uu :: .bool false :: un 31)) (s' := [Ob.dead]) mixed ([tC (decide_eq_true (Int.lt_add_one_of_le i1)), .tst (decide (0 ≤ (↑i : Int) ∧ (↑i : Int) < (↑(11 : Nat) : Int))) true (by ((try simp only [sl2] at *); (try unfold big at *); omega)), .getA _ _ _ _ (@getp' p ((↑i : Int)) ([]) (by ((try simp only [sl2] at *); (try unfold big at *); omega)) i1), .flat _ _ flat_Place, tC (eT (nt (andF (y := eqCells [.int .i8 (PlS.n p (↑i : Int))] [.int .i8 0]) (eqI 0 false (eq_of_beq ha))))), tC (eT (nt (andF (y := eqCells [.int .i8 (PlS.n p (↑i : Int))] [.int .i8 0]) (eqI 0 false (eq_of_beq ha))))), .ret _ _ _ c0, tC (eT (nt (andF (y := eqCells [.int .i8 (PlS.n p (↑i : Int))] [.int .i8 0]) (eqI 0 false (eq_of_beq ha))))), tC (nt (andF (y := eqCells [.int .i8 (PlS.n p (↑i : Int))] [.int .i8 0]) (eqI 0 false (eq_of_beq ha))))] ++ List.replicate 4 (tC (eT (nt hb))) ++ List.replicate 3 (tC (eT (eqI 2 true (eq_of_beq ha)))) ++ [tC (eT (nt hb)), tC (eqI 2 true (eq_of_beq ha)), tC (eT (nt hb))] ++ List.replicate 3 (tC (eT (leL 0 (decide_eq_true hc)))) ++ [tC (eT (nt hb)), tC (leL 0 (decide_eq_true hc)), tC (eT (nt hb)), tC (nt hb), tT]) (by kernel_rfl)).cast (by rfl) (by rfl)
theorem pm_b3 (p : PlS) (i : Nat) (i1 : (i : Int) ≤ 10) (ha : (p.k (i : Int) == 2) = true) (hb : homeP (p.k (i : Int)) (p.n (i : Int)) = false) (hc : 11 ≤ p.n (i : Int))  : RoundRun Tryz.prog (loopB Tryz.f28 0) ⟨[2], [], []⟩ 1 (uu :: uu :: uu :: uu :: uu :: .agg (plC p) :: .int .i64 (↑i : Int) :: un 27) [Ob.dead] (Ex.ret) (uu :: uu :: .bool false :: un 31) ([Ob.dead]) := by
 have c0 := @amay_ok (PlS.k p (↑i : Int)) (PlS.n p (↑i : Int))
 exact (RoundRun.of_eval (sp := ⟨[2], [], []⟩) (n0 := 1) (ex := Ex.ret) (t' := (uu :: uu :: .bool false :: un 31)) (s' := [Ob.dead]) mixed ([tC (decide_eq_true (Int.lt_add_one_of_le i1)), .tst (decide (0 ≤ (↑i : Int) ∧ (↑i : Int) < (↑(11 : Nat) : Int))) true (by ((try simp only [sl2] at *); (try unfold big at *); omega)), .getA _ _ _ _ (@getp' p ((↑i : Int)) ([]) (by ((try simp only [sl2] at *); (try unfold big at *); omega)) i1), .flat _ _ flat_Place, tC (eT (nt (andF (y := eqCells [.int .i8 (PlS.n p (↑i : Int))] [.int .i8 0]) (eqI 0 false (eq_of_beq ha))))), tC (eT (nt (andF (y := eqCells [.int .i8 (PlS.n p (↑i : Int))] [.int .i8 0]) (eqI 0 false (eq_of_beq ha))))), .ret _ _ _ c0, tC (eT (nt (andF (y := eqCells [.int .i8 (PlS.n p (↑i : Int))] [.int .i8 0]) (eqI 0 false (eq_of_beq ha))))), tC (nt (andF (y := eqCells [.int .i8 (PlS.n p (↑i : Int))] [.int .i8 0]) (eqI 0 false (eq_of_beq ha))))] ++ List.replicate 4 (tC (eT (nt hb))) ++ List.replicate 3 (tC (eT (eqI 2 true (eq_of_beq ha)))) ++ [tC (eT (nt hb)), tC (eqI 2 true (eq_of_beq ha)), tC (eT (nt hb))] ++ List.replicate 3 (tC (eT (leL 0 (ltD 0 (decide_eq_false (Int.not_lt.2 hc)))))) ++ [tC (eT (nt hb)), tC (leL 0 (ltD 0 (decide_eq_false (Int.not_lt.2 hc)))), tC (eT (nt hb)), tC (nt hb), tC (nt (decide_eq_false (Int.not_lt.2 hc)))]) (by kernel_rfl)).cast (by rfl) (by rfl)
theorem pm_b4 (p : PlS) (i : Nat) (i1 : (i : Int) ≤ 10) (ha : (p.k (i : Int) == 0) = false) (hb : (p.k (i : Int) == 2) = false) (hc : homeP (p.k (i : Int)) (p.n (i : Int)) = false)  : RoundRun Tryz.prog (loopB Tryz.f28 0) ⟨[2], [], []⟩ 1 (uu :: uu :: uu :: uu :: uu :: .agg (plC p) :: .int .i64 (↑i : Int) :: un 27) [Ob.dead] (Ex.ret) (uu :: uu :: .bool false :: un 31) ([Ob.dead]) := by
 have c0 := @amay_ok (PlS.k p (↑i : Int)) (PlS.n p (↑i : Int))
 exact (RoundRun.of_eval (sp := ⟨[2], [], []⟩) (n0 := 1) (ex := Ex.ret) (t' := (uu :: uu :: .bool false :: un 31)) (s' := [Ob.dead]) mixed ([tC (decide_eq_true (Int.lt_add_one_of_le i1)), .tst (decide (0 ≤ (↑i : Int) ∧ (↑i : Int) < (↑(11 : Nat) : Int))) true (by ((try simp only [sl2] at *); (try unfold big at *); omega)), .getA _ _ _ _ (@getp' p ((↑i : Int)) ([]) (by ((try simp only [sl2] at *); (try unfold big at *); omega)) i1), .flat _ _ flat_Place, tC (eT (nt (andF (y := eqCells [.int .i8 (PlS.n p (↑i : Int))] [.int .i8 0]) ha))), tC (eT (nt (andF (y := eqCells [.int .i8 (PlS.n p (↑i : Int))] [.int .i8 0]) ha))), .ret _ _ _ c0, tC (eT (nt (andF (y := eqCells [.int .i8 (PlS.n p (↑i : Int))] [.int .i8 0]) ha))), tC (nt (andF (y := eqCells [.int .i8 (PlS.n p (↑i : Int))] [.int .i8 0]) ha))] ++ List.replicate 4 (tC (eT (nt hc))) ++ [tC (eT hb), tC (eT hb), tC (eT hb), tC (eT (nt hc)), tC hb, tC (eT (nt hc)), tF, tF, tF, tC (eT (nt hc)), tF, tC (eT (nt hc)), tC (nt hc), tT]) (by kernel_rfl)).cast (by rfl) (by rfl)
theorem rm_done (p : PlS)  : RoundRun Tryz.prog (loopB Tryz.f23 0) ⟨[2], [0], []⟩ 1 (uu :: D.ptr false 0 0 :: uu :: .int .i64 11 :: un 38) [Ob.box (plC p)] (Ex.exit (0 : Nat)) (un 42) ([Ob.box (plC p)]) := by
 exact (RoundRun.of_eval (sp := ⟨[2], [0], []⟩) (n0 := 1) (ex := Ex.exit (0 : Nat)) (t' := (un 42)) (s' := [Ob.box (plC p)]) mixed [tF] (by kernel_rfl)).cast (by rfl) (by rfl)
theorem rm_zero (p : PlS) (i : Nat) (i1 : (i : Int) ≤ 10) (ha : (p.k (i : Int) == 0) = true) (hb : (p.n (i : Int) == 0) = true)  : RoundRun Tryz.prog (loopB Tryz.f23 0) ⟨[1, 3], [0], []⟩ 1 (uu :: D.ptr false 0 0 :: uu :: .int .i64 (↑i : Int) :: un 38) [Ob.box (plC p)] (Ex.norm) (uu :: D.ptr false 0 0 :: uu :: .int .i64 (IntKind.wrap IntKind.i64 ((↑i : Int) + 1)) :: un 38) ([Ob.box (plC p)]) := by
 exact (RoundRun.of_eval (sp := ⟨[1, 3], [0], []⟩) (n0 := 1) (ex := Ex.norm) (t' := (uu :: D.ptr false 0 0 :: uu :: .int .i64 (IntKind.wrap IntKind.i64 ((↑i : Int) + 1)) :: un 38)) (s' := [Ob.box (plC p)]) mixed ([tC (decide_eq_true (Int.lt_add_one_of_le i1)), .tst (decide (0 ≤ (↑i : Int) ∧ (↑i : Int) < (↑(11 : Nat) : Int))) true (by ((try simp only [sl2] at *); (try unfold big at *); omega)), .getA _ _ _ _ (@getp p ((↑i : Int)) ([]) (by ((try simp only [sl2] at *); (try unfold big at *); omega)) i1), .flat _ _ flat_Place] ++ List.replicate 6 (tC (eT (nt (andT (eqI 0 true (eq_of_beq ha)) (andT (eqI 0 true (eq_of_beq hb)) (rfl : true = true)))))) ++ [tC (nt (andT (eqI 0 true (eq_of_beq ha)) (andT (eqI 0 true (eq_of_beq hb)) (rfl : true = true))))] ++ List.replicate 10 tF) (by kernel_rfl)).cast (by rfl) (by rfl)
theorem rm_home (p : PlS) (i : Nat) (i1 : (i : Int) ≤ 10) (ha : (p.k (i : Int) == 1) = true) (hb : homeP 1 (p.n (i : Int)) = true)  : RoundRun Tryz.prog (loopB Tryz.f23 0) ⟨[1, 3], [0], []⟩ 1 (uu :: D.ptr false 0 0 :: uu :: .int .i64 (↑i : Int) :: un 38) [Ob.box (plC p)] (Ex.norm) (uu :: D.ptr false 0 0 :: uu :: .int .i64 (IntKind.wrap IntKind.i64 ((↑i : Int) + 1)) :: un 38) ([Ob.box (plC p)]) := by
 have c0 := @rhome_ok (PlS.n p (↑i : Int))
 exact (RoundRun.of_eval (sp := ⟨[1, 3], [0], []⟩) (n0 := 1) (ex := Ex.norm) (t' := (uu :: D.ptr false 0 0 :: uu :: .int .i64 (IntKind.wrap IntKind.i64 ((↑i : Int) + 1)) :: un 38)) (s' := [Ob.box (plC p)]) mixed ([tC (decide_eq_true (Int.lt_add_one_of_le i1)), .tst (decide (0 ≤ (↑i : Int) ∧ (↑i : Int) < (↑(11 : Nat) : Int))) true (by ((try simp only [sl2] at *); (try unfold big at *); omega)), .getA _ _ _ _ (@getp p ((↑i : Int)) ([]) (by ((try simp only [sl2] at *); (try unfold big at *); omega)) i1), .flat _ _ flat_Place] ++ List.replicate 4 (tC (eT (nt (andF (y := eqCells [.int .i8 (PlS.n p (↑i : Int))] [.int .i8 0]) (eqI 0 false (eq_of_beq ha)))))) ++ List.replicate 3 (tC (eT (eqI 1 true (eq_of_beq ha)))) ++ [.ret _ _ _ c0, tC (eT (nt (andF (y := eqCells [.int .i8 (PlS.n p (↑i : Int))] [.int .i8 0]) (eqI 0 false (eq_of_beq ha))))), tC (eqI 1 true (eq_of_beq ha)), tC (eT (nt (andF (y := eqCells [.int .i8 (PlS.n p (↑i : Int))] [.int .i8 0]) (eqI 0 false (eq_of_beq ha))))), tC (nt (andF (y := eqCells [.int .i8 (PlS.n p (↑i : Int))] [.int .i8 0]) (eqI 0 false (eq_of_beq ha))))] ++ List.replicate 8 (tC (eT (nt hb))) ++ [tC (nt hb), tF]) (by kernel_rfl)).cast (by rfl) (by rfl)
theorem rm_slot (p : PlS) (i : Nat) (i1 : (i : Int) ≤ 10) (ha : (p.k (i : Int) == 2) = true) (hc : 0 ≤ p.n (i : Int)) (hd : p.n (i : Int) < 11)  : RoundRun Tryz.prog (loopB Tryz.f23 0) ⟨[1, 3], [0], []⟩ 1 (uu :: D.ptr false 0 0 :: uu :: .int .i64 (↑i : Int) :: un 38) [Ob.box (plC p)] (Ex.norm) (uu :: D.ptr false 0 0 :: uu :: .int .i64 (IntKind.wrap IntKind.i64 ((↑i : Int) + 1)) :: un 38) ([Ob.box (plC p)]) := by
 exact (RoundRun.of_eval (sp := ⟨[1, 3], [0], []⟩) (n0 := 1) (ex := Ex.norm) (t' := (uu :: D.ptr false 0 0 :: uu :: .int .i64 (IntKind.wrap IntKind.i64 ((↑i : Int) + 1)) :: un 38)) (s' := [Ob.box (plC p)]) mixed ([tC (decide_eq_true (Int.lt_add_one_of_le i1)), .tst (decide (0 ≤ (↑i : Int) ∧ (↑i : Int) < (↑(11 : Nat) : Int))) true (by ((try simp only [sl2] at *); (try unfold big at *); omega)), .getA _ _ _ _ (@getp p ((↑i : Int)) ([]) (by ((try simp only [sl2] at *); (try unfold big at *); omega)) i1), .flat _ _ flat_Place] ++ List.replicate 4 (tC (eT (nt (andF (y := eqCells [.int .i8 (PlS.n p (↑i : Int))] [.int .i8 0]) (eqI 0 false (eq_of_beq ha)))))) ++ List.replicate 3 (tC (eT (eqI 1 false (eq_of_beq ha)))) ++ [tC (eT (nt (andF (y := eqCells [.int .i8 (PlS.n p (↑i : Int))] [.int .i8 0]) (eqI 0 false (eq_of_beq ha))))), tC (eqI 1 false (eq_of_beq ha)), tC (eT (nt (andF (y := eqCells [.int .i8 (PlS.n p (↑i : Int))] [.int .i8 0]) (eqI 0 false (eq_of_beq ha))))), tC (nt (andF (y := eqCells [.int .i8 (PlS.n p (↑i : Int))] [.int .i8 0]) (eqI 0 false (eq_of_beq ha)))), tT, tT, tT, tT] ++ List.replicate 3 (tC (eT (eqI 2 true (eq_of_beq ha)))) ++ [tT, tC (eqI 2 true (eq_of_beq ha)), tT] ++ List.replicate 3 (tC (eT (leL 0 (decide_eq_false (Int.not_lt.2 hc))))) ++ [tT, tC (leL 0 (decide_eq_false (Int.not_lt.2 hc))), tT, tT, tC (nt (decide_eq_true hd))]) (by kernel_rfl)).cast (by rfl) (by rfl)
theorem rm_b0 (p : PlS) (i : Nat) (i1 : (i : Int) ≤ 10) (ha : (p.k (i : Int) == 0) = true) (hb : (p.n (i : Int) == 0) = false)  : RoundRun Tryz.prog (loopB Tryz.f23 0) ⟨[2], [0], []⟩ 1 (uu :: D.ptr false 0 0 :: uu :: .int .i64 (↑i : Int) :: un 38) [Ob.box (plC p)] (Ex.ret) (uu :: uu :: .bool false :: un 39) ([Ob.box (plC p)]) := by
 exact (RoundRun.of_eval (sp := ⟨[2], [0], []⟩) (n0 := 1) (ex := Ex.ret) (t' := (uu :: uu :: .bool false :: un 39)) (s' := [Ob.box (plC p)]) mixed ([tC (decide_eq_true (Int.lt_add_one_of_le i1)), .tst (decide (0 ≤ (↑i : Int) ∧ (↑i : Int) < (↑(11 : Nat) : Int))) true (by ((try simp only [sl2] at *); (try unfold big at *); omega)), .getA _ _ _ _ (@getp p ((↑i : Int)) ([]) (by ((try simp only [sl2] at *); (try unfold big at *); omega)) i1), .flat _ _ flat_Place] ++ List.replicate 4 (tC (eT (nt (andT (eqI 0 true (eq_of_beq ha)) (andF (y := true) hb))))) ++ List.replicate 3 (tC (eT (eqI 1 false (eq_of_beq ha)))) ++ [tC (eT (nt (andT (eqI 0 true (eq_of_beq ha)) (andF (y := true) hb)))), tC (eqI 1 false (eq_of_beq ha)), tC (eT (nt (andT (eqI 0 true (eq_of_beq ha)) (andF (y := true) hb)))), tC (nt (andT (eqI 0 true (eq_of_beq ha)) (andF (y := true) hb))), tT, tT, tT, tT] ++ List.replicate 3 (tC (eT (eqI 2 false (eq_of_beq ha)))) ++ [tT, tC (eqI 2 false (eq_of_beq ha)), tT, tF, tF, tF, tT, tF, tT, tT, tT]) (by kernel_rfl)).cast (by rfl) (by rfl)
theorem rm_b1 (p : PlS) (i : Nat) (i1 : (i : Int) ≤ 10) (ha : (p.k (i : Int) == 1) = true) (hb : homeP 1 (p.n (i : Int)) = false)  : RoundRun Tryz.prog (loopB Tryz.f23 0) ⟨[2], [0], []⟩ 1 (uu :: D.ptr false 0 0 :: uu :: .int .i64 (↑i : Int) :: un 38) [Ob.box (plC p)] (Ex.ret) (uu :: uu :: .bool false :: un 39) ([Ob.box (plC p)]) := by
 have c0 := @rhome_ok (PlS.n p (↑i : Int))
 exact (RoundRun.of_eval (sp := ⟨[2], [0], []⟩) (n0 := 1) (ex := Ex.ret) (t' := (uu :: uu :: .bool false :: un 39)) (s' := [Ob.box (plC p)]) mixed ([tC (decide_eq_true (Int.lt_add_one_of_le i1)), .tst (decide (0 ≤ (↑i : Int) ∧ (↑i : Int) < (↑(11 : Nat) : Int))) true (by ((try simp only [sl2] at *); (try unfold big at *); omega)), .getA _ _ _ _ (@getp p ((↑i : Int)) ([]) (by ((try simp only [sl2] at *); (try unfold big at *); omega)) i1), .flat _ _ flat_Place] ++ List.replicate 4 (tC (eT (nt (andF (y := eqCells [.int .i8 (PlS.n p (↑i : Int))] [.int .i8 0]) (eqI 0 false (eq_of_beq ha)))))) ++ List.replicate 3 (tC (eT (eqI 1 true (eq_of_beq ha)))) ++ [.ret _ _ _ c0, tC (eT (nt (andF (y := eqCells [.int .i8 (PlS.n p (↑i : Int))] [.int .i8 0]) (eqI 0 false (eq_of_beq ha))))), tC (eqI 1 true (eq_of_beq ha)), tC (eT (nt (andF (y := eqCells [.int .i8 (PlS.n p (↑i : Int))] [.int .i8 0]) (eqI 0 false (eq_of_beq ha))))), tC (nt (andF (y := eqCells [.int .i8 (PlS.n p (↑i : Int))] [.int .i8 0]) (eqI 0 false (eq_of_beq ha))))] ++ List.replicate 4 (tC (eT (nt hb))) ++ List.replicate 3 (tC (eT (eqI 2 false (eq_of_beq ha)))) ++ [tC (eT (nt hb)), tC (eqI 2 false (eq_of_beq ha)), tC (eT (nt hb)), tF, tF, tF, tC (eT (nt hb)), tF, tC (eT (nt hb)), tC (nt hb), tT]) (by kernel_rfl)).cast (by rfl) (by rfl)
theorem rm_b2 (p : PlS) (i : Nat) (i1 : (i : Int) ≤ 10) (ha : (p.k (i : Int) == 2) = true) (hc : p.n (i : Int) < 0)  : RoundRun Tryz.prog (loopB Tryz.f23 0) ⟨[2], [0], []⟩ 1 (uu :: D.ptr false 0 0 :: uu :: .int .i64 (↑i : Int) :: un 38) [Ob.box (plC p)] (Ex.ret) (uu :: uu :: .bool false :: un 39) ([Ob.box (plC p)]) := by
 exact (RoundRun.of_eval (sp := ⟨[2], [0], []⟩) (n0 := 1) (ex := Ex.ret) (t' := (uu :: uu :: .bool false :: un 39)) (s' := [Ob.box (plC p)]) mixed ([tC (decide_eq_true (Int.lt_add_one_of_le i1)), .tst (decide (0 ≤ (↑i : Int) ∧ (↑i : Int) < (↑(11 : Nat) : Int))) true (by ((try simp only [sl2] at *); (try unfold big at *); omega)), .getA _ _ _ _ (@getp p ((↑i : Int)) ([]) (by ((try simp only [sl2] at *); (try unfold big at *); omega)) i1), .flat _ _ flat_Place] ++ List.replicate 4 (tC (eT (nt (andF (y := eqCells [.int .i8 (PlS.n p (↑i : Int))] [.int .i8 0]) (eqI 0 false (eq_of_beq ha)))))) ++ List.replicate 3 (tC (eT (eqI 1 false (eq_of_beq ha)))) ++ [tC (eT (nt (andF (y := eqCells [.int .i8 (PlS.n p (↑i : Int))] [.int .i8 0]) (eqI 0 false (eq_of_beq ha))))), tC (eqI 1 false (eq_of_beq ha)), tC (eT (nt (andF (y := eqCells [.int .i8 (PlS.n p (↑i : Int))] [.int .i8 0]) (eqI 0 false (eq_of_beq ha))))), tC (nt (andF (y := eqCells [.int .i8 (PlS.n p (↑i : Int))] [.int .i8 0]) (eqI 0 false (eq_of_beq ha)))), tT, tT, tT, tT] ++ List.replicate 3 (tC (eT (eqI 2 true (eq_of_beq ha)))) ++ [tT, tC (eqI 2 true (eq_of_beq ha)), tT] ++ List.replicate 3 (tC (eT (leL 0 (decide_eq_true hc)))) ++ [tT, tC (leL 0 (decide_eq_true hc)), tT, tT, tT]) (by kernel_rfl)).cast (by rfl) (by rfl)
theorem rm_b3 (p : PlS) (i : Nat) (i1 : (i : Int) ≤ 10) (ha : (p.k (i : Int) == 2) = true) (hc : 11 ≤ p.n (i : Int))  : RoundRun Tryz.prog (loopB Tryz.f23 0) ⟨[2], [0], []⟩ 1 (uu :: D.ptr false 0 0 :: uu :: .int .i64 (↑i : Int) :: un 38) [Ob.box (plC p)] (Ex.ret) (uu :: uu :: .bool false :: un 39) ([Ob.box (plC p)]) := by
 exact (RoundRun.of_eval (sp := ⟨[2], [0], []⟩) (n0 := 1) (ex := Ex.ret) (t' := (uu :: uu :: .bool false :: un 39)) (s' := [Ob.box (plC p)]) mixed ([tC (decide_eq_true (Int.lt_add_one_of_le i1)), .tst (decide (0 ≤ (↑i : Int) ∧ (↑i : Int) < (↑(11 : Nat) : Int))) true (by ((try simp only [sl2] at *); (try unfold big at *); omega)), .getA _ _ _ _ (@getp p ((↑i : Int)) ([]) (by ((try simp only [sl2] at *); (try unfold big at *); omega)) i1), .flat _ _ flat_Place] ++ List.replicate 4 (tC (eT (nt (andF (y := eqCells [.int .i8 (PlS.n p (↑i : Int))] [.int .i8 0]) (eqI 0 false (eq_of_beq ha)))))) ++ List.replicate 3 (tC (eT (eqI 1 false (eq_of_beq ha)))) ++ [tC (eT (nt (andF (y := eqCells [.int .i8 (PlS.n p (↑i : Int))] [.int .i8 0]) (eqI 0 false (eq_of_beq ha))))), tC (eqI 1 false (eq_of_beq ha)), tC (eT (nt (andF (y := eqCells [.int .i8 (PlS.n p (↑i : Int))] [.int .i8 0]) (eqI 0 false (eq_of_beq ha))))), tC (nt (andF (y := eqCells [.int .i8 (PlS.n p (↑i : Int))] [.int .i8 0]) (eqI 0 false (eq_of_beq ha)))), tT, tT, tT, tT] ++ List.replicate 3 (tC (eT (eqI 2 true (eq_of_beq ha)))) ++ [tT, tC (eqI 2 true (eq_of_beq ha)), tT] ++ List.replicate 3 (tC (eT (leL 0 (ltD 0 (decide_eq_false (Int.not_lt.2 hc)))))) ++ [tT, tC (leL 0 (ltD 0 (decide_eq_false (Int.not_lt.2 hc)))), tT, tT, tC (nt (decide_eq_false (Int.not_lt.2 hc)))]) (by kernel_rfl)).cast (by rfl) (by rfl)
theorem rm_b4 (p : PlS) (i : Nat) (i1 : (i : Int) ≤ 10) (ha : (p.k (i : Int) == 0) = false) (hb : (p.k (i : Int) == 2) = false) (hc : (p.k (i : Int) == 1) = false)  : RoundRun Tryz.prog (loopB Tryz.f23 0) ⟨[2], [0], []⟩ 1 (uu :: D.ptr false 0 0 :: uu :: .int .i64 (↑i : Int) :: un 38) [Ob.box (plC p)] (Ex.ret) (uu :: uu :: .bool false :: un 39) ([Ob.box (plC p)]) := by
 exact (RoundRun.of_eval (sp := ⟨[2], [0], []⟩) (n0 := 1) (ex := Ex.ret) (t' := (uu :: uu :: .bool false :: un 39)) (s' := [Ob.box (plC p)]) mixed ([tC (decide_eq_true (Int.lt_add_one_of_le i1)), .tst (decide (0 ≤ (↑i : Int) ∧ (↑i : Int) < (↑(11 : Nat) : Int))) true (by ((try simp only [sl2] at *); (try unfold big at *); omega)), .getA _ _ _ _ (@getp p ((↑i : Int)) ([]) (by ((try simp only [sl2] at *); (try unfold big at *); omega)) i1), .flat _ _ flat_Place] ++ List.replicate 4 (tC (eT (nt (andF (y := eqCells [.int .i8 (PlS.n p (↑i : Int))] [.int .i8 0]) ha)))) ++ [tC (eT hc), tC (eT hc), tC (eT hc), tC (eT (nt (andF (y := eqCells [.int .i8 (PlS.n p (↑i : Int))] [.int .i8 0]) ha))), tC hc, tC (eT (nt (andF (y := eqCells [.int .i8 (PlS.n p (↑i : Int))] [.int .i8 0]) ha))), tC (nt (andF (y := eqCells [.int .i8 (PlS.n p (↑i : Int))] [.int .i8 0]) ha)), tT, tT, tT, tT, tC (eT hb), tC (eT hb), tC (eT hb), tT, tC hb, tT, tF, tF, tF, tT, tF, tT, tT, tT]) (by kernel_rfl)).cast (by rfl) (by rfl)
theorem sp_done (p : PlS) (m : Int)  : RoundRun Tryz.prog (loopB Tryz.f29 0) ⟨[3], [], []⟩ 1 (uu :: uu :: uu :: .int .i64 m :: uu :: uu :: .agg (plC p) :: .int .i64 11 :: un 13) [Ob.dead] (Ex.exit (0 : Nat)) (uu :: uu :: uu :: .int .i64 m :: un 17) ([Ob.dead]) := by
 exact (RoundRun.of_eval (sp := ⟨[3], [], []⟩) (n0 := 1) (ex := Ex.exit (0 : Nat)) (t' := (uu :: uu :: uu :: .int .i64 m :: un 17)) (s' := [Ob.dead]) mixed [tF] (by kernel_rfl)).cast (by rfl) (by rfl)
theorem sp_slot (p : PlS) (m : Int) (m0 : 0 ≤ m) (m1 : m ≤ 11) (i : Nat) (i1 : (i : Int) ≤ 10) (ha : (p.k (i : Int) == 2) = true) (hc : 0 ≤ p.n (i : Int)) (hd : p.n (i : Int) < 11)  : RoundRun Tryz.prog (loopB Tryz.f29 0) ⟨[3, 6, 7], [], []⟩ 1 (uu :: uu :: uu :: .int .i64 m :: uu :: uu :: .agg (plC p) :: .int .i64 (↑i : Int) :: un 13) [Ob.dead] (Ex.norm) (uu :: uu :: uu :: .int .i64 (if IntKind.wrap IntKind.i64 (IntKind.wrap IntKind.i64 (PlS.n p (↑i : Int)) + 1) > m then IntKind.wrap IntKind.i64 (IntKind.wrap IntKind.i64 (PlS.n p (↑i : Int)) + 1) else m) :: uu :: uu :: .agg (plC p) :: .int .i64 (IntKind.wrap IntKind.i64 ((↑i : Int) + 1)) :: un 13) ([Ob.dead]) := by
 exact (RoundRun.of_eval (sp := ⟨[3, 6, 7], [], []⟩) (n0 := 1) (ex := Ex.norm) (t' := (uu :: uu :: uu :: .int .i64 (if IntKind.wrap IntKind.i64 (IntKind.wrap IntKind.i64 (PlS.n p (↑i : Int)) + 1) > m then IntKind.wrap IntKind.i64 (IntKind.wrap IntKind.i64 (PlS.n p (↑i : Int)) + 1) else m) :: uu :: uu :: .agg (plC p) :: .int .i64 (IntKind.wrap IntKind.i64 ((↑i : Int) + 1)) :: un 13)) (s' := [Ob.dead]) mixed [tC (decide_eq_true (Int.lt_add_one_of_le i1)), .tst (decide (0 ≤ (↑i : Int) ∧ (↑i : Int) < (↑(11 : Nat) : Int))) true (by ((try simp only [sl2] at *); (try unfold big at *); omega)), .getA _ _ _ _ (@getp' p ((↑i : Int)) ([]) (by ((try simp only [sl2] at *); (try unfold big at *); omega)) i1), tC (eqI 2 true (eq_of_beq ha))] (by kernel_rfl)).cast (by rfl) (by rfl)
theorem sp_else (p : PlS) (m : Int) (m0 : 0 ≤ m) (m1 : m ≤ 11) (i : Nat) (i1 : (i : Int) ≤ 10) (ha : (p.k (i : Int) == 2) = false)  : RoundRun Tryz.prog (loopB Tryz.f29 0) ⟨[3, 6, 7], [], []⟩ 1 (uu :: uu :: uu :: .int .i64 m :: uu :: uu :: .agg (plC p) :: .int .i64 (↑i : Int) :: un 13) [Ob.dead] (Ex.norm) (uu :: uu :: uu :: .int .i64 m :: uu :: uu :: .agg (plC p) :: .int .i64 (IntKind.wrap IntKind.i64 ((↑i : Int) + 1)) :: un 13) ([Ob.dead]) := by
 exact (RoundRun.of_eval (sp := ⟨[3, 6, 7], [], []⟩) (n0 := 1) (ex := Ex.norm) (t' := (uu :: uu :: uu :: .int .i64 m :: uu :: uu :: .agg (plC p) :: .int .i64 (IntKind.wrap IntKind.i64 ((↑i : Int) + 1)) :: un 13)) (s' := [Ob.dead]) mixed [tC (decide_eq_true (Int.lt_add_one_of_le i1)), .tst (decide (0 ≤ (↑i : Int) ∧ (↑i : Int) < (↑(11 : Nat) : Int))) true (by ((try simp only [sl2] at *); (try unfold big at *); omega)), .getA _ _ _ _ (@getp' p ((↑i : Int)) ([]) (by ((try simp only [sl2] at *); (try unfold big at *); omega)) i1), tC ha] (by kernel_rfl)).cast (by rfl) (by rfl)
theorem ap_done (p : PlS) (i k : Nat) (h : (i : Int) ≤ (k : Int))  : RoundRun Tryz.prog (loopB Tryz.f25 1) ⟨[1, 5], [0], []⟩ 1 (uu :: D.ptr false 0 0 :: uu :: .int .i64 (↑i : Int) :: .int .i64 (↑k : Int) :: .int .i64 (↑i : Int) :: un 22) [Ob.box (plC p)] (Ex.exit (2 : Nat)) (uu :: D.ptr false 0 0 :: uu :: uu :: uu :: .int .i64 (↑i : Int) :: un 22) ([Ob.box (plC p)]) := by
 exact (RoundRun.of_eval (sp := ⟨[1, 5], [0], []⟩) (n0 := 1) (ex := Ex.exit (2 : Nat)) (t' := (uu :: D.ptr false 0 0 :: uu :: uu :: uu :: .int .i64 (↑i : Int) :: un 22)) (s' := [Ob.box (plC p)]) mixed [tC (by ((try simp only [sl2] at *); (try unfold big at *); omega) : (decide ((↑k : Int) < (↑i : Int))) = false)] (by kernel_rfl)).cast (by rfl) (by rfl)
theorem ap_hit (p : PlS) (i k : Nat) (i1 : (i : Int) ≤ 10) (k1 : (k : Int) < (i : Int)) (ha : (p.k (i : Int) == 0) = false) (hb : (p.k (i : Int) == p.k (k : Int)) = true) (hc : (p.n (i : Int) == p.n (k : Int)) = true)  : RoundRun Tryz.prog (loopB Tryz.f25 1) ⟨[2], [0], []⟩ 1 (uu :: D.ptr false 0 0 :: uu :: .int .i64 (↑i : Int) :: .int .i64 (↑k : Int) :: .int .i64 (↑i : Int) :: un 22) [Ob.box (plC p)] (Ex.ret) (uu :: uu :: .bool false :: un 25) ([Ob.box (plC p)]) := by
 exact (RoundRun.of_eval (sp := ⟨[2], [0], []⟩) (n0 := 1) (ex := Ex.ret) (t' := (uu :: uu :: .bool false :: un 25)) (s' := [Ob.box (plC p)]) mixed [tC (by ((try simp only [sl2] at *); (try unfold big at *); omega) : (decide ((↑k : Int) < (↑i : Int))) = true), .tst (decide (0 ≤ (↑i : Int) ∧ (↑i : Int) < (↑(11 : Nat) : Int))) true (by ((try simp only [sl2] at *); (try unfold big at *); omega)), .get _ _ _ (@getpk p ((↑i : Int)) ([]) (by ((try simp only [sl2] at *); (try unfold big at *); omega)) i1), tC (eT (nt ha)), tC (eT (nt ha)), .tst (decide (0 ≤ (↑i : Int) ∧ (↑i : Int) < (↑(11 : Nat) : Int))) true (by ((try simp only [sl2] at *); (try unfold big at *); omega)), tC (eT (nt ha)), .getA _ _ _ _ (@getp p ((↑i : Int)) ([]) (by ((try simp only [sl2] at *); (try unfold big at *); omega)) i1), tC (eT (nt ha)), tC (eT (nt ha)), .tst (decide (0 ≤ (↑k : Int) ∧ (↑k : Int) < (↑(11 : Nat) : Int))) true (by ((try simp only [sl2] at *); (try unfold big at *); omega)), tC (eT (nt ha)), .getA _ _ _ _ (@getp p ((↑k : Int)) ([]) (by ((try simp only [sl2] at *); (try unfold big at *); omega)) (by ((try simp only [sl2] at *); (try unfold big at *); omega))), tC (eT (nt ha)), .flat _ _ flat_Place, tC (nt ha), tC (andT hb (andT hc (rfl : true = true)))] (by kernel_rfl)).cast (by rfl) (by rfl)
theorem ap_z (p : PlS) (i k : Nat) (i1 : (i : Int) ≤ 10) (k1 : (k : Int) < (i : Int)) (ha : (p.k (i : Int) == 0) = true)  : RoundRun Tryz.prog (loopB Tryz.f25 1) ⟨[1, 3, 4, 5], [0], []⟩ 1 (uu :: D.ptr false 0 0 :: uu :: .int .i64 (↑i : Int) :: .int .i64 (↑k : Int) :: .int .i64 (↑i : Int) :: un 22) [Ob.box (plC p)] (Ex.norm) (uu :: D.ptr false 0 0 :: uu :: .int .i64 (↑i : Int) :: .int .i64 (IntKind.wrap IntKind.i64 ((↑k : Int) + 1)) :: .int .i64 (↑i : Int) :: un 22) ([Ob.box (plC p)]) := by
 exact (RoundRun.of_eval (sp := ⟨[1, 3, 4, 5], [0], []⟩) (n0 := 1) (ex := Ex.norm) (t' := (uu :: D.ptr false 0 0 :: uu :: .int .i64 (↑i : Int) :: .int .i64 (IntKind.wrap IntKind.i64 ((↑k : Int) + 1)) :: .int .i64 (↑i : Int) :: un 22)) (s' := [Ob.box (plC p)]) mixed ([tC (by ((try simp only [sl2] at *); (try unfold big at *); omega) : (decide ((↑k : Int) < (↑i : Int))) = true), .tst (decide (0 ≤ (↑i : Int) ∧ (↑i : Int) < (↑(11 : Nat) : Int))) true (by ((try simp only [sl2] at *); (try unfold big at *); omega)), .get _ _ _ (@getpk p ((↑i : Int)) ([]) (by ((try simp only [sl2] at *); (try unfold big at *); omega)) i1)] ++ List.replicate 7 (tC (eT (nt (eqI 0 true (eq_of_beq ha))))) ++ [tC (nt (eqI 0 true (eq_of_beq ha))), tF]) (by kernel_rfl)).cast (by rfl) (by rfl)
theorem ap_k (p : PlS) (i k : Nat) (i1 : (i : Int) ≤ 10) (k1 : (k : Int) < (i : Int)) (ha : (p.k (i : Int) == 0) = false) (hb : (p.k (i : Int) == p.k (k : Int)) = false)  : RoundRun Tryz.prog (loopB Tryz.f25 1) ⟨[1, 3, 4, 5], [0], []⟩ 1 (uu :: D.ptr false 0 0 :: uu :: .int .i64 (↑i : Int) :: .int .i64 (↑k : Int) :: .int .i64 (↑i : Int) :: un 22) [Ob.box (plC p)] (Ex.norm) (uu :: D.ptr false 0 0 :: uu :: .int .i64 (↑i : Int) :: .int .i64 (IntKind.wrap IntKind.i64 ((↑k : Int) + 1)) :: .int .i64 (↑i : Int) :: un 22) ([Ob.box (plC p)]) := by
 exact (RoundRun.of_eval (sp := ⟨[1, 3, 4, 5], [0], []⟩) (n0 := 1) (ex := Ex.norm) (t' := (uu :: D.ptr false 0 0 :: uu :: .int .i64 (↑i : Int) :: .int .i64 (IntKind.wrap IntKind.i64 ((↑k : Int) + 1)) :: .int .i64 (↑i : Int) :: un 22)) (s' := [Ob.box (plC p)]) mixed [tC (by ((try simp only [sl2] at *); (try unfold big at *); omega) : (decide ((↑k : Int) < (↑i : Int))) = true), .tst (decide (0 ≤ (↑i : Int) ∧ (↑i : Int) < (↑(11 : Nat) : Int))) true (by ((try simp only [sl2] at *); (try unfold big at *); omega)), .get _ _ _ (@getpk p ((↑i : Int)) ([]) (by ((try simp only [sl2] at *); (try unfold big at *); omega)) i1), tC (eT (nt ha)), tC (eT (nt ha)), .tst (decide (0 ≤ (↑i : Int) ∧ (↑i : Int) < (↑(11 : Nat) : Int))) true (by ((try simp only [sl2] at *); (try unfold big at *); omega)), tC (eT (nt ha)), .getA _ _ _ _ (@getp p ((↑i : Int)) ([]) (by ((try simp only [sl2] at *); (try unfold big at *); omega)) i1), tC (eT (nt ha)), tC (eT (nt ha)), .tst (decide (0 ≤ (↑k : Int) ∧ (↑k : Int) < (↑(11 : Nat) : Int))) true (by ((try simp only [sl2] at *); (try unfold big at *); omega)), tC (eT (nt ha)), .getA _ _ _ _ (@getp p ((↑k : Int)) ([]) (by ((try simp only [sl2] at *); (try unfold big at *); omega)) (by ((try simp only [sl2] at *); (try unfold big at *); omega))), tC (eT (nt ha)), .flat _ _ flat_Place, tC (nt ha), tC (andF (y := eqCells [.int .i8 (PlS.n p (↑i : Int))] [.int .i8 (PlS.n p (↑k : Int))]) hb)] (by kernel_rfl)).cast (by rfl) (by rfl)
theorem ap_n (p : PlS) (i k : Nat) (i1 : (i : Int) ≤ 10) (k1 : (k : Int) < (i : Int)) (ha : (p.k (i : Int) == 0) = false) (hb : (p.k (i : Int) == p.k (k : Int)) = true) (hc : (p.n (i : Int) == p.n (k : Int)) = false)  : RoundRun Tryz.prog (loopB Tryz.f25 1) ⟨[1, 3, 4, 5], [0], []⟩ 1 (uu :: D.ptr false 0 0 :: uu :: .int .i64 (↑i : Int) :: .int .i64 (↑k : Int) :: .int .i64 (↑i : Int) :: un 22) [Ob.box (plC p)] (Ex.norm) (uu :: D.ptr false 0 0 :: uu :: .int .i64 (↑i : Int) :: .int .i64 (IntKind.wrap IntKind.i64 ((↑k : Int) + 1)) :: .int .i64 (↑i : Int) :: un 22) ([Ob.box (plC p)]) := by
 exact (RoundRun.of_eval (sp := ⟨[1, 3, 4, 5], [0], []⟩) (n0 := 1) (ex := Ex.norm) (t' := (uu :: D.ptr false 0 0 :: uu :: .int .i64 (↑i : Int) :: .int .i64 (IntKind.wrap IntKind.i64 ((↑k : Int) + 1)) :: .int .i64 (↑i : Int) :: un 22)) (s' := [Ob.box (plC p)]) mixed [tC (by ((try simp only [sl2] at *); (try unfold big at *); omega) : (decide ((↑k : Int) < (↑i : Int))) = true), .tst (decide (0 ≤ (↑i : Int) ∧ (↑i : Int) < (↑(11 : Nat) : Int))) true (by ((try simp only [sl2] at *); (try unfold big at *); omega)), .get _ _ _ (@getpk p ((↑i : Int)) ([]) (by ((try simp only [sl2] at *); (try unfold big at *); omega)) i1), tC (eT (nt ha)), tC (eT (nt ha)), .tst (decide (0 ≤ (↑i : Int) ∧ (↑i : Int) < (↑(11 : Nat) : Int))) true (by ((try simp only [sl2] at *); (try unfold big at *); omega)), tC (eT (nt ha)), .getA _ _ _ _ (@getp p ((↑i : Int)) ([]) (by ((try simp only [sl2] at *); (try unfold big at *); omega)) i1), tC (eT (nt ha)), tC (eT (nt ha)), .tst (decide (0 ≤ (↑k : Int) ∧ (↑k : Int) < (↑(11 : Nat) : Int))) true (by ((try simp only [sl2] at *); (try unfold big at *); omega)), tC (eT (nt ha)), .getA _ _ _ _ (@getp p ((↑k : Int)) ([]) (by ((try simp only [sl2] at *); (try unfold big at *); omega)) (by ((try simp only [sl2] at *); (try unfold big at *); omega))), tC (eT (nt ha)), .flat _ _ flat_Place, tC (nt ha), tC (andT hb (andF (y := true) hc))] (by kernel_rfl)).cast (by rfl) (by rfl)
end Go.Proofs.YtkpneibifdoecaaGreat

namespace Go.Ev
open Go
end Go.Ev

namespace Go.Ev
open Go
def topM (v w : Int) : Bool := IntKind.u64.wrap ((BitVec.ofInt 64 (v.fdiv (2 ^ (min (IntKind.i8.wrap (w - 1)).toNat 64))) &&& BitVec.ofInt 64 1).toNat : Int) == 1
end Go.Ev

namespace Go.Ev
open Go
def EqBut (o : Int) (r r' : RgS) : Prop := ∀ k, 0 ≤ k → k ≤ 10 → k ≠ o → r.get k = r'.get k
end Go.Ev

namespace Go.Ev
open Go
def atM (m : MachS) (s : List Int) (k n : Int) : Int := if k = 1 then rg m.rl n else if k = 2 then s.getD n.toNat 0 else 0
theorem rg_put {m : MachS} {i v : Int} : ∀ j : Int, 0 ≤ j → j ≤ 15 → rg (m.put i v).rl j = if i = j then v else rg m.rl j := by
 refine cases16 ?_ ?_ ?_ ?_ ?_ ?_ ?_ ?_ ?_ ?_ ?_ ?_ ?_ ?_ ?_ ?_ <;> rfl
theorem may_all {op w dst src base disp imm cc : Int} (hd : 0 ≤ dst ∧ dst ≤ 15) (hs : 0 ≤ src ∧ src ≤ 15) (hb : 0 ≤ base ∧ base ≤ 15) (hp : -2147483648 ≤ disp ∧ disp ≤ 2147483647) (hi : -2147483648 ≤ imm ∧ imm ≤ 2147483647) (h : mayS (shapeM op) w dst src base disp imm cc = true) : mayX op w dst src base disp imm cc = true := by
 unfold mayX regM
 rw [decide_eq_true hd, decide_eq_true hs, decide_eq_true hb, decide_eq_true hp, decide_eq_true hi, h]
 rfl
section
variable {m : MachS} {s : List Int} {t : List XS}
theorem done_put {dst n : Int} (hd : 0 ≤ dst ∧ dst ≤ 15) (hn : 0 ≤ n ∧ n ≤ 2147483647) : ∃ p, doneM (putX dst n :: t) m s = doneM t ((m.at p).put dst n) s := by
 have hm : mayX 1 32 dst 0 0 0 n 0 = true := may_all hd (by decide) (by decide) (by decide) ⟨by omega, hn.2⟩ (by rfl)
 have he : execS m (putX dst n) 0 = ((m.at (u64 (m.pc + u64 (XS.len (putX dst n))))).put dst n, 0) := by
  rw [execS_may (x := putX dst n) hm]
  have : cutM (u64 n) 32 = n := by
   show u64 n % 4294967296 = n
   unfold u64; rw [w_u64]; omega
  show ((m.at _).put dst (cutM (u64 n) 32), (0 : Int)) = _
  rw [this]
 refine ⟨u64 (m.pc + u64 (XS.len (putX dst n))), ?_⟩
 rw [doneM, if_neg (by show ¬ ((1 : Int) = 31 ∨ (1 : Int) = 30); decide), if_neg (by show ¬ ((1 : Int) = 26 ∨ (1 : Int) = 27); decide)]
 unfold execE execM
 rw [he, if_pos rfl]
theorem done_mov {dst src : Int} (hd : 0 ≤ dst ∧ dst ≤ 15) (hs : 0 ≤ src ∧ src ≤ 15) : ∃ p, doneM (⟨0, 64, dst, src, 0, 0, 0, 0⟩ :: t) m s = doneM t ((m.at p).put dst (rg m.rl src)) s := by
 have hm : mayX 0 64 dst src 0 0 0 0 = true := may_all hd hs (by decide) (by decide) (by decide) (by rfl)
 have he : execS m ⟨0, 64, dst, src, 0, 0, 0, 0⟩ 0 = ((m.at (u64 (m.pc + u64 (XS.len ⟨0, 64, dst, src, 0, 0, 0, 0⟩)))).put dst (rg m.rl src), 0) := by
  rw [execS_may (x := ⟨0, 64, dst, src, 0, 0, 0, 0⟩) hm]
  rfl
 refine ⟨u64 (m.pc + u64 (XS.len ⟨0, 64, dst, src, 0, 0, 0, 0⟩)), ?_⟩
 rw [doneM, if_neg (by show ¬ ((0 : Int) = 31 ∨ (0 : Int) = 30); decide), if_neg (by show ¬ ((0 : Int) = 26 ∨ (0 : Int) = 27); decide)]
 unfold execE execM
 rw [he, if_pos rfl]
theorem slot_ok {op dst src n : Int} (hl : s.length = 11) (hn : 0 ≤ n ∧ n < 11) : slotOk ⟨op, 64, dst, src, 4, 8 * n, 0, 0⟩ s.length = true ∧ (8 * n / 8) = n := by
 refine ⟨?_, by omega⟩
 unfold slotOk
 rw [decide_eq_true_eq]
 simp only [hl]
 refine ⟨trivial, trivial, ?_, ?_, ?_⟩ <;> omega
theorem done_load {dst n : Int} (hd : 0 ≤ dst ∧ dst ≤ 15) (hn : 0 ≤ n ∧ n < 11) (hl : s.length = 11) : ∃ p, doneM (⟨26, 64, dst, 0, 4, 8 * n, 0, 0⟩ :: t) m s = doneM t ((m.at p).put dst (s.getD n.toNat 0)) s := by
 obtain ⟨h1, h2⟩ := slot_ok (op := 26) (dst := dst) (src := 0) hl hn
 have hm : mayX 26 64 dst 0 4 (8 * n) 0 0 = true := may_all hd (by decide) (by decide) ⟨by omega, by omega⟩ (by decide) (by rfl)
 have he : ∀ v, execS m ⟨26, 64, dst, 0, 4, 8 * n, 0, 0⟩ v = ((m.at (u64 (m.pc + u64 (XS.len ⟨26, 64, dst, 0, 4, 8 * n, 0, 0⟩)))).put dst v, 0) := by
  intro v
  rw [execS_may (by exact hm)]
  rfl
 refine ⟨u64 (m.pc + u64 (XS.len ⟨26, 64, dst, 0, 4, 8 * n, 0, 0⟩)), ?_⟩
 rw [doneM, if_neg (by show ¬ ((26 : Int) = 31 ∨ (26 : Int) = 30); decide), if_pos (by show ((26 : Int) = 26 ∨ (26 : Int) = 27); decide), if_pos h1]
 unfold execE execM
 simp only [h2, he]
 rfl
theorem done_store {src n : Int} (hs : 0 ≤ src ∧ src ≤ 15) (hn : 0 ≤ n ∧ n < 11) (hl : s.length = 11) : ∃ p, doneM (storeX src n :: t) m s = doneM t (m.at p) (s.set n.toNat (rg m.rl src)) := by
 obtain ⟨h1, h2⟩ := slot_ok (op := 27) (dst := 0) (src := src) hl hn
 have hm : mayX 27 64 0 src 4 (8 * n) 0 0 = true := may_all (by decide) hs (by decide) ⟨by omega, by omega⟩ (by decide) (by rfl)
 have he : ∀ v, execS m (storeX src n) v = (m.at (u64 (m.pc + u64 (XS.len (storeX src n)))), 0) := by
  intro v
  rw [execS_may (by exact hm)]
  rfl
 refine ⟨u64 (m.pc + u64 (XS.len (storeX src n))), ?_⟩
 rw [doneM, if_neg (by show ¬ ((27 : Int) = 31 ∨ (27 : Int) = 30); decide), if_pos (by show ((27 : Int) = 26 ∨ (27 : Int) = 27); decide), if_pos h1]
 unfold execE execM slotPut
 simp only [h2, he]
 rfl
structure Keeps (m : MachS) (s : List Int) (m' : MachS) (s' : List Int) (k n : Int) : Prop where
  len : s'.length = s.length
  sp : rg m'.rl 4 = rg m.rl 4
  at_ : ∀ k' n', plOK k' n' = true → ¬ (k' = k ∧ n' = n) → atM m' s' k' n' = atM m s k' n'
theorem home_rg {k n : Int} (h : plOK k n = true) (hk : k = 1) : (n = 3 ∨ n = 9 ∨ n = 6 ∨ n = 7 ∨ n = 8 ∨ n = 10) := by
 rcases plOK_form h with q | q | q <;> omega
theorem slot_rg {k n : Int} (h : plOK k n = true) (hk : k = 2) : 0 ≤ n ∧ n < 11 := by
 rcases plOK_form h with q | q | q <;> omega
theorem keeps_put {p i v : Int} (hi : i = 0 ∨ i = 1 ∨ i = 2 ∨ i = 11) : Keeps m s ((m.at p).put i v) s 3 0 := by
 refine ⟨rfl, ?_, fun k' n' hp hne => ?_⟩
 ·rw [rg_put 4 (by decide) (by decide), if_neg (by omega)]; rfl
 ·unfold atM
  by_cases h1 : k' = 1
  ·have := home_rg hp h1
   rw [if_pos h1, if_pos h1, rg_put n' (by omega) (by omega), if_neg (by omega)]; rfl
  ·rw [if_neg h1, if_neg h1]
theorem keeps_home {p n v : Int} (hn : plOK 1 n = true) : Keeps m s ((m.at p).put n v) s 1 n ∧ atM ((m.at p).put n v) s 1 n = v := by
 have hh := home_rg hn rfl
 refine ⟨⟨rfl, ?_, fun k' n' hp hne => ?_⟩, ?_⟩
 ·rw [rg_put 4 (by decide) (by decide), if_neg (by omega)]; rfl
 ·unfold atM
  by_cases h1 : k' = 1
  ·have := home_rg hp h1
   rw [if_pos h1, if_pos h1, rg_put n' (by omega) (by omega), if_neg (by omega)]; rfl
  ·rw [if_neg h1, if_neg h1]
 ·unfold atM
  rw [if_pos rfl, rg_put n (by omega) (by omega), if_pos rfl]
theorem keeps_slot {p n v : Int} (hl : s.length = 11) (hn : 0 ≤ n ∧ n < 11) : Keeps m s (m.at p) (s.set n.toNat v) 2 n ∧ atM (m.at p) (s.set n.toNat v) 2 n = v := by
 refine ⟨⟨by simp, rfl, fun k' n' hp hne => ?_⟩, ?_⟩
 ·unfold atM
  by_cases h1 : k' = 1
  ·rw [if_pos h1, if_pos h1]; rfl
  ·rw [if_neg h1, if_neg h1]
   by_cases h2 : k' = 2
   ·have := slot_rg hp h2
    rw [if_pos h2, if_pos h2, List.getD_eq_getElem?_getD, List.getD_eq_getElem?_getD, List.getElem?_set_ne (by omega)]
   ·rw [if_neg h2, if_neg h2]
 ·unfold atM
  rw [if_neg (by decide), if_pos rfl, List.getD_eq_getElem?_getD, List.getElem?_set_self (by omega)]
  rfl
theorem Keeps.trans {m1 m2 : MachS} {s1 s2 : List Int} {k n : Int} (h1 : Keeps m s m1 s1 3 0) (h2 : Keeps m1 s1 m2 s2 k n) : Keeps m s m2 s2 k n := by
 refine ⟨h2.len.trans h1.len, h2.sp.trans h1.sp, fun k' n' hp hne => (h2.at_ k' n' hp hne).trans (h1.at_ k' n' hp ?_)⟩
 rintro ⟨e, _⟩
 rcases plOK_form hp with q | q | q <;> omega
theorem done_set {v k n : Int} (hp : plOK k n = true) (hv : 0 ≤ v ∧ v ≤ 2147483647) (hl : s.length = 11) : ∃ m' s', doneM (setX v k n ++ t) m s = doneM t m' s' ∧ Keeps m s m' s' k n ∧ (k ≠ 0 → atM m' s' k n = v) := by
 unfold setX
 by_cases h2 : k = 2
 ·subst h2
  have hn := slot_rg hp rfl
  rw [if_pos rfl]
  obtain ⟨p1, e1⟩ := done_put (m := m) (s := s) (t := storeX 0 n :: t) (dst := 0) (n := v) (by decide) hv
  obtain ⟨p2, e2⟩ := done_store (m := (m.at p1).put 0 v) (s := s) (t := t) (src := 0) (by decide) hn hl
  obtain ⟨k2, a2⟩ := keeps_slot (m := (m.at p1).put 0 v) (p := p2) (v := rg ((m.at p1).put 0 v).rl 0) hl hn
  refine ⟨_, _, e1.trans e2, (keeps_put (.inl rfl)).trans k2, fun _ => a2.trans ?_⟩
  rw [rg_put 0 (by decide) (by decide), if_pos rfl]
 ·rw [if_neg h2]
  by_cases h1 : k = 1
  ·subst h1
   have hh := home_rg hp rfl
   rw [if_pos rfl]
   obtain ⟨p1, e1⟩ := done_put (m := m) (s := s) (t := t) (dst := n) (n := v) (by omega) hv
   obtain ⟨k1, a1⟩ := keeps_home (m := m) (s := s) (p := p1) (v := v) hp
   exact ⟨_, _, e1, k1, fun _ => a1⟩
  ·rw [if_neg h1]
   refine ⟨m, s, rfl, ⟨rfl, rfl, fun _ _ _ _ => rfl⟩, fun h0 => ?_⟩
   rcases plOK_form hp with q | q | q <;> omega
theorem done_into {to k n : Int} (hi : to = 0 ∨ to = 1 ∨ to = 2 ∨ to = 11) (hp : plOK k n = true) (hl : s.length = 11) : ∃ p, doneM (intoX to k n :: t) m s = doneM t ((m.at p).put to (atM m s k n)) s := by
 unfold intoX atM
 by_cases h1 : k = 1
 ·have hh := home_rg hp h1
  rw [if_pos h1, if_pos h1]
  exact done_mov (by omega) (by omega)
 ·rw [if_neg h1, if_neg h1]
  by_cases h2 : k = 2
  ·have hh := slot_rg hp h2
   rw [if_pos h2, if_pos h2]
   exact done_load (by omega) hh hl
  ·rw [if_neg h2, if_neg h2]
   exact done_put (by omega) (by decide)
theorem done_sub {n : Int} (hn : 0 ≤ n ∧ n ≤ 2147483647) : ∃ m', doneM (⟨12, 64, 4, 0, 0, 0, n, 0⟩ :: t) m s = doneM t m' s ∧ rg m'.rl 4 = u64 (rg m.rl 4 - n) ∧ ∀ k' n', plOK k' n' = true → atM m' s k' n' = atM m s k' n' := by
 have hm : mayX 12 64 4 0 0 0 n 0 = true := may_all (by decide) (by decide) (by decide) (by decide) ⟨by omega, hn.2⟩ (by rfl)
 obtain ⟨q, he⟩ : ∃ q : MachS, execS m ⟨12, 64, 4, 0, 0, 0, n, 0⟩ 0 = (q.put 4 (doM 1 64 (rg m.rl 4) (u64 n)), 0) ∧ q.rl = m.rl := ⟨flagS (m.at (u64 (m.pc + u64 (XS.len ⟨12, 64, 4, 0, 0, 0, n, 0⟩)))) 1 64 (rg m.rl 4) (u64 n) (doM 1 64 (rg m.rl 4) (u64 n)), by rw [execS_may (by exact hm)]; rfl, rfl⟩
 have hu : u64 n = n := by unfold u64; rw [w_u64]; omega
 refine ⟨q.put 4 (doM 1 64 (rg m.rl 4) (u64 n)), ?_, ?_, fun k' n' hp => ?_⟩
 ·rw [doneM, if_neg (by show ¬ ((12 : Int) = 31 ∨ (12 : Int) = 30); decide), if_neg (by show ¬ ((12 : Int) = 26 ∨ (12 : Int) = 27); decide)]
  unfold execE execM
  rw [he.1, if_pos rfl]
 ·rw [rg_put 4 (by decide) (by decide), if_pos rfl, hu]
  rfl
 ·unfold atM
  by_cases h1 : k' = 1
  ·have := home_rg hp h1
   rw [if_pos h1, if_pos h1, rg_put n' (by omega) (by omega), if_neg (by omega), he.2]
  ·rw [if_neg h1, if_neg h1]
theorem done_add {n : Int} (hn : 0 ≤ n ∧ n ≤ 2147483647) : ∃ m', doneM (⟨9, 64, 4, 0, 0, 0, n, 0⟩ :: t) m s = doneM t m' s ∧ rg m'.rl 4 = u64 (rg m.rl 4 + n) ∧ rg m'.rl 0 = rg m.rl 0 := by
 have hm : mayX 9 64 4 0 0 0 n 0 = true := may_all (by decide) (by decide) (by decide) (by decide) ⟨by omega, hn.2⟩ (by rfl)
 obtain ⟨q, he⟩ : ∃ q : MachS, execS m ⟨9, 64, 4, 0, 0, 0, n, 0⟩ 0 = (q.put 4 (doM 0 64 (rg m.rl 4) (u64 n)), 0) ∧ q.rl = m.rl := ⟨flagS (m.at (u64 (m.pc + u64 (XS.len ⟨9, 64, 4, 0, 0, 0, n, 0⟩)))) 0 64 (rg m.rl 4) (u64 n) (doM 0 64 (rg m.rl 4) (u64 n)), by rw [execS_may (by exact hm)]; rfl, rfl⟩
 have hu : u64 n = n := by unfold u64; rw [w_u64]; omega
 refine ⟨q.put 4 (doM 0 64 (rg m.rl 4) (u64 n)), ?_, ?_, ?_⟩
 ·rw [doneM, if_neg (by show ¬ ((9 : Int) = 31 ∨ (9 : Int) = 30); decide), if_neg (by show ¬ ((9 : Int) = 26 ∨ (9 : Int) = 27); decide)]
  unfold execE execM
  rw [he.1, if_pos rfl]
 ·rw [rg_put 4 (by decide) (by decide), if_pos rfl, hu]
  rfl
 ·rw [rg_put 0 (by decide) (by decide), if_neg (by decide), he.2]
end
theorem PlS.spU_le {p : PlS} (h : p.may = true) : ∀ i, i ≤ 11 → 0 ≤ p.spU i ∧ p.spU i ≤ 11
 | 0, _ => by simp [PlS.spU]
 | i + 1, hi => by
  have ih := PlS.spU_le h i (by omega)
  rw [PlS.spU]
  split
  ·rename_i hk
   have := slot_rg (PlS.may_at h (i := (i : Int)) (by omega) (by omega)) hk
   split <;> omega
  ·exact ih
theorem done_pro {p : PlS} (h : p.may = true) (ha : p.apart = true) (m : MachS) (s : List Int) (hl : s.length = 11) : ∃ m' s', doneM (proX p) m s = (m', s', true) ∧ s'.length = 11 ∧ rg m'.rl 4 = (if p.sp > 0 then u64 (rg m.rl 4 - 8 * p.sp) else rg m.rl 4) ∧ (p.k 1 ≠ 0 → atM m' s' (p.k 1) (p.n 1) = 2097152) ∧ (p.k 10 ≠ 0 → atM m' s' (p.k 10) (p.n 10) = 3145792) := by
 have hsp := PlS.spU_le h 11 (Nat.le_refl _)
 have o1 : plOK (p.k 1) (p.n 1) = true := PlS.may_at h (by decide) (by decide)
 have o10 : plOK (p.k 10) (p.n 10) = true := PlS.may_at h (by decide) (by decide)
 obtain ⟨m1, e1, r1⟩ : ∃ m1, doneM (proX p) m s = doneM (setX 2097152 (p.k 1) (p.n 1) ++ (setX 3145792 (p.k 10) (p.n 10) ++ [])) m1 s ∧ rg m1.rl 4 = (if p.sp > 0 then u64 (rg m.rl 4 - 8 * p.sp) else rg m.rl 4) := by
  unfold proX
  rw [List.append_nil]
  by_cases hz : p.sp > 0
  ·rw [if_pos hz, if_pos hz]
   obtain ⟨m1, e, r, _⟩ := done_sub (m := m) (s := s) (t := setX 2097152 (p.k 1) (p.n 1) ++ setX 3145792 (p.k 10) (p.n 10)) (n := 8 * p.sp) ⟨by unfold PlS.sp at *; omega, by unfold PlS.sp; omega⟩
   exact ⟨m1, e, r⟩
  ·rw [if_neg hz, if_neg hz]
   exact ⟨m, rfl, rfl⟩
 obtain ⟨m2, s2, e2, k2, a2⟩ := done_set (m := m1) (s := s) (t := setX 3145792 (p.k 10) (p.n 10) ++ []) (v := 2097152) o1 (by decide) hl
 obtain ⟨m3, s3, e3, k3, a3⟩ := done_set (m := m2) (s := s2) (t := []) (v := 3145792) o10 (by decide) (k2.len.trans hl)
 refine ⟨m3, s3, (e1.trans (e2.trans e3)), k3.len.trans (k2.len.trans hl), (k3.sp.trans k2.sp).trans r1, fun hk => ?_, a3⟩
 rw [k3.at_ _ _ o1 (PlS.apart_ne ha (by decide) (by decide) (by decide) (by decide) (by decide) hk)]
 exact a2 hk
theorem done_exit {p : PlS} (h : p.may = true) (m : MachS) (s : List Int) (hl : s.length = 11) : ∃ m', doneM (exitX p) m s = (m', s, true) ∧ rg m'.rl 0 = atM m s (p.k 0) (p.n 0) ∧ rg m'.rl 4 = (if p.sp > 0 then u64 (rg m.rl 4 + 8 * p.sp) else rg m.rl 4) := by
 have hsp := PlS.spU_le h 11 (Nat.le_refl _)
 have o0 : plOK (p.k 0) (p.n 0) = true := PlS.may_at h (by decide) (by decide)
 unfold exitX
 obtain ⟨q, e1⟩ := done_into (m := m) (s := s) (to := 0) (t := (if p.sp > 0 then [⟨9, 64, 4, 0, 0, 0, 8 * p.sp, 0⟩] else []) ++ [⟨30, 0, 0, 0, 0, 0, 0, 0⟩]) (.inl rfl) o0 hl
 have r0 : rg ((m.at q).put 0 (atM m s (p.k 0) (p.n 0))).rl 0 = atM m s (p.k 0) (p.n 0) := by rw [rg_put 0 (by decide) (by decide), if_pos rfl]
 have r4 : rg ((m.at q).put 0 (atM m s (p.k 0) (p.n 0))).rl 4 = rg m.rl 4 := by rw [rg_put 4 (by decide) (by decide), if_neg (by decide)]; rfl
 have ret : ∀ m' : MachS, doneM [⟨30, 0, 0, 0, 0, 0, 0, 0⟩] m' s = (m', s, true) := by
  intro m'
  rw [doneM, if_pos (by show ((30 : Int) = 31 ∨ (30 : Int) = 30); decide)]
 by_cases hz : p.sp > 0
 ·rw [if_pos hz] at e1 ⊢
  rw [if_pos hz]
  obtain ⟨m2, e2, r2, q2⟩ := done_add (m := (m.at q).put 0 (atM m s (p.k 0) (p.n 0))) (s := s) (t := [⟨30, 0, 0, 0, 0, 0, 0, 0⟩]) (n := 8 * p.sp) ⟨by unfold PlS.sp at *; omega, by unfold PlS.sp; omega⟩
  exact ⟨m2, e1.trans (e2.trans (ret m2)), q2.trans r0, by rw [r2, r4]⟩
 ·rw [if_neg hz] at e1 ⊢
  rw [if_neg hz]
  exact ⟨_, e1.trans (ret _), r0, r4⟩
end Go.Ev

namespace Go.Proofs.YtkpneibifdoecaaGreat
open Go Go.Ev
set_option maxRecDepth 100000
theorem of_id {n0 : Nat} {c : Code} {t : List D} {s : List Ob} {ex : Ex} {t' : List D} {s' : List Ob} (h : LoopRun Tryz.prog n0 c t s ex t' s') : LoopRun Tryz.prog n0 c t s ex t' s' := h
theorem succ_i (i : Nat) (h : (i : Int) ≤ 10) : IntKind.i64.wrap ((i : Int) + 1) = ((i + 1 : Nat) : Int) := by rw [w_i64]; omega
theorem ok_cases (k n : Int) : (plOK k n = true ∧ ((k = 0 ∧ n = 0) ∨ (k = 1 ∧ homeP 1 n = true) ∨ (k = 2 ∧ 0 ≤ n ∧ n < 11))) ∨ (plOK k n = false ∧ ((k = 0 ∧ n ≠ 0) ∨ (k = 1 ∧ homeP 1 n = false) ∨ (k = 2 ∧ n < 0) ∨ (k = 2 ∧ 11 ≤ n) ∨ (k ≠ 0 ∧ k ≠ 1 ∧ k ≠ 2))) := by
 by_cases h0 : k = 0
 ·subst h0
  by_cases hn : n = 0
  ·subst hn; exact .inl ⟨rfl, .inl ⟨rfl, rfl⟩⟩
  ·exact .inr ⟨by unfold plOK homeP; simp [hn], .inl ⟨rfl, hn⟩⟩
 by_cases h1 : k = 1
 ·subst h1
  cases hh : homeP 1 n
  ·exact .inr ⟨by unfold plOK; rw [hh]; simp, .inr (.inl ⟨rfl, rfl⟩)⟩
  ·exact .inl ⟨by unfold plOK; rw [hh]; simp, .inr (.inl ⟨rfl, rfl⟩)⟩
 by_cases h2 : k = 2
 ·subst h2
  by_cases hn : n < 0
  ·exact .inr ⟨by unfold plOK homeP; simp; omega, .inr (.inr (.inl ⟨rfl, hn⟩))⟩
  ·by_cases hm : 11 ≤ n
   ·exact .inr ⟨by unfold plOK homeP; simp; omega, .inr (.inr (.inr (.inl ⟨rfl, hm⟩)))⟩
   ·exact .inl ⟨by unfold plOK homeP; simp; omega, .inr (.inr ⟨rfl, by omega, by omega⟩)⟩
 ·exact .inr ⟨by unfold plOK homeP; simp [h0, h1, h2], .inr (.inr (.inr (.inr ⟨h0, h1, h2⟩)))⟩
theorem home_no {k n : Int} (h : k ≠ 1) : homeP k n = false := by unfold homeP; simp [h]
abbrev pmT (p : PlS) (i : Int) : List D := [.undef, .undef, .undef, .undef, .undef, .agg (plC p), .int .i64 i, .undef, .undef, .undef, .undef, .undef, .undef, .undef, .undef, .undef, .undef, .undef, .undef, .undef, .undef, .undef, .undef, .undef, .undef, .undef, .undef, .undef, .undef, .undef, .undef, .undef, .undef, .undef]
abbrev pmU : List D := [.undef, .undef, .undef, .undef, .undef, .undef, .undef, .undef, .undef, .undef, .undef, .undef, .undef, .undef, .undef, .undef, .undef, .undef, .undef, .undef, .undef, .undef, .undef, .undef, .undef, .undef, .undef, .undef, .undef, .undef, .undef, .undef, .undef, .undef]
abbrev pmR : List D := [.undef, .undef, .bool false, .undef, .undef, .undef, .undef, .undef, .undef, .undef, .undef, .undef, .undef, .undef, .undef, .undef, .undef, .undef, .undef, .undef, .undef, .undef, .undef, .undef, .undef, .undef, .undef, .undef, .undef, .undef, .undef, .undef, .undef, .undef]
theorem pm_rounds (p : PlS) : ∀ (m i : Nat), i + m = 11 →
  Rounds Tryz.prog (loopB Tryz.f28 0) 1 (pmT p i) [.dead] (if p.mayU m i = true then .exit 0 else .ret) (if p.mayU m i = true then pmU else pmR) [.dead]
 | 0, i, hi => by
  obtain rfl : i = 11 := by omega
  exact Rounds.last (pm_done p) (fun h => by cases h)
 | m + 1, i, hi => by
  have ih := pm_rounds p m (i + 1) (by omega)
  have i1 : (i : Int) ≤ 10 := by omega
  have hw := succ_i i i1
  rw [PlS.mayU]
  unfold PlS.okAt
  rcases ok_cases (p.k i) (p.n i) with ⟨e, h⟩ | ⟨e, h⟩
  ·rw [e, Bool.true_and]
   have this : RoundRun Tryz.prog (loopB Tryz.f28 0) ⟨[5, 6], [], []⟩ 1 (pmT p i) [.dead] .norm (pmT p (IntKind.i64.wrap ((i : Int) + 1))) [.dead] := by
    rcases h with ⟨h1, h2⟩ | ⟨h1, h2⟩ | ⟨h1, h2, h3⟩
    ·exact pm_zero p i i1 (by simp [h1]) (by simp [h2])
    ·exact pm_home p i i1 (by simp [h1]) (by rw [h1]; exact h2)
    ·exact pm_slot p i i1 (by simp [h1]) (home_no (by omega)) h2 h3
   rw [hw] at this
   exact Rounds.more this ih
  ·rw [e, Bool.false_and]
   refine Rounds.last (sp := ⟨[2], [], []⟩) ?_ (fun h => by cases h)
   rcases h with ⟨h1, h2⟩ | ⟨h1, h2⟩ | ⟨h1, h2⟩ | ⟨h1, h2⟩ | ⟨h1, h2, h3⟩
   ·exact pm_b0 p i i1 (by simp [h1]) (by simpa using h2) (home_no (by omega))
   ·exact pm_b1 p i i1 (by simp [h1]) (by rw [h1]; exact h2)
   ·exact pm_b2 p i i1 (by simp [h1]) (home_no (by omega)) h2
   ·exact pm_b3 p i i1 (by simp [h1]) (home_no (by omega)) h2
   ·exact pm_b4 p i i1 (by simpa using h1) (by simpa using h3) (home_no h2)
theorem pm_loop (p : PlS) : LoopRun Tryz.prog 1 (.loop (loopB Tryz.f28 0)) (pmT p 0) [.dead] (if p.may = true then .exit 0 else .ret) (if p.may = true then pmU else pmR) [.dead] :=
 LoopRun.of_rounds (Nat.le_refl _) (pm_rounds p 11 0 rfl)
theorem pm_yes (p : PlS) (h : p.may = true) : LoopRun Tryz.prog 1 (.loop (loopB Tryz.f28 0)) (pmT p 0) [.dead] (.exit 0) pmU [.dead] := by
 have := pm_loop p
 rw [h] at this
 exact this
theorem pm_no (p : PlS) (h : p.may = false) : LoopRun Tryz.prog 1 (.loop (loopB Tryz.f28 0)) (pmT p 0) [.dead] .ret pmR [.dead] := by
 have := pm_loop p
 rw [h] at this
 exact this
abbrev rmT (i : Int) : List D := [.undef, .ptr false 0 0, .undef, .int .i64 i, .undef, .undef, .undef, .undef, .undef, .undef, .undef, .undef, .undef, .undef, .undef, .undef, .undef, .undef, .undef, .undef, .undef, .undef, .undef, .undef, .undef, .undef, .undef, .undef, .undef, .undef, .undef, .undef, .undef, .undef, .undef, .undef, .undef, .undef, .undef, .undef, .undef, .undef]
abbrev rmU : List D := [.undef, .undef, .undef, .undef, .undef, .undef, .undef, .undef, .undef, .undef, .undef, .undef, .undef, .undef, .undef, .undef, .undef, .undef, .undef, .undef, .undef, .undef, .undef, .undef, .undef, .undef, .undef, .undef, .undef, .undef, .undef, .undef, .undef, .undef, .undef, .undef, .undef, .undef, .undef, .undef, .undef, .undef]
abbrev rmR : List D := [.undef, .undef, .bool false, .undef, .undef, .undef, .undef, .undef, .undef, .undef, .undef, .undef, .undef, .undef, .undef, .undef, .undef, .undef, .undef, .undef, .undef, .undef, .undef, .undef, .undef, .undef, .undef, .undef, .undef, .undef, .undef, .undef, .undef, .undef, .undef, .undef, .undef, .undef, .undef, .undef, .undef, .undef]
theorem rm_rounds (p : PlS) : ∀ (m i : Nat), i + m = 11 →
  Rounds Tryz.prog (loopB Tryz.f23 0) 1 (rmT i) [.box (plC p)] (if p.mayU m i = true then .exit 0 else .ret) (if p.mayU m i = true then rmU else rmR) [.box (plC p)]
 | 0, i, hi => by
  obtain rfl : i = 11 := by omega
  exact Rounds.last (rm_done p) (fun h => by cases h)
 | m + 1, i, hi => by
  have ih := rm_rounds p m (i + 1) (by omega)
  have i1 : (i : Int) ≤ 10 := by omega
  have hw := succ_i i i1
  rw [PlS.mayU]
  unfold PlS.okAt
  rcases ok_cases (p.k i) (p.n i) with ⟨e, h⟩ | ⟨e, h⟩
  ·rw [e, Bool.true_and]
   have this : RoundRun Tryz.prog (loopB Tryz.f23 0) ⟨[1, 3], [0], []⟩ 1 (rmT i) [.box (plC p)] .norm (rmT (IntKind.i64.wrap ((i : Int) + 1))) [.box (plC p)] := by
    rcases h with ⟨h1, h2⟩ | ⟨h1, h2⟩ | ⟨h1, h2, h3⟩
    ·exact rm_zero p i i1 (by simp [h1]) (by simp [h2])
    ·exact rm_home p i i1 (by simp [h1]) h2
    ·exact rm_slot p i i1 (by simp [h1]) h2 h3
   rw [hw] at this
   exact Rounds.more this ih
  ·rw [e, Bool.false_and]
   refine Rounds.last (sp := ⟨[2], [0], []⟩) ?_ (fun h => by cases h)
   rcases h with ⟨h1, h2⟩ | ⟨h1, h2⟩ | ⟨h1, h2⟩ | ⟨h1, h2⟩ | ⟨h1, h2, h3⟩
   ·exact rm_b0 p i i1 (by simp [h1]) (by simpa using h2)
   ·exact rm_b1 p i i1 (by simp [h1]) h2
   ·exact rm_b2 p i i1 (by simp [h1]) h2
   ·exact rm_b3 p i i1 (by simp [h1]) h2
   ·exact rm_b4 p i i1 (by simpa using h1) (by simpa using h3) (by simpa using h2)
theorem rm_loop (p : PlS) : LoopRun Tryz.prog 1 (.loop (loopB Tryz.f23 0)) (rmT 0) [.box (plC p)] (if p.may = true then .exit 0 else .ret) (if p.may = true then rmU else rmR) [.box (plC p)] :=
 LoopRun.of_rounds (Nat.le_refl _) (rm_rounds p 11 0 rfl)
theorem rm_yes (p : PlS) (h : p.may = true) : LoopRun Tryz.prog 1 (.loop (loopB Tryz.f23 0)) (rmT 0) [.box (plC p)] (.exit 0) rmU [.box (plC p)] := by
 have := rm_loop p
 rw [h] at this
 exact this
theorem rm_no (p : PlS) (h : p.may = false) : LoopRun Tryz.prog 1 (.loop (loopB Tryz.f23 0)) (rmT 0) [.box (plC p)] .ret rmR [.box (plC p)] := by
 have := rm_loop p
 rw [h] at this
 exact this
abbrev spT (p : PlS) (m i : Int) : List D := [.undef, .undef, .undef, .int .i64 m, .undef, .undef, .agg (plC p), .int .i64 i, .undef, .undef, .undef, .undef, .undef, .undef, .undef, .undef, .undef, .undef, .undef, .undef, .undef]
abbrev spR (m : Int) : List D := [.undef, .undef, .undef, .int .i64 m, .undef, .undef, .undef, .undef, .undef, .undef, .undef, .undef, .undef, .undef, .undef, .undef, .undef, .undef, .undef, .undef, .undef]
theorem sp_rounds (p : PlS) (h : p.may = true) : ∀ (m i : Nat), i + m = 11 →
  Rounds Tryz.prog (loopB Tryz.f29 0) 1 (spT p (p.spU i) i) [.dead] (.exit 0) (spR (p.spU 11)) [.dead]
 | 0, i, hi => by
  obtain rfl : i = 11 := by omega
  exact Rounds.last (sp_done p (p.spU 11)) (fun h => by cases h)
 | m + 1, i, hi => by
  have ih := sp_rounds p h m (i + 1) (by omega)
  have i1 : (i : Int) ≤ 10 := by omega
  have hw := succ_i i i1
  obtain ⟨m0, m1⟩ := PlS.spU_le h i (by omega)
  rw [PlS.spU] at ih
  by_cases hk : p.k i = 2
  ·have hn := slot_rg (PlS.may_at h (i := (i : Int)) (by omega) i1) hk
   have := sp_slot p (p.spU i) m0 m1 i i1 (by simp [hk]) hn.1 hn.2
   have e : IntKind.i64.wrap (IntKind.i64.wrap (p.n i) + 1) = p.n i + 1 := by rw [w_i64, w_i64]; omega
   rw [hw, e] at this
   rw [if_pos hk] at ih
   exact Rounds.more this ih
  ·have := sp_else p (p.spU i) m0 m1 i i1 (by simpa using hk)
   rw [hw] at this
   rw [if_neg hk] at ih
   exact Rounds.more this ih
theorem sp_loop (p : PlS) (h : p.may = true) : LoopRun Tryz.prog 1 (.loop (loopB Tryz.f29 0)) (spT p 0 0) [.dead] (.exit 0) (spR p.sp) [.dead] :=
 LoopRun.of_rounds (Nat.le_refl _) (sp_rounds p h 11 0 rfl)
abbrev aiT (i k : Int) : List D := [.undef, .ptr false 0 0, .undef, .int .i64 i, .int .i64 k, .int .i64 i, .undef, .undef, .undef, .undef, .undef, .undef, .undef, .undef, .undef, .undef, .undef, .undef, .undef, .undef, .undef, .undef, .undef, .undef, .undef, .undef, .undef, .undef]
abbrev aiU (i : Int) : List D := [.undef, .ptr false 0 0, .undef, .undef, .undef, .int .i64 i, .undef, .undef, .undef, .undef, .undef, .undef, .undef, .undef, .undef, .undef, .undef, .undef, .undef, .undef, .undef, .undef, .undef, .undef, .undef, .undef, .undef, .undef]
abbrev aiR : List D := [.undef, .undef, .bool false, .undef, .undef, .undef, .undef, .undef, .undef, .undef, .undef, .undef, .undef, .undef, .undef, .undef, .undef, .undef, .undef, .undef, .undef, .undef, .undef, .undef, .undef, .undef, .undef, .undef]
theorem ai_rounds (p : PlS) (i : Nat) (i1 : (i : Int) ≤ 10) : ∀ (m k : Nat), k + m = i →
  Rounds Tryz.prog (loopB Tryz.f25 1) 1 (aiT i k) [.box (plC p)] (if p.hitU i m k = true then .ret else .exit 2) (if p.hitU i m k = true then aiR else aiU i) [.box (plC p)]
 | 0, k, hk => Rounds.last (ap_done p i k (by omega)) (fun h => by cases h)
 | m + 1, k, hk => by
  have ih := ai_rounds p i i1 m (k + 1) (by omega)
  have k1 : (k : Int) < (i : Int) := by omega
  have hw := succ_i k (by omega)
  rw [PlS.hitU]
  by_cases h0 : p.k i = 0
  ·have e : p.hit i k = false := by unfold PlS.hit; simp [h0]
   have := ap_z p i k i1 k1 (by simp [h0])
   rw [hw] at this
   rw [e, Bool.false_or]
   exact Rounds.more this ih
  by_cases h1 : p.k i = p.k k
  ·by_cases h2 : p.n i = p.n k
   ·have e : p.hit i k = true := by unfold PlS.hit; exact decide_eq_true ⟨h0, h1, h2⟩
    rw [e, Bool.true_or]
    exact Rounds.last (ap_hit p i k i1 k1 (by simpa using h0) (by simpa using h1) (by simpa using h2)) (fun h => by cases h)
   ·have e : p.hit i k = false := by unfold PlS.hit; exact decide_eq_false fun q => h2 q.2.2
    have := ap_n p i k i1 k1 (by simpa using h0) (by simpa using h1) (by simpa using h2)
    rw [hw] at this
    rw [e, Bool.false_or]
    exact Rounds.more this ih
  ·have e : p.hit i k = false := by unfold PlS.hit; exact decide_eq_false fun q => h1 q.2.1
   have := ap_k p i k i1 k1 (by simpa using h0) (by simpa using h1)
   rw [hw] at this
   rw [e, Bool.false_or]
   exact Rounds.more this ih
theorem ai_loop (p : PlS) (i : Nat) (i1 : (i : Int) ≤ 10) : LoopRun Tryz.prog 1 (.loop (loopB Tryz.f25 1)) (aiT i 0) [.box (plC p)] (if p.hitU i i 0 = true then .ret else .exit 2) (if p.hitU i i 0 = true then aiR else aiU i) [.box (plC p)] :=
 LoopRun.of_rounds (Nat.le_refl _) (ai_rounds p i i1 i 0 (by omega))
end Go.Proofs.YtkpneibifdoecaaGreat

namespace Go.Proofs.YtkpneibifdoecaaGreat
open Go Go.Ev
set_option maxRecDepth 100000
set_option maxHeartbeats 8000000
theorem ao_done (p : PlS)  : RoundRun Tryz.prog (loopB Tryz.f25 0) ⟨[], [], []⟩ 1 (uu :: D.ptr false 0 0 :: uu :: uu :: uu :: .int .i64 11 :: un 22) [Ob.box (plC p)] (Ex.exit (0 : Nat)) (un 28) ([Ob.dead]) := by
 exact (RoundRun.of_eval (sp := ⟨[], [], []⟩) (n0 := 1) (ex := Ex.exit (0 : Nat)) (t' := (un 28)) (s' := [Ob.dead]) mixed [tF] (by kernel_rfl)).cast (by rfl) (by rfl)
theorem ao_next (p : PlS) (i : Nat) (i1 : (i : Int) ≤ 10) (hI : LoopRun Tryz.prog 1 (.loop (loopB Tryz.f25 1)) (uu :: .ptr false 0 0 :: uu :: .int .i64 (i : Int) :: .int .i64 0 :: .int .i64 (i : Int) :: un 22) [.box (plC p)] (.exit 2) (uu :: .ptr false 0 0 :: uu :: uu :: uu :: .int .i64 (i : Int) :: un 22) [.box (plC p)])  : RoundRun Tryz.prog (loopB Tryz.f25 0) ⟨[1, 5], [0], []⟩ 1 (uu :: D.ptr false 0 0 :: uu :: uu :: uu :: .int .i64 (↑i : Int) :: un 22) [Ob.box (plC p)] (Ex.norm) (uu :: D.ptr false 0 0 :: uu :: uu :: uu :: .int .i64 (IntKind.wrap IntKind.i64 ((↑i : Int) + 1)) :: un 22) ([Ob.box (plC p)]) := by
 have c0 := @of_id (nat_lit 1) _ ((uu :: D.ptr false 0 0 :: uu :: .int .i64 (↑i : Int) :: .int .i64 0 :: .int .i64 (↑i : Int) :: un 22)) ([Ob.box (plC p)]) _ _ _ hI
 exact (RoundRun.of_eval (sp := ⟨[1, 5], [0], []⟩) (n0 := 1) (ex := Ex.norm) (t' := (uu :: D.ptr false 0 0 :: uu :: uu :: uu :: .int .i64 (IntKind.wrap IntKind.i64 ((↑i : Int) + 1)) :: un 22)) (s' := [Ob.box (plC p)]) mixed [tC (decide_eq_true (Int.lt_add_one_of_le i1)), .head ⟨[1, 3, 4, 5], [0], []⟩ _ _ _ _ _ _ _ c0] (by kernel_rfl)).cast (by rfl) (by rfl)
theorem ao_hit (p : PlS) (i : Nat) (i1 : (i : Int) ≤ 10) (hI : LoopRun Tryz.prog 1 (.loop (loopB Tryz.f25 1)) (uu :: .ptr false 0 0 :: uu :: .int .i64 (i : Int) :: .int .i64 0 :: .int .i64 (i : Int) :: un 22) [.box (plC p)] .ret (uu :: uu :: .bool false :: un 25) [.box (plC p)])  : RoundRun Tryz.prog (loopB Tryz.f25 0) ⟨[2], [], []⟩ 1 (uu :: D.ptr false 0 0 :: uu :: uu :: uu :: .int .i64 (↑i : Int) :: un 22) [Ob.box (plC p)] (Ex.ret) (uu :: uu :: .bool false :: un 25) ([Ob.dead]) := by
 have c0 := @of_id (nat_lit 1) _ ((uu :: D.ptr false 0 0 :: uu :: .int .i64 (↑i : Int) :: .int .i64 0 :: .int .i64 (↑i : Int) :: un 22)) ([Ob.box (plC p)]) _ _ _ hI
 exact (RoundRun.of_eval (sp := ⟨[2], [], []⟩) (n0 := 1) (ex := Ex.ret) (t' := (uu :: uu :: .bool false :: un 25)) (s' := [Ob.dead]) mixed [tC (decide_eq_true (Int.lt_add_one_of_le i1)), .head ⟨[1, 3, 4, 5], [0], []⟩ _ _ _ _ _ _ _ c0] (by kernel_rfl)).cast (by rfl) (by rfl)
end Go.Proofs.YtkpneibifdoecaaGreat

namespace Go.Proofs.YtkpneibifdoecaaGreat
open Go Go.Ev
set_option maxRecDepth 100000
abbrev aoT (i : Int) : List D := [.undef, .ptr false 0 0, .undef, .undef, .undef, .int .i64 i, .undef, .undef, .undef, .undef, .undef, .undef, .undef, .undef, .undef, .undef, .undef, .undef, .undef, .undef, .undef, .undef, .undef, .undef, .undef, .undef, .undef, .undef]
abbrev aoU : List D := [.undef, .undef, .undef, .undef, .undef, .undef, .undef, .undef, .undef, .undef, .undef, .undef, .undef, .undef, .undef, .undef, .undef, .undef, .undef, .undef, .undef, .undef, .undef, .undef, .undef, .undef, .undef, .undef]
theorem ao_rounds (p : PlS) : ∀ (m i : Nat), i + m = 11 →
  Rounds Tryz.prog (loopB Tryz.f25 0) 1 (aoT i) [.box (plC p)] (if p.sameU m i = true then .ret else .exit 0) (if p.sameU m i = true then aiR else aoU) [.dead]
 | 0, i, hi => by
  obtain rfl : i = 11 := by omega
  exact Rounds.last (ao_done p) (fun h => by cases h)
 | m + 1, i, hi => by
  have ih := ao_rounds p m (i + 1) (by omega)
  have i1 : (i : Int) ≤ 10 := by omega
  have hw := succ_i i i1
  have hI := ai_loop p i i1
  rw [PlS.sameU]
  cases e : p.hitU i i 0 with
  | true =>
   rw [e] at hI
   rw [Bool.true_or]
   exact Rounds.last (ao_hit p i i1 hI) (fun h => by cases h)
  | false =>
   rw [e] at hI
   have := ao_next p i i1 hI
   rw [hw] at this
   rw [Bool.false_or]
   exact Rounds.more this ih
theorem ao_yes (p : PlS) (h : p.apart = true) : LoopRun Tryz.prog 1 (.loop (loopB Tryz.f25 0)) (aoT 0) [.box (plC p)] (.exit 0) aoU [.dead] := by
 have := ao_rounds p 11 0 rfl
 have e : p.sameU 11 0 = false := by unfold PlS.apart at h; simpa using h
 rw [e] at this
 exact LoopRun.of_rounds (Nat.le_refl _) this
theorem ao_no (p : PlS) (h : p.apart = false) : LoopRun Tryz.prog 1 (.loop (loopB Tryz.f25 0)) (aoT 0) [.box (plC p)] .ret aiR [.dead] := by
 have := ao_rounds p 11 0 rfl
 have e : p.sameU 11 0 = true := by unfold PlS.apart at h; simpa using h
 rw [e] at this
 exact LoopRun.of_rounds (Nat.le_refl _) this
end Go.Proofs.YtkpneibifdoecaaGreat

namespace Go.Proofs.YtkpneibifdoecaaGreat
open Go Go.Ev
set_option maxRecDepth 100000
set_option maxHeartbeats 8000000
theorem aMay_ok (p : PlS)  : Ret Tryz.prog 28 ([.agg (plC p)]) (.bool p.may) := by
 rcases bft (PlS.may p) with k0 | k0
 ·have c1 := @pm_yes p k0
  exact (o28 (d := .bool true) [.head ⟨[5, 6], [], []⟩ _ _ _ _ _ _ _ c1] (by kernel_rfl)).to (by simp [wk, k0])
 have c2 := @pm_no p k0
 exact (o28 (d := .bool false) [.head ⟨[5, 6], [], []⟩ _ _ _ _ _ _ _ c2] (by kernel_rfl)).to (by simp [wk, k0])
theorem rMay_ok (p : PlS)  : Ret Tryz.prog 23 ([.agg (plC p)]) (.bool p.may) := by
 rcases bft (PlS.may p) with k0 | k0
 ·have c1 := @rm_yes p k0
  exact (o23 (d := .bool true) [.head ⟨[1, 3], [0], []⟩ _ _ _ _ _ _ _ c1] (by kernel_rfl)).to (by simp [wk, k0])
 have c2 := @rm_no p k0
 exact (o23 (d := .bool false) [.head ⟨[1, 3], [0], []⟩ _ _ _ _ _ _ _ c2] (by kernel_rfl)).to (by simp [wk, k0])
theorem aSp_ok (p : PlS) (h : p.may = true)  : Ret Tryz.prog 29 ([.agg (plC p)]) (.int .i64 p.sp) := by
 have c0 := @sp_loop p h
 exact (o29 (d := .int .i64 (PlS.sp p)) [.head ⟨[3, 6, 7], [], []⟩ _ _ _ _ _ _ _ c0] (by kernel_rfl)).to (by simp [wk, ])
theorem ap_ok (p : PlS)  : Ret Tryz.prog 25 ([.agg (plC p)]) (.bool p.apart) := by
 rcases bft (PlS.apart p) with k0 | k0
 ·have c1 := @ao_yes p k0
  exact (o25 (d := .bool true) [.head ⟨[1, 5], [0], []⟩ _ _ _ _ _ _ _ c1] (by kernel_rfl)).to (by simp [wk, k0])
 have c2 := @ao_no p k0
 exact (o25 (d := .bool false) [.head ⟨[1, 5], [0], []⟩ _ _ _ _ _ _ _ c2] (by kernel_rfl)).to (by simp [wk, k0])
end Go.Proofs.YtkpneibifdoecaaGreat
