/- Contracts and plain laws that a statement's proof leans on (texts merged: MdP4, MdW, MdF2, MdE, MdP, MdS, MdI, MdG, MdV, MdK1, MdKP). -/
import Derived.Test.YtglcgdnaanhddaaGreatN05
import Derived.Test.YtglcgdnaanhddaaGreatN07
import Derived.Test.YtglcgdnaanhddaaGreatLSymxNil02
set_option linter.unusedVariables false
set_option linter.unusedSimpArgs false
namespace Go.Ev
open Go
def byK : List LK := [.int .u8]
def hdD (ds : List D) : D := ds.headD .undef
theorem by_cells (ds : List D) (h : okL byK ds) : (hdD ds).cells = some ds := by
 simp only [byK, okL] at h
 obtain ⟨n, r, rfl, _, rfl⟩ := h
 rfl
theorem bys_of : ∀ (xs : List (List D)), (∀ ds ∈ xs, okL byK ds) → ∃ l : List Int, xs.map hdD = bD l ∧ isB l ∧ l.length = xs.length
 | [], _ => ⟨[], rfl, nilB, rfl⟩
 | ds :: r, h => by
  obtain ⟨l, e, ho, hl⟩ := bys_of r (fun d hd => h d (List.mem_cons_of_mem _ hd))
  have h1 := h ds (List.mem_cons_self ..)
  simp only [byK, okL] at h1
  obtain ⟨n, r', rfl, hn, rfl⟩ := h1
  refine ⟨n :: l, by rw [List.map_cons, e]; rfl, isB_cons.2 ⟨?_, ho⟩, by simp [hl]⟩
  simp [IntKind.has, IntKind.min, IntKind.max, IntKind.signed, IntKind.bits] at hn
  omega
def readsX (op dst src base : Int) : Int :=
  if op = 0 then sh8 src
  else if op = 1 ∨ op = 28 ∨ op = 29 then 0
  else if 20 ≤ op ∧ op ≤ 22 then or64 (sh8 dst) (sh8 1)
  else if op = 24 then or64 (or64 (sh8 dst) (sh8 0)) (sh8 2)
  else if op = 26 then sh8 base
  else if op = 27 then or64 (sh8 base) (sh8 src)
  else if op = 30 then 17
  else if op = 31 then 1477
  else if shapeM op = 1 ∨ shapeM op = 2 ∨ shapeM op = 6 then or64 (sh8 dst) (sh8 src)
  else sh8 dst
def writesX (op dst : Int) : Int :=
  if op = 7 ∨ op = 8 ∨ op = 14 ∨ op = 15 ∨ op = 27 ∨ op = 28 ∨ op = 29 then 0
  else if op = 24 then 5
  else if op = 30 then 16
  else if op = 31 then 2051
  else sh8 dst
def readsXX (op w dst src base disp imm cc : Int) : Int := if mayX op w dst src base disp imm cc then readsX op dst src base else 0
def writesXX (op w dst src base disp imm cc : Int) : Int := if mayX op w dst src base disp imm cc then writesX op dst else 0
def addC (w a b : Int) : Bool := decide (cutM (u64 (a + b)) w < cutM a w)
def addO (w a b : Int) : Bool := negM (and64u (xor64 a (u64 (a + b))) (xor64 b (u64 (a + b)))) w
def subC (w a b : Int) : Bool := decide (cutM a w < cutM b w)
def subO (w a b : Int) : Bool := negM (and64u (xor64 a b) (xor64 a (u64 (a - b)))) w
def holdM (cc : Int) (c z s o : Bool) : Bool :=
  if cc = 2 then c else if cc = 3 then !c else if cc = 4 then z else if cc = 5 then !z else if cc = 6 then (c || z) else if cc = 7 then !(c || z)
  else if cc = 12 then (s != o) else if cc = 13 then !(s != o) else if cc = 14 then (z || (s != o)) else !(z || (s != o))
def wrOp (op : Int) : Bool := !(decide (op = 7 ∨ op = 8 ∨ op = 14 ∨ op = 15 ∨ op = 27 ∨ op = 28 ∨ op = 29))
def inU (n : Int) : Prop := 0 ≤ n ∧ n ≤ 18446744073709551615
theorem cut_cut (v w : Int) : cutM (cutM v w) w = cutM v w := by
 unfold cutM
 split
 ·omega
 ·split
  ·omega
  ·split
   ·omega
   ·rfl
def bitOf (w k : Int) : Int := IntKind.i64.wrap ((BitVec.ofInt 64 (w.fdiv (2 ^ (min k.toNat 64))) &&& BitVec.ofInt 64 1).toNat : Int)
def mayP (w dst src : Int) : Bool := longM w && regM dst && regM src
structure MachS where
  (q0 q1 q2 q3 q4 q5 q6 q7 q8 q9 q10 q11 q12 q13 q14 q15 : Int)
  (fk fc fz fs fo : Bool)
  (pc : Int)
deriving DecidableEq
def MachS.d (m : MachS) : D := .agg [.int .u64 m.q0, .int .u64 m.q1, .int .u64 m.q2, .int .u64 m.q3, .int .u64 m.q4, .int .u64 m.q5, .int .u64 m.q6, .int .u64 m.q7, .int .u64 m.q8, .int .u64 m.q9, .int .u64 m.q10, .int .u64 m.q11, .int .u64 m.q12, .int .u64 m.q13, .int .u64 m.q14, .int .u64 m.q15, .bool m.fk, .bool m.fc, .bool m.fz, .bool m.fs, .bool m.fo, .int .u64 m.pc]
def MachS.rl (m : MachS) : List Int := [m.q0, m.q1, m.q2, m.q3, m.q4, m.q5, m.q6, m.q7, m.q8, m.q9, m.q10, m.q11, m.q12, m.q13, m.q14, m.q15]
def MachS.put (m : MachS) (i v : Int) : MachS := ⟨st 0 i v m.q0, st 1 i v m.q1, st 2 i v m.q2, st 3 i v m.q3, st 4 i v m.q4, st 5 i v m.q5, st 6 i v m.q6, st 7 i v m.q7, st 8 i v m.q8, st 9 i v m.q9, st 10 i v m.q10, st 11 i v m.q11, st 12 i v m.q12, st 13 i v m.q13, st 14 i v m.q14, st 15 i v m.q15, m.fk, m.fc, m.fz, m.fs, m.fo, m.pc⟩
def MachS.flags (m : MachS) (k c z s o : Bool) : MachS := ⟨m.q0, m.q1, m.q2, m.q3, m.q4, m.q5, m.q6, m.q7, m.q8, m.q9, m.q10, m.q11, m.q12, m.q13, m.q14, m.q15, k, c, z, s, o, m.pc⟩
def MachS.at (m : MachS) (v : Int) : MachS := ⟨m.q0, m.q1, m.q2, m.q3, m.q4, m.q5, m.q6, m.q7, m.q8, m.q9, m.q10, m.q11, m.q12, m.q13, m.q14, m.q15, m.fk, m.fc, m.fz, m.fs, m.fo, v⟩
def MachS.zero : MachS := ⟨0, 0, 0, 0, 0, 0, 0, 0, 0, 0, 0, 0, 0, 0, 0, 0, false, false, false, false, false, 0⟩
def XS.len (x : XS) : Int := lenX x.op x.w x.dst x.src x.base x.disp x.imm x.cc
def XS.may (x : XS) : Bool := mayX x.op x.w x.dst x.src x.base x.disp x.imm x.cc
def sopM (op : Int) : Option (Int × Int) :=
  match op with
  | 2 => some (0, 0)
  | 3 => some (4, 0)
  | 4 => some (5, 0)
  | 5 => some (1, 0)
  | 6 => some (10, 0)
  | 7 => some (1, 0)
  | 8 => some (5, 0)
  | 9 => some (0, 1)
  | 10 => some (4, 1)
  | 11 => some (5, 1)
  | 12 => some (1, 1)
  | 13 => some (10, 1)
  | 14 => some (1, 1)
  | 15 => some (5, 1)
  | 16 => some (2, 0)
  | 17 => some (6, 1)
  | 18 => some (7, 1)
  | 19 => some (12, 1)
  | 20 => some (6, 2)
  | 21 => some (7, 2)
  | 22 => some (12, 2)
  | 23 => some (8, 0)
  | _ => none
def secS (m : MachS) (x : XS) (k : Int) : Int := match k with
  | 2 => m.q1
  | 1 => u64 x.imm
  | _ => rg m.rl x.src
def flagS (m : MachS) (s w a b v : Int) : MachS := match s with
  | 0 => m.flags true (addC w a b) (cutM (u64 (a + b)) w == 0) (negM (u64 (a + b)) w) (addO w a b)
  | 1 => m.flags true (subC w a b) (cutM (u64 (a - b)) w == 0) (negM (u64 (a - b)) w) (subO w a b)
  | 8 => m.flags true (subC w 0 a) (cutM (u64 (0 - a)) w == 0) (negM (u64 (0 - a)) w) (subO w 0 a)
  | 4 => m.flags true false (cutM v w == 0) (negM v w) false
  | 5 => m.flags true false (cutM v w == 0) (negM v w) false
  | 10 => m.flags true false (cutM v w == 0) (negM v w) false
  | _ => m.flags false false false false false
def keepOp (op : Int) : Bool := match op with
  | 7 => true
  | 8 => true
  | 14 => true
  | 15 => true
  | _ => false
def doS (m : MachS) (x : XS) (ld : Int) : MachS × Int := match sopM x.op with
  | some (s, k) =>
    let a := rg m.rl x.dst
    let b := secS m x k
    let v := doM s x.w a b
    match keepOp x.op with
    | true => (flagS m s x.w a b v, 0)
    | false => ((flagS m s x.w a b v).put x.dst v, 0)
  | none => match x.op with
    | 0 => (m.put x.dst (cutM (rg m.rl x.src) x.w), 0)
    | 1 => (m.put x.dst (cutM (u64 x.imm) x.w), 0)
    | 24 => match cutM (rg m.rl x.dst) x.w == 0 with
      | true => (.zero, 20)
      | false => match cutM m.q2 x.w == 0 with
        | false => (.zero, 20)
        | true => (({ m with q0 := u64 ((cutM m.q0 x.w).tdiv (cutM (rg m.rl x.dst) x.w)), q2 := (cutM m.q0 x.w).tmod (cutM (rg m.rl x.dst) x.w) }).flags false false false false false, 0)
    | 25 => match m.fk with
      | false => (.zero, 20)
      | true => (m.put x.dst (cutM (if holdM x.cc m.fc m.fz m.fs m.fo then rg m.rl x.src else rg m.rl x.dst) x.w), 0)
    | 26 => (m.put x.dst (cutM ld x.w), 0)
    | 28 => (m.at (u64 (m.pc + u64 x.imm)), 0)
    | 29 => match m.fk with
      | false => (.zero, 20)
      | true => (m.at (if holdM x.cc m.fc m.fz m.fs m.fo then u64 (m.pc + u64 x.imm) else m.pc), 0)
    | 30 => (({ m with q4 := u64 (m.q4 + 8) }).at ld, 0)
    | 31 => ({ m with q0 := ld, q1 := 0, q11 := 0 }, 0)
    | _ => (m, 0)
def execS (m : MachS) (x : XS) (ld : Int) : MachS × Int := match x.may with
  | false => (.zero, 2)
  | true => doS (m.at (u64 (m.pc + u64 x.len))) x ld
def execM (m : MachS) (x : XS) (ld : Int) : MachS := (execS m x ld).1
def execE (m : MachS) (x : XS) (ld : Int) : Int := (execS m x ld).2
def pcX (m : MachS) (op w dst src base disp imm cc : Int) : Int := u64 (m.pc + u64 (lenX op w dst src base disp imm cc))
def xT (op w dst src base disp imm cc ld : Int) : List D := [.int .i8 op, .int .i8 w, .int .i8 dst, .int .i8 src, .int .i8 base, .int .i64 disp, .int .i64 imm, .int .i8 cc, .int .u64 ld]
def fT (m : MachS) (p : Int) (tl : List D) : List D := .bool m.fk :: .bool m.fc :: .bool m.fz :: .bool m.fs :: .bool m.fo :: .int .u64 p :: tl
def zC : List D := [.int .u64 0, .int .u64 0, .int .u64 0, .int .u64 0, .int .u64 0, .int .u64 0, .int .u64 0, .int .u64 0, .int .u64 0, .int .u64 0, .int .u64 0, .int .u64 0, .int .u64 0, .int .u64 0, .int .u64 0, .int .u64 0, .bool false, .bool false, .bool false, .bool false, .bool false, .int .u64 0]
def MachS.cw (m : MachS) (p : Int) (tl : List D) : List D := .int .u64 m.q0 :: .int .u64 m.q1 :: .int .u64 m.q2 :: .int .u64 m.q3 :: .int .u64 m.q4 :: .int .u64 m.q5 :: .int .u64 m.q6 :: .int .u64 m.q7 :: .int .u64 m.q8 :: .int .u64 m.q9 :: .int .u64 m.q10 :: .int .u64 m.q11 :: .int .u64 m.q12 :: .int .u64 m.q13 :: .int .u64 m.q14 :: .int .u64 m.q15 :: .bool m.fk :: .bool m.fc :: .bool m.fz :: .bool m.fs :: .bool m.fo :: .int .u64 p :: tl
def addrS (m : MachS) (x : XS) : Int × Int × Bool :=
  if x.may = true ∧ (x.op = 26 ∨ x.op = 27) then (u64 (rg m.rl x.base + u64 x.disp), x.w / 8, true)
  else if x.may = true ∧ x.op = 30 then (m.q4, 8, true)
  else (0, 0, false)
def storedS (m : MachS) (x : XS) : Int := if x.may = true ∧ x.op = 27 then cutM (rg m.rl x.src) x.w else 0
def numS (m : MachS) : Int × Bool := if 16 ≤ m.q0 then (0, false) else (IntKind.i64.wrap m.q0, true)
def numV (q : Int) : Int := if 16 ≤ q then 0 else IntKind.i64.wrap q
def numB (q : Int) : Bool := !decide (16 ≤ q)
def argsS (m : MachS) : List Int := if 16 ≤ m.q0 then [] else [m.q7, m.q6, m.q2, m.q10, m.q8].take (m.q0.toNat % 6)
def wD (l : List Int) : List D := l.map (fun x => .int .u64 x)
def toccM (cc : Int) : Int × Bool :=
  if cc = 0 then (4, true) else if cc = 1 then (5, true) else if cc = 2 then (7, true) else if cc = 3 then (3, true) else if cc = 4 then (2, true) else if cc = 5 then (6, true)
  else if cc = 6 then (15, true) else if cc = 7 then (13, true) else if cc = 8 then (12, true) else if cc = 9 then (14, true) else if cc = 10 then (5, true) else (0, false)
def ccM' (cc : Int) : Int × Bool :=
  if cc = 4 then (0, true) else if cc = 5 then (1, true) else if cc = 7 then (2, true) else if cc = 3 then (3, true) else if cc = 2 then (4, true) else if cc = 6 then (5, true)
  else if cc = 15 then (6, true) else if cc = 13 then (7, true) else if cc = 12 then (8, true) else if cc = 14 then (9, true) else (0, false)
structure RgS where
  (r0 r1 r2 r3 r4 r5 r6 r7 r8 r9 r10 : Int)
deriving DecidableEq
def RgS.c (r : RgS) : List D := [.int .u64 r.r0, .int .u64 r.r1, .int .u64 r.r2, .int .u64 r.r3, .int .u64 r.r4, .int .u64 r.r5, .int .u64 r.r6, .int .u64 r.r7, .int .u64 r.r8, .int .u64 r.r9, .int .u64 r.r10]
def RgS.d (r : RgS) : D := .agg r.c
def RgS.l (r : RgS) : List Int := [r.r0, r.r1, r.r2, r.r3, r.r4, r.r5, r.r6, r.r7, r.r8, r.r9, r.r10]
def RgS.get (r : RgS) (i : Int) : Int := rg r.l i
def RgS.put (r : RgS) (i v : Int) : RgS := ⟨st 0 i v r.r0, st 1 i v r.r1, st 2 i v r.r2, st 3 i v r.r3, st 4 i v r.r4, st 5 i v r.r5, st 6 i v r.r6, st 7 i v r.r7, st 8 i v r.r8, st 9 i v r.r9, st 10 i v r.r10⟩
def RgS.zero : RgS := ⟨0, 0, 0, 0, 0, 0, 0, 0, 0, 0, 0⟩
section
variable {r0 r1 r2 r3 r4 r5 r6 r7 r8 r9 r10 i v : Int} {tl : List D}
end
def MachS.c (m : MachS) : List D := [.int .u64 m.q0, .int .u64 m.q1, .int .u64 m.q2, .int .u64 m.q3, .int .u64 m.q4, .int .u64 m.q5, .int .u64 m.q6, .int .u64 m.q7, .int .u64 m.q8, .int .u64 m.q9, .int .u64 m.q10, .int .u64 m.q11, .int .u64 m.q12, .int .u64 m.q13, .int .u64 m.q14, .int .u64 m.q15, .bool m.fk, .bool m.fc, .bool m.fz, .bool m.fs, .bool m.fo, .int .u64 m.pc]
def IrS.x (s : IrS) : XS := ⟨s.op, s.w, s.dst, s.src, s.base, s.disp, s.imm, s.cc⟩
def scrM (n : Int) : Bool := decide (n = 0 ∨ n = 1 ∨ n = 2 ∨ n = 11)
def namesM (op w dst src base disp imm cc : Int) : Int := or64 (readsXX op w dst src base disp imm cc) (writesXX op w dst src base disp imm cc)
def ownM (op w dst src base disp imm cc : Int) : Bool := andNot64 (namesM op w dst src base disp imm cc) 2055 == 0
def zeroX (op w dst src base disp imm cc : Int) : Bool := decide (op = 0 ∧ w = 0 ∧ dst = 0 ∧ src = 0 ∧ base = 0 ∧ disp = 0 ∧ imm = 0 ∧ cc = 0)
def mayI (kind op w dst src base disp imm cc reg phys num to : Int) : Bool :=
  if kind = 0 then mayX op w dst src base disp imm cc && decide (op < 28) && ownM op w dst src base disp imm cc && decide (reg = 0 ∧ phys = 0 ∧ num = 0 ∧ to = 0)
  else if kind = 1 ∨ kind = 2 then decide (0 ≤ reg ∧ reg ≤ 10) && scrM phys && zeroX op w dst src base disp imm cc && decide (num = 0 ∧ to = 0)
  else if kind = 3 then decide (0 ≤ num ∧ num ≤ 15) && zeroX op w dst src base disp imm cc && decide (reg = 0 ∧ phys = 0 ∧ to = 0)
  else if kind = 4 then ccM cc && zeroX (op - 29) w dst src base disp imm 0 && decide (0 ≤ to ∧ to ≤ 64) && decide (reg = 0 ∧ phys = 0 ∧ num = 0)
  else if kind = 5 then decide (0 ≤ to ∧ to ≤ 64) && zeroX op w dst src base disp imm cc && decide (reg = 0 ∧ phys = 0 ∧ num = 0)
  else if kind = 6 then zeroX op w dst src base disp imm cc && decide (reg = 0 ∧ phys = 0 ∧ num = 0 ∧ to = 0)
  else false
def stopsI (kind op : Int) : Bool := decide ((3 ≤ kind ∧ kind ≤ 6) ∨ (kind = 0 ∧ (op = 26 ∨ op = 27)))
def IrS.ok (s : IrS) : Prop := -128 ≤ s.kind ∧ s.kind ≤ 127 ∧ s.op ≤ 127 ∧ s.cc ≤ 127 ∧ s.phys ≤ 127 ∧ -128 ≤ s.reg ∧ s.reg ≤ 127
def AllOk (l : List IrS) : Prop := ∀ s ∈ l, s.ok
def IrS.may (s : IrS) : Bool := mayI s.kind s.op s.w s.dst s.src s.base s.disp s.imm s.cc s.reg s.phys s.num s.to
def IrS.stops (s : IrS) : Bool := stopsI s.kind s.op
def badI (l : List IrS) : Option Nat := l.findIdx? (fun s => !s.may)
def chkI (l : List IrS) : Int × Int := match badI l with
  | some k => ((k : Int), 2)
  | none => (0, 0)
def runI : List IrS → RgS → MachS → RgS × MachS × Nat × Int
  | [], r, m => (r, m, 0, 0)
  | s :: t, r, m => match s.stops with
    | true => (r, m, t.length + 1, 0)
    | false => if s.kind = 1 then runI t r (m.put s.phys (r.get s.reg))
      else if s.kind = 2 then runI t (r.put s.reg (rg m.rl s.phys)) m
      else if (execS m s.x 0).2 = 0 then runI t r ((execS m s.x 0).1.at 0)
      else (.zero, .zero, t.length + 1, (execS m s.x 0).2)
def restI (l : List IrS) (r : RgS) (m : MachS) : List IrS := l.drop (l.length - (runI l r m).2.2.1)
def doI (l : List IrS) (r : RgS) : RgS × MachS × Int × Int :=
  if (chkI l).2 = 0 then
    let q := runI l r .zero
    if q.2.2.2 = 0 then (q.1, q.2.1, ((l.length - q.2.2.1 : Nat) : Int), 0) else (.zero, .zero, 0, q.2.2.2)
  else (.zero, .zero, 0, 2)
def namedI (k : Int) (n : Int) : List IrS → Int
  | [] => n
  | s :: t => namedI k (if s.kind = k ∧ 0 ≤ s.reg ∧ s.reg ≤ 10 then or64 n (sh8 s.reg) else n) t
def oneOK (kind op width size : Int) (byReg : Bool) (dst src off imm : Int) : Bool := mayM kind op width size byReg dst src off imm && (!(kind == 3) && !(kind == 4))
def oneL (kind op width size : Int) (byReg : Bool) (dst src off imm : Int) : List D := if oneOK kind op width size byReg dst src off imm then stepsM kind op width size byReg dst src off imm else []
def oneE (kind op width size : Int) (byReg : Bool) (dst src off imm : Int) : Int := if oneOK kind op width size byReg dst src off imm then 0 else 2
def irOf : D → IrS
  | .agg [.int _ a, .int _ b, .int _ c, .int _ d, .int _ e, .int _ f, .int _ g, .int _ h, .int _ i, .int _ j, .int _ k, .int _ l, .int _ m] => ⟨a, b, c, d, e, f, g, h, i, j, k, l, m⟩
  | _ => ⟨0, 0, 0, 0, 0, 0, 0, 0, 0, 0, 0, 0, 0⟩
def AllIr (l : List D) : Prop := (l.map irOf).map IrS.d = l
def irK : List LK := [.int .i8, .int .i8, .int .i8, .int .i8, .int .i8, .int .i8, .int .i64, .int .i64, .int .i8, .int .i8, .int .i8, .int .i64, .int .i64]
def InstS.may (x : InstS) : Bool := mayM x.kind x.op x.width x.size x.byReg x.dst x.src x.off x.imm
def isd (l : List InstS) : List D := l.map InstS.d
def tgt2 (i kind off : Int) : Bool := (kind == 3 || kind == 4) && (decide (-1099511627776 ≤ i ∧ i ≤ 1099511627776) && decide (-1099511627776 ≤ off ∧ off ≤ 1099511627776))
def tgt1 (i kind off : Int) : Int := if tgt2 i kind off = true then i + 1 + off else 0
def ckFrom (n : Int) : Int → List InstS → Option (Int × Int)
  | _, [] => none
  | i, x :: r => if x.may = false then some (i, 31) else if tgt2 i x.kind x.off = true ∧ ¬ (0 ≤ tgt1 i x.kind x.off ∧ tgt1 i x.kind x.off < n) then some (i, 32) else ckFrom n (i + 1) r
def kindAt (l : List InstS) (i : Nat) : Int := match l[i]? with | some x => x.kind | none => 0
def checkM (ctx : Int) (l : List InstS) : Int × Int :=
  if ctx < 0 ∨ 256 < ctx then (0, 2) else if l.length < 1 ∨ 64 < l.length then (0, 3)
  else match ckFrom l.length 0 l with
    | some r => r
    | none => if kindAt l (l.length - 1) = 4 ∨ kindAt l (l.length - 1) = 6 then (0, 0) else (l.length - 1, 33)
open Go Go.RowKit Go.ChangeShapes Go.WideShapes Go.Deep
section
variable {H : Type} {enc : TypeId × Value → H} {P : Program} {w : World} {base : Nat} {spare : Nat → Bool} {held : Bool}
theorem prog_open {t e : TypeId} {f0 f1 : Field} {ks : List LK} {v : Value} {fuel b : Nat} {r : Reach} {x : DataW H × List MemPlace} (hu : P.underlying t = some (.struct #[f0, f1])) (hc : P.cellsOf t = 2)
  (a0 : f0.offset = 0) (b0 : P.underlying f0.type = some (.int .i64)) (c0 : P.cellsOf f0.type = 1) (a1 : f1.offset = 1) (b1 : P.underlying f1.type = some (.slice e)) (c1 : P.cellsOf f1.type = 1)
  (hk : flatK P 10 e = some ks) (hsz : P.cellsOf e = ks.length) (hne0 : ks.length ≠ 0) (hw : Value.okWide P w r b t v)
  (h : DataW.trod enc P w base spare held fuel t v.cells.toList = some x) :
  ∃ (n : Int) (xs : List (List D)), (∀ ds ∈ xs, okL ks ds) ∧ Rep (bareOf (allOf w)) (.agg [.int .i64 n, .lst .no ks.length (xs.map .agg)]) v := by
 have hagg : ∃ cs, v = .agg cs := by
  unfold Value.okWide at hw
  rw [hu] at hw
  exact ⟨hw.choose, hw.choose_spec.1⟩
 obtain ⟨cs, rfl⟩ := hagg
 have h : DataW.trod enc P w base spare held fuel t cs.toList = some x := h
 obtain ⟨ys, n', _, _, hl, hxl, hf⟩ := DataW.trod_struct hu h
 rw [hc] at hl
 obtain ⟨cs⟩ := cs
 match cs, hl, h, hf with
 | [y0, y1], hl, h, hf =>
  have g0 := hf 0 f0 rfl
  have g1 := hf 1 f1 rfl
  have hy : ys.length = 2 := hxl
  rw [List.getElem?_eq_getElem (by omega), a0, c0] at g0
  rw [List.getElem?_eq_getElem (by omega), a1, c1] at g1
  obtain ⟨m, e0, _, _⟩ := DataW.trod_int b0 g0
  have e0 : y0 = .int .i64 m := by simpa using e0
  obtain ⟨xs, hx, _, hr⟩ := slice_cells (ks := ks) .agg (fun ds _ => rfl) b1 hk hsz hne0 (v := y1) g1
  refine ⟨m, xs, hx, .agg rfl ?_⟩
  intro i d v p q
  match i, p, q with
  | 0, p, q =>
   simp at p q
   subst p q
   rw [e0]
   exact .int ..
  | 1, p, q =>
   simp at p q
   subst p q
   exact hr
end
def inK : List LK := [.int .i8, .int .i8, .int .i8, .int .i8, .bool, .int .i8, .int .i8, .int .i64, .int .i64]
end Go.Ev
