/- Contracts and plain laws that a statement's proof leans on (texts merged: MdP4, MdW, MdF2, MdE, MdP, MdS, MdI, MdG, MdV, MdP5, MdK1, MdK2, MdK3, MdK4, MdLb, LBN, XQU, LB1, KF0, I0H, XS1, XS2, XRW, I0, I1H, LB1A, LB2, LB2A). -/
import Derived.Test.YtcngafhpodeenaaP05
import Derived.Test.YtcngafhpodeenaaP06
import Derived.Test.YtcngafhpodeenaaP07
set_option linter.unusedVariables false
set_option linter.unusedSimpArgs false
set_option maxRecDepth 100000
set_option maxHeartbeats 8000000
namespace Go.Ev
open Go
def byK : List LK := [.int .u8]
def hdD (ds : List D) : D := ds.headD .undef
theorem bD_append (a b : List Int) : bD (a ++ b) = bD a ++ bD b := by simp [bD]
theorem rex_len (w : Bool) (r m : Int) (al : Bool) : (rexM w r m al).length ≤ 1 := by unfold rexM; split <;> simp
theorem mem_len (r b d : Int) : (memM r b d).length = 5 ∨ (memM r b d).length = 6 := by unfold memM fourM; split <;> simp
theorem bytes_len (x : XS) : 1 ≤ (bytesXS x).length ∧ (bytesXS x).length ≤ 11 := by
 unfold bytesXS bytesM
 have r1 := rex_len (decide (x.w = 64)) x.src x.dst false
 have r2 := rex_len (decide (x.w = 64)) x.dst x.src false
 have r3 := rex_len false 0 x.dst false
 have r4 := rex_len (decide (x.w = 64)) 0 x.dst false
 have r5 := rex_len (decide (x.w = 64)) x.dst x.base false
 have r6 := rex_len (decide (x.w = 64)) x.src x.base (decide (x.w = 8))
 have m1 := mem_len x.dst x.base x.disp
 have m2 := mem_len x.src x.base x.disp
 have ite : ∀ {c : Prop} [Decidable c] {a b : List Int} {m n : Nat}, (m ≤ a.length ∧ a.length ≤ n) → (m ≤ b.length ∧ b.length ≤ n) → (m ≤ (if c then a else b).length ∧ (if c then a else b).length ≤ n) := by
  intro c _ a b m n h1 h2
  by_cases hc : c
  ·rw [if_pos hc]; exact h1
  ·rw [if_neg hc]; exact h2
 have sm : ∀ {l : List Int} {m n : Nat}, m ≤ l.length → l.length ≤ n → (m ≤ l.length ∧ l.length ≤ n) := fun a b => ⟨a, b⟩
 have l7 := @ite (x.w = 8) _ [15, 182] (if x.w = 16 then [15, 183] else [139]) 1 2 (by simp) (ite (by simp) (by simp))
 have l8 := @ite (x.w = 16) _ [102] [] 0 1 (by simp) (by simp)
 have l9 := @ite (x.w = 8) _ [136] [137] 1 1 (by simp) (by simp)
 refine ite (by simp only [List.length_append, List.length_cons, List.length_nil]; omega) (ite (by simp only [List.length_append, List.length_cons, List.length_nil]; omega) (ite (by simp only [List.length_append, List.length_cons, List.length_nil]; omega) (ite (ite (by simp only [List.length_append, List.length_cons, List.length_nil, fourM]; omega) (by simp only [List.length_append, List.length_cons, List.length_nil, fourM]; omega)) (ite (by simp only [List.length_append, List.length_cons, List.length_nil]; omega) (ite (by simp only [List.length_append, List.length_cons, List.length_nil]; omega) (ite ?_ (ite ?_ (ite (ite (by simp) (by simp [fourM])) (ite (ite (by simp) (by simp [fourM])) (ite (by simp) (by simp)))))))))))
 ·rw [List.length_append, List.length_append]; omega
 ·rw [List.length_append, List.length_append, List.length_append]; omega
def readsX (op dst src base : Int) : Int :=
  if op = 0 then sh8 src
  else if op = 1 ∨ op = 28 ∨ op = 29 then 0
  else if 20 ≤ op ∧ op ≤ 22 then or64 (sh8 dst) (sh8 1)
  else if op = 24 then or64 (or64 (sh8 dst) (sh8 0)) (sh8 2)
  else if op = 26 then sh8 base
  else if op = 27 then or64 (sh8 base) (sh8 src)
  else if op = 30 then 17
  else if op = 31 then 1477
  else if shapeM op = 1 ∨ shapeM op = 2 ∨ shapeM op = 6 then or64 (sh8 dst) (sh8 src)
  else sh8 dst
def writesX (op dst : Int) : Int :=
  if op = 7 ∨ op = 8 ∨ op = 14 ∨ op = 15 ∨ op = 27 ∨ op = 28 ∨ op = 29 then 0
  else if op = 24 then 5
  else if op = 30 then 16
  else if op = 31 then 2051
  else sh8 dst
def readsXX (op w dst src base disp imm cc : Int) : Int := if mayX op w dst src base disp imm cc then readsX op dst src base else 0
def writesXX (op w dst src base disp imm cc : Int) : Int := if mayX op w dst src base disp imm cc then writesX op dst else 0
def addC (w a b : Int) : Bool := decide (cutM (u64 (a + b)) w < cutM a w)
def addO (w a b : Int) : Bool := negM (and64u (xor64 a (u64 (a + b))) (xor64 b (u64 (a + b)))) w
def subC (w a b : Int) : Bool := decide (cutM a w < cutM b w)
def subO (w a b : Int) : Bool := negM (and64u (xor64 a b) (xor64 a (u64 (a - b)))) w
def holdM (cc : Int) (c z s o : Bool) : Bool :=
  if cc = 2 then c else if cc = 3 then !c else if cc = 4 then z else if cc = 5 then !z else if cc = 6 then (c || z) else if cc = 7 then !(c || z)
  else if cc = 12 then (s != o) else if cc = 13 then !(s != o) else if cc = 14 then (z || (s != o)) else !(z || (s != o))
def wrOp (op : Int) : Bool := !(decide (op = 7 ∨ op = 8 ∨ op = 14 ∨ op = 15 ∨ op = 27 ∨ op = 28 ∨ op = 29))
def inU (n : Int) : Prop := 0 ≤ n ∧ n ≤ 18446744073709551615
theorem cut_cut (v w : Int) : cutM (cutM v w) w = cutM v w := by
 unfold cutM
 split
 ·omega
 ·split
  ·omega
  ·split
   ·omega
   ·rfl
def bitOf (w k : Int) : Int := IntKind.i64.wrap ((BitVec.ofInt 64 (w.fdiv (2 ^ (min k.toNat 64))) &&& BitVec.ofInt 64 1).toNat : Int)
def mayP (w dst src : Int) : Bool := longM w && regM dst && regM src
structure MachS where
  (q0 q1 q2 q3 q4 q5 q6 q7 q8 q9 q10 q11 q12 q13 q14 q15 : Int)
  (fk fc fz fs fo : Bool)
  (pc : Int)
deriving DecidableEq
def MachS.d (m : MachS) : D := .agg [.int .u64 m.q0, .int .u64 m.q1, .int .u64 m.q2, .int .u64 m.q3, .int .u64 m.q4, .int .u64 m.q5, .int .u64 m.q6, .int .u64 m.q7, .int .u64 m.q8, .int .u64 m.q9, .int .u64 m.q10, .int .u64 m.q11, .int .u64 m.q12, .int .u64 m.q13, .int .u64 m.q14, .int .u64 m.q15, .bool m.fk, .bool m.fc, .bool m.fz, .bool m.fs, .bool m.fo, .int .u64 m.pc]
def MachS.rl (m : MachS) : List Int := [m.q0, m.q1, m.q2, m.q3, m.q4, m.q5, m.q6, m.q7, m.q8, m.q9, m.q10, m.q11, m.q12, m.q13, m.q14, m.q15]
def MachS.put (m : MachS) (i v : Int) : MachS := ⟨st 0 i v m.q0, st 1 i v m.q1, st 2 i v m.q2, st 3 i v m.q3, st 4 i v m.q4, st 5 i v m.q5, st 6 i v m.q6, st 7 i v m.q7, st 8 i v m.q8, st 9 i v m.q9, st 10 i v m.q10, st 11 i v m.q11, st 12 i v m.q12, st 13 i v m.q13, st 14 i v m.q14, st 15 i v m.q15, m.fk, m.fc, m.fz, m.fs, m.fo, m.pc⟩
def MachS.flags (m : MachS) (k c z s o : Bool) : MachS := ⟨m.q0, m.q1, m.q2, m.q3, m.q4, m.q5, m.q6, m.q7, m.q8, m.q9, m.q10, m.q11, m.q12, m.q13, m.q14, m.q15, k, c, z, s, o, m.pc⟩
def MachS.at (m : MachS) (v : Int) : MachS := ⟨m.q0, m.q1, m.q2, m.q3, m.q4, m.q5, m.q6, m.q7, m.q8, m.q9, m.q10, m.q11, m.q12, m.q13, m.q14, m.q15, m.fk, m.fc, m.fz, m.fs, m.fo, v⟩
def MachS.zero : MachS := ⟨0, 0, 0, 0, 0, 0, 0, 0, 0, 0, 0, 0, 0, 0, 0, 0, false, false, false, false, false, 0⟩
def XS.len (x : XS) : Int := lenX x.op x.w x.dst x.src x.base x.disp x.imm x.cc
def XS.may (x : XS) : Bool := mayX x.op x.w x.dst x.src x.base x.disp x.imm x.cc
def sopM (op : Int) : Option (Int × Int) :=
  match op with
  | 2 => some (0, 0)
  | 3 => some (4, 0)
  | 4 => some (5, 0)
  | 5 => some (1, 0)
  | 6 => some (10, 0)
  | 7 => some (1, 0)
  | 8 => some (5, 0)
  | 9 => some (0, 1)
  | 10 => some (4, 1)
  | 11 => some (5, 1)
  | 12 => some (1, 1)
  | 13 => some (10, 1)
  | 14 => some (1, 1)
  | 15 => some (5, 1)
  | 16 => some (2, 0)
  | 17 => some (6, 1)
  | 18 => some (7, 1)
  | 19 => some (12, 1)
  | 20 => some (6, 2)
  | 21 => some (7, 2)
  | 22 => some (12, 2)
  | 23 => some (8, 0)
  | _ => none
def secS (m : MachS) (x : XS) (k : Int) : Int := match k with
  | 2 => m.q1
  | 1 => u64 x.imm
  | _ => rg m.rl x.src
def flagS (m : MachS) (s w a b v : Int) : MachS := match s with
  | 0 => m.flags true (addC w a b) (cutM (u64 (a + b)) w == 0) (negM (u64 (a + b)) w) (addO w a b)
  | 1 => m.flags true (subC w a b) (cutM (u64 (a - b)) w == 0) (negM (u64 (a - b)) w) (subO w a b)
  | 8 => m.flags true (subC w 0 a) (cutM (u64 (0 - a)) w == 0) (negM (u64 (0 - a)) w) (subO w 0 a)
  | 4 => m.flags true false (cutM v w == 0) (negM v w) false
  | 5 => m.flags true false (cutM v w == 0) (negM v w) false
  | 10 => m.flags true false (cutM v w == 0) (negM v w) false
  | _ => m.flags false false false false false
def keepOp (op : Int) : Bool := match op with
  | 7 => true
  | 8 => true
  | 14 => true
  | 15 => true
  | _ => false
def doS (m : MachS) (x : XS) (ld : Int) : MachS × Int := match sopM x.op with
  | some (s, k) =>
    let a := rg m.rl x.dst
    let b := secS m x k
    let v := doM s x.w a b
    match keepOp x.op with
    | true => (flagS m s x.w a b v, 0)
    | false => ((flagS m s x.w a b v).put x.dst v, 0)
  | none => match x.op with
    | 0 => (m.put x.dst (cutM (rg m.rl x.src) x.w), 0)
    | 1 => (m.put x.dst (cutM (u64 x.imm) x.w), 0)
    | 24 => match cutM (rg m.rl x.dst) x.w == 0 with
      | true => (.zero, 20)
      | false => match cutM m.q2 x.w == 0 with
        | false => (.zero, 20)
        | true => (({ m with q0 := u64 ((cutM m.q0 x.w).tdiv (cutM (rg m.rl x.dst) x.w)), q2 := (cutM m.q0 x.w).tmod (cutM (rg m.rl x.dst) x.w) }).flags false false false false false, 0)
    | 25 => match m.fk with
      | false => (.zero, 20)
      | true => (m.put x.dst (cutM (if holdM x.cc m.fc m.fz m.fs m.fo then rg m.rl x.src else rg m.rl x.dst) x.w), 0)
    | 26 => (m.put x.dst (cutM ld x.w), 0)
    | 28 => (m.at (u64 (m.pc + u64 x.imm)), 0)
    | 29 => match m.fk with
      | false => (.zero, 20)
      | true => (m.at (if holdM x.cc m.fc m.fz m.fs m.fo then u64 (m.pc + u64 x.imm) else m.pc), 0)
    | 30 => (({ m with q4 := u64 (m.q4 + 8) }).at ld, 0)
    | 31 => ({ m with q0 := ld, q1 := 0, q11 := 0 }, 0)
    | _ => (m, 0)
def execS (m : MachS) (x : XS) (ld : Int) : MachS × Int := match x.may with
  | false => (.zero, 2)
  | true => doS (m.at (u64 (m.pc + u64 x.len))) x ld
def execM (m : MachS) (x : XS) (ld : Int) : MachS := (execS m x ld).1
def execE (m : MachS) (x : XS) (ld : Int) : Int := (execS m x ld).2
def pcX (m : MachS) (op w dst src base disp imm cc : Int) : Int := u64 (m.pc + u64 (lenX op w dst src base disp imm cc))
def xT (op w dst src base disp imm cc ld : Int) : List D := [.int .i8 op, .int .i8 w, .int .i8 dst, .int .i8 src, .int .i8 base, .int .i64 disp, .int .i64 imm, .int .i8 cc, .int .u64 ld]
def fT (m : MachS) (p : Int) (tl : List D) : List D := .bool m.fk :: .bool m.fc :: .bool m.fz :: .bool m.fs :: .bool m.fo :: .int .u64 p :: tl
def zC : List D := [.int .u64 0, .int .u64 0, .int .u64 0, .int .u64 0, .int .u64 0, .int .u64 0, .int .u64 0, .int .u64 0, .int .u64 0, .int .u64 0, .int .u64 0, .int .u64 0, .int .u64 0, .int .u64 0, .int .u64 0, .int .u64 0, .bool false, .bool false, .bool false, .bool false, .bool false, .int .u64 0]
def MachS.cw (m : MachS) (p : Int) (tl : List D) : List D := .int .u64 m.q0 :: .int .u64 m.q1 :: .int .u64 m.q2 :: .int .u64 m.q3 :: .int .u64 m.q4 :: .int .u64 m.q5 :: .int .u64 m.q6 :: .int .u64 m.q7 :: .int .u64 m.q8 :: .int .u64 m.q9 :: .int .u64 m.q10 :: .int .u64 m.q11 :: .int .u64 m.q12 :: .int .u64 m.q13 :: .int .u64 m.q14 :: .int .u64 m.q15 :: .bool m.fk :: .bool m.fc :: .bool m.fz :: .bool m.fs :: .bool m.fo :: .int .u64 p :: tl
def addrS (m : MachS) (x : XS) : Int × Int × Bool :=
  if x.may = true ∧ (x.op = 26 ∨ x.op = 27) then (u64 (rg m.rl x.base + u64 x.disp), x.w / 8, true)
  else if x.may = true ∧ x.op = 30 then (m.q4, 8, true)
  else (0, 0, false)
def storedS (m : MachS) (x : XS) : Int := if x.may = true ∧ x.op = 27 then cutM (rg m.rl x.src) x.w else 0
def numS (m : MachS) : Int × Bool := if 16 ≤ m.q0 then (0, false) else (IntKind.i64.wrap m.q0, true)
def numV (q : Int) : Int := if 16 ≤ q then 0 else IntKind.i64.wrap q
def numB (q : Int) : Bool := !decide (16 ≤ q)
def argsS (m : MachS) : List Int := if 16 ≤ m.q0 then [] else [m.q7, m.q6, m.q2, m.q10, m.q8].take (m.q0.toNat % 6)
def wD (l : List Int) : List D := l.map (fun x => .int .u64 x)
def toccM (cc : Int) : Int × Bool :=
  if cc = 0 then (4, true) else if cc = 1 then (5, true) else if cc = 2 then (7, true) else if cc = 3 then (3, true) else if cc = 4 then (2, true) else if cc = 5 then (6, true)
  else if cc = 6 then (15, true) else if cc = 7 then (13, true) else if cc = 8 then (12, true) else if cc = 9 then (14, true) else if cc = 10 then (5, true) else (0, false)
def ccM' (cc : Int) : Int × Bool :=
  if cc = 4 then (0, true) else if cc = 5 then (1, true) else if cc = 7 then (2, true) else if cc = 3 then (3, true) else if cc = 2 then (4, true) else if cc = 6 then (5, true)
  else if cc = 15 then (6, true) else if cc = 13 then (7, true) else if cc = 12 then (8, true) else if cc = 14 then (9, true) else (0, false)
structure RgS where
  (r0 r1 r2 r3 r4 r5 r6 r7 r8 r9 r10 : Int)
deriving DecidableEq
def RgS.c (r : RgS) : List D := [.int .u64 r.r0, .int .u64 r.r1, .int .u64 r.r2, .int .u64 r.r3, .int .u64 r.r4, .int .u64 r.r5, .int .u64 r.r6, .int .u64 r.r7, .int .u64 r.r8, .int .u64 r.r9, .int .u64 r.r10]
def RgS.d (r : RgS) : D := .agg r.c
def RgS.l (r : RgS) : List Int := [r.r0, r.r1, r.r2, r.r3, r.r4, r.r5, r.r6, r.r7, r.r8, r.r9, r.r10]
def RgS.get (r : RgS) (i : Int) : Int := rg r.l i
def RgS.put (r : RgS) (i v : Int) : RgS := ⟨st 0 i v r.r0, st 1 i v r.r1, st 2 i v r.r2, st 3 i v r.r3, st 4 i v r.r4, st 5 i v r.r5, st 6 i v r.r6, st 7 i v r.r7, st 8 i v r.r8, st 9 i v r.r9, st 10 i v r.r10⟩
def RgS.zero : RgS := ⟨0, 0, 0, 0, 0, 0, 0, 0, 0, 0, 0⟩
section
variable {r0 r1 r2 r3 r4 r5 r6 r7 r8 r9 r10 i v : Int} {tl : List D}
end
def MachS.c (m : MachS) : List D := [.int .u64 m.q0, .int .u64 m.q1, .int .u64 m.q2, .int .u64 m.q3, .int .u64 m.q4, .int .u64 m.q5, .int .u64 m.q6, .int .u64 m.q7, .int .u64 m.q8, .int .u64 m.q9, .int .u64 m.q10, .int .u64 m.q11, .int .u64 m.q12, .int .u64 m.q13, .int .u64 m.q14, .int .u64 m.q15, .bool m.fk, .bool m.fc, .bool m.fz, .bool m.fs, .bool m.fo, .int .u64 m.pc]
def IrS.x (s : IrS) : XS := ⟨s.op, s.w, s.dst, s.src, s.base, s.disp, s.imm, s.cc⟩
def scrM (n : Int) : Bool := decide (n = 0 ∨ n = 1 ∨ n = 2 ∨ n = 11)
theorem wk_bool {a b : Bool} (h : a = b) : wk (.bool a) (.bool b) := by subst h; simp [wk]
def namesM (op w dst src base disp imm cc : Int) : Int := or64 (readsXX op w dst src base disp imm cc) (writesXX op w dst src base disp imm cc)
def ownM (op w dst src base disp imm cc : Int) : Bool := andNot64 (namesM op w dst src base disp imm cc) 2055 == 0
def zeroX (op w dst src base disp imm cc : Int) : Bool := decide (op = 0 ∧ w = 0 ∧ dst = 0 ∧ src = 0 ∧ base = 0 ∧ disp = 0 ∧ imm = 0 ∧ cc = 0)
def mayI (kind op w dst src base disp imm cc reg phys num to : Int) : Bool :=
  if kind = 0 then mayX op w dst src base disp imm cc && decide (op < 28) && ownM op w dst src base disp imm cc && decide (reg = 0 ∧ phys = 0 ∧ num = 0 ∧ to = 0)
  else if kind = 1 ∨ kind = 2 then decide (0 ≤ reg ∧ reg ≤ 10) && scrM phys && zeroX op w dst src base disp imm cc && decide (num = 0 ∧ to = 0)
  else if kind = 3 then decide (0 ≤ num ∧ num ≤ 15) && zeroX op w dst src base disp imm cc && decide (reg = 0 ∧ phys = 0 ∧ to = 0)
  else if kind = 4 then ccM cc && zeroX (op - 29) w dst src base disp imm 0 && decide (0 ≤ to ∧ to ≤ 64) && decide (reg = 0 ∧ phys = 0 ∧ num = 0)
  else if kind = 5 then decide (0 ≤ to ∧ to ≤ 64) && zeroX op w dst src base disp imm cc && decide (reg = 0 ∧ phys = 0 ∧ num = 0)
  else if kind = 6 then zeroX op w dst src base disp imm cc && decide (reg = 0 ∧ phys = 0 ∧ num = 0 ∧ to = 0)
  else false
theorem eq_irc (k1 a1 a2 a3 a4 a5 a6 a7 a8 a9 a10 a11 a12 k2 b1 b2 b3 b4 b5 b6 b7 b8 b9 b10 b11 b12 : Int) : eqCells (irC k1 a1 a2 a3 a4 a5 a6 a7 a8 a9 a10 a11 a12) (irC k2 b1 b2 b3 b4 b5 b6 b7 b8 b9 b10 b11 b12) =
  decide (k1 = k2 ∧ a1 = b1 ∧ a2 = b2 ∧ a3 = b3 ∧ a4 = b4 ∧ a5 = b5 ∧ a6 = b6 ∧ a7 = b7 ∧ a8 = b8 ∧ a9 = b9 ∧ a10 = b10 ∧ a11 = b11 ∧ a12 = b12) := by
 rw [Bool.eq_iff_iff]
 simp [eqCells, eqCell]
theorem mayI_4 (op w dst src base disp imm cc reg phys num to : Int) : mayI 4 op w dst src base disp imm cc reg phys num to = (ccM cc && zeroX (op - 29) w dst src base disp imm 0 && decide (0 ≤ to ∧ to ≤ 64) && decide (reg = 0 ∧ phys = 0 ∧ num = 0)) := rfl
theorem mayI_5 (op w dst src base disp imm cc reg phys num to : Int) : mayI 5 op w dst src base disp imm cc reg phys num to = (decide (0 ≤ to ∧ to ≤ 64) && zeroX op w dst src base disp imm cc && decide (reg = 0 ∧ phys = 0 ∧ num = 0)) := rfl
def stopsI (kind op : Int) : Bool := decide ((3 ≤ kind ∧ kind ≤ 6) ∨ (kind = 0 ∧ (op = 26 ∨ op = 27)))
def IrS.ok (s : IrS) : Prop := -128 ≤ s.kind ∧ s.kind ≤ 127 ∧ s.op ≤ 127 ∧ s.cc ≤ 127 ∧ s.phys ≤ 127 ∧ -128 ≤ s.reg ∧ s.reg ≤ 127
def AllOk (l : List IrS) : Prop := ∀ s ∈ l, s.ok
def IrS.may (s : IrS) : Bool := mayI s.kind s.op s.w s.dst s.src s.base s.disp s.imm s.cc s.reg s.phys s.num s.to
def IrS.stops (s : IrS) : Bool := stopsI s.kind s.op
def badI (l : List IrS) : Option Nat := l.findIdx? (fun s => !s.may)
def chkI (l : List IrS) : Int × Int := match badI l with
  | some k => ((k : Int), 2)
  | none => (0, 0)
def runI : List IrS → RgS → MachS → RgS × MachS × Nat × Int
  | [], r, m => (r, m, 0, 0)
  | s :: t, r, m => match s.stops with
    | true => (r, m, t.length + 1, 0)
    | false => if s.kind = 1 then runI t r (m.put s.phys (r.get s.reg))
      else if s.kind = 2 then runI t (r.put s.reg (rg m.rl s.phys)) m
      else if (execS m s.x 0).2 = 0 then runI t r ((execS m s.x 0).1.at 0)
      else (.zero, .zero, t.length + 1, (execS m s.x 0).2)
def restI (l : List IrS) (r : RgS) (m : MachS) : List IrS := l.drop (l.length - (runI l r m).2.2.1)
def doI (l : List IrS) (r : RgS) : RgS × MachS × Int × Int :=
  if (chkI l).2 = 0 then
    let q := runI l r .zero
    if q.2.2.2 = 0 then (q.1, q.2.1, ((l.length - q.2.2.1 : Nat) : Int), 0) else (.zero, .zero, 0, q.2.2.2)
  else (.zero, .zero, 0, 2)
def namedI (k : Int) (n : Int) : List IrS → Int
  | [] => n
  | s :: t => namedI k (if s.kind = k ∧ 0 ≤ s.reg ∧ s.reg ≤ 10 then or64 n (sh8 s.reg) else n) t
def oneOK (kind op width size : Int) (byReg : Bool) (dst src off imm : Int) : Bool := mayM kind op width size byReg dst src off imm && (!(kind == 3) && !(kind == 4))
def oneL (kind op width size : Int) (byReg : Bool) (dst src off imm : Int) : List D := if oneOK kind op width size byReg dst src off imm then stepsM kind op width size byReg dst src off imm else []
def oneE (kind op width size : Int) (byReg : Bool) (dst src off imm : Int) : Int := if oneOK kind op width size byReg dst src off imm then 0 else 2
def irOf : D → IrS
  | .agg [.int _ a, .int _ b, .int _ c, .int _ d, .int _ e, .int _ f, .int _ g, .int _ h, .int _ i, .int _ j, .int _ k, .int _ l, .int _ m] => ⟨a, b, c, d, e, f, g, h, i, j, k, l, m⟩
  | _ => ⟨0, 0, 0, 0, 0, 0, 0, 0, 0, 0, 0, 0, 0⟩
def AllIr (l : List D) : Prop := (l.map irOf).map IrS.d = l
def irK : List LK := [.int .i8, .int .i8, .int .i8, .int .i8, .int .i8, .int .i8, .int .i64, .int .i64, .int .i8, .int .i8, .int .i8, .int .i64, .int .i64]
theorem has8_ {n : Int} (h : IntKind.i8.has n) : -128 ≤ n ∧ n ≤ 127 := by
 simp [IntKind.has, IntKind.min, IntKind.max, IntKind.signed, IntKind.bits] at h
 omega
theorem ir_of {ds : List D} (h : okL irK ds) : (irOf (.agg ds)).d = .agg ds ∧ (irOf (.agg ds)).ok := by
 simp only [irK, okL] at h
 obtain ⟨a1, _, rfl, h1, a2, _, rfl, h2, a3, _, rfl, h3, a4, _, rfl, h4, a5, _, rfl, h5, a6, _, rfl, h6, a7, _, rfl, h7, a8, _, rfl, h8, a9, _, rfl, h9, a10, _, rfl, h10, a11, _, rfl, h11, a12, _, rfl, h12, a13, _, rfl, h13, rfl⟩ := h
 have k1 := has8_ h1
 have k2 := has8_ h2
 have k9 := has8_ h9
 have k10 := has8_ h10
 have k11 := has8_ h11
 exact ⟨rfl, k1.1, k1.2, k2.2, k9.2, k11.2, k10.1, k10.2⟩
theorem irs_of : ∀ (xs : List (List D)), (∀ ds ∈ xs, okL irK ds) → ∃ l : List IrS, xs.map .agg = l.map IrS.d ∧ AllOk l ∧ l.length = xs.length
 | [], _ => ⟨[], rfl, fun s hs => (by simp at hs), rfl⟩
 | ds :: r, h => by
  obtain ⟨l, e, ho, hl⟩ := irs_of r (fun d hd => h d (List.mem_cons_of_mem _ hd))
  obtain ⟨e1, o1⟩ := ir_of (h ds (List.mem_cons_self ..))
  refine ⟨irOf (.agg ds) :: l, by rw [List.map_cons, List.map_cons, e, e1], fun s hs => ?_, by simp [hl]⟩
  rcases List.mem_cons.mp hs with rfl | hs
  ·exact o1
  ·exact ho s hs
def xK : List LK := [.int .i8, .int .i8, .int .i8, .int .i8, .int .i8, .int .i64, .int .i64, .int .i8]
def AllX (l : List XS) : Prop := ∀ x ∈ l, x.op ≤ 127
theorem xs_of : ∀ (xs : List (List D)), (∀ ds ∈ xs, okL xK ds) → ∃ l : List XS, xs.map .agg = l.map xsD ∧ AllX l ∧ l.length = xs.length
 | [], _ => ⟨[], rfl, fun s hs => (by simp at hs), rfl⟩
 | ds :: r, h => by
  obtain ⟨l, e, ho, hl⟩ := xs_of r (fun d hd => h d (List.mem_cons_of_mem _ hd))
  have h0 := h ds (List.mem_cons_self ..)
  simp only [xK, okL] at h0
  obtain ⟨a1, _, rfl, h1, a2, _, rfl, h2, a3, _, rfl, h3, a4, _, rfl, h4, a5, _, rfl, h5, a6, _, rfl, h6, a7, _, rfl, h7, a8, _, rfl, h8, rfl⟩ := h0
  refine ⟨⟨a1, a2, a3, a4, a5, a6, a7, a8⟩ :: l, by rw [List.map_cons, List.map_cons, e]; rfl, fun s hs => ?_, by simp [hl]⟩
  rcases List.mem_cons.mp hs with rfl | hs
  ·exact (has8_ h1).2
  ·exact ho s hs
def catM : List XS → List Int
  | [] => []
  | x :: r => bytesXS x ++ catM r
def posM : Int → List XS → List Int
  | _, [] => []
  | s, x :: r => s :: posM (s + (bytesXS x).length) r
def intsD (l : List Int) : List D := l.map (.int .i64)
def xsL (l : List XS) : List D := l.map xsD
theorem catM_append : ∀ (p q : List XS), catM (p ++ q) = catM p ++ catM q
 | [], q => rfl
 | x :: p, q => by rw [List.cons_append, catM, catM, catM_append p q, List.append_assoc]
theorem catM_snoc (p : List XS) (x : XS) : catM (p ++ [x]) = catM p ++ bytesXS x := by rw [catM_append]; simp [catM]
theorem catM_len : ∀ (p : List XS), p.length ≤ (catM p).length ∧ (catM p).length ≤ 11 * p.length
 | [] => ⟨Nat.le_refl _, Nat.le_refl _⟩
 | x :: p => by
  obtain ⟨h1, h2⟩ := catM_len p
  obtain ⟨h3, h4⟩ := bytes_len x
  simp only [catM, List.length_append, List.length_cons]
  omega
theorem xsL_get (p : List XS) (j : Nat) (h : j < p.length) : (xsL p)[j]? = some (xsD p[j]) := by simp [xsL, h]
theorem intsD_get {l : List Int} {j : Nat} {v : Int} (h : l[j]? = some v) : (intsD l)[j]? = some (.int .i64 v) := by simp [intsD, h]
theorem intsD_len (l : List Int) : (intsD l).length = l.length := by simp [intsD]
theorem xsL_len (l : List XS) : (xsL l).length = l.length := by simp [xsL]
def InstS.may (x : InstS) : Bool := mayM x.kind x.op x.width x.size x.byReg x.dst x.src x.off x.imm
def isd (l : List InstS) : List D := l.map InstS.d
def tgt2 (i kind off : Int) : Bool := (kind == 3 || kind == 4) && (decide (-1099511627776 ≤ i ∧ i ≤ 1099511627776) && decide (-1099511627776 ≤ off ∧ off ≤ 1099511627776))
def tgt1 (i kind off : Int) : Int := if tgt2 i kind off = true then i + 1 + off else 0
def ckFrom (n : Int) : Int → List InstS → Option (Int × Int)
  | _, [] => none
  | i, x :: r => if x.may = false then some (i, 31) else if tgt2 i x.kind x.off = true ∧ ¬ (0 ≤ tgt1 i x.kind x.off ∧ tgt1 i x.kind x.off < n) then some (i, 32) else ckFrom n (i + 1) r
def kindAt (l : List InstS) (i : Nat) : Int := match l[i]? with | some x => x.kind | none => 0
def checkM (ctx : Int) (l : List InstS) : Int × Int :=
  if ctx < 0 ∨ 256 < ctx then (0, 2) else if l.length < 1 ∨ 64 < l.length then (0, 3)
  else match ckFrom l.length 0 l with
    | some r => r
    | none => if kindAt l (l.length - 1) = 4 ∨ kindAt l (l.length - 1) = 6 then (0, 0) else (l.length - 1, 33)
def stopK (k : Int) : Bool := k == 3 || k == 4 || k == 6
def stepB (es : List (Int × D)) (k : Int) (x : InstS) : List (Int × D) :=
  if tgt2 k x.kind x.off = true then updD (if stopK x.kind = true then updD es (k + 1) (.bool true) else es) (tgt1 k x.kind x.off) (.bool true)
  else if stopK x.kind = true then updD es (k + 1) (.bool true) else es
def begE (l : List InstS) : Nat → List (Int × D)
  | 0 => [(0, .bool true)]
  | k + 1 => match l[k]? with
    | some x => stepB (begE l k) k x
    | none => begE l k
def begS (l : List InstS) (k : Nat) (i : Int) : Bool := match l[k]? with
  | some x => (stopK x.kind && i == (k : Int) + 1) || (tgt2 k x.kind x.off && i == tgt1 k x.kind x.off)
  | none => false
def begU (l : List InstS) (i : Int) : Nat → Bool
  | 0 => i == 0
  | k + 1 => begU l i k || begS l k i
def begM (l : List InstS) (i : Int) : Bool := begU l i l.length
structure OkP (l : List InstS) : Prop where
  pos : 1 ≤ l.length
  le : l.length ≤ 64
  may : ∀ j (h : j < l.length), l[j].may = true
  tgt : ∀ j (h : j < l.length), tgt2 j l[j].kind l[j].off = true → 0 ≤ tgt1 j l[j].kind l[j].off ∧ tgt1 j l[j].kind l[j].off < l.length
  last : kindAt l (l.length - 1) = 4 ∨ kindAt l (l.length - 1) = 6
theorem put_set {l : List D} {i : Nat} {x : D} (h : (i : Int) < (l.length : Int)) : PutsA l i [x] (l.set i x) := by
 refine ⟨?_, by simp; omega⟩
 rw [List.set_eq_take_append_cons_drop, if_pos (by omega)]
 rfl
theorem cl_set {l : List D} {i : Nat} {x : D} (h : ∀ c ∈ l, c.clean = true) (hx : x.clean = true) : ∀ c ∈ l.set i x, c.clean = true := by
 intro c hc
 rcases List.mem_or_eq_of_mem_set hc with q | rfl
 ·exact h c q
 ·exact hx
theorem cl_app {l m : List D} (h : ∀ c ∈ l, c.clean = true) (hm : m.all D.clean = true) : ∀ c ∈ l ++ m, c.clean = true := by
 intro c hc
 rcases List.mem_append.1 hc with q | q
 ·exact h c q
 ·exact List.all_eq_true.1 hm c q
structure PaS where
  x : XS
  j : Bool
  to : Int
def PaS.c (p : PaS) : List D := [.int .i8 p.x.op, .int .i8 p.x.w, .int .i8 p.x.dst, .int .i8 p.x.src, .int .i8 p.x.base, .int .i64 p.x.disp, .int .i64 p.x.imm, .int .i8 p.x.cc, .bool p.j, .int .i64 p.to]
def PaS.d (p : PaS) : D := .agg [.int .i8 p.x.op, .int .i8 p.x.w, .int .i8 p.x.dst, .int .i8 p.x.src, .int .i8 p.x.base, .int .i64 p.x.disp, .int .i64 p.x.imm, .int .i8 p.x.cc, .bool p.j, .int .i64 p.to]
def paL (l : List PaS) : List D := l.map PaS.d
def irL (l : List IrS) : List D := l.map IrS.d
def rwL (l : List (List IrS)) : List D := l.map fun r => .lst .no 13 (irL r)
def paC : List PaS → List D
  | [] => []
  | p :: r => p.c ++ paC r
theorem paL_len (l : List PaS) : (paL l).length = l.length := by simp [paL]
theorem irL_len (l : List IrS) : (irL l).length = l.length := by simp [irL]
theorem rwL_len (l : List (List IrS)) : (rwL l).length = l.length := by simp [rwL]
theorem paL_app (a b : List PaS) : paL (a ++ b) = paL a ++ paL b := by simp [paL]
theorem irL_get (l : List IrS) (j : Nat) (h : j < l.length) : (irL l)[j]? = some (IrS.d l[j]) := by simp [irL, h]
theorem rwL_get (l : List (List IrS)) (j : Nat) (h : j < l.length) : (rwL l)[j]? = some (.lst .no 13 (irL l[j])) := by simp [rwL, h]
theorem paL_cells : ∀ l : List PaS, cellsOfL (paL l) = some (paC l)
 | [] => rfl
 | p :: r => by
  have h := paL_cells r
  unfold paL at h ⊢
  simp only [List.map_cons, cellsOfL, h]
  rfl
theorem paC_len : ∀ l : List PaS, (paC l).length = l.length * 10
 | [] => rfl
 | p :: r => by simp only [paC, List.length_append, List.length_cons, paC_len r, PaS.c, List.length_nil]; omega
theorem paC_app : ∀ a b : List PaS, paC (a ++ b) = paC a ++ paC b
 | [], b => rfl
 | p :: a, b => by rw [List.cons_append, paC, paC, paC_app a b, List.append_assoc]
def mayL (s : IrS) (n : Int) : Bool :=
  if s.kind = 0 then decide (s.reg = 0 ∧ s.phys = 0 ∧ s.num = 0 ∧ s.to = 0) && (mayXS s.x && !decide (s.op = 28 ∨ s.op = 29))
  else if s.kind = 4 ∨ s.kind = 5 then s.may && decide (s.to < n)
  else false
def inP (x : XS) : PaS := ⟨x, false, 0⟩
def jcP (cc to : Int) : PaS := ⟨⟨29, 8, 0, 0, 0, 0, 0, cc⟩, true, to⟩
def jmP (to : Int) : PaS := ⟨⟨28, 8, 0, 0, 0, 0, 0, 0⟩, true, to⟩
def stepP (n : Nat) (b : Int) (i : Nat) (s : IrS) : List PaS :=
  if s.kind = 0 then [inP s.x]
  else if s.kind = 4 then [jcP s.cc s.to]
  else if i = 0 ∨ i + 1 < n ∨ s.to ≠ b + 1 then [jmP s.to] else []
def blkG (n : Nat) (b : Int) : Nat → List IrS → List PaS
  | _, [] => []
  | i, s :: t => stepP n b i s ++ blkG n b (i + 1) t
def blkP (l : List IrS) (b : Int) : List PaS := blkG l.length b 0 l
def allP : Int → List (List IrS) → List PaS
  | _, [] => []
  | b, l :: r => blkP l b ++ allP (b + 1) r
def begP : Nat → Int → List (List IrS) → List Int
  | _, _, [] => []
  | k, b, l :: r => (k : Int) :: begP (k + (blkP l b).length) (b + 1) r
theorem stepP_len (n : Nat) (b : Int) (i : Nat) (s : IrS) : (stepP n b i s).length ≤ 1 := by
 unfold stepP
 split
 ·simp
 ·split
  ·simp
  ·split <;> simp
theorem blkG_len (n : Nat) (b : Int) : ∀ (l : List IrS) (i : Nat), (blkG n b i l).length ≤ l.length
 | [], i => by simp [blkG]
 | s :: t, i => by
  have h1 := stepP_len n b i s
  have h2 := blkG_len n b t (i + 1)
  simp only [blkG, List.length_append, List.length_cons]
  omega
theorem blkG_snoc (n : Nat) (b : Int) : ∀ (l : List IrS) (i : Nat) (s : IrS), blkG n b i (l ++ [s]) = blkG n b i l ++ stepP n b (i + l.length) s
 | [], i, s => by simp [blkG]
 | a :: l, i, s => by
  rw [List.cons_append, blkG, blkG, blkG_snoc n b l (i + 1) s, List.append_assoc]
  congr 3
  simp only [List.length_cons]
  omega
theorem begP_len : ∀ (l : List (List IrS)) (k : Nat) (b : Int), (begP k b l).length = l.length
 | [], k, b => rfl
 | a :: l, k, b => by simp only [begP, List.length_cons, begP_len l]
theorem PaS.c_clean (p : PaS) : ∀ d ∈ p.c, d.clean = true := by
 intro d hd
 simp only [PaS.c, List.mem_cons, List.not_mem_nil, or_false] at hd
 rcases hd with rfl | rfl | rfl | rfl | rfl | rfl | rfl | rfl | rfl | rfl <;> rfl
theorem paC_clean : ∀ (l : List PaS), ∀ d ∈ paC l, d.clean = true
 | [], d, h => by cases h
 | p :: r, d, h => by
  rcases List.mem_append.1 h with q | q
  ·exact p.c_clean d q
  ·exact paC_clean r d q
theorem paC_clean2 (a b : List PaS) : ∀ d ∈ paC a ++ paC b, d.clean = true := by rw [← paC_app]; exact paC_clean _
theorem paC_demote : ∀ (l : List PaS), (paC l).map D.demote = paC l
 | [] => rfl
 | p :: r => by rw [paC, List.map_append, paC_demote r]; rfl
theorem allP_snoc : ∀ (l : List (List IrS)) (b : Int) (r : List IrS), allP b (l ++ [r]) = allP b l ++ blkP r (b + l.length)
 | [], b, r => by simp [allP]
 | a :: l, b, r => by
  rw [List.cons_append, allP, allP, allP_snoc l (b + 1) r, List.append_assoc]
  congr 3
  simp only [List.length_cons]
  omega
theorem begP_snoc : ∀ (l : List (List IrS)) (k : Nat) (b : Int) (r : List IrS), begP k b (l ++ [r]) = begP k b l ++ [((k + (allP b l).length : Nat) : Int)]
 | [], k, b, r => by simp [begP, allP]
 | a :: l, k, b, r => by
  rw [List.cons_append, begP, begP, begP_snoc l _ (b + 1) r, List.cons_append, allP, List.length_append, Nat.add_assoc]
def sumL (l : List (List IrS)) : Nat := (l.map List.length).sum
theorem sumL_snoc (l : List (List IrS)) (r : List IrS) : sumL (l ++ [r]) = sumL l + r.length := by simp [sumL]
theorem sumL_mem {l : List (List IrS)} {r : List IrS} (h : r ∈ l) : r.length ≤ sumL l := by
 induction l with
 | nil => cases h
 | cons a l ih =>
  rcases List.mem_cons.1 h with rfl | h
  ·simp [sumL]
  ·have := ih h
   simp only [sumL, List.map_cons, List.sum_cons] at this ⊢
   omega
theorem sumL_take (l : List (List IrS)) (b : Nat) : sumL (l.take b) ≤ sumL l := by
 have : sumL l = sumL (l.take b) + sumL (l.drop b) := by
  unfold sumL
  rw [← List.sum_append, ← List.map_append, List.take_append_drop]
 omega
theorem allP_len : ∀ (l : List (List IrS)) (b : Int), (allP b l).length ≤ sumL l
 | [], b => by simp [allP]
 | a :: l, b => by
  have h1 := allP_len l (b + 1)
  have h2 := blkG_len a.length b a 0
  simp only [allP, List.length_append, sumL, List.map_cons, List.sum_cons, blkP] at h1 ⊢
  omega
theorem gets_id {l : List D} {i n : Nat} {l' : List D} (h : GetsA l i n l') : GetsA l i n l' := h
end Go.Ev
namespace Go.Proofs.Ytcngafhpodeenaa
open Go Go.Ev
theorem sL : (∀ {α : Type} {a b : List α}, (a ++ b).length = a.length + b.length) ∧ (∀ {α : Type} {x : α} {a : List α}, (x :: a).length = a.length + 1) ∧ (∀ {α : Type}, ([] : List α).length = 0) ∧ (∀ {α : Type} {a : List α} {i : Nat} {x : α}, (a.set i x).length = a.length) ∧ (∀ l : List Int, (bD l).length = l.length) ∧ (∀ l : List Int, (intsD l).length = l.length) ∧ (∀ l : List XS, (xsL l).length = l.length) ∧ (∀ l : List (List IrS), (rwL l).length = l.length) ∧ (∀ l : List IrS, (irL l).length = l.length) ∧ (∀ l : List PaS, (paL l).length = l.length) ∧ (∀ n : Int, IntKind.i8.wrap n = (n + 128) % 256 - 128) ∧ (∀ n : Int, IntKind.u8.wrap n = n % 256) ∧ (∀ n : Int, IntKind.i64.wrap n = (n + 9223372036854775808) % 18446744073709551616 - 9223372036854775808) ∧ (∀ n : Int, IntKind.u64.wrap n = n % 18446744073709551616) ∧ (∀ {p : Prop} [Decidable p], (decide p = true) = p) ∧ (∀ {p : Prop} [Decidable p], (decide p = false) ↔ ¬p) ∧ (∀ {α : Type} [BEq α] [LawfulBEq α] {a b : α}, (a == b) = true ↔ a = b) ∧ (∀ {α : Type} [BEq α] [LawfulBEq α] {a b : α}, (a != b) = true ↔ a ≠ b) ∧ (∀ {α : Type} [BEq α] [LawfulBEq α] {a b : α}, (a == b) = false ↔ a ≠ b) ∧ (∀ {α : Type} [BEq α] [LawfulBEq α] {a b : α}, (a != b) = false ↔ a = b) ∧ (∀ (b : Bool), ((!b) = true) = (b = false)) ∧ (∀ (b : Bool), ((!b) = false) = (b = true)) ∧ (∀ (a b : Bool), ((a && b) = true) = (a = true ∧ b = true)) ∧ (∀ (a b : Bool), ((a || b) = true) = (a = true ∨ b = true)) :=
 ⟨List.length_append, List.length_cons, List.length_nil, List.length_set, len_bD, intsD_len, xsL_len, rwL_len, irL_len, paL_len, w_i8, w_u8, w_i64, w_u64, @decide_eq_true_eq, @decide_eq_false_iff_not, @beq_iff_eq, @bne_iff_ne, @beq_eq_false_iff_ne, @bne_eq_false_iff_eq, by intro b; cases b <;> simp, by intro b; cases b <;> simp, by intro a b; simp, by intro a b; simp⟩
abbrev un (n : Nat) : List D := List.replicate n .undef
theorem lm_0_ok (op w dst src base disp imm cc reg phys num to n : Int) (q : Bool) (hm : Ret Try.prog 56 [xD op w dst src base disp imm cc] (.bool q))  : Ret Try.prog 124 ([irD 0 op w dst src base disp imm cc reg phys num to, .int .i64 n]) (.bool (decide (reg = 0 ∧ phys = 0 ∧ num = 0 ∧ to = 0) && (q && !decide (op = 28 ∨ op = 29)))) := by
 let E1 : EL := [tT, .flat _ _ flat_Ir]
 by_cases h0 : reg = 0
 ·subst h0
  by_cases h1 : phys = 0
  ·subst h1
   by_cases h2 : num = 0
   ·subst h2
    by_cases h3 : to = 0
    ·subst h3
     cases q
     ·exact (o124 (d := .bool false) (E1 ++ List.replicate 3 (tC (eT (andT rfl (andT (beq_self_eq_true op) (andT (beq_self_eq_true w) (andT (beq_self_eq_true dst) (andT (beq_self_eq_true src) (andT (beq_self_eq_true base) (andT (beq_self_eq_true disp) (andT (beq_self_eq_true imm) (andT (beq_self_eq_true cc) (rfl : true = true)))))))))))) ++ [.ret _ _ _ hm, tC (andT rfl (andT (beq_self_eq_true op) (andT (beq_self_eq_true w) (andT (beq_self_eq_true dst) (andT (beq_self_eq_true src) (andT (beq_self_eq_true base) (andT (beq_self_eq_true disp) (andT (beq_self_eq_true imm) (andT (beq_self_eq_true cc) (rfl : true = true)))))))))), tF, tF, tF, tF, tF]) (by kernel_rfl)).to (by clear E1; (try simp only [sl0, wk, wkL, wkO, eqCells, eqCell, eq_irc] at *); (simp [wk, wkL, wkO, eqCells, eqCell, eq_irc, *]; done))
     by_cases h4 : op = 28
     ·subst h4
      exact (o124 (d := .bool false) (E1 ++ List.replicate 3 (tC (eT (andT rfl (andT (beq_self_eq_true 28) (andT (beq_self_eq_true w) (andT (beq_self_eq_true dst) (andT (beq_self_eq_true src) (andT (beq_self_eq_true base) (andT (beq_self_eq_true disp) (andT (beq_self_eq_true imm) (andT (beq_self_eq_true cc) (rfl : true = true)))))))))))) ++ [.ret _ _ _ hm, tC (andT rfl (andT (beq_self_eq_true 28) (andT (beq_self_eq_true w) (andT (beq_self_eq_true dst) (andT (beq_self_eq_true src) (andT (beq_self_eq_true base) (andT (beq_self_eq_true disp) (andT (beq_self_eq_true imm) (andT (beq_self_eq_true cc) (rfl : true = true)))))))))), tT, tT, tT, .inl, tF, tF, tF, tT, tT, tT]) (by kernel_rfl)).to (by clear E1; (try simp only [sl0, wk, wkL, wkO, eqCells, eqCell, eq_irc] at *); (simp [wk, wkL, wkO, eqCells, eqCell, eq_irc, *]; done))
     exact (o124 (d := .bool !op == 29) (E1 ++ List.replicate 3 (tC (eT (andT rfl (andT (beq_self_eq_true op) (andT (beq_self_eq_true w) (andT (beq_self_eq_true dst) (andT (beq_self_eq_true src) (andT (beq_self_eq_true base) (andT (beq_self_eq_true disp) (andT (beq_self_eq_true imm) (andT (beq_self_eq_true cc) (rfl : true = true)))))))))))) ++ [.ret _ _ _ hm, tC (andT rfl (andT (beq_self_eq_true op) (andT (beq_self_eq_true w) (andT (beq_self_eq_true dst) (andT (beq_self_eq_true src) (andT (beq_self_eq_true base) (andT (beq_self_eq_true disp) (andT (beq_self_eq_true imm) (andT (beq_self_eq_true cc) (rfl : true = true)))))))))), tT, tT, tT, .inl] ++ List.replicate 3 (tC (eF (neOf h4))) ++ [tC (neOf h4), tT, tT]) (by kernel_rfl)).to (by clear E1; (try simp only [sl0, wk, wkL, wkO, eqCells, eqCell, eq_irc] at *); (rw [Bool.eq_iff_iff]; simp [wk, wkL, wkO, eqCells, eqCell, eq_irc, *]; done))
    exact (o124 (d := .bool false) (E1 ++ List.replicate 3 (tC (eT (andT rfl (andT (beq_self_eq_true op) (andT (beq_self_eq_true w) (andT (beq_self_eq_true dst) (andT (beq_self_eq_true src) (andT (beq_self_eq_true base) (andT (beq_self_eq_true disp) (andT (beq_self_eq_true imm) (andT (beq_self_eq_true cc) (andT rfl (andT rfl (andT rfl (andF (y := true) (neOf h3)))))))))))))))) ++ [tC (andT rfl (andT (beq_self_eq_true op) (andT (beq_self_eq_true w) (andT (beq_self_eq_true dst) (andT (beq_self_eq_true src) (andT (beq_self_eq_true base) (andT (beq_self_eq_true disp) (andT (beq_self_eq_true imm) (andT (beq_self_eq_true cc) (andT rfl (andT rfl (andT rfl (andF (y := true) (neOf h3)))))))))))))), tF, tF, tF, tF, tF]) (by kernel_rfl)).to (by clear E1; (try simp only [sl0, wk, wkL, wkO, eqCells, eqCell, eq_irc] at *); (simp [wk, wkL, wkO, eqCells, eqCell, eq_irc, *]; done))
   exact (o124 (d := .bool false) (E1 ++ List.replicate 3 (tC (eT (andT rfl (andT (beq_self_eq_true op) (andT (beq_self_eq_true w) (andT (beq_self_eq_true dst) (andT (beq_self_eq_true src) (andT (beq_self_eq_true base) (andT (beq_self_eq_true disp) (andT (beq_self_eq_true imm) (andT (beq_self_eq_true cc) (andT rfl (andT rfl (andF (y := eqCells [.int .i64 to] [.int .i64 0]) (neOf h2))))))))))))))) ++ [tC (andT rfl (andT (beq_self_eq_true op) (andT (beq_self_eq_true w) (andT (beq_self_eq_true dst) (andT (beq_self_eq_true src) (andT (beq_self_eq_true base) (andT (beq_self_eq_true disp) (andT (beq_self_eq_true imm) (andT (beq_self_eq_true cc) (andT rfl (andT rfl (andF (y := eqCells [.int .i64 to] [.int .i64 0]) (neOf h2))))))))))))), tF, tF, tF, tF, tF]) (by kernel_rfl)).to (by clear E1; (try simp only [sl0, wk, wkL, wkO, eqCells, eqCell, eq_irc] at *); (simp [wk, wkL, wkO, eqCells, eqCell, eq_irc, *]; done))
  exact (o124 (d := .bool false) (E1 ++ List.replicate 3 (tC (eT (andT rfl (andT (beq_self_eq_true op) (andT (beq_self_eq_true w) (andT (beq_self_eq_true dst) (andT (beq_self_eq_true src) (andT (beq_self_eq_true base) (andT (beq_self_eq_true disp) (andT (beq_self_eq_true imm) (andT (beq_self_eq_true cc) (andT rfl (andF (y := eqCells [.int .i64 num, .int .i64 to] [.int .i64 0, .int .i64 0]) (neOf h1)))))))))))))) ++ [tC (andT rfl (andT (beq_self_eq_true op) (andT (beq_self_eq_true w) (andT (beq_self_eq_true dst) (andT (beq_self_eq_true src) (andT (beq_self_eq_true base) (andT (beq_self_eq_true disp) (andT (beq_self_eq_true imm) (andT (beq_self_eq_true cc) (andT rfl (andF (y := eqCells [.int .i64 num, .int .i64 to] [.int .i64 0, .int .i64 0]) (neOf h1)))))))))))), tF, tF, tF, tF, tF]) (by kernel_rfl)).to (by clear E1; (try simp only [sl0, wk, wkL, wkO, eqCells, eqCell, eq_irc] at *); (simp [wk, wkL, wkO, eqCells, eqCell, eq_irc, *]; done))
 exact (o124 (d := .bool false) (E1 ++ List.replicate 3 (tC (eT (andT rfl (andT (beq_self_eq_true op) (andT (beq_self_eq_true w) (andT (beq_self_eq_true dst) (andT (beq_self_eq_true src) (andT (beq_self_eq_true base) (andT (beq_self_eq_true disp) (andT (beq_self_eq_true imm) (andT (beq_self_eq_true cc) (andF (y := eqCells [.int .i8 phys, .int .i64 num, .int .i64 to] [.int .i8 0, .int .i64 0, .int .i64 0]) (neOf h0))))))))))))) ++ [tC (andT rfl (andT (beq_self_eq_true op) (andT (beq_self_eq_true w) (andT (beq_self_eq_true dst) (andT (beq_self_eq_true src) (andT (beq_self_eq_true base) (andT (beq_self_eq_true disp) (andT (beq_self_eq_true imm) (andT (beq_self_eq_true cc) (andF (y := eqCells [.int .i8 phys, .int .i64 num, .int .i64 to] [.int .i8 0, .int .i64 0, .int .i64 0]) (neOf h0))))))))))), tF, tF, tF, tF, tF]) (by kernel_rfl)).to (by clear E1; (try simp only [sl0, wk, wkL, wkO, eqCells, eqCell, eq_irc] at *); (simp [wk, wkL, wkO, eqCells, eqCell, eq_irc, *]; done))
theorem lm_4_ok (op w dst src base disp imm cc reg phys num to n : Int) (q : Bool) (hm : Ret Try.prog 74 [irD 4 op w dst src base disp imm cc reg phys num to] (.bool q))  : Ret Try.prog 124 ([irD 4 op w dst src base disp imm cc reg phys num to, .int .i64 n]) (.bool (q && decide (to < n))) := by
 cases q
 ·exact (o124 (d := .bool false) [tF, tT, tT, .ret _ _ _ hm, tF, tF, tF, tF, tF] (by kernel_rfl)).to (by (try simp only [sl0, wk, wkL, wkO, eqCells, eqCell, eq_irc] at *); (simp [wk, wkL, wkO, eqCells, eqCell, eq_irc, *]; done))
 exact (o124 (d := .bool (decide (to < n))) [tF, tT, tT, .ret _ _ _ hm, tT, tT, tT, tT, tT] (by kernel_rfl)).to (by (try simp only [sl0, wk, wkL, wkO, eqCells, eqCell, eq_irc] at *); (simp [wk, wkL, wkO, eqCells, eqCell, eq_irc, *]; done))
theorem lm_5_ok (op w dst src base disp imm cc reg phys num to n : Int) (q : Bool) (hm : Ret Try.prog 74 [irD 5 op w dst src base disp imm cc reg phys num to] (.bool q))  : Ret Try.prog 124 ([irD 5 op w dst src base disp imm cc reg phys num to, .int .i64 n]) (.bool (q && decide (to < n))) := by
 cases q
 ·exact (o124 (d := .bool false) [tF, tF, tT, .ret _ _ _ hm, tF, tF, tF, tF, tF] (by kernel_rfl)).to (by (try simp only [sl0, wk, wkL, wkO, eqCells, eqCell, eq_irc] at *); (simp [wk, wkL, wkO, eqCells, eqCell, eq_irc, *]; done))
 exact (o124 (d := .bool (decide (to < n))) [tF, tF, tT, .ret _ _ _ hm, tT, tT, tT, tT, tT] (by kernel_rfl)).to (by (try simp only [sl0, wk, wkL, wkO, eqCells, eqCell, eq_irc] at *); (simp [wk, wkL, wkO, eqCells, eqCell, eq_irc, *]; done))
theorem lm_n_ok (kind op w dst src base disp imm cc reg phys num to n : Int) (k0 : kind ≠ 0) (k4 : kind ≠ 4) (k5 : kind ≠ 5)  : Ret Try.prog 124 ([irD kind op w dst src base disp imm cc reg phys num to, .int .i64 n]) (.bool false) := by
 exact (o124 (d := .bool false) [tC (by ((try simp only [sL] at *); (try unfold big at *); omega) : (kind == 0) = false), tC (by ((try simp only [sL] at *); (try unfold big at *); omega) : (kind == 4) = false), tC (by ((try simp only [sL] at *); (try unfold big at *); omega) : (kind == 5) = false)] (by kernel_rfl)).to (by rfl)
theorem bk_end (l : List IrS) (p : List PaS) (b n i : Int) (i0 : 0 ≤ i) (hn : n = ((irL l).length : Int)) (hl : n ≤ 100000) (hp : ((paL p).length : Int) ≤ 100000) (h : n ≤ i)  : RoundRun Try.prog (loopB Try.f126 0) ⟨[], [], [(4, 10)]⟩ 0 ((.lst .no 13 (irL l)) :: (.int .i64 b) :: (uu) :: (uu) :: (.lst (.tok 0 0) 10 (paL p)) :: (uu) :: (uu) :: (.lst .no 13 (irL l)) :: (.int .i64 n) :: (.int .i64 i) :: (un 53)) [.fam 0 10] (.exit 0) (un 4 ++ (.lst (.tok 0 0) 10 (paL p)) :: (un 58)) ([.fam 0 10]) := by
 exact RoundRun.of_eval mixed [tC (by ((try simp only [sL] at *); (try unfold big at *); omega) : (decide (i < n)) = false)] (by kernel_rfl)
theorem bk_x (l : List IrS) (p : List PaS) (b n i : Int) (i0 : 0 ≤ i) (hn : n = ((irL l).length : Int)) (hl : n ≤ 100000) (hp : ((paL p).length : Int) ≤ 100000) (h : i < n) (s : IrS) (hx : (irL l)[Int.toNat i]? = some (IrS.d s)) (hk : s.kind = 0)  : RoundRun Try.prog (loopB Try.f126 0) ⟨[0, 1, 7, 8, 9], [], [(4, 10)]⟩ 0 ((.lst .no 13 (irL l)) :: (.int .i64 b) :: (uu) :: (uu) :: (.lst (.tok 0 0) 10 (paL p)) :: (uu) :: (uu) :: (.lst .no 13 (irL l)) :: (.int .i64 n) :: (.int .i64 i) :: (un 53)) [.fam 0 10] .norm ((.lst .no 13 (irL l)) :: (.int .i64 b) :: (uu) :: (uu) :: (.lst (.tok 0 0) 10 (paL p ++ [PaS.d (inP (IrS.x s))])) :: (uu) :: (uu) :: (.lst .no 13 (irL l)) :: (.int .i64 n) :: (.int .i64 (IntKind.i64.wrap (i + 1))) :: (un 53)) ([.fam 0 10]) := by
 exact RoundRun.of_eval mixed [tC (by ((try simp only [sL] at *); (try unfold big at *); omega) : (decide (i < n)) = true), tC (v := true) (leL 0 (decide_eq_false (Int.not_lt.2 i0))), .get _ _ _ hx, tC (eqI 0 true (by ((try simp only [sL] at *); (try unfold big at *); omega) : IrS.kind s = 0)), .len (List.length (paL p) + (1 : Nat)) ((2147483648 : Nat)) (by first | decide | omega | (simp; omega))] (by kernel_rfl)
theorem bk_j (l : List IrS) (p : List PaS) (b n i : Int) (i0 : 0 ≤ i) (hn : n = ((irL l).length : Int)) (hl : n ≤ 100000) (hp : ((paL p).length : Int) ≤ 100000) (h : i < n) (s : IrS) (hx : (irL l)[Int.toNat i]? = some (IrS.d s)) (hk : s.kind = 4)  : RoundRun Try.prog (loopB Try.f126 0) ⟨[0, 1, 7, 8, 9], [], [(4, 10)]⟩ 0 ((.lst .no 13 (irL l)) :: (.int .i64 b) :: (uu) :: (uu) :: (.lst (.tok 0 0) 10 (paL p)) :: (uu) :: (uu) :: (.lst .no 13 (irL l)) :: (.int .i64 n) :: (.int .i64 i) :: (un 53)) [.fam 0 10] .norm ((.lst .no 13 (irL l)) :: (.int .i64 b) :: (uu) :: (uu) :: (.lst (.tok 0 0) 10 (paL p ++ [PaS.d (jcP (IrS.cc s) (IrS.to s))])) :: (uu) :: (uu) :: (.lst .no 13 (irL l)) :: (.int .i64 n) :: (.int .i64 (IntKind.i64.wrap (i + 1))) :: (un 53)) ([.fam 0 10]) := by
 exact RoundRun.of_eval mixed [tC (by ((try simp only [sL] at *); (try unfold big at *); omega) : (decide (i < n)) = true), tC (v := true) (leL 0 (decide_eq_false (Int.not_lt.2 i0))), .get _ _ _ hx, tC (by ((try simp only [sL] at *); (try unfold big at *); omega) : (IrS.kind s == 0) = false), tC (eqI 4 true (by ((try simp only [sL] at *); (try unfold big at *); omega) : IrS.kind s = 4)), .len (List.length (paL p) + (1 : Nat)) ((2147483648 : Nat)) (by first | decide | omega | (simp; omega))] (by kernel_rfl)
theorem bk_g0 (l : List IrS) (p : List PaS) (b n i : Int) (i0 : 0 ≤ i) (hn : n = ((irL l).length : Int)) (hl : n ≤ 100000) (hp : ((paL p).length : Int) ≤ 100000) (h : i < n) (s : IrS) (hx : (irL l)[Int.toNat i]? = some (IrS.d s)) (hk : s.kind = 5) (hg : i = 0)  : RoundRun Try.prog (loopB Try.f126 0) ⟨[0, 1, 7, 8, 9], [], [(4, 10)]⟩ 0 ((.lst .no 13 (irL l)) :: (.int .i64 b) :: (uu) :: (uu) :: (.lst (.tok 0 0) 10 (paL p)) :: (uu) :: (uu) :: (.lst .no 13 (irL l)) :: (.int .i64 n) :: (.int .i64 i) :: (un 53)) [.fam 0 10] .norm ((.lst .no 13 (irL l)) :: (.int .i64 b) :: (uu) :: (uu) :: (.lst (.tok 0 0) 10 (paL p ++ [PaS.d (jmP (IrS.to s))])) :: (uu) :: (uu) :: (.lst .no 13 (irL l)) :: (.int .i64 n) :: (.int .i64 (IntKind.i64.wrap (i + 1))) :: (un 53)) ([.fam 0 10]) := by
 exact RoundRun.of_eval mixed ([tC (by ((try simp only [sL] at *); (try unfold big at *); omega) : (decide (i < n)) = true), tC (v := true) (leL 0 (decide_eq_false (Int.not_lt.2 i0))), .get _ _ _ hx, tC (by ((try simp only [sL] at *); (try unfold big at *); omega) : (IrS.kind s == 0) = false), tC (by ((try simp only [sL] at *); (try unfold big at *); omega) : (IrS.kind s == 4) = false)] ++ List.replicate 5 (tC (eF (eqI 0 true (by ((try simp only [sL] at *); (try unfold big at *); omega) : i = 0)))) ++ [tC (eqI 0 true (by ((try simp only [sL] at *); (try unfold big at *); omega) : i = 0)), tF, tF, tF, tF, tF, tT, tT, .len (List.length (paL p) + (1 : Nat)) ((2147483648 : Nat)) (by first | decide | omega | (simp; omega))]) (by kernel_rfl)
theorem bk_g1 (l : List IrS) (p : List PaS) (b n i : Int) (i0 : 0 ≤ i) (hn : n = ((irL l).length : Int)) (hl : n ≤ 100000) (hp : ((paL p).length : Int) ≤ 100000) (h : i < n) (s : IrS) (hx : (irL l)[Int.toNat i]? = some (IrS.d s)) (hk : s.kind = 5) (hg : i ≠ 0) (hh : i + 1 < n)  : RoundRun Try.prog (loopB Try.f126 0) ⟨[0, 1, 7, 8, 9], [], [(4, 10)]⟩ 0 ((.lst .no 13 (irL l)) :: (.int .i64 b) :: (uu) :: (uu) :: (.lst (.tok 0 0) 10 (paL p)) :: (uu) :: (uu) :: (.lst .no 13 (irL l)) :: (.int .i64 n) :: (.int .i64 i) :: (un 53)) [.fam 0 10] .norm ((.lst .no 13 (irL l)) :: (.int .i64 b) :: (uu) :: (uu) :: (.lst (.tok 0 0) 10 (paL p ++ [PaS.d (jmP (IrS.to s))])) :: (uu) :: (uu) :: (.lst .no 13 (irL l)) :: (.int .i64 n) :: (.int .i64 (IntKind.i64.wrap (i + 1))) :: (un 53)) ([.fam 0 10]) := by
 exact RoundRun.of_eval mixed ([tC (by ((try simp only [sL] at *); (try unfold big at *); omega) : (decide (i < n)) = true), tC (v := true) (leL 0 (decide_eq_false (Int.not_lt.2 i0))), .get _ _ _ hx, tC (by ((try simp only [sL] at *); (try unfold big at *); omega) : (IrS.kind s == 0) = false), tC (by ((try simp only [sL] at *); (try unfold big at *); omega) : (IrS.kind s == 4) = false)] ++ List.replicate 5 (tC (eF (by ((try simp only [sL] at *); (try unfold big at *); omega) : (i == 0) = false))) ++ [tC (by ((try simp only [sL] at *); (try unfold big at *); omega) : (i == 0) = false)] ++ List.replicate 5 (tC (eF (by ((try simp only [sL] at *); (try unfold big at *); omega) : (decide (i < IntKind.i64.wrap ((↑(List.length (irL l)) : Int) - 1))) = true))) ++ [tC (by ((try simp only [sL] at *); (try unfold big at *); omega) : (decide (i < IntKind.i64.wrap ((↑(List.length (irL l)) : Int) - 1))) = true), tT, .len (List.length (paL p) + (1 : Nat)) ((2147483648 : Nat)) (by first | decide | omega | (simp; omega))]) (by kernel_rfl)
theorem bk_g2 (l : List IrS) (p : List PaS) (b n i : Int) (i0 : 0 ≤ i) (hn : n = ((irL l).length : Int)) (hl : n ≤ 100000) (hp : ((paL p).length : Int) ≤ 100000) (h : i < n) (s : IrS) (hx : (irL l)[Int.toNat i]? = some (IrS.d s)) (hk : s.kind = 5) (hg : i ≠ 0) (hh : n ≤ i + 1) (ht : s.to ≠ IntKind.i64.wrap (b + 1))  : RoundRun Try.prog (loopB Try.f126 0) ⟨[0, 1, 7, 8, 9], [], [(4, 10)]⟩ 0 ((.lst .no 13 (irL l)) :: (.int .i64 b) :: (uu) :: (uu) :: (.lst (.tok 0 0) 10 (paL p)) :: (uu) :: (uu) :: (.lst .no 13 (irL l)) :: (.int .i64 n) :: (.int .i64 i) :: (un 53)) [.fam 0 10] .norm ((.lst .no 13 (irL l)) :: (.int .i64 b) :: (uu) :: (uu) :: (.lst (.tok 0 0) 10 (paL p ++ [PaS.d (jmP (IrS.to s))])) :: (uu) :: (uu) :: (.lst .no 13 (irL l)) :: (.int .i64 n) :: (.int .i64 (IntKind.i64.wrap (i + 1))) :: (un 53)) ([.fam 0 10]) := by
 exact RoundRun.of_eval mixed ([tC (by ((try simp only [sL] at *); (try unfold big at *); omega) : (decide (i < n)) = true), tC (v := true) (leL 0 (decide_eq_false (Int.not_lt.2 i0))), .get _ _ _ hx, tC (by ((try simp only [sL] at *); (try unfold big at *); omega) : (IrS.kind s == 0) = false), tC (by ((try simp only [sL] at *); (try unfold big at *); omega) : (IrS.kind s == 4) = false)] ++ List.replicate 5 (tC (eF (by ((try simp only [sL] at *); (try unfold big at *); omega) : (i == 0) = false))) ++ [tC (by ((try simp only [sL] at *); (try unfold big at *); omega) : (i == 0) = false)] ++ List.replicate 5 (tC (eF (by ((try simp only [sL] at *); (try unfold big at *); omega) : (decide (i < IntKind.i64.wrap ((↑(List.length (irL l)) : Int) - 1))) = false))) ++ [tC (by ((try simp only [sL] at *); (try unfold big at *); omega) : (decide (i < IntKind.i64.wrap ((↑(List.length (irL l)) : Int) - 1))) = false), tC (nt (by ((try simp only [sL] at *); (try unfold big at *); omega) : (IrS.to s == IntKind.i64.wrap (b + 1)) = false)), .len (List.length (paL p) + (1 : Nat)) ((2147483648 : Nat)) (by first | decide | omega | (simp; omega))]) (by kernel_rfl)
theorem bk_s (l : List IrS) (p : List PaS) (b n i : Int) (i0 : 0 ≤ i) (hn : n = ((irL l).length : Int)) (hl : n ≤ 100000) (hp : ((paL p).length : Int) ≤ 100000) (h : i < n) (s : IrS) (hx : (irL l)[Int.toNat i]? = some (IrS.d s)) (hk : s.kind = 5) (hg : i ≠ 0) (hh : n ≤ i + 1) (ht : s.to = IntKind.i64.wrap (b + 1))  : RoundRun Try.prog (loopB Try.f126 0) ⟨[0, 1, 7, 8, 9], [], [(4, 10)]⟩ 0 ((.lst .no 13 (irL l)) :: (.int .i64 b) :: (uu) :: (uu) :: (.lst (.tok 0 0) 10 (paL p)) :: (uu) :: (uu) :: (.lst .no 13 (irL l)) :: (.int .i64 n) :: (.int .i64 i) :: (un 53)) [.fam 0 10] .norm ((.lst .no 13 (irL l)) :: (.int .i64 b) :: (uu) :: (uu) :: (.lst (.tok 0 0) 10 (paL p)) :: (uu) :: (uu) :: (.lst .no 13 (irL l)) :: (.int .i64 n) :: (.int .i64 (IntKind.i64.wrap (i + 1))) :: (un 53)) ([.fam 0 10]) := by
 exact RoundRun.of_eval mixed ([tC (by ((try simp only [sL] at *); (try unfold big at *); omega) : (decide (i < n)) = true), tC (v := true) (leL 0 (decide_eq_false (Int.not_lt.2 i0))), .get _ _ _ hx, tC (by ((try simp only [sL] at *); (try unfold big at *); omega) : (IrS.kind s == 0) = false), tC (by ((try simp only [sL] at *); (try unfold big at *); omega) : (IrS.kind s == 4) = false)] ++ List.replicate 5 (tC (eF (by ((try simp only [sL] at *); (try unfold big at *); omega) : (i == 0) = false))) ++ [tC (by ((try simp only [sL] at *); (try unfold big at *); omega) : (i == 0) = false)] ++ List.replicate 5 (tC (eF (by ((try simp only [sL] at *); (try unfold big at *); omega) : (decide (i < IntKind.i64.wrap ((↑(List.length (irL l)) : Int) - 1))) = false))) ++ [tC (by ((try simp only [sL] at *); (try unfold big at *); omega) : (decide (i < IntKind.i64.wrap ((↑(List.length (irL l)) : Int) - 1))) = false), tC (nt (by ((try simp only [sL] at *); (try unfold big at *); omega) : (IrS.to s == IntKind.i64.wrap (b + 1)) = true))]) (by kernel_rfl)
theorem fmay_0_ok  : Ret Try.prog 170 ([.int .i8 0]) (.bool false) := by
 exact (Ret.of_eval (d := .bool false) mixed Try.func170 (by kernel_rfl) ([tT, tT, tT, tT, .inl, .inl, .inl, .inl, .inl, .inl, .inl, .inl, .inl, .inl, tT, tT] ++ [tT, .get ([D.nilf, D.nilf, D.fn (Fn.func 193) [] [], D.fn (Fn.func 199) [] [.ptr false 1 0], D.fn (Fn.func 194) [] [], D.fn (Fn.func 199) [] [.ptr false 2 0], D.fn (Fn.func 197) [] [.ptr false 3 0, .ptr false 4 0], D.fn (Fn.func 199) [] [.ptr false 7 0], D.nilf, D.nilf, D.nilf, D.nilf, D.fn (Fn.func 195) [] [], D.fn (Fn.func 199) [] [.ptr false 8 0], D.fn (Fn.func 197) [] [.ptr false 9 0, .ptr false 10 0], D.fn (Fn.func 199) [] [.ptr false 13 0]]) 0 _ rfl, tT, tT]) (by kernel_rfl)).to (by ((simp only [wk, wkL, and_true]; repeat' (first | rfl | exact True.intro | apply And.intro)); done))
theorem fmay_1_ok  : Ret Try.prog 170 ([.int .i8 1]) (.bool false) := by
 exact (Ret.of_eval (d := .bool false) mixed Try.func170 (by kernel_rfl) ([tT, tT, tT, tT, .inl, .inl, .inl, .inl, .inl, .inl, .inl, .inl, .inl, .inl, tT, tT] ++ [tT, .get ([D.nilf, D.nilf, D.fn (Fn.func 193) [] [], D.fn (Fn.func 199) [] [.ptr false 1 0], D.fn (Fn.func 194) [] [], D.fn (Fn.func 199) [] [.ptr false 2 0], D.fn (Fn.func 197) [] [.ptr false 3 0, .ptr false 4 0], D.fn (Fn.func 199) [] [.ptr false 7 0], D.nilf, D.nilf, D.nilf, D.nilf, D.fn (Fn.func 195) [] [], D.fn (Fn.func 199) [] [.ptr false 8 0], D.fn (Fn.func 197) [] [.ptr false 9 0, .ptr false 10 0], D.fn (Fn.func 199) [] [.ptr false 13 0]]) 1 _ rfl, tT, tT]) (by kernel_rfl)).to (by ((simp only [wk, wkL, and_true]; repeat' (first | rfl | exact True.intro | apply And.intro)); done))
theorem fmay_2_ok  : Ret Try.prog 170 ([.int .i8 2]) (.bool true) := by
 exact (Ret.of_eval (d := .bool true) mixed Try.func170 (by kernel_rfl) ([tT, tT, tT, tT, .inl, .inl, .inl, .inl, .inl, .inl, .inl, .inl, .inl, .inl, tT, tT] ++ [tT, .get ([D.nilf, D.nilf, D.fn (Fn.func 193) [] [], D.fn (Fn.func 199) [] [.ptr false 1 0], D.fn (Fn.func 194) [] [], D.fn (Fn.func 199) [] [.ptr false 2 0], D.fn (Fn.func 197) [] [.ptr false 3 0, .ptr false 4 0], D.fn (Fn.func 199) [] [.ptr false 7 0], D.nilf, D.nilf, D.nilf, D.nilf, D.fn (Fn.func 195) [] [], D.fn (Fn.func 199) [] [.ptr false 8 0], D.fn (Fn.func 197) [] [.ptr false 9 0, .ptr false 10 0], D.fn (Fn.func 199) [] [.ptr false 13 0]]) 2 _ rfl, tT, tT]) (by kernel_rfl)).to (by ((simp only [wk, wkL, and_true]; repeat' (first | rfl | exact True.intro | apply And.intro)); done))
theorem fmay_3_ok  : Ret Try.prog 170 ([.int .i8 3]) (.bool true) := by
 exact (Ret.of_eval (d := .bool true) mixed Try.func170 (by kernel_rfl) ([tT, tT, tT, tT, .inl, .inl, .inl, .inl, .inl, .inl, .inl, .inl, .inl, .inl, tT, tT] ++ [tT, .get ([D.nilf, D.nilf, D.fn (Fn.func 193) [] [], D.fn (Fn.func 199) [] [.ptr false 1 0], D.fn (Fn.func 194) [] [], D.fn (Fn.func 199) [] [.ptr false 2 0], D.fn (Fn.func 197) [] [.ptr false 3 0, .ptr false 4 0], D.fn (Fn.func 199) [] [.ptr false 7 0], D.nilf, D.nilf, D.nilf, D.nilf, D.fn (Fn.func 195) [] [], D.fn (Fn.func 199) [] [.ptr false 8 0], D.fn (Fn.func 197) [] [.ptr false 9 0, .ptr false 10 0], D.fn (Fn.func 199) [] [.ptr false 13 0]]) 3 _ rfl, tT, tT]) (by kernel_rfl)).to (by ((simp only [wk, wkL, and_true]; repeat' (first | rfl | exact True.intro | apply And.intro)); done))
theorem fmay_4_ok  : Ret Try.prog 170 ([.int .i8 4]) (.bool true) := by
 exact (Ret.of_eval (d := .bool true) mixed Try.func170 (by kernel_rfl) ([tT, tT, tT, tT, .inl, .inl, .inl, .inl, .inl, .inl, .inl, .inl, .inl, .inl, tT, tT] ++ [tT, .get ([D.nilf, D.nilf, D.fn (Fn.func 193) [] [], D.fn (Fn.func 199) [] [.ptr false 1 0], D.fn (Fn.func 194) [] [], D.fn (Fn.func 199) [] [.ptr false 2 0], D.fn (Fn.func 197) [] [.ptr false 3 0, .ptr false 4 0], D.fn (Fn.func 199) [] [.ptr false 7 0], D.nilf, D.nilf, D.nilf, D.nilf, D.fn (Fn.func 195) [] [], D.fn (Fn.func 199) [] [.ptr false 8 0], D.fn (Fn.func 197) [] [.ptr false 9 0, .ptr false 10 0], D.fn (Fn.func 199) [] [.ptr false 13 0]]) 4 _ rfl, tT, tT]) (by kernel_rfl)).to (by ((simp only [wk, wkL, and_true]; repeat' (first | rfl | exact True.intro | apply And.intro)); done))
theorem fmay_5_ok  : Ret Try.prog 170 ([.int .i8 5]) (.bool true) := by
 exact (Ret.of_eval (d := .bool true) mixed Try.func170 (by kernel_rfl) ([tT, tT, tT, tT, .inl, .inl, .inl, .inl, .inl, .inl, .inl, .inl, .inl, .inl, tT, tT] ++ [tT, .get ([D.nilf, D.nilf, D.fn (Fn.func 193) [] [], D.fn (Fn.func 199) [] [.ptr false 1 0], D.fn (Fn.func 194) [] [], D.fn (Fn.func 199) [] [.ptr false 2 0], D.fn (Fn.func 197) [] [.ptr false 3 0, .ptr false 4 0], D.fn (Fn.func 199) [] [.ptr false 7 0], D.nilf, D.nilf, D.nilf, D.nilf, D.fn (Fn.func 195) [] [], D.fn (Fn.func 199) [] [.ptr false 8 0], D.fn (Fn.func 197) [] [.ptr false 9 0, .ptr false 10 0], D.fn (Fn.func 199) [] [.ptr false 13 0]]) 5 _ rfl, tT, tT]) (by kernel_rfl)).to (by ((simp only [wk, wkL, and_true]; repeat' (first | rfl | exact True.intro | apply And.intro)); done))
theorem fmay_6_ok  : Ret Try.prog 170 ([.int .i8 6]) (.bool true) := by
 exact (Ret.of_eval (d := .bool true) mixed Try.func170 (by kernel_rfl) ([tT, tT, tT, tT, .inl, .inl, .inl, .inl, .inl, .inl, .inl, .inl, .inl, .inl, tT, tT] ++ [tT, .get ([D.nilf, D.nilf, D.fn (Fn.func 193) [] [], D.fn (Fn.func 199) [] [.ptr false 1 0], D.fn (Fn.func 194) [] [], D.fn (Fn.func 199) [] [.ptr false 2 0], D.fn (Fn.func 197) [] [.ptr false 3 0, .ptr false 4 0], D.fn (Fn.func 199) [] [.ptr false 7 0], D.nilf, D.nilf, D.nilf, D.nilf, D.fn (Fn.func 195) [] [], D.fn (Fn.func 199) [] [.ptr false 8 0], D.fn (Fn.func 197) [] [.ptr false 9 0, .ptr false 10 0], D.fn (Fn.func 199) [] [.ptr false 13 0]]) 6 _ rfl, tT, tT]) (by kernel_rfl)).to (by ((simp only [wk, wkL, and_true]; repeat' (first | rfl | exact True.intro | apply And.intro)); done))
theorem fmay_7_ok  : Ret Try.prog 170 ([.int .i8 7]) (.bool true) := by
 exact (Ret.of_eval (d := .bool true) mixed Try.func170 (by kernel_rfl) ([tT, tT, tT, tT, .inl, .inl, .inl, .inl, .inl, .inl, .inl, .inl, .inl, .inl, tT, tT] ++ [tT, .get ([D.nilf, D.nilf, D.fn (Fn.func 193) [] [], D.fn (Fn.func 199) [] [.ptr false 1 0], D.fn (Fn.func 194) [] [], D.fn (Fn.func 199) [] [.ptr false 2 0], D.fn (Fn.func 197) [] [.ptr false 3 0, .ptr false 4 0], D.fn (Fn.func 199) [] [.ptr false 7 0], D.nilf, D.nilf, D.nilf, D.nilf, D.fn (Fn.func 195) [] [], D.fn (Fn.func 199) [] [.ptr false 8 0], D.fn (Fn.func 197) [] [.ptr false 9 0, .ptr false 10 0], D.fn (Fn.func 199) [] [.ptr false 13 0]]) 7 _ rfl, tT, tT]) (by kernel_rfl)).to (by ((simp only [wk, wkL, and_true]; repeat' (first | rfl | exact True.intro | apply And.intro)); done))
theorem fmay_8_ok  : Ret Try.prog 170 ([.int .i8 8]) (.bool false) := by
 exact (Ret.of_eval (d := .bool false) mixed Try.func170 (by kernel_rfl) ([tT, tT, tT, tT, .inl, .inl, .inl, .inl, .inl, .inl, .inl, .inl, .inl, .inl, tT, tT] ++ [tT, .get ([D.nilf, D.nilf, D.fn (Fn.func 193) [] [], D.fn (Fn.func 199) [] [.ptr false 1 0], D.fn (Fn.func 194) [] [], D.fn (Fn.func 199) [] [.ptr false 2 0], D.fn (Fn.func 197) [] [.ptr false 3 0, .ptr false 4 0], D.fn (Fn.func 199) [] [.ptr false 7 0], D.nilf, D.nilf, D.nilf, D.nilf, D.fn (Fn.func 195) [] [], D.fn (Fn.func 199) [] [.ptr false 8 0], D.fn (Fn.func 197) [] [.ptr false 9 0, .ptr false 10 0], D.fn (Fn.func 199) [] [.ptr false 13 0]]) 8 _ rfl, tT, tT]) (by kernel_rfl)).to (by ((simp only [wk, wkL, and_true]; repeat' (first | rfl | exact True.intro | apply And.intro)); done))
theorem fmay_9_ok  : Ret Try.prog 170 ([.int .i8 9]) (.bool false) := by
 exact (Ret.of_eval (d := .bool false) mixed Try.func170 (by kernel_rfl) ([tT, tT, tT, tT, .inl, .inl, .inl, .inl, .inl, .inl, .inl, .inl, .inl, .inl, tT, tT] ++ [tT, .get ([D.nilf, D.nilf, D.fn (Fn.func 193) [] [], D.fn (Fn.func 199) [] [.ptr false 1 0], D.fn (Fn.func 194) [] [], D.fn (Fn.func 199) [] [.ptr false 2 0], D.fn (Fn.func 197) [] [.ptr false 3 0, .ptr false 4 0], D.fn (Fn.func 199) [] [.ptr false 7 0], D.nilf, D.nilf, D.nilf, D.nilf, D.fn (Fn.func 195) [] [], D.fn (Fn.func 199) [] [.ptr false 8 0], D.fn (Fn.func 197) [] [.ptr false 9 0, .ptr false 10 0], D.fn (Fn.func 199) [] [.ptr false 13 0]]) 9 _ rfl, tT, tT]) (by kernel_rfl)).to (by ((simp only [wk, wkL, and_true]; repeat' (first | rfl | exact True.intro | apply And.intro)); done))
theorem fmay_10_ok  : Ret Try.prog 170 ([.int .i8 10]) (.bool false) := by
 exact (Ret.of_eval (d := .bool false) mixed Try.func170 (by kernel_rfl) ([tT, tT, tT, tT, .inl, .inl, .inl, .inl, .inl, .inl, .inl, .inl, .inl, .inl, tT, tT] ++ [tT, .get ([D.nilf, D.nilf, D.fn (Fn.func 193) [] [], D.fn (Fn.func 199) [] [.ptr false 1 0], D.fn (Fn.func 194) [] [], D.fn (Fn.func 199) [] [.ptr false 2 0], D.fn (Fn.func 197) [] [.ptr false 3 0, .ptr false 4 0], D.fn (Fn.func 199) [] [.ptr false 7 0], D.nilf, D.nilf, D.nilf, D.nilf, D.fn (Fn.func 195) [] [], D.fn (Fn.func 199) [] [.ptr false 8 0], D.fn (Fn.func 197) [] [.ptr false 9 0, .ptr false 10 0], D.fn (Fn.func 199) [] [.ptr false 13 0]]) 10 _ rfl, tT, tT]) (by kernel_rfl)).to (by ((simp only [wk, wkL, and_true]; repeat' (first | rfl | exact True.intro | apply And.intro)); done))
theorem fmay_11_ok  : Ret Try.prog 170 ([.int .i8 11]) (.bool false) := by
 exact (Ret.of_eval (d := .bool false) mixed Try.func170 (by kernel_rfl) ([tT, tT, tT, tT, .inl, .inl, .inl, .inl, .inl, .inl, .inl, .inl, .inl, .inl, tT, tT] ++ [tT, .get ([D.nilf, D.nilf, D.fn (Fn.func 193) [] [], D.fn (Fn.func 199) [] [.ptr false 1 0], D.fn (Fn.func 194) [] [], D.fn (Fn.func 199) [] [.ptr false 2 0], D.fn (Fn.func 197) [] [.ptr false 3 0, .ptr false 4 0], D.fn (Fn.func 199) [] [.ptr false 7 0], D.nilf, D.nilf, D.nilf, D.nilf, D.fn (Fn.func 195) [] [], D.fn (Fn.func 199) [] [.ptr false 8 0], D.fn (Fn.func 197) [] [.ptr false 9 0, .ptr false 10 0], D.fn (Fn.func 199) [] [.ptr false 13 0]]) 11 _ rfl, tT, tT]) (by kernel_rfl)).to (by ((simp only [wk, wkL, and_true]; repeat' (first | rfl | exact True.intro | apply And.intro)); done))
theorem fmay_12_ok  : Ret Try.prog 170 ([.int .i8 12]) (.bool true) := by
 exact (Ret.of_eval (d := .bool true) mixed Try.func170 (by kernel_rfl) ([tT, tT, tT, tT, .inl, .inl, .inl, .inl, .inl, .inl, .inl, .inl, .inl, .inl, tT, tT] ++ [tT, .get ([D.nilf, D.nilf, D.fn (Fn.func 193) [] [], D.fn (Fn.func 199) [] [.ptr false 1 0], D.fn (Fn.func 194) [] [], D.fn (Fn.func 199) [] [.ptr false 2 0], D.fn (Fn.func 197) [] [.ptr false 3 0, .ptr false 4 0], D.fn (Fn.func 199) [] [.ptr false 7 0], D.nilf, D.nilf, D.nilf, D.nilf, D.fn (Fn.func 195) [] [], D.fn (Fn.func 199) [] [.ptr false 8 0], D.fn (Fn.func 197) [] [.ptr false 9 0, .ptr false 10 0], D.fn (Fn.func 199) [] [.ptr false 13 0]]) 12 _ rfl, tT, tT]) (by kernel_rfl)).to (by ((simp only [wk, wkL, and_true]; repeat' (first | rfl | exact True.intro | apply And.intro)); done))
theorem fmay_13_ok  : Ret Try.prog 170 ([.int .i8 13]) (.bool true) := by
 exact (Ret.of_eval (d := .bool true) mixed Try.func170 (by kernel_rfl) ([tT, tT, tT, tT, .inl, .inl, .inl, .inl, .inl, .inl, .inl, .inl, .inl, .inl, tT, tT] ++ [tT, .get ([D.nilf, D.nilf, D.fn (Fn.func 193) [] [], D.fn (Fn.func 199) [] [.ptr false 1 0], D.fn (Fn.func 194) [] [], D.fn (Fn.func 199) [] [.ptr false 2 0], D.fn (Fn.func 197) [] [.ptr false 3 0, .ptr false 4 0], D.fn (Fn.func 199) [] [.ptr false 7 0], D.nilf, D.nilf, D.nilf, D.nilf, D.fn (Fn.func 195) [] [], D.fn (Fn.func 199) [] [.ptr false 8 0], D.fn (Fn.func 197) [] [.ptr false 9 0, .ptr false 10 0], D.fn (Fn.func 199) [] [.ptr false 13 0]]) 13 _ rfl, tT, tT]) (by kernel_rfl)).to (by ((simp only [wk, wkL, and_true]; repeat' (first | rfl | exact True.intro | apply And.intro)); done))
theorem fmay_14_ok  : Ret Try.prog 170 ([.int .i8 14]) (.bool true) := by
 exact (Ret.of_eval (d := .bool true) mixed Try.func170 (by kernel_rfl) ([tT, tT, tT, tT, .inl, .inl, .inl, .inl, .inl, .inl, .inl, .inl, .inl, .inl, tT, tT] ++ [tT, .get ([D.nilf, D.nilf, D.fn (Fn.func 193) [] [], D.fn (Fn.func 199) [] [.ptr false 1 0], D.fn (Fn.func 194) [] [], D.fn (Fn.func 199) [] [.ptr false 2 0], D.fn (Fn.func 197) [] [.ptr false 3 0, .ptr false 4 0], D.fn (Fn.func 199) [] [.ptr false 7 0], D.nilf, D.nilf, D.nilf, D.nilf, D.fn (Fn.func 195) [] [], D.fn (Fn.func 199) [] [.ptr false 8 0], D.fn (Fn.func 197) [] [.ptr false 9 0, .ptr false 10 0], D.fn (Fn.func 199) [] [.ptr false 13 0]]) 14 _ rfl, tT, tT]) (by kernel_rfl)).to (by ((simp only [wk, wkL, and_true]; repeat' (first | rfl | exact True.intro | apply And.intro)); done))
theorem fmay_15_ok  : Ret Try.prog 170 ([.int .i8 15]) (.bool true) := by
 exact (Ret.of_eval (d := .bool true) mixed Try.func170 (by kernel_rfl) ([tT, tT, tT, tT, .inl, .inl, .inl, .inl, .inl, .inl, .inl, .inl, .inl, .inl, tT, tT] ++ [tT, .get ([D.nilf, D.nilf, D.fn (Fn.func 193) [] [], D.fn (Fn.func 199) [] [.ptr false 1 0], D.fn (Fn.func 194) [] [], D.fn (Fn.func 199) [] [.ptr false 2 0], D.fn (Fn.func 197) [] [.ptr false 3 0, .ptr false 4 0], D.fn (Fn.func 199) [] [.ptr false 7 0], D.nilf, D.nilf, D.nilf, D.nilf, D.fn (Fn.func 195) [] [], D.fn (Fn.func 199) [] [.ptr false 8 0], D.fn (Fn.func 197) [] [.ptr false 9 0, .ptr false 10 0], D.fn (Fn.func 199) [] [.ptr false 13 0]]) 15 _ rfl, tT, tT]) (by kernel_rfl)).to (by ((simp only [wk, wkL, and_true]; repeat' (first | rfl | exact True.intro | apply And.intro)); done))
theorem fmay_out_ok (cc : Int) (h : decide (0 ≤ cc ∧ cc ≤ 15) = false) : Ret Try.prog 170 ([.int .i8 cc]) (.bool false) := by
 rcases Bool.eq_false_or_eq_true (decide (cc < (0 : Int))) with h0 | h0
 ·skip
  exact (Ret.of_eval (d := .bool false) mixed Try.func170 (by kernel_rfl) [tC (eT (leL 0 h0)), tC (eT (leL 0 h0)), tC (leL 0 h0), tF, tF, tF, tF, tF] (by kernel_rfl)).to (by simp [wk])
 ·skip
  exact (Ret.of_eval (d := .bool false) mixed Try.func170 (by kernel_rfl) [tC (eT (leL 0 h0)), tC (eT (leL 0 h0)), tC (leL 0 h0), tC (eT (by (simp only [w_i8, w_u8, w_i64, w_u64, decide_eq_true_eq, decide_eq_false_iff_not, beq_iff_eq, bne_iff_ne, beq_eq_false_iff_ne, bne_eq_false_iff_eq, Bool.not_eq_true', Bool.not_eq_false', Bool.and_eq_true, Bool.or_eq_true] at *; omega) : (decide (cc < (16 : Int))) = false)), tC (eT (by (simp only [w_i8, w_u8, w_i64, w_u64, decide_eq_true_eq, decide_eq_false_iff_not, beq_iff_eq, bne_iff_ne, beq_eq_false_iff_ne, bne_eq_false_iff_eq, Bool.not_eq_true', Bool.not_eq_false', Bool.and_eq_true, Bool.or_eq_true] at *; omega) : (decide (cc < (16 : Int))) = false)), tC (eT (by (simp only [w_i8, w_u8, w_i64, w_u64, decide_eq_true_eq, decide_eq_false_iff_not, beq_iff_eq, bne_iff_ne, beq_eq_false_iff_ne, bne_eq_false_iff_eq, Bool.not_eq_true', Bool.not_eq_false', Bool.and_eq_true, Bool.or_eq_true] at *; omega) : (decide (cc < (16 : Int))) = false)), tC (eT (by (simp only [w_i8, w_u8, w_i64, w_u64, decide_eq_true_eq, decide_eq_false_iff_not, beq_iff_eq, bne_iff_ne, beq_eq_false_iff_ne, bne_eq_false_iff_eq, Bool.not_eq_true', Bool.not_eq_false', Bool.and_eq_true, Bool.or_eq_true] at *; omega) : (decide (cc < (16 : Int))) = false)), tC (by (simp only [w_i8, w_u8, w_i64, w_u64, decide_eq_true_eq, decide_eq_false_iff_not, beq_iff_eq, bne_iff_ne, beq_eq_false_iff_ne, bne_eq_false_iff_eq, Bool.not_eq_true', Bool.not_eq_false', Bool.and_eq_true, Bool.or_eq_true] at *; omega) : (decide (cc < (16 : Int))) = false)] (by kernel_rfl)).to (by simp [wk])
theorem fmay_any_ok (cc : Int) : Ret Try.prog 170 [.int .i8 cc] (.bool (ccM cc)) := by
 by_cases h : 0 ≤ cc ∧ cc ≤ 15
 ·have hc : cc = 0 ∨ cc = 1 ∨ cc = 2 ∨ cc = 3 ∨ cc = 4 ∨ cc = 5 ∨ cc = 6 ∨ cc = 7 ∨ cc = 8 ∨ cc = 9 ∨ cc = 10 ∨ cc = 11 ∨ cc = 12 ∨ cc = 13 ∨ cc = 14 ∨ cc = 15 := by omega
  rcases hc with rfl | rfl | rfl | rfl | rfl | rfl | rfl | rfl | rfl | rfl | rfl | rfl | rfl | rfl | rfl | rfl
  ·exact fmay_0_ok
  ·exact fmay_1_ok
  ·exact fmay_2_ok
  ·exact fmay_3_ok
  ·exact fmay_4_ok
  ·exact fmay_5_ok
  ·exact fmay_6_ok
  ·exact fmay_7_ok
  ·exact fmay_8_ok
  ·exact fmay_9_ok
  ·exact fmay_10_ok
  ·exact fmay_11_ok
  ·exact fmay_12_ok
  ·exact fmay_13_ok
  ·exact fmay_14_ok
  ·exact fmay_15_ok
 ·have e : ccM cc = false := decide_eq_false (by omega)
  rw [e]
  exact fmay_out_ok cc (decide_eq_false h)
theorem mayX_sh {op w dst src base disp imm cc : Int} (h : mayX op w dst src base disp imm cc = true) : shapeM op ≠ 0 := by
 have hs := (mayX_parts h).2
 intro e
 rw [e] at hs
 simp [mayS] at hs
def tqI00 : List D := [.fn (.func 129) [] [], .fn (.func 126) [] [], .fn (.func 126) [] [], .fn (.func 132) [] [], .fn (.func 133) [] [.ptr false 2 0], .fn (.func 128) [] [], .fn (.func 134) [] []]
theorem imay_4_ok (op w dst src base disp imm cc reg phys num to : Int) (ho : op ≤ 127) (hc : cc ≤ 127) (hp : phys ≤ 127) (g0 : -128 ≤ reg) (g1 : reg ≤ 127)  : Ret Try.prog 74 ([irD 4 op w dst src base disp imm cc reg phys num to]) (.bool (mayI 4 op w dst src base disp imm cc reg phys num to)) := by
 let E1 : EL := ([.inl, .inl] ++ List.replicate 9 tT ++ [.get ([D.fn (Fn.func 164) [] [], D.fn (Fn.func 161) [] [], D.fn (Fn.func 161) [] [], D.fn (Fn.func 168) [] [], D.fn (Fn.func 169) [] [.ptr false 2 0], D.fn (Fn.func 163) [] [], D.fn (Fn.func 171) [] []]) 4 (D.fn (Fn.func 169) [] [.ptr false 2 0]) rfl, tT, .inl, .flat _ _ flat_X])
 rcases bft (eqCells [.int .i8 op, .int .i8 w, .int .i8 dst, .int .i8 src, .int .i8 base, .int .i64 disp, .int .i64 imm, .int .i8 cc] [.int .i8 29, .int .i8 0, .int .i8 0, .int .i8 0, .int .i8 0, .int .i64 0, .int .i64 0, .int .i8 cc]) with h0 | h0
 ·have c1 := @fmay_any_ok cc
  let E2 : EL := E1 ++ List.replicate 6 (tC (eT h0)) ++ [.ret _ _ _ c1, tC h0, .inl, .inl]
  rcases bft (decide (to < 0)) with h2 | h2
  ·exact (o74 (d := .bool false) (E2 ++ List.replicate 3 (tC (eT (leL 0 h2))) ++ [tC (leL 0 h2), tF, tF, tT, tF, tF, tF, tF, tF, tF]) (by kernel_rfl)).to (by clear E1 E2; simp only [wk, D.bool.injEq, eq_irc, mayI_4, zeroX, h0, h2, Bool.true_and, Bool.false_and, Bool.and_true, Bool.and_false]; first | done | rfl | (rw [Bool.eq_iff_iff]; simp only [sl1, eq_irc, eqCells, eqCell, beq_self_eq_true, Bool.and_eq_false_iff, Bool.and_true] at *; first | done | omega | (intro hh; omega) | (simp; done) | (intro hh; simp at hh; omega) | (constructor <;> intro hh <;> omega)))
  let E3 : EL := E2 ++ List.replicate 3 (tC (eT (leL 0 h2))) ++ [tC (leL 0 h2)]
  rcases bft (decide (to < 65)) with h3 | h3
  ·rcases bft (ccM cc) with h4 | h4
   ·exact (o74 (d := .bool (eqCells [.int .i8 4, .int .i8 0, .int .i8 0, .int .i8 0, .int .i8 0, .int .i8 0, .int .i64 0, .int .i64 0, .int .i8 0, .int .i8 reg, .int .i8 phys, .int .i64 num, .int .i64 0] [.int .i8 4, .int .i8 0, .int .i8 0, .int .i8 0, .int .i8 0, .int .i8 0, .int .i64 0, .int .i64 0, .int .i8 0, .int .i8 0, .int .i8 0, .int .i64 0, .int .i64 0])) (E3 ++ [tC (eT (leC 64 h3)), tC (leC 64 h3), tT] ++ List.replicate 5 (tC (eT h4)) ++ [.flat _ _ flat_Ir, tC h4]) (by kernel_rfl)).to (by clear E1 E2 E3; simp only [wk, D.bool.injEq, eq_irc, mayI_4, zeroX, h0, h2, h3, h4, Bool.true_and, Bool.false_and, Bool.and_true, Bool.and_false]; first | done | rfl | (rw [Bool.eq_iff_iff]; simp only [sl1, eq_irc, eqCells, eqCell, beq_self_eq_true, Bool.and_eq_false_iff, Bool.and_true] at *; first | done | omega | (intro hh; omega) | (simp; done) | (intro hh; simp at hh; omega) | (constructor <;> intro hh <;> omega)))
   exact (o74 (d := .bool false) (E3 ++ [tC (eT (leC 64 h3)), tC (leC 64 h3), tT] ++ List.replicate 5 (tC (eT h4)) ++ [tC h4]) (by kernel_rfl)).to (by clear E1 E2 E3; simp only [wk, D.bool.injEq, eq_irc, mayI_4, zeroX, h0, h2, h3, h4, Bool.true_and, Bool.false_and, Bool.and_true, Bool.and_false]; first | done | rfl | (rw [Bool.eq_iff_iff]; simp only [sl1, eq_irc, eqCells, eqCell, beq_self_eq_true, Bool.and_eq_false_iff, Bool.and_true] at *; first | done | omega | (intro hh; omega) | (simp; done) | (intro hh; simp at hh; omega) | (constructor <;> intro hh <;> omega)))
  exact (o74 (d := .bool false) (E3 ++ [tC (eT (leC 64 h3)), tC (leC 64 h3), tT, tF, tF, tF, tF, tF, tF]) (by kernel_rfl)).to (by clear E1 E2 E3; simp only [wk, D.bool.injEq, eq_irc, mayI_4, zeroX, h0, h2, h3, Bool.true_and, Bool.false_and, Bool.and_true, Bool.and_false]; first | done | rfl | (rw [Bool.eq_iff_iff]; simp only [sl1, eq_irc, eqCells, eqCell, beq_self_eq_true, Bool.and_eq_false_iff, Bool.and_true] at *; first | done | omega | (intro hh; omega) | (simp; done) | (intro hh; simp at hh; omega) | (constructor <;> intro hh <;> omega)))
 let E4 : EL := E1 ++ List.replicate 6 (tC (eT h0)) ++ [tC h0, .inl, .inl]
 rcases bft (decide (to < 0)) with h5 | h5
 ·exact (o74 (d := .bool false) (E4 ++ List.replicate 3 (tC (eT (leL 0 h5))) ++ [tC (leL 0 h5), tF, tF, tT, tF, tF, tF, tF, tF, tF]) (by kernel_rfl)).to (by clear E1 E4; simp only [wk, D.bool.injEq, eq_irc, mayI_4, zeroX, h0, h5, Bool.true_and, Bool.false_and, Bool.and_true, Bool.and_false]; first | done | rfl | (rw [Bool.eq_iff_iff]; simp only [sl1, eq_irc, eqCells, eqCell, beq_self_eq_true, Bool.and_eq_false_iff, Bool.and_true] at *; first | done | omega | (intro hh; omega) | (simp; done) | (intro hh; simp at hh; omega) | (constructor <;> intro hh <;> omega)))
 rcases bft (decide (to < 65)) with h6 | h6
 ·exact (o74 (d := .bool false) (E4 ++ List.replicate 3 (tC (eT (leL 0 h5))) ++ [tC (leL 0 h5), tC (eT (leC 64 h6)), tC (leC 64 h6), tT, tF, tF, tF, tF, tF, tF]) (by kernel_rfl)).to (by clear E1 E4; simp only [wk, D.bool.injEq, eq_irc, mayI_4, zeroX, h0, h5, h6, Bool.true_and, Bool.false_and, Bool.and_true, Bool.and_false]; first | done | rfl | (rw [Bool.eq_iff_iff]; simp only [sl1, eq_irc, eqCells, eqCell, beq_self_eq_true, Bool.and_eq_false_iff, Bool.and_true] at *; first | done | omega | (intro hh; omega) | (simp; done) | (intro hh; simp at hh; omega) | (constructor <;> intro hh <;> omega)))
 exact (o74 (d := .bool false) (E4 ++ List.replicate 3 (tC (eT (leL 0 h5))) ++ [tC (leL 0 h5), tC (eT (leC 64 h6)), tC (leC 64 h6), tT, tF, tF, tF, tF, tF, tF]) (by kernel_rfl)).to (by clear E1 E4; simp only [wk, D.bool.injEq, eq_irc, mayI_4, zeroX, h0, h5, h6, Bool.true_and, Bool.false_and, Bool.and_true, Bool.and_false]; first | done | rfl | (rw [Bool.eq_iff_iff]; simp only [sl1, eq_irc, eqCells, eqCell, beq_self_eq_true, Bool.and_eq_false_iff, Bool.and_true] at *; first | done | omega | (intro hh; omega) | (simp; done) | (intro hh; simp at hh; omega) | (constructor <;> intro hh <;> omega)))
theorem imay_5_ok (op w dst src base disp imm cc reg phys num to : Int) (ho : op ≤ 127) (hc : cc ≤ 127) (hp : phys ≤ 127) (g0 : -128 ≤ reg) (g1 : reg ≤ 127)  : Ret Try.prog 74 ([irD 5 op w dst src base disp imm cc reg phys num to]) (.bool (mayI 5 op w dst src base disp imm cc reg phys num to)) := by
 let E1 : EL := ([.inl, .inl] ++ List.replicate 9 tT ++ [.get ([D.fn (Fn.func 164) [] [], D.fn (Fn.func 161) [] [], D.fn (Fn.func 161) [] [], D.fn (Fn.func 168) [] [], D.fn (Fn.func 169) [] [.ptr false 2 0], D.fn (Fn.func 163) [] [], D.fn (Fn.func 171) [] []]) 5 (D.fn (Fn.func 163) [] []) rfl, tT, .inl, .inl])
 rcases bft (decide (to < 0)) with h0 | h0
 ·exact (o74 (d := .bool false) (E1 ++ List.replicate 3 (tC (eT (leL 0 h0))) ++ [tC (leL 0 h0), tT, tF, tF, tF, tF, tF, tF]) (by kernel_rfl)).to (by clear E1; simp only [wk, D.bool.injEq, eq_irc, mayI_5, zeroX, h0, Bool.true_and, Bool.false_and, Bool.and_true, Bool.and_false]; rw [Bool.eq_iff_iff]; simp only [sl1, eq_irc] at *; omega)
 rcases bft (decide (to < 65)) with h1 | h1
 ·exact (o74 (d := .bool (eqCells [.int .i8 5, .int .i8 op, .int .i8 w, .int .i8 dst, .int .i8 src, .int .i8 base, .int .i64 disp, .int .i64 imm, .int .i8 cc, .int .i8 reg, .int .i8 phys, .int .i64 num, .int .i64 0] [.int .i8 5, .int .i8 0, .int .i8 0, .int .i8 0, .int .i8 0, .int .i8 0, .int .i64 0, .int .i64 0, .int .i8 0, .int .i8 0, .int .i8 0, .int .i64 0, .int .i64 0])) (E1 ++ List.replicate 3 (tC (eT (leL 0 h0))) ++ [tC (leL 0 h0), tT] ++ List.replicate 5 (tC (eT (leC 64 h1))) ++ [.flat _ _ flat_Ir, tC (leC 64 h1)]) (by kernel_rfl)).to (by clear E1; simp only [wk, D.bool.injEq, eq_irc, mayI_5, zeroX, h0, h1, Bool.true_and, Bool.false_and, Bool.and_true, Bool.and_false]; rw [Bool.eq_iff_iff]; simp only [sl1, eq_irc] at *; omega)
 exact (o74 (d := .bool false) (E1 ++ List.replicate 3 (tC (eT (leL 0 h0))) ++ [tC (leL 0 h0), tT] ++ List.replicate 5 (tC (eT (leC 64 h1))) ++ [tC (leC 64 h1)]) (by kernel_rfl)).to (by clear E1; simp only [wk, D.bool.injEq, eq_irc, mayI_5, zeroX, h0, h1, Bool.true_and, Bool.false_and, Bool.and_true, Bool.and_false]; rw [Bool.eq_iff_iff]; simp only [sl1, eq_irc] at *; omega)
theorem lmay_ok (s : IrS) (h : s.ok) (n : Int) : Ret Try.prog 124 [s.d, .int .i64 n] (.bool (mayL s n)) := by
 obtain ⟨kind, op, w, dst, src, base, disp, imm, cc, reg, phys, num, to⟩ := s
 obtain ⟨a0, a1, ho, hc, hp, g0, g1⟩ := h
 by_cases h0 : kind = 0
 ·subst h0
  have := lm_0_ok op w dst src base disp imm cc reg phys num to n _ (mayX_ok op w dst src base disp imm cc ho)
  unfold mayL
  rw [if_pos rfl]
  exact this
 ·by_cases h4 : kind = 4
  ·subst h4
   have := lm_4_ok op w dst src base disp imm cc reg phys num to n _ (imay_4_ok op w dst src base disp imm cc reg phys num to ho hc hp g0 g1)
   unfold mayL
   rw [if_neg (show ¬ (4 : Int) = 0 by decide), if_pos (.inl rfl)]
   exact this
  ·by_cases h5 : kind = 5
   ·subst h5
    have := lm_5_ok op w dst src base disp imm cc reg phys num to n _ (imay_5_ok op w dst src base disp imm cc reg phys num to ho hc hp g0 g1)
    unfold mayL
    rw [if_neg (show ¬ (5 : Int) = 0 by decide), if_pos (.inr rfl)]
    exact this
   ·have := lm_n_ok kind op w dst src base disp imm cc reg phys num to n h0 h4 h5
    unfold mayL
    rw [if_neg h0, if_neg (by intro h; rcases h with h | h; exact h4 h; exact h5 h)]
    exact this
abbrev bkT (l : List IrS) (b : Int) (i : Int) (p : List PaS) : List D := ((.lst .no 13 (irL l)) :: (.int .i64 b) :: (.undef) :: (.undef) :: (.lst (.tok 0 0) 10 (paL p)) :: (.undef) :: (.undef) :: (.lst .no 13 (irL l)) :: (.int .i64 ((irL l).length : Int)) :: (.int .i64 i) :: (un 53))
abbrev bkU (p : List PaS) : List D := (un 4 ++ (.lst (.tok 0 0) 10 (paL p)) :: (un 58))
def blkOK (l : List IrS) : Prop := ∀ s ∈ l, s.kind = 0 ∨ s.kind = 4 ∨ s.kind = 5
theorem mayL_kind {s : IrS} {n : Int} (h : mayL s n = true) : s.kind = 0 ∨ s.kind = 4 ∨ s.kind = 5 := by
 unfold mayL at h
 split at h
 ·exact .inl (by assumption)
 ·split at h
  ·exact .inr (by assumption)
  ·cases h
theorem paL_snoc (p : List PaS) (x : PaS) : paL p ++ [x.d] = paL (p ++ [x]) := by simp [paL]
theorem bk_rounds (l : List IrS) (b : Int) (b0 : 0 ≤ b) (b1 : b ≤ 1000) (hk : blkOK l) (hl : l.length ≤ 100000) : ∀ (m i : Nat), i + m = l.length →
  Rounds Try.prog (loopB Try.f126 0) 0 (bkT l b i (blkG l.length b 0 (l.take i))) [.fam 0 10] (.exit 0) (bkU (blkP l b)) [.fam 0 10]
 | 0, i, hi => by
  have e : l.take i = l := List.take_of_length_le (by omega)
  rw [e]
  exact Rounds.last (bk_end l (blkG l.length b 0 l) b _ i (by omega) rfl (by rw [irL_len]; omega) (by rw [paL_len]; have := blkG_len l.length b l 0; omega) (by rw [irL_len]; omega)) (fun h => by cases h)
 | m + 1, i, hi => by
  have hlt : i < l.length := by omega
  have ih := bk_rounds l b b0 b1 hk hl m (i + 1) (by omega)
  have hs := hk l[i] (List.getElem_mem hlt)
  have hx := irL_get l i hlt
  have hw : IntKind.i64.wrap ((i : Int) + 1) = ((i + 1 : Nat) : Int) := by rw [w_i64]; omega
  have hb : IntKind.i64.wrap (b + 1) = b + 1 := by rw [w_i64]; omega
  have h1 : ((irL l).length : Int) ≤ 100000 := by rw [irL_len]; omega
  have h2 : ((paL (blkG l.length b 0 (l.take i))).length : Int) ≤ 100000 := by
   rw [paL_len]
   have := blkG_len l.length b (l.take i) 0
   rw [List.length_take] at this
   omega
  have h3 : (i : Int) < ((irL l).length : Int) := by rw [irL_len]; omega
  have e : blkG l.length b 0 (l.take (i + 1)) = blkG l.length b 0 (l.take i) ++ stepP l.length b i l[i] := by
   rw [List.take_succ_eq_append_getElem hlt, blkG_snoc, List.length_take, Nat.min_eq_left (by omega), Nat.zero_add]
  rw [e] at ih
  rcases hs with h0 | h4 | h5
  ·have := bk_x l (blkG l.length b 0 (l.take i)) b _ i (by omega) rfl h1 h2 h3 l[i] (by rw [Int.toNat_natCast]; exact hx) h0
   rw [hw, paL_snoc] at this
   rw [show stepP l.length b i l[i] = [inP l[i].x] by unfold stepP; rw [if_pos h0]] at ih
   exact Rounds.more this ih
  ·have := bk_j l (blkG l.length b 0 (l.take i)) b _ i (by omega) rfl h1 h2 h3 l[i] (by rw [Int.toNat_natCast]; exact hx) h4
   rw [hw, paL_snoc] at this
   rw [show stepP l.length b i l[i] = [jcP l[i].cc l[i].to] by unfold stepP; rw [if_neg (by omega), if_pos h4]] at ih
   exact Rounds.more this ih
  ·by_cases hg : i = 0
   ·have := bk_g0 l (blkG l.length b 0 (l.take i)) b _ i (by omega) rfl h1 h2 h3 l[i] (by rw [Int.toNat_natCast]; exact hx) h5 (by omega)
    rw [hw, paL_snoc] at this
    rw [show stepP l.length b i l[i] = [jmP l[i].to] by unfold stepP; rw [if_neg (by omega), if_neg (by omega), if_pos (.inl hg)]] at ih
    exact Rounds.more this ih
   ·by_cases hh : i + 1 < l.length
    ·have := bk_g1 l (blkG l.length b 0 (l.take i)) b _ i (by omega) rfl h1 h2 h3 l[i] (by rw [Int.toNat_natCast]; exact hx) h5 (by omega) (by rw [irL_len]; omega)
     rw [hw, paL_snoc] at this
     rw [show stepP l.length b i l[i] = [jmP l[i].to] by unfold stepP; rw [if_neg (by omega), if_neg (by omega), if_pos (.inr (.inl hh))]] at ih
     exact Rounds.more this ih
    ·by_cases ht : l[i].to = b + 1
     ·have := bk_s l (blkG l.length b 0 (l.take i)) b _ i (by omega) rfl h1 h2 h3 l[i] (by rw [Int.toNat_natCast]; exact hx) h5 (by omega) (by rw [irL_len]; omega) (by rw [hb]; exact ht)
      rw [hw] at this
      rw [show stepP l.length b i l[i] = [] by unfold stepP; rw [if_neg (by omega), if_neg (by omega), if_neg (by omega)], List.append_nil] at ih
      exact Rounds.more this ih
     ·have := bk_g2 l (blkG l.length b 0 (l.take i)) b _ i (by omega) rfl h1 h2 h3 l[i] (by rw [Int.toNat_natCast]; exact hx) h5 (by omega) (by rw [irL_len]; omega) (by rw [hb]; exact ht)
      rw [hw, paL_snoc] at this
      rw [show stepP l.length b i l[i] = [jmP l[i].to] by unfold stepP; rw [if_neg (by omega), if_neg (by omega), if_pos (.inr (.inr ht))]] at ih
      exact Rounds.more this ih
theorem bk_loop (l : List IrS) (b : Int) (b0 : 0 ≤ b) (b1 : b ≤ 1000) (hk : blkOK l) (hl : l.length ≤ 100000) : LoopRun Try.prog 0 (.loop (loopB Try.f126 0)) (bkT l b 0 []) [.fam 0 10] (.exit 0) (bkU (blkP l b)) [.fam 0 10] :=
 LoopRun.of_rounds (by decide) (bk_rounds l b b0 b1 hk hl l.length 0 (by omega))
theorem run_id {n0 : Nat} {c : Code} {t : List D} {s : List Ob} {ex : Ex} {t' : List D} {s' : List Ob} (h : LoopRun Try.prog n0 c t s ex t' s') : LoopRun Try.prog n0 c t s ex t' s' := h
theorem blk_ok (l : List IrS) (b : Int) (p : List PaS) (hx : LoopRun Try.prog 0 (.loop (loopB Try.f126 0)) (bkT l b 0 []) [.fam 0 10] (.exit 0) (bkU p) [.fam 0 10])  : Ret Try.prog 126 ([.lst .no 13 (irL l), .int .i64 b]) (.lst .no 10 (paL p)) := by
 have c0 := @run_id (nat_lit 0) _ (((.lst .no 13 (irL l)) :: (.int .i64 b) :: (uu) :: (uu) :: (.lst (.tok 0 0) 10 []) :: (uu) :: (uu) :: (.lst .no 13 (irL l)) :: (.int .i64 (↑(List.length (irL l)) : Int)) :: (.int .i64 0) :: (un 53))) ([.fam 0 10]) _ _ _ hx
 exact (o126 (d := .lst (.fresh 10) 10 (paL p)) [.head ⟨[0, 1, 7, 8, 9], [], [(4, 10)]⟩ _ _ _ _ _ _ _ c0] (by kernel_rfl)).to (by first | (simp [wk, wkO]; done) | exact ⟨by simp, .inl rfl, trivial, .inr rfl⟩ | exact ⟨rfl, .inl rfl, trivial, .inr rfl⟩ | exact ⟨by simp, .inl rfl, rfl, .inr rfl⟩)
theorem pr_end (l : List (List IrS)) (pro : List XS) (p : List PaS) (n m k : Int) (k0 : 0 ≤ k) (hm0 : m = ((xsL pro).length : Int)) (hp : ((paL p).length : Int) ≤ 100000) (hml : m ≤ 100000) (h : m ≤ k)  : RoundRun Try.prog (loopB Try.f64 0) ⟨[1, 5, 7], [], [(4, 10)]⟩ 0 ((uu) :: (.lst .no 1 (rwL l)) :: (uu) :: (uu) :: (.lst (.tok 0 0) 10 (paL p)) :: (.lst .tight 0 []) :: (uu) :: (.int .i64 n) :: (un 15 ++ (.lst .no 8 (xsL pro)) :: (.int .i64 m) :: (.int .i64 k) :: (un 62))) [.fam 0 10] (.exit 0) ((uu) :: (.lst .no 1 (rwL l)) :: (uu) :: (uu) :: (.lst (.tok 0 0) 10 (paL p)) :: (.lst .tight 0 []) :: (uu) :: (.int .i64 n) :: (un 80)) ([.fam 0 10]) := by
 exact RoundRun.of_eval mixed [tC (by ((try simp only [sL] at *); (try unfold big at *); omega) : (decide (k < m)) = false)] (by kernel_rfl)
theorem pr_in (l : List (List IrS)) (pro : List XS) (p : List PaS) (n m k : Int) (k0 : 0 ≤ k) (hm0 : m = ((xsL pro).length : Int)) (hp : ((paL p).length : Int) ≤ 100000) (hml : m ≤ 100000) (h : k < m) (x : XS) (hx : (xsL pro)[Int.toNat k]? = some (xsD x)) (j1 : x.op ≠ 28) (j2 : x.op ≠ 29) (hm : Ret Try.prog 56 [xsD x] (.bool true))  : RoundRun Try.prog (loopB Try.f64 0) ⟨[1, 5, 7, 23, 24, 25], [], [(4, 10)]⟩ 0 ((uu) :: (.lst .no 1 (rwL l)) :: (uu) :: (uu) :: (.lst (.tok 0 0) 10 (paL p)) :: (.lst .tight 0 []) :: (uu) :: (.int .i64 n) :: (un 15 ++ (.lst .no 8 (xsL pro)) :: (.int .i64 m) :: (.int .i64 k) :: (un 62))) [.fam 0 10] .norm ((uu) :: (.lst .no 1 (rwL l)) :: (uu) :: (uu) :: (.lst (.tok 0 0) 10 (paL p ++ [PaS.d (inP x)])) :: (.lst .tight 0 []) :: (uu) :: (.int .i64 n) :: (un 15 ++ (.lst .no 8 (xsL pro)) :: (.int .i64 m) :: (.int .i64 (IntKind.i64.wrap (k + 1))) :: (un 62))) ([.fam 0 10]) := by
 exact RoundRun.of_eval mixed ([tC (by ((try simp only [sL] at *); (try unfold big at *); omega) : (decide (k < m)) = true), tC (v := true) (leL 0 (decide_eq_false (Int.not_lt.2 k0))), .get _ _ _ hx, .inl] ++ List.replicate 3 (tC (eF (by ((try simp only [sL] at *); (try unfold big at *); omega) : (XS.op x == 28) = false))) ++ [tC (by ((try simp only [sL] at *); (try unfold big at *); omega) : (XS.op x == 28) = false), tC (eF (by ((try simp only [sL] at *); (try unfold big at *); omega) : (XS.op x == 29) = false)), tC (eF (by ((try simp only [sL] at *); (try unfold big at *); omega) : (XS.op x == 29) = false)), .ret _ _ _ hm, tC (eF (by ((try simp only [sL] at *); (try unfold big at *); omega) : (XS.op x == 29) = false)), tC (by ((try simp only [sL] at *); (try unfold big at *); omega) : (XS.op x == 29) = false), tF, .len (List.length (paL p) + (1 : Nat)) ((2147483648 : Nat)) (by first | decide | omega | (simp; omega))]) (by kernel_rfl)
theorem pr_j1 (l : List (List IrS)) (pro : List XS) (p : List PaS) (n m k : Int) (k0 : 0 ≤ k) (hm0 : m = ((xsL pro).length : Int)) (hp : ((paL p).length : Int) ≤ 100000) (hml : m ≤ 100000) (h : k < m) (x : XS) (hx : (xsL pro)[Int.toNat k]? = some (xsD x)) (j1 : x.op = 28)  : RoundRun Try.prog (loopB Try.f64 0) ⟨[4, 5, 6], [], []⟩ 0 ((uu) :: (.lst .no 1 (rwL l)) :: (uu) :: (uu) :: (.lst (.tok 0 0) 10 (paL p)) :: (.lst .tight 0 []) :: (uu) :: (.int .i64 n) :: (un 15 ++ (.lst .no 8 (xsL pro)) :: (.int .i64 m) :: (.int .i64 k) :: (un 62))) [.fam 0 10] (Ex.ret) (un 4 ++ (.lst .tight 0 []) :: (.lst .tight 0 []) :: (.int .i64 2) :: (un 81)) ([]) := by
 exact RoundRun.of_eval mixed ([tC (by ((try simp only [sL] at *); (try unfold big at *); omega) : (decide (k < m)) = true), tC (v := true) (leL 0 (decide_eq_false (Int.not_lt.2 k0))), .get _ _ _ hx, .inl] ++ List.replicate 3 (tC (eF (eqI 28 true (by ((try simp only [sL] at *); (try unfold big at *); omega) : XS.op x = 28)))) ++ [tC (eqI 28 true (by ((try simp only [sL] at *); (try unfold big at *); omega) : XS.op x = 28)), tF, tF, tF, tT, tT]) (by kernel_rfl)
theorem pr_j2 (l : List (List IrS)) (pro : List XS) (p : List PaS) (n m k : Int) (k0 : 0 ≤ k) (hm0 : m = ((xsL pro).length : Int)) (hp : ((paL p).length : Int) ≤ 100000) (hml : m ≤ 100000) (h : k < m) (x : XS) (hx : (xsL pro)[Int.toNat k]? = some (xsD x)) (j1 : x.op = 29)  : RoundRun Try.prog (loopB Try.f64 0) ⟨[4, 5, 6], [], []⟩ 0 ((uu) :: (.lst .no 1 (rwL l)) :: (uu) :: (uu) :: (.lst (.tok 0 0) 10 (paL p)) :: (.lst .tight 0 []) :: (uu) :: (.int .i64 n) :: (un 15 ++ (.lst .no 8 (xsL pro)) :: (.int .i64 m) :: (.int .i64 k) :: (un 62))) [.fam 0 10] (Ex.ret) (un 4 ++ (.lst .tight 0 []) :: (.lst .tight 0 []) :: (.int .i64 2) :: (un 81)) ([]) := by
 exact RoundRun.of_eval mixed ([tC (by ((try simp only [sL] at *); (try unfold big at *); omega) : (decide (k < m)) = true), tC (v := true) (leL 0 (decide_eq_false (Int.not_lt.2 k0))), .get _ _ _ hx, .inl] ++ List.replicate 3 (tC (eF (by ((try simp only [sL] at *); (try unfold big at *); omega) : (XS.op x == 28) = false))) ++ [tC (by ((try simp only [sL] at *); (try unfold big at *); omega) : (XS.op x == 28) = false)] ++ List.replicate 3 (tC (eF (eqI 29 true (by ((try simp only [sL] at *); (try unfold big at *); omega) : XS.op x = 29)))) ++ [tC (eqI 29 true (by ((try simp only [sL] at *); (try unfold big at *); omega) : XS.op x = 29)), tT]) (by kernel_rfl)
theorem pr_m (l : List (List IrS)) (pro : List XS) (p : List PaS) (n m k : Int) (k0 : 0 ≤ k) (hm0 : m = ((xsL pro).length : Int)) (hp : ((paL p).length : Int) ≤ 100000) (hml : m ≤ 100000) (h : k < m) (x : XS) (hx : (xsL pro)[Int.toNat k]? = some (xsD x)) (j1 : x.op ≠ 28) (j2 : x.op ≠ 29) (hm : Ret Try.prog 56 [xsD x] (.bool false))  : RoundRun Try.prog (loopB Try.f64 0) ⟨[4, 5, 6], [], []⟩ 0 ((uu) :: (.lst .no 1 (rwL l)) :: (uu) :: (uu) :: (.lst (.tok 0 0) 10 (paL p)) :: (.lst .tight 0 []) :: (uu) :: (.int .i64 n) :: (un 15 ++ (.lst .no 8 (xsL pro)) :: (.int .i64 m) :: (.int .i64 k) :: (un 62))) [.fam 0 10] (Ex.ret) (un 4 ++ (.lst .tight 0 []) :: (.lst .tight 0 []) :: (.int .i64 2) :: (un 81)) ([]) := by
 exact RoundRun.of_eval mixed ([tC (by ((try simp only [sL] at *); (try unfold big at *); omega) : (decide (k < m)) = true), tC (v := true) (leL 0 (decide_eq_false (Int.not_lt.2 k0))), .get _ _ _ hx, .inl] ++ List.replicate 3 (tC (eF (by ((try simp only [sL] at *); (try unfold big at *); omega) : (XS.op x == 28) = false))) ++ [tC (by ((try simp only [sL] at *); (try unfold big at *); omega) : (XS.op x == 28) = false), tC (eF (by ((try simp only [sL] at *); (try unfold big at *); omega) : (XS.op x == 29) = false)), tC (eF (by ((try simp only [sL] at *); (try unfold big at *); omega) : (XS.op x == 29) = false)), .ret _ _ _ hm, tC (eF (by ((try simp only [sL] at *); (try unfold big at *); omega) : (XS.op x == 29) = false)), tC (by ((try simp only [sL] at *); (try unfold big at *); omega) : (XS.op x == 29) = false), tT]) (by kernel_rfl)
theorem ck_end (l : List (List IrS)) (r : List IrS) (p : List PaS) (q : List Int) (n c b m i : Int) (i0 : 0 ≤ i) (hm0 : m = ((irL r).length : Int)) (hml : m ≤ 100000) (h : m ≤ i)  : RoundRun Try.prog (loopB Try.f64 2) ⟨[1, 4, 5, 7, 10, 43, 44], [1, 2], []⟩ 3 ((uu) :: (.lst .no 1 (rwL l)) :: (uu) :: (uu) :: (.lst (.tok 1 0) 10 (paL p)) :: (.lst (.tok 2 0) 1 (intsD q)) :: (uu) :: (.int .i64 n) :: (uu) :: (uu) :: (.int .i64 b) :: (un 32 ++ (.int .i64 c) :: (.int .i64 b) :: (un 12 ++ (.lst .no 13 (irL r)) :: (.int .i64 m) :: (.int .i64 i) :: (un 28)))) [.dead, .fam 0 10, .fam 0 1] (.exit 4) ((uu) :: (.lst .no 1 (rwL l)) :: (uu) :: (uu) :: (.lst (.tok 1 0) 10 (paL p)) :: (.lst (.tok 2 0) 1 (intsD q)) :: (uu) :: (.int .i64 n) :: (uu) :: (uu) :: (.int .i64 b) :: (un 32 ++ (.int .i64 c) :: (.int .i64 b) :: (un 43))) ([.dead, .fam 0 10, .fam 0 1]) := by
 exact RoundRun.of_eval mixed [tC (by ((try simp only [sL] at *); (try unfold big at *); omega) : (decide (i < m)) = false)] (by kernel_rfl)
theorem ck_in (l : List (List IrS)) (r : List IrS) (p : List PaS) (q : List Int) (n c b m i : Int) (i0 : 0 ≤ i) (hm0 : m = ((irL r).length : Int)) (hml : m ≤ 100000) (h : i < m) (s : IrS) (hx : (irL r)[Int.toNat i]? = some (IrS.d s)) (hm : Ret Try.prog 124 [IrS.d s, .int .i64 ((rwL l).length : Int)] (.bool true))  : RoundRun Try.prog (loopB Try.f64 2) ⟨[1, 4, 5, 7, 10, 43, 44, 57, 58, 59], [1, 2], []⟩ 3 ((uu) :: (.lst .no 1 (rwL l)) :: (uu) :: (uu) :: (.lst (.tok 1 0) 10 (paL p)) :: (.lst (.tok 2 0) 1 (intsD q)) :: (uu) :: (.int .i64 n) :: (uu) :: (uu) :: (.int .i64 b) :: (un 32 ++ (.int .i64 c) :: (.int .i64 b) :: (un 12 ++ (.lst .no 13 (irL r)) :: (.int .i64 m) :: (.int .i64 i) :: (un 28)))) [.dead, .fam 0 10, .fam 0 1] .norm ((uu) :: (.lst .no 1 (rwL l)) :: (uu) :: (uu) :: (.lst (.tok 1 0) 10 (paL p)) :: (.lst (.tok 2 0) 1 (intsD q)) :: (uu) :: (.int .i64 n) :: (uu) :: (uu) :: (.int .i64 b) :: (un 32 ++ (.int .i64 c) :: (.int .i64 b) :: (un 12 ++ (.lst .no 13 (irL r)) :: (.int .i64 m) :: (.int .i64 (IntKind.i64.wrap (i + 1))) :: (un 28)))) ([.dead, .fam 0 10, .fam 0 1]) := by
 exact RoundRun.of_eval mixed [tC (by ((try simp only [sL] at *); (try unfold big at *); omega) : (decide (i < m)) = true), tC (v := true) (leL 0 (decide_eq_false (Int.not_lt.2 i0))), .get _ _ _ hx, .ret _ _ _ hm, tF] (by kernel_rfl)
theorem ck_bad (l : List (List IrS)) (r : List IrS) (p : List PaS) (q : List Int) (n c b m i : Int) (i0 : 0 ≤ i) (hm0 : m = ((irL r).length : Int)) (hml : m ≤ 100000) (h : i < m) (s : IrS) (hx : (irL r)[Int.toNat i]? = some (IrS.d s)) (hm : Ret Try.prog 124 [IrS.d s, .int .i64 ((rwL l).length : Int)] (.bool false))  : RoundRun Try.prog (loopB Try.f64 2) ⟨[4, 5, 6], [], []⟩ 3 ((uu) :: (.lst .no 1 (rwL l)) :: (uu) :: (uu) :: (.lst (.tok 1 0) 10 (paL p)) :: (.lst (.tok 2 0) 1 (intsD q)) :: (uu) :: (.int .i64 n) :: (uu) :: (uu) :: (.int .i64 b) :: (un 32 ++ (.int .i64 c) :: (.int .i64 b) :: (un 12 ++ (.lst .no 13 (irL r)) :: (.int .i64 m) :: (.int .i64 i) :: (un 28)))) [.dead, .fam 0 10, .fam 0 1] (Ex.ret) (un 4 ++ (.lst .tight 0 []) :: (.lst .tight 0 []) :: (.int .i64 2) :: (un 81)) ([.dead, .dead, .dead]) := by
 exact RoundRun.of_eval mixed [tC (by ((try simp only [sL] at *); (try unfold big at *); omega) : (decide (i < m)) = true), tC (v := true) (leL 0 (decide_eq_false (Int.not_lt.2 i0))), .get _ _ _ hx, .ret _ _ _ hm, tT] (by kernel_rfl)
theorem blk_any (l : List IrS) (b : Int) (b0 : 0 ≤ b) (b1 : b ≤ 1000) (hk : blkOK l) (hl : l.length ≤ 100000) : Ret Try.prog 126 [.lst .no 13 (irL l), .int .i64 b] (.lst .no 10 (paL (blkP l b))) :=
 blk_ok l b _ (bk_loop l b b0 b1 hk hl)
abbrev prT (l : List (List IrS)) (pro : List XS) (p : List PaS) (n k : Int) : List D := ((.undef) :: (.lst .no 1 (rwL l)) :: (.undef) :: (.undef) :: (.lst (.tok 0 0) 10 (paL p)) :: (.lst .tight 0 []) :: (.undef) :: (.int .i64 n) :: (un 15 ++ (.lst .no 8 (xsL pro)) :: (.int .i64 ((xsL pro).length : Int)) :: (.int .i64 k) :: (un 62)))
abbrev prU (l : List (List IrS)) (p : List PaS) (n : Int) : List D := ((.undef) :: (.lst .no 1 (rwL l)) :: (.undef) :: (.undef) :: (.lst (.tok 0 0) 10 (paL p)) :: (.lst .tight 0 []) :: (.undef) :: (.int .i64 n) :: (un 80))
abbrev ckT (l : List (List IrS)) (r : List IrS) (p : List PaS) (q : List Int) (n c b m i : Int) : List D := ((.undef) :: (.lst .no 1 (rwL l)) :: (.undef) :: (.undef) :: (.lst (.tok 1 0) 10 (paL p)) :: (.lst (.tok 2 0) 1 (intsD q)) :: (.undef) :: (.int .i64 n) :: (.undef) :: (.undef) :: (.int .i64 b) :: (un 32 ++ (.int .i64 c) :: (.int .i64 b) :: (un 12 ++ (.lst .no 13 (irL r)) :: (.int .i64 m) :: (.int .i64 i) :: (un 28))))
abbrev ckU (l : List (List IrS)) (p : List PaS) (q : List Int) (n c b : Int) : List D := ((.undef) :: (.lst .no 1 (rwL l)) :: (.undef) :: (.undef) :: (.lst (.tok 1 0) 10 (paL p)) :: (.lst (.tok 2 0) 1 (intsD q)) :: (.undef) :: (.int .i64 n) :: (.undef) :: (.undef) :: (.int .i64 b) :: (un 32 ++ (.int .i64 c) :: (.int .i64 b) :: (un 43)))
abbrev ckE : List D := (un 4 ++ (.lst .tight 0 []) :: (.lst .tight 0 []) :: (.int .i64 2) :: (un 81))
def proB (x : XS) : Bool := mayXS x && !decide (x.op = 28 ∨ x.op = 29)
theorem pr_rounds (l : List (List IrS)) (pro : List XS) (n : Int) (hx : AllX pro) (hl : pro.length ≤ 100000) (ho : ∀ x ∈ pro, proB x = true) : ∀ (m k : Nat), k + m = pro.length →
  Rounds Try.prog (loopB Try.f64 0) 0 (prT l pro ((pro.take k).map inP) n k) [.fam 0 10] (.exit 0) (prU l (pro.map inP) n) [.fam 0 10]
 | 0, k, hk => by
  have e : pro.take k = pro := List.take_of_length_le (by omega)
  rw [e]
  exact Rounds.last (pr_end l pro (pro.map inP) n _ k (by omega) rfl (by rw [paL_len, List.length_map]; omega) (by rw [xsL_len]; omega) (by rw [xsL_len]; omega)) (fun h => by cases h)
 | m + 1, k, hk => by
  have hlt : k < pro.length := by omega
  have ih := pr_rounds l pro n hx hl ho m (k + 1) (by omega)
  have hp := ho pro[k] (List.getElem_mem hlt)
  unfold proB at hp
  rw [Bool.and_eq_true] at hp
  obtain ⟨hm, hj⟩ := hp
  have hj' : ¬ (pro[k].op = 28 ∨ pro[k].op = 29) := by simpa using hj
  have hmy := mayX_ok pro[k].op pro[k].w pro[k].dst pro[k].src pro[k].base pro[k].disp pro[k].imm pro[k].cc (hx _ (List.getElem_mem hlt))
  rw [show mayX pro[k].op pro[k].w pro[k].dst pro[k].src pro[k].base pro[k].disp pro[k].imm pro[k].cc = true from hm] at hmy
  have := pr_in l pro ((pro.take k).map inP) n _ k (by omega) rfl (by rw [paL_len, List.length_map, List.length_take]; omega) (by rw [xsL_len]; omega) (by rw [xsL_len]; omega) pro[k] (by rw [Int.toNat_natCast]; exact xsL_get pro k hlt) (fun h => hj' (.inl h)) (fun h => hj' (.inr h)) hmy
  rw [paL_snoc, show IntKind.i64.wrap ((k : Int) + 1) = ((k + 1 : Nat) : Int) by rw [w_i64]; omega] at this
  rw [List.take_succ_eq_append_getElem hlt, List.map_append] at ih
  exact Rounds.more this ih
theorem pr_loop (l : List (List IrS)) (pro : List XS) (n : Int) (hx : AllX pro) (hl : pro.length ≤ 100000) (ho : ∀ x ∈ pro, proB x = true) : LoopRun Try.prog 0 (.loop (loopB Try.f64 0)) (prT l pro [] n 0) [.fam 0 10] (.exit 0) (prU l (pro.map inP) n) [.fam 0 10] :=
 LoopRun.of_rounds (by decide) (pr_rounds l pro n hx hl ho pro.length 0 (by omega))
theorem pr_roundsE (l : List (List IrS)) (pro : List XS) (n : Int) (hx : AllX pro) (hl : pro.length ≤ 100000) (ho : ¬ ∀ x ∈ pro, proB x = true) : ∀ (m k : Nat), k + m = pro.length → (∀ x ∈ pro.take k, proB x = true) →
  Rounds Try.prog (loopB Try.f64 0) 0 (prT l pro ((pro.take k).map inP) n k) [.fam 0 10] .ret ckE []
 | 0, k, hk, ha => by
  rw [List.take_of_length_le (show pro.length ≤ k by omega)] at ha
  exact absurd ha ho
 | m + 1, k, hk, ha => by
  have hlt : k < pro.length := by omega
  have h1 : ((paL ((pro.take k).map inP)).length : Int) ≤ 100000 := by rw [paL_len, List.length_map, List.length_take]; omega
  have h2 : (k : Int) < ((xsL pro).length : Int) := by rw [xsL_len]; omega
  have h3 : ((xsL pro).length : Int) ≤ 100000 := by rw [xsL_len]; omega
  have hg : (xsL pro)[Int.toNat (k : Int)]? = some (xsD pro[k]) := by rw [Int.toNat_natCast]; exact xsL_get pro k hlt
  by_cases j1 : pro[k].op = 28
  ·exact Rounds.last (pr_j1 l pro ((pro.take k).map inP) n _ k (by omega) rfl h1 h3 h2 pro[k] hg j1) (fun h => by cases h)
  ·by_cases j2 : pro[k].op = 29
   ·exact Rounds.last (pr_j2 l pro ((pro.take k).map inP) n _ k (by omega) rfl h1 h3 h2 pro[k] hg j2) (fun h => by cases h)
   ·have hmy := mayX_ok pro[k].op pro[k].w pro[k].dst pro[k].src pro[k].base pro[k].disp pro[k].imm pro[k].cc (hx _ (List.getElem_mem hlt))
    cases hm : mayXS pro[k] with
    | false =>
     rw [show mayX pro[k].op pro[k].w pro[k].dst pro[k].src pro[k].base pro[k].disp pro[k].imm pro[k].cc = false from hm] at hmy
     exact Rounds.last (pr_m l pro ((pro.take k).map inP) n _ k (by omega) rfl h1 h3 h2 pro[k] hg j1 j2 hmy) (fun h => by cases h)
    | true =>
     rw [show mayX pro[k].op pro[k].w pro[k].dst pro[k].src pro[k].base pro[k].disp pro[k].imm pro[k].cc = true from hm] at hmy
     have ih := pr_roundsE l pro n hx hl ho m (k + 1) (by omega) (by
      rw [List.take_succ_eq_append_getElem hlt]
      intro x hx'
      rcases List.mem_append.1 hx' with q | q
      ·exact ha x q
      ·rw [List.mem_singleton] at q
       subst q
       unfold proB
       rw [hm]
       simp [j1, j2])
     have := pr_in l pro ((pro.take k).map inP) n _ k (by omega) rfl h1 h3 h2 pro[k] hg j1 j2 hmy
     rw [paL_snoc, show IntKind.i64.wrap ((k : Int) + 1) = ((k + 1 : Nat) : Int) by rw [w_i64]; omega] at this
     rw [List.take_succ_eq_append_getElem hlt, List.map_append] at ih
     exact Rounds.more this ih
theorem pr_loopE (l : List (List IrS)) (pro : List XS) (n : Int) (hx : AllX pro) (hl : pro.length ≤ 100000) (ho : ¬ ∀ x ∈ pro, proB x = true) : LoopRun Try.prog 0 (.loop (loopB Try.f64 0)) (prT l pro [] n 0) [.fam 0 10] .ret ckE [] :=
 LoopRun.of_rounds (by decide) (pr_roundsE l pro n hx hl ho pro.length 0 (by omega) (by simp))
theorem ck_rounds (l : List (List IrS)) (r : List IrS) (p : List PaS) (q : List Int) (n c b : Int) (ho : AllOk r) (hl : r.length ≤ 100000) (hm : ∀ s ∈ r, mayL s (l.length : Int) = true) : ∀ (m i : Nat), i + m = r.length →
  Rounds Try.prog (loopB Try.f64 2) 3 (ckT l r p q n c b ((irL r).length : Int) i) [.dead, .fam 0 10, .fam 0 1] (.exit 4) (ckU l p q n c b) [.dead, .fam 0 10, .fam 0 1]
 | 0, i, hi => Rounds.last (ck_end l r p q n c b _ i (by omega) rfl (by rw [irL_len]; omega) (by rw [irL_len]; omega)) (fun h => by cases h)
 | m + 1, i, hi => by
  have hlt : i < r.length := by omega
  have ih := ck_rounds l r p q n c b ho hl hm m (i + 1) (by omega)
  have hmy := lmay_ok r[i] (ho _ (List.getElem_mem hlt)) ((rwL l).length : Int)
  rw [show mayL r[i] ((rwL l).length : Int) = true by rw [rwL_len]; exact hm _ (List.getElem_mem hlt)] at hmy
  have := ck_in l r p q n c b _ i (by omega) rfl (by rw [irL_len]; omega) (by rw [irL_len]; omega) r[i] (by rw [Int.toNat_natCast]; exact irL_get r i hlt) hmy
  rw [show IntKind.i64.wrap ((i : Int) + 1) = ((i + 1 : Nat) : Int) by rw [w_i64]; omega] at this
  exact Rounds.more this ih
theorem ck_loop (l : List (List IrS)) (r : List IrS) (p : List PaS) (q : List Int) (n c b : Int) (ho : AllOk r) (hl : r.length ≤ 100000) (hm : ∀ s ∈ r, mayL s (l.length : Int) = true) :
  LoopRun Try.prog 3 (.loop (loopB Try.f64 2)) (ckT l r p q n c b ((irL r).length : Int) 0) [.dead, .fam 0 10, .fam 0 1] (.exit 4) (ckU l p q n c b) [.dead, .fam 0 10, .fam 0 1] :=
 LoopRun.of_rounds (by decide) (ck_rounds l r p q n c b ho hl hm r.length 0 (by omega))
theorem ck_roundsE (l : List (List IrS)) (r : List IrS) (p : List PaS) (q : List Int) (n c b : Int) (ho : AllOk r) (hl : r.length ≤ 100000) (hm : ¬ ∀ s ∈ r, mayL s (l.length : Int) = true) : ∀ (m i : Nat), i + m = r.length → (∀ s ∈ r.take i, mayL s (l.length : Int) = true) →
  Rounds Try.prog (loopB Try.f64 2) 3 (ckT l r p q n c b ((irL r).length : Int) i) [.dead, .fam 0 10, .fam 0 1] .ret ckE [.dead, .dead, .dead]
 | 0, i, hi, ha => by
  rw [List.take_of_length_le (show r.length ≤ i by omega)] at ha
  exact absurd ha hm
 | m + 1, i, hi, ha => by
  have hlt : i < r.length := by omega
  have hmy := lmay_ok r[i] (ho _ (List.getElem_mem hlt)) ((rwL l).length : Int)
  have hg : (irL r)[Int.toNat (i : Int)]? = some (IrS.d r[i]) := by rw [Int.toNat_natCast]; exact irL_get r i hlt
  cases hq : mayL r[i] (l.length : Int) with
  | false =>
   rw [show mayL r[i] ((rwL l).length : Int) = false by rw [rwL_len]; exact hq] at hmy
   exact Rounds.last (ck_bad l r p q n c b _ i (by omega) rfl (by rw [irL_len]; omega) (by rw [irL_len]; omega) r[i] hg hmy) (fun h => by cases h)
  | true =>
   rw [show mayL r[i] ((rwL l).length : Int) = true by rw [rwL_len]; exact hq] at hmy
   have ih := ck_roundsE l r p q n c b ho hl hm m (i + 1) (by omega) (by
    rw [List.take_succ_eq_append_getElem hlt]
    intro x hx'
    rcases List.mem_append.1 hx' with q' | q'
    ·exact ha x q'
    ·rw [List.mem_singleton] at q'
     subst q'
     exact hq)
   have := ck_in l r p q n c b _ i (by omega) rfl (by rw [irL_len]; omega) (by rw [irL_len]; omega) r[i] hg hmy
   rw [show IntKind.i64.wrap ((i : Int) + 1) = ((i + 1 : Nat) : Int) by rw [w_i64]; omega] at this
   exact Rounds.more this ih
theorem ck_loopE (l : List (List IrS)) (r : List IrS) (p : List PaS) (q : List Int) (n c b : Int) (ho : AllOk r) (hl : r.length ≤ 100000) (hm : ¬ ∀ s ∈ r, mayL s (l.length : Int) = true) :
  LoopRun Try.prog 3 (.loop (loopB Try.f64 2)) (ckT l r p q n c b ((irL r).length : Int) 0) [.dead, .fam 0 10, .fam 0 1] .ret ckE [.dead, .dead, .dead] :=
 LoopRun.of_rounds (by decide) (ck_roundsE l r p q n c b ho hl hm r.length 0 (by omega) (by simp))
end Go.Proofs.Ytcngafhpodeenaa
