/- Contracts and plain laws that a statement's proof leans on (texts merged: MdP4, MdW, MdF2, MdE, MdP, MdS, MdI, MdG, MdV, MdP5, XR1, XR2, XR3, XR4, XWake, XWake2, XE0, XE0A, XR5, XR6). -/
import Derived.Test.YtcngafhpodeenaaR04
import Derived.Test.YtcngafhpodeenaaR05
import Derived.Test.YtcngafhpodeenaaR07
import Derived.Test.YtcngafhpodeenaaR10
import Derived.Test.YtcngafhpodeenaaR11
import Derived.Test.YtcngafhpodeenaaR12
set_option linter.unusedVariables false
set_option linter.unusedSimpArgs false
namespace Go.Ev
open Go
def byK : List LK := [.int .u8]
def hdD (ds : List D) : D := ds.headD .undef
theorem by_cells (ds : List D) (h : okL byK ds) : (hdD ds).cells = some ds := by
 simp only [byK, okL] at h
 obtain ⟨n, r, rfl, _, rfl⟩ := h
 rfl
theorem bys_of : ∀ (xs : List (List D)), (∀ ds ∈ xs, okL byK ds) → ∃ l : List Int, xs.map hdD = bD l ∧ isB l ∧ l.length = xs.length
 | [], _ => ⟨[], rfl, nilB, rfl⟩
 | ds :: r, h => by
  obtain ⟨l, e, ho, hl⟩ := bys_of r (fun d hd => h d (List.mem_cons_of_mem _ hd))
  have h1 := h ds (List.mem_cons_self ..)
  simp only [byK, okL] at h1
  obtain ⟨n, r', rfl, hn, rfl⟩ := h1
  refine ⟨n :: l, by rw [List.map_cons, e]; rfl, isB_cons.2 ⟨?_, ho⟩, by simp [hl]⟩
  simp [IntKind.has, IntKind.min, IntKind.max, IntKind.signed, IntKind.bits] at hn
  omega
theorem bD_append (a b : List Int) : bD (a ++ b) = bD a ++ bD b := by simp [bD]
theorem read_back {x : XS} (h : mayXS x = true) (t : List Int) : readM (bytesXS x ++ t) = some x := by
 have hd : decM (bytesXS x ++ t) = x := dec_back h t
 unfold readM
 rw [hd, if_pos]
 unfold fitsX
 rw [h, Bool.true_and, List.isPrefixOf_iff_prefix]
 exact List.prefix_append _ _
theorem read_fits {b : List Int} {x : XS} (h : readM b = some x) : mayXS x = true ∧ bytesXS x <+: b := by
 unfold readM at h
 split at h
 ·rename_i hf
  cases h
  unfold fitsX at hf
  rw [Bool.and_eq_true, List.isPrefixOf_iff_prefix] at hf
  exact hf
 ·cases h
theorem rex_len (w : Bool) (r m : Int) (al : Bool) : (rexM w r m al).length ≤ 1 := by unfold rexM; split <;> simp
theorem mem_len (r b d : Int) : (memM r b d).length = 5 ∨ (memM r b d).length = 6 := by unfold memM fourM; split <;> simp
theorem bytes_len (x : XS) : 1 ≤ (bytesXS x).length ∧ (bytesXS x).length ≤ 11 := by
 unfold bytesXS bytesM
 have r1 := rex_len (decide (x.w = 64)) x.src x.dst false
 have r2 := rex_len (decide (x.w = 64)) x.dst x.src false
 have r3 := rex_len false 0 x.dst false
 have r4 := rex_len (decide (x.w = 64)) 0 x.dst false
 have r5 := rex_len (decide (x.w = 64)) x.dst x.base false
 have r6 := rex_len (decide (x.w = 64)) x.src x.base (decide (x.w = 8))
 have m1 := mem_len x.dst x.base x.disp
 have m2 := mem_len x.src x.base x.disp
 have ite : ∀ {c : Prop} [Decidable c] {a b : List Int} {m n : Nat}, (m ≤ a.length ∧ a.length ≤ n) → (m ≤ b.length ∧ b.length ≤ n) → (m ≤ (if c then a else b).length ∧ (if c then a else b).length ≤ n) := by
  intro c _ a b m n h1 h2
  by_cases hc : c
  ·rw [if_pos hc]; exact h1
  ·rw [if_neg hc]; exact h2
 have sm : ∀ {l : List Int} {m n : Nat}, m ≤ l.length → l.length ≤ n → (m ≤ l.length ∧ l.length ≤ n) := fun a b => ⟨a, b⟩
 have l7 := @ite (x.w = 8) _ [15, 182] (if x.w = 16 then [15, 183] else [139]) 1 2 (by simp) (ite (by simp) (by simp))
 have l8 := @ite (x.w = 16) _ [102] [] 0 1 (by simp) (by simp)
 have l9 := @ite (x.w = 8) _ [136] [137] 1 1 (by simp) (by simp)
 refine ite (by simp only [List.length_append, List.length_cons, List.length_nil]; omega) (ite (by simp only [List.length_append, List.length_cons, List.length_nil]; omega) (ite (by simp only [List.length_append, List.length_cons, List.length_nil]; omega) (ite (ite (by simp only [List.length_append, List.length_cons, List.length_nil, fourM]; omega) (by simp only [List.length_append, List.length_cons, List.length_nil, fourM]; omega)) (ite (by simp only [List.length_append, List.length_cons, List.length_nil]; omega) (ite (by simp only [List.length_append, List.length_cons, List.length_nil]; omega) (ite ?_ (ite ?_ (ite (ite (by simp) (by simp [fourM])) (ite (ite (by simp) (by simp [fourM])) (ite (by simp) (by simp)))))))))))
 ·rw [List.length_append, List.length_append]; omega
 ·rw [List.length_append, List.length_append, List.length_append]; omega
end Go.Ev

namespace Go.Ev
open Go
def readsX (op dst src base : Int) : Int :=
  if op = 0 then sh8 src
  else if op = 1 ∨ op = 28 ∨ op = 29 then 0
  else if 20 ≤ op ∧ op ≤ 22 then or64 (sh8 dst) (sh8 1)
  else if op = 24 then or64 (or64 (sh8 dst) (sh8 0)) (sh8 2)
  else if op = 26 then sh8 base
  else if op = 27 then or64 (sh8 base) (sh8 src)
  else if op = 30 then 17
  else if op = 31 then 1477
  else if shapeM op = 1 ∨ shapeM op = 2 ∨ shapeM op = 6 then or64 (sh8 dst) (sh8 src)
  else sh8 dst
def writesX (op dst : Int) : Int :=
  if op = 7 ∨ op = 8 ∨ op = 14 ∨ op = 15 ∨ op = 27 ∨ op = 28 ∨ op = 29 then 0
  else if op = 24 then 5
  else if op = 30 then 16
  else if op = 31 then 2051
  else sh8 dst
def readsXX (op w dst src base disp imm cc : Int) : Int := if mayX op w dst src base disp imm cc then readsX op dst src base else 0
def writesXX (op w dst src base disp imm cc : Int) : Int := if mayX op w dst src base disp imm cc then writesX op dst else 0
end Go.Ev

namespace Go.Ev
open Go
def addC (w a b : Int) : Bool := decide (cutM (u64 (a + b)) w < cutM a w)
def addO (w a b : Int) : Bool := negM (and64u (xor64 a (u64 (a + b))) (xor64 b (u64 (a + b)))) w
def subC (w a b : Int) : Bool := decide (cutM a w < cutM b w)
def subO (w a b : Int) : Bool := negM (and64u (xor64 a b) (xor64 a (u64 (a - b)))) w
def holdM (cc : Int) (c z s o : Bool) : Bool :=
  if cc = 2 then c else if cc = 3 then !c else if cc = 4 then z else if cc = 5 then !z else if cc = 6 then (c || z) else if cc = 7 then !(c || z)
  else if cc = 12 then (s != o) else if cc = 13 then !(s != o) else if cc = 14 then (z || (s != o)) else !(z || (s != o))
def wrOp (op : Int) : Bool := !(decide (op = 7 ∨ op = 8 ∨ op = 14 ∨ op = 15 ∨ op = 27 ∨ op = 28 ∨ op = 29))
end Go.Ev

namespace Go.Ev
open Go
def inU (n : Int) : Prop := 0 ≤ n ∧ n ≤ 18446744073709551615
theorem cut_cut (v w : Int) : cutM (cutM v w) w = cutM v w := by
 unfold cutM
 split
 ·omega
 ·split
  ·omega
  ·split
   ·omega
   ·rfl
def bitOf (w k : Int) : Int := IntKind.i64.wrap ((BitVec.ofInt 64 (w.fdiv (2 ^ (min k.toNat 64))) &&& BitVec.ofInt 64 1).toNat : Int)
def mayP (w dst src : Int) : Bool := longM w && regM dst && regM src
end Go.Ev

namespace Go.Ev
open Go
end Go.Ev

namespace Go.Ev
open Go
structure MachS where
  (q0 q1 q2 q3 q4 q5 q6 q7 q8 q9 q10 q11 q12 q13 q14 q15 : Int)
  (fk fc fz fs fo : Bool)
  (pc : Int)
deriving DecidableEq
def MachS.d (m : MachS) : D := .agg [.int .u64 m.q0, .int .u64 m.q1, .int .u64 m.q2, .int .u64 m.q3, .int .u64 m.q4, .int .u64 m.q5, .int .u64 m.q6, .int .u64 m.q7, .int .u64 m.q8, .int .u64 m.q9, .int .u64 m.q10, .int .u64 m.q11, .int .u64 m.q12, .int .u64 m.q13, .int .u64 m.q14, .int .u64 m.q15, .bool m.fk, .bool m.fc, .bool m.fz, .bool m.fs, .bool m.fo, .int .u64 m.pc]
def MachS.rl (m : MachS) : List Int := [m.q0, m.q1, m.q2, m.q3, m.q4, m.q5, m.q6, m.q7, m.q8, m.q9, m.q10, m.q11, m.q12, m.q13, m.q14, m.q15]
def MachS.put (m : MachS) (i v : Int) : MachS := ⟨st 0 i v m.q0, st 1 i v m.q1, st 2 i v m.q2, st 3 i v m.q3, st 4 i v m.q4, st 5 i v m.q5, st 6 i v m.q6, st 7 i v m.q7, st 8 i v m.q8, st 9 i v m.q9, st 10 i v m.q10, st 11 i v m.q11, st 12 i v m.q12, st 13 i v m.q13, st 14 i v m.q14, st 15 i v m.q15, m.fk, m.fc, m.fz, m.fs, m.fo, m.pc⟩
def MachS.flags (m : MachS) (k c z s o : Bool) : MachS := ⟨m.q0, m.q1, m.q2, m.q3, m.q4, m.q5, m.q6, m.q7, m.q8, m.q9, m.q10, m.q11, m.q12, m.q13, m.q14, m.q15, k, c, z, s, o, m.pc⟩
def MachS.at (m : MachS) (v : Int) : MachS := ⟨m.q0, m.q1, m.q2, m.q3, m.q4, m.q5, m.q6, m.q7, m.q8, m.q9, m.q10, m.q11, m.q12, m.q13, m.q14, m.q15, m.fk, m.fc, m.fz, m.fs, m.fo, v⟩
def MachS.zero : MachS := ⟨0, 0, 0, 0, 0, 0, 0, 0, 0, 0, 0, 0, 0, 0, 0, 0, false, false, false, false, false, 0⟩
def XS.len (x : XS) : Int := lenX x.op x.w x.dst x.src x.base x.disp x.imm x.cc
def XS.may (x : XS) : Bool := mayX x.op x.w x.dst x.src x.base x.disp x.imm x.cc
def sopM (op : Int) : Option (Int × Int) :=
  match op with
  | 2 => some (0, 0)
  | 3 => some (4, 0)
  | 4 => some (5, 0)
  | 5 => some (1, 0)
  | 6 => some (10, 0)
  | 7 => some (1, 0)
  | 8 => some (5, 0)
  | 9 => some (0, 1)
  | 10 => some (4, 1)
  | 11 => some (5, 1)
  | 12 => some (1, 1)
  | 13 => some (10, 1)
  | 14 => some (1, 1)
  | 15 => some (5, 1)
  | 16 => some (2, 0)
  | 17 => some (6, 1)
  | 18 => some (7, 1)
  | 19 => some (12, 1)
  | 20 => some (6, 2)
  | 21 => some (7, 2)
  | 22 => some (12, 2)
  | 23 => some (8, 0)
  | _ => none
def secS (m : MachS) (x : XS) (k : Int) : Int := match k with
  | 2 => m.q1
  | 1 => u64 x.imm
  | _ => rg m.rl x.src
def flagS (m : MachS) (s w a b v : Int) : MachS := match s with
  | 0 => m.flags true (addC w a b) (cutM (u64 (a + b)) w == 0) (negM (u64 (a + b)) w) (addO w a b)
  | 1 => m.flags true (subC w a b) (cutM (u64 (a - b)) w == 0) (negM (u64 (a - b)) w) (subO w a b)
  | 8 => m.flags true (subC w 0 a) (cutM (u64 (0 - a)) w == 0) (negM (u64 (0 - a)) w) (subO w 0 a)
  | 4 => m.flags true false (cutM v w == 0) (negM v w) false
  | 5 => m.flags true false (cutM v w == 0) (negM v w) false
  | 10 => m.flags true false (cutM v w == 0) (negM v w) false
  | _ => m.flags false false false false false
def keepOp (op : Int) : Bool := match op with
  | 7 => true
  | 8 => true
  | 14 => true
  | 15 => true
  | _ => false
def doS (m : MachS) (x : XS) (ld : Int) : MachS × Int := match sopM x.op with
  | some (s, k) =>
    let a := rg m.rl x.dst
    let b := secS m x k
    let v := doM s x.w a b
    match keepOp x.op with
    | true => (flagS m s x.w a b v, 0)
    | false => ((flagS m s x.w a b v).put x.dst v, 0)
  | none => match x.op with
    | 0 => (m.put x.dst (cutM (rg m.rl x.src) x.w), 0)
    | 1 => (m.put x.dst (cutM (u64 x.imm) x.w), 0)
    | 24 => match cutM (rg m.rl x.dst) x.w == 0 with
      | true => (.zero, 20)
      | false => match cutM m.q2 x.w == 0 with
        | false => (.zero, 20)
        | true => (({ m with q0 := u64 ((cutM m.q0 x.w).tdiv (cutM (rg m.rl x.dst) x.w)), q2 := (cutM m.q0 x.w).tmod (cutM (rg m.rl x.dst) x.w) }).flags false false false false false, 0)
    | 25 => match m.fk with
      | false => (.zero, 20)
      | true => (m.put x.dst (cutM (if holdM x.cc m.fc m.fz m.fs m.fo then rg m.rl x.src else rg m.rl x.dst) x.w), 0)
    | 26 => (m.put x.dst (cutM ld x.w), 0)
    | 28 => (m.at (u64 (m.pc + u64 x.imm)), 0)
    | 29 => match m.fk with
      | false => (.zero, 20)
      | true => (m.at (if holdM x.cc m.fc m.fz m.fs m.fo then u64 (m.pc + u64 x.imm) else m.pc), 0)
    | 30 => (({ m with q4 := u64 (m.q4 + 8) }).at ld, 0)
    | 31 => ({ m with q0 := ld, q1 := 0, q11 := 0 }, 0)
    | _ => (m, 0)
def execS (m : MachS) (x : XS) (ld : Int) : MachS × Int := match x.may with
  | false => (.zero, 2)
  | true => doS (m.at (u64 (m.pc + u64 x.len))) x ld
def execM (m : MachS) (x : XS) (ld : Int) : MachS := (execS m x ld).1
def execE (m : MachS) (x : XS) (ld : Int) : Int := (execS m x ld).2
def pcX (m : MachS) (op w dst src base disp imm cc : Int) : Int := u64 (m.pc + u64 (lenX op w dst src base disp imm cc))
def xT (op w dst src base disp imm cc ld : Int) : List D := [.int .i8 op, .int .i8 w, .int .i8 dst, .int .i8 src, .int .i8 base, .int .i64 disp, .int .i64 imm, .int .i8 cc, .int .u64 ld]
def fT (m : MachS) (p : Int) (tl : List D) : List D := .bool m.fk :: .bool m.fc :: .bool m.fz :: .bool m.fs :: .bool m.fo :: .int .u64 p :: tl
def zC : List D := [.int .u64 0, .int .u64 0, .int .u64 0, .int .u64 0, .int .u64 0, .int .u64 0, .int .u64 0, .int .u64 0, .int .u64 0, .int .u64 0, .int .u64 0, .int .u64 0, .int .u64 0, .int .u64 0, .int .u64 0, .int .u64 0, .bool false, .bool false, .bool false, .bool false, .bool false, .int .u64 0]
def MachS.cw (m : MachS) (p : Int) (tl : List D) : List D := .int .u64 m.q0 :: .int .u64 m.q1 :: .int .u64 m.q2 :: .int .u64 m.q3 :: .int .u64 m.q4 :: .int .u64 m.q5 :: .int .u64 m.q6 :: .int .u64 m.q7 :: .int .u64 m.q8 :: .int .u64 m.q9 :: .int .u64 m.q10 :: .int .u64 m.q11 :: .int .u64 m.q12 :: .int .u64 m.q13 :: .int .u64 m.q14 :: .int .u64 m.q15 :: .bool m.fk :: .bool m.fc :: .bool m.fz :: .bool m.fs :: .bool m.fo :: .int .u64 p :: tl
def addrS (m : MachS) (x : XS) : Int × Int × Bool :=
  if x.may = true ∧ (x.op = 26 ∨ x.op = 27) then (u64 (rg m.rl x.base + u64 x.disp), x.w / 8, true)
  else if x.may = true ∧ x.op = 30 then (m.q4, 8, true)
  else (0, 0, false)
def storedS (m : MachS) (x : XS) : Int := if x.may = true ∧ x.op = 27 then cutM (rg m.rl x.src) x.w else 0
def numS (m : MachS) : Int × Bool := if 16 ≤ m.q0 then (0, false) else (IntKind.i64.wrap m.q0, true)
def numV (q : Int) : Int := if 16 ≤ q then 0 else IntKind.i64.wrap q
def numB (q : Int) : Bool := !decide (16 ≤ q)
def argsS (m : MachS) : List Int := if 16 ≤ m.q0 then [] else [m.q7, m.q6, m.q2, m.q10, m.q8].take (m.q0.toNat % 6)
def wD (l : List Int) : List D := l.map (fun x => .int .u64 x)
def toccM (cc : Int) : Int × Bool :=
  if cc = 0 then (4, true) else if cc = 1 then (5, true) else if cc = 2 then (7, true) else if cc = 3 then (3, true) else if cc = 4 then (2, true) else if cc = 5 then (6, true)
  else if cc = 6 then (15, true) else if cc = 7 then (13, true) else if cc = 8 then (12, true) else if cc = 9 then (14, true) else if cc = 10 then (5, true) else (0, false)
def ccM' (cc : Int) : Int × Bool :=
  if cc = 4 then (0, true) else if cc = 5 then (1, true) else if cc = 7 then (2, true) else if cc = 3 then (3, true) else if cc = 2 then (4, true) else if cc = 6 then (5, true)
  else if cc = 15 then (6, true) else if cc = 13 then (7, true) else if cc = 12 then (8, true) else if cc = 14 then (9, true) else (0, false)
end Go.Ev

namespace Go.Ev
open Go
structure RgS where
  (r0 r1 r2 r3 r4 r5 r6 r7 r8 r9 r10 : Int)
deriving DecidableEq
def RgS.c (r : RgS) : List D := [.int .u64 r.r0, .int .u64 r.r1, .int .u64 r.r2, .int .u64 r.r3, .int .u64 r.r4, .int .u64 r.r5, .int .u64 r.r6, .int .u64 r.r7, .int .u64 r.r8, .int .u64 r.r9, .int .u64 r.r10]
def RgS.d (r : RgS) : D := .agg r.c
def RgS.l (r : RgS) : List Int := [r.r0, r.r1, r.r2, r.r3, r.r4, r.r5, r.r6, r.r7, r.r8, r.r9, r.r10]
def RgS.get (r : RgS) (i : Int) : Int := rg r.l i
def RgS.put (r : RgS) (i v : Int) : RgS := ⟨st 0 i v r.r0, st 1 i v r.r1, st 2 i v r.r2, st 3 i v r.r3, st 4 i v r.r4, st 5 i v r.r5, st 6 i v r.r6, st 7 i v r.r7, st 8 i v r.r8, st 9 i v r.r9, st 10 i v r.r10⟩
def RgS.zero : RgS := ⟨0, 0, 0, 0, 0, 0, 0, 0, 0, 0, 0⟩
section
variable {r0 r1 r2 r3 r4 r5 r6 r7 r8 r9 r10 i v : Int} {tl : List D}
end
def MachS.c (m : MachS) : List D := [.int .u64 m.q0, .int .u64 m.q1, .int .u64 m.q2, .int .u64 m.q3, .int .u64 m.q4, .int .u64 m.q5, .int .u64 m.q6, .int .u64 m.q7, .int .u64 m.q8, .int .u64 m.q9, .int .u64 m.q10, .int .u64 m.q11, .int .u64 m.q12, .int .u64 m.q13, .int .u64 m.q14, .int .u64 m.q15, .bool m.fk, .bool m.fc, .bool m.fz, .bool m.fs, .bool m.fo, .int .u64 m.pc]
def IrS.x (s : IrS) : XS := ⟨s.op, s.w, s.dst, s.src, s.base, s.disp, s.imm, s.cc⟩
def scrM (n : Int) : Bool := decide (n = 0 ∨ n = 1 ∨ n = 2 ∨ n = 11)
def namesM (op w dst src base disp imm cc : Int) : Int := or64 (readsXX op w dst src base disp imm cc) (writesXX op w dst src base disp imm cc)
def ownM (op w dst src base disp imm cc : Int) : Bool := andNot64 (namesM op w dst src base disp imm cc) 2055 == 0
def zeroX (op w dst src base disp imm cc : Int) : Bool := decide (op = 0 ∧ w = 0 ∧ dst = 0 ∧ src = 0 ∧ base = 0 ∧ disp = 0 ∧ imm = 0 ∧ cc = 0)
def mayI (kind op w dst src base disp imm cc reg phys num to : Int) : Bool :=
  if kind = 0 then mayX op w dst src base disp imm cc && decide (op < 28) && ownM op w dst src base disp imm cc && decide (reg = 0 ∧ phys = 0 ∧ num = 0 ∧ to = 0)
  else if kind = 1 ∨ kind = 2 then decide (0 ≤ reg ∧ reg ≤ 10) && scrM phys && zeroX op w dst src base disp imm cc && decide (num = 0 ∧ to = 0)
  else if kind = 3 then decide (0 ≤ num ∧ num ≤ 15) && zeroX op w dst src base disp imm cc && decide (reg = 0 ∧ phys = 0 ∧ to = 0)
  else if kind = 4 then ccM cc && zeroX (op - 29) w dst src base disp imm 0 && decide (0 ≤ to ∧ to ≤ 64) && decide (reg = 0 ∧ phys = 0 ∧ num = 0)
  else if kind = 5 then decide (0 ≤ to ∧ to ≤ 64) && zeroX op w dst src base disp imm cc && decide (reg = 0 ∧ phys = 0 ∧ num = 0)
  else if kind = 6 then zeroX op w dst src base disp imm cc && decide (reg = 0 ∧ phys = 0 ∧ num = 0 ∧ to = 0)
  else false
def stopsI (kind op : Int) : Bool := decide ((3 ≤ kind ∧ kind ≤ 6) ∨ (kind = 0 ∧ (op = 26 ∨ op = 27)))
def IrS.ok (s : IrS) : Prop := -128 ≤ s.kind ∧ s.kind ≤ 127 ∧ s.op ≤ 127 ∧ s.cc ≤ 127 ∧ s.phys ≤ 127 ∧ -128 ≤ s.reg ∧ s.reg ≤ 127
def AllOk (l : List IrS) : Prop := ∀ s ∈ l, s.ok
def IrS.may (s : IrS) : Bool := mayI s.kind s.op s.w s.dst s.src s.base s.disp s.imm s.cc s.reg s.phys s.num s.to
def IrS.stops (s : IrS) : Bool := stopsI s.kind s.op
def badI (l : List IrS) : Option Nat := l.findIdx? (fun s => !s.may)
def chkI (l : List IrS) : Int × Int := match badI l with
  | some k => ((k : Int), 2)
  | none => (0, 0)
def runI : List IrS → RgS → MachS → RgS × MachS × Nat × Int
  | [], r, m => (r, m, 0, 0)
  | s :: t, r, m => match s.stops with
    | true => (r, m, t.length + 1, 0)
    | false => if s.kind = 1 then runI t r (m.put s.phys (r.get s.reg))
      else if s.kind = 2 then runI t (r.put s.reg (rg m.rl s.phys)) m
      else if (execS m s.x 0).2 = 0 then runI t r ((execS m s.x 0).1.at 0)
      else (.zero, .zero, t.length + 1, (execS m s.x 0).2)
def restI (l : List IrS) (r : RgS) (m : MachS) : List IrS := l.drop (l.length - (runI l r m).2.2.1)
def doI (l : List IrS) (r : RgS) : RgS × MachS × Int × Int :=
  if (chkI l).2 = 0 then
    let q := runI l r .zero
    if q.2.2.2 = 0 then (q.1, q.2.1, ((l.length - q.2.2.1 : Nat) : Int), 0) else (.zero, .zero, 0, q.2.2.2)
  else (.zero, .zero, 0, 2)
def namedI (k : Int) (n : Int) : List IrS → Int
  | [] => n
  | s :: t => namedI k (if s.kind = k ∧ 0 ≤ s.reg ∧ s.reg ≤ 10 then or64 n (sh8 s.reg) else n) t
end Go.Ev

namespace Go.Ev
open Go
def oneOK (kind op width size : Int) (byReg : Bool) (dst src off imm : Int) : Bool := mayM kind op width size byReg dst src off imm && (!(kind == 3) && !(kind == 4))
def oneL (kind op width size : Int) (byReg : Bool) (dst src off imm : Int) : List D := if oneOK kind op width size byReg dst src off imm then stepsM kind op width size byReg dst src off imm else []
def oneE (kind op width size : Int) (byReg : Bool) (dst src off imm : Int) : Int := if oneOK kind op width size byReg dst src off imm then 0 else 2
end Go.Ev
namespace Go.Ev
open Go
def irOf : D → IrS
  | .agg [.int _ a, .int _ b, .int _ c, .int _ d, .int _ e, .int _ f, .int _ g, .int _ h, .int _ i, .int _ j, .int _ k, .int _ l, .int _ m] => ⟨a, b, c, d, e, f, g, h, i, j, k, l, m⟩
  | _ => ⟨0, 0, 0, 0, 0, 0, 0, 0, 0, 0, 0, 0, 0⟩
def AllIr (l : List D) : Prop := (l.map irOf).map IrS.d = l
end Go.Ev

namespace Go.Ev
open Go
def irK : List LK := [.int .i8, .int .i8, .int .i8, .int .i8, .int .i8, .int .i8, .int .i64, .int .i64, .int .i8, .int .i8, .int .i8, .int .i64, .int .i64]
theorem has8_ {n : Int} (h : IntKind.i8.has n) : -128 ≤ n ∧ n ≤ 127 := by
 simp [IntKind.has, IntKind.min, IntKind.max, IntKind.signed, IntKind.bits] at h
 omega
end Go.Ev

namespace Go.Ev
open Go
def xK : List LK := [.int .i8, .int .i8, .int .i8, .int .i8, .int .i8, .int .i64, .int .i64, .int .i8]
def AllX (l : List XS) : Prop := ∀ x ∈ l, x.op ≤ 127
theorem xs_of : ∀ (xs : List (List D)), (∀ ds ∈ xs, okL xK ds) → ∃ l : List XS, xs.map .agg = l.map xsD ∧ AllX l ∧ l.length = xs.length
 | [], _ => ⟨[], rfl, fun s hs => (by simp at hs), rfl⟩
 | ds :: r, h => by
  obtain ⟨l, e, ho, hl⟩ := xs_of r (fun d hd => h d (List.mem_cons_of_mem _ hd))
  have h0 := h ds (List.mem_cons_self ..)
  simp only [xK, okL] at h0
  obtain ⟨a1, _, rfl, h1, a2, _, rfl, h2, a3, _, rfl, h3, a4, _, rfl, h4, a5, _, rfl, h5, a6, _, rfl, h6, a7, _, rfl, h7, a8, _, rfl, h8, rfl⟩ := h0
  refine ⟨⟨a1, a2, a3, a4, a5, a6, a7, a8⟩ :: l, by rw [List.map_cons, List.map_cons, e]; rfl, fun s hs => ?_, by simp [hl]⟩
  rcases List.mem_cons.mp hs with rfl | hs
  ·exact (has8_ h1).2
  ·exact ho s hs
def catM : List XS → List Int
  | [] => []
  | x :: r => bytesXS x ++ catM r
def posM : Int → List XS → List Int
  | _, [] => []
  | s, x :: r => s :: posM (s + (bytesXS x).length) r
def intsD (l : List Int) : List D := l.map (.int .i64)
def xsL (l : List XS) : List D := l.map xsD
theorem catM_append : ∀ (p q : List XS), catM (p ++ q) = catM p ++ catM q
 | [], q => rfl
 | x :: p, q => by rw [List.cons_append, catM, catM, catM_append p q, List.append_assoc]
theorem catM_snoc (p : List XS) (x : XS) : catM (p ++ [x]) = catM p ++ bytesXS x := by rw [catM_append]; simp [catM]
theorem posM_snoc : ∀ (p : List XS) (s : Int) (x : XS), posM s (p ++ [x]) = posM s p ++ [s + (catM p).length]
 | [], s, x => by simp [posM, catM]
 | y :: p, s, x => by
  rw [List.cons_append, posM, posM, posM_snoc p, List.cons_append, catM]
  congr 2
  simp
  omega
theorem posM_len : ∀ (p : List XS) (s : Int), (posM s p).length = p.length
 | [], s => rfl
 | x :: p, s => by simp [posM, posM_len p]
theorem posM_get : ∀ (p : List XS) (s : Int) (j : Nat), j < p.length → (posM s p)[j]? = some (s + (catM (p.take j)).length)
 | [], s, j, h => by simp at h
 | x :: p, s, 0, h => by simp [posM, catM]
 | x :: p, s, j + 1, h => by
  simp only [posM, List.getElem?_cons_succ, List.take_succ_cons, catM]
  rw [posM_get p _ j (by simpa using h)]
  simp
  omega
theorem catM_isB : ∀ {p : List XS}, (∀ x ∈ p, mayXS x = true) → isB (catM p)
 | [], _ => nilB
 | x :: p, h => fun y hy => by
  rcases List.mem_append.1 hy with q | q
  ·exact bytesXS_isB (h x (List.mem_cons_self ..)) y q
  ·exact catM_isB (fun z hz => h z (List.mem_cons_of_mem _ hz)) y q
theorem catM_len : ∀ (p : List XS), p.length ≤ (catM p).length ∧ (catM p).length ≤ 11 * p.length
 | [] => ⟨Nat.le_refl _, Nat.le_refl _⟩
 | x :: p => by
  obtain ⟨h1, h2⟩ := catM_len p
  obtain ⟨h3, h4⟩ := bytes_len x
  simp only [catM, List.length_append, List.length_cons]
  omega
theorem catM_drop (p : List XS) (j : Nat) (t : List Int) : (catM p ++ t).drop (catM (p.take j)).length = catM (p.drop j) ++ t := by
 have e : catM p ++ t = catM (p.take j) ++ (catM (p.drop j) ++ t) := by
  rw [← List.append_assoc, ← catM_append, List.take_append_drop]
 rw [e]
 exact List.drop_left
theorem catM_take (p : List XS) (j : Nat) (h : j < p.length) : (catM (p.take (j + 1))).length = (catM (p.take j)).length + (bytesXS p[j]).length := by
 rw [List.take_succ_eq_append_getElem h, catM_snoc, List.length_append]
theorem catM_read (p : List XS) (j : Nat) (t : List Int) (h : j < p.length) (hm : mayXS p[j] = true) : readM (catM (p.drop j) ++ t) = some p[j] := by
 rw [List.drop_eq_getElem_cons h, catM, List.append_assoc]
 exact read_back hm _
theorem read_len {b : List Int} {x : XS} (h : readM b = some x) : (bytesXS x).length ≤ b.length := (read_fits h).2.length_le
theorem xsL_get (p : List XS) (j : Nat) (h : j < p.length) : (xsL p)[j]? = some (xsD p[j]) := by simp [xsL, h]
theorem intsD_get {l : List Int} {j : Nat} {v : Int} (h : l[j]? = some v) : (intsD l)[j]? = some (.int .i64 v) := by simp [intsD, h]
theorem intsD_len (l : List Int) : (intsD l).length = l.length := by simp [intsD]
theorem xsL_len (l : List XS) : (xsL l).length = l.length := by simp [xsL]
theorem intsD_snoc (l : List Int) (v : Int) : intsD (l ++ [v]) = intsD l ++ [.int .i64 v] := by simp [intsD]
theorem xsL_snoc (l : List XS) (v : XS) : xsL (l ++ [v]) = xsL l ++ [xsD v] := by simp [xsL]
end Go.Ev

namespace Go.Proofs.Ytcngafhpodeenaa
open Go Go.Ev
set_option maxRecDepth 100000
set_option maxHeartbeats 8000000
theorem er_end (l p : List XS) (a b bh : List Int) (n k : Int) (h : n ≤ k) : RoundRun Try.prog (loopB Try.f6 0) ⟨[1, 4, 6, 7], [0, 1, 2], [(5, 1), (1001000, 1), (1002000, 8)]⟩ 3 [D.undef, .lst .no 1 (bD bh), D.undef, D.undef, D.ptr false 0 0, .lst (Own.tok (3 : Nat) (0 : Nat)) (1 : Nat) (bD b), D.ptr false 1 0, D.ptr false 2 0, D.undef, D.undef, D.undef, D.undef, D.undef, D.undef, D.undef, D.undef, D.undef, D.undef, D.undef, D.undef, D.undef, D.undef, D.undef, D.undef, D.undef, D.undef, .lst .no 8 (xsL l), .int .i64 n, .int .i64 k, D.undef, D.undef, D.undef, D.undef, D.undef, D.undef, D.undef, D.undef, D.undef, D.undef, D.undef, D.undef, D.undef, D.undef, D.undef, D.undef, D.undef, D.undef, D.undef, D.undef, D.undef, D.undef, D.undef, D.undef, D.undef, D.undef, D.undef, D.undef, D.undef, D.undef, D.undef, D.undef, D.undef, D.undef, D.undef, D.undef, D.undef, D.undef, D.undef, D.undef, D.undef, D.undef, D.undef, D.undef, D.undef, D.undef, D.undef, D.undef, D.undef, D.undef, D.undef, D.undef, D.undef, D.undef, D.undef, D.undef, D.undef, D.undef, D.undef, D.undef, D.undef, D.undef, D.undef, D.undef, D.undef, D.undef, D.undef, D.undef, D.undef, D.undef, D.undef, D.undef] [Ob.box [.bool false], Ob.box [.lst (Own.tok (4 : Nat) (0 : Nat)) (1 : Nat) (intsD a)], Ob.box [.lst (Own.tok (5 : Nat) (0 : Nat)) (8 : Nat) (xsL p)], Ob.fam (0 : Nat) (1 : Nat), Ob.fam (0 : Nat) (1 : Nat), Ob.fam (0 : Nat) (8 : Nat)] (Ex.exit (0 : Nat)) [D.undef, .lst .no 1 (bD bh), D.undef, D.undef, D.ptr false 0 0, .lst (Own.tok (3 : Nat) (0 : Nat)) (1 : Nat) (bD b), D.ptr false 1 0, D.ptr false 2 0, D.undef, D.undef, D.undef, D.undef, D.undef, D.undef, D.undef, D.undef, D.undef, D.undef, D.undef, D.undef, D.undef, D.undef, D.undef, D.undef, D.undef, D.undef, D.undef, D.undef, D.undef, D.undef, D.undef, D.undef, D.undef, D.undef, D.undef, D.undef, D.undef, D.undef, D.undef, D.undef, D.undef, D.undef, D.undef, D.undef, D.undef, D.undef, D.undef, D.undef, D.undef, D.undef, D.undef, D.undef, D.undef, D.undef, D.undef, D.undef, D.undef, D.undef, D.undef, D.undef, D.undef, D.undef, D.undef, D.undef, D.undef, D.undef, D.undef, D.undef, D.undef, D.undef, D.undef, D.undef, D.undef, D.undef, D.undef, D.undef, D.undef, D.undef, D.undef, D.undef, D.undef, D.undef, D.undef, D.undef, D.undef, D.undef, D.undef, D.undef, D.undef, D.undef, D.undef, D.undef, D.undef, D.undef, D.undef, D.undef, D.undef, D.undef, D.undef, D.undef, D.undef] ([Ob.box [.bool false], Ob.box [.lst (Own.tok (4 : Nat) (0 : Nat)) (1 : Nat) (intsD a)], Ob.box [.lst (Own.tok (5 : Nat) (0 : Nat)) (8 : Nat) (xsL p)], Ob.fam (0 : Nat) (1 : Nat), Ob.fam (0 : Nat) (1 : Nat), Ob.fam (0 : Nat) (8 : Nat)]) := by
 exact (RoundRun.of_eval (sp := ⟨[1, 4, 6, 7], [0, 1, 2], [(5, 1), (1001000, 1), (1002000, 8)]⟩) (n0 := 3) (ex := Ex.exit (0 : Nat)) (t' := [D.undef, .lst .no 1 (bD bh), D.undef, D.undef, D.ptr false 0 0, .lst (Own.tok (3 : Nat) (0 : Nat)) (1 : Nat) (bD b), D.ptr false 1 0, D.ptr false 2 0, D.undef, D.undef, D.undef, D.undef, D.undef, D.undef, D.undef, D.undef, D.undef, D.undef, D.undef, D.undef, D.undef, D.undef, D.undef, D.undef, D.undef, D.undef, D.undef, D.undef, D.undef, D.undef, D.undef, D.undef, D.undef, D.undef, D.undef, D.undef, D.undef, D.undef, D.undef, D.undef, D.undef, D.undef, D.undef, D.undef, D.undef, D.undef, D.undef, D.undef, D.undef, D.undef, D.undef, D.undef, D.undef, D.undef, D.undef, D.undef, D.undef, D.undef, D.undef, D.undef, D.undef, D.undef, D.undef, D.undef, D.undef, D.undef, D.undef, D.undef, D.undef, D.undef, D.undef, D.undef, D.undef, D.undef, D.undef, D.undef, D.undef, D.undef, D.undef, D.undef, D.undef, D.undef, D.undef, D.undef, D.undef, D.undef, D.undef, D.undef, D.undef, D.undef, D.undef, D.undef, D.undef, D.undef, D.undef, D.undef, D.undef, D.undef, D.undef, D.undef, D.undef]) (s' := [Ob.box [.bool false], Ob.box [.lst (Own.tok (4 : Nat) (0 : Nat)) (1 : Nat) (intsD a)], Ob.box [.lst (Own.tok (5 : Nat) (0 : Nat)) (8 : Nat) (xsL p)], Ob.fam (0 : Nat) (1 : Nat), Ob.fam (0 : Nat) (1 : Nat), Ob.fam (0 : Nat) (8 : Nat)]) mixed [tC (by ((try simp only [List.length_append, List.length_cons, List.length_nil, len_bD, intsD_len, xsL_len, w_i8, w_u8, w_i64, w_u64, decide_eq_true_eq, decide_eq_false_iff_not, beq_iff_eq, bne_iff_ne, beq_eq_false_iff_ne, bne_eq_false_iff_eq, Bool.not_eq_true', Bool.not_eq_false', Bool.and_eq_true, Bool.or_eq_true] at *); (try unfold big at *); omega) : (decide (k < n)) = false)] (by kernel_rfl)).cast (by rfl) (by rfl)
theorem er_skip (l p : List XS) (a b bh : List Int) (n k : Int) (hb : ((bD b).length : Int) ≤ 1000) (ha : ((intsD a).length : Int) ≤ 1000) (hp : ((xsL p).length : Int) ≤ 1000) (k0 : 0 ≤ k) (k1 : k < n) (n1 : n ≤ 60) (x : XS) (hx : (xsL l)[k.toNat]? = some (xsD x)) (hc : Ret Try.prog 21 [xsD x] (.tup [.lst .no 1 [], .int .i64 2])) : RoundRun Try.prog (loopB Try.f6 0) ⟨[1, 4, 6, 7, 26, 27, 28], [0, 1, 2], [(5, 1), (1001000, 1), (1002000, 8)]⟩ 3 [D.undef, .lst .no 1 (bD bh), D.undef, D.undef, D.ptr false 0 0, .lst (Own.tok (3 : Nat) (0 : Nat)) (1 : Nat) (bD b), D.ptr false 1 0, D.ptr false 2 0, D.undef, D.undef, D.undef, D.undef, D.undef, D.undef, D.undef, D.undef, D.undef, D.undef, D.undef, D.undef, D.undef, D.undef, D.undef, D.undef, D.undef, D.undef, .lst .no 8 (xsL l), .int .i64 n, .int .i64 k, D.undef, D.undef, D.undef, D.undef, D.undef, D.undef, D.undef, D.undef, D.undef, D.undef, D.undef, D.undef, D.undef, D.undef, D.undef, D.undef, D.undef, D.undef, D.undef, D.undef, D.undef, D.undef, D.undef, D.undef, D.undef, D.undef, D.undef, D.undef, D.undef, D.undef, D.undef, D.undef, D.undef, D.undef, D.undef, D.undef, D.undef, D.undef, D.undef, D.undef, D.undef, D.undef, D.undef, D.undef, D.undef, D.undef, D.undef, D.undef, D.undef, D.undef, D.undef, D.undef, D.undef, D.undef, D.undef, D.undef, D.undef, D.undef, D.undef, D.undef, D.undef, D.undef, D.undef, D.undef, D.undef, D.undef, D.undef, D.undef, D.undef, D.undef, D.undef, D.undef] [Ob.box [.bool false], Ob.box [.lst (Own.tok (4 : Nat) (0 : Nat)) (1 : Nat) (intsD a)], Ob.box [.lst (Own.tok (5 : Nat) (0 : Nat)) (8 : Nat) (xsL p)], Ob.fam (0 : Nat) (1 : Nat), Ob.fam (0 : Nat) (1 : Nat), Ob.fam (0 : Nat) (8 : Nat)] (Ex.norm) [D.undef, .lst .no 1 (bD bh), D.undef, D.undef, D.ptr false 0 0, .lst (Own.tok (3 : Nat) (0 : Nat)) (1 : Nat) (bD b), D.ptr false 1 0, D.ptr false 2 0, D.undef, D.undef, D.undef, D.undef, D.undef, D.undef, D.undef, D.undef, D.undef, D.undef, D.undef, D.undef, D.undef, D.undef, D.undef, D.undef, D.undef, D.undef, .lst .no 8 (xsL l), .int .i64 n, .int .i64 (IntKind.wrap IntKind.i64 (k + (1 : Int))), D.undef, D.undef, D.undef, D.undef, D.undef, D.undef, D.undef, D.undef, D.undef, D.undef, D.undef, D.undef, D.undef, D.undef, D.undef, D.undef, D.undef, D.undef, D.undef, D.undef, D.undef, D.undef, D.undef, D.undef, D.undef, D.undef, D.undef, D.undef, D.undef, D.undef, D.undef, D.undef, D.undef, D.undef, D.undef, D.undef, D.undef, D.undef, D.undef, D.undef, D.undef, D.undef, D.undef, D.undef, D.undef, D.undef, D.undef, D.undef, D.undef, D.undef, D.undef, D.undef, D.undef, D.undef, D.undef, D.undef, D.undef, D.undef, D.undef, D.undef, D.undef, D.undef, D.undef, D.undef, D.undef, D.undef, D.undef, D.undef, D.undef, D.undef, D.undef, D.undef] ([.box [.bool false], .box [.lst (.tok 4 0) 1 (intsD a)], .box [.lst (.tok 5 0) 8 (xsL p)], .fam 0 1, .fam 0 1, .fam 0 8]) := by
 exact (RoundRun.of_eval (sp := ⟨[1, 4, 6, 7, 26, 27, 28], [0, 1, 2], [(5, 1), (1001000, 1), (1002000, 8)]⟩) (n0 := 3) (ex := Ex.norm) (t' := [D.undef, .lst .no 1 (bD bh), D.undef, D.undef, D.ptr false 0 0, .lst (Own.tok (3 : Nat) (0 : Nat)) (1 : Nat) (bD b), D.ptr false 1 0, D.ptr false 2 0, D.undef, D.undef, D.undef, D.undef, D.undef, D.undef, D.undef, D.undef, D.undef, D.undef, D.undef, D.undef, D.undef, D.undef, D.undef, D.undef, D.undef, D.undef, .lst .no 8 (xsL l), .int .i64 n, .int .i64 (IntKind.wrap IntKind.i64 (k + (1 : Int))), D.undef, D.undef, D.undef, D.undef, D.undef, D.undef, D.undef, D.undef, D.undef, D.undef, D.undef, D.undef, D.undef, D.undef, D.undef, D.undef, D.undef, D.undef, D.undef, D.undef, D.undef, D.undef, D.undef, D.undef, D.undef, D.undef, D.undef, D.undef, D.undef, D.undef, D.undef, D.undef, D.undef, D.undef, D.undef, D.undef, D.undef, D.undef, D.undef, D.undef, D.undef, D.undef, D.undef, D.undef, D.undef, D.undef, D.undef, D.undef, D.undef, D.undef, D.undef, D.undef, D.undef, D.undef, D.undef, D.undef, D.undef, D.undef, D.undef, D.undef, D.undef, D.undef, D.undef, D.undef, D.undef, D.undef, D.undef, D.undef, D.undef, D.undef, D.undef, D.undef]) (s' := [Ob.box [.bool false], Ob.box [.lst (Own.tok (4 : Nat) (0 : Nat)) (1 : Nat) (intsD a)], Ob.box [.lst (Own.tok (5 : Nat) (0 : Nat)) (8 : Nat) (xsL p)], Ob.fam (0 : Nat) (1 : Nat), Ob.fam (0 : Nat) (1 : Nat), Ob.fam (0 : Nat) (8 : Nat)]) mixed [tC (by ((try simp only [List.length_append, List.length_cons, List.length_nil, len_bD, intsD_len, xsL_len, w_i8, w_u8, w_i64, w_u64, decide_eq_true_eq, decide_eq_false_iff_not, beq_iff_eq, bne_iff_ne, beq_eq_false_iff_ne, bne_eq_false_iff_eq, Bool.not_eq_true', Bool.not_eq_false', Bool.and_eq_true, Bool.or_eq_true] at *); (try unfold big at *); omega) : (decide (k < n)) = true), tC (v := true) (leL 0 (decide_eq_false (Int.not_lt.2 k0))), .get _ _ _ hx, .ret _ _ _ hc, tT] (by kernel_rfl)).cast (by rfl) (by rfl)
theorem er_put (l p : List XS) (a b bh : List Int) (n k : Int) (hb : ((bD b).length : Int) ≤ 1000) (ha : ((intsD a).length : Int) ≤ 1000) (hp : ((xsL p).length : Int) ≤ 1000) (k0 : 0 ≤ k) (k1 : k < n) (n1 : n ≤ 60) (x : XS) (hx : (xsL l)[k.toNat]? = some (xsD x)) (c : List Int) (hcl : ((bD c).length : Int) ≤ 11) (hc : Ret Try.prog 21 [xsD x] (.tup [.lst .no 1 (bD c), .int .i64 0])) : RoundRun Try.prog (loopB Try.f6 0) ⟨[1, 4, 6, 7, 26, 27, 28], [0, 1, 2], [(5, 1), (1001000, 1), (1002000, 8)]⟩ 3 [D.undef, .lst .no 1 (bD bh), D.undef, D.undef, D.ptr false 0 0, .lst (Own.tok (3 : Nat) (0 : Nat)) (1 : Nat) (bD b), D.ptr false 1 0, D.ptr false 2 0, D.undef, D.undef, D.undef, D.undef, D.undef, D.undef, D.undef, D.undef, D.undef, D.undef, D.undef, D.undef, D.undef, D.undef, D.undef, D.undef, D.undef, D.undef, .lst .no 8 (xsL l), .int .i64 n, .int .i64 k, D.undef, D.undef, D.undef, D.undef, D.undef, D.undef, D.undef, D.undef, D.undef, D.undef, D.undef, D.undef, D.undef, D.undef, D.undef, D.undef, D.undef, D.undef, D.undef, D.undef, D.undef, D.undef, D.undef, D.undef, D.undef, D.undef, D.undef, D.undef, D.undef, D.undef, D.undef, D.undef, D.undef, D.undef, D.undef, D.undef, D.undef, D.undef, D.undef, D.undef, D.undef, D.undef, D.undef, D.undef, D.undef, D.undef, D.undef, D.undef, D.undef, D.undef, D.undef, D.undef, D.undef, D.undef, D.undef, D.undef, D.undef, D.undef, D.undef, D.undef, D.undef, D.undef, D.undef, D.undef, D.undef, D.undef, D.undef, D.undef, D.undef, D.undef, D.undef, D.undef] [Ob.box [.bool false], Ob.box [.lst (Own.tok (4 : Nat) (0 : Nat)) (1 : Nat) (intsD a)], Ob.box [.lst (Own.tok (5 : Nat) (0 : Nat)) (8 : Nat) (xsL p)], Ob.fam (0 : Nat) (1 : Nat), Ob.fam (0 : Nat) (1 : Nat), Ob.fam (0 : Nat) (8 : Nat)] (Ex.norm) [D.undef, .lst .no 1 (bD bh), D.undef, D.undef, D.ptr false 0 0, .lst (Own.tok (3 : Nat) (0 : Nat)) (1 : Nat) (bD b ++ bD c), D.ptr false 1 0, D.ptr false 2 0, D.undef, D.undef, D.undef, D.undef, D.undef, D.undef, D.undef, D.undef, D.undef, D.undef, D.undef, D.undef, D.undef, D.undef, D.undef, D.undef, D.undef, D.undef, .lst .no 8 (xsL l), .int .i64 n, .int .i64 (IntKind.wrap IntKind.i64 (k + (1 : Int))), D.undef, D.undef, D.undef, D.undef, D.undef, D.undef, D.undef, D.undef, D.undef, D.undef, D.undef, D.undef, D.undef, D.undef, D.undef, D.undef, D.undef, D.undef, D.undef, D.undef, D.undef, D.undef, D.undef, D.undef, D.undef, D.undef, D.undef, D.undef, D.undef, D.undef, D.undef, D.undef, D.undef, D.undef, D.undef, D.undef, D.undef, D.undef, D.undef, D.undef, D.undef, D.undef, D.undef, D.undef, D.undef, D.undef, D.undef, D.undef, D.undef, D.undef, D.undef, D.undef, D.undef, D.undef, D.undef, D.undef, D.undef, D.undef, D.undef, D.undef, D.undef, D.undef, D.undef, D.undef, D.undef, D.undef, D.undef, D.undef, D.undef, D.undef, D.undef, D.undef] ([.box [.bool false], .box [.lst (.tok 4 0) 1 (intsD a ++ [.int .i64 ((bD b).length : Int)])], .box [.lst (.tok 5 0) 8 (xsL p ++ [xsD x])], .fam 0 1, .fam 0 1, .fam 0 8]) := by
 exact (RoundRun.of_eval (sp := ⟨[1, 4, 6, 7, 26, 27, 28], [0, 1, 2], [(5, 1), (1001000, 1), (1002000, 8)]⟩) (n0 := 3) (ex := Ex.norm) (t' := [D.undef, .lst .no 1 (bD bh), D.undef, D.undef, D.ptr false 0 0, .lst (Own.tok (3 : Nat) (0 : Nat)) (1 : Nat) (bD b ++ bD c), D.ptr false 1 0, D.ptr false 2 0, D.undef, D.undef, D.undef, D.undef, D.undef, D.undef, D.undef, D.undef, D.undef, D.undef, D.undef, D.undef, D.undef, D.undef, D.undef, D.undef, D.undef, D.undef, .lst .no 8 (xsL l), .int .i64 n, .int .i64 (IntKind.wrap IntKind.i64 (k + (1 : Int))), D.undef, D.undef, D.undef, D.undef, D.undef, D.undef, D.undef, D.undef, D.undef, D.undef, D.undef, D.undef, D.undef, D.undef, D.undef, D.undef, D.undef, D.undef, D.undef, D.undef, D.undef, D.undef, D.undef, D.undef, D.undef, D.undef, D.undef, D.undef, D.undef, D.undef, D.undef, D.undef, D.undef, D.undef, D.undef, D.undef, D.undef, D.undef, D.undef, D.undef, D.undef, D.undef, D.undef, D.undef, D.undef, D.undef, D.undef, D.undef, D.undef, D.undef, D.undef, D.undef, D.undef, D.undef, D.undef, D.undef, D.undef, D.undef, D.undef, D.undef, D.undef, D.undef, D.undef, D.undef, D.undef, D.undef, D.undef, D.undef, D.undef, D.undef, D.undef, D.undef]) (s' := [Ob.box [.bool false], Ob.box [.lst (Own.tok (4 : Nat) (0 : Nat)) (1 : Nat) (intsD a ++ [.int .i64 (↑(List.length (bD b)) : Int)])], Ob.box [.lst (Own.tok (5 : Nat) (0 : Nat)) (8 : Nat) (xsL p ++ [(xD (XS.op x) (XS.w x) (XS.dst x) (XS.src x) (XS.base x) (XS.disp x) (XS.imm x) (XS.cc x))])], Ob.fam (0 : Nat) (1 : Nat), Ob.fam (0 : Nat) (1 : Nat), Ob.fam (0 : Nat) (8 : Nat)]) mixed [tC (by ((try simp only [List.length_append, List.length_cons, List.length_nil, len_bD, intsD_len, xsL_len, w_i8, w_u8, w_i64, w_u64, decide_eq_true_eq, decide_eq_false_iff_not, beq_iff_eq, bne_iff_ne, beq_eq_false_iff_ne, bne_eq_false_iff_eq, Bool.not_eq_true', Bool.not_eq_false', Bool.and_eq_true, Bool.or_eq_true] at *); (try unfold big at *); omega) : (decide (k < n)) = true), tC (v := true) (leL 0 (decide_eq_false (Int.not_lt.2 k0))), .get _ _ _ hx, .ret _ _ _ hc, tF, .len (List.length (intsD a) + List.length [D.int .i64 (↑(List.length (bD b)) : Int)]) ((2147483648 : Nat)) (by first | decide | omega | (simp; omega)), .len (List.length (xsL p) + List.length [(xD (XS.op x) (XS.w x) (XS.dst x) (XS.src x) (XS.base x) (XS.disp x) (XS.imm x) (XS.cc x))]) ((2147483648 : Nat)) (by first | decide | omega | (simp; omega)), .len (List.length (bD b) + List.length (bD c)) ((2147483648 : Nat)) (by first | decide | omega | (simp; omega))] (by kernel_rfl)).cast (by rfl) (by rfl)
end Go.Proofs.Ytcngafhpodeenaa

namespace Go.Proofs.Ytcngafhpodeenaa
open Go Go.Ev
set_option maxRecDepth 100000
abbrev rwT (l p : List XS) (bh : List Int) (k : Int) : List D := [.undef, .lst .no 1 (bD bh), .undef, .undef, .ptr false 0 0, .lst (.tok 3 0) 1 (bD (catM p)), .ptr false 1 0, .ptr false 2 0, .undef, .undef, .undef, .undef, .undef, .undef, .undef, .undef, .undef, .undef, .undef, .undef, .undef, .undef, .undef, .undef, .undef, .undef, .lst .no 8 (xsL l), .int .i64 ((xsL l).length : Int), .int .i64 k, .undef, .undef, .undef, .undef, .undef, .undef, .undef, .undef, .undef, .undef, .undef, .undef, .undef, .undef, .undef, .undef, .undef, .undef, .undef, .undef, .undef, .undef, .undef, .undef, .undef, .undef, .undef, .undef, .undef, .undef, .undef, .undef, .undef, .undef, .undef, .undef, .undef, .undef, .undef, .undef, .undef, .undef, .undef, .undef, .undef, .undef, .undef, .undef, .undef, .undef, .undef, .undef, .undef, .undef, .undef, .undef, .undef, .undef, .undef, .undef, .undef, .undef, .undef, .undef, .undef, .undef, .undef, .undef, .undef, .undef, .undef, .undef]
abbrev rwU (p : List XS) (bh : List Int) : List D := [.undef, .lst .no 1 (bD bh), .undef, .undef, .ptr false 0 0, .lst (.tok 3 0) 1 (bD (catM p)), .ptr false 1 0, .ptr false 2 0, .undef, .undef, .undef, .undef, .undef, .undef, .undef, .undef, .undef, .undef, .undef, .undef, .undef, .undef, .undef, .undef, .undef, .undef, .undef, .undef, .undef, .undef, .undef, .undef, .undef, .undef, .undef, .undef, .undef, .undef, .undef, .undef, .undef, .undef, .undef, .undef, .undef, .undef, .undef, .undef, .undef, .undef, .undef, .undef, .undef, .undef, .undef, .undef, .undef, .undef, .undef, .undef, .undef, .undef, .undef, .undef, .undef, .undef, .undef, .undef, .undef, .undef, .undef, .undef, .undef, .undef, .undef, .undef, .undef, .undef, .undef, .undef, .undef, .undef, .undef, .undef, .undef, .undef, .undef, .undef, .undef, .undef, .undef, .undef, .undef, .undef, .undef, .undef, .undef, .undef, .undef, .undef, .undef]
abbrev rwS (p : List XS) : List Ob := [.box [.bool false], .box [.lst (.tok 4 0) 1 (intsD (posM 0 p))], .box [.lst (.tok 5 0) 8 (xsL p)], .fam 0 1, .fam 0 1, .fam 0 8]
def putM (l : List XS) : List XS := l.filter mayXS
theorem putM_may (l : List XS) : ∀ x ∈ putM l, mayXS x = true := fun x h => (List.mem_filter.1 h).2
theorem putM_len (l : List XS) : (putM l).length ≤ l.length := List.length_filter_le ..
theorem putM_no (a : List XS) {x : XS} (h : mayXS x = false) : putM (a ++ [x]) = putM a := by
 unfold putM
 rw [List.filter_append, List.filter_cons, h]
 simp
theorem putM_yes (a : List XS) {x : XS} (h : mayXS x = true) : putM (a ++ [x]) = putM a ++ [x] := by
 unfold putM
 rw [List.filter_append, List.filter_cons, h]
 simp
theorem er_rounds (l : List XS) (hl : AllX l) (h60 : l.length ≤ 60) (bh : List Int) : ∀ (m k : Nat), k + m = l.length →
  Rounds Try.prog (loopB Try.f6 0) 3 (rwT l (putM (l.take k)) bh k) (rwS (putM (l.take k))) (.exit 0) (rwU (putM l) bh) (rwS (putM l))
 | 0, k, hk => by
  have hk' : l.take k = l := List.take_of_length_le (by omega)
  rw [hk']
  exact Rounds.last (er_end l (putM l) (posM 0 (putM l)) (catM (putM l)) bh ((xsL l).length : Int) k (by rw [xsL_len]; omega)) (fun h => by cases h)
 | m + 1, k, hk => by
  have hlt : k < l.length := by omega
  have ih := er_rounds l hl h60 bh m (k + 1) (by omega)
  have hw : IntKind.i64.wrap ((k : Int) + 1) = ((k + 1 : Nat) : Int) := by rw [w_i64]; omega
  have hx := xsL_get l k hlt
  have ho := hl l[k] (List.getElem_mem hlt)
  have hp : (putM (l.take k)).length ≤ 60 := Nat.le_trans (putM_len _) (by simp; omega)
  have hc := catM_len (putM (l.take k))
  have hbt := bytes_any_ok l[k].op l[k].w l[k].dst l[k].src l[k].base l[k].disp l[k].imm l[k].cc ho
  have h1 : ((bD (catM (putM (l.take k)))).length : Int) ≤ 1000 := by rw [len_bD]; omega
  have h2 : ((intsD (posM 0 (putM (l.take k)))).length : Int) ≤ 1000 := by rw [intsD_len, posM_len]; omega
  have h3 : ((xsL (putM (l.take k))).length : Int) ≤ 1000 := by rw [xsL_len]; omega
  have h4 : (k : Int) < ((xsL l).length : Int) := by rw [xsL_len]; omega
  have h5 : ((xsL l).length : Int) ≤ 60 := by rw [xsL_len]; omega
  rw [List.take_succ_eq_append_getElem hlt] at ih
  cases hm : mayXS l[k] with
  | false =>
   have e := putM_no (l.take k) hm
   rw [e] at ih
   have hm' : mayX l[k].op l[k].w l[k].dst l[k].src l[k].base l[k].disp l[k].imm l[k].cc = false := hm
   simp only [bytesL, bytesE, hm', Bool.false_eq_true, if_false] at hbt
   have := er_skip l (putM (l.take k)) (posM 0 (putM (l.take k))) (catM (putM (l.take k))) bh ((xsL l).length : Int) k h1 h2 h3 (by omega) h4 h5 l[k] hx hbt
   rw [hw] at this
   exact Rounds.more this ih
  | true =>
   have e := putM_yes (l.take k) hm
   rw [e] at ih
   have hm' : mayX l[k].op l[k].w l[k].dst l[k].src l[k].base l[k].disp l[k].imm l[k].cc = true := hm
   simp only [bytesL, bytesE, hm', if_true] at hbt
   have hcl : ((bD (bytesXS l[k])).length : Int) ≤ 11 := by rw [len_bD]; have := bytes_len l[k]; omega
   have := er_put l (putM (l.take k)) (posM 0 (putM (l.take k))) (catM (putM (l.take k))) bh ((xsL l).length : Int) k h1 h2 h3 (by omega) h4 h5 l[k] hx (bytesXS l[k]) hcl hbt
   rw [hw, ← bD_append, ← catM_snoc, len_bD, ← xsL_snoc, ← intsD_snoc] at this
   have ep : posM 0 (putM (l.take k)) ++ [((catM (putM (l.take k))).length : Int)] = posM 0 (putM (l.take k) ++ [l[k]]) := by rw [posM_snoc, Int.zero_add]
   rw [ep] at this
   exact Rounds.more this ih
theorem er_loop (l : List XS) (hl : AllX l) (h60 : l.length ≤ 60) (bh : List Int) :
  LoopRun Try.prog 3 (.loop (loopB Try.f6 0)) (rwT l [] bh 0) (rwS []) (.exit 0) (rwU (putM l) bh) (rwS (putM l)) :=
 LoopRun.of_rounds (by decide) (er_rounds l hl h60 bh l.length 0 (by omega))
end Go.Proofs.Ytcngafhpodeenaa

namespace Go.Proofs.Ytcngafhpodeenaa
open Go Go.Ev
set_option maxRecDepth 100000
set_option maxHeartbeats 8000000
theorem rr_end (p : List XS) (a c bh : List Int) (e k i : Int) (h : ((bD c ++ bD bh).length : Int) ≤ k) : RoundRun Try.prog (loopB Try.f63 0) ⟨[], [0, 2, 8, 9], []⟩ 10 [D.yld (9 : Nat), D.ptr false 7 0, D.undef, .int .i64 k, D.undef, D.undef, D.undef, D.undef, D.undef, D.undef, D.undef, D.undef, D.undef, D.undef, D.undef, D.undef, D.undef, D.undef, D.undef, D.undef, D.undef, D.undef, D.undef, D.undef, D.undef, D.undef, D.undef, D.undef, D.undef, D.undef, D.undef] [Ob.box [.bool false], Ob.box [.lst (Own.tok (4 : Nat) (0 : Nat)) (1 : Nat) (intsD a)], Ob.box [.lst (Own.tok (5 : Nat) (0 : Nat)) (8 : Nat) (xsL p)], Ob.dead, Ob.dead, Ob.dead, Ob.box [.int .i64 e], Ob.box [.lst (Own.tok (3 : Nat) (1 : Nat)) (1 : Nat) (bD c ++ bD bh)], Ob.box [.int .i64 i],
 Ob.lp Lk.ready
  (let y :=
   let y :=
    let y :=
     let y := [D.undef, D.undef, D.undef, D.undef, D.undef, D.undef, D.undef];
     D.undef :: D.undef :: D.undef :: D.undef :: D.undef :: D.undef :: y;
    let y := D.undef :: D.undef :: D.undef :: D.undef :: D.undef :: D.undef :: D.undef :: y;
    D.undef :: D.undef :: D.undef :: D.undef :: D.undef :: D.undef :: y;
   let y :=
    let y := D.undef :: D.undef :: D.undef :: D.undef :: D.undef :: D.undef :: D.undef :: y;
    D.undef :: D.undef :: D.undef :: D.undef :: D.undef :: D.undef :: y;
   let y := D.undef :: D.undef :: D.undef :: D.undef :: D.undef :: D.undef :: y;
   D.undef :: D.undef :: D.undef :: D.undef :: D.undef :: D.undef :: y;
  let y :=
   let y :=
    let y := D.undef :: D.undef :: D.undef :: D.undef :: D.undef :: D.undef :: D.undef :: y;
    D.undef :: D.undef :: D.undef :: D.undef :: D.undef :: D.undef :: y;
   let y := D.undef :: D.undef :: D.undef :: D.undef :: D.undef :: D.undef :: y;
   D.undef :: D.undef :: D.undef :: D.undef :: D.undef :: D.undef :: y;
  let y :=
   let y := D.undef :: D.undef :: D.undef :: D.undef :: D.undef :: D.undef :: D.undef :: y;
   D.ptr false 6 0 :: D.undef :: D.ptr false 8 0 :: D.undef :: D.undef :: D.undef :: y;
  let y := D.ptr false 1 0 :: D.ptr false 2 0 :: D.undef :: D.undef :: D.undef :: D.undef :: y;
  D.undef :: D.undef :: D.undef :: D.undef :: D.ptr false 0 0 :: D.undef :: y)
  #[(61 : Nat), (62 : Nat)] (rngA Try.f6 (0 : Nat)) (rngB Try.f6 (0 : Nat))] (Ex.exit (0 : Nat)) [D.undef, D.undef, D.undef, D.undef, D.undef, D.undef, D.undef, D.undef, D.undef, D.undef, D.undef, D.undef, D.undef, D.undef, D.undef, D.undef, D.undef, D.undef, D.undef, D.undef, D.undef, D.undef, D.undef, D.undef, D.undef, D.undef, D.undef, D.undef, D.undef, D.undef, D.undef] ([Ob.box [.bool false], Ob.dead, Ob.box [.lst (Own.tok (5 : Nat) (0 : Nat)) (8 : Nat) (xsL p)], Ob.dead, Ob.dead, Ob.dead, Ob.dead, Ob.dead, Ob.box [.int .i64 i], Ob.lp Lk.ready [D.undef, D.undef, D.undef, D.undef, D.ptr false 0 0, D.undef, D.ptr false 1 0, D.ptr false 2 0, D.undef, D.undef, D.undef, D.undef, D.ptr false 6 0, D.undef, D.ptr false 8 0, D.undef, D.undef, D.undef, D.undef, D.undef, D.undef, D.undef, D.undef, D.undef, D.undef, D.undef, D.undef, D.undef, D.undef, D.undef, D.undef, D.undef, D.undef, D.undef, D.undef, D.undef, D.undef, D.undef, D.undef, D.undef, D.undef, D.undef, D.undef, D.undef, D.undef, D.undef, D.undef, D.undef, D.undef, D.undef, D.undef, D.undef, D.undef, D.undef, D.undef, D.undef, D.undef, D.undef, D.undef, D.undef, D.undef, D.undef, D.undef, D.undef, D.undef, D.undef, D.undef, D.undef, D.undef, D.undef, D.undef, D.undef, D.undef, D.undef, D.undef, D.undef, D.undef, D.undef, D.undef, D.undef, D.undef, D.undef, D.undef, D.undef, D.undef, D.undef, D.undef, D.undef, D.undef, D.undef, D.undef, D.undef, D.undef, D.undef, D.undef, D.undef, D.undef, D.undef, D.undef, D.undef, D.undef] #[(61 : Nat), (62 : Nat)] (rngA Try.f6 (0 : Nat)) (rngB Try.f6 (0 : Nat))]) := by
 exact (RoundRun.of_eval (sp := ⟨[], [0, 2, 8, 9], []⟩) (n0 := 10) (ex := Ex.exit (0 : Nat)) (t' := [D.undef, D.undef, D.undef, D.undef, D.undef, D.undef, D.undef, D.undef, D.undef, D.undef, D.undef, D.undef, D.undef, D.undef, D.undef, D.undef, D.undef, D.undef, D.undef, D.undef, D.undef, D.undef, D.undef, D.undef, D.undef, D.undef, D.undef, D.undef, D.undef, D.undef, D.undef]) (s' := [Ob.box [.bool false], Ob.dead, Ob.box [.lst (Own.tok (5 : Nat) (0 : Nat)) (8 : Nat) (xsL p)], Ob.dead, Ob.dead, Ob.dead, Ob.dead, Ob.dead, Ob.box [.int .i64 i], Ob.lp Lk.ready [D.undef, D.undef, D.undef, D.undef, D.ptr false 0 0, D.undef, D.ptr false 1 0, D.ptr false 2 0, D.undef, D.undef, D.undef, D.undef, D.ptr false 6 0, D.undef, D.ptr false 8 0, D.undef, D.undef, D.undef, D.undef, D.undef, D.undef, D.undef, D.undef, D.undef, D.undef, D.undef, D.undef, D.undef, D.undef, D.undef, D.undef, D.undef, D.undef, D.undef, D.undef, D.undef, D.undef, D.undef, D.undef, D.undef, D.undef, D.undef, D.undef, D.undef, D.undef, D.undef, D.undef, D.undef, D.undef, D.undef, D.undef, D.undef, D.undef, D.undef, D.undef, D.undef, D.undef, D.undef, D.undef, D.undef, D.undef, D.undef, D.undef, D.undef, D.undef, D.undef, D.undef, D.undef, D.undef, D.undef, D.undef, D.undef, D.undef, D.undef, D.undef, D.undef, D.undef, D.undef, D.undef, D.undef, D.undef, D.undef, D.undef, D.undef, D.undef, D.undef, D.undef, D.undef, D.undef, D.undef, D.undef, D.undef, D.undef, D.undef, D.undef, D.undef, D.undef, D.undef, D.undef, D.undef, D.undef] #[(61 : Nat), (62 : Nat)] (rngA Try.f6 (0 : Nat)) (rngB Try.f6 (0 : Nat))]) mixed [tC (by ((try simp only [List.length_append, List.length_cons, List.length_nil, List.length_drop, len_bD, intsD_len, xsL_len, w_i8, w_u8, w_i64, w_u64, decide_eq_true_eq, decide_eq_false_iff_not, beq_iff_eq, bne_iff_ne, beq_eq_false_iff_ne, bne_eq_false_iff_eq, Bool.not_eq_true', Bool.not_eq_false', Bool.and_eq_true, Bool.or_eq_true] at *); (try unfold big at *); omega) : (decide (k < (↑(List.length (bD c ++ bD bh)) : Int))) = false)] (by kernel_rfl)).cast (by rfl) (by rfl)
theorem rr_err (p : List XS) (a c bh : List Int) (e k i : Int) (k0 : 0 ≤ k) (k1 : k < ((bD c ++ bD bh).length : Int)) (k2 : ((bD c ++ bD bh).length : Int) ≤ 2000) (hq : Ret Try.prog 19 [.lst .no 1 (List.drop (Int.toNat k) (bD c ++ bD bh))] (.tup [xD 0 0 0 0 0 0 0 0, .int .i64 0, .int .i64 30]))  : RoundRun Try.prog (loopB Try.f63 0) ⟨[], [0, 2, 8, 9], []⟩ 10 [D.yld (9 : Nat), D.ptr false 7 0, D.undef, .int .i64 k, D.undef, D.undef, D.undef, D.undef, D.undef, D.undef, D.undef, D.undef, D.undef, D.undef, D.undef, D.undef, D.undef, D.undef, D.undef, D.undef, D.undef, D.undef, D.undef, D.undef, D.undef, D.undef, D.undef, D.undef, D.undef, D.undef, D.undef] [Ob.box [.bool false], Ob.box [.lst (Own.tok (4 : Nat) (0 : Nat)) (1 : Nat) (intsD a)], Ob.box [.lst (Own.tok (5 : Nat) (0 : Nat)) (8 : Nat) (xsL p)], Ob.dead, Ob.dead, Ob.dead, Ob.box [.int .i64 e], Ob.box [.lst (Own.tok (3 : Nat) (1 : Nat)) (1 : Nat) (bD c ++ bD bh)], Ob.box [.int .i64 i],
 Ob.lp Lk.ready
  (let y :=
   let y :=
    let y :=
     let y := [D.undef, D.undef, D.undef, D.undef, D.undef, D.undef, D.undef];
     D.undef :: D.undef :: D.undef :: D.undef :: D.undef :: D.undef :: y;
    let y := D.undef :: D.undef :: D.undef :: D.undef :: D.undef :: D.undef :: D.undef :: y;
    D.undef :: D.undef :: D.undef :: D.undef :: D.undef :: D.undef :: y;
   let y :=
    let y := D.undef :: D.undef :: D.undef :: D.undef :: D.undef :: D.undef :: D.undef :: y;
    D.undef :: D.undef :: D.undef :: D.undef :: D.undef :: D.undef :: y;
   let y := D.undef :: D.undef :: D.undef :: D.undef :: D.undef :: D.undef :: y;
   D.undef :: D.undef :: D.undef :: D.undef :: D.undef :: D.undef :: y;
  let y :=
   let y :=
    let y := D.undef :: D.undef :: D.undef :: D.undef :: D.undef :: D.undef :: D.undef :: y;
    D.undef :: D.undef :: D.undef :: D.undef :: D.undef :: D.undef :: y;
   let y := D.undef :: D.undef :: D.undef :: D.undef :: D.undef :: D.undef :: y;
   D.undef :: D.undef :: D.undef :: D.undef :: D.undef :: D.undef :: y;
  let y :=
   let y := D.undef :: D.undef :: D.undef :: D.undef :: D.undef :: D.undef :: D.undef :: y;
   D.ptr false 6 0 :: D.undef :: D.ptr false 8 0 :: D.undef :: D.undef :: D.undef :: y;
  let y := D.ptr false 1 0 :: D.ptr false 2 0 :: D.undef :: D.undef :: D.undef :: D.undef :: y;
  D.undef :: D.undef :: D.undef :: D.undef :: D.ptr false 0 0 :: D.undef :: y)
  #[(61 : Nat), (62 : Nat)] (rngA Try.f6 (0 : Nat)) (rngB Try.f6 (0 : Nat))] (Ex.ret) [D.undef, D.undef, D.undef, D.undef, D.undef, D.undef, D.undef, D.undef, D.undef, D.undef, D.undef, D.undef, D.undef, D.undef, D.undef, D.undef, D.undef, D.undef, D.undef, D.undef, D.undef, D.undef, D.undef, D.undef, D.undef, D.undef, D.undef, D.undef, D.undef, D.undef, D.undef] ([Ob.box [.bool false], Ob.dead, Ob.box [.lst (Own.tok (5 : Nat) (0 : Nat)) (8 : Nat) (xsL p)], Ob.dead, Ob.dead, Ob.dead, Ob.dead, Ob.dead, Ob.box [.int .i64 i], Ob.lp Lk.ready [D.undef, D.undef, D.undef, D.undef, D.ptr false 0 0, D.undef, D.ptr false 1 0, D.ptr false 2 0, D.undef, D.undef, D.undef, D.undef, D.ptr false 6 0, D.undef, D.ptr false 8 0, D.undef, D.undef, D.undef, D.undef, D.undef, D.undef, D.undef, D.undef, D.undef, D.undef, D.undef, D.undef, D.undef, D.undef, D.undef, D.undef, D.undef, D.undef, D.undef, D.undef, D.undef, D.undef, D.undef, D.undef, D.undef, D.undef, D.undef, D.undef, D.undef, D.undef, D.undef, D.undef, D.undef, D.undef, D.undef, D.undef, D.undef, D.undef, D.undef, D.undef, D.undef, D.undef, D.undef, D.undef, D.undef, D.undef, D.undef, D.undef, D.undef, D.undef, D.undef, D.undef, D.undef, D.undef, D.undef, D.undef, D.undef, D.undef, D.undef, D.undef, D.undef, D.undef, D.undef, D.undef, D.undef, D.undef, D.undef, D.undef, D.undef, D.undef, D.undef, D.undef, D.undef, D.undef, D.undef, D.undef, D.undef, D.undef, D.undef, D.undef, D.undef, D.undef, D.undef, D.undef, D.undef, D.undef] #[(61 : Nat), (62 : Nat)] (rngA Try.f6 (0 : Nat)) (rngB Try.f6 (0 : Nat))]) := by
 exact (RoundRun.of_eval (sp := ⟨[], [0, 2, 8, 9], []⟩) (n0 := 10) (ex := Ex.ret) (t' := [D.undef, D.undef, D.undef, D.undef, D.undef, D.undef, D.undef, D.undef, D.undef, D.undef, D.undef, D.undef, D.undef, D.undef, D.undef, D.undef, D.undef, D.undef, D.undef, D.undef, D.undef, D.undef, D.undef, D.undef, D.undef, D.undef, D.undef, D.undef, D.undef, D.undef, D.undef]) (s' := [Ob.box [.bool false], Ob.dead, Ob.box [.lst (Own.tok (5 : Nat) (0 : Nat)) (8 : Nat) (xsL p)], Ob.dead, Ob.dead, Ob.dead, Ob.dead, Ob.dead, Ob.box [.int .i64 i], Ob.lp Lk.ready [D.undef, D.undef, D.undef, D.undef, D.ptr false 0 0, D.undef, D.ptr false 1 0, D.ptr false 2 0, D.undef, D.undef, D.undef, D.undef, D.ptr false 6 0, D.undef, D.ptr false 8 0, D.undef, D.undef, D.undef, D.undef, D.undef, D.undef, D.undef, D.undef, D.undef, D.undef, D.undef, D.undef, D.undef, D.undef, D.undef, D.undef, D.undef, D.undef, D.undef, D.undef, D.undef, D.undef, D.undef, D.undef, D.undef, D.undef, D.undef, D.undef, D.undef, D.undef, D.undef, D.undef, D.undef, D.undef, D.undef, D.undef, D.undef, D.undef, D.undef, D.undef, D.undef, D.undef, D.undef, D.undef, D.undef, D.undef, D.undef, D.undef, D.undef, D.undef, D.undef, D.undef, D.undef, D.undef, D.undef, D.undef, D.undef, D.undef, D.undef, D.undef, D.undef, D.undef, D.undef, D.undef, D.undef, D.undef, D.undef, D.undef, D.undef, D.undef, D.undef, D.undef, D.undef, D.undef, D.undef, D.undef, D.undef, D.undef, D.undef, D.undef, D.undef, D.undef, D.undef, D.undef, D.undef, D.undef] #[(61 : Nat), (62 : Nat)] (rngA Try.f6 (0 : Nat)) (rngB Try.f6 (0 : Nat))]) mixed [tC (by ((try simp only [List.length_append, List.length_cons, List.length_nil, List.length_drop, len_bD, intsD_len, xsL_len, w_i8, w_u8, w_i64, w_u64, decide_eq_true_eq, decide_eq_false_iff_not, beq_iff_eq, bne_iff_ne, beq_eq_false_iff_ne, bne_eq_false_iff_eq, Bool.not_eq_true', Bool.not_eq_false', Bool.and_eq_true, Bool.or_eq_true] at *); (try unfold big at *); omega) : (decide (k < (↑(List.length (bD c ++ bD bh)) : Int))) = true), .tst (decide ((0 : Int) ≤ k ∧ k ≤ (↑(List.length (bD c ++ bD bh)) : Int))) true (by ((try simp only [List.length_append, List.length_cons, List.length_nil, List.length_drop, len_bD, intsD_len, xsL_len, w_i8, w_u8, w_i64, w_u64, decide_eq_true_eq, decide_eq_false_iff_not, beq_iff_eq, bne_iff_ne, beq_eq_false_iff_ne, bne_eq_false_iff_eq, Bool.not_eq_true', Bool.not_eq_false', Bool.and_eq_true, Bool.or_eq_true] at *); (try unfold big at *); omega)), .ret _ _ _ hq, tF, tF, tF, tF, tF, tT, tT] (by kernel_rfl)).cast (by rfl) (by rfl)
theorem rr_put (p : List XS) (a c bh : List Int) (e k i : Int) (k0 : 0 ≤ k) (k1 : k < ((bD c ++ bD bh).length : Int)) (k2 : ((bD c ++ bD bh).length : Int) ≤ 2000) (x : XS) (n : Int) (n0 : 1 ≤ n) (n1 : n ≤ 11) (i0 : 0 ≤ i) (i1 : i ≤ 3000) (hq : Ret Try.prog 19 [.lst .no 1 (List.drop (Int.toNat k) (bD c ++ bD bh))] (.tup [xsD x, .int .i64 n, .int .i64 0])) (i2 : i < ((xsL p).length : Int)) (i3 : i < ((intsD a).length : Int)) (hp : (xsL p)[i.toNat]? = some (xsD x)) (ha : (intsD a)[i.toNat]? = some (.int .i64 k)) : RoundRun Try.prog (loopB Try.f63 0) ⟨[0, 1, 3], [0, 1, 2, 6, 7, 8, 9], []⟩ 10 [D.yld (9 : Nat), D.ptr false 7 0, D.undef, .int .i64 k, D.undef, D.undef, D.undef, D.undef, D.undef, D.undef, D.undef, D.undef, D.undef, D.undef, D.undef, D.undef, D.undef, D.undef, D.undef, D.undef, D.undef, D.undef, D.undef, D.undef, D.undef, D.undef, D.undef, D.undef, D.undef, D.undef, D.undef] [Ob.box [.bool false], Ob.box [.lst (Own.tok (4 : Nat) (0 : Nat)) (1 : Nat) (intsD a)], Ob.box [.lst (Own.tok (5 : Nat) (0 : Nat)) (8 : Nat) (xsL p)], Ob.dead, Ob.dead, Ob.dead, Ob.box [.int .i64 e], Ob.box [.lst (Own.tok (3 : Nat) (1 : Nat)) (1 : Nat) (bD c ++ bD bh)], Ob.box [.int .i64 i],
 Ob.lp Lk.ready
  (let y :=
   let y :=
    let y :=
     let y := [D.undef, D.undef, D.undef, D.undef, D.undef, D.undef, D.undef];
     D.undef :: D.undef :: D.undef :: D.undef :: D.undef :: D.undef :: y;
    let y := D.undef :: D.undef :: D.undef :: D.undef :: D.undef :: D.undef :: D.undef :: y;
    D.undef :: D.undef :: D.undef :: D.undef :: D.undef :: D.undef :: y;
   let y :=
    let y := D.undef :: D.undef :: D.undef :: D.undef :: D.undef :: D.undef :: D.undef :: y;
    D.undef :: D.undef :: D.undef :: D.undef :: D.undef :: D.undef :: y;
   let y := D.undef :: D.undef :: D.undef :: D.undef :: D.undef :: D.undef :: y;
   D.undef :: D.undef :: D.undef :: D.undef :: D.undef :: D.undef :: y;
  let y :=
   let y :=
    let y := D.undef :: D.undef :: D.undef :: D.undef :: D.undef :: D.undef :: D.undef :: y;
    D.undef :: D.undef :: D.undef :: D.undef :: D.undef :: D.undef :: y;
   let y := D.undef :: D.undef :: D.undef :: D.undef :: D.undef :: D.undef :: y;
   D.undef :: D.undef :: D.undef :: D.undef :: D.undef :: D.undef :: y;
  let y :=
   let y := D.undef :: D.undef :: D.undef :: D.undef :: D.undef :: D.undef :: D.undef :: y;
   D.ptr false 6 0 :: D.undef :: D.ptr false 8 0 :: D.undef :: D.undef :: D.undef :: y;
  let y := D.ptr false 1 0 :: D.ptr false 2 0 :: D.undef :: D.undef :: D.undef :: D.undef :: y;
  D.undef :: D.undef :: D.undef :: D.undef :: D.ptr false 0 0 :: D.undef :: y)
  #[(61 : Nat), (62 : Nat)] (rngA Try.f6 (0 : Nat)) (rngB Try.f6 (0 : Nat))] (Ex.norm) [D.yld (9 : Nat), D.ptr false 7 0, D.undef, .int .i64 (IntKind.wrap IntKind.i64 (k + n)), D.undef, D.undef, D.undef, D.undef, D.undef, D.undef, D.undef, D.undef, D.undef, D.undef, D.undef, D.undef, D.undef, D.undef, D.undef, D.undef, D.undef, D.undef, D.undef, D.undef, D.undef, D.undef, D.undef, D.undef, D.undef, D.undef, D.undef] ([.box [.bool false], .box [.lst (.tok 4 0) 1 (intsD a)], .box [.lst (.tok 5 0) 8 (xsL p)], .dead, .dead, .dead, .box [.int .i64 e], .box [.lst (.tok 3 1) 1 (bD c ++ bD bh)], .box [.int .i64 (IntKind.i64.wrap (i + 1))], .lp .ready [.undef, .undef, .undef, .undef, .ptr false 0 0, .undef, .ptr false 1 0, .ptr false 2 0, .undef, .undef, .undef, .undef, .ptr false 6 0, .undef, .ptr false 8 0, .undef, .undef, .undef, .undef, .undef, .undef, .undef, .undef, .undef, .undef, .undef, .undef, .undef, .undef, .undef, .undef, .undef, .undef, .undef, .undef, .undef, .undef, .undef, .undef, .undef, .undef, .undef, .undef, .undef, .undef, .undef, .undef, .undef, .undef, .undef, .undef, .undef, .undef, .undef, .undef, .undef, .undef, .undef, .undef, .undef, .undef, .undef, .undef, .undef, .undef, .undef, .undef, .undef, .undef, .undef, .undef, .undef, .undef, .undef, .undef, .undef, .undef, .undef, .undef, .undef, .undef, .undef, .undef, .undef, .undef, .undef, .undef, .undef, .undef, .undef, .undef, .undef, .undef, .undef, .undef, .undef, .undef, .undef, .undef, .undef, .undef] #[61, 62] (rngA Try.f6 0) (rngB Try.f6 0)]) := by
 exact (RoundRun.of_eval (sp := ⟨[0, 1, 3], [0, 1, 2, 6, 7, 8, 9], []⟩) (n0 := 10) (ex := Ex.norm) (t' := [D.yld (9 : Nat), D.ptr false 7 0, D.undef, .int .i64 (IntKind.wrap IntKind.i64 (k + n)), D.undef, D.undef, D.undef, D.undef, D.undef, D.undef, D.undef, D.undef, D.undef, D.undef, D.undef, D.undef, D.undef, D.undef, D.undef, D.undef, D.undef, D.undef, D.undef, D.undef, D.undef, D.undef, D.undef, D.undef, D.undef, D.undef, D.undef]) (s' := [Ob.box [.bool false], Ob.box [.lst (Own.tok (4 : Nat) (0 : Nat)) (1 : Nat) (intsD a)], Ob.box [.lst (Own.tok (5 : Nat) (0 : Nat)) (8 : Nat) (xsL p)], Ob.dead, Ob.dead, Ob.dead, Ob.box [.int .i64 e], Ob.box [.lst (Own.tok (3 : Nat) (1 : Nat)) (1 : Nat) (bD c ++ bD bh)], Ob.box [.int .i64 (IntKind.wrap IntKind.i64 (i + (1 : Int)))], Ob.lp Lk.ready [D.undef, D.undef, D.undef, D.undef, D.ptr false 0 0, D.undef, D.ptr false 1 0, D.ptr false 2 0, D.undef, D.undef, D.undef, D.undef, D.ptr false 6 0, D.undef, D.ptr false 8 0, D.undef, D.undef, D.undef, D.undef, D.undef, D.undef, D.undef, D.undef, D.undef, D.undef, D.undef, D.undef, D.undef, D.undef, D.undef, D.undef, D.undef, D.undef, D.undef, D.undef, D.undef, D.undef, D.undef, D.undef, D.undef, D.undef, D.undef, D.undef, D.undef, D.undef, D.undef, D.undef, D.undef, D.undef, D.undef, D.undef, D.undef, D.undef, D.undef, D.undef, D.undef, D.undef, D.undef, D.undef, D.undef, D.undef, D.undef, D.undef, D.undef, D.undef, D.undef, D.undef, D.undef, D.undef, D.undef, D.undef, D.undef, D.undef, D.undef, D.undef, D.undef, D.undef, D.undef, D.undef, D.undef, D.undef, D.undef, D.undef, D.undef, D.undef, D.undef, D.undef, D.undef, D.undef, D.undef, D.undef, D.undef, D.undef, D.undef, D.undef, D.undef, D.undef, D.undef, D.undef, D.undef, D.undef] #[(61 : Nat), (62 : Nat)] (rngA Try.f6 (0 : Nat)) (rngB Try.f6 (0 : Nat))]) mixed ([tC (by ((try simp only [List.length_append, List.length_cons, List.length_nil, List.length_drop, len_bD, intsD_len, xsL_len, w_i8, w_u8, w_i64, w_u64, decide_eq_true_eq, decide_eq_false_iff_not, beq_iff_eq, bne_iff_ne, beq_eq_false_iff_ne, bne_eq_false_iff_eq, Bool.not_eq_true', Bool.not_eq_false', Bool.and_eq_true, Bool.or_eq_true] at *); (try unfold big at *); omega) : (decide (k < (↑(List.length (bD c ++ bD bh)) : Int))) = true), .tst (decide ((0 : Int) ≤ k ∧ k ≤ (↑(List.length (bD c ++ bD bh)) : Int))) true (by ((try simp only [List.length_append, List.length_cons, List.length_nil, List.length_drop, len_bD, intsD_len, xsL_len, w_i8, w_u8, w_i64, w_u64, decide_eq_true_eq, decide_eq_false_iff_not, beq_iff_eq, bne_iff_ne, beq_eq_false_iff_ne, bne_eq_false_iff_eq, Bool.not_eq_true', Bool.not_eq_false', Bool.and_eq_true, Bool.or_eq_true] at *); (try unfold big at *); omega)), .ret _ _ _ hq, tT, tT, tT, tT, .inl, tC (eT (by ((try simp only [List.length_append, List.length_cons, List.length_nil, List.length_drop, len_bD, intsD_len, xsL_len, w_i8, w_u8, w_i64, w_u64, decide_eq_true_eq, decide_eq_false_iff_not, beq_iff_eq, bne_iff_ne, beq_eq_false_iff_ne, bne_eq_false_iff_eq, Bool.not_eq_true', Bool.not_eq_false', Bool.and_eq_true, Bool.or_eq_true] at *); (try unfold big at *); omega) : (decide (i < (↑(List.length (xsL p)) : Int))) = true)), tC (eT (by ((try simp only [List.length_append, List.length_cons, List.length_nil, List.length_drop, len_bD, intsD_len, xsL_len, w_i8, w_u8, w_i64, w_u64, decide_eq_true_eq, decide_eq_false_iff_not, beq_iff_eq, bne_iff_ne, beq_eq_false_iff_ne, bne_eq_false_iff_eq, Bool.not_eq_true', Bool.not_eq_false', Bool.and_eq_true, Bool.or_eq_true] at *); (try unfold big at *); omega) : (decide (i < (↑(List.length (xsL p)) : Int))) = true)), tC (eT (by ((try simp only [List.length_append, List.length_cons, List.length_nil, List.length_drop, len_bD, intsD_len, xsL_len, w_i8, w_u8, w_i64, w_u64, decide_eq_true_eq, decide_eq_false_iff_not, beq_iff_eq, bne_iff_ne, beq_eq_false_iff_ne, bne_eq_false_iff_eq, Bool.not_eq_true', Bool.not_eq_false', Bool.and_eq_true, Bool.or_eq_true] at *); (try unfold big at *); omega) : (decide (i < (↑(List.length (xsL p)) : Int))) = true)), tC (eT (by ((try simp only [List.length_append, List.length_cons, List.length_nil, List.length_drop, len_bD, intsD_len, xsL_len, w_i8, w_u8, w_i64, w_u64, decide_eq_true_eq, decide_eq_false_iff_not, beq_iff_eq, bne_iff_ne, beq_eq_false_iff_ne, bne_eq_false_iff_eq, Bool.not_eq_true', Bool.not_eq_false', Bool.and_eq_true, Bool.or_eq_true] at *); (try unfold big at *); omega) : (decide (i < (↑(List.length (xsL p)) : Int))) = true)), tC (v := true) (leL 0 (decide_eq_false (Int.not_lt.2 i0))), .get _ _ _ ha, tC (eT (by ((try simp only [List.length_append, List.length_cons, List.length_nil, List.length_drop, len_bD, intsD_len, xsL_len, w_i8, w_u8, w_i64, w_u64, decide_eq_true_eq, decide_eq_false_iff_not, beq_iff_eq, bne_iff_ne, beq_eq_false_iff_ne, bne_eq_false_iff_eq, Bool.not_eq_true', Bool.not_eq_false', Bool.and_eq_true, Bool.or_eq_true] at *); (try unfold big at *); omega) : (decide (i < (↑(List.length (xsL p)) : Int))) = true)), tC (eT (by ((try simp only [List.length_append, List.length_cons, List.length_nil, List.length_drop, len_bD, intsD_len, xsL_len, w_i8, w_u8, w_i64, w_u64, decide_eq_true_eq, decide_eq_false_iff_not, beq_iff_eq, bne_iff_ne, beq_eq_false_iff_ne, bne_eq_false_iff_eq, Bool.not_eq_true', Bool.not_eq_false', Bool.and_eq_true, Bool.or_eq_true] at *); (try unfold big at *); omega) : (decide (i < (↑(List.length (xsL p)) : Int))) = true))] ++ [tC (eT (by ((try simp only [List.length_append, List.length_cons, List.length_nil, List.length_drop, len_bD, intsD_len, xsL_len, w_i8, w_u8, w_i64, w_u64, decide_eq_true_eq, decide_eq_false_iff_not, beq_iff_eq, bne_iff_ne, beq_eq_false_iff_ne, bne_eq_false_iff_eq, Bool.not_eq_true', Bool.not_eq_false', Bool.and_eq_true, Bool.or_eq_true] at *); (try unfold big at *); omega) : (decide (i < (↑(List.length (xsL p)) : Int))) = true)), tC (eF (nt (beq_self_eq_true (k)))), tC (eF (nt (beq_self_eq_true (k)))), tC (eF (nt (beq_self_eq_true (k)))), tC (eF (nt (beq_self_eq_true (k)))), tC (v := true) (leL 0 (decide_eq_false (Int.not_lt.2 i0))), .get _ _ _ hp, tC (eF (nt (beq_self_eq_true (k)))), tC (eF (nt (beq_self_eq_true (k)))), .flat _ _ flat_X, tC (eT (by ((try simp only [List.length_append, List.length_cons, List.length_nil, List.length_drop, len_bD, intsD_len, xsL_len, w_i8, w_u8, w_i64, w_u64, decide_eq_true_eq, decide_eq_false_iff_not, beq_iff_eq, bne_iff_ne, beq_eq_false_iff_ne, bne_eq_false_iff_eq, Bool.not_eq_true', Bool.not_eq_false', Bool.and_eq_true, Bool.or_eq_true] at *); (try unfold big at *); omega) : (decide (i < (↑(List.length (xsL p)) : Int))) = true)), tC (nt (beq_self_eq_true (k))), tC (by ((try simp only [List.length_append, List.length_cons, List.length_nil, List.length_drop, len_bD, intsD_len, xsL_len, w_i8, w_u8, w_i64, w_u64, decide_eq_true_eq, decide_eq_false_iff_not, beq_iff_eq, bne_iff_ne, beq_eq_false_iff_ne, bne_eq_false_iff_eq, Bool.not_eq_true', Bool.not_eq_false', Bool.and_eq_true, Bool.or_eq_true] at *); (try unfold big at *); omega) : (decide (i < (↑(List.length (xsL p)) : Int))) = true), tC (nt (andT (beq_self_eq_true (XS.op x)) (andT (beq_self_eq_true (XS.w x)) (andT (beq_self_eq_true (XS.dst x)) (andT (beq_self_eq_true (XS.src x)) (andT (beq_self_eq_true (XS.base x)) (andT (beq_self_eq_true (XS.disp x)) (andT (beq_self_eq_true (XS.imm x)) (andT (beq_self_eq_true (XS.cc x)) (rfl : true = true)))))))))), tC (eT (by ((try simp only [List.length_append, List.length_cons, List.length_nil, List.length_drop, len_bD, intsD_len, xsL_len, w_i8, w_u8, w_i64, w_u64, decide_eq_true_eq, decide_eq_false_iff_not, beq_iff_eq, bne_iff_ne, beq_eq_false_iff_ne, bne_eq_false_iff_eq, Bool.not_eq_true', Bool.not_eq_false', Bool.and_eq_true, Bool.or_eq_true] at *); (try unfold big at *); omega) : (decide (i ≥ (↑(List.length (xsL p)) : Int))) = false)), tC (eT (by ((try simp only [List.length_append, List.length_cons, List.length_nil, List.length_drop, len_bD, intsD_len, xsL_len, w_i8, w_u8, w_i64, w_u64, decide_eq_true_eq, decide_eq_false_iff_not, beq_iff_eq, bne_iff_ne, beq_eq_false_iff_ne, bne_eq_false_iff_eq, Bool.not_eq_true', Bool.not_eq_false', Bool.and_eq_true, Bool.or_eq_true] at *); (try unfold big at *); omega) : (decide (i ≥ (↑(List.length (xsL p)) : Int))) = false))] ++ [tC (eT (by ((try simp only [List.length_append, List.length_cons, List.length_nil, List.length_drop, len_bD, intsD_len, xsL_len, w_i8, w_u8, w_i64, w_u64, decide_eq_true_eq, decide_eq_false_iff_not, beq_iff_eq, bne_iff_ne, beq_eq_false_iff_ne, bne_eq_false_iff_eq, Bool.not_eq_true', Bool.not_eq_false', Bool.and_eq_true, Bool.or_eq_true] at *); (try unfold big at *); omega) : (decide (i ≥ (↑(List.length (xsL p)) : Int))) = false)), tC (by ((try simp only [List.length_append, List.length_cons, List.length_nil, List.length_drop, len_bD, intsD_len, xsL_len, w_i8, w_u8, w_i64, w_u64, decide_eq_true_eq, decide_eq_false_iff_not, beq_iff_eq, bne_iff_ne, beq_eq_false_iff_ne, bne_eq_false_iff_eq, Bool.not_eq_true', Bool.not_eq_false', Bool.and_eq_true, Bool.or_eq_true] at *); (try unfold big at *); omega) : (decide (i ≥ (↑(List.length (xsL p)) : Int))) = false), tF, tT, tF, tF]) (by kernel_rfl)).cast (by rfl) (by rfl)
theorem rr_more (p : List XS) (a c bh : List Int) (e k i : Int) (k0 : 0 ≤ k) (k1 : k < ((bD c ++ bD bh).length : Int)) (k2 : ((bD c ++ bD bh).length : Int) ≤ 2000) (x : XS) (n : Int) (n0 : 1 ≤ n) (n1 : n ≤ 11) (i0 : 0 ≤ i) (i1 : i ≤ 3000) (hq : Ret Try.prog 19 [.lst .no 1 (List.drop (Int.toNat k) (bD c ++ bD bh))] (.tup [xsD x, .int .i64 n, .int .i64 0])) (i2 : ((xsL p).length : Int) ≤ i) (he : e ≤ k) : RoundRun Try.prog (loopB Try.f63 0) ⟨[0, 1, 3], [0, 1, 2, 6, 7, 8, 9], []⟩ 10 [D.yld (9 : Nat), D.ptr false 7 0, D.undef, .int .i64 k, D.undef, D.undef, D.undef, D.undef, D.undef, D.undef, D.undef, D.undef, D.undef, D.undef, D.undef, D.undef, D.undef, D.undef, D.undef, D.undef, D.undef, D.undef, D.undef, D.undef, D.undef, D.undef, D.undef, D.undef, D.undef, D.undef, D.undef] [Ob.box [.bool false], Ob.box [.lst (Own.tok (4 : Nat) (0 : Nat)) (1 : Nat) (intsD a)], Ob.box [.lst (Own.tok (5 : Nat) (0 : Nat)) (8 : Nat) (xsL p)], Ob.dead, Ob.dead, Ob.dead, Ob.box [.int .i64 e], Ob.box [.lst (Own.tok (3 : Nat) (1 : Nat)) (1 : Nat) (bD c ++ bD bh)], Ob.box [.int .i64 i],
 Ob.lp Lk.ready
  (let y :=
   let y :=
    let y :=
     let y := [D.undef, D.undef, D.undef, D.undef, D.undef, D.undef, D.undef];
     D.undef :: D.undef :: D.undef :: D.undef :: D.undef :: D.undef :: y;
    let y := D.undef :: D.undef :: D.undef :: D.undef :: D.undef :: D.undef :: D.undef :: y;
    D.undef :: D.undef :: D.undef :: D.undef :: D.undef :: D.undef :: y;
   let y :=
    let y := D.undef :: D.undef :: D.undef :: D.undef :: D.undef :: D.undef :: D.undef :: y;
    D.undef :: D.undef :: D.undef :: D.undef :: D.undef :: D.undef :: y;
   let y := D.undef :: D.undef :: D.undef :: D.undef :: D.undef :: D.undef :: y;
   D.undef :: D.undef :: D.undef :: D.undef :: D.undef :: D.undef :: y;
  let y :=
   let y :=
    let y := D.undef :: D.undef :: D.undef :: D.undef :: D.undef :: D.undef :: D.undef :: y;
    D.undef :: D.undef :: D.undef :: D.undef :: D.undef :: D.undef :: y;
   let y := D.undef :: D.undef :: D.undef :: D.undef :: D.undef :: D.undef :: y;
   D.undef :: D.undef :: D.undef :: D.undef :: D.undef :: D.undef :: y;
  let y :=
   let y := D.undef :: D.undef :: D.undef :: D.undef :: D.undef :: D.undef :: D.undef :: y;
   D.ptr false 6 0 :: D.undef :: D.ptr false 8 0 :: D.undef :: D.undef :: D.undef :: y;
  let y := D.ptr false 1 0 :: D.ptr false 2 0 :: D.undef :: D.undef :: D.undef :: D.undef :: y;
  D.undef :: D.undef :: D.undef :: D.undef :: D.ptr false 0 0 :: D.undef :: y)
  #[(61 : Nat), (62 : Nat)] (rngA Try.f6 (0 : Nat)) (rngB Try.f6 (0 : Nat))] (Ex.norm) [D.yld (9 : Nat), D.ptr false 7 0, D.undef, .int .i64 (IntKind.wrap IntKind.i64 (k + n)), D.undef, D.undef, D.undef, D.undef, D.undef, D.undef, D.undef, D.undef, D.undef, D.undef, D.undef, D.undef, D.undef, D.undef, D.undef, D.undef, D.undef, D.undef, D.undef, D.undef, D.undef, D.undef, D.undef, D.undef, D.undef, D.undef, D.undef] ([.box [.bool false], .box [.lst (.tok 4 0) 1 (intsD a)], .box [.lst (.tok 5 0) 8 (xsL p)], .dead, .dead, .dead, .box [.int .i64 e], .box [.lst (.tok 3 1) 1 (bD c ++ bD bh)], .box [.int .i64 (IntKind.i64.wrap (i + 1))], .lp .ready [.undef, .undef, .undef, .undef, .ptr false 0 0, .undef, .ptr false 1 0, .ptr false 2 0, .undef, .undef, .undef, .undef, .ptr false 6 0, .undef, .ptr false 8 0, .undef, .undef, .undef, .undef, .undef, .undef, .undef, .undef, .undef, .undef, .undef, .undef, .undef, .undef, .undef, .undef, .undef, .undef, .undef, .undef, .undef, .undef, .undef, .undef, .undef, .undef, .undef, .undef, .undef, .undef, .undef, .undef, .undef, .undef, .undef, .undef, .undef, .undef, .undef, .undef, .undef, .undef, .undef, .undef, .undef, .undef, .undef, .undef, .undef, .undef, .undef, .undef, .undef, .undef, .undef, .undef, .undef, .undef, .undef, .undef, .undef, .undef, .undef, .undef, .undef, .undef, .undef, .undef, .undef, .undef, .undef, .undef, .undef, .undef, .undef, .undef, .undef, .undef, .undef, .undef, .undef, .undef, .undef, .undef, .undef, .undef] #[61, 62] (rngA Try.f6 0) (rngB Try.f6 0)]) := by
 exact (RoundRun.of_eval (sp := ⟨[0, 1, 3], [0, 1, 2, 6, 7, 8, 9], []⟩) (n0 := 10) (ex := Ex.norm) (t' := [D.yld (9 : Nat), D.ptr false 7 0, D.undef, .int .i64 (IntKind.wrap IntKind.i64 (k + n)), D.undef, D.undef, D.undef, D.undef, D.undef, D.undef, D.undef, D.undef, D.undef, D.undef, D.undef, D.undef, D.undef, D.undef, D.undef, D.undef, D.undef, D.undef, D.undef, D.undef, D.undef, D.undef, D.undef, D.undef, D.undef, D.undef, D.undef]) (s' := [Ob.box [.bool false], Ob.box [.lst (Own.tok (4 : Nat) (0 : Nat)) (1 : Nat) (intsD a)], Ob.box [.lst (Own.tok (5 : Nat) (0 : Nat)) (8 : Nat) (xsL p)], Ob.dead, Ob.dead, Ob.dead, Ob.box [.int .i64 e], Ob.box [.lst (Own.tok (3 : Nat) (1 : Nat)) (1 : Nat) (bD c ++ bD bh)], Ob.box [.int .i64 (IntKind.wrap IntKind.i64 (i + (1 : Int)))], Ob.lp Lk.ready [D.undef, D.undef, D.undef, D.undef, D.ptr false 0 0, D.undef, D.ptr false 1 0, D.ptr false 2 0, D.undef, D.undef, D.undef, D.undef, D.ptr false 6 0, D.undef, D.ptr false 8 0, D.undef, D.undef, D.undef, D.undef, D.undef, D.undef, D.undef, D.undef, D.undef, D.undef, D.undef, D.undef, D.undef, D.undef, D.undef, D.undef, D.undef, D.undef, D.undef, D.undef, D.undef, D.undef, D.undef, D.undef, D.undef, D.undef, D.undef, D.undef, D.undef, D.undef, D.undef, D.undef, D.undef, D.undef, D.undef, D.undef, D.undef, D.undef, D.undef, D.undef, D.undef, D.undef, D.undef, D.undef, D.undef, D.undef, D.undef, D.undef, D.undef, D.undef, D.undef, D.undef, D.undef, D.undef, D.undef, D.undef, D.undef, D.undef, D.undef, D.undef, D.undef, D.undef, D.undef, D.undef, D.undef, D.undef, D.undef, D.undef, D.undef, D.undef, D.undef, D.undef, D.undef, D.undef, D.undef, D.undef, D.undef, D.undef, D.undef, D.undef, D.undef, D.undef, D.undef, D.undef, D.undef, D.undef] #[(61 : Nat), (62 : Nat)] (rngA Try.f6 (0 : Nat)) (rngB Try.f6 (0 : Nat))]) mixed ([tC (by ((try simp only [List.length_append, List.length_cons, List.length_nil, List.length_drop, len_bD, intsD_len, xsL_len, w_i8, w_u8, w_i64, w_u64, decide_eq_true_eq, decide_eq_false_iff_not, beq_iff_eq, bne_iff_ne, beq_eq_false_iff_ne, bne_eq_false_iff_eq, Bool.not_eq_true', Bool.not_eq_false', Bool.and_eq_true, Bool.or_eq_true] at *); (try unfold big at *); omega) : (decide (k < (↑(List.length (bD c ++ bD bh)) : Int))) = true), .tst (decide ((0 : Int) ≤ k ∧ k ≤ (↑(List.length (bD c ++ bD bh)) : Int))) true (by ((try simp only [List.length_append, List.length_cons, List.length_nil, List.length_drop, len_bD, intsD_len, xsL_len, w_i8, w_u8, w_i64, w_u64, decide_eq_true_eq, decide_eq_false_iff_not, beq_iff_eq, bne_iff_ne, beq_eq_false_iff_ne, bne_eq_false_iff_eq, Bool.not_eq_true', Bool.not_eq_false', Bool.and_eq_true, Bool.or_eq_true] at *); (try unfold big at *); omega)), .ret _ _ _ hq, tT, tT, tT, tT, .inl, tC (eT (by ((try simp only [List.length_append, List.length_cons, List.length_nil, List.length_drop, len_bD, intsD_len, xsL_len, w_i8, w_u8, w_i64, w_u64, decide_eq_true_eq, decide_eq_false_iff_not, beq_iff_eq, bne_iff_ne, beq_eq_false_iff_ne, bne_eq_false_iff_eq, Bool.not_eq_true', Bool.not_eq_false', Bool.and_eq_true, Bool.or_eq_true] at *); (try unfold big at *); omega) : (decide (i < (↑(List.length (xsL p)) : Int))) = false)), tC (eT (by ((try simp only [List.length_append, List.length_cons, List.length_nil, List.length_drop, len_bD, intsD_len, xsL_len, w_i8, w_u8, w_i64, w_u64, decide_eq_true_eq, decide_eq_false_iff_not, beq_iff_eq, bne_iff_ne, beq_eq_false_iff_ne, bne_eq_false_iff_eq, Bool.not_eq_true', Bool.not_eq_false', Bool.and_eq_true, Bool.or_eq_true] at *); (try unfold big at *); omega) : (decide (i < (↑(List.length (xsL p)) : Int))) = false)), tC (eT (by ((try simp only [List.length_append, List.length_cons, List.length_nil, List.length_drop, len_bD, intsD_len, xsL_len, w_i8, w_u8, w_i64, w_u64, decide_eq_true_eq, decide_eq_false_iff_not, beq_iff_eq, bne_iff_ne, beq_eq_false_iff_ne, bne_eq_false_iff_eq, Bool.not_eq_true', Bool.not_eq_false', Bool.and_eq_true, Bool.or_eq_true] at *); (try unfold big at *); omega) : (decide (i < (↑(List.length (xsL p)) : Int))) = false)), tC (eT (by ((try simp only [List.length_append, List.length_cons, List.length_nil, List.length_drop, len_bD, intsD_len, xsL_len, w_i8, w_u8, w_i64, w_u64, decide_eq_true_eq, decide_eq_false_iff_not, beq_iff_eq, bne_iff_ne, beq_eq_false_iff_ne, bne_eq_false_iff_eq, Bool.not_eq_true', Bool.not_eq_false', Bool.and_eq_true, Bool.or_eq_true] at *); (try unfold big at *); omega) : (decide (i < (↑(List.length (xsL p)) : Int))) = false)), tC (eT (by ((try simp only [List.length_append, List.length_cons, List.length_nil, List.length_drop, len_bD, intsD_len, xsL_len, w_i8, w_u8, w_i64, w_u64, decide_eq_true_eq, decide_eq_false_iff_not, beq_iff_eq, bne_iff_ne, beq_eq_false_iff_ne, bne_eq_false_iff_eq, Bool.not_eq_true', Bool.not_eq_false', Bool.and_eq_true, Bool.or_eq_true] at *); (try unfold big at *); omega) : (decide (i < (↑(List.length (xsL p)) : Int))) = false)), tC (eT (by ((try simp only [List.length_append, List.length_cons, List.length_nil, List.length_drop, len_bD, intsD_len, xsL_len, w_i8, w_u8, w_i64, w_u64, decide_eq_true_eq, decide_eq_false_iff_not, beq_iff_eq, bne_iff_ne, beq_eq_false_iff_ne, bne_eq_false_iff_eq, Bool.not_eq_true', Bool.not_eq_false', Bool.and_eq_true, Bool.or_eq_true] at *); (try unfold big at *); omega) : (decide (i < (↑(List.length (xsL p)) : Int))) = false)), tC (eT (by ((try simp only [List.length_append, List.length_cons, List.length_nil, List.length_drop, len_bD, intsD_len, xsL_len, w_i8, w_u8, w_i64, w_u64, decide_eq_true_eq, decide_eq_false_iff_not, beq_iff_eq, bne_iff_ne, beq_eq_false_iff_ne, bne_eq_false_iff_eq, Bool.not_eq_true', Bool.not_eq_false', Bool.and_eq_true, Bool.or_eq_true] at *); (try unfold big at *); omega) : (decide (i < (↑(List.length (xsL p)) : Int))) = false)), tC (eT (by ((try simp only [List.length_append, List.length_cons, List.length_nil, List.length_drop, len_bD, intsD_len, xsL_len, w_i8, w_u8, w_i64, w_u64, decide_eq_true_eq, decide_eq_false_iff_not, beq_iff_eq, bne_iff_ne, beq_eq_false_iff_ne, bne_eq_false_iff_eq, Bool.not_eq_true', Bool.not_eq_false', Bool.and_eq_true, Bool.or_eq_true] at *); (try unfold big at *); omega) : (decide (i < (↑(List.length (xsL p)) : Int))) = false))] ++ [tC (by ((try simp only [List.length_append, List.length_cons, List.length_nil, List.length_drop, len_bD, intsD_len, xsL_len, w_i8, w_u8, w_i64, w_u64, decide_eq_true_eq, decide_eq_false_iff_not, beq_iff_eq, bne_iff_ne, beq_eq_false_iff_ne, bne_eq_false_iff_eq, Bool.not_eq_true', Bool.not_eq_false', Bool.and_eq_true, Bool.or_eq_true] at *); (try unfold big at *); omega) : (decide (i < (↑(List.length (xsL p)) : Int))) = false), tF, tC (eT (by ((try simp only [List.length_append, List.length_cons, List.length_nil, List.length_drop, len_bD, intsD_len, xsL_len, w_i8, w_u8, w_i64, w_u64, decide_eq_true_eq, decide_eq_false_iff_not, beq_iff_eq, bne_iff_ne, beq_eq_false_iff_ne, bne_eq_false_iff_eq, Bool.not_eq_true', Bool.not_eq_false', Bool.and_eq_true, Bool.or_eq_true] at *); (try unfold big at *); omega) : (decide (i ≥ (↑(List.length (xsL p)) : Int))) = true)), tC (eT (by ((try simp only [List.length_append, List.length_cons, List.length_nil, List.length_drop, len_bD, intsD_len, xsL_len, w_i8, w_u8, w_i64, w_u64, decide_eq_true_eq, decide_eq_false_iff_not, beq_iff_eq, bne_iff_ne, beq_eq_false_iff_ne, bne_eq_false_iff_eq, Bool.not_eq_true', Bool.not_eq_false', Bool.and_eq_true, Bool.or_eq_true] at *); (try unfold big at *); omega) : (decide (i ≥ (↑(List.length (xsL p)) : Int))) = true)), tC (eT (by ((try simp only [List.length_append, List.length_cons, List.length_nil, List.length_drop, len_bD, intsD_len, xsL_len, w_i8, w_u8, w_i64, w_u64, decide_eq_true_eq, decide_eq_false_iff_not, beq_iff_eq, bne_iff_ne, beq_eq_false_iff_ne, bne_eq_false_iff_eq, Bool.not_eq_true', Bool.not_eq_false', Bool.and_eq_true, Bool.or_eq_true] at *); (try unfold big at *); omega) : (decide (i ≥ (↑(List.length (xsL p)) : Int))) = true)), tC (by ((try simp only [List.length_append, List.length_cons, List.length_nil, List.length_drop, len_bD, intsD_len, xsL_len, w_i8, w_u8, w_i64, w_u64, decide_eq_true_eq, decide_eq_false_iff_not, beq_iff_eq, bne_iff_ne, beq_eq_false_iff_ne, bne_eq_false_iff_eq, Bool.not_eq_true', Bool.not_eq_false', Bool.and_eq_true, Bool.or_eq_true] at *); (try unfold big at *); omega) : (decide (i ≥ (↑(List.length (xsL p)) : Int))) = true), tC (by ((try simp only [List.length_append, List.length_cons, List.length_nil, List.length_drop, len_bD, intsD_len, xsL_len, w_i8, w_u8, w_i64, w_u64, decide_eq_true_eq, decide_eq_false_iff_not, beq_iff_eq, bne_iff_ne, beq_eq_false_iff_ne, bne_eq_false_iff_eq, Bool.not_eq_true', Bool.not_eq_false', Bool.and_eq_true, Bool.or_eq_true] at *); (try unfold big at *); omega) : (decide (k < e)) = false), tT, tF, tF]) (by kernel_rfl)).cast (by rfl) (by rfl)
end Go.Proofs.Ytcngafhpodeenaa

namespace Go.Proofs.Ytcngafhpodeenaa
open Go Go.Ev
set_option maxRecDepth 100000
abbrev gvLP (ag bd : Code) : Ob := .lp .ready [.undef, .undef, .undef, .undef, .ptr false 0 0, .undef, .ptr false 1 0, .ptr false 2 0, .undef, .undef, .undef, .undef, .ptr false 6 0, .undef, .ptr false 8 0, .undef, .undef, .undef, .undef, .undef, .undef, .undef, .undef, .undef, .undef, .undef, .undef, .undef, .undef, .undef, .undef, .undef, .undef, .undef, .undef, .undef, .undef, .undef, .undef, .undef, .undef, .undef, .undef, .undef, .undef, .undef, .undef, .undef, .undef, .undef, .undef, .undef, .undef, .undef, .undef, .undef, .undef, .undef, .undef, .undef, .undef, .undef, .undef, .undef, .undef, .undef, .undef, .undef, .undef, .undef, .undef, .undef, .undef, .undef, .undef, .undef, .undef, .undef, .undef, .undef, .undef, .undef, .undef, .undef, .undef, .undef, .undef, .undef, .undef, .undef, .undef, .undef, .undef, .undef, .undef, .undef, .undef, .undef, .undef, .undef, .undef] #[61, 62] ag bd
abbrev gvT (k : Int) : List D := [.yld 9, .ptr false 7 0, .undef, .int .i64 k, .undef, .undef, .undef, .undef, .undef, .undef, .undef, .undef, .undef, .undef, .undef, .undef, .undef, .undef, .undef, .undef, .undef, .undef, .undef, .undef, .undef, .undef, .undef, .undef, .undef, .undef, .undef]
abbrev gvU : List D := [.undef, .undef, .undef, .undef, .undef, .undef, .undef, .undef, .undef, .undef, .undef, .undef, .undef, .undef, .undef, .undef, .undef, .undef, .undef, .undef, .undef, .undef, .undef, .undef, .undef, .undef, .undef, .undef, .undef, .undef, .undef]
abbrev gvS (ag bd : Code) (p : List XS) (bh : List Int) (i : Int) : List Ob := [.box [.bool false], .box [.lst (.tok 4 0) 1 (intsD (posM 0 p))], .box [.lst (.tok 5 0) 8 (xsL p)], .dead, .dead, .dead, .box [.int .i64 ((bD (catM p)).length : Int)], .box [.lst (.tok 3 1) 1 (bD (catM p) ++ bD bh)], .box [.int .i64 i], gvLP ag bd]
abbrev gvO (ag bd : Code) (p : List XS) (i : Int) : List Ob := [.box [.bool false], .dead, .box [.lst (.tok 5 0) 8 (xsL p)], .dead, .dead, .dead, .dead, .dead, .box [.int .i64 i], gvLP ag bd]
theorem bD_drop (a : List Int) (n : Nat) : bD (a.drop n) = (bD a).drop n := by simp [bD, List.map_drop]
theorem catM_le (p : List XS) (j : Nat) : (catM (p.take j)).length ≤ (catM p).length := by
 conv => rhs; rw [← List.take_append_drop j p]
 rw [catM_append, List.length_append]
 omega
theorem rows_all (p : List XS) (hp : ∀ x ∈ p, mayXS x = true) (h60 : p.length ≤ 60) (bh : List Int) (hbh : isB bh) (h40 : bh.length ≤ 40) : ∀ (m k i : Nat), (catM p ++ bh).length ≤ k + m → k ≤ (catM p ++ bh).length → i ≤ k →
  ((i < p.length ∧ k = (catM (p.take i)).length) ∨ (p.length ≤ i ∧ (catM p).length ≤ k)) →
  ∃ (ex : Ex) (j : Nat), (ex = .exit 0 ∨ ex = .ret) ∧ p.length ≤ j ∧ j ≤ 2000 ∧ Rounds Try.prog (loopB Try.f63 0) 10 (gvT k) (gvS (rngA Try.f6 0) (rngB Try.f6 0) p bh i) ex gvU (gvO (rngA Try.f6 0) (rngB Try.f6 0) p j) := by
 have hL := catM_len p
 have hA : (catM p ++ bh).length = (catM p).length + bh.length := List.length_append
 have hD : ((bD (catM p) ++ bD bh).length : Int) = ((catM p ++ bh).length : Int) := by rw [← bD_append, len_bD]
 have hB : isB (catM p ++ bh) := fun x hx => (List.mem_append.1 hx).elim (catM_isB hp x) (hbh x)
 have hin : ∀ i k : Nat, i < p.length → k = (catM (p.take i)).length → k < (catM p ++ bh).length := by
  intro i k h1 h2
  have h3 := catM_take p i h1
  have h4 := catM_le p (i + 1)
  have h5 := bytes_len p[i]
  omega
 have stop : ∀ k i : Nat, (catM p ++ bh).length ≤ k → k ≤ (catM p ++ bh).length → i ≤ k → ((i < p.length ∧ k = (catM (p.take i)).length) ∨ (p.length ≤ i ∧ (catM p).length ≤ k)) →
   ∃ (ex : Ex) (j : Nat), (ex = .exit 0 ∨ ex = .ret) ∧ p.length ≤ j ∧ j ≤ 2000 ∧ Rounds Try.prog (loopB Try.f63 0) 10 (gvT k) (gvS (rngA Try.f6 0) (rngB Try.f6 0) p bh i) ex gvU (gvO (rngA Try.f6 0) (rngB Try.f6 0) p j) := by
  intro k i h1 h2 h3 h4
  rcases h4 with ⟨h4, h5⟩ | ⟨h4, h5⟩
  ·have := hin i k h4 h5; omega
  ·exact ⟨.exit 0, i, .inl rfl, h4, by omega, Rounds.last (rr_end p (posM 0 p) (catM p) bh _ k i (by rw [hD]; omega)) (fun h => by cases h)⟩
 intro m
 induction m with
 | zero => exact fun k i h1 h2 h3 h4 => stop k i h1 h2 h3 h4
 | succ m ih =>
  intro k i h1 h2 h3 h4
  by_cases hk : k < (catM p ++ bh).length
  ·have hq := read_any ((catM p ++ bh).drop k) (fun x hx => hB x (List.mem_of_mem_drop hx))
   rw [bD_drop, bD_append, show k = Int.toNat (k : Int) from (Int.toNat_natCast k).symm] at hq
   have k1 : (k : Int) < ((bD (catM p) ++ bD bh).length : Int) := by rw [hD]; omega
   have k2 : ((bD (catM p) ++ bD bh).length : Int) ≤ 2000 := by rw [hD]; omega
   rw [Int.toNat_natCast] at hq
   cases hr : readM ((catM p ++ bh).drop k) with
   | none =>
    rw [hr] at hq
    rcases h4 with ⟨h4, h5⟩ | ⟨h4, h5⟩
    ·rw [h5, catM_drop, catM_read p i bh h4 (hp _ (List.getElem_mem h4))] at hr
     cases hr
    ·exact ⟨.ret, i, .inr rfl, h4, by omega, Rounds.last (rr_err p (posM 0 p) (catM p) bh _ k i (by omega) k1 k2 (by rw [Int.toNat_natCast]; exact hq)) (fun h => by cases h)⟩
   | some y =>
    rw [hr] at hq
    obtain ⟨n0, n1⟩ := bytes_len y
    have hn := read_len hr
    rw [List.length_drop] at hn
    have hw : IntKind.i64.wrap ((k : Int) + ((bytesXS y).length : Int)) = ((k + (bytesXS y).length : Nat) : Int) := by rw [w_i64]; omega
    have hv : IntKind.i64.wrap ((i : Int) + 1) = ((i + 1 : Nat) : Int) := by rw [w_i64]; omega
    have go : ∀ {s2 : List Ob}, RoundRun Try.prog (loopB Try.f63 0) ⟨[0, 1, 3], [0, 1, 2, 6, 7, 8, 9], []⟩ 10 (gvT k) (gvS (rngA Try.f6 0) (rngB Try.f6 0) p bh i) .norm (gvT (IntKind.i64.wrap ((k : Int) + ((bytesXS y).length : Int)))) (gvS (rngA Try.f6 0) (rngB Try.f6 0) p bh (IntKind.i64.wrap ((i : Int) + 1))) →
      ((i + 1 < p.length ∧ k + (bytesXS y).length = (catM (p.take (i + 1))).length) ∨ (p.length ≤ i + 1 ∧ (catM p).length ≤ k + (bytesXS y).length)) →
      ∃ (ex : Ex) (j : Nat), (ex = .exit 0 ∨ ex = .ret) ∧ p.length ≤ j ∧ j ≤ 2000 ∧ Rounds Try.prog (loopB Try.f63 0) 10 (gvT k) (gvS (rngA Try.f6 0) (rngB Try.f6 0) p bh i) ex gvU (gvO (rngA Try.f6 0) (rngB Try.f6 0) p j) := by
     intro _ hrr hnx
     obtain ⟨ex, j, e1, e2, e3, e4⟩ := ih (k + (bytesXS y).length) (i + 1) (by omega) (by omega) (by omega) hnx
     rw [hw, hv] at hrr
     exact ⟨ex, j, e1, e2, e3, Rounds.more hrr e4⟩
    rcases h4 with ⟨h4, h5⟩ | ⟨h4, h5⟩
    ·have hy : y = p[i] := by
      rw [h5, catM_drop, catM_read p i bh h4 (hp _ (List.getElem_mem h4))] at hr
      exact (Option.some.inj hr).symm
     refine go (s2 := []) (rr_put p (posM 0 p) (catM p) bh _ k i (by omega) k1 k2 y _ (by omega) (by omega) (by omega) (by omega) (by rw [Int.toNat_natCast]; exact hq) (by rw [xsL_len]; omega) (by rw [intsD_len, posM_len]; omega) ?_ ?_) ?_
     ·rw [hy]; exact xsL_get p i h4
     ·have := posM_get p 0 i h4
      rw [Int.zero_add, ← h5] at this
      exact intsD_get this
     ·have ht := catM_take p i h4
      rw [← h5, ← hy] at ht
      rcases Nat.lt_or_ge (i + 1) p.length with h | h
      ·exact .inl ⟨h, ht.symm⟩
      ·refine .inr ⟨h, ?_⟩
       rw [← ht, List.take_of_length_le h]
       exact Nat.le_refl _
    ·exact go (s2 := []) (rr_more p (posM 0 p) (catM p) bh _ k i (by omega) k1 k2 y _ (by omega) (by omega) (by omega) (by omega) (by rw [Int.toNat_natCast]; exact hq) (by rw [xsL_len]; omega) (by rw [len_bD]; omega)) (.inr ⟨by omega, by omega⟩)
  ·exact stop k i (by omega) h2 h3 h4
theorem rows_loop (p : List XS) (hp : ∀ x ∈ p, mayXS x = true) (h60 : p.length ≤ 60) (bh : List Int) (hbh : isB bh) (h40 : bh.length ≤ 40) :
  ∃ (ex : Ex) (j : Nat), (ex = .exit 0 ∨ ex = .ret) ∧ p.length ≤ j ∧ j ≤ 2000 ∧ LoopRun Try.prog 10 (.loop (loopB Try.f63 0)) (gvT 0) (gvS (rngA Try.f6 0) (rngB Try.f6 0) p bh 0) ex gvU (gvO (rngA Try.f6 0) (rngB Try.f6 0) p j) := by
 obtain ⟨ex, j, e1, e2, e3, e4⟩ := rows_all p hp h60 bh hbh h40 (catM p ++ bh).length 0 0 (by omega) (by omega) (by omega) (by
  rcases Nat.eq_zero_or_pos p.length with h | h
  ·refine .inr ⟨by omega, ?_⟩
   have := (catM_len p).2
   omega
  ·exact .inl ⟨h, by simp [catM]⟩)
 exact ⟨ex, j, e1, e2, e3, LoopRun.of_rounds (Nat.le_refl _) e4⟩
theorem rows_use {p : List XS} {bh : List Int} {ex : Ex} {j : Int} (h : LoopRun Try.prog 10 (.loop (loopB Try.f63 0)) (gvT 0) (gvS (rngA Try.f6 0) (rngB Try.f6 0) p bh 0) ex gvU (gvO (rngA Try.f6 0) (rngB Try.f6 0) p j)) : LoopRun Try.prog 10 (.loop (loopB Try.f63 0)) (gvT 0) (gvS (rngA Try.f6 0) (rngB Try.f6 0) p bh 0) ex gvU (gvO (rngA Try.f6 0) (rngB Try.f6 0) p j) := h
end Go.Proofs.Ytcngafhpodeenaa

namespace Go.Proofs.Ytcngafhpodeenaa
open Go Go.Ev
theorem wake1_ok : Ret Try.prog 21 [xD 0 64 0 3 0 0 0 0] (.tup [.lst .no 1 [.int .u8 72, .int .u8 137, .int .u8 216], .int .i64 0]) :=
 (bytes_any_ok 0 64 0 3 0 0 0 0 (by decide)).cast rfl (by kernel_rfl)
theorem wake2_ok : Ret Try.prog 21 [xD 26 8 1 0 4 16 0 0] (.tup [.lst .no 1 [.int .u8 15, .int .u8 182, .int .u8 140, .int .u8 36, .int .u8 16, .int .u8 0, .int .u8 0, .int .u8 0], .int .i64 0]) :=
 (bytes_any_ok 26 8 1 0 4 16 0 0 (by decide)).cast rfl (by kernel_rfl)
theorem wake3_ok : Ret Try.prog 21 [xD 30 0 0 0 0 0 0 0] (.tup [.lst .no 1 [.int .u8 195], .int .i64 0]) :=
 (bytes_any_ok 30 0 0 0 0 0 0 0 (by decide)).cast rfl (by kernel_rfl)
end Go.Proofs.Ytcngafhpodeenaa

namespace Go.Proofs.Ytcngafhpodeenaa
open Go Go.Ev
set_option maxRecDepth 100000
set_option maxHeartbeats 8000000
theorem wakes13_ok  : Ret Try.prog 18 ([]) (.bool true) := by
 have c0 := @wake1_ok
 have c1 := @wake2_ok
 have c2 := @wake3_ok
 exact (Ret.of_eval (d := .bool true) mixed Try.func18 (by kernel_rfl) [.ret _ _ _ c0, .ret _ _ _ c1, .ret _ _ _ c2, tT, tT, tT, tT, tT, tT, tT, tT, tT, tT, tT, tT, tT, tT, tT, tT, tT, tT, tT, tT, tT] (by kernel_rfl)).to (by simp [wk])
end Go.Proofs.Ytcngafhpodeenaa

namespace Go.Proofs.Ytcngafhpodeenaa
open Go Go.Ev
set_option maxRecDepth 100000
set_option maxHeartbeats 8000000
end Go.Proofs.Ytcngafhpodeenaa

namespace Go.Proofs.Ytcngafhpodeenaa
open Go Go.Ev
set_option maxRecDepth 100000
end Go.Proofs.Ytcngafhpodeenaa

namespace Go.Proofs.Ytcngafhpodeenaa
open Go Go.Ev
set_option maxRecDepth 100000
set_option maxHeartbeats 8000000
theorem rows_big_ok (l : List XS) (bh : List Int) (h : 60 < ((xsL l).length : Int))  : Ret Try.prog 6 ([.lst .no 8 (xsL l), .lst .no 1 (bD bh)]) (.bool true) := by
 have c0 := @wakes13_ok
 exact (Ret.of_eval (d := .bool true) mixed Try.func6 (by kernel_rfl) [tC (eF (ltL 60 (decide_eq_false (by omega : ¬ (↑(List.length (xsL l)) : Int) < 61)))), tC (eF (ltL 60 (decide_eq_false (by omega : ¬ (↑(List.length (xsL l)) : Int) < 61)))), tC (eF (ltL 60 (decide_eq_false (by omega : ¬ (↑(List.length (xsL l)) : Int) < 61)))), tC (ltL 60 (decide_eq_false (by omega : ¬ (↑(List.length (xsL l)) : Int) < 61))), tT, .ret _ _ _ c0] (by kernel_rfl)).to (by simp [wk])
theorem rows_far_ok (l : List XS) (bh : List Int) (h : ((xsL l).length : Int) ≤ 60) (h1 : 40 < ((bD bh).length : Int))  : Ret Try.prog 6 ([.lst .no 8 (xsL l), .lst .no 1 (bD bh)]) (.bool true) := by
 have c0 := @wakes13_ok
 exact (Ret.of_eval (d := .bool true) mixed Try.func6 (by kernel_rfl) [tC (eF (ltL 60 (decide_eq_true (Int.lt_add_one_of_le h)))), tC (eF (ltL 60 (decide_eq_true (Int.lt_add_one_of_le h)))), tC (eF (ltL 60 (decide_eq_true (Int.lt_add_one_of_le h)))), tC (ltL 60 (decide_eq_true (Int.lt_add_one_of_le h))), tC (ltL 40 (decide_eq_false (by omega : ¬ (↑(List.length (bD bh)) : Int) < 41))), .ret _ _ _ c0] (by kernel_rfl)).to (by simp [wk])
theorem rows_ret_ok (l : List XS) (bh : List Int) (hl : AllX l) (hn : l.length ≤ 60) (hn1 : ((xsL l).length : Int) ≤ 60) (hb : ((bD bh).length : Int) ≤ 40) (hc : ((bD (catM (putM l))).length : Int) ≤ 1000) (j : Int) (hj : ((xsL (putM l)).length : Int) ≤ j) (hx : LoopRun Try.prog 10 (.loop (loopB Try.f63 0)) (gvT 0) (gvS (rngA Try.f6 0) (rngB Try.f6 0) (putM l) bh 0) (.ret) gvU (gvO (rngA Try.f6 0) (rngB Try.f6 0) (putM l) j))  : Ret Try.prog 6 ([.lst .no 8 (xsL l), .lst .no 1 (bD bh)]) (.bool true) := by
 have c0 := @er_loop (l) hl hn (bh)
 have c1 := @rows_use (putM l) (bh) _ _ hx
 have c2 := @wakes13_ok
 exact (Ret.of_eval (d := .bool true) mixed Try.func6 (by kernel_rfl) [tC (eF (ltL 60 (decide_eq_true (Int.lt_add_one_of_le hn1)))), tC (eF (ltL 60 (decide_eq_true (Int.lt_add_one_of_le hn1)))), tC (eF (ltL 60 (decide_eq_true (Int.lt_add_one_of_le hn1)))), tC (ltL 60 (decide_eq_true (Int.lt_add_one_of_le hn1))), tC (ltL 40 (decide_eq_true (Int.lt_add_one_of_le hb))), .head ⟨[1, 4, 6, 7, 26, 27, 28], [0, 1, 2], [(5, 1), (1001000, 1), (1002000, 8)]⟩ _ _ _ _ _ _ _ c0, .len (List.length (bD (catM (putM l))) + List.length (bD bh)) ((2147483648 : Nat)) (by first | decide | omega | (simp; omega)), .inl, tF, .rng [4, 6, 7, 12, 14], .head ⟨[0, 1, 3], [0, 1, 2, 6, 7, 8, 9], []⟩ _ _ _ _ _ _ _ c1, tC (eT (by ((try simp only [List.length_append, List.length_cons, List.length_nil, len_bD, intsD_len, xsL_len, w_i8, w_u8, w_i64, w_u64, decide_eq_true_eq, decide_eq_false_iff_not, beq_iff_eq, bne_iff_ne, beq_eq_false_iff_ne, bne_eq_false_iff_eq, Bool.not_eq_true', Bool.not_eq_false', Bool.and_eq_true, Bool.or_eq_true] at *); (try unfold big at *); omega) : (decide (j ≥ (↑(List.length (xsL (putM l))) : Int))) = true)), .ret _ _ _ c2, tC (by ((try simp only [List.length_append, List.length_cons, List.length_nil, len_bD, intsD_len, xsL_len, w_i8, w_u8, w_i64, w_u64, decide_eq_true_eq, decide_eq_false_iff_not, beq_iff_eq, bne_iff_ne, beq_eq_false_iff_ne, bne_eq_false_iff_eq, Bool.not_eq_true', Bool.not_eq_false', Bool.and_eq_true, Bool.or_eq_true] at *); (try unfold big at *); omega) : (decide (j ≥ (↑(List.length (xsL (putM l))) : Int))) = true)] (by kernel_rfl)).to (by simp [wk])
theorem rows_out_ok (l : List XS) (bh : List Int) (hl : AllX l) (hn : l.length ≤ 60) (hn1 : ((xsL l).length : Int) ≤ 60) (hb : ((bD bh).length : Int) ≤ 40) (hc : ((bD (catM (putM l))).length : Int) ≤ 1000) (j : Int) (hj : ((xsL (putM l)).length : Int) ≤ j) (hx : LoopRun Try.prog 10 (.loop (loopB Try.f63 0)) (gvT 0) (gvS (rngA Try.f6 0) (rngB Try.f6 0) (putM l) bh 0) (.exit 0) gvU (gvO (rngA Try.f6 0) (rngB Try.f6 0) (putM l) j))  : Ret Try.prog 6 ([.lst .no 8 (xsL l), .lst .no 1 (bD bh)]) (.bool true) := by
 have c0 := @er_loop (l) hl hn (bh)
 have c1 := @rows_use (putM l) (bh) _ _ hx
 have c2 := @wakes13_ok
 exact (Ret.of_eval (d := .bool true) mixed Try.func6 (by kernel_rfl) [tC (eF (ltL 60 (decide_eq_true (Int.lt_add_one_of_le hn1)))), tC (eF (ltL 60 (decide_eq_true (Int.lt_add_one_of_le hn1)))), tC (eF (ltL 60 (decide_eq_true (Int.lt_add_one_of_le hn1)))), tC (ltL 60 (decide_eq_true (Int.lt_add_one_of_le hn1))), tC (ltL 40 (decide_eq_true (Int.lt_add_one_of_le hb))), .head ⟨[1, 4, 6, 7, 26, 27, 28], [0, 1, 2], [(5, 1), (1001000, 1), (1002000, 8)]⟩ _ _ _ _ _ _ _ c0, .len (List.length (bD (catM (putM l))) + List.length (bD bh)) ((2147483648 : Nat)) (by first | decide | omega | (simp; omega)), .inl, tF, .rng [4, 6, 7, 12, 14], .head ⟨[0, 1, 3], [0, 1, 2, 6, 7, 8, 9], []⟩ _ _ _ _ _ _ _ c1, tC (eT (by ((try simp only [List.length_append, List.length_cons, List.length_nil, len_bD, intsD_len, xsL_len, w_i8, w_u8, w_i64, w_u64, decide_eq_true_eq, decide_eq_false_iff_not, beq_iff_eq, bne_iff_ne, beq_eq_false_iff_ne, bne_eq_false_iff_eq, Bool.not_eq_true', Bool.not_eq_false', Bool.and_eq_true, Bool.or_eq_true] at *); (try unfold big at *); omega) : (decide (j ≥ (↑(List.length (xsL (putM l))) : Int))) = true)), .ret _ _ _ c2, tC (by ((try simp only [List.length_append, List.length_cons, List.length_nil, len_bD, intsD_len, xsL_len, w_i8, w_u8, w_i64, w_u64, decide_eq_true_eq, decide_eq_false_iff_not, beq_iff_eq, bne_iff_ne, beq_eq_false_iff_ne, bne_eq_false_iff_eq, Bool.not_eq_true', Bool.not_eq_false', Bool.and_eq_true, Bool.or_eq_true] at *); (try unfold big at *); omega) : (decide (j ≥ (↑(List.length (xsL (putM l))) : Int))) = true)] (by kernel_rfl)).to (by simp [wk])
end Go.Proofs.Ytcngafhpodeenaa

namespace Go.Proofs.Ytcngafhpodeenaa
open Go Go.Ev
set_option maxRecDepth 100000
theorem rows_any (l : List XS) (hl : AllX l) (bh : List Int) (hb : isB bh) : Ret Try.prog 6 [.lst .no 8 (xsL l), .lst .no 1 (bD bh)] (.bool true) := by
 by_cases h1 : l.length ≤ 60
 ·have h1' : ((xsL l).length : Int) ≤ 60 := by rw [xsL_len]; omega
  by_cases h2 : bh.length ≤ 40
  ·have h2' : ((bD bh).length : Int) ≤ 40 := by rw [len_bD]; omega
   have hp := putM_len l
   have hc := catM_len (putM l)
   obtain ⟨ex, j, he, hj, _, hr⟩ := rows_loop (putM l) (putM_may l) (by omega) bh hb h2
   have hc' : ((bD (catM (putM l))).length : Int) ≤ 1000 := by rw [len_bD]; omega
   have hj' : ((xsL (putM l)).length : Int) ≤ (j : Int) := by rw [xsL_len]; omega
   rcases he with rfl | rfl
   ·exact rows_out_ok l bh hl h1 h1' h2' hc' j hj' hr
   ·exact rows_ret_ok l bh hl h1 h1' h2' hc' j hj' hr
  ·exact rows_far_ok l bh h1' (by rw [len_bD]; omega)
 ·exact rows_big_ok l bh (by rw [xsL_len]; omega)
end Go.Proofs.Ytcngafhpodeenaa
