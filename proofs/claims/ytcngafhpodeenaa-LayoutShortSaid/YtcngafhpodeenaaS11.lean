/- Contracts and plain laws that a statement's proof leans on (texts merged: MdP4, MdP, MdS, MdI, MdG, MdV, MdP5, MdK1, MdK2, MdK3, MdK4, MdLb, LBN, MdLa, LM2, LM2A, LB1, KF0, I0H, XS1). -/
import Derived.Test.YtcngafhpodeenaaS05
import Derived.Test.YtcngafhpodeenaaS06
import Derived.Test.YtcngafhpodeenaaS08
import Derived.Test.YtcngafhpodeenaaS09
import Derived.Test.YtcngafhpodeenaaS10
set_option linter.unusedVariables false
set_option linter.unusedSimpArgs false
namespace Go.Ev
open Go
def byK : List LK := [.int .u8]
def hdD (ds : List D) : D := ds.headD .undef
theorem bD_append (a b : List Int) : bD (a ++ b) = bD a ++ bD b := by simp [bD]
theorem read_back {x : XS} (h : mayXS x = true) (t : List Int) : readM (bytesXS x ++ t) = some x := by
 have hd : decM (bytesXS x ++ t) = x := dec_back h t
 unfold readM
 rw [hd, if_pos]
 unfold fitsX
 rw [h, Bool.true_and, List.isPrefixOf_iff_prefix]
 exact List.prefix_append _ _
theorem read_fits {b : List Int} {x : XS} (h : readM b = some x) : mayXS x = true ∧ bytesXS x <+: b := by
 unfold readM at h
 split at h
 ·rename_i hf
  cases h
  unfold fitsX at hf
  rw [Bool.and_eq_true, List.isPrefixOf_iff_prefix] at hf
  exact hf
 ·cases h
theorem rex_len (w : Bool) (r m : Int) (al : Bool) : (rexM w r m al).length ≤ 1 := by unfold rexM; split <;> simp
theorem mem_len (r b d : Int) : (memM r b d).length = 5 ∨ (memM r b d).length = 6 := by unfold memM fourM; split <;> simp
theorem bytes_len (x : XS) : 1 ≤ (bytesXS x).length ∧ (bytesXS x).length ≤ 11 := by
 unfold bytesXS bytesM
 have r1 := rex_len (decide (x.w = 64)) x.src x.dst false
 have r2 := rex_len (decide (x.w = 64)) x.dst x.src false
 have r3 := rex_len false 0 x.dst false
 have r4 := rex_len (decide (x.w = 64)) 0 x.dst false
 have r5 := rex_len (decide (x.w = 64)) x.dst x.base false
 have r6 := rex_len (decide (x.w = 64)) x.src x.base (decide (x.w = 8))
 have m1 := mem_len x.dst x.base x.disp
 have m2 := mem_len x.src x.base x.disp
 have ite : ∀ {c : Prop} [Decidable c] {a b : List Int} {m n : Nat}, (m ≤ a.length ∧ a.length ≤ n) → (m ≤ b.length ∧ b.length ≤ n) → (m ≤ (if c then a else b).length ∧ (if c then a else b).length ≤ n) := by
  intro c _ a b m n h1 h2
  by_cases hc : c
  ·rw [if_pos hc]; exact h1
  ·rw [if_neg hc]; exact h2
 have sm : ∀ {l : List Int} {m n : Nat}, m ≤ l.length → l.length ≤ n → (m ≤ l.length ∧ l.length ≤ n) := fun a b => ⟨a, b⟩
 have l7 := @ite (x.w = 8) _ [15, 182] (if x.w = 16 then [15, 183] else [139]) 1 2 (by simp) (ite (by simp) (by simp))
 have l8 := @ite (x.w = 16) _ [102] [] 0 1 (by simp) (by simp)
 have l9 := @ite (x.w = 8) _ [136] [137] 1 1 (by simp) (by simp)
 refine ite (by simp only [List.length_append, List.length_cons, List.length_nil]; omega) (ite (by simp only [List.length_append, List.length_cons, List.length_nil]; omega) (ite (by simp only [List.length_append, List.length_cons, List.length_nil]; omega) (ite (ite (by simp only [List.length_append, List.length_cons, List.length_nil, fourM]; omega) (by simp only [List.length_append, List.length_cons, List.length_nil, fourM]; omega)) (ite (by simp only [List.length_append, List.length_cons, List.length_nil]; omega) (ite (by simp only [List.length_append, List.length_cons, List.length_nil]; omega) (ite ?_ (ite ?_ (ite (ite (by simp) (by simp [fourM])) (ite (ite (by simp) (by simp [fourM])) (ite (by simp) (by simp)))))))))))
 ·rw [List.length_append, List.length_append]; omega
 ·rw [List.length_append, List.length_append, List.length_append]; omega
end Go.Ev

namespace Go.Ev
open Go
end Go.Ev

namespace Go.Ev
open Go
structure MachS where
  (q0 q1 q2 q3 q4 q5 q6 q7 q8 q9 q10 q11 q12 q13 q14 q15 : Int)
  (fk fc fz fs fo : Bool)
  (pc : Int)
deriving DecidableEq
def MachS.d (m : MachS) : D := .agg [.int .u64 m.q0, .int .u64 m.q1, .int .u64 m.q2, .int .u64 m.q3, .int .u64 m.q4, .int .u64 m.q5, .int .u64 m.q6, .int .u64 m.q7, .int .u64 m.q8, .int .u64 m.q9, .int .u64 m.q10, .int .u64 m.q11, .int .u64 m.q12, .int .u64 m.q13, .int .u64 m.q14, .int .u64 m.q15, .bool m.fk, .bool m.fc, .bool m.fz, .bool m.fs, .bool m.fo, .int .u64 m.pc]
def MachS.rl (m : MachS) : List Int := [m.q0, m.q1, m.q2, m.q3, m.q4, m.q5, m.q6, m.q7, m.q8, m.q9, m.q10, m.q11, m.q12, m.q13, m.q14, m.q15]
def MachS.put (m : MachS) (i v : Int) : MachS := ⟨st 0 i v m.q0, st 1 i v m.q1, st 2 i v m.q2, st 3 i v m.q3, st 4 i v m.q4, st 5 i v m.q5, st 6 i v m.q6, st 7 i v m.q7, st 8 i v m.q8, st 9 i v m.q9, st 10 i v m.q10, st 11 i v m.q11, st 12 i v m.q12, st 13 i v m.q13, st 14 i v m.q14, st 15 i v m.q15, m.fk, m.fc, m.fz, m.fs, m.fo, m.pc⟩
def MachS.flags (m : MachS) (k c z s o : Bool) : MachS := ⟨m.q0, m.q1, m.q2, m.q3, m.q4, m.q5, m.q6, m.q7, m.q8, m.q9, m.q10, m.q11, m.q12, m.q13, m.q14, m.q15, k, c, z, s, o, m.pc⟩
def MachS.at (m : MachS) (v : Int) : MachS := ⟨m.q0, m.q1, m.q2, m.q3, m.q4, m.q5, m.q6, m.q7, m.q8, m.q9, m.q10, m.q11, m.q12, m.q13, m.q14, m.q15, m.fk, m.fc, m.fz, m.fs, m.fo, v⟩
def MachS.zero : MachS := ⟨0, 0, 0, 0, 0, 0, 0, 0, 0, 0, 0, 0, 0, 0, 0, 0, false, false, false, false, false, 0⟩
def XS.len (x : XS) : Int := lenX x.op x.w x.dst x.src x.base x.disp x.imm x.cc
def XS.may (x : XS) : Bool := mayX x.op x.w x.dst x.src x.base x.disp x.imm x.cc
def sopM (op : Int) : Option (Int × Int) :=
  match op with
  | 2 => some (0, 0)
  | 3 => some (4, 0)
  | 4 => some (5, 0)
  | 5 => some (1, 0)
  | 6 => some (10, 0)
  | 7 => some (1, 0)
  | 8 => some (5, 0)
  | 9 => some (0, 1)
  | 10 => some (4, 1)
  | 11 => some (5, 1)
  | 12 => some (1, 1)
  | 13 => some (10, 1)
  | 14 => some (1, 1)
  | 15 => some (5, 1)
  | 16 => some (2, 0)
  | 17 => some (6, 1)
  | 18 => some (7, 1)
  | 19 => some (12, 1)
  | 20 => some (6, 2)
  | 21 => some (7, 2)
  | 22 => some (12, 2)
  | 23 => some (8, 0)
  | _ => none
def secS (m : MachS) (x : XS) (k : Int) : Int := match k with
  | 2 => m.q1
  | 1 => u64 x.imm
  | _ => rg m.rl x.src
def flagS (m : MachS) (s w a b v : Int) : MachS := match s with
  | 0 => m.flags true (addC w a b) (cutM (u64 (a + b)) w == 0) (negM (u64 (a + b)) w) (addO w a b)
  | 1 => m.flags true (subC w a b) (cutM (u64 (a - b)) w == 0) (negM (u64 (a - b)) w) (subO w a b)
  | 8 => m.flags true (subC w 0 a) (cutM (u64 (0 - a)) w == 0) (negM (u64 (0 - a)) w) (subO w 0 a)
  | 4 => m.flags true false (cutM v w == 0) (negM v w) false
  | 5 => m.flags true false (cutM v w == 0) (negM v w) false
  | 10 => m.flags true false (cutM v w == 0) (negM v w) false
  | _ => m.flags false false false false false
def keepOp (op : Int) : Bool := match op with
  | 7 => true
  | 8 => true
  | 14 => true
  | 15 => true
  | _ => false
def doS (m : MachS) (x : XS) (ld : Int) : MachS × Int := match sopM x.op with
  | some (s, k) =>
    let a := rg m.rl x.dst
    let b := secS m x k
    let v := doM s x.w a b
    match keepOp x.op with
    | true => (flagS m s x.w a b v, 0)
    | false => ((flagS m s x.w a b v).put x.dst v, 0)
  | none => match x.op with
    | 0 => (m.put x.dst (cutM (rg m.rl x.src) x.w), 0)
    | 1 => (m.put x.dst (cutM (u64 x.imm) x.w), 0)
    | 24 => match cutM (rg m.rl x.dst) x.w == 0 with
      | true => (.zero, 20)
      | false => match cutM m.q2 x.w == 0 with
        | false => (.zero, 20)
        | true => (({ m with q0 := u64 ((cutM m.q0 x.w).tdiv (cutM (rg m.rl x.dst) x.w)), q2 := (cutM m.q0 x.w).tmod (cutM (rg m.rl x.dst) x.w) }).flags false false false false false, 0)
    | 25 => match m.fk with
      | false => (.zero, 20)
      | true => (m.put x.dst (cutM (if holdM x.cc m.fc m.fz m.fs m.fo then rg m.rl x.src else rg m.rl x.dst) x.w), 0)
    | 26 => (m.put x.dst (cutM ld x.w), 0)
    | 28 => (m.at (u64 (m.pc + u64 x.imm)), 0)
    | 29 => match m.fk with
      | false => (.zero, 20)
      | true => (m.at (if holdM x.cc m.fc m.fz m.fs m.fo then u64 (m.pc + u64 x.imm) else m.pc), 0)
    | 30 => (({ m with q4 := u64 (m.q4 + 8) }).at ld, 0)
    | 31 => ({ m with q0 := ld, q1 := 0, q11 := 0 }, 0)
    | _ => (m, 0)
def execS (m : MachS) (x : XS) (ld : Int) : MachS × Int := match x.may with
  | false => (.zero, 2)
  | true => doS (m.at (u64 (m.pc + u64 x.len))) x ld
def execM (m : MachS) (x : XS) (ld : Int) : MachS := (execS m x ld).1
def execE (m : MachS) (x : XS) (ld : Int) : Int := (execS m x ld).2
def pcX (m : MachS) (op w dst src base disp imm cc : Int) : Int := u64 (m.pc + u64 (lenX op w dst src base disp imm cc))
def xT (op w dst src base disp imm cc ld : Int) : List D := [.int .i8 op, .int .i8 w, .int .i8 dst, .int .i8 src, .int .i8 base, .int .i64 disp, .int .i64 imm, .int .i8 cc, .int .u64 ld]
def fT (m : MachS) (p : Int) (tl : List D) : List D := .bool m.fk :: .bool m.fc :: .bool m.fz :: .bool m.fs :: .bool m.fo :: .int .u64 p :: tl
def zC : List D := [.int .u64 0, .int .u64 0, .int .u64 0, .int .u64 0, .int .u64 0, .int .u64 0, .int .u64 0, .int .u64 0, .int .u64 0, .int .u64 0, .int .u64 0, .int .u64 0, .int .u64 0, .int .u64 0, .int .u64 0, .int .u64 0, .bool false, .bool false, .bool false, .bool false, .bool false, .int .u64 0]
def MachS.cw (m : MachS) (p : Int) (tl : List D) : List D := .int .u64 m.q0 :: .int .u64 m.q1 :: .int .u64 m.q2 :: .int .u64 m.q3 :: .int .u64 m.q4 :: .int .u64 m.q5 :: .int .u64 m.q6 :: .int .u64 m.q7 :: .int .u64 m.q8 :: .int .u64 m.q9 :: .int .u64 m.q10 :: .int .u64 m.q11 :: .int .u64 m.q12 :: .int .u64 m.q13 :: .int .u64 m.q14 :: .int .u64 m.q15 :: .bool m.fk :: .bool m.fc :: .bool m.fz :: .bool m.fs :: .bool m.fo :: .int .u64 p :: tl
def addrS (m : MachS) (x : XS) : Int × Int × Bool :=
  if x.may = true ∧ (x.op = 26 ∨ x.op = 27) then (u64 (rg m.rl x.base + u64 x.disp), x.w / 8, true)
  else if x.may = true ∧ x.op = 30 then (m.q4, 8, true)
  else (0, 0, false)
def storedS (m : MachS) (x : XS) : Int := if x.may = true ∧ x.op = 27 then cutM (rg m.rl x.src) x.w else 0
def numS (m : MachS) : Int × Bool := if 16 ≤ m.q0 then (0, false) else (IntKind.i64.wrap m.q0, true)
def numV (q : Int) : Int := if 16 ≤ q then 0 else IntKind.i64.wrap q
def numB (q : Int) : Bool := !decide (16 ≤ q)
def argsS (m : MachS) : List Int := if 16 ≤ m.q0 then [] else [m.q7, m.q6, m.q2, m.q10, m.q8].take (m.q0.toNat % 6)
def wD (l : List Int) : List D := l.map (fun x => .int .u64 x)
def toccM (cc : Int) : Int × Bool :=
  if cc = 0 then (4, true) else if cc = 1 then (5, true) else if cc = 2 then (7, true) else if cc = 3 then (3, true) else if cc = 4 then (2, true) else if cc = 5 then (6, true)
  else if cc = 6 then (15, true) else if cc = 7 then (13, true) else if cc = 8 then (12, true) else if cc = 9 then (14, true) else if cc = 10 then (5, true) else (0, false)
def ccM' (cc : Int) : Int × Bool :=
  if cc = 4 then (0, true) else if cc = 5 then (1, true) else if cc = 7 then (2, true) else if cc = 3 then (3, true) else if cc = 2 then (4, true) else if cc = 6 then (5, true)
  else if cc = 15 then (6, true) else if cc = 13 then (7, true) else if cc = 12 then (8, true) else if cc = 14 then (9, true) else (0, false)
end Go.Ev

namespace Go.Ev
open Go
structure RgS where
  (r0 r1 r2 r3 r4 r5 r6 r7 r8 r9 r10 : Int)
deriving DecidableEq
def RgS.c (r : RgS) : List D := [.int .u64 r.r0, .int .u64 r.r1, .int .u64 r.r2, .int .u64 r.r3, .int .u64 r.r4, .int .u64 r.r5, .int .u64 r.r6, .int .u64 r.r7, .int .u64 r.r8, .int .u64 r.r9, .int .u64 r.r10]
def RgS.d (r : RgS) : D := .agg r.c
def RgS.l (r : RgS) : List Int := [r.r0, r.r1, r.r2, r.r3, r.r4, r.r5, r.r6, r.r7, r.r8, r.r9, r.r10]
def RgS.get (r : RgS) (i : Int) : Int := rg r.l i
def RgS.put (r : RgS) (i v : Int) : RgS := ⟨st 0 i v r.r0, st 1 i v r.r1, st 2 i v r.r2, st 3 i v r.r3, st 4 i v r.r4, st 5 i v r.r5, st 6 i v r.r6, st 7 i v r.r7, st 8 i v r.r8, st 9 i v r.r9, st 10 i v r.r10⟩
def RgS.zero : RgS := ⟨0, 0, 0, 0, 0, 0, 0, 0, 0, 0, 0⟩
section
variable {r0 r1 r2 r3 r4 r5 r6 r7 r8 r9 r10 i v : Int} {tl : List D}
end
def MachS.c (m : MachS) : List D := [.int .u64 m.q0, .int .u64 m.q1, .int .u64 m.q2, .int .u64 m.q3, .int .u64 m.q4, .int .u64 m.q5, .int .u64 m.q6, .int .u64 m.q7, .int .u64 m.q8, .int .u64 m.q9, .int .u64 m.q10, .int .u64 m.q11, .int .u64 m.q12, .int .u64 m.q13, .int .u64 m.q14, .int .u64 m.q15, .bool m.fk, .bool m.fc, .bool m.fz, .bool m.fs, .bool m.fo, .int .u64 m.pc]
def IrS.x (s : IrS) : XS := ⟨s.op, s.w, s.dst, s.src, s.base, s.disp, s.imm, s.cc⟩
def scrM (n : Int) : Bool := decide (n = 0 ∨ n = 1 ∨ n = 2 ∨ n = 11)
theorem scr_bit_all : ∀ n : Fin 128, (bitOf 2055 (n.val : Int) == 1) = scrM (n.val : Int) := by decide +kernel
theorem wk_bool {a b : Bool} (h : a = b) : wk (.bool a) (.bool b) := by subst h; simp [wk]
theorem scr_bit_eq {n : Int} (h0 : decide (n < 0) = false) (h1 : n ≤ 127) : (bitOf 2055 n == 1) = scrM n := by
 rw [decide_eq_false_iff_not] at h0
 have := scr_bit_all ⟨n.toNat, by omega⟩
 simp only [Int.toNat_of_nonneg (show 0 ≤ n by omega)] at this
 exact this
theorem scr_neg {n : Int} (h0 : decide (n < 0) = true) : false = scrM n := by
 rw [decide_eq_true_eq] at h0
 exact (decide_eq_false (by omega)).symm
def namesM (op w dst src base disp imm cc : Int) : Int := or64 (readsXX op w dst src base disp imm cc) (writesXX op w dst src base disp imm cc)
def ownM (op w dst src base disp imm cc : Int) : Bool := andNot64 (namesM op w dst src base disp imm cc) 2055 == 0
theorem own_t {op w dst src base disp imm cc : Int} (h : ownM op w dst src base disp imm cc = true) : (IntKind.i64.wrap ((BitVec.ofInt IntKind.i64.bits (IntKind.i64.wrap ((BitVec.ofInt IntKind.i64.bits (readsXX op w dst src base disp imm cc) ||| BitVec.ofInt IntKind.i64.bits (writesXX op w dst src base disp imm cc)).toNat : Int)) &&& ~~~BitVec.ofInt IntKind.i64.bits 2055).toNat : Int) == 0) = true := h
theorem own_f {op w dst src base disp imm cc : Int} (h : ownM op w dst src base disp imm cc = false) : (IntKind.i64.wrap ((BitVec.ofInt IntKind.i64.bits (IntKind.i64.wrap ((BitVec.ofInt IntKind.i64.bits (readsXX op w dst src base disp imm cc) ||| BitVec.ofInt IntKind.i64.bits (writesXX op w dst src base disp imm cc)).toNat : Int)) &&& ~~~BitVec.ofInt IntKind.i64.bits 2055).toNat : Int) == 0) = false := h
def zeroX (op w dst src base disp imm cc : Int) : Bool := decide (op = 0 ∧ w = 0 ∧ dst = 0 ∧ src = 0 ∧ base = 0 ∧ disp = 0 ∧ imm = 0 ∧ cc = 0)
def mayI (kind op w dst src base disp imm cc reg phys num to : Int) : Bool :=
  if kind = 0 then mayX op w dst src base disp imm cc && decide (op < 28) && ownM op w dst src base disp imm cc && decide (reg = 0 ∧ phys = 0 ∧ num = 0 ∧ to = 0)
  else if kind = 1 ∨ kind = 2 then decide (0 ≤ reg ∧ reg ≤ 10) && scrM phys && zeroX op w dst src base disp imm cc && decide (num = 0 ∧ to = 0)
  else if kind = 3 then decide (0 ≤ num ∧ num ≤ 15) && zeroX op w dst src base disp imm cc && decide (reg = 0 ∧ phys = 0 ∧ to = 0)
  else if kind = 4 then ccM cc && zeroX (op - 29) w dst src base disp imm 0 && decide (0 ≤ to ∧ to ≤ 64) && decide (reg = 0 ∧ phys = 0 ∧ num = 0)
  else if kind = 5 then decide (0 ≤ to ∧ to ≤ 64) && zeroX op w dst src base disp imm cc && decide (reg = 0 ∧ phys = 0 ∧ num = 0)
  else if kind = 6 then zeroX op w dst src base disp imm cc && decide (reg = 0 ∧ phys = 0 ∧ num = 0 ∧ to = 0)
  else false
theorem eq_irc (k1 a1 a2 a3 a4 a5 a6 a7 a8 a9 a10 a11 a12 k2 b1 b2 b3 b4 b5 b6 b7 b8 b9 b10 b11 b12 : Int) : eqCells (irC k1 a1 a2 a3 a4 a5 a6 a7 a8 a9 a10 a11 a12) (irC k2 b1 b2 b3 b4 b5 b6 b7 b8 b9 b10 b11 b12) =
  decide (k1 = k2 ∧ a1 = b1 ∧ a2 = b2 ∧ a3 = b3 ∧ a4 = b4 ∧ a5 = b5 ∧ a6 = b6 ∧ a7 = b7 ∧ a8 = b8 ∧ a9 = b9 ∧ a10 = b10 ∧ a11 = b11 ∧ a12 = b12) := by
 rw [Bool.eq_iff_iff]
 simp [eqCells, eqCell]
theorem mayI_0 (op w dst src base disp imm cc reg phys num to : Int) : mayI 0 op w dst src base disp imm cc reg phys num to = (mayX op w dst src base disp imm cc && decide (op < 28) && ownM op w dst src base disp imm cc && decide (reg = 0 ∧ phys = 0 ∧ num = 0 ∧ to = 0)) := rfl
theorem mayI_1 (op w dst src base disp imm cc reg phys num to : Int) : mayI 1 op w dst src base disp imm cc reg phys num to = (decide (0 ≤ reg ∧ reg ≤ 10) && scrM phys && zeroX op w dst src base disp imm cc && decide (num = 0 ∧ to = 0)) := rfl
theorem mayI_2 (op w dst src base disp imm cc reg phys num to : Int) : mayI 2 op w dst src base disp imm cc reg phys num to = (decide (0 ≤ reg ∧ reg ≤ 10) && scrM phys && zeroX op w dst src base disp imm cc && decide (num = 0 ∧ to = 0)) := rfl
theorem mayI_3 (op w dst src base disp imm cc reg phys num to : Int) : mayI 3 op w dst src base disp imm cc reg phys num to = (decide (0 ≤ num ∧ num ≤ 15) && zeroX op w dst src base disp imm cc && decide (reg = 0 ∧ phys = 0 ∧ to = 0)) := rfl
theorem mayI_4 (op w dst src base disp imm cc reg phys num to : Int) : mayI 4 op w dst src base disp imm cc reg phys num to = (ccM cc && zeroX (op - 29) w dst src base disp imm 0 && decide (0 ≤ to ∧ to ≤ 64) && decide (reg = 0 ∧ phys = 0 ∧ num = 0)) := rfl
theorem mayI_5 (op w dst src base disp imm cc reg phys num to : Int) : mayI 5 op w dst src base disp imm cc reg phys num to = (decide (0 ≤ to ∧ to ≤ 64) && zeroX op w dst src base disp imm cc && decide (reg = 0 ∧ phys = 0 ∧ num = 0)) := rfl
theorem mayI_6 (op w dst src base disp imm cc reg phys num to : Int) : mayI 6 op w dst src base disp imm cc reg phys num to = (zeroX op w dst src base disp imm cc && decide (reg = 0 ∧ phys = 0 ∧ num = 0 ∧ to = 0)) := rfl
def stopsI (kind op : Int) : Bool := decide ((3 ≤ kind ∧ kind ≤ 6) ∨ (kind = 0 ∧ (op = 26 ∨ op = 27)))
def IrS.ok (s : IrS) : Prop := -128 ≤ s.kind ∧ s.kind ≤ 127 ∧ s.op ≤ 127 ∧ s.cc ≤ 127 ∧ s.phys ≤ 127 ∧ -128 ≤ s.reg ∧ s.reg ≤ 127
def AllOk (l : List IrS) : Prop := ∀ s ∈ l, s.ok
def IrS.may (s : IrS) : Bool := mayI s.kind s.op s.w s.dst s.src s.base s.disp s.imm s.cc s.reg s.phys s.num s.to
def IrS.stops (s : IrS) : Bool := stopsI s.kind s.op
def badI (l : List IrS) : Option Nat := l.findIdx? (fun s => !s.may)
def chkI (l : List IrS) : Int × Int := match badI l with
  | some k => ((k : Int), 2)
  | none => (0, 0)
def runI : List IrS → RgS → MachS → RgS × MachS × Nat × Int
  | [], r, m => (r, m, 0, 0)
  | s :: t, r, m => match s.stops with
    | true => (r, m, t.length + 1, 0)
    | false => if s.kind = 1 then runI t r (m.put s.phys (r.get s.reg))
      else if s.kind = 2 then runI t (r.put s.reg (rg m.rl s.phys)) m
      else if (execS m s.x 0).2 = 0 then runI t r ((execS m s.x 0).1.at 0)
      else (.zero, .zero, t.length + 1, (execS m s.x 0).2)
def restI (l : List IrS) (r : RgS) (m : MachS) : List IrS := l.drop (l.length - (runI l r m).2.2.1)
def doI (l : List IrS) (r : RgS) : RgS × MachS × Int × Int :=
  if (chkI l).2 = 0 then
    let q := runI l r .zero
    if q.2.2.2 = 0 then (q.1, q.2.1, ((l.length - q.2.2.1 : Nat) : Int), 0) else (.zero, .zero, 0, q.2.2.2)
  else (.zero, .zero, 0, 2)
def namedI (k : Int) (n : Int) : List IrS → Int
  | [] => n
  | s :: t => namedI k (if s.kind = k ∧ 0 ≤ s.reg ∧ s.reg ≤ 10 then or64 n (sh8 s.reg) else n) t
end Go.Ev

namespace Go.Ev
open Go
def oneOK (kind op width size : Int) (byReg : Bool) (dst src off imm : Int) : Bool := mayM kind op width size byReg dst src off imm && (!(kind == 3) && !(kind == 4))
def oneL (kind op width size : Int) (byReg : Bool) (dst src off imm : Int) : List D := if oneOK kind op width size byReg dst src off imm then stepsM kind op width size byReg dst src off imm else []
def oneE (kind op width size : Int) (byReg : Bool) (dst src off imm : Int) : Int := if oneOK kind op width size byReg dst src off imm then 0 else 2
end Go.Ev
namespace Go.Ev
open Go
def irOf : D → IrS
  | .agg [.int _ a, .int _ b, .int _ c, .int _ d, .int _ e, .int _ f, .int _ g, .int _ h, .int _ i, .int _ j, .int _ k, .int _ l, .int _ m] => ⟨a, b, c, d, e, f, g, h, i, j, k, l, m⟩
  | _ => ⟨0, 0, 0, 0, 0, 0, 0, 0, 0, 0, 0, 0, 0⟩
def AllIr (l : List D) : Prop := (l.map irOf).map IrS.d = l
end Go.Ev

namespace Go.Ev
open Go
def irK : List LK := [.int .i8, .int .i8, .int .i8, .int .i8, .int .i8, .int .i8, .int .i64, .int .i64, .int .i8, .int .i8, .int .i8, .int .i64, .int .i64]
theorem has8_ {n : Int} (h : IntKind.i8.has n) : -128 ≤ n ∧ n ≤ 127 := by
 simp [IntKind.has, IntKind.min, IntKind.max, IntKind.signed, IntKind.bits] at h
 omega
theorem ir_of {ds : List D} (h : okL irK ds) : (irOf (.agg ds)).d = .agg ds ∧ (irOf (.agg ds)).ok := by
 simp only [irK, okL] at h
 obtain ⟨a1, _, rfl, h1, a2, _, rfl, h2, a3, _, rfl, h3, a4, _, rfl, h4, a5, _, rfl, h5, a6, _, rfl, h6, a7, _, rfl, h7, a8, _, rfl, h8, a9, _, rfl, h9, a10, _, rfl, h10, a11, _, rfl, h11, a12, _, rfl, h12, a13, _, rfl, h13, rfl⟩ := h
 have k1 := has8_ h1
 have k2 := has8_ h2
 have k9 := has8_ h9
 have k10 := has8_ h10
 have k11 := has8_ h11
 exact ⟨rfl, k1.1, k1.2, k2.2, k9.2, k11.2, k10.1, k10.2⟩
theorem irs_of : ∀ (xs : List (List D)), (∀ ds ∈ xs, okL irK ds) → ∃ l : List IrS, xs.map .agg = l.map IrS.d ∧ AllOk l ∧ l.length = xs.length
 | [], _ => ⟨[], rfl, fun s hs => (by simp at hs), rfl⟩
 | ds :: r, h => by
  obtain ⟨l, e, ho, hl⟩ := irs_of r (fun d hd => h d (List.mem_cons_of_mem _ hd))
  obtain ⟨e1, o1⟩ := ir_of (h ds (List.mem_cons_self ..))
  refine ⟨irOf (.agg ds) :: l, by rw [List.map_cons, List.map_cons, e, e1], fun s hs => ?_, by simp [hl]⟩
  rcases List.mem_cons.mp hs with rfl | hs
  ·exact o1
  ·exact ho s hs
end Go.Ev

namespace Go.Ev
open Go
def xK : List LK := [.int .i8, .int .i8, .int .i8, .int .i8, .int .i8, .int .i64, .int .i64, .int .i8]
def AllX (l : List XS) : Prop := ∀ x ∈ l, x.op ≤ 127
theorem xs_of : ∀ (xs : List (List D)), (∀ ds ∈ xs, okL xK ds) → ∃ l : List XS, xs.map .agg = l.map xsD ∧ AllX l ∧ l.length = xs.length
 | [], _ => ⟨[], rfl, fun s hs => (by simp at hs), rfl⟩
 | ds :: r, h => by
  obtain ⟨l, e, ho, hl⟩ := xs_of r (fun d hd => h d (List.mem_cons_of_mem _ hd))
  have h0 := h ds (List.mem_cons_self ..)
  simp only [xK, okL] at h0
  obtain ⟨a1, _, rfl, h1, a2, _, rfl, h2, a3, _, rfl, h3, a4, _, rfl, h4, a5, _, rfl, h5, a6, _, rfl, h6, a7, _, rfl, h7, a8, _, rfl, h8, rfl⟩ := h0
  refine ⟨⟨a1, a2, a3, a4, a5, a6, a7, a8⟩ :: l, by rw [List.map_cons, List.map_cons, e]; rfl, fun s hs => ?_, by simp [hl]⟩
  rcases List.mem_cons.mp hs with rfl | hs
  ·exact (has8_ h1).2
  ·exact ho s hs
def catM : List XS → List Int
  | [] => []
  | x :: r => bytesXS x ++ catM r
def posM : Int → List XS → List Int
  | _, [] => []
  | s, x :: r => s :: posM (s + (bytesXS x).length) r
def intsD (l : List Int) : List D := l.map (.int .i64)
def xsL (l : List XS) : List D := l.map xsD
theorem catM_append : ∀ (p q : List XS), catM (p ++ q) = catM p ++ catM q
 | [], q => rfl
 | x :: p, q => by rw [List.cons_append, catM, catM, catM_append p q, List.append_assoc]
theorem catM_snoc (p : List XS) (x : XS) : catM (p ++ [x]) = catM p ++ bytesXS x := by rw [catM_append]; simp [catM]
theorem catM_isB : ∀ {p : List XS}, (∀ x ∈ p, mayXS x = true) → isB (catM p)
 | [], _ => nilB
 | x :: p, h => fun y hy => by
  rcases List.mem_append.1 hy with q | q
  ·exact bytesXS_isB (h x (List.mem_cons_self ..)) y q
  ·exact catM_isB (fun z hz => h z (List.mem_cons_of_mem _ hz)) y q
theorem catM_len : ∀ (p : List XS), p.length ≤ (catM p).length ∧ (catM p).length ≤ 11 * p.length
 | [] => ⟨Nat.le_refl _, Nat.le_refl _⟩
 | x :: p => by
  obtain ⟨h1, h2⟩ := catM_len p
  obtain ⟨h3, h4⟩ := bytes_len x
  simp only [catM, List.length_append, List.length_cons]
  omega
theorem xsL_get (p : List XS) (j : Nat) (h : j < p.length) : (xsL p)[j]? = some (xsD p[j]) := by simp [xsL, h]
theorem intsD_get {l : List Int} {j : Nat} {v : Int} (h : l[j]? = some v) : (intsD l)[j]? = some (.int .i64 v) := by simp [intsD, h]
theorem intsD_len (l : List Int) : (intsD l).length = l.length := by simp [intsD]
theorem xsL_len (l : List XS) : (xsL l).length = l.length := by simp [xsL]
end Go.Ev

namespace Go.Ev
open Go
def InstS.may (x : InstS) : Bool := mayM x.kind x.op x.width x.size x.byReg x.dst x.src x.off x.imm
def isd (l : List InstS) : List D := l.map InstS.d
def tgt2 (i kind off : Int) : Bool := (kind == 3 || kind == 4) && (decide (-1099511627776 ≤ i ∧ i ≤ 1099511627776) && decide (-1099511627776 ≤ off ∧ off ≤ 1099511627776))
def tgt1 (i kind off : Int) : Int := if tgt2 i kind off = true then i + 1 + off else 0
def ckFrom (n : Int) : Int → List InstS → Option (Int × Int)
  | _, [] => none
  | i, x :: r => if x.may = false then some (i, 31) else if tgt2 i x.kind x.off = true ∧ ¬ (0 ≤ tgt1 i x.kind x.off ∧ tgt1 i x.kind x.off < n) then some (i, 32) else ckFrom n (i + 1) r
def kindAt (l : List InstS) (i : Nat) : Int := match l[i]? with | some x => x.kind | none => 0
def checkM (ctx : Int) (l : List InstS) : Int × Int :=
  if ctx < 0 ∨ 256 < ctx then (0, 2) else if l.length < 1 ∨ 64 < l.length then (0, 3)
  else match ckFrom l.length 0 l with
    | some r => r
    | none => if kindAt l (l.length - 1) = 4 ∨ kindAt l (l.length - 1) = 6 then (0, 0) else (l.length - 1, 33)
end Go.Ev

namespace Go.Ev
open Go
def stopK (k : Int) : Bool := k == 3 || k == 4 || k == 6
def stepB (es : List (Int × D)) (k : Int) (x : InstS) : List (Int × D) :=
  if tgt2 k x.kind x.off = true then updD (if stopK x.kind = true then updD es (k + 1) (.bool true) else es) (tgt1 k x.kind x.off) (.bool true)
  else if stopK x.kind = true then updD es (k + 1) (.bool true) else es
def begE (l : List InstS) : Nat → List (Int × D)
  | 0 => [(0, .bool true)]
  | k + 1 => match l[k]? with
    | some x => stepB (begE l k) k x
    | none => begE l k
def begS (l : List InstS) (k : Nat) (i : Int) : Bool := match l[k]? with
  | some x => (stopK x.kind && i == (k : Int) + 1) || (tgt2 k x.kind x.off && i == tgt1 k x.kind x.off)
  | none => false
def begU (l : List InstS) (i : Int) : Nat → Bool
  | 0 => i == 0
  | k + 1 => begU l i k || begS l k i
def begM (l : List InstS) (i : Int) : Bool := begU l i l.length
end Go.Ev

namespace Go.Ev
open Go
structure OkP (l : List InstS) : Prop where
  pos : 1 ≤ l.length
  le : l.length ≤ 64
  may : ∀ j (h : j < l.length), l[j].may = true
  tgt : ∀ j (h : j < l.length), tgt2 j l[j].kind l[j].off = true → 0 ≤ tgt1 j l[j].kind l[j].off ∧ tgt1 j l[j].kind l[j].off < l.length
  last : kindAt l (l.length - 1) = 4 ∨ kindAt l (l.length - 1) = 6
end Go.Ev

namespace Go.Ev
open Go
theorem put_set {l : List D} {i : Nat} {x : D} (h : (i : Int) < (l.length : Int)) : PutsA l i [x] (l.set i x) := by
 refine ⟨?_, by simp; omega⟩
 rw [List.set_eq_take_append_cons_drop, if_pos (by omega)]
 rfl
theorem cl_set {l : List D} {i : Nat} {x : D} (h : ∀ c ∈ l, c.clean = true) (hx : x.clean = true) : ∀ c ∈ l.set i x, c.clean = true := by
 intro c hc
 rcases List.mem_or_eq_of_mem_set hc with q | rfl
 ·exact h c q
 ·exact hx
end Go.Ev

namespace Go.Ev
open Go
structure PaS where
  x : XS
  j : Bool
  to : Int
def PaS.c (p : PaS) : List D := [.int .i8 p.x.op, .int .i8 p.x.w, .int .i8 p.x.dst, .int .i8 p.x.src, .int .i8 p.x.base, .int .i64 p.x.disp, .int .i64 p.x.imm, .int .i8 p.x.cc, .bool p.j, .int .i64 p.to]
def PaS.d (p : PaS) : D := .agg [.int .i8 p.x.op, .int .i8 p.x.w, .int .i8 p.x.dst, .int .i8 p.x.src, .int .i8 p.x.base, .int .i64 p.x.disp, .int .i64 p.x.imm, .int .i8 p.x.cc, .bool p.j, .int .i64 p.to]
def paL (l : List PaS) : List D := l.map PaS.d
def irL (l : List IrS) : List D := l.map IrS.d
def rwL (l : List (List IrS)) : List D := l.map fun r => .lst .no 13 (irL r)
def paC : List PaS → List D
  | [] => []
  | p :: r => p.c ++ paC r
theorem paL_len (l : List PaS) : (paL l).length = l.length := by simp [paL]
theorem irL_len (l : List IrS) : (irL l).length = l.length := by simp [irL]
theorem rwL_len (l : List (List IrS)) : (rwL l).length = l.length := by simp [rwL]
theorem paL_app (a b : List PaS) : paL (a ++ b) = paL a ++ paL b := by simp [paL]
theorem irL_get (l : List IrS) (j : Nat) (h : j < l.length) : (irL l)[j]? = some (IrS.d l[j]) := by simp [irL, h]
theorem rwL_get (l : List (List IrS)) (j : Nat) (h : j < l.length) : (rwL l)[j]? = some (.lst .no 13 (irL l[j])) := by simp [rwL, h]
theorem paL_cells : ∀ l : List PaS, cellsOfL (paL l) = some (paC l)
 | [] => rfl
 | p :: r => by
  have h := paL_cells r
  unfold paL at h ⊢
  simp only [List.map_cons, cellsOfL, h]
  rfl
theorem paC_len : ∀ l : List PaS, (paC l).length = l.length * 10
 | [] => rfl
 | p :: r => by simp only [paC, List.length_append, List.length_cons, paC_len r, PaS.c, List.length_nil]; omega
theorem paC_app : ∀ a b : List PaS, paC (a ++ b) = paC a ++ paC b
 | [], b => rfl
 | p :: a, b => by rw [List.cons_append, paC, paC, paC_app a b, List.append_assoc]
def mayL (s : IrS) (n : Int) : Bool :=
  if s.kind = 0 then decide (s.reg = 0 ∧ s.phys = 0 ∧ s.num = 0 ∧ s.to = 0) && (mayXS s.x && !decide (s.op = 28 ∨ s.op = 29))
  else if s.kind = 4 ∨ s.kind = 5 then s.may && decide (s.to < n)
  else false
def inP (x : XS) : PaS := ⟨x, false, 0⟩
def jcP (cc to : Int) : PaS := ⟨⟨29, 8, 0, 0, 0, 0, 0, cc⟩, true, to⟩
def jmP (to : Int) : PaS := ⟨⟨28, 8, 0, 0, 0, 0, 0, 0⟩, true, to⟩
def stepP (n : Nat) (b : Int) (i : Nat) (s : IrS) : List PaS :=
  if s.kind = 0 then [inP s.x]
  else if s.kind = 4 then [jcP s.cc s.to]
  else if i = 0 ∨ i + 1 < n ∨ s.to ≠ b + 1 then [jmP s.to] else []
def blkG (n : Nat) (b : Int) : Nat → List IrS → List PaS
  | _, [] => []
  | i, s :: t => stepP n b i s ++ blkG n b (i + 1) t
def blkP (l : List IrS) (b : Int) : List PaS := blkG l.length b 0 l
def allP : Int → List (List IrS) → List PaS
  | _, [] => []
  | b, l :: r => blkP l b ++ allP (b + 1) r
def begP : Nat → Int → List (List IrS) → List Int
  | _, _, [] => []
  | k, b, l :: r => (k : Int) :: begP (k + (blkP l b).length) (b + 1) r
theorem stepP_len (n : Nat) (b : Int) (i : Nat) (s : IrS) : (stepP n b i s).length ≤ 1 := by
 unfold stepP
 split
 ·simp
 ·split
  ·simp
  ·split <;> simp
theorem blkG_len (n : Nat) (b : Int) : ∀ (l : List IrS) (i : Nat), (blkG n b i l).length ≤ l.length
 | [], i => by simp [blkG]
 | s :: t, i => by
  have h1 := stepP_len n b i s
  have h2 := blkG_len n b t (i + 1)
  simp only [blkG, List.length_append, List.length_cons]
  omega
theorem blkG_snoc (n : Nat) (b : Int) : ∀ (l : List IrS) (i : Nat) (s : IrS), blkG n b i (l ++ [s]) = blkG n b i l ++ stepP n b (i + l.length) s
 | [], i, s => by simp [blkG]
 | a :: l, i, s => by
  rw [List.cons_append, blkG, blkG, blkG_snoc n b l (i + 1) s, List.append_assoc]
  congr 3
  simp only [List.length_cons]
  omega
theorem begP_len : ∀ (l : List (List IrS)) (k : Nat) (b : Int), (begP k b l).length = l.length
 | [], k, b => rfl
 | a :: l, k, b => by simp only [begP, List.length_cons, begP_len l]
theorem PaS.c_clean (p : PaS) : ∀ d ∈ p.c, d.clean = true := by
 intro d hd
 simp only [PaS.c, List.mem_cons, List.not_mem_nil, or_false] at hd
 rcases hd with rfl | rfl | rfl | rfl | rfl | rfl | rfl | rfl | rfl | rfl <;> rfl
theorem paC_clean : ∀ (l : List PaS), ∀ d ∈ paC l, d.clean = true
 | [], d, h => by cases h
 | p :: r, d, h => by
  rcases List.mem_append.1 h with q | q
  ·exact p.c_clean d q
  ·exact paC_clean r d q
theorem paC_clean2 (a b : List PaS) : ∀ d ∈ paC a ++ paC b, d.clean = true := by rw [← paC_app]; exact paC_clean _
theorem paC_demote : ∀ (l : List PaS), (paC l).map D.demote = paC l
 | [] => rfl
 | p :: r => by rw [paC, List.map_append, paC_demote r]; rfl
theorem allP_snoc : ∀ (l : List (List IrS)) (b : Int) (r : List IrS), allP b (l ++ [r]) = allP b l ++ blkP r (b + l.length)
 | [], b, r => by simp [allP]
 | a :: l, b, r => by
  rw [List.cons_append, allP, allP, allP_snoc l (b + 1) r, List.append_assoc]
  congr 3
  simp only [List.length_cons]
  omega
theorem begP_snoc : ∀ (l : List (List IrS)) (k : Nat) (b : Int) (r : List IrS), begP k b (l ++ [r]) = begP k b l ++ [((k + (allP b l).length : Nat) : Int)]
 | [], k, b, r => by simp [begP, allP]
 | a :: l, k, b, r => by
  rw [List.cons_append, begP, begP, begP_snoc l _ (b + 1) r, List.cons_append, allP, List.length_append, Nat.add_assoc]
def sumL (l : List (List IrS)) : Nat := (l.map List.length).sum
theorem sumL_snoc (l : List (List IrS)) (r : List IrS) : sumL (l ++ [r]) = sumL l + r.length := by simp [sumL]
theorem sumL_mem {l : List (List IrS)} {r : List IrS} (h : r ∈ l) : r.length ≤ sumL l := by
 induction l with
 | nil => cases h
 | cons a l ih =>
  rcases List.mem_cons.1 h with rfl | h
  ·simp [sumL]
  ·have := ih h
   simp only [sumL, List.map_cons, List.sum_cons] at this ⊢
   omega
theorem sumL_take (l : List (List IrS)) (b : Nat) : sumL (l.take b) ≤ sumL l := by
 have : sumL l = sumL (l.take b) + sumL (l.drop b) := by
  unfold sumL
  rw [← List.sum_append, ← List.map_append, List.take_append_drop]
 omega
theorem allP_len : ∀ (l : List (List IrS)) (b : Int), (allP b l).length ≤ sumL l
 | [], b => by simp [allP]
 | a :: l, b => by
  have h1 := allP_len l (b + 1)
  have h2 := blkG_len a.length b a 0
  simp only [allP, List.length_append, sumL, List.map_cons, List.sum_cons, blkP] at h1 ⊢
  omega
theorem gets_id {l : List D} {i n : Nat} {l' : List D} (h : GetsA l i n l') : GetsA l i n l' := h
end Go.Ev

namespace Go.Proofs.Ytcngafhpodeenaa
open Go Go.Ev
theorem sL : (∀ {α : Type} {a b : List α}, (a ++ b).length = a.length + b.length) ∧ (∀ {α : Type} {x : α} {a : List α}, (x :: a).length = a.length + 1) ∧ (∀ {α : Type}, ([] : List α).length = 0) ∧ (∀ {α : Type} {a : List α} {i : Nat} {x : α}, (a.set i x).length = a.length) ∧ (∀ l : List Int, (bD l).length = l.length) ∧ (∀ l : List Int, (intsD l).length = l.length) ∧ (∀ l : List XS, (xsL l).length = l.length) ∧ (∀ l : List (List IrS), (rwL l).length = l.length) ∧ (∀ l : List IrS, (irL l).length = l.length) ∧ (∀ l : List PaS, (paL l).length = l.length) ∧ (∀ n : Int, IntKind.i8.wrap n = (n + 128) % 256 - 128) ∧ (∀ n : Int, IntKind.u8.wrap n = n % 256) ∧ (∀ n : Int, IntKind.i64.wrap n = (n + 9223372036854775808) % 18446744073709551616 - 9223372036854775808) ∧ (∀ n : Int, IntKind.u64.wrap n = n % 18446744073709551616) ∧ (∀ {p : Prop} [Decidable p], (decide p = true) = p) ∧ (∀ {p : Prop} [Decidable p], (decide p = false) ↔ ¬p) ∧ (∀ {α : Type} [BEq α] [LawfulBEq α] {a b : α}, (a == b) = true ↔ a = b) ∧ (∀ {α : Type} [BEq α] [LawfulBEq α] {a b : α}, (a != b) = true ↔ a ≠ b) ∧ (∀ {α : Type} [BEq α] [LawfulBEq α] {a b : α}, (a == b) = false ↔ a ≠ b) ∧ (∀ {α : Type} [BEq α] [LawfulBEq α] {a b : α}, (a != b) = false ↔ a = b) ∧ (∀ (b : Bool), ((!b) = true) = (b = false)) ∧ (∀ (b : Bool), ((!b) = false) = (b = true)) ∧ (∀ (a b : Bool), ((a && b) = true) = (a = true ∧ b = true)) ∧ (∀ (a b : Bool), ((a || b) = true) = (a = true ∨ b = true)) :=
 ⟨List.length_append, List.length_cons, List.length_nil, List.length_set, len_bD, intsD_len, xsL_len, rwL_len, irL_len, paL_len, w_i8, w_u8, w_i64, w_u64, @decide_eq_true_eq, @decide_eq_false_iff_not, @beq_iff_eq, @bne_iff_ne, @beq_eq_false_iff_ne, @bne_eq_false_iff_eq, by intro b; cases b <;> simp, by intro b; cases b <;> simp, by intro a b; simp, by intro a b; simp⟩
end Go.Proofs.Ytcngafhpodeenaa

namespace Go.Ev
open Go
def listM : Nat → List Int → Option (List XS)
  | 0, _ => none
  | n + 1, b => if b = [] then some [] else
    match readM b with
    | none => none
    | some x => (listM n (b.drop (bytesXS x).length)).map (x :: ·)
theorem listM_bad {n : Nat} {b : List Int} (hb : b ≠ []) (h : readM b = none) : listM (n + 1) b = none := by
 simp only [listM, if_neg hb, h]
theorem listM_more {n : Nat} {b : List Int} {x : XS} (hb : b ≠ []) (h : readM b = some x) : listM (n + 1) b = (listM n (b.drop (bytesXS x).length)).map (x :: ·) := by
 simp only [listM, if_neg hb, h]
theorem isB_drop {b : List Int} (hb : isB b) (n : Nat) : isB (b.drop n) := fun x hx => hb x (List.mem_of_mem_drop hx)
theorem bD_drop (a : List Int) (n : Nat) : bD (a.drop n) = (bD a).drop n := by simp [bD, List.map_drop]
end Go.Ev

namespace Go.Proofs.Ytcngafhpodeenaa
open Go Go.Ev
set_option maxRecDepth 100000
set_option maxHeartbeats 8000000
theorem ll_end (b : List Int) (p : List XS) (h : ((bD b).length : Int) ≤ 0)  : RoundRun Try.prog (loopB Try.f32 0) ⟨[], [], [(2, 8)]⟩ 0 ((.lst .no 1 (bD b)) :: (D.undef) :: (.lst (Own.tok (0 : Nat) (0 : Nat)) (8 : Nat) (xsL p)) :: (un 23)) [Ob.fam (0 : Nat) (8 : Nat)] (Ex.exit (0 : Nat)) ((D.undef) :: (D.undef) :: (.lst (Own.tok (0 : Nat) (0 : Nat)) (8 : Nat) (xsL p)) :: (un 23)) ([Ob.fam (0 : Nat) (8 : Nat)]) := by
 exact RoundRun.of_eval mixed [tC (ltL 0 (decide_eq_true (Int.lt_add_one_of_le h)))] (by kernel_rfl)
theorem ll_bad (b : List Int) (p : List XS) (h : 0 < ((bD b).length : Int)) (hr : Ret Try.prog 19 [.lst .no 1 (bD b)] (.tup [xD 0 0 0 0 0 0 0 0, .int .i64 0, .int .i64 30]))  : RoundRun Try.prog (loopB Try.f32 0) ⟨[2, 3], [], []⟩ 0 ((.lst .no 1 (bD b)) :: (D.undef) :: (.lst (Own.tok (0 : Nat) (0 : Nat)) (8 : Nat) (xsL p)) :: (un 23)) [Ob.fam (0 : Nat) (8 : Nat)] (Ex.ret) ((D.undef) :: (D.undef) :: (.lst .tight 0 []) :: (.bool false) :: (un 22)) ([]) := by
 exact RoundRun.of_eval mixed [tC (ltL 0 (decide_eq_false (by omega : ¬ (↑(List.length (bD b)) : Int) < 1))), .ret _ _ _ hr, tT] (by kernel_rfl)
theorem ll_in (b : List Int) (p : List XS) (x : XS) (n : Int) (n0 : 0 ≤ n) (n1 : n ≤ ((bD b).length : Int)) (hp : ((xsL p).length : Int) ≤ 50000) (h : 0 < ((bD b).length : Int)) (hr : Ret Try.prog 19 [.lst .no 1 (bD b)] (.tup [xsD x, .int .i64 n, .int .i64 0]))  : RoundRun Try.prog (loopB Try.f32 0) ⟨[0], [], [(2, 8)]⟩ 0 ((.lst .no 1 (bD b)) :: (D.undef) :: (.lst (Own.tok (0 : Nat) (0 : Nat)) (8 : Nat) (xsL p)) :: (un 23)) [Ob.fam (0 : Nat) (8 : Nat)] (Ex.norm) ((.lst .no 1 (List.drop (Int.toNat n) (bD b))) :: (D.undef) :: (.lst (Own.tok (0 : Nat) (0 : Nat)) (8 : Nat) (xsL p ++ [xsD x])) :: (un 23)) ([.fam 0 8]) := by
 exact RoundRun.of_eval mixed [tC (ltL 0 (decide_eq_false (by omega : ¬ (↑(List.length (bD b)) : Int) < 1))), .ret _ _ _ hr, tF, .len (List.length (xsL p) + (1 : Nat)) ((2147483648 : Nat)) (by first | decide | omega | (simp; omega)), .tst (decide ((0 : Int) ≤ n ∧ n ≤ (↑(List.length (bD b)) : Int))) true (by ((try simp only [sL] at *); (try unfold big at *); omega))] (by kernel_rfl)
end Go.Proofs.Ytcngafhpodeenaa

namespace Go.Proofs.Ytcngafhpodeenaa
open Go Go.Ev
set_option maxRecDepth 100000
abbrev llT (b : List Int) (p : List XS) : List D := [.lst .no 1 (bD b), .undef, .lst (.tok 0 0) 8 (xsL p), .undef, .undef, .undef, .undef, .undef, .undef, .undef, .undef, .undef, .undef, .undef, .undef, .undef, .undef, .undef, .undef, .undef, .undef, .undef, .undef, .undef, .undef, .undef]
abbrev llU (p : List XS) : List D := [.undef, .undef, .lst (.tok 0 0) 8 (xsL p), .undef, .undef, .undef, .undef, .undef, .undef, .undef, .undef, .undef, .undef, .undef, .undef, .undef, .undef, .undef, .undef, .undef, .undef, .undef, .undef, .undef, .undef, .undef]
abbrev llV : List D := [.undef, .undef, .lst .tight 0 [], .bool false, .undef, .undef, .undef, .undef, .undef, .undef, .undef, .undef, .undef, .undef, .undef, .undef, .undef, .undef, .undef, .undef, .undef, .undef, .undef, .undef, .undef, .undef]
theorem xsL_snoc' (p : List XS) (x : XS) : xsL p ++ [xsD x] = xsL (p ++ [x]) := by simp [xsL]
theorem ll_some : ∀ (m : Nat) (b : List Int) (p l : List XS), isB b → p.length + b.length ≤ 40000 → listM m b = some l →
  Rounds Try.prog (loopB Try.f32 0) 0 (llT b p) [.fam 0 8] (.exit 0) (llU (p ++ l)) [.fam 0 8]
 | 0, b, p, l, hb, hn, h => by cases h
 | m + 1, b, p, l, hb, hn, h => by
  by_cases h0 : b = []
  ·subst h0
   cases h
   rw [List.append_nil]
   exact Rounds.last (ll_end [] p (by simp [bD])) (fun h => by cases h)
  ·have hpos : 0 < b.length := List.length_pos_iff.2 h0
   cases hr : readM b with
   | none => rw [listM_bad h0 hr] at h; cases h
   | some x =>
    rw [listM_more h0 hr] at h
    cases h2 : listM m (b.drop (bytesXS x).length) with
    | none => rw [h2] at h; cases h
    | some r =>
     rw [h2] at h
     cases h
     have h3 := bytes_len x
     have h4 := (read_fits hr).2.length_le
     have hrd := read_any b hb
     rw [hr] at hrd
     have ih := ll_some m (b.drop (bytesXS x).length) (p ++ [x]) r (isB_drop hb _) (by simp only [List.length_append, List.length_cons, List.length_nil, List.length_drop]; omega) h2
     have := ll_in b p x ((bytesXS x).length : Int) (by omega) (by rw [len_bD]; omega) (by rw [xsL_len]; omega) (by rw [len_bD]; omega) hrd
     rw [Int.toNat_natCast, ← bD_drop, xsL_snoc'] at this
     rw [List.append_assoc, List.singleton_append] at ih
     exact Rounds.more this ih
theorem ll_none : ∀ (m : Nat) (b : List Int) (p : List XS), isB b → p.length + b.length ≤ 40000 → b.length < m → listM m b = none →
  Rounds Try.prog (loopB Try.f32 0) 0 (llT b p) [.fam 0 8] .ret llV []
 | 0, b, p, hb, hn, hm, h => by omega
 | m + 1, b, p, hb, hn, hm, h => by
  by_cases h0 : b = []
  ·subst h0; cases h
  ·have hpos : 0 < b.length := List.length_pos_iff.2 h0
   have hrd := read_any b hb
   cases hr : readM b with
   | none =>
    rw [hr] at hrd
    exact Rounds.last (ll_bad b p (by rw [len_bD]; omega) hrd) (fun h => by cases h)
   | some x =>
    rw [hr] at hrd
    rw [listM_more h0 hr] at h
    have h2 : listM m (b.drop (bytesXS x).length) = none := by
     cases h2 : listM m (b.drop (bytesXS x).length) with
     | none => rfl
     | some r => rw [h2] at h; cases h
    have h3 := bytes_len x
    have h4 := (read_fits hr).2.length_le
    have ih := ll_none m (b.drop (bytesXS x).length) (p ++ [x]) (isB_drop hb _) (by simp only [List.length_append, List.length_cons, List.length_nil, List.length_drop]; omega) (by rw [List.length_drop]; omega) h2
    have := ll_in b p x ((bytesXS x).length : Int) (by omega) (by rw [len_bD]; omega) (by rw [xsL_len]; omega) (by rw [len_bD]; omega) hrd
    rw [Int.toNat_natCast, ← bD_drop, xsL_snoc'] at this
    exact Rounds.more this ih
theorem ll_loop_some {b : List Int} (hb : isB b) (hn : b.length ≤ 40000) {l : List XS} (h : listM (b.length + 1) b = some l) : LoopRun Try.prog 0 (.loop (loopB Try.f32 0)) (llT b []) [.fam 0 8] (.exit 0) (llU l) [.fam 0 8] :=
 LoopRun.of_rounds (by decide) (by have := ll_some _ b [] l hb (by simpa using hn) h; rwa [List.nil_append] at this)
theorem ll_loop_none {b : List Int} (hb : isB b) (hn : b.length ≤ 40000) (h : listM (b.length + 1) b = none) : LoopRun Try.prog 0 (.loop (loopB Try.f32 0)) (llT b []) [.fam 0 8] .ret llV [] :=
 LoopRun.of_rounds (by decide) (ll_none _ b [] hb (by simpa using hn) (by omega) h)
end Go.Proofs.Ytcngafhpodeenaa

namespace Go.Proofs.Ytcngafhpodeenaa
open Go Go.Ev
set_option maxRecDepth 100000
set_option maxHeartbeats 8000000
theorem lm_0_ok (op w dst src base disp imm cc reg phys num to n : Int) (q : Bool) (hm : Ret Try.prog 56 [xD op w dst src base disp imm cc] (.bool q))  : Ret Try.prog 124 ([irD 0 op w dst src base disp imm cc reg phys num to, .int .i64 n]) (.bool (decide (reg = 0 ∧ phys = 0 ∧ num = 0 ∧ to = 0) && (q && !decide (op = 28 ∨ op = 29)))) := by
 by_cases h0 : reg = 0
 ·subst h0
  by_cases h1 : phys = 0
  ·subst h1
   by_cases h2 : num = 0
   ·subst h2
    by_cases h3 : to = 0
    ·subst h3
     cases q
     ·skip
      exact (Ret.of_eval (d := .bool false) mixed Try.func124 (by kernel_rfl) [tT, .flat _ _ flat_Ir, tC (eT (andT rfl (andT (beq_self_eq_true (op)) (andT (beq_self_eq_true (w)) (andT (beq_self_eq_true (dst)) (andT (beq_self_eq_true (src)) (andT (beq_self_eq_true (base)) (andT (beq_self_eq_true (disp)) (andT (beq_self_eq_true (imm)) (andT (beq_self_eq_true (cc)) (rfl : true = true))))))))))), tC (eT (andT rfl (andT (beq_self_eq_true (op)) (andT (beq_self_eq_true (w)) (andT (beq_self_eq_true (dst)) (andT (beq_self_eq_true (src)) (andT (beq_self_eq_true (base)) (andT (beq_self_eq_true (disp)) (andT (beq_self_eq_true (imm)) (andT (beq_self_eq_true (cc)) (rfl : true = true))))))))))), tC (eT (andT rfl (andT (beq_self_eq_true (op)) (andT (beq_self_eq_true (w)) (andT (beq_self_eq_true (dst)) (andT (beq_self_eq_true (src)) (andT (beq_self_eq_true (base)) (andT (beq_self_eq_true (disp)) (andT (beq_self_eq_true (imm)) (andT (beq_self_eq_true (cc)) (rfl : true = true))))))))))), .ret _ _ _ hm, tC (andT rfl (andT (beq_self_eq_true (op)) (andT (beq_self_eq_true (w)) (andT (beq_self_eq_true (dst)) (andT (beq_self_eq_true (src)) (andT (beq_self_eq_true (base)) (andT (beq_self_eq_true (disp)) (andT (beq_self_eq_true (imm)) (andT (beq_self_eq_true (cc)) (rfl : true = true)))))))))), tF, tF, tF, tF, tF] (by kernel_rfl)).to (by (try simp only [decide_eq_true_eq, decide_eq_false_iff_not, Bool.not_eq_true, beq_iff_eq, beq_eq_false_iff_ne, D.bool.injEq, wk, wkL, wkO, eqCells, eqCell, eq_irc] at *); first | (simp [wk, wkL, wkO, eqCells, eqCell, eq_irc, *]; done) | (simp [wk, wkL, wkO, eqCells, eqCell, eq_irc, *]; omega) | (rw [Bool.eq_iff_iff]; simp [wk, wkL, wkO, eqCells, eqCell, eq_irc, *]; done) | (rw [Bool.eq_iff_iff]; simp [wk, wkL, wkO, eqCells, eqCell, eq_irc, *]; omega) | (rw [Bool.eq_iff_iff]; simp [wk, wkL, wkO, eqCells, eqCell, eq_irc, *]; grind) | (subst_vars; rw [Bool.eq_iff_iff]; simp; grind))
     ·skip
      by_cases h4 : op = 28
      ·subst h4
       exact (Ret.of_eval (d := .bool false) mixed Try.func124 (by kernel_rfl) ([tT, .flat _ _ flat_Ir, tC (eT (andT rfl (andT (beq_self_eq_true ((28 : Int))) (andT (beq_self_eq_true (w)) (andT (beq_self_eq_true (dst)) (andT (beq_self_eq_true (src)) (andT (beq_self_eq_true (base)) (andT (beq_self_eq_true (disp)) (andT (beq_self_eq_true (imm)) (andT (beq_self_eq_true (cc)) (rfl : true = true))))))))))), tC (eT (andT rfl (andT (beq_self_eq_true ((28 : Int))) (andT (beq_self_eq_true (w)) (andT (beq_self_eq_true (dst)) (andT (beq_self_eq_true (src)) (andT (beq_self_eq_true (base)) (andT (beq_self_eq_true (disp)) (andT (beq_self_eq_true (imm)) (andT (beq_self_eq_true (cc)) (rfl : true = true))))))))))), tC (eT (andT rfl (andT (beq_self_eq_true ((28 : Int))) (andT (beq_self_eq_true (w)) (andT (beq_self_eq_true (dst)) (andT (beq_self_eq_true (src)) (andT (beq_self_eq_true (base)) (andT (beq_self_eq_true (disp)) (andT (beq_self_eq_true (imm)) (andT (beq_self_eq_true (cc)) (rfl : true = true))))))))))), .ret _ _ _ hm, tC (andT rfl (andT (beq_self_eq_true ((28 : Int))) (andT (beq_self_eq_true (w)) (andT (beq_self_eq_true (dst)) (andT (beq_self_eq_true (src)) (andT (beq_self_eq_true (base)) (andT (beq_self_eq_true (disp)) (andT (beq_self_eq_true (imm)) (andT (beq_self_eq_true (cc)) (rfl : true = true)))))))))), tT, tT, tT, .inl, tF, tF, tF, tT, tT] ++ [tT]) (by kernel_rfl)).to (by (try simp only [decide_eq_true_eq, decide_eq_false_iff_not, Bool.not_eq_true, beq_iff_eq, beq_eq_false_iff_ne, D.bool.injEq, wk, wkL, wkO, eqCells, eqCell, eq_irc] at *); first | (simp [wk, wkL, wkO, eqCells, eqCell, eq_irc, *]; done) | (simp [wk, wkL, wkO, eqCells, eqCell, eq_irc, *]; omega) | (rw [Bool.eq_iff_iff]; simp [wk, wkL, wkO, eqCells, eqCell, eq_irc, *]; done) | (rw [Bool.eq_iff_iff]; simp [wk, wkL, wkO, eqCells, eqCell, eq_irc, *]; omega) | (rw [Bool.eq_iff_iff]; simp [wk, wkL, wkO, eqCells, eqCell, eq_irc, *]; grind) | (subst_vars; rw [Bool.eq_iff_iff]; simp; grind))
      ·skip
       exact (Ret.of_eval (d := .bool !op == (29 : Int)) mixed Try.func124 (by kernel_rfl) ([tT, .flat _ _ flat_Ir, tC (eT (andT rfl (andT (beq_self_eq_true (op)) (andT (beq_self_eq_true (w)) (andT (beq_self_eq_true (dst)) (andT (beq_self_eq_true (src)) (andT (beq_self_eq_true (base)) (andT (beq_self_eq_true (disp)) (andT (beq_self_eq_true (imm)) (andT (beq_self_eq_true (cc)) (rfl : true = true))))))))))), tC (eT (andT rfl (andT (beq_self_eq_true (op)) (andT (beq_self_eq_true (w)) (andT (beq_self_eq_true (dst)) (andT (beq_self_eq_true (src)) (andT (beq_self_eq_true (base)) (andT (beq_self_eq_true (disp)) (andT (beq_self_eq_true (imm)) (andT (beq_self_eq_true (cc)) (rfl : true = true))))))))))), tC (eT (andT rfl (andT (beq_self_eq_true (op)) (andT (beq_self_eq_true (w)) (andT (beq_self_eq_true (dst)) (andT (beq_self_eq_true (src)) (andT (beq_self_eq_true (base)) (andT (beq_self_eq_true (disp)) (andT (beq_self_eq_true (imm)) (andT (beq_self_eq_true (cc)) (rfl : true = true))))))))))), .ret _ _ _ hm, tC (andT rfl (andT (beq_self_eq_true (op)) (andT (beq_self_eq_true (w)) (andT (beq_self_eq_true (dst)) (andT (beq_self_eq_true (src)) (andT (beq_self_eq_true (base)) (andT (beq_self_eq_true (disp)) (andT (beq_self_eq_true (imm)) (andT (beq_self_eq_true (cc)) (rfl : true = true)))))))))), tT, tT, tT, .inl, tC (eF (neOf h4)), tC (eF (neOf h4)), tC (eF (neOf h4)), tC (neOf h4), tT] ++ [tT]) (by kernel_rfl)).to (by (try simp only [decide_eq_true_eq, decide_eq_false_iff_not, Bool.not_eq_true, beq_iff_eq, beq_eq_false_iff_ne, D.bool.injEq, wk, wkL, wkO, eqCells, eqCell, eq_irc] at *); first | (simp [wk, wkL, wkO, eqCells, eqCell, eq_irc, *]; done) | (simp [wk, wkL, wkO, eqCells, eqCell, eq_irc, *]; omega) | (rw [Bool.eq_iff_iff]; simp [wk, wkL, wkO, eqCells, eqCell, eq_irc, *]; done) | (rw [Bool.eq_iff_iff]; simp [wk, wkL, wkO, eqCells, eqCell, eq_irc, *]; omega) | (rw [Bool.eq_iff_iff]; simp [wk, wkL, wkO, eqCells, eqCell, eq_irc, *]; grind) | (subst_vars; rw [Bool.eq_iff_iff]; simp; grind))
    ·skip
     exact (Ret.of_eval (d := .bool false) mixed Try.func124 (by kernel_rfl) [tT, .flat _ _ flat_Ir, tC (eT (andT rfl (andT (beq_self_eq_true (op)) (andT (beq_self_eq_true (w)) (andT (beq_self_eq_true (dst)) (andT (beq_self_eq_true (src)) (andT (beq_self_eq_true (base)) (andT (beq_self_eq_true (disp)) (andT (beq_self_eq_true (imm)) (andT (beq_self_eq_true (cc)) (andT rfl (andT rfl (andT rfl (andF (y := true) (neOf h3))))))))))))))), tC (eT (andT rfl (andT (beq_self_eq_true (op)) (andT (beq_self_eq_true (w)) (andT (beq_self_eq_true (dst)) (andT (beq_self_eq_true (src)) (andT (beq_self_eq_true (base)) (andT (beq_self_eq_true (disp)) (andT (beq_self_eq_true (imm)) (andT (beq_self_eq_true (cc)) (andT rfl (andT rfl (andT rfl (andF (y := true) (neOf h3))))))))))))))), tC (eT (andT rfl (andT (beq_self_eq_true (op)) (andT (beq_self_eq_true (w)) (andT (beq_self_eq_true (dst)) (andT (beq_self_eq_true (src)) (andT (beq_self_eq_true (base)) (andT (beq_self_eq_true (disp)) (andT (beq_self_eq_true (imm)) (andT (beq_self_eq_true (cc)) (andT rfl (andT rfl (andT rfl (andF (y := true) (neOf h3))))))))))))))), tC (andT rfl (andT (beq_self_eq_true (op)) (andT (beq_self_eq_true (w)) (andT (beq_self_eq_true (dst)) (andT (beq_self_eq_true (src)) (andT (beq_self_eq_true (base)) (andT (beq_self_eq_true (disp)) (andT (beq_self_eq_true (imm)) (andT (beq_self_eq_true (cc)) (andT rfl (andT rfl (andT rfl (andF (y := true) (neOf h3)))))))))))))), tF, tF, tF, tF, tF] (by kernel_rfl)).to (by (try simp only [decide_eq_true_eq, decide_eq_false_iff_not, Bool.not_eq_true, beq_iff_eq, beq_eq_false_iff_ne, D.bool.injEq, wk, wkL, wkO, eqCells, eqCell, eq_irc] at *); first | (simp [wk, wkL, wkO, eqCells, eqCell, eq_irc, *]; done) | (simp [wk, wkL, wkO, eqCells, eqCell, eq_irc, *]; omega) | (rw [Bool.eq_iff_iff]; simp [wk, wkL, wkO, eqCells, eqCell, eq_irc, *]; done) | (rw [Bool.eq_iff_iff]; simp [wk, wkL, wkO, eqCells, eqCell, eq_irc, *]; omega) | (rw [Bool.eq_iff_iff]; simp [wk, wkL, wkO, eqCells, eqCell, eq_irc, *]; grind) | (subst_vars; rw [Bool.eq_iff_iff]; simp; grind))
   ·skip
    exact (Ret.of_eval (d := .bool false) mixed Try.func124 (by kernel_rfl) [tT, .flat _ _ flat_Ir, tC (eT (andT rfl (andT (beq_self_eq_true (op)) (andT (beq_self_eq_true (w)) (andT (beq_self_eq_true (dst)) (andT (beq_self_eq_true (src)) (andT (beq_self_eq_true (base)) (andT (beq_self_eq_true (disp)) (andT (beq_self_eq_true (imm)) (andT (beq_self_eq_true (cc)) (andT rfl (andT rfl (andF (y := eqCells [.int .i64 to] [.int .i64 0]) (neOf h2)))))))))))))), tC (eT (andT rfl (andT (beq_self_eq_true (op)) (andT (beq_self_eq_true (w)) (andT (beq_self_eq_true (dst)) (andT (beq_self_eq_true (src)) (andT (beq_self_eq_true (base)) (andT (beq_self_eq_true (disp)) (andT (beq_self_eq_true (imm)) (andT (beq_self_eq_true (cc)) (andT rfl (andT rfl (andF (y := eqCells [.int .i64 to] [.int .i64 0]) (neOf h2)))))))))))))), tC (eT (andT rfl (andT (beq_self_eq_true (op)) (andT (beq_self_eq_true (w)) (andT (beq_self_eq_true (dst)) (andT (beq_self_eq_true (src)) (andT (beq_self_eq_true (base)) (andT (beq_self_eq_true (disp)) (andT (beq_self_eq_true (imm)) (andT (beq_self_eq_true (cc)) (andT rfl (andT rfl (andF (y := eqCells [.int .i64 to] [.int .i64 0]) (neOf h2)))))))))))))), tC (andT rfl (andT (beq_self_eq_true (op)) (andT (beq_self_eq_true (w)) (andT (beq_self_eq_true (dst)) (andT (beq_self_eq_true (src)) (andT (beq_self_eq_true (base)) (andT (beq_self_eq_true (disp)) (andT (beq_self_eq_true (imm)) (andT (beq_self_eq_true (cc)) (andT rfl (andT rfl (andF (y := eqCells [.int .i64 to] [.int .i64 0]) (neOf h2))))))))))))), tF, tF, tF, tF, tF] (by kernel_rfl)).to (by (try simp only [decide_eq_true_eq, decide_eq_false_iff_not, Bool.not_eq_true, beq_iff_eq, beq_eq_false_iff_ne, D.bool.injEq, wk, wkL, wkO, eqCells, eqCell, eq_irc] at *); first | (simp [wk, wkL, wkO, eqCells, eqCell, eq_irc, *]; done) | (simp [wk, wkL, wkO, eqCells, eqCell, eq_irc, *]; omega) | (rw [Bool.eq_iff_iff]; simp [wk, wkL, wkO, eqCells, eqCell, eq_irc, *]; done) | (rw [Bool.eq_iff_iff]; simp [wk, wkL, wkO, eqCells, eqCell, eq_irc, *]; omega) | (rw [Bool.eq_iff_iff]; simp [wk, wkL, wkO, eqCells, eqCell, eq_irc, *]; grind) | (subst_vars; rw [Bool.eq_iff_iff]; simp; grind))
  ·skip
   exact (Ret.of_eval (d := .bool false) mixed Try.func124 (by kernel_rfl) [tT, .flat _ _ flat_Ir, tC (eT (andT rfl (andT (beq_self_eq_true (op)) (andT (beq_self_eq_true (w)) (andT (beq_self_eq_true (dst)) (andT (beq_self_eq_true (src)) (andT (beq_self_eq_true (base)) (andT (beq_self_eq_true (disp)) (andT (beq_self_eq_true (imm)) (andT (beq_self_eq_true (cc)) (andT rfl (andF (y := eqCells [.int .i64 num, .int .i64 to] [.int .i64 0, .int .i64 0]) (neOf h1))))))))))))), tC (eT (andT rfl (andT (beq_self_eq_true (op)) (andT (beq_self_eq_true (w)) (andT (beq_self_eq_true (dst)) (andT (beq_self_eq_true (src)) (andT (beq_self_eq_true (base)) (andT (beq_self_eq_true (disp)) (andT (beq_self_eq_true (imm)) (andT (beq_self_eq_true (cc)) (andT rfl (andF (y := eqCells [.int .i64 num, .int .i64 to] [.int .i64 0, .int .i64 0]) (neOf h1))))))))))))), tC (eT (andT rfl (andT (beq_self_eq_true (op)) (andT (beq_self_eq_true (w)) (andT (beq_self_eq_true (dst)) (andT (beq_self_eq_true (src)) (andT (beq_self_eq_true (base)) (andT (beq_self_eq_true (disp)) (andT (beq_self_eq_true (imm)) (andT (beq_self_eq_true (cc)) (andT rfl (andF (y := eqCells [.int .i64 num, .int .i64 to] [.int .i64 0, .int .i64 0]) (neOf h1))))))))))))), tC (andT rfl (andT (beq_self_eq_true (op)) (andT (beq_self_eq_true (w)) (andT (beq_self_eq_true (dst)) (andT (beq_self_eq_true (src)) (andT (beq_self_eq_true (base)) (andT (beq_self_eq_true (disp)) (andT (beq_self_eq_true (imm)) (andT (beq_self_eq_true (cc)) (andT rfl (andF (y := eqCells [.int .i64 num, .int .i64 to] [.int .i64 0, .int .i64 0]) (neOf h1)))))))))))), tF, tF, tF, tF, tF] (by kernel_rfl)).to (by (try simp only [decide_eq_true_eq, decide_eq_false_iff_not, Bool.not_eq_true, beq_iff_eq, beq_eq_false_iff_ne, D.bool.injEq, wk, wkL, wkO, eqCells, eqCell, eq_irc] at *); first | (simp [wk, wkL, wkO, eqCells, eqCell, eq_irc, *]; done) | (simp [wk, wkL, wkO, eqCells, eqCell, eq_irc, *]; omega) | (rw [Bool.eq_iff_iff]; simp [wk, wkL, wkO, eqCells, eqCell, eq_irc, *]; done) | (rw [Bool.eq_iff_iff]; simp [wk, wkL, wkO, eqCells, eqCell, eq_irc, *]; omega) | (rw [Bool.eq_iff_iff]; simp [wk, wkL, wkO, eqCells, eqCell, eq_irc, *]; grind) | (subst_vars; rw [Bool.eq_iff_iff]; simp; grind))
 ·skip
  exact (Ret.of_eval (d := .bool false) mixed Try.func124 (by kernel_rfl) [tT, .flat _ _ flat_Ir, tC (eT (andT rfl (andT (beq_self_eq_true (op)) (andT (beq_self_eq_true (w)) (andT (beq_self_eq_true (dst)) (andT (beq_self_eq_true (src)) (andT (beq_self_eq_true (base)) (andT (beq_self_eq_true (disp)) (andT (beq_self_eq_true (imm)) (andT (beq_self_eq_true (cc)) (andF (y := eqCells [.int .i8 phys, .int .i64 num, .int .i64 to] [.int .i8 0, .int .i64 0, .int .i64 0]) (neOf h0)))))))))))), tC (eT (andT rfl (andT (beq_self_eq_true (op)) (andT (beq_self_eq_true (w)) (andT (beq_self_eq_true (dst)) (andT (beq_self_eq_true (src)) (andT (beq_self_eq_true (base)) (andT (beq_self_eq_true (disp)) (andT (beq_self_eq_true (imm)) (andT (beq_self_eq_true (cc)) (andF (y := eqCells [.int .i8 phys, .int .i64 num, .int .i64 to] [.int .i8 0, .int .i64 0, .int .i64 0]) (neOf h0)))))))))))), tC (eT (andT rfl (andT (beq_self_eq_true (op)) (andT (beq_self_eq_true (w)) (andT (beq_self_eq_true (dst)) (andT (beq_self_eq_true (src)) (andT (beq_self_eq_true (base)) (andT (beq_self_eq_true (disp)) (andT (beq_self_eq_true (imm)) (andT (beq_self_eq_true (cc)) (andF (y := eqCells [.int .i8 phys, .int .i64 num, .int .i64 to] [.int .i8 0, .int .i64 0, .int .i64 0]) (neOf h0)))))))))))), tC (andT rfl (andT (beq_self_eq_true (op)) (andT (beq_self_eq_true (w)) (andT (beq_self_eq_true (dst)) (andT (beq_self_eq_true (src)) (andT (beq_self_eq_true (base)) (andT (beq_self_eq_true (disp)) (andT (beq_self_eq_true (imm)) (andT (beq_self_eq_true (cc)) (andF (y := eqCells [.int .i8 phys, .int .i64 num, .int .i64 to] [.int .i8 0, .int .i64 0, .int .i64 0]) (neOf h0))))))))))), tF, tF, tF, tF, tF] (by kernel_rfl)).to (by (try simp only [decide_eq_true_eq, decide_eq_false_iff_not, Bool.not_eq_true, beq_iff_eq, beq_eq_false_iff_ne, D.bool.injEq, wk, wkL, wkO, eqCells, eqCell, eq_irc] at *); first | (simp [wk, wkL, wkO, eqCells, eqCell, eq_irc, *]; done) | (simp [wk, wkL, wkO, eqCells, eqCell, eq_irc, *]; omega) | (rw [Bool.eq_iff_iff]; simp [wk, wkL, wkO, eqCells, eqCell, eq_irc, *]; done) | (rw [Bool.eq_iff_iff]; simp [wk, wkL, wkO, eqCells, eqCell, eq_irc, *]; omega) | (rw [Bool.eq_iff_iff]; simp [wk, wkL, wkO, eqCells, eqCell, eq_irc, *]; grind) | (subst_vars; rw [Bool.eq_iff_iff]; simp; grind))
theorem lm_4_ok (op w dst src base disp imm cc reg phys num to n : Int) (q : Bool) (hm : Ret Try.prog 74 [irD 4 op w dst src base disp imm cc reg phys num to] (.bool q))  : Ret Try.prog 124 ([irD 4 op w dst src base disp imm cc reg phys num to, .int .i64 n]) (.bool (q && decide (to < n))) := by
 cases q
 ·skip
  exact (Ret.of_eval (d := .bool false) mixed Try.func124 (by kernel_rfl) [tF, tT, tT, .ret _ _ _ hm, tF, tF, tF, tF, tF] (by kernel_rfl)).to (by (try simp only [decide_eq_true_eq, decide_eq_false_iff_not, Bool.not_eq_true, beq_iff_eq, beq_eq_false_iff_ne, D.bool.injEq, wk, wkL, wkO, eqCells, eqCell, eq_irc] at *); first | (simp [wk, wkL, wkO, eqCells, eqCell, eq_irc, *]; done) | (simp [wk, wkL, wkO, eqCells, eqCell, eq_irc, *]; omega) | (rw [Bool.eq_iff_iff]; simp [wk, wkL, wkO, eqCells, eqCell, eq_irc, *]; done) | (rw [Bool.eq_iff_iff]; simp [wk, wkL, wkO, eqCells, eqCell, eq_irc, *]; omega) | (rw [Bool.eq_iff_iff]; simp [wk, wkL, wkO, eqCells, eqCell, eq_irc, *]; grind) | (subst_vars; rw [Bool.eq_iff_iff]; simp; grind))
 ·skip
  exact (Ret.of_eval (d := .bool (decide (to < n))) mixed Try.func124 (by kernel_rfl) [tF, tT, tT, .ret _ _ _ hm, tT, tT, tT, tT, tT] (by kernel_rfl)).to (by (try simp only [decide_eq_true_eq, decide_eq_false_iff_not, Bool.not_eq_true, beq_iff_eq, beq_eq_false_iff_ne, D.bool.injEq, wk, wkL, wkO, eqCells, eqCell, eq_irc] at *); first | (simp [wk, wkL, wkO, eqCells, eqCell, eq_irc, *]; done) | (simp [wk, wkL, wkO, eqCells, eqCell, eq_irc, *]; omega) | (rw [Bool.eq_iff_iff]; simp [wk, wkL, wkO, eqCells, eqCell, eq_irc, *]; done) | (rw [Bool.eq_iff_iff]; simp [wk, wkL, wkO, eqCells, eqCell, eq_irc, *]; omega) | (rw [Bool.eq_iff_iff]; simp [wk, wkL, wkO, eqCells, eqCell, eq_irc, *]; grind) | (subst_vars; rw [Bool.eq_iff_iff]; simp; grind))
theorem lm_5_ok (op w dst src base disp imm cc reg phys num to n : Int) (q : Bool) (hm : Ret Try.prog 74 [irD 5 op w dst src base disp imm cc reg phys num to] (.bool q))  : Ret Try.prog 124 ([irD 5 op w dst src base disp imm cc reg phys num to, .int .i64 n]) (.bool (q && decide (to < n))) := by
 cases q
 ·skip
  exact (Ret.of_eval (d := .bool false) mixed Try.func124 (by kernel_rfl) [tF, tF, tT, .ret _ _ _ hm, tF, tF, tF, tF, tF] (by kernel_rfl)).to (by (try simp only [decide_eq_true_eq, decide_eq_false_iff_not, Bool.not_eq_true, beq_iff_eq, beq_eq_false_iff_ne, D.bool.injEq, wk, wkL, wkO, eqCells, eqCell, eq_irc] at *); first | (simp [wk, wkL, wkO, eqCells, eqCell, eq_irc, *]; done) | (simp [wk, wkL, wkO, eqCells, eqCell, eq_irc, *]; omega) | (rw [Bool.eq_iff_iff]; simp [wk, wkL, wkO, eqCells, eqCell, eq_irc, *]; done) | (rw [Bool.eq_iff_iff]; simp [wk, wkL, wkO, eqCells, eqCell, eq_irc, *]; omega) | (rw [Bool.eq_iff_iff]; simp [wk, wkL, wkO, eqCells, eqCell, eq_irc, *]; grind) | (subst_vars; rw [Bool.eq_iff_iff]; simp; grind))
 ·skip
  exact (Ret.of_eval (d := .bool (decide (to < n))) mixed Try.func124 (by kernel_rfl) [tF, tF, tT, .ret _ _ _ hm, tT, tT, tT, tT, tT] (by kernel_rfl)).to (by (try simp only [decide_eq_true_eq, decide_eq_false_iff_not, Bool.not_eq_true, beq_iff_eq, beq_eq_false_iff_ne, D.bool.injEq, wk, wkL, wkO, eqCells, eqCell, eq_irc] at *); first | (simp [wk, wkL, wkO, eqCells, eqCell, eq_irc, *]; done) | (simp [wk, wkL, wkO, eqCells, eqCell, eq_irc, *]; omega) | (rw [Bool.eq_iff_iff]; simp [wk, wkL, wkO, eqCells, eqCell, eq_irc, *]; done) | (rw [Bool.eq_iff_iff]; simp [wk, wkL, wkO, eqCells, eqCell, eq_irc, *]; omega) | (rw [Bool.eq_iff_iff]; simp [wk, wkL, wkO, eqCells, eqCell, eq_irc, *]; grind) | (subst_vars; rw [Bool.eq_iff_iff]; simp; grind))
theorem lm_n_ok (kind op w dst src base disp imm cc reg phys num to n : Int) (k0 : kind ≠ 0) (k4 : kind ≠ 4) (k5 : kind ≠ 5)  : Ret Try.prog 124 ([irD kind op w dst src base disp imm cc reg phys num to, .int .i64 n]) (.bool false) := by
 exact (Ret.of_eval (d := .bool false) mixed Try.func124 (by kernel_rfl) [tC (by ((try simp only [sL] at *); (try unfold big at *); omega) : (kind == (0 : Int)) = false), tC (by ((try simp only [sL] at *); (try unfold big at *); omega) : (kind == (4 : Int)) = false), tC (by ((try simp only [sL] at *); (try unfold big at *); omega) : (kind == (5 : Int)) = false)] (by kernel_rfl)).to (by rfl)
theorem bk_end (l : List IrS) (p : List PaS) (b n i : Int) (i0 : 0 ≤ i) (hn : n = ((irL l).length : Int)) (hl : n ≤ 100000) (hp : ((paL p).length : Int) ≤ 100000) (h : n ≤ i)  : RoundRun Try.prog (loopB Try.f126 0) ⟨[], [], [(4, 10)]⟩ 0 ((.lst .no 13 (irL l)) :: (.int .i64 b) :: (D.undef) :: (D.undef) :: (.lst (Own.tok (0 : Nat) (0 : Nat)) (10 : Nat) (paL p)) :: (D.undef) :: (D.undef) :: (.lst .no 13 (irL l)) :: (.int .i64 n) :: (.int .i64 i) :: (un 53)) [Ob.fam (0 : Nat) (10 : Nat)] (Ex.exit (0 : Nat)) (un 4 ++ (.lst (Own.tok (0 : Nat) (0 : Nat)) (10 : Nat) (paL p)) :: (un 58)) ([Ob.fam (0 : Nat) (10 : Nat)]) := by
 exact RoundRun.of_eval mixed [tC (by ((try simp only [sL] at *); (try unfold big at *); omega) : (decide (i < n)) = false)] (by kernel_rfl)
theorem bk_x (l : List IrS) (p : List PaS) (b n i : Int) (i0 : 0 ≤ i) (hn : n = ((irL l).length : Int)) (hl : n ≤ 100000) (hp : ((paL p).length : Int) ≤ 100000) (h : i < n) (s : IrS) (hx : (irL l)[Int.toNat i]? = some (IrS.d s)) (hk : s.kind = 0)  : RoundRun Try.prog (loopB Try.f126 0) ⟨[0, 1, 7, 8, 9], [], [(4, 10)]⟩ 0 ((.lst .no 13 (irL l)) :: (.int .i64 b) :: (D.undef) :: (D.undef) :: (.lst (Own.tok (0 : Nat) (0 : Nat)) (10 : Nat) (paL p)) :: (D.undef) :: (D.undef) :: (.lst .no 13 (irL l)) :: (.int .i64 n) :: (.int .i64 i) :: (un 53)) [Ob.fam (0 : Nat) (10 : Nat)] (Ex.norm) ((.lst .no 13 (irL l)) :: (.int .i64 b) :: (D.undef) :: (D.undef) :: (.lst (Own.tok (0 : Nat) (0 : Nat)) (10 : Nat) (paL p ++ [PaS.d (inP (IrS.x s))])) :: (D.undef) :: (D.undef) :: (.lst .no 13 (irL l)) :: (.int .i64 n) :: (.int .i64 (IntKind.wrap IntKind.i64 (i + (1 : Int)))) :: (un 53)) ([.fam 0 10]) := by
 exact RoundRun.of_eval mixed [tC (by ((try simp only [sL] at *); (try unfold big at *); omega) : (decide (i < n)) = true), tC (v := true) (leL 0 (decide_eq_false (Int.not_lt.2 i0))), .get _ _ _ hx, tC (eqI 0 true (by ((try simp only [sL] at *); (try unfold big at *); omega) : IrS.kind s = (0 : Int))), .len (List.length (paL p) + (1 : Nat)) ((2147483648 : Nat)) (by first | decide | omega | (simp; omega))] (by kernel_rfl)
theorem bk_j (l : List IrS) (p : List PaS) (b n i : Int) (i0 : 0 ≤ i) (hn : n = ((irL l).length : Int)) (hl : n ≤ 100000) (hp : ((paL p).length : Int) ≤ 100000) (h : i < n) (s : IrS) (hx : (irL l)[Int.toNat i]? = some (IrS.d s)) (hk : s.kind = 4)  : RoundRun Try.prog (loopB Try.f126 0) ⟨[0, 1, 7, 8, 9], [], [(4, 10)]⟩ 0 ((.lst .no 13 (irL l)) :: (.int .i64 b) :: (D.undef) :: (D.undef) :: (.lst (Own.tok (0 : Nat) (0 : Nat)) (10 : Nat) (paL p)) :: (D.undef) :: (D.undef) :: (.lst .no 13 (irL l)) :: (.int .i64 n) :: (.int .i64 i) :: (un 53)) [Ob.fam (0 : Nat) (10 : Nat)] (Ex.norm) ((.lst .no 13 (irL l)) :: (.int .i64 b) :: (D.undef) :: (D.undef) :: (.lst (Own.tok (0 : Nat) (0 : Nat)) (10 : Nat) (paL p ++ [PaS.d (jcP (IrS.cc s) (IrS.to s))])) :: (D.undef) :: (D.undef) :: (.lst .no 13 (irL l)) :: (.int .i64 n) :: (.int .i64 (IntKind.wrap IntKind.i64 (i + (1 : Int)))) :: (un 53)) ([.fam 0 10]) := by
 exact RoundRun.of_eval mixed [tC (by ((try simp only [sL] at *); (try unfold big at *); omega) : (decide (i < n)) = true), tC (v := true) (leL 0 (decide_eq_false (Int.not_lt.2 i0))), .get _ _ _ hx, tC (by ((try simp only [sL] at *); (try unfold big at *); omega) : (IrS.kind s == (0 : Int)) = false), tC (eqI 4 true (by ((try simp only [sL] at *); (try unfold big at *); omega) : IrS.kind s = (4 : Int))), .len (List.length (paL p) + (1 : Nat)) ((2147483648 : Nat)) (by first | decide | omega | (simp; omega))] (by kernel_rfl)
theorem bk_g0 (l : List IrS) (p : List PaS) (b n i : Int) (i0 : 0 ≤ i) (hn : n = ((irL l).length : Int)) (hl : n ≤ 100000) (hp : ((paL p).length : Int) ≤ 100000) (h : i < n) (s : IrS) (hx : (irL l)[Int.toNat i]? = some (IrS.d s)) (hk : s.kind = 5) (hg : i = 0)  : RoundRun Try.prog (loopB Try.f126 0) ⟨[0, 1, 7, 8, 9], [], [(4, 10)]⟩ 0 ((.lst .no 13 (irL l)) :: (.int .i64 b) :: (D.undef) :: (D.undef) :: (.lst (Own.tok (0 : Nat) (0 : Nat)) (10 : Nat) (paL p)) :: (D.undef) :: (D.undef) :: (.lst .no 13 (irL l)) :: (.int .i64 n) :: (.int .i64 i) :: (un 53)) [Ob.fam (0 : Nat) (10 : Nat)] (Ex.norm) ((.lst .no 13 (irL l)) :: (.int .i64 b) :: (D.undef) :: (D.undef) :: (.lst (Own.tok (0 : Nat) (0 : Nat)) (10 : Nat) (paL p ++ [PaS.d (jmP (IrS.to s))])) :: (D.undef) :: (D.undef) :: (.lst .no 13 (irL l)) :: (.int .i64 n) :: (.int .i64 (IntKind.wrap IntKind.i64 (i + (1 : Int)))) :: (un 53)) ([.fam 0 10]) := by
 exact RoundRun.of_eval mixed ([tC (by ((try simp only [sL] at *); (try unfold big at *); omega) : (decide (i < n)) = true), tC (v := true) (leL 0 (decide_eq_false (Int.not_lt.2 i0))), .get _ _ _ hx, tC (by ((try simp only [sL] at *); (try unfold big at *); omega) : (IrS.kind s == (0 : Int)) = false), tC (by ((try simp only [sL] at *); (try unfold big at *); omega) : (IrS.kind s == (4 : Int)) = false), tC (eF (eqI 0 true (by ((try simp only [sL] at *); (try unfold big at *); omega) : i = (0 : Int)))), tC (eF (eqI 0 true (by ((try simp only [sL] at *); (try unfold big at *); omega) : i = (0 : Int)))), tC (eF (eqI 0 true (by ((try simp only [sL] at *); (try unfold big at *); omega) : i = (0 : Int)))), tC (eF (eqI 0 true (by ((try simp only [sL] at *); (try unfold big at *); omega) : i = (0 : Int)))), tC (eF (eqI 0 true (by ((try simp only [sL] at *); (try unfold big at *); omega) : i = (0 : Int)))), tC (eqI 0 true (by ((try simp only [sL] at *); (try unfold big at *); omega) : i = (0 : Int))), tF, tF, tF, tF, tF] ++ [tT, tT, .len (List.length (paL p) + (1 : Nat)) ((2147483648 : Nat)) (by first | decide | omega | (simp; omega))]) (by kernel_rfl)
theorem bk_g1 (l : List IrS) (p : List PaS) (b n i : Int) (i0 : 0 ≤ i) (hn : n = ((irL l).length : Int)) (hl : n ≤ 100000) (hp : ((paL p).length : Int) ≤ 100000) (h : i < n) (s : IrS) (hx : (irL l)[Int.toNat i]? = some (IrS.d s)) (hk : s.kind = 5) (hg : i ≠ 0) (hh : i + 1 < n)  : RoundRun Try.prog (loopB Try.f126 0) ⟨[0, 1, 7, 8, 9], [], [(4, 10)]⟩ 0 ((.lst .no 13 (irL l)) :: (.int .i64 b) :: (D.undef) :: (D.undef) :: (.lst (Own.tok (0 : Nat) (0 : Nat)) (10 : Nat) (paL p)) :: (D.undef) :: (D.undef) :: (.lst .no 13 (irL l)) :: (.int .i64 n) :: (.int .i64 i) :: (un 53)) [Ob.fam (0 : Nat) (10 : Nat)] (Ex.norm) ((.lst .no 13 (irL l)) :: (.int .i64 b) :: (D.undef) :: (D.undef) :: (.lst (Own.tok (0 : Nat) (0 : Nat)) (10 : Nat) (paL p ++ [PaS.d (jmP (IrS.to s))])) :: (D.undef) :: (D.undef) :: (.lst .no 13 (irL l)) :: (.int .i64 n) :: (.int .i64 (IntKind.wrap IntKind.i64 (i + (1 : Int)))) :: (un 53)) ([.fam 0 10]) := by
 exact RoundRun.of_eval mixed ([tC (by ((try simp only [sL] at *); (try unfold big at *); omega) : (decide (i < n)) = true), tC (v := true) (leL 0 (decide_eq_false (Int.not_lt.2 i0))), .get _ _ _ hx, tC (by ((try simp only [sL] at *); (try unfold big at *); omega) : (IrS.kind s == (0 : Int)) = false), tC (by ((try simp only [sL] at *); (try unfold big at *); omega) : (IrS.kind s == (4 : Int)) = false), tC (eF (by ((try simp only [sL] at *); (try unfold big at *); omega) : (i == (0 : Int)) = false)), tC (eF (by ((try simp only [sL] at *); (try unfold big at *); omega) : (i == (0 : Int)) = false)), tC (eF (by ((try simp only [sL] at *); (try unfold big at *); omega) : (i == (0 : Int)) = false)), tC (eF (by ((try simp only [sL] at *); (try unfold big at *); omega) : (i == (0 : Int)) = false)), tC (eF (by ((try simp only [sL] at *); (try unfold big at *); omega) : (i == (0 : Int)) = false)), tC (by ((try simp only [sL] at *); (try unfold big at *); omega) : (i == (0 : Int)) = false), tC (eF (by ((try simp only [sL] at *); (try unfold big at *); omega) : (decide (i < IntKind.wrap IntKind.i64 ((↑(List.length (irL l)) : Int) - (1 : Int)))) = true)), tC (eF (by ((try simp only [sL] at *); (try unfold big at *); omega) : (decide (i < IntKind.wrap IntKind.i64 ((↑(List.length (irL l)) : Int) - (1 : Int)))) = true)), tC (eF (by ((try simp only [sL] at *); (try unfold big at *); omega) : (decide (i < IntKind.wrap IntKind.i64 ((↑(List.length (irL l)) : Int) - (1 : Int)))) = true)), tC (eF (by ((try simp only [sL] at *); (try unfold big at *); omega) : (decide (i < IntKind.wrap IntKind.i64 ((↑(List.length (irL l)) : Int) - (1 : Int)))) = true)), tC (eF (by ((try simp only [sL] at *); (try unfold big at *); omega) : (decide (i < IntKind.wrap IntKind.i64 ((↑(List.length (irL l)) : Int) - (1 : Int)))) = true))] ++ [tC (by ((try simp only [sL] at *); (try unfold big at *); omega) : (decide (i < IntKind.wrap IntKind.i64 ((↑(List.length (irL l)) : Int) - (1 : Int)))) = true), tT, .len (List.length (paL p) + (1 : Nat)) ((2147483648 : Nat)) (by first | decide | omega | (simp; omega))]) (by kernel_rfl)
theorem bk_g2 (l : List IrS) (p : List PaS) (b n i : Int) (i0 : 0 ≤ i) (hn : n = ((irL l).length : Int)) (hl : n ≤ 100000) (hp : ((paL p).length : Int) ≤ 100000) (h : i < n) (s : IrS) (hx : (irL l)[Int.toNat i]? = some (IrS.d s)) (hk : s.kind = 5) (hg : i ≠ 0) (hh : n ≤ i + 1) (ht : s.to ≠ IntKind.i64.wrap (b + 1))  : RoundRun Try.prog (loopB Try.f126 0) ⟨[0, 1, 7, 8, 9], [], [(4, 10)]⟩ 0 ((.lst .no 13 (irL l)) :: (.int .i64 b) :: (D.undef) :: (D.undef) :: (.lst (Own.tok (0 : Nat) (0 : Nat)) (10 : Nat) (paL p)) :: (D.undef) :: (D.undef) :: (.lst .no 13 (irL l)) :: (.int .i64 n) :: (.int .i64 i) :: (un 53)) [Ob.fam (0 : Nat) (10 : Nat)] (Ex.norm) ((.lst .no 13 (irL l)) :: (.int .i64 b) :: (D.undef) :: (D.undef) :: (.lst (Own.tok (0 : Nat) (0 : Nat)) (10 : Nat) (paL p ++ [PaS.d (jmP (IrS.to s))])) :: (D.undef) :: (D.undef) :: (.lst .no 13 (irL l)) :: (.int .i64 n) :: (.int .i64 (IntKind.wrap IntKind.i64 (i + (1 : Int)))) :: (un 53)) ([.fam 0 10]) := by
 exact RoundRun.of_eval mixed ([tC (by ((try simp only [sL] at *); (try unfold big at *); omega) : (decide (i < n)) = true), tC (v := true) (leL 0 (decide_eq_false (Int.not_lt.2 i0))), .get _ _ _ hx, tC (by ((try simp only [sL] at *); (try unfold big at *); omega) : (IrS.kind s == (0 : Int)) = false), tC (by ((try simp only [sL] at *); (try unfold big at *); omega) : (IrS.kind s == (4 : Int)) = false), tC (eF (by ((try simp only [sL] at *); (try unfold big at *); omega) : (i == (0 : Int)) = false)), tC (eF (by ((try simp only [sL] at *); (try unfold big at *); omega) : (i == (0 : Int)) = false)), tC (eF (by ((try simp only [sL] at *); (try unfold big at *); omega) : (i == (0 : Int)) = false)), tC (eF (by ((try simp only [sL] at *); (try unfold big at *); omega) : (i == (0 : Int)) = false)), tC (eF (by ((try simp only [sL] at *); (try unfold big at *); omega) : (i == (0 : Int)) = false)), tC (by ((try simp only [sL] at *); (try unfold big at *); omega) : (i == (0 : Int)) = false), tC (eF (by ((try simp only [sL] at *); (try unfold big at *); omega) : (decide (i < IntKind.wrap IntKind.i64 ((↑(List.length (irL l)) : Int) - (1 : Int)))) = false)), tC (eF (by ((try simp only [sL] at *); (try unfold big at *); omega) : (decide (i < IntKind.wrap IntKind.i64 ((↑(List.length (irL l)) : Int) - (1 : Int)))) = false)), tC (eF (by ((try simp only [sL] at *); (try unfold big at *); omega) : (decide (i < IntKind.wrap IntKind.i64 ((↑(List.length (irL l)) : Int) - (1 : Int)))) = false)), tC (eF (by ((try simp only [sL] at *); (try unfold big at *); omega) : (decide (i < IntKind.wrap IntKind.i64 ((↑(List.length (irL l)) : Int) - (1 : Int)))) = false)), tC (eF (by ((try simp only [sL] at *); (try unfold big at *); omega) : (decide (i < IntKind.wrap IntKind.i64 ((↑(List.length (irL l)) : Int) - (1 : Int)))) = false))] ++ [tC (by ((try simp only [sL] at *); (try unfold big at *); omega) : (decide (i < IntKind.wrap IntKind.i64 ((↑(List.length (irL l)) : Int) - (1 : Int)))) = false), tC (nt (by ((try simp only [sL] at *); (try unfold big at *); omega) : (IrS.to s == IntKind.wrap IntKind.i64 (b + (1 : Int))) = false)), .len (List.length (paL p) + (1 : Nat)) ((2147483648 : Nat)) (by first | decide | omega | (simp; omega))]) (by kernel_rfl)
theorem bk_s (l : List IrS) (p : List PaS) (b n i : Int) (i0 : 0 ≤ i) (hn : n = ((irL l).length : Int)) (hl : n ≤ 100000) (hp : ((paL p).length : Int) ≤ 100000) (h : i < n) (s : IrS) (hx : (irL l)[Int.toNat i]? = some (IrS.d s)) (hk : s.kind = 5) (hg : i ≠ 0) (hh : n ≤ i + 1) (ht : s.to = IntKind.i64.wrap (b + 1))  : RoundRun Try.prog (loopB Try.f126 0) ⟨[0, 1, 7, 8, 9], [], [(4, 10)]⟩ 0 ((.lst .no 13 (irL l)) :: (.int .i64 b) :: (D.undef) :: (D.undef) :: (.lst (Own.tok (0 : Nat) (0 : Nat)) (10 : Nat) (paL p)) :: (D.undef) :: (D.undef) :: (.lst .no 13 (irL l)) :: (.int .i64 n) :: (.int .i64 i) :: (un 53)) [Ob.fam (0 : Nat) (10 : Nat)] (Ex.norm) ((.lst .no 13 (irL l)) :: (.int .i64 b) :: (D.undef) :: (D.undef) :: (.lst (Own.tok (0 : Nat) (0 : Nat)) (10 : Nat) (paL p)) :: (D.undef) :: (D.undef) :: (.lst .no 13 (irL l)) :: (.int .i64 n) :: (.int .i64 (IntKind.wrap IntKind.i64 (i + (1 : Int)))) :: (un 53)) ([.fam 0 10]) := by
 exact RoundRun.of_eval mixed ([tC (by ((try simp only [sL] at *); (try unfold big at *); omega) : (decide (i < n)) = true), tC (v := true) (leL 0 (decide_eq_false (Int.not_lt.2 i0))), .get _ _ _ hx, tC (by ((try simp only [sL] at *); (try unfold big at *); omega) : (IrS.kind s == (0 : Int)) = false), tC (by ((try simp only [sL] at *); (try unfold big at *); omega) : (IrS.kind s == (4 : Int)) = false), tC (eF (by ((try simp only [sL] at *); (try unfold big at *); omega) : (i == (0 : Int)) = false)), tC (eF (by ((try simp only [sL] at *); (try unfold big at *); omega) : (i == (0 : Int)) = false)), tC (eF (by ((try simp only [sL] at *); (try unfold big at *); omega) : (i == (0 : Int)) = false)), tC (eF (by ((try simp only [sL] at *); (try unfold big at *); omega) : (i == (0 : Int)) = false)), tC (eF (by ((try simp only [sL] at *); (try unfold big at *); omega) : (i == (0 : Int)) = false)), tC (by ((try simp only [sL] at *); (try unfold big at *); omega) : (i == (0 : Int)) = false), tC (eF (by ((try simp only [sL] at *); (try unfold big at *); omega) : (decide (i < IntKind.wrap IntKind.i64 ((↑(List.length (irL l)) : Int) - (1 : Int)))) = false)), tC (eF (by ((try simp only [sL] at *); (try unfold big at *); omega) : (decide (i < IntKind.wrap IntKind.i64 ((↑(List.length (irL l)) : Int) - (1 : Int)))) = false)), tC (eF (by ((try simp only [sL] at *); (try unfold big at *); omega) : (decide (i < IntKind.wrap IntKind.i64 ((↑(List.length (irL l)) : Int) - (1 : Int)))) = false)), tC (eF (by ((try simp only [sL] at *); (try unfold big at *); omega) : (decide (i < IntKind.wrap IntKind.i64 ((↑(List.length (irL l)) : Int) - (1 : Int)))) = false)), tC (eF (by ((try simp only [sL] at *); (try unfold big at *); omega) : (decide (i < IntKind.wrap IntKind.i64 ((↑(List.length (irL l)) : Int) - (1 : Int)))) = false))] ++ [tC (by ((try simp only [sL] at *); (try unfold big at *); omega) : (decide (i < IntKind.wrap IntKind.i64 ((↑(List.length (irL l)) : Int) - (1 : Int)))) = false), tC (nt (by ((try simp only [sL] at *); (try unfold big at *); omega) : (IrS.to s == IntKind.wrap IntKind.i64 (b + (1 : Int))) = true))]) (by kernel_rfl)
end Go.Proofs.Ytcngafhpodeenaa

namespace Go.Proofs.Ytcngafhpodeenaa
open Go Go.Ev
set_option maxRecDepth 100000
set_option maxHeartbeats 8000000
theorem fmay_0_ok  : Ret Try.prog 170 ([.int .i8 0]) (.bool false) := by
 exact (Ret.of_eval (d := .bool false) mixed Try.func170 (by kernel_rfl) ([tT, tT, tT, tT, .inl, .inl, .inl, .inl, .inl, .inl, .inl, .inl, .inl, .inl, tT, tT] ++ [tT, .get ([D.nilf, D.nilf, D.fn (Fn.func 193) [] [], D.fn (Fn.func 199) [] [D.ptr false 1 0], D.fn (Fn.func 194) [] [], D.fn (Fn.func 199) [] [D.ptr false 2 0], D.fn (Fn.func 197) [] [D.ptr false 3 0, D.ptr false 4 0], D.fn (Fn.func 199) [] [D.ptr false 7 0], D.nilf, D.nilf, D.nilf, D.nilf, D.fn (Fn.func 195) [] [], D.fn (Fn.func 199) [] [D.ptr false 8 0], D.fn (Fn.func 197) [] [D.ptr false 9 0, D.ptr false 10 0], D.fn (Fn.func 199) [] [D.ptr false 13 0]]) 0 (D.nilf) rfl, tT, tT]) (by kernel_rfl)).to (by ((simp only [wk, wkL, and_true]; repeat' (first | rfl | exact True.intro | apply And.intro)); done))
theorem fmay_1_ok  : Ret Try.prog 170 ([.int .i8 1]) (.bool false) := by
 exact (Ret.of_eval (d := .bool false) mixed Try.func170 (by kernel_rfl) ([tT, tT, tT, tT, .inl, .inl, .inl, .inl, .inl, .inl, .inl, .inl, .inl, .inl, tT, tT] ++ [tT, .get ([D.nilf, D.nilf, D.fn (Fn.func 193) [] [], D.fn (Fn.func 199) [] [D.ptr false 1 0], D.fn (Fn.func 194) [] [], D.fn (Fn.func 199) [] [D.ptr false 2 0], D.fn (Fn.func 197) [] [D.ptr false 3 0, D.ptr false 4 0], D.fn (Fn.func 199) [] [D.ptr false 7 0], D.nilf, D.nilf, D.nilf, D.nilf, D.fn (Fn.func 195) [] [], D.fn (Fn.func 199) [] [D.ptr false 8 0], D.fn (Fn.func 197) [] [D.ptr false 9 0, D.ptr false 10 0], D.fn (Fn.func 199) [] [D.ptr false 13 0]]) 1 (D.nilf) rfl, tT, tT]) (by kernel_rfl)).to (by ((simp only [wk, wkL, and_true]; repeat' (first | rfl | exact True.intro | apply And.intro)); done))
theorem fmay_2_ok  : Ret Try.prog 170 ([.int .i8 2]) (.bool true) := by
 exact (Ret.of_eval (d := .bool true) mixed Try.func170 (by kernel_rfl) ([tT, tT, tT, tT, .inl, .inl, .inl, .inl, .inl, .inl, .inl, .inl, .inl, .inl, tT, tT] ++ [tT, .get ([D.nilf, D.nilf, D.fn (Fn.func 193) [] [], D.fn (Fn.func 199) [] [D.ptr false 1 0], D.fn (Fn.func 194) [] [], D.fn (Fn.func 199) [] [D.ptr false 2 0], D.fn (Fn.func 197) [] [D.ptr false 3 0, D.ptr false 4 0], D.fn (Fn.func 199) [] [D.ptr false 7 0], D.nilf, D.nilf, D.nilf, D.nilf, D.fn (Fn.func 195) [] [], D.fn (Fn.func 199) [] [D.ptr false 8 0], D.fn (Fn.func 197) [] [D.ptr false 9 0, D.ptr false 10 0], D.fn (Fn.func 199) [] [D.ptr false 13 0]]) 2 (D.fn (Fn.func 193) [] []) rfl, tT, tT]) (by kernel_rfl)).to (by ((simp only [wk, wkL, and_true]; repeat' (first | rfl | exact True.intro | apply And.intro)); done))
theorem fmay_3_ok  : Ret Try.prog 170 ([.int .i8 3]) (.bool true) := by
 exact (Ret.of_eval (d := .bool true) mixed Try.func170 (by kernel_rfl) ([tT, tT, tT, tT, .inl, .inl, .inl, .inl, .inl, .inl, .inl, .inl, .inl, .inl, tT, tT] ++ [tT, .get ([D.nilf, D.nilf, D.fn (Fn.func 193) [] [], D.fn (Fn.func 199) [] [D.ptr false 1 0], D.fn (Fn.func 194) [] [], D.fn (Fn.func 199) [] [D.ptr false 2 0], D.fn (Fn.func 197) [] [D.ptr false 3 0, D.ptr false 4 0], D.fn (Fn.func 199) [] [D.ptr false 7 0], D.nilf, D.nilf, D.nilf, D.nilf, D.fn (Fn.func 195) [] [], D.fn (Fn.func 199) [] [D.ptr false 8 0], D.fn (Fn.func 197) [] [D.ptr false 9 0, D.ptr false 10 0], D.fn (Fn.func 199) [] [D.ptr false 13 0]]) 3 (D.fn (Fn.func 199) [] [D.ptr false 1 0]) rfl, tT, tT]) (by kernel_rfl)).to (by ((simp only [wk, wkL, and_true]; repeat' (first | rfl | exact True.intro | apply And.intro)); done))
theorem fmay_4_ok  : Ret Try.prog 170 ([.int .i8 4]) (.bool true) := by
 exact (Ret.of_eval (d := .bool true) mixed Try.func170 (by kernel_rfl) ([tT, tT, tT, tT, .inl, .inl, .inl, .inl, .inl, .inl, .inl, .inl, .inl, .inl, tT, tT] ++ [tT, .get ([D.nilf, D.nilf, D.fn (Fn.func 193) [] [], D.fn (Fn.func 199) [] [D.ptr false 1 0], D.fn (Fn.func 194) [] [], D.fn (Fn.func 199) [] [D.ptr false 2 0], D.fn (Fn.func 197) [] [D.ptr false 3 0, D.ptr false 4 0], D.fn (Fn.func 199) [] [D.ptr false 7 0], D.nilf, D.nilf, D.nilf, D.nilf, D.fn (Fn.func 195) [] [], D.fn (Fn.func 199) [] [D.ptr false 8 0], D.fn (Fn.func 197) [] [D.ptr false 9 0, D.ptr false 10 0], D.fn (Fn.func 199) [] [D.ptr false 13 0]]) 4 (D.fn (Fn.func 194) [] []) rfl, tT, tT]) (by kernel_rfl)).to (by ((simp only [wk, wkL, and_true]; repeat' (first | rfl | exact True.intro | apply And.intro)); done))
theorem fmay_5_ok  : Ret Try.prog 170 ([.int .i8 5]) (.bool true) := by
 exact (Ret.of_eval (d := .bool true) mixed Try.func170 (by kernel_rfl) ([tT, tT, tT, tT, .inl, .inl, .inl, .inl, .inl, .inl, .inl, .inl, .inl, .inl, tT, tT] ++ [tT, .get ([D.nilf, D.nilf, D.fn (Fn.func 193) [] [], D.fn (Fn.func 199) [] [D.ptr false 1 0], D.fn (Fn.func 194) [] [], D.fn (Fn.func 199) [] [D.ptr false 2 0], D.fn (Fn.func 197) [] [D.ptr false 3 0, D.ptr false 4 0], D.fn (Fn.func 199) [] [D.ptr false 7 0], D.nilf, D.nilf, D.nilf, D.nilf, D.fn (Fn.func 195) [] [], D.fn (Fn.func 199) [] [D.ptr false 8 0], D.fn (Fn.func 197) [] [D.ptr false 9 0, D.ptr false 10 0], D.fn (Fn.func 199) [] [D.ptr false 13 0]]) 5 (D.fn (Fn.func 199) [] [D.ptr false 2 0]) rfl, tT, tT]) (by kernel_rfl)).to (by ((simp only [wk, wkL, and_true]; repeat' (first | rfl | exact True.intro | apply And.intro)); done))
theorem fmay_6_ok  : Ret Try.prog 170 ([.int .i8 6]) (.bool true) := by
 exact (Ret.of_eval (d := .bool true) mixed Try.func170 (by kernel_rfl) ([tT, tT, tT, tT, .inl, .inl, .inl, .inl, .inl, .inl, .inl, .inl, .inl, .inl, tT, tT] ++ [tT, .get ([D.nilf, D.nilf, D.fn (Fn.func 193) [] [], D.fn (Fn.func 199) [] [D.ptr false 1 0], D.fn (Fn.func 194) [] [], D.fn (Fn.func 199) [] [D.ptr false 2 0], D.fn (Fn.func 197) [] [D.ptr false 3 0, D.ptr false 4 0], D.fn (Fn.func 199) [] [D.ptr false 7 0], D.nilf, D.nilf, D.nilf, D.nilf, D.fn (Fn.func 195) [] [], D.fn (Fn.func 199) [] [D.ptr false 8 0], D.fn (Fn.func 197) [] [D.ptr false 9 0, D.ptr false 10 0], D.fn (Fn.func 199) [] [D.ptr false 13 0]]) 6 (D.fn (Fn.func 197) [] [D.ptr false 3 0, D.ptr false 4 0]) rfl, tT, tT]) (by kernel_rfl)).to (by ((simp only [wk, wkL, and_true]; repeat' (first | rfl | exact True.intro | apply And.intro)); done))
theorem fmay_7_ok  : Ret Try.prog 170 ([.int .i8 7]) (.bool true) := by
 exact (Ret.of_eval (d := .bool true) mixed Try.func170 (by kernel_rfl) ([tT, tT, tT, tT, .inl, .inl, .inl, .inl, .inl, .inl, .inl, .inl, .inl, .inl, tT, tT] ++ [tT, .get ([D.nilf, D.nilf, D.fn (Fn.func 193) [] [], D.fn (Fn.func 199) [] [D.ptr false 1 0], D.fn (Fn.func 194) [] [], D.fn (Fn.func 199) [] [D.ptr false 2 0], D.fn (Fn.func 197) [] [D.ptr false 3 0, D.ptr false 4 0], D.fn (Fn.func 199) [] [D.ptr false 7 0], D.nilf, D.nilf, D.nilf, D.nilf, D.fn (Fn.func 195) [] [], D.fn (Fn.func 199) [] [D.ptr false 8 0], D.fn (Fn.func 197) [] [D.ptr false 9 0, D.ptr false 10 0], D.fn (Fn.func 199) [] [D.ptr false 13 0]]) 7 (D.fn (Fn.func 199) [] [D.ptr false 7 0]) rfl, tT, tT]) (by kernel_rfl)).to (by ((simp only [wk, wkL, and_true]; repeat' (first | rfl | exact True.intro | apply And.intro)); done))
theorem fmay_8_ok  : Ret Try.prog 170 ([.int .i8 8]) (.bool false) := by
 exact (Ret.of_eval (d := .bool false) mixed Try.func170 (by kernel_rfl) ([tT, tT, tT, tT, .inl, .inl, .inl, .inl, .inl, .inl, .inl, .inl, .inl, .inl, tT, tT] ++ [tT, .get ([D.nilf, D.nilf, D.fn (Fn.func 193) [] [], D.fn (Fn.func 199) [] [D.ptr false 1 0], D.fn (Fn.func 194) [] [], D.fn (Fn.func 199) [] [D.ptr false 2 0], D.fn (Fn.func 197) [] [D.ptr false 3 0, D.ptr false 4 0], D.fn (Fn.func 199) [] [D.ptr false 7 0], D.nilf, D.nilf, D.nilf, D.nilf, D.fn (Fn.func 195) [] [], D.fn (Fn.func 199) [] [D.ptr false 8 0], D.fn (Fn.func 197) [] [D.ptr false 9 0, D.ptr false 10 0], D.fn (Fn.func 199) [] [D.ptr false 13 0]]) 8 (D.nilf) rfl, tT, tT]) (by kernel_rfl)).to (by ((simp only [wk, wkL, and_true]; repeat' (first | rfl | exact True.intro | apply And.intro)); done))
theorem fmay_9_ok  : Ret Try.prog 170 ([.int .i8 9]) (.bool false) := by
 exact (Ret.of_eval (d := .bool false) mixed Try.func170 (by kernel_rfl) ([tT, tT, tT, tT, .inl, .inl, .inl, .inl, .inl, .inl, .inl, .inl, .inl, .inl, tT, tT] ++ [tT, .get ([D.nilf, D.nilf, D.fn (Fn.func 193) [] [], D.fn (Fn.func 199) [] [D.ptr false 1 0], D.fn (Fn.func 194) [] [], D.fn (Fn.func 199) [] [D.ptr false 2 0], D.fn (Fn.func 197) [] [D.ptr false 3 0, D.ptr false 4 0], D.fn (Fn.func 199) [] [D.ptr false 7 0], D.nilf, D.nilf, D.nilf, D.nilf, D.fn (Fn.func 195) [] [], D.fn (Fn.func 199) [] [D.ptr false 8 0], D.fn (Fn.func 197) [] [D.ptr false 9 0, D.ptr false 10 0], D.fn (Fn.func 199) [] [D.ptr false 13 0]]) 9 (D.nilf) rfl, tT, tT]) (by kernel_rfl)).to (by ((simp only [wk, wkL, and_true]; repeat' (first | rfl | exact True.intro | apply And.intro)); done))
theorem fmay_10_ok  : Ret Try.prog 170 ([.int .i8 10]) (.bool false) := by
 exact (Ret.of_eval (d := .bool false) mixed Try.func170 (by kernel_rfl) ([tT, tT, tT, tT, .inl, .inl, .inl, .inl, .inl, .inl, .inl, .inl, .inl, .inl, tT, tT] ++ [tT, .get ([D.nilf, D.nilf, D.fn (Fn.func 193) [] [], D.fn (Fn.func 199) [] [D.ptr false 1 0], D.fn (Fn.func 194) [] [], D.fn (Fn.func 199) [] [D.ptr false 2 0], D.fn (Fn.func 197) [] [D.ptr false 3 0, D.ptr false 4 0], D.fn (Fn.func 199) [] [D.ptr false 7 0], D.nilf, D.nilf, D.nilf, D.nilf, D.fn (Fn.func 195) [] [], D.fn (Fn.func 199) [] [D.ptr false 8 0], D.fn (Fn.func 197) [] [D.ptr false 9 0, D.ptr false 10 0], D.fn (Fn.func 199) [] [D.ptr false 13 0]]) 10 (D.nilf) rfl, tT, tT]) (by kernel_rfl)).to (by ((simp only [wk, wkL, and_true]; repeat' (first | rfl | exact True.intro | apply And.intro)); done))
theorem fmay_11_ok  : Ret Try.prog 170 ([.int .i8 11]) (.bool false) := by
 exact (Ret.of_eval (d := .bool false) mixed Try.func170 (by kernel_rfl) ([tT, tT, tT, tT, .inl, .inl, .inl, .inl, .inl, .inl, .inl, .inl, .inl, .inl, tT, tT] ++ [tT, .get ([D.nilf, D.nilf, D.fn (Fn.func 193) [] [], D.fn (Fn.func 199) [] [D.ptr false 1 0], D.fn (Fn.func 194) [] [], D.fn (Fn.func 199) [] [D.ptr false 2 0], D.fn (Fn.func 197) [] [D.ptr false 3 0, D.ptr false 4 0], D.fn (Fn.func 199) [] [D.ptr false 7 0], D.nilf, D.nilf, D.nilf, D.nilf, D.fn (Fn.func 195) [] [], D.fn (Fn.func 199) [] [D.ptr false 8 0], D.fn (Fn.func 197) [] [D.ptr false 9 0, D.ptr false 10 0], D.fn (Fn.func 199) [] [D.ptr false 13 0]]) 11 (D.nilf) rfl, tT, tT]) (by kernel_rfl)).to (by ((simp only [wk, wkL, and_true]; repeat' (first | rfl | exact True.intro | apply And.intro)); done))
theorem fmay_12_ok  : Ret Try.prog 170 ([.int .i8 12]) (.bool true) := by
 exact (Ret.of_eval (d := .bool true) mixed Try.func170 (by kernel_rfl) ([tT, tT, tT, tT, .inl, .inl, .inl, .inl, .inl, .inl, .inl, .inl, .inl, .inl, tT, tT] ++ [tT, .get ([D.nilf, D.nilf, D.fn (Fn.func 193) [] [], D.fn (Fn.func 199) [] [D.ptr false 1 0], D.fn (Fn.func 194) [] [], D.fn (Fn.func 199) [] [D.ptr false 2 0], D.fn (Fn.func 197) [] [D.ptr false 3 0, D.ptr false 4 0], D.fn (Fn.func 199) [] [D.ptr false 7 0], D.nilf, D.nilf, D.nilf, D.nilf, D.fn (Fn.func 195) [] [], D.fn (Fn.func 199) [] [D.ptr false 8 0], D.fn (Fn.func 197) [] [D.ptr false 9 0, D.ptr false 10 0], D.fn (Fn.func 199) [] [D.ptr false 13 0]]) 12 (D.fn (Fn.func 195) [] []) rfl, tT, tT]) (by kernel_rfl)).to (by ((simp only [wk, wkL, and_true]; repeat' (first | rfl | exact True.intro | apply And.intro)); done))
theorem fmay_13_ok  : Ret Try.prog 170 ([.int .i8 13]) (.bool true) := by
 exact (Ret.of_eval (d := .bool true) mixed Try.func170 (by kernel_rfl) ([tT, tT, tT, tT, .inl, .inl, .inl, .inl, .inl, .inl, .inl, .inl, .inl, .inl, tT, tT] ++ [tT, .get ([D.nilf, D.nilf, D.fn (Fn.func 193) [] [], D.fn (Fn.func 199) [] [D.ptr false 1 0], D.fn (Fn.func 194) [] [], D.fn (Fn.func 199) [] [D.ptr false 2 0], D.fn (Fn.func 197) [] [D.ptr false 3 0, D.ptr false 4 0], D.fn (Fn.func 199) [] [D.ptr false 7 0], D.nilf, D.nilf, D.nilf, D.nilf, D.fn (Fn.func 195) [] [], D.fn (Fn.func 199) [] [D.ptr false 8 0], D.fn (Fn.func 197) [] [D.ptr false 9 0, D.ptr false 10 0], D.fn (Fn.func 199) [] [D.ptr false 13 0]]) 13 (D.fn (Fn.func 199) [] [D.ptr false 8 0]) rfl, tT, tT]) (by kernel_rfl)).to (by ((simp only [wk, wkL, and_true]; repeat' (first | rfl | exact True.intro | apply And.intro)); done))
theorem fmay_14_ok  : Ret Try.prog 170 ([.int .i8 14]) (.bool true) := by
 exact (Ret.of_eval (d := .bool true) mixed Try.func170 (by kernel_rfl) ([tT, tT, tT, tT, .inl, .inl, .inl, .inl, .inl, .inl, .inl, .inl, .inl, .inl, tT, tT] ++ [tT, .get ([D.nilf, D.nilf, D.fn (Fn.func 193) [] [], D.fn (Fn.func 199) [] [D.ptr false 1 0], D.fn (Fn.func 194) [] [], D.fn (Fn.func 199) [] [D.ptr false 2 0], D.fn (Fn.func 197) [] [D.ptr false 3 0, D.ptr false 4 0], D.fn (Fn.func 199) [] [D.ptr false 7 0], D.nilf, D.nilf, D.nilf, D.nilf, D.fn (Fn.func 195) [] [], D.fn (Fn.func 199) [] [D.ptr false 8 0], D.fn (Fn.func 197) [] [D.ptr false 9 0, D.ptr false 10 0], D.fn (Fn.func 199) [] [D.ptr false 13 0]]) 14 (D.fn (Fn.func 197) [] [D.ptr false 9 0, D.ptr false 10 0]) rfl, tT, tT]) (by kernel_rfl)).to (by ((simp only [wk, wkL, and_true]; repeat' (first | rfl | exact True.intro | apply And.intro)); done))
theorem fmay_15_ok  : Ret Try.prog 170 ([.int .i8 15]) (.bool true) := by
 exact (Ret.of_eval (d := .bool true) mixed Try.func170 (by kernel_rfl) ([tT, tT, tT, tT, .inl, .inl, .inl, .inl, .inl, .inl, .inl, .inl, .inl, .inl, tT, tT] ++ [tT, .get ([D.nilf, D.nilf, D.fn (Fn.func 193) [] [], D.fn (Fn.func 199) [] [D.ptr false 1 0], D.fn (Fn.func 194) [] [], D.fn (Fn.func 199) [] [D.ptr false 2 0], D.fn (Fn.func 197) [] [D.ptr false 3 0, D.ptr false 4 0], D.fn (Fn.func 199) [] [D.ptr false 7 0], D.nilf, D.nilf, D.nilf, D.nilf, D.fn (Fn.func 195) [] [], D.fn (Fn.func 199) [] [D.ptr false 8 0], D.fn (Fn.func 197) [] [D.ptr false 9 0, D.ptr false 10 0], D.fn (Fn.func 199) [] [D.ptr false 13 0]]) 15 (D.fn (Fn.func 199) [] [D.ptr false 13 0]) rfl, tT, tT]) (by kernel_rfl)).to (by ((simp only [wk, wkL, and_true]; repeat' (first | rfl | exact True.intro | apply And.intro)); done))
theorem fmay_out_ok (cc : Int) (h : decide (0 ≤ cc ∧ cc ≤ 15) = false) : Ret Try.prog 170 ([.int .i8 cc]) (.bool false) := by
 rcases Bool.eq_false_or_eq_true (decide (cc < (0 : Int))) with h0 | h0
 ·skip
  exact (Ret.of_eval (d := .bool false) mixed Try.func170 (by kernel_rfl) [tC (eT (leL 0 h0)), tC (eT (leL 0 h0)), tC (leL 0 h0), tF, tF, tF, tF, tF] (by kernel_rfl)).to (by simp [wk])
 ·skip
  exact (Ret.of_eval (d := .bool false) mixed Try.func170 (by kernel_rfl) [tC (eT (leL 0 h0)), tC (eT (leL 0 h0)), tC (leL 0 h0), tC (eT (by (simp only [w_i8, w_u8, w_i64, w_u64, decide_eq_true_eq, decide_eq_false_iff_not, beq_iff_eq, bne_iff_ne, beq_eq_false_iff_ne, bne_eq_false_iff_eq, Bool.not_eq_true', Bool.not_eq_false', Bool.and_eq_true, Bool.or_eq_true] at *; omega) : (decide (cc < (16 : Int))) = false)), tC (eT (by (simp only [w_i8, w_u8, w_i64, w_u64, decide_eq_true_eq, decide_eq_false_iff_not, beq_iff_eq, bne_iff_ne, beq_eq_false_iff_ne, bne_eq_false_iff_eq, Bool.not_eq_true', Bool.not_eq_false', Bool.and_eq_true, Bool.or_eq_true] at *; omega) : (decide (cc < (16 : Int))) = false)), tC (eT (by (simp only [w_i8, w_u8, w_i64, w_u64, decide_eq_true_eq, decide_eq_false_iff_not, beq_iff_eq, bne_iff_ne, beq_eq_false_iff_ne, bne_eq_false_iff_eq, Bool.not_eq_true', Bool.not_eq_false', Bool.and_eq_true, Bool.or_eq_true] at *; omega) : (decide (cc < (16 : Int))) = false)), tC (eT (by (simp only [w_i8, w_u8, w_i64, w_u64, decide_eq_true_eq, decide_eq_false_iff_not, beq_iff_eq, bne_iff_ne, beq_eq_false_iff_ne, bne_eq_false_iff_eq, Bool.not_eq_true', Bool.not_eq_false', Bool.and_eq_true, Bool.or_eq_true] at *; omega) : (decide (cc < (16 : Int))) = false)), tC (by (simp only [w_i8, w_u8, w_i64, w_u64, decide_eq_true_eq, decide_eq_false_iff_not, beq_iff_eq, bne_iff_ne, beq_eq_false_iff_ne, bne_eq_false_iff_eq, Bool.not_eq_true', Bool.not_eq_false', Bool.and_eq_true, Bool.or_eq_true] at *; omega) : (decide (cc < (16 : Int))) = false)] (by kernel_rfl)).to (by simp [wk])
end Go.Proofs.Ytcngafhpodeenaa

namespace Go.Proofs.Ytcngafhpodeenaa
open Go Go.Ev
theorem fmay_any_ok (cc : Int) : Ret Try.prog 170 [.int .i8 cc] (.bool (ccM cc)) := by
 by_cases h : 0 ≤ cc ∧ cc ≤ 15
 ·have hc : cc = 0 ∨ cc = 1 ∨ cc = 2 ∨ cc = 3 ∨ cc = 4 ∨ cc = 5 ∨ cc = 6 ∨ cc = 7 ∨ cc = 8 ∨ cc = 9 ∨ cc = 10 ∨ cc = 11 ∨ cc = 12 ∨ cc = 13 ∨ cc = 14 ∨ cc = 15 := by omega
  rcases hc with rfl | rfl | rfl | rfl | rfl | rfl | rfl | rfl | rfl | rfl | rfl | rfl | rfl | rfl | rfl | rfl
  ·exact fmay_0_ok
  ·exact fmay_1_ok
  ·exact fmay_2_ok
  ·exact fmay_3_ok
  ·exact fmay_4_ok
  ·exact fmay_5_ok
  ·exact fmay_6_ok
  ·exact fmay_7_ok
  ·exact fmay_8_ok
  ·exact fmay_9_ok
  ·exact fmay_10_ok
  ·exact fmay_11_ok
  ·exact fmay_12_ok
  ·exact fmay_13_ok
  ·exact fmay_14_ok
  ·exact fmay_15_ok
 ·have e : ccM cc = false := decide_eq_false (by omega)
  rw [e]
  exact fmay_out_ok cc (decide_eq_false h)
end Go.Proofs.Ytcngafhpodeenaa

namespace Go.Proofs.Ytcngafhpodeenaa
open Go Go.Ev
set_option maxRecDepth 100000
set_option maxHeartbeats 8000000
theorem set1_ok (a : Int) (a0 : 0 ≤ a) (a1 : a ≤ 15) : Ret Try.prog 188 ([.lst .tight 1 [.int .i8 a]]) (.int .i64 (sh8 a)) := by
 exact (o188 (d := D.int IntKind.i64 (IntKind.wrap IntKind.i64 (↑(BitVec.toNat (BitVec.ofInt (64 : Nat) 0 ||| BitVec.ofInt (64 : Nat) (IntKind.wrap IntKind.i64 (1 * 2 ^ min (Int.toNat a) (64 : Nat))))) : Int))) [.go 64, tT, tT, .get ([D.int IntKind.i8 a]) 0 (D.int IntKind.i8 a) rfl, tC (v := true) (leL 0 (decide_eq_false (Int.not_lt.2 a0))), tF] (by kernel_rfl)).to (by simp only [wk, D.int.injEq, true_and]; obtain ⟨n_a, rfl⟩ := fin16 a0 a1; clear a0 a1; revert n_a; decide +kernel)
theorem set2_ok (a : Int) (a0 : 0 ≤ a) (a1 : a ≤ 15) (b : Int) (b0 : 0 ≤ b) (b1 : b ≤ 15) : Ret Try.prog 188 ([.lst .tight 1 [.int .i8 a, .int .i8 b]]) (.int .i64 (or64 (sh8 a) (sh8 b))) := by
 exact (o188 (d := D.int IntKind.i64 (IntKind.wrap IntKind.i64 (↑(BitVec.toNat (BitVec.ofInt (64 : Nat) (IntKind.wrap IntKind.i64 (↑(BitVec.toNat (BitVec.ofInt (64 : Nat) 0 ||| BitVec.ofInt (64 : Nat) (IntKind.wrap IntKind.i64 (1 * 2 ^ min (Int.toNat a) (64 : Nat))))) : Int)) ||| BitVec.ofInt (64 : Nat) (IntKind.wrap IntKind.i64 (1 * 2 ^ min (Int.toNat b) (64 : Nat))))) : Int))) [.go 64, tT, tT, .get ([D.int IntKind.i8 a, D.int IntKind.i8 b]) 0 (D.int IntKind.i8 a) rfl, tC (v := true) (leL 0 (decide_eq_false (Int.not_lt.2 a0))), tT, tT, .get ([D.int IntKind.i8 a, D.int IntKind.i8 b]) 1 (D.int IntKind.i8 b) rfl, tC (v := true) (leL 0 (decide_eq_false (Int.not_lt.2 b0))), tF] (by kernel_rfl)).to (by simp only [wk, D.int.injEq, true_and]; obtain ⟨n_a, rfl⟩ := fin16 a0 a1; obtain ⟨n_b, rfl⟩ := fin16 b0 b1; clear a0 a1 b0 b1; revert n_a n_b; decide +kernel)
theorem set3_ok (a : Int) (a0 : 0 ≤ a) (a1 : a ≤ 15) : Ret Try.prog 188 ([.lst .tight 1 [.int .i8 a, .int .i8 0, .int .i8 2]]) (.int .i64 (or64 (or64 (sh8 a) (sh8 0)) (sh8 2))) := by
 exact (o188 (d := D.int IntKind.i64 (IntKind.wrap IntKind.i64 (↑(BitVec.toNat (BitVec.ofInt (64 : Nat) (IntKind.wrap IntKind.i64 (↑(BitVec.toNat (BitVec.ofInt (64 : Nat) (IntKind.wrap IntKind.i64 (↑(BitVec.toNat (BitVec.ofInt (64 : Nat) 0 ||| BitVec.ofInt (64 : Nat) (IntKind.wrap IntKind.i64 (1 * 2 ^ min (Int.toNat a) (64 : Nat))))) : Int)) ||| BitVec.ofInt (64 : Nat) 1)) : Int)) ||| BitVec.ofInt (64 : Nat) 4)) : Int))) [.go 64, tT, tT, .get ([D.int IntKind.i8 a, D.int IntKind.i8 0, D.int IntKind.i8 2]) 0 (D.int IntKind.i8 a) rfl, tC (v := true) (leL 0 (decide_eq_false (Int.not_lt.2 a0))), tT, tT, .get ([D.int IntKind.i8 a, D.int IntKind.i8 0, D.int IntKind.i8 2]) 1 (D.int IntKind.i8 0) rfl, tT, tT, tT, .get ([D.int IntKind.i8 a, D.int IntKind.i8 0, D.int IntKind.i8 2]) 2 (D.int IntKind.i8 2) rfl, tT, tF] (by kernel_rfl)).to (by simp only [wk, D.int.injEq, true_and]; obtain ⟨n_a, rfl⟩ := fin16 a0 a1; clear a0 a1; revert n_a; decide +kernel)
end Go.Proofs.Ytcngafhpodeenaa
