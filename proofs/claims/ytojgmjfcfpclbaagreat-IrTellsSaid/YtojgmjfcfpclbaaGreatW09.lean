/- Contracts and plain laws that a statement's proof leans on (texts merged: MdI, I0, MdT, ZR0, ZR1, ZR2, ZR3, ZR4, ZR4A, ZI0). -/
import Derived.Test.YtojgmjfcfpclbaaGreatW04
import Derived.Test.YtojgmjfcfpclbaaGreatW05
import Derived.Test.YtojgmjfcfpclbaaGreatW08
set_option linter.unusedVariables false
set_option linter.unusedSimpArgs false
namespace Go.Ev
open Go
structure RgS where
  (r0 r1 r2 r3 r4 r5 r6 r7 r8 r9 r10 : Int)
deriving DecidableEq
def RgS.c (r : RgS) : List D := [.int .u64 r.r0, .int .u64 r.r1, .int .u64 r.r2, .int .u64 r.r3, .int .u64 r.r4, .int .u64 r.r5, .int .u64 r.r6, .int .u64 r.r7, .int .u64 r.r8, .int .u64 r.r9, .int .u64 r.r10]
def RgS.d (r : RgS) : D := .agg r.c
def RgS.l (r : RgS) : List Int := [r.r0, r.r1, r.r2, r.r3, r.r4, r.r5, r.r6, r.r7, r.r8, r.r9, r.r10]
def RgS.get (r : RgS) (i : Int) : Int := rg r.l i
def RgS.put (r : RgS) (i v : Int) : RgS := ⟨st 0 i v r.r0, st 1 i v r.r1, st 2 i v r.r2, st 3 i v r.r3, st 4 i v r.r4, st 5 i v r.r5, st 6 i v r.r6, st 7 i v r.r7, st 8 i v r.r8, st 9 i v r.r9, st 10 i v r.r10⟩
def RgS.zero : RgS := ⟨0, 0, 0, 0, 0, 0, 0, 0, 0, 0, 0⟩
theorem fin11 {i : Int} (h0 : 0 ≤ i) (h1 : i ≤ 10) : i = 0 ∨ i = 1 ∨ i = 2 ∨ i = 3 ∨ i = 4 ∨ i = 5 ∨ i = 6 ∨ i = 7 ∨ i = 8 ∨ i = 9 ∨ i = 10 := by omega
section
variable {r0 r1 r2 r3 r4 r5 r6 r7 r8 r9 r10 i v : Int} {tl : List D}
theorem get_rg (h0 : 0 ≤ i) (h1 : i ≤ 10) : (D.int .u64 r0 :: D.int .u64 r1 :: D.int .u64 r2 :: D.int .u64 r3 :: D.int .u64 r4 :: D.int .u64 r5 :: D.int .u64 r6 :: D.int .u64 r7 :: D.int .u64 r8 :: D.int .u64 r9 :: D.int .u64 r10 :: tl : List D)[0 + i.toNat * 1]? = some (.int .u64 (rg [r0, r1, r2, r3, r4, r5, r6, r7, r8, r9, r10] i)) := by
 rcases fin11 h0 h1 with rfl | rfl | rfl | rfl | rfl | rfl | rfl | rfl | rfl | rfl | rfl <;> rfl
theorem put_rg (h0 : 0 ≤ i) (h1 : i ≤ 10) : PutsA (D.int .u64 r0 :: D.int .u64 r1 :: D.int .u64 r2 :: D.int .u64 r3 :: D.int .u64 r4 :: D.int .u64 r5 :: D.int .u64 r6 :: D.int .u64 r7 :: D.int .u64 r8 :: D.int .u64 r9 :: D.int .u64 r10 :: tl : List D) (0 + i.toNat * 1) [D.int .u64 v] (D.int .u64 (st 0 i v r0) :: D.int .u64 (st 1 i v r1) :: D.int .u64 (st 2 i v r2) :: D.int .u64 (st 3 i v r3) :: D.int .u64 (st 4 i v r4) :: D.int .u64 (st 5 i v r5) :: D.int .u64 (st 6 i v r6) :: D.int .u64 (st 7 i v r7) :: D.int .u64 (st 8 i v r8) :: D.int .u64 (st 9 i v r9) :: D.int .u64 (st 10 i v r10) :: tl) := by
 rcases fin11 h0 h1 with rfl | rfl | rfl | rfl | rfl | rfl | rfl | rfl | rfl | rfl | rfl <;> exact ⟨rfl, by simp⟩
end
theorem sl3 (n : Nat) : decide ((0 : Int) ≤ (n : Int) ∧ (n : Int) ≤ (n : Int) ∧ (n : Int) = (n : Int)) = true := by simp
theorem len_lt1 {x : D} {tl : List D} : decide (((x :: tl).length : Int) < 1) = false := by simp; omega
theorem len_ge1 {x : D} {tl : List D} : decide ((0 : Int) ≤ (1 : Int) ∧ (1 : Int) ≤ ((x :: tl).length : Int)) = true := by simp; omega
def MachS.c (m : MachS) : List D := [.int .u64 m.q0, .int .u64 m.q1, .int .u64 m.q2, .int .u64 m.q3, .int .u64 m.q4, .int .u64 m.q5, .int .u64 m.q6, .int .u64 m.q7, .int .u64 m.q8, .int .u64 m.q9, .int .u64 m.q10, .int .u64 m.q11, .int .u64 m.q12, .int .u64 m.q13, .int .u64 m.q14, .int .u64 m.q15, .bool m.fk, .bool m.fc, .bool m.fz, .bool m.fs, .bool m.fo, .int .u64 m.pc]
theorem bit_uo {w k : Int} {v : Bool} (k0 : 0 ≤ k) (k1 : k ≤ 15) (h : (bitOf w k == 1) = v) : (IntKind.i64.wrap ((BitVec.ofInt 64 (w.fdiv (2 ^ (min (IntKind.u64.wrap k).toNat 64))) &&& BitVec.ofInt 64 1).toNat : Int) == 1) = v := by
 rw [show IntKind.u64.wrap k = k by rw [w_u64]; omega]
 exact h
theorem bit_uot {w k : Int} (k0 : 0 ≤ k) (k1 : k ≤ 15) (h : (bitOf w k == 1) = true) : (IntKind.i64.wrap ((BitVec.ofInt 64 (w.fdiv (2 ^ (min (IntKind.u64.wrap k).toNat 64))) &&& BitVec.ofInt 64 1).toNat : Int) == 1) = true := bit_uo k0 k1 h
theorem bit_uof {w k : Int} (k0 : 0 ≤ k) (k1 : k ≤ 15) (h : (bitOf w k == 1) = false) : (IntKind.i64.wrap ((BitVec.ofInt 64 (w.fdiv (2 ^ (min (IntKind.u64.wrap k).toNat 64))) &&& BitVec.ofInt 64 1).toNat : Int) == 1) = false := bit_uo k0 k1 h
def IrS.x (s : IrS) : XS := ⟨s.op, s.w, s.dst, s.src, s.base, s.disp, s.imm, s.cc⟩
def scrM (n : Int) : Bool := decide (n = 0 ∨ n = 1 ∨ n = 2 ∨ n = 11)
theorem scr_bit_all : ∀ n : Fin 128, (bitOf 2055 (n.val : Int) == 1) = scrM (n.val : Int) := by decide +kernel
theorem wk_bool {a b : Bool} (h : a = b) : wk (.bool a) (.bool b) := by subst h; simp [wk]
theorem scr_bit_eq {n : Int} (h0 : decide (n < 0) = false) (h1 : n ≤ 127) : (bitOf 2055 n == 1) = scrM n := by
 rw [decide_eq_false_iff_not] at h0
 have := scr_bit_all ⟨n.toNat, by omega⟩
 simp only [Int.toNat_of_nonneg (show 0 ≤ n by omega)] at this
 exact this
theorem scr_neg {n : Int} (h0 : decide (n < 0) = true) : false = scrM n := by
 rw [decide_eq_true_eq] at h0
 exact (decide_eq_false (by omega)).symm
def namesM (op w dst src base disp imm cc : Int) : Int := or64 (readsXX op w dst src base disp imm cc) (writesXX op w dst src base disp imm cc)
def ownM (op w dst src base disp imm cc : Int) : Bool := andNot64 (namesM op w dst src base disp imm cc) 2055 == 0
theorem own_t {op w dst src base disp imm cc : Int} (h : ownM op w dst src base disp imm cc = true) : (IntKind.i64.wrap ((BitVec.ofInt IntKind.i64.bits (IntKind.i64.wrap ((BitVec.ofInt IntKind.i64.bits (readsXX op w dst src base disp imm cc) ||| BitVec.ofInt IntKind.i64.bits (writesXX op w dst src base disp imm cc)).toNat : Int)) &&& ~~~BitVec.ofInt IntKind.i64.bits 2055).toNat : Int) == 0) = true := h
theorem own_f {op w dst src base disp imm cc : Int} (h : ownM op w dst src base disp imm cc = false) : (IntKind.i64.wrap ((BitVec.ofInt IntKind.i64.bits (IntKind.i64.wrap ((BitVec.ofInt IntKind.i64.bits (readsXX op w dst src base disp imm cc) ||| BitVec.ofInt IntKind.i64.bits (writesXX op w dst src base disp imm cc)).toNat : Int)) &&& ~~~BitVec.ofInt IntKind.i64.bits 2055).toNat : Int) == 0) = false := h
def zeroX (op w dst src base disp imm cc : Int) : Bool := decide (op = 0 ∧ w = 0 ∧ dst = 0 ∧ src = 0 ∧ base = 0 ∧ disp = 0 ∧ imm = 0 ∧ cc = 0)
def mayI (kind op w dst src base disp imm cc reg phys num to : Int) : Bool :=
  if kind = 0 then mayX op w dst src base disp imm cc && decide (op < 28) && ownM op w dst src base disp imm cc && decide (reg = 0 ∧ phys = 0 ∧ num = 0 ∧ to = 0)
  else if kind = 1 ∨ kind = 2 then decide (0 ≤ reg ∧ reg ≤ 10) && scrM phys && zeroX op w dst src base disp imm cc && decide (num = 0 ∧ to = 0)
  else if kind = 3 then decide (0 ≤ num ∧ num ≤ 15) && zeroX op w dst src base disp imm cc && decide (reg = 0 ∧ phys = 0 ∧ to = 0)
  else if kind = 4 then ccM cc && zeroX (op - 29) w dst src base disp imm 0 && decide (0 ≤ to ∧ to ≤ 64) && decide (reg = 0 ∧ phys = 0 ∧ num = 0)
  else if kind = 5 then decide (0 ≤ to ∧ to ≤ 64) && zeroX op w dst src base disp imm cc && decide (reg = 0 ∧ phys = 0 ∧ num = 0)
  else if kind = 6 then zeroX op w dst src base disp imm cc && decide (reg = 0 ∧ phys = 0 ∧ num = 0 ∧ to = 0)
  else false
theorem eq_irc (k1 a1 a2 a3 a4 a5 a6 a7 a8 a9 a10 a11 a12 k2 b1 b2 b3 b4 b5 b6 b7 b8 b9 b10 b11 b12 : Int) : eqCells (irC k1 a1 a2 a3 a4 a5 a6 a7 a8 a9 a10 a11 a12) (irC k2 b1 b2 b3 b4 b5 b6 b7 b8 b9 b10 b11 b12) =
  decide (k1 = k2 ∧ a1 = b1 ∧ a2 = b2 ∧ a3 = b3 ∧ a4 = b4 ∧ a5 = b5 ∧ a6 = b6 ∧ a7 = b7 ∧ a8 = b8 ∧ a9 = b9 ∧ a10 = b10 ∧ a11 = b11 ∧ a12 = b12) := by
 rw [Bool.eq_iff_iff]
 simp [eqCells, eqCell]
theorem mayI_0 (op w dst src base disp imm cc reg phys num to : Int) : mayI 0 op w dst src base disp imm cc reg phys num to = (mayX op w dst src base disp imm cc && decide (op < 28) && ownM op w dst src base disp imm cc && decide (reg = 0 ∧ phys = 0 ∧ num = 0 ∧ to = 0)) := rfl
theorem mayI_1 (op w dst src base disp imm cc reg phys num to : Int) : mayI 1 op w dst src base disp imm cc reg phys num to = (decide (0 ≤ reg ∧ reg ≤ 10) && scrM phys && zeroX op w dst src base disp imm cc && decide (num = 0 ∧ to = 0)) := rfl
theorem mayI_2 (op w dst src base disp imm cc reg phys num to : Int) : mayI 2 op w dst src base disp imm cc reg phys num to = (decide (0 ≤ reg ∧ reg ≤ 10) && scrM phys && zeroX op w dst src base disp imm cc && decide (num = 0 ∧ to = 0)) := rfl
theorem mayI_3 (op w dst src base disp imm cc reg phys num to : Int) : mayI 3 op w dst src base disp imm cc reg phys num to = (decide (0 ≤ num ∧ num ≤ 15) && zeroX op w dst src base disp imm cc && decide (reg = 0 ∧ phys = 0 ∧ to = 0)) := rfl
theorem mayI_4 (op w dst src base disp imm cc reg phys num to : Int) : mayI 4 op w dst src base disp imm cc reg phys num to = (ccM cc && zeroX (op - 29) w dst src base disp imm 0 && decide (0 ≤ to ∧ to ≤ 64) && decide (reg = 0 ∧ phys = 0 ∧ num = 0)) := rfl
theorem mayI_5 (op w dst src base disp imm cc reg phys num to : Int) : mayI 5 op w dst src base disp imm cc reg phys num to = (decide (0 ≤ to ∧ to ≤ 64) && zeroX op w dst src base disp imm cc && decide (reg = 0 ∧ phys = 0 ∧ num = 0)) := rfl
theorem mayI_6 (op w dst src base disp imm cc reg phys num to : Int) : mayI 6 op w dst src base disp imm cc reg phys num to = (zeroX op w dst src base disp imm cc && decide (reg = 0 ∧ phys = 0 ∧ num = 0 ∧ to = 0)) := rfl
def stopsI (kind op : Int) : Bool := decide ((3 ≤ kind ∧ kind ≤ 6) ∨ (kind = 0 ∧ (op = 26 ∨ op = 27)))
theorem stops_op {op : Int} (h2 : ¬ op = 26) : wk (.bool (op == (27 : Int))) (.bool (stopsI 0 op)) := by
 apply wk_bool; unfold stopsI
 by_cases q : op = 27
 ·subst q; rfl
 ·have e : (op == 27) = false := beq_eq_false_iff_ne.mpr q
  rw [e]; symm; rw [decide_eq_false_iff_not]; omega
def IrS.ok (s : IrS) : Prop := -128 ≤ s.kind ∧ s.kind ≤ 127 ∧ s.op ≤ 127 ∧ s.cc ≤ 127 ∧ s.phys ≤ 127 ∧ -128 ≤ s.reg ∧ s.reg ≤ 127
def AllOk (l : List IrS) : Prop := ∀ s ∈ l, s.ok
def IrS.may (s : IrS) : Bool := mayI s.kind s.op s.w s.dst s.src s.base s.disp s.imm s.cc s.reg s.phys s.num s.to
def IrS.stops (s : IrS) : Bool := stopsI s.kind s.op
def badI (l : List IrS) : Option Nat := l.findIdx? (fun s => !s.may)
def chkI (l : List IrS) : Int × Int := match badI l with
  | some k => ((k : Int), 2)
  | none => (0, 0)
def runI : List IrS → RgS → MachS → RgS × MachS × Nat × Int
  | [], r, m => (r, m, 0, 0)
  | s :: t, r, m => match s.stops with
    | true => (r, m, t.length + 1, 0)
    | false => if s.kind = 1 then runI t r (m.put s.phys (r.get s.reg))
      else if s.kind = 2 then runI t (r.put s.reg (rg m.rl s.phys)) m
      else if (execS m s.x 0).2 = 0 then runI t r ((execS m s.x 0).1.at 0)
      else (.zero, .zero, t.length + 1, (execS m s.x 0).2)
def restI (l : List IrS) (r : RgS) (m : MachS) : List IrS := l.drop (l.length - (runI l r m).2.2.1)
def doI (l : List IrS) (r : RgS) : RgS × MachS × Int × Int :=
  if (chkI l).2 = 0 then
    let q := runI l r .zero
    if q.2.2.2 = 0 then (q.1, q.2.1, ((l.length - q.2.2.1 : Nat) : Int), 0) else (.zero, .zero, 0, q.2.2.2)
  else (.zero, .zero, 0, 2)
def namedI (k : Int) (n : Int) : List IrS → Int
  | [] => n
  | s :: t => namedI k (if s.kind = k ∧ 0 ≤ s.reg ∧ s.reg ≤ 10 then or64 n (sh8 s.reg) else n) t
end Go.Ev

namespace Go.Proofs.YtojgmjfcfpclbaaGreat
open Go Go.Ev
set_option maxRecDepth 100000
set_option maxHeartbeats 8000000
def tqI00 : List D := [.fn (.func 129) [] [], .fn (.func 126) [] [], .fn (.func 126) [] [], .fn (.func 132) [] [], .fn (.func 133) [] [.ptr false 2 0], .fn (.func 128) [] [], .fn (.func 134) [] []]
theorem those_ok  : Ret Tryz.prog 131 ([]) (.int .i64 2055) := by
 exact (o131 (d := .int .i64 2055) [.inl, .go 64, tT, tT, .get ([.int .i8 0, .int .i8 1, .int .i8 2, .int .i8 11]) 0 (.int .i8 0) rfl, tT, tT, tT, .get ([.int .i8 0, .int .i8 1, .int .i8 2, .int .i8 11]) 1 (.int .i8 1) rfl, tT, tT, tT, .get ([.int .i8 0, .int .i8 1, .int .i8 2, .int .i8 11]) 2 (.int .i8 2) rfl, tT, tT, tT, .get ([.int .i8 0, .int .i8 1, .int .i8 2, .int .i8 11]) 3 (.int .i8 11) rfl, tT, tF] (by kernel_rfl)).to (by rfl)
theorem phys_ok (n : Int) (hn : n ≤ 127) : Ret Tryz.prog 127 ([.int .i8 n]) (.bool (scrM n)) := by
 rcases bft (decide (n < 0)) with h0 | h0
 ·exact (o127 (d := .bool false) (List.replicate 5 (tC (eT (leL 0 h0))) ++ [tC (leL 0 h0)]) (by kernel_rfl)).to (by exact wk_bool (scr_neg h0))
 have c1 := @those_ok
 exact (o127 (d := .bool (IntKind.wrap IntKind.i64 (↑(BitVec.toNat (BitVec.ofInt (64 : Nat) (Int.fdiv 2055 (2 ^ min (Int.toNat n) (64 : Nat))) &&& BitVec.ofInt (64 : Nat) 1)) : Int) == 1)) [tC (eT (leL 0 h0)), .ret _ _ _ c1, tC (eT (leL 0 h0)), tC (eT (leL 0 h0)), tC (v := true) (leL 0 h0), tC (eT (leL 0 h0)), tC (eT (leL 0 h0)), tC (leL 0 h0)] (by kernel_rfl)).to (by exact wk_bool (scr_bit_eq h0 hn))
def SpI00 (k0_ : Int) : Prop := ∀ (op w dst src base disp imm cc reg phys num to : Int) (ho : op ≤ 127) (hc : cc ≤ 127) (hp : phys ≤ 127) (g0 : -128 ≤ reg) (g1 : reg ≤ 127), Ret Tryz.prog 29 ([irD k0_ op w dst src base disp imm cc reg phys num to]) (.bool (mayI k0_ op w dst src base disp imm cc reg phys num to))
theorem imay_0_ok : SpI00 0 := by
 intro op w dst src base disp imm cc reg phys num to ho hc hp g0 g1
 let E1 : EL := ([.inl, .inl] ++ List.replicate 9 tT ++ [.get ([D.fn (Fn.func 129) [] [], D.fn (Fn.func 126) [] [], D.fn (Fn.func 126) [] [], D.fn (Fn.func 132) [] [], D.fn (Fn.func 133) [] [D.ptr false 2 0], D.fn (Fn.func 128) [] [], D.fn (Fn.func 134) [] []]) 0 (D.fn (Fn.func 129) [] []) rfl, tT, .inl])
 rcases bft (mayX op w dst src base disp imm cc) with k0 | k0
 ·rcases bft (decide (op < 28)) with k1 | k1
  ·rcases bft (ownM op w dst src base disp imm cc) with k2 | k2
   ·have c3 := @reads_any_ok op w dst src base disp imm cc ho
    have c4 := @writes_any_ok op w dst src base disp imm cc ho
    have c5 := @mayX_ok op w dst src base disp imm cc ho
    have c6 := @those_ok
    exact (o29 (d := .bool (eqCells [.int .i8 0, .int .i8 0, .int .i8 0, .int .i8 0, .int .i8 0, .int .i8 0, .int .i64 0, .int .i64 0, .int .i8 0, .int .i8 reg, .int .i8 phys, .int .i64 num, .int .i64 to] [.int .i8 0, .int .i8 0, .int .i8 0, .int .i8 0, .int .i8 0, .int .i8 0, .int .i64 0, .int .i64 0, .int .i8 0, .int .i8 0, .int .i8 0, .int .i64 0, .int .i64 0])) (E1 ++ [.ret _ _ _ c3, .ret _ _ _ c4, .ret _ _ _ c5] ++ List.replicate 6 (tC (eT k0)) ++ [tC k0, tC (eT k1), tC (eT k1), .ret _ _ _ c6, tC (eT k1), tC (eT k1), tC k1, tT] ++ List.replicate 5 (tC (eT (eqI 0 true (eq_of_beq (@own_t op w dst src base disp imm cc k2))))) ++ [.flat _ _ flat_Ir, tC (eqI 0 true (eq_of_beq (@own_t op w dst src base disp imm cc k2)))]) (by kernel_rfl)).to (by clear E1; simp only [wk, D.bool.injEq, eq_irc, mayI_0, zeroX, k0, k1, k2, Bool.true_and, Bool.false_and, Bool.and_true, Bool.and_false]; rw [Bool.eq_iff_iff]; simp only [sl1, eq_irc] at *; done)
   have c7 := @reads_any_ok op w dst src base disp imm cc ho
   have c8 := @writes_any_ok op w dst src base disp imm cc ho
   have c9 := @mayX_ok op w dst src base disp imm cc ho
   have c10 := @those_ok
   exact (o29 (d := .bool false) (E1 ++ [.ret _ _ _ c7, .ret _ _ _ c8, .ret _ _ _ c9] ++ List.replicate 6 (tC (eT k0)) ++ [tC k0, tC (eT k1), tC (eT k1), .ret _ _ _ c10, tC (eT k1), tC (eT k1), tC k1, tT] ++ List.replicate 5 (tC (eT (@own_f op w dst src base disp imm cc k2))) ++ [tC (@own_f op w dst src base disp imm cc k2)]) (by kernel_rfl)).to (by simp only [wk, D.bool.injEq, eq_irc, mayI_0, zeroX, k0, k1, k2, Bool.true_and, Bool.false_and, Bool.and_true, Bool.and_false]; done)
  rcases bft (ownM op w dst src base disp imm cc) with k11 | k11
  ·have c12 := @reads_any_ok op w dst src base disp imm cc ho
   have c13 := @writes_any_ok op w dst src base disp imm cc ho
   have c14 := @mayX_ok op w dst src base disp imm cc ho
   exact (o29 (d := .bool false) (E1 ++ [.ret _ _ _ c12, .ret _ _ _ c13, .ret _ _ _ c14] ++ List.replicate 6 (tC (eT k0)) ++ [tC k0] ++ List.replicate 4 (tC (eT k1)) ++ [tC k1, tT, tF, tF, tF, tF, tF, tF]) (by kernel_rfl)).to (by simp only [wk, D.bool.injEq, eq_irc, mayI_0, zeroX, k0, k1, k11, Bool.true_and, Bool.false_and, Bool.and_true, Bool.and_false]; done)
  have c15 := @reads_any_ok op w dst src base disp imm cc ho
  have c16 := @writes_any_ok op w dst src base disp imm cc ho
  have c17 := @mayX_ok op w dst src base disp imm cc ho
  exact (o29 (d := .bool false) (E1 ++ [.ret _ _ _ c15, .ret _ _ _ c16, .ret _ _ _ c17] ++ List.replicate 6 (tC (eT k0)) ++ [tC k0] ++ List.replicate 4 (tC (eT k1)) ++ [tC k1, tT, tF, tF, tF, tF, tF, tF]) (by kernel_rfl)).to (by simp only [wk, D.bool.injEq, eq_irc, mayI_0, zeroX, k0, k1, k11, Bool.true_and, Bool.false_and, Bool.and_true, Bool.and_false]; done)
 rcases bft (decide (op < 28)) with k18 | k18
 ·rcases bft (ownM op w dst src base disp imm cc) with k19 | k19
  ·have c20 := @reads_any_ok op w dst src base disp imm cc ho
   have c21 := @writes_any_ok op w dst src base disp imm cc ho
   have c22 := @mayX_ok op w dst src base disp imm cc ho
   exact (o29 (d := .bool false) (E1 ++ [.ret _ _ _ c20, .ret _ _ _ c21, .ret _ _ _ c22] ++ List.replicate 6 (tC (eT k0)) ++ [tC k0, tF, tF, tF, tF, tF, tT, tF, tF, tF, tF, tF, tF]) (by kernel_rfl)).to (by simp only [wk, D.bool.injEq, eq_irc, mayI_0, zeroX, k0, k18, k19, Bool.true_and, Bool.false_and, Bool.and_true, Bool.and_false]; done)
  have c23 := @reads_any_ok op w dst src base disp imm cc ho
  have c24 := @writes_any_ok op w dst src base disp imm cc ho
  have c25 := @mayX_ok op w dst src base disp imm cc ho
  exact (o29 (d := .bool false) (E1 ++ [.ret _ _ _ c23, .ret _ _ _ c24, .ret _ _ _ c25] ++ List.replicate 6 (tC (eT k0)) ++ [tC k0, tF, tF, tF, tF, tF, tT, tF, tF, tF, tF, tF, tF]) (by kernel_rfl)).to (by simp only [wk, D.bool.injEq, eq_irc, mayI_0, zeroX, k0, k18, k19, Bool.true_and, Bool.false_and, Bool.and_true, Bool.and_false]; done)
 rcases bft (ownM op w dst src base disp imm cc) with k26 | k26
 ·have c27 := @reads_any_ok op w dst src base disp imm cc ho
  have c28 := @writes_any_ok op w dst src base disp imm cc ho
  have c29 := @mayX_ok op w dst src base disp imm cc ho
  exact (o29 (d := .bool false) (E1 ++ [.ret _ _ _ c27, .ret _ _ _ c28, .ret _ _ _ c29] ++ List.replicate 6 (tC (eT k0)) ++ [tC k0, tF, tF, tF, tF, tF, tT, tF, tF, tF, tF, tF, tF]) (by kernel_rfl)).to (by simp only [wk, D.bool.injEq, eq_irc, mayI_0, zeroX, k0, k18, k26, Bool.true_and, Bool.false_and, Bool.and_true, Bool.and_false]; done)
 have c30 := @reads_any_ok op w dst src base disp imm cc ho
 have c31 := @writes_any_ok op w dst src base disp imm cc ho
 have c32 := @mayX_ok op w dst src base disp imm cc ho
 exact (o29 (d := .bool false) (E1 ++ [.ret _ _ _ c30, .ret _ _ _ c31, .ret _ _ _ c32] ++ List.replicate 6 (tC (eT k0)) ++ [tC k0, tF, tF, tF, tF, tF, tT, tF, tF, tF, tF, tF, tF]) (by kernel_rfl)).to (by simp only [wk, D.bool.injEq, eq_irc, mayI_0, zeroX, k0, k18, k26, Bool.true_and, Bool.false_and, Bool.and_true, Bool.and_false]; done)
theorem imay_1_ok : SpI00 1 := by
 intro op w dst src base disp imm cc reg phys num to ho hc hp g0 g1
 let E1 : EL := ([.inl, .inl] ++ List.replicate 9 tT ++ [.get ([D.fn (Fn.func 129) [] [], D.fn (Fn.func 126) [] [], D.fn (Fn.func 126) [] [], D.fn (Fn.func 132) [] [], D.fn (Fn.func 133) [] [D.ptr false 2 0], D.fn (Fn.func 128) [] [], D.fn (Fn.func 134) [] []]) 1 (D.fn (Fn.func 126) [] []) rfl, tT, .inl, .inl])
 rcases bft (scrM phys) with k0 | k0
 ·rcases bft (decide (IntKind.wrap IntKind.i64 reg < 0)) with h1 | h1
  ·exact (o29 (d := .bool false) (E1 ++ List.replicate 3 (tC (eT (leL 0 h1))) ++ [tC (leL 0 h1), tF, tF, tF, tF, tF, tF, tT, tF, tF, tF, tF, tF, tF]) (by kernel_rfl)).to (by clear E1; simp only [wk, D.bool.injEq, eq_irc, mayI_1, zeroX, k0, h1, Bool.true_and, Bool.false_and, Bool.and_true, Bool.and_false]; rw [Bool.eq_iff_iff]; simp only [sl1, eq_irc] at *; omega)
  rcases bft (decide (IntKind.wrap IntKind.i64 reg < 11)) with h2 | h2
  ·have c3 := @phys_ok phys hp
   exact (o29 (d := .bool (eqCells [.int .i8 1, .int .i8 op, .int .i8 w, .int .i8 dst, .int .i8 src, .int .i8 base, .int .i64 disp, .int .i64 imm, .int .i8 cc, .int .i8 0, .int .i8 0, .int .i64 num, .int .i64 to] [.int .i8 1, .int .i8 0, .int .i8 0, .int .i8 0, .int .i8 0, .int .i8 0, .int .i64 0, .int .i64 0, .int .i8 0, .int .i8 0, .int .i8 0, .int .i64 0, .int .i64 0])) (E1 ++ List.replicate 3 (tC (eT (leL 0 h1))) ++ [tC (leL 0 h1)] ++ List.replicate 5 (tC (eT (leC 10 h2))) ++ [.ret _ _ _ c3, tC (leC 10 h2), tT] ++ List.replicate 5 (tC (eT k0)) ++ [.flat _ _ flat_Ir, tC k0]) (by kernel_rfl)).to (by clear E1; simp only [wk, D.bool.injEq, eq_irc, mayI_1, zeroX, k0, h1, h2, Bool.true_and, Bool.false_and, Bool.and_true, Bool.and_false]; rw [Bool.eq_iff_iff]; simp only [sl1, eq_irc] at *; omega)
  exact (o29 (d := .bool false) (E1 ++ List.replicate 3 (tC (eT (leL 0 h1))) ++ [tC (leL 0 h1)] ++ List.replicate 5 (tC (eT (leC 10 h2))) ++ [tC (leC 10 h2), tT, tF, tF, tF, tF, tF, tF]) (by kernel_rfl)).to (by clear E1; simp only [wk, D.bool.injEq, eq_irc, mayI_1, zeroX, k0, h1, h2, Bool.true_and, Bool.false_and, Bool.and_true, Bool.and_false]; rw [Bool.eq_iff_iff]; simp only [sl1, eq_irc] at *; omega)
 rcases bft (decide (IntKind.wrap IntKind.i64 reg < 0)) with h4 | h4
 ·exact (o29 (d := .bool false) (E1 ++ List.replicate 3 (tC (eT (leL 0 h4))) ++ [tC (leL 0 h4), tF, tF, tF, tF, tF, tF, tT, tF, tF, tF, tF, tF, tF]) (by kernel_rfl)).to (by simp only [wk, D.bool.injEq, eq_irc, mayI_1, zeroX, k0, h4, Bool.true_and, Bool.false_and, Bool.and_true, Bool.and_false]; done)
 rcases bft (decide (IntKind.wrap IntKind.i64 reg < 11)) with h5 | h5
 ·have c6 := @phys_ok phys hp
  exact (o29 (d := .bool false) (E1 ++ List.replicate 3 (tC (eT (leL 0 h4))) ++ [tC (leL 0 h4)] ++ List.replicate 5 (tC (eT (leC 10 h5))) ++ [.ret _ _ _ c6, tC (leC 10 h5), tT] ++ List.replicate 5 (tC (eT k0)) ++ [tC k0]) (by kernel_rfl)).to (by simp only [wk, D.bool.injEq, eq_irc, mayI_1, zeroX, k0, h4, h5, Bool.true_and, Bool.false_and, Bool.and_true, Bool.and_false]; done)
 exact (o29 (d := .bool false) (E1 ++ List.replicate 3 (tC (eT (leL 0 h4))) ++ [tC (leL 0 h4)] ++ List.replicate 5 (tC (eT (leC 10 h5))) ++ [tC (leC 10 h5), tT, tF, tF, tF, tF, tF, tF]) (by kernel_rfl)).to (by simp only [wk, D.bool.injEq, eq_irc, mayI_1, zeroX, k0, h4, h5, Bool.true_and, Bool.false_and, Bool.and_true, Bool.and_false]; done)
theorem imay_2_ok : SpI00 2 := by
 intro op w dst src base disp imm cc reg phys num to ho hc hp g0 g1
 let E1 : EL := ([.inl, .inl] ++ List.replicate 9 tT ++ [.get ([D.fn (Fn.func 129) [] [], D.fn (Fn.func 126) [] [], D.fn (Fn.func 126) [] [], D.fn (Fn.func 132) [] [], D.fn (Fn.func 133) [] [D.ptr false 2 0], D.fn (Fn.func 128) [] [], D.fn (Fn.func 134) [] []]) 2 (D.fn (Fn.func 126) [] []) rfl, tT, .inl, .inl])
 rcases bft (scrM phys) with k0 | k0
 ·rcases bft (decide (IntKind.wrap IntKind.i64 reg < 0)) with h1 | h1
  ·exact (o29 (d := .bool false) (E1 ++ List.replicate 3 (tC (eT (leL 0 h1))) ++ [tC (leL 0 h1), tF, tF, tF, tF, tF, tF, tT, tF, tF, tF, tF, tF, tF]) (by kernel_rfl)).to (by clear E1; simp only [wk, D.bool.injEq, eq_irc, mayI_2, zeroX, k0, h1, Bool.true_and, Bool.false_and, Bool.and_true, Bool.and_false]; rw [Bool.eq_iff_iff]; simp only [sl1, eq_irc] at *; omega)
  rcases bft (decide (IntKind.wrap IntKind.i64 reg < 11)) with h2 | h2
  ·have c3 := @phys_ok phys hp
   exact (o29 (d := .bool (eqCells [.int .i8 2, .int .i8 op, .int .i8 w, .int .i8 dst, .int .i8 src, .int .i8 base, .int .i64 disp, .int .i64 imm, .int .i8 cc, .int .i8 0, .int .i8 0, .int .i64 num, .int .i64 to] [.int .i8 2, .int .i8 0, .int .i8 0, .int .i8 0, .int .i8 0, .int .i8 0, .int .i64 0, .int .i64 0, .int .i8 0, .int .i8 0, .int .i8 0, .int .i64 0, .int .i64 0])) (E1 ++ List.replicate 3 (tC (eT (leL 0 h1))) ++ [tC (leL 0 h1)] ++ List.replicate 5 (tC (eT (leC 10 h2))) ++ [.ret _ _ _ c3, tC (leC 10 h2), tT] ++ List.replicate 5 (tC (eT k0)) ++ [.flat _ _ flat_Ir, tC k0]) (by kernel_rfl)).to (by clear E1; simp only [wk, D.bool.injEq, eq_irc, mayI_2, zeroX, k0, h1, h2, Bool.true_and, Bool.false_and, Bool.and_true, Bool.and_false]; rw [Bool.eq_iff_iff]; simp only [sl1, eq_irc] at *; omega)
  exact (o29 (d := .bool false) (E1 ++ List.replicate 3 (tC (eT (leL 0 h1))) ++ [tC (leL 0 h1)] ++ List.replicate 5 (tC (eT (leC 10 h2))) ++ [tC (leC 10 h2), tT, tF, tF, tF, tF, tF, tF]) (by kernel_rfl)).to (by clear E1; simp only [wk, D.bool.injEq, eq_irc, mayI_2, zeroX, k0, h1, h2, Bool.true_and, Bool.false_and, Bool.and_true, Bool.and_false]; rw [Bool.eq_iff_iff]; simp only [sl1, eq_irc] at *; omega)
 rcases bft (decide (IntKind.wrap IntKind.i64 reg < 0)) with h4 | h4
 ·exact (o29 (d := .bool false) (E1 ++ List.replicate 3 (tC (eT (leL 0 h4))) ++ [tC (leL 0 h4), tF, tF, tF, tF, tF, tF, tT, tF, tF, tF, tF, tF, tF]) (by kernel_rfl)).to (by simp only [wk, D.bool.injEq, eq_irc, mayI_2, zeroX, k0, h4, Bool.true_and, Bool.false_and, Bool.and_true, Bool.and_false]; done)
 rcases bft (decide (IntKind.wrap IntKind.i64 reg < 11)) with h5 | h5
 ·have c6 := @phys_ok phys hp
  exact (o29 (d := .bool false) (E1 ++ List.replicate 3 (tC (eT (leL 0 h4))) ++ [tC (leL 0 h4)] ++ List.replicate 5 (tC (eT (leC 10 h5))) ++ [.ret _ _ _ c6, tC (leC 10 h5), tT] ++ List.replicate 5 (tC (eT k0)) ++ [tC k0]) (by kernel_rfl)).to (by simp only [wk, D.bool.injEq, eq_irc, mayI_2, zeroX, k0, h4, h5, Bool.true_and, Bool.false_and, Bool.and_true, Bool.and_false]; done)
 exact (o29 (d := .bool false) (E1 ++ List.replicate 3 (tC (eT (leL 0 h4))) ++ [tC (leL 0 h4)] ++ List.replicate 5 (tC (eT (leC 10 h5))) ++ [tC (leC 10 h5), tT, tF, tF, tF, tF, tF, tF]) (by kernel_rfl)).to (by simp only [wk, D.bool.injEq, eq_irc, mayI_2, zeroX, k0, h4, h5, Bool.true_and, Bool.false_and, Bool.and_true, Bool.and_false]; done)
theorem imay_3_ok : SpI00 3 := by
 intro op w dst src base disp imm cc reg phys num to ho hc hp g0 g1
 let E1 : EL := ([.inl, .inl] ++ List.replicate 9 tT ++ [.get ([D.fn (Fn.func 129) [] [], D.fn (Fn.func 126) [] [], D.fn (Fn.func 126) [] [], D.fn (Fn.func 132) [] [], D.fn (Fn.func 133) [] [D.ptr false 2 0], D.fn (Fn.func 128) [] [], D.fn (Fn.func 134) [] []]) 3 (D.fn (Fn.func 132) [] []) rfl, tT, .inl, .inl])
 rcases bft (decide (num < 0)) with h0 | h0
 ·exact (o29 (d := .bool false) (E1 ++ List.replicate 3 (tC (eT (leL 0 h0))) ++ [tC (leL 0 h0), tT, tF, tF, tF, tF, tF, tF]) (by kernel_rfl)).to (by clear E1; simp only [wk, D.bool.injEq, eq_irc, mayI_3, zeroX, h0, Bool.true_and, Bool.false_and, Bool.and_true, Bool.and_false]; rw [Bool.eq_iff_iff]; simp only [sl1, eq_irc] at *; omega)
 rcases bft (decide (num < 16)) with h1 | h1
 ·exact (o29 (d := .bool (eqCells [.int .i8 3, .int .i8 op, .int .i8 w, .int .i8 dst, .int .i8 src, .int .i8 base, .int .i64 disp, .int .i64 imm, .int .i8 cc, .int .i8 reg, .int .i8 phys, .int .i64 0, .int .i64 to] [.int .i8 3, .int .i8 0, .int .i8 0, .int .i8 0, .int .i8 0, .int .i8 0, .int .i64 0, .int .i64 0, .int .i8 0, .int .i8 0, .int .i8 0, .int .i64 0, .int .i64 0])) (E1 ++ List.replicate 3 (tC (eT (leL 0 h0))) ++ [tC (leL 0 h0), tT] ++ List.replicate 5 (tC (eT (leC 15 h1))) ++ [.flat _ _ flat_Ir, tC (leC 15 h1)]) (by kernel_rfl)).to (by clear E1; simp only [wk, D.bool.injEq, eq_irc, mayI_3, zeroX, h0, h1, Bool.true_and, Bool.false_and, Bool.and_true, Bool.and_false]; rw [Bool.eq_iff_iff]; simp only [sl1, eq_irc] at *; omega)
 exact (o29 (d := .bool false) (E1 ++ List.replicate 3 (tC (eT (leL 0 h0))) ++ [tC (leL 0 h0), tT] ++ List.replicate 5 (tC (eT (leC 15 h1))) ++ [tC (leC 15 h1)]) (by kernel_rfl)).to (by clear E1; simp only [wk, D.bool.injEq, eq_irc, mayI_3, zeroX, h0, h1, Bool.true_and, Bool.false_and, Bool.and_true, Bool.and_false]; rw [Bool.eq_iff_iff]; simp only [sl1, eq_irc] at *; omega)
theorem imay_4_ok : SpI00 4 := by
 intro op w dst src base disp imm cc reg phys num to ho hc hp g0 g1
 let E1 : EL := ([.inl, .inl] ++ List.replicate 9 tT ++ [.get ([D.fn (Fn.func 129) [] [], D.fn (Fn.func 126) [] [], D.fn (Fn.func 126) [] [], D.fn (Fn.func 132) [] [], D.fn (Fn.func 133) [] [D.ptr false 2 0], D.fn (Fn.func 128) [] [], D.fn (Fn.func 134) [] []]) 4 (D.fn (Fn.func 133) [] [D.ptr false 2 0]) rfl, tT, .inl, .flat _ _ flat_X])
 rcases bft (eqCells [.int .i8 op, .int .i8 w, .int .i8 dst, .int .i8 src, .int .i8 base, .int .i64 disp, .int .i64 imm, .int .i8 cc] [.int .i8 29, .int .i8 0, .int .i8 0, .int .i8 0, .int .i8 0, .int .i64 0, .int .i64 0, .int .i8 cc]) with h0 | h0
 ·have c1 := @fmay_any_ok cc
  let E2 : EL := E1 ++ List.replicate 6 (tC (eT h0)) ++ [.ret _ _ _ c1, tC h0, .inl, .inl]
  rcases bft (decide (to < 0)) with h2 | h2
  ·exact (o29 (d := .bool false) (E2 ++ List.replicate 3 (tC (eT (leL 0 h2))) ++ [tC (leL 0 h2), tF, tF, tT, tF, tF, tF, tF, tF, tF]) (by kernel_rfl)).to (by clear E1 E2; simp only [wk, D.bool.injEq, eq_irc, mayI_4, zeroX, h0, h2, Bool.true_and, Bool.false_and, Bool.and_true, Bool.and_false]; first | done | rfl | (rw [Bool.eq_iff_iff]; simp only [sl1, eq_irc, eqCells, eqCell, beq_self_eq_true, Bool.and_eq_false_iff, Bool.and_true] at *; first | done | omega | (intro hh; omega) | (simp; done) | (intro hh; simp at hh; omega) | (constructor <;> intro hh <;> omega)))
  let E3 : EL := E2 ++ List.replicate 3 (tC (eT (leL 0 h2))) ++ [tC (leL 0 h2)]
  rcases bft (decide (to < 65)) with h3 | h3
  ·rcases bft (ccM cc) with h4 | h4
   ·exact (o29 (d := .bool (eqCells [.int .i8 4, .int .i8 0, .int .i8 0, .int .i8 0, .int .i8 0, .int .i8 0, .int .i64 0, .int .i64 0, .int .i8 0, .int .i8 reg, .int .i8 phys, .int .i64 num, .int .i64 0] [.int .i8 4, .int .i8 0, .int .i8 0, .int .i8 0, .int .i8 0, .int .i8 0, .int .i64 0, .int .i64 0, .int .i8 0, .int .i8 0, .int .i8 0, .int .i64 0, .int .i64 0])) (E3 ++ [tC (eT (leC 64 h3)), tC (leC 64 h3), tT] ++ List.replicate 5 (tC (eT h4)) ++ [.flat _ _ flat_Ir, tC h4]) (by kernel_rfl)).to (by clear E1 E2 E3; simp only [wk, D.bool.injEq, eq_irc, mayI_4, zeroX, h0, h2, h3, h4, Bool.true_and, Bool.false_and, Bool.and_true, Bool.and_false]; first | done | rfl | (rw [Bool.eq_iff_iff]; simp only [sl1, eq_irc, eqCells, eqCell, beq_self_eq_true, Bool.and_eq_false_iff, Bool.and_true] at *; first | done | omega | (intro hh; omega) | (simp; done) | (intro hh; simp at hh; omega) | (constructor <;> intro hh <;> omega)))
   exact (o29 (d := .bool false) (E3 ++ [tC (eT (leC 64 h3)), tC (leC 64 h3), tT] ++ List.replicate 5 (tC (eT h4)) ++ [tC h4]) (by kernel_rfl)).to (by clear E1 E2 E3; simp only [wk, D.bool.injEq, eq_irc, mayI_4, zeroX, h0, h2, h3, h4, Bool.true_and, Bool.false_and, Bool.and_true, Bool.and_false]; first | done | rfl | (rw [Bool.eq_iff_iff]; simp only [sl1, eq_irc, eqCells, eqCell, beq_self_eq_true, Bool.and_eq_false_iff, Bool.and_true] at *; first | done | omega | (intro hh; omega) | (simp; done) | (intro hh; simp at hh; omega) | (constructor <;> intro hh <;> omega)))
  exact (o29 (d := .bool false) (E3 ++ [tC (eT (leC 64 h3)), tC (leC 64 h3), tT, tF, tF, tF, tF, tF, tF]) (by kernel_rfl)).to (by clear E1 E2 E3; simp only [wk, D.bool.injEq, eq_irc, mayI_4, zeroX, h0, h2, h3, Bool.true_and, Bool.false_and, Bool.and_true, Bool.and_false]; first | done | rfl | (rw [Bool.eq_iff_iff]; simp only [sl1, eq_irc, eqCells, eqCell, beq_self_eq_true, Bool.and_eq_false_iff, Bool.and_true] at *; first | done | omega | (intro hh; omega) | (simp; done) | (intro hh; simp at hh; omega) | (constructor <;> intro hh <;> omega)))
 let E4 : EL := E1 ++ List.replicate 6 (tC (eT h0)) ++ [tC h0, .inl, .inl]
 rcases bft (decide (to < 0)) with h5 | h5
 ·exact (o29 (d := .bool false) (E4 ++ List.replicate 3 (tC (eT (leL 0 h5))) ++ [tC (leL 0 h5), tF, tF, tT, tF, tF, tF, tF, tF, tF]) (by kernel_rfl)).to (by clear E1 E4; simp only [wk, D.bool.injEq, eq_irc, mayI_4, zeroX, h0, h5, Bool.true_and, Bool.false_and, Bool.and_true, Bool.and_false]; first | done | rfl | (rw [Bool.eq_iff_iff]; simp only [sl1, eq_irc, eqCells, eqCell, beq_self_eq_true, Bool.and_eq_false_iff, Bool.and_true] at *; first | done | omega | (intro hh; omega) | (simp; done) | (intro hh; simp at hh; omega) | (constructor <;> intro hh <;> omega)))
 rcases bft (decide (to < 65)) with h6 | h6
 ·exact (o29 (d := .bool false) (E4 ++ List.replicate 3 (tC (eT (leL 0 h5))) ++ [tC (leL 0 h5), tC (eT (leC 64 h6)), tC (leC 64 h6), tT, tF, tF, tF, tF, tF, tF]) (by kernel_rfl)).to (by clear E1 E4; simp only [wk, D.bool.injEq, eq_irc, mayI_4, zeroX, h0, h5, h6, Bool.true_and, Bool.false_and, Bool.and_true, Bool.and_false]; first | done | rfl | (rw [Bool.eq_iff_iff]; simp only [sl1, eq_irc, eqCells, eqCell, beq_self_eq_true, Bool.and_eq_false_iff, Bool.and_true] at *; first | done | omega | (intro hh; omega) | (simp; done) | (intro hh; simp at hh; omega) | (constructor <;> intro hh <;> omega)))
 exact (o29 (d := .bool false) (E4 ++ List.replicate 3 (tC (eT (leL 0 h5))) ++ [tC (leL 0 h5), tC (eT (leC 64 h6)), tC (leC 64 h6), tT, tF, tF, tF, tF, tF, tF]) (by kernel_rfl)).to (by clear E1 E4; simp only [wk, D.bool.injEq, eq_irc, mayI_4, zeroX, h0, h5, h6, Bool.true_and, Bool.false_and, Bool.and_true, Bool.and_false]; first | done | rfl | (rw [Bool.eq_iff_iff]; simp only [sl1, eq_irc, eqCells, eqCell, beq_self_eq_true, Bool.and_eq_false_iff, Bool.and_true] at *; first | done | omega | (intro hh; omega) | (simp; done) | (intro hh; simp at hh; omega) | (constructor <;> intro hh <;> omega)))
theorem imay_5_ok : SpI00 5 := by
 intro op w dst src base disp imm cc reg phys num to ho hc hp g0 g1
 let E1 : EL := ([.inl, .inl] ++ List.replicate 9 tT ++ [.get ([D.fn (Fn.func 129) [] [], D.fn (Fn.func 126) [] [], D.fn (Fn.func 126) [] [], D.fn (Fn.func 132) [] [], D.fn (Fn.func 133) [] [D.ptr false 2 0], D.fn (Fn.func 128) [] [], D.fn (Fn.func 134) [] []]) 5 (D.fn (Fn.func 128) [] []) rfl, tT, .inl, .inl])
 rcases bft (decide (to < 0)) with h0 | h0
 ·exact (o29 (d := .bool false) (E1 ++ List.replicate 3 (tC (eT (leL 0 h0))) ++ [tC (leL 0 h0), tT, tF, tF, tF, tF, tF, tF]) (by kernel_rfl)).to (by clear E1; simp only [wk, D.bool.injEq, eq_irc, mayI_5, zeroX, h0, Bool.true_and, Bool.false_and, Bool.and_true, Bool.and_false]; rw [Bool.eq_iff_iff]; simp only [sl1, eq_irc] at *; omega)
 rcases bft (decide (to < 65)) with h1 | h1
 ·exact (o29 (d := .bool (eqCells [.int .i8 5, .int .i8 op, .int .i8 w, .int .i8 dst, .int .i8 src, .int .i8 base, .int .i64 disp, .int .i64 imm, .int .i8 cc, .int .i8 reg, .int .i8 phys, .int .i64 num, .int .i64 0] [.int .i8 5, .int .i8 0, .int .i8 0, .int .i8 0, .int .i8 0, .int .i8 0, .int .i64 0, .int .i64 0, .int .i8 0, .int .i8 0, .int .i8 0, .int .i64 0, .int .i64 0])) (E1 ++ List.replicate 3 (tC (eT (leL 0 h0))) ++ [tC (leL 0 h0), tT] ++ List.replicate 5 (tC (eT (leC 64 h1))) ++ [.flat _ _ flat_Ir, tC (leC 64 h1)]) (by kernel_rfl)).to (by clear E1; simp only [wk, D.bool.injEq, eq_irc, mayI_5, zeroX, h0, h1, Bool.true_and, Bool.false_and, Bool.and_true, Bool.and_false]; rw [Bool.eq_iff_iff]; simp only [sl1, eq_irc] at *; omega)
 exact (o29 (d := .bool false) (E1 ++ List.replicate 3 (tC (eT (leL 0 h0))) ++ [tC (leL 0 h0), tT] ++ List.replicate 5 (tC (eT (leC 64 h1))) ++ [tC (leC 64 h1)]) (by kernel_rfl)).to (by clear E1; simp only [wk, D.bool.injEq, eq_irc, mayI_5, zeroX, h0, h1, Bool.true_and, Bool.false_and, Bool.and_true, Bool.and_false]; rw [Bool.eq_iff_iff]; simp only [sl1, eq_irc] at *; omega)
theorem imay_6_ok : SpI00 6 := by
 intro op w dst src base disp imm cc reg phys num to ho hc hp g0 g1
 exact (o29 (d := .bool (eqCells [.int .i8 6, .int .i8 op, .int .i8 w, .int .i8 dst, .int .i8 src, .int .i8 base, .int .i64 disp, .int .i64 imm, .int .i8 cc, .int .i8 reg, .int .i8 phys, .int .i64 num, .int .i64 to] [.int .i8 6, .int .i8 0, .int .i8 0, .int .i8 0, .int .i8 0, .int .i8 0, .int .i64 0, .int .i64 0, .int .i8 0, .int .i8 0, .int .i8 0, .int .i64 0, .int .i64 0])) ([.inl, .inl] ++ List.replicate 9 tT ++ [.get ([D.fn (Fn.func 129) [] [], D.fn (Fn.func 126) [] [], D.fn (Fn.func 126) [] [], D.fn (Fn.func 132) [] [], D.fn (Fn.func 133) [] [D.ptr false 2 0], D.fn (Fn.func 128) [] [], D.fn (Fn.func 134) [] []]) 6 (D.fn (Fn.func 134) [] []) rfl, tT, .inl, tT, tT, tT, tT, tT, tT, .flat _ _ flat_Ir, tT]) (by kernel_rfl)).to (by simp only [wk, D.bool.injEq, eq_irc, mayI_6, zeroX, Bool.true_and, Bool.false_and, Bool.and_true, Bool.and_false]; rw [Bool.eq_iff_iff]; simp only [sl1, eq_irc] at *; omega)
theorem imay_lo_ok (kind op w dst src base disp imm cc reg phys num to : Int) (h : kind < 0) (h2 : -128 ≤ kind) : Ret Tryz.prog 29 ([irD kind op w dst src base disp imm cc reg phys num to]) (.bool false) := by
 exact (o29 (d := .bool false) ([.inl, .inl] ++ List.replicate 3 (tC (eT (leL 0 (by (simp only [sl2] at *; omega) : (decide (IntKind.wrap IntKind.i64 kind < 0)) = true)))) ++ [tC (leL 0 (by (simp only [sl2] at *; omega) : (decide (IntKind.wrap IntKind.i64 kind < 0)) = true))] ++ List.replicate 12 tF) (by kernel_rfl)).to (by simp [wk])
theorem imay_hi_ok (kind op w dst src base disp imm cc reg phys num to : Int) (h : 7 ≤ kind) (h2 : kind ≤ 127) : Ret Tryz.prog 29 ([irD kind op w dst src base disp imm cc reg phys num to]) (.bool false) := by
 exact (o29 (d := .bool false) ([.inl, .inl] ++ List.replicate 3 (tC (eT (leL 0 (by (simp only [sl2] at *; omega) : (decide (IntKind.wrap IntKind.i64 kind < 0)) = false)))) ++ [tC (leL 0 (by (simp only [sl2] at *; omega) : (decide (IntKind.wrap IntKind.i64 kind < 0)) = false))] ++ List.replicate 5 (tC (eT (leC 6 (by (simp only [sl2] at *; omega) : (decide (IntKind.wrap IntKind.i64 kind < 7)) = false)))) ++ [tC (leC 6 (by (simp only [sl2] at *; omega) : (decide (IntKind.wrap IntKind.i64 kind < 7)) = false)), tF, tF, tF, tF, tF, tF]) (by kernel_rfl)).to (by simp [wk])
theorem istops_ok (kind op w dst src base disp imm cc reg phys num to : Int) (k0 : -128 ≤ kind) (k1 : kind ≤ 127) : Ret Tryz.prog 31 ([irD kind op w dst src base disp imm cc reg phys num to]) (.bool (stopsI kind op)) := by
 rcases bft (decide (IntKind.wrap IntKind.i64 kind < 3)) with h0 | h0
 ·let E1 : EL := ([.inl] ++ List.replicate 3 (tC (eT (leL 3 h0))) ++ [tC (leL 3 h0), tT, tT, tT, tT])
  by_cases h1 : kind = 0
  ·subst h1
   by_cases h2 : op = 26
   ·subst h2
    exact (o31 (d := .bool true) (E1 ++ [tT, tT, tT, tT, tT, tF, tF, tF, tF, tT, tT, tT, tT, tF]) (by kernel_rfl)).to (by clear E1; first | exact stops_op (by assumption) | (apply wk_bool; unfold stopsI; first | rfl | (simp; done) | skip; simp only [w_i64, beq_iff_eq, beq_eq_false_iff_ne, ne_eq, decide_eq_true_eq, decide_eq_false_iff_not] at *; first | (symm; rw [decide_eq_true_eq]; omega) | (symm; rw [decide_eq_false_iff_not]; omega) | (rw [Bool.eq_iff_iff]; simp only [beq_iff_eq, decide_eq_true_eq]; omega)))
   exact (o31 (d := .bool (op == 27)) (E1 ++ [tT, tT, tT, tT, tT] ++ List.replicate 4 (tC (eF (neOf h2))) ++ [tT, tC (neOf h2), tT, tT, tF]) (by kernel_rfl)).to (by clear E1; first | exact stops_op (by assumption) | (apply wk_bool; unfold stopsI; first | rfl | (simp; done) | skip; simp only [w_i64, beq_iff_eq, beq_eq_false_iff_ne, ne_eq, decide_eq_true_eq, decide_eq_false_iff_not] at *; first | (symm; rw [decide_eq_true_eq]; omega) | (symm; rw [decide_eq_false_iff_not]; omega) | (rw [Bool.eq_iff_iff]; simp only [beq_iff_eq, decide_eq_true_eq]; omega)))
  exact (o31 (d := .bool false) (E1 ++ List.replicate 6 (tC (eT (neOf h1))) ++ [tT, tC (neOf h1), tF]) (by kernel_rfl)).to (by clear E1; first | exact stops_op (by assumption) | (apply wk_bool; unfold stopsI; first | rfl | (simp; done) | skip; simp only [w_i64, beq_iff_eq, beq_eq_false_iff_ne, ne_eq, decide_eq_true_eq, decide_eq_false_iff_not] at *; first | (symm; rw [decide_eq_true_eq]; omega) | (symm; rw [decide_eq_false_iff_not]; omega) | (rw [Bool.eq_iff_iff]; simp only [beq_iff_eq, decide_eq_true_eq]; omega)))
 rcases bft (decide (IntKind.wrap IntKind.i64 kind < 7)) with h3 | h3
 ·exact (o31 (d := .bool true) ([.inl] ++ List.replicate 3 (tC (eT (leL 3 h0))) ++ [tC (leL 3 h0)] ++ List.replicate 5 (tC (eF (leC 6 h3))) ++ [tC (leC 6 h3)]) (by kernel_rfl)).to (by first | exact stops_op (by assumption) | (apply wk_bool; unfold stopsI; first | rfl | (simp; done) | skip; simp only [w_i64, beq_iff_eq, beq_eq_false_iff_ne, ne_eq, decide_eq_true_eq, decide_eq_false_iff_not] at *; first | (symm; rw [decide_eq_true_eq]; omega) | (symm; rw [decide_eq_false_iff_not]; omega) | (rw [Bool.eq_iff_iff]; simp only [beq_iff_eq, decide_eq_true_eq]; omega)))
 exact (o31 (d := .bool false) ([.inl] ++ List.replicate 3 (tC (eT (leL 3 h0))) ++ [tC (leL 3 h0)] ++ List.replicate 4 (tC (eF (leC 6 h3))) ++ List.replicate 6 (tC (eT (by (simp only [sl2] at *; omega) : (kind == 0) = false))) ++ [tC (eF (leC 6 h3)), tC (by (simp only [sl2] at *; omega) : (kind == 0) = false), tC (leC 6 h3)]) (by kernel_rfl)).to (by first | exact stops_op (by assumption) | (apply wk_bool; unfold stopsI; first | rfl | (simp; done) | skip; simp only [w_i64, beq_iff_eq, beq_eq_false_iff_ne, ne_eq, decide_eq_true_eq, decide_eq_false_iff_not] at *; first | (symm; rw [decide_eq_true_eq]; omega) | (symm; rw [decide_eq_false_iff_not]; omega) | (rw [Bool.eq_iff_iff]; simp only [beq_iff_eq, decide_eq_true_eq]; omega)))
end Go.Proofs.YtojgmjfcfpclbaaGreat

namespace Go.Ev
open Go
theorem wm1_nn {w : Int} (hw : longM w = true) : decide (0 ≤ IntKind.i8.wrap (w - 1)) = true := by
 rcases long_cases hw with rfl | rfl <;> rfl
theorem and8u (a : Int) : ((BitVec.ofInt 64 a &&& BitVec.ofInt 64 255).toNat : Int) = a % 256 := by have := and_ones 64 8 (by omega) a; exact this
theorem and16u (a : Int) : ((BitVec.ofInt 64 a &&& BitVec.ofInt 64 65535).toNat : Int) = a % 65536 := by have := and_ones 64 16 (by omega) a; exact this
theorem bit_at (v : Int) (i : Nat) : (BitVec.ofInt 64 v).getLsbD i = decide ((v % 18446744073709551616).toNat / 2 ^ i % 2 = 1) := by
 rw [← BitVec.testBit_toNat, toNat_ofInt, Nat.testBit_eq_decide_div_mod_eq]
 rfl
theorem neg32 (v : Int) : negM v 32 = (BitVec.ofInt 64 v).getLsbD 31 := by
 rw [bit_at, show negM v 32 = decide (IntKind.i64.wrap (u64 (IntKind.i32.wrap v)) < 0) from rfl, decide_eq_decide]
 unfold u64
 rw [w_i64, w_u64, w_i32]
 omega
theorem neg64 (v : Int) : negM v 64 = (BitVec.ofInt 64 v).getLsbD 63 := by
 rw [bit_at, show negM v 64 = decide (IntKind.i64.wrap v < 0) from rfl, decide_eq_decide]
 rw [w_i64]
 omega
def topM (v w : Int) : Bool := IntKind.u64.wrap ((BitVec.ofInt 64 (v.fdiv (2 ^ (min (IntKind.i8.wrap (w - 1)).toNat 64))) &&& BitVec.ofInt 64 1).toNat : Int) == 1
theorem and1 (a : Int) : ((BitVec.ofInt 64 a &&& BitVec.ofInt 64 1).toNat : Int) = a % 2 := by have := and_ones 64 1 (by omega) a; exact this
theorem top32 (v : Int) : topM v 32 = (BitVec.ofInt 64 v).getLsbD 31 := by
 have e : topM v 32 = (IntKind.u64.wrap ((BitVec.ofInt 64 (v.fdiv 2147483648) &&& BitVec.ofInt 64 1).toNat : Int) == 1) := rfl
 rw [e, and1, w_u64, Int.fdiv_eq_ediv_of_nonneg _ (by decide), bit_at, Bool.eq_iff_iff, beq_iff_eq, decide_eq_true_eq]
 omega
theorem top64 (v : Int) : topM v 64 = (BitVec.ofInt 64 v).getLsbD 63 := by
 have e : topM v 64 = (IntKind.u64.wrap ((BitVec.ofInt 64 (v.fdiv 9223372036854775808) &&& BitVec.ofInt 64 1).toNat : Int) == 1) := rfl
 rw [e, and1, w_u64, Int.fdiv_eq_ediv_of_nonneg _ (by decide), bit_at, Bool.eq_iff_iff, beq_iff_eq, decide_eq_true_eq]
 omega
theorem ofInt_u64 (n : Int) : BitVec.ofInt 64 (u64 n) = BitVec.ofInt 64 n := by
 apply BitVec.eq_of_toNat_eq
 rw [toNat_ofInt, toNat_ofInt]
 unfold u64
 rw [w_u64, show ((2 ^ 64 : Nat) : Int) = 18446744073709551616 from rfl, Int.emod_emod]
theorem ofInt_toNat (x : BitVec 64) : BitVec.ofInt 64 (x.toNat : Int) = x := by
 apply BitVec.eq_of_toNat_eq
 simp
theorem bit_xor (a b : Int) (i : Nat) : (BitVec.ofInt 64 (xor64 a b)).getLsbD i = ((BitVec.ofInt 64 a).getLsbD i != (BitVec.ofInt 64 b).getLsbD i) := by
 unfold xor64
 rw [ofInt_u64, ofInt_toNat, BitVec.getLsbD_xor]
theorem bit_and (a b : Int) (i : Nat) : (BitVec.ofInt 64 (and64u a b)).getLsbD i = ((BitVec.ofInt 64 a).getLsbD i && (BitVec.ofInt 64 b).getLsbD i) := by
 unfold and64u
 rw [ofInt_u64, ofInt_toNat, BitVec.getLsbD_and]
theorem addO_top {w a b : Int} (hw : longM w = true) : addO w a b = ((topM a w == topM b w) && (topM (u64 (a + b)) w != topM a w)) := by
 unfold addO
 rcases long_cases hw with rfl | rfl
 ·rw [neg32, bit_and, bit_xor, bit_xor, top32, top32, top32]
  cases (BitVec.ofInt 64 a).getLsbD 31 <;> cases (BitVec.ofInt 64 b).getLsbD 31 <;> cases (BitVec.ofInt 64 (u64 (a + b))).getLsbD 31 <;> rfl
 ·rw [neg64, bit_and, bit_xor, bit_xor, top64, top64, top64]
  cases (BitVec.ofInt 64 a).getLsbD 63 <;> cases (BitVec.ofInt 64 b).getLsbD 63 <;> cases (BitVec.ofInt 64 (u64 (a + b))).getLsbD 63 <;> rfl
theorem subO_top {w a b : Int} (hw : longM w = true) : subO w a b = ((topM a w != topM b w) && (topM (u64 (a - b)) w != topM a w)) := by
 unfold subO
 rcases long_cases hw with rfl | rfl
 ·rw [neg32, bit_and, bit_xor, bit_xor, top32, top32, top32]
  cases (BitVec.ofInt 64 a).getLsbD 31 <;> cases (BitVec.ofInt 64 b).getLsbD 31 <;> cases (BitVec.ofInt 64 (u64 (a - b))).getLsbD 31 <;> rfl
 ·rw [neg64, bit_and, bit_xor, bit_xor, top64, top64, top64]
  cases (BitVec.ofInt 64 a).getLsbD 63 <;> cases (BitVec.ofInt 64 b).getLsbD 63 <;> cases (BitVec.ofInt 64 (u64 (a - b))).getLsbD 63 <;> rfl
theorem neg_top {w v : Int} (hw : longM w = true) : negM v w = topM v w := by
 rcases long_cases hw with rfl | rfl
 ·rw [neg32, top32]
 ·rw [neg64, top64]
theorem top_cut {w v : Int} (hw : longM w = true) : topM (cutM v w) w = topM v w := by
 rcases long_cases hw with rfl | rfl
 ·rw [top32, top32, bit_at, bit_at, show cutM v 32 = v % 4294967296 from rfl, decide_eq_decide]
  omega
 ·rfl
theorem cut_add {w a b : Int} (hw : longM w = true) : cutM (u64 (cutM a w + cutM b w)) w = cutM (u64 (a + b)) w := by
 unfold u64
 rcases long_cases hw with rfl | rfl
 ·rw [w_u64, w_u64, show ∀ v, cutM v 32 = v % 4294967296 from fun _ => rfl]
  simp only [show ∀ v, cutM v 32 = v % 4294967296 from fun _ => rfl]
  omega
 ·rfl
theorem cut_sub {w a b : Int} (hw : longM w = true) : cutM (u64 (cutM a w - cutM b w)) w = cutM (u64 (a - b)) w := by
 unfold u64
 rcases long_cases hw with rfl | rfl
 ·rw [w_u64, w_u64, show ∀ v, cutM v 32 = v % 4294967296 from fun _ => rfl]
  simp only [show ∀ v, cutM v 32 = v % 4294967296 from fun _ => rfl]
  omega
 ·rfl
theorem sign32_t {v : Int} (h : topM (cutM v 32) 32 = true) : IntKind.u64.wrap (cutM v 32 - 4294967296) = signM v 32 := by
 rw [show signM v 32 = IntKind.u64.wrap (IntKind.i32.wrap v) from rfl]
 rw [top_cut rfl, top32, bit_at, decide_eq_true_eq] at h
 rw [show cutM v 32 = v % 4294967296 from rfl, w_u64, w_u64, w_i32]
 omega
theorem sign32_f {v : Int} (h : topM (cutM v 32) 32 = false) : cutM v 32 = signM v 32 := by
 rw [show signM v 32 = IntKind.u64.wrap (IntKind.i32.wrap v) from rfl]
 rw [top_cut rfl, top32, bit_at, decide_eq_false_iff_not] at h
 rw [show cutM v 32 = v % 4294967296 from rfl, w_u64, w_i32]
 omega
theorem sign32_t' {v : Int} (h : IntKind.u64.wrap ((BitVec.ofInt 64 ((cutM v 32).fdiv 2147483648) &&& BitVec.ofInt 64 1).toNat : Int) = 1) : IntKind.u64.wrap (cutM v 32 - 4294967296) = signM v 32 := by
 refine sign32_t ?_
 have e : topM (cutM v 32) 32 = (IntKind.u64.wrap ((BitVec.ofInt 64 ((cutM v 32).fdiv 2147483648) &&& BitVec.ofInt 64 1).toNat : Int) == 1) := rfl
 rw [e, h]
 rfl
theorem sign32_f' {v : Int} (h : ¬ IntKind.u64.wrap ((BitVec.ofInt 64 ((cutM v 32).fdiv 2147483648) &&& BitVec.ofInt 64 1).toNat : Int) = 1) : cutM v 32 = signM v 32 := by
 refine sign32_f ?_
 have e : topM (cutM v 32) 32 = (IntKind.u64.wrap ((BitVec.ofInt 64 ((cutM v 32).fdiv 2147483648) &&& BitVec.ofInt 64 1).toNat : Int) == 1) := rfl
 rw [e]
 exact beq_eq_false_iff_ne.mpr h
end Go.Ev

namespace Go.Proofs.YtojgmjfcfpclbaaGreat
open Go Go.Ev
set_option maxRecDepth 100000
set_option maxHeartbeats 8000000
theorem rlong01_ok (w : Int) : Ret Tryz.prog 88 ([.int .i8 w]) (.bool (longM w)) := by
 by_cases h0 : w = 32
 ·subst h0
  exact (o88 (d := .bool true) [tF, tF, tT] (by kernel_rfl)).to (by simp only [wk, D.bool.injEq, longM]; first | rfl | (rw [Bool.eq_iff_iff]; simp []; try omega))
 exact (o88 (d := .bool (w == 64)) [tC (eF (neOf h0)), tC (eF (neOf h0)), tC (neOf h0)] (by kernel_rfl)).to (by simp only [wk, D.bool.injEq, longM]; first | rfl | (rw [Bool.eq_iff_iff]; simp [h0]; try omega))
theorem rcut_8_ok (v : Int) : Ret Tryz.prog 64 ([.int .u64 v, .int .i8 8]) (.int .u64 (cutM v 8)) := by
 have c0 := @rwidth_ok 8
 exact (o64 (d := .int .u64 (IntKind.wrap IntKind.u64 (↑(BitVec.toNat (BitVec.ofInt (64 : Nat) v &&& BitVec.ofInt (64 : Nat) 255)) : Int))) [.ret _ _ _ c0, tT, tT, tF, tF, tT] (by kernel_rfl)).to (by first | rfl | (simp only [wk, D.int.injEq, true_and, and8u, show cutM v 8 = v % 256 from rfl]; rw [w_u64]; omega))
theorem rcut_16_ok (v : Int) : Ret Tryz.prog 64 ([.int .u64 v, .int .i8 16]) (.int .u64 (cutM v 16)) := by
 have c0 := @rwidth_ok 16
 exact (o64 (d := .int .u64 (IntKind.wrap IntKind.u64 (↑(BitVec.toNat (BitVec.ofInt (64 : Nat) v &&& BitVec.ofInt (64 : Nat) 65535)) : Int))) [.ret _ _ _ c0, tT, tT, tF, tF, tT] (by kernel_rfl)).to (by first | rfl | (simp only [wk, D.int.injEq, true_and, and16u, show cutM v 16 = v % 65536 from rfl]; rw [w_u64]; omega))
theorem rcut_32_ok (v : Int) : Ret Tryz.prog 64 ([.int .u64 v, .int .i8 32]) (.int .u64 (cutM v 32)) := by
 have c0 := @rwidth_ok 32
 exact (o64 (d := .int .u64 (IntKind.wrap IntKind.u64 (↑(BitVec.toNat (BitVec.ofInt (64 : Nat) v &&& BitVec.ofInt (64 : Nat) 4294967295)) : Int))) [.ret _ _ _ c0, tT, tT, tF, tF, tT] (by kernel_rfl)).to (by first | rfl | (simp only [wk, D.int.injEq, true_and, and32, show cutM v 32 = v % 4294967296 from rfl]; rw [w_u64]; omega))
theorem rcut_64_ok (v : Int) : Ret Tryz.prog 64 ([.int .u64 v, .int .i8 64]) (.int .u64 (cutM v 64)) := by
 have c0 := @rwidth_ok 64
 exact (o64 (d := .int .u64 v) [.ret _ _ _ c0, tT, tT, tF, tT] (by kernel_rfl)).to (by rfl)
end Go.Proofs.YtojgmjfcfpclbaaGreat

namespace Go.Proofs.YtojgmjfcfpclbaaGreat
open Go Go.Ev
theorem rcut_ok (v w : Int) (hw : widthM w = true) : Ret Tryz.prog 64 [.int .u64 v, .int .i8 w] (.int .u64 (cutM v w)) := by
 rcases width_cases hw with rfl | rfl | rfl | rfl
 ·exact rcut_8_ok v
 ·exact rcut_16_ok v
 ·exact rcut_32_ok v
 ·exact rcut_64_ok v
theorem rcut_l_ok (v w : Int) (hw : longM w = true) : Ret Tryz.prog 64 [.int .u64 v, .int .i8 w] (.int .u64 (cutM v w)) :=
 rcut_ok v w (by rcases long_cases hw with rfl | rfl <;> rfl)
end Go.Proofs.YtojgmjfcfpclbaaGreat

namespace Go.Proofs.YtojgmjfcfpclbaaGreat
open Go Go.Ev
set_option maxRecDepth 100000
set_option maxHeartbeats 8000000
def SpZR20 (k0_ : Int) : Prop := ∀ (w a b : Int) (hw : longM w = true), Ret Tryz.prog 42 ([.int .i8 k0_, .int .i8 w, .int .u64 a, .int .u64 b]) (.tup [.int .u64 (doM k0_ w a b), .int .i64 0])
theorem rdo_0_ok : SpZR20 0 := by
 intro w a b hw
 have c0 := @rlong01_ok w
 rw [show (longM w) = true from hw] at c0
 have c1 := @rcut_l_ok a w hw
 have c2 := @rcut_l_ok b w hw
 have c3 := @rcut_l_ok (IntKind.wrap IntKind.u64 (cutM a w + cutM b w)) w hw
 exact (o42 (d := .tup [.int .u64 (cutM (IntKind.wrap IntKind.u64 (cutM a w + cutM b w)) w), .int .i64 0]) [tT, tT, tF, tT, tT, .ret _ _ _ c0, tT, tF, tF, .ret _ _ _ c1, .ret _ _ _ c2, tT, .ret _ _ _ c3] (by kernel_rfl)).to (by ((simp only [wk, wkL, and_true]; repeat' (first | rfl | exact True.intro | apply And.intro)); done))
theorem rdo_1_ok : SpZR20 1 := by
 intro w a b hw
 have c0 := @rlong01_ok w
 rw [show (longM w) = true from hw] at c0
 have c1 := @rcut_l_ok a w hw
 have c2 := @rcut_l_ok b w hw
 have c3 := @rcut_l_ok (IntKind.wrap IntKind.u64 (cutM a w - cutM b w)) w hw
 exact (o42 (d := .tup [.int .u64 (cutM (IntKind.wrap IntKind.u64 (cutM a w - cutM b w)) w), .int .i64 0]) [tT, tT, tF, tT, tT, .ret _ _ _ c0, tT, tF, tF, .ret _ _ _ c1, .ret _ _ _ c2, tF, tT, .ret _ _ _ c3] (by kernel_rfl)).to (by ((simp only [wk, wkL, and_true]; repeat' (first | rfl | exact True.intro | apply And.intro)); done))
theorem rdo_2_ok : SpZR20 2 := by
 intro w a b hw
 have c0 := @rlong01_ok w
 rw [show (longM w) = true from hw] at c0
 have c1 := @rcut_l_ok a w hw
 have c2 := @rcut_l_ok b w hw
 have c3 := @rcut_l_ok (IntKind.wrap IntKind.u64 (cutM a w * cutM b w)) w hw
 exact (o42 (d := .tup [.int .u64 (cutM (IntKind.wrap IntKind.u64 (cutM a w * cutM b w)) w), .int .i64 0]) [tT, tT, tF, tT, tT, .ret _ _ _ c0, tT, tF, tF, .ret _ _ _ c1, .ret _ _ _ c2, tF, tF, tT, .ret _ _ _ c3] (by kernel_rfl)).to (by ((simp only [wk, wkL, and_true]; repeat' (first | rfl | exact True.intro | apply And.intro)); done))
theorem rdo_4_ok : SpZR20 4 := by
 intro w a b hw
 have c0 := @rlong01_ok w
 rw [show (longM w) = true from hw] at c0
 have c1 := @rcut_l_ok a w hw
 have c2 := @rcut_l_ok b w hw
 have c3 := @rcut_l_ok (IntKind.wrap IntKind.u64 (↑(BitVec.toNat (BitVec.ofInt (64 : Nat) (cutM a w) ||| BitVec.ofInt (64 : Nat) (cutM b w))) : Int)) w hw
 exact (o42 (d := .tup [.int .u64 (cutM (IntKind.wrap IntKind.u64 (↑(BitVec.toNat (BitVec.ofInt (64 : Nat) (cutM a w) ||| BitVec.ofInt (64 : Nat) (cutM b w))) : Int)) w), .int .i64 0]) [tT, tT, tF, tT, tT, .ret _ _ _ c0, tT, tF, tF, .ret _ _ _ c1, .ret _ _ _ c2, tF, tF, tF, tF, tF, tT, .ret _ _ _ c3] (by kernel_rfl)).to (by ((simp only [wk, wkL, and_true]; repeat' (first | rfl | exact True.intro | apply And.intro)); done))
theorem rdo_5_ok : SpZR20 5 := by
 intro w a b hw
 have c0 := @rlong01_ok w
 rw [show (longM w) = true from hw] at c0
 have c1 := @rcut_l_ok a w hw
 have c2 := @rcut_l_ok b w hw
 have c3 := @rcut_l_ok (IntKind.wrap IntKind.u64 (↑(BitVec.toNat (BitVec.ofInt (64 : Nat) (cutM a w) &&& BitVec.ofInt (64 : Nat) (cutM b w))) : Int)) w hw
 exact (o42 (d := .tup [.int .u64 (cutM (IntKind.wrap IntKind.u64 (↑(BitVec.toNat (BitVec.ofInt (64 : Nat) (cutM a w) &&& BitVec.ofInt (64 : Nat) (cutM b w))) : Int)) w), .int .i64 0]) [tT, tT, tF, tT, tT, .ret _ _ _ c0, tT, tF, tF, .ret _ _ _ c1, .ret _ _ _ c2, tF, tF, tF, tF, tF, tF, tT, .ret _ _ _ c3] (by kernel_rfl)).to (by ((simp only [wk, wkL, and_true]; repeat' (first | rfl | exact True.intro | apply And.intro)); done))
theorem rdo_6_ok : SpZR20 6 := by
 intro w a b hw
 have c0 := @rlong01_ok w
 rw [show (longM w) = true from hw] at c0
 have c1 := @rcut_l_ok a w hw
 have c2 := @rcut_l_ok b w hw
 have c3 := @rcut_l_ok (IntKind.wrap IntKind.u64 (cutM a w * 2 ^ min (Int.toNat (IntKind.wrap IntKind.u64 (↑(BitVec.toNat (BitVec.ofInt (64 : Nat) (cutM b w) &&& BitVec.ofInt (64 : Nat) (IntKind.wrap IntKind.u64 (IntKind.wrap IntKind.i8 (w - 1))))) : Int))) (64 : Nat))) w hw
 exact (o42 (d := .tup [.int .u64 (cutM (IntKind.wrap IntKind.u64 (cutM a w * 2 ^ min (Int.toNat (IntKind.wrap IntKind.u64 (↑(BitVec.toNat (BitVec.ofInt (64 : Nat) (cutM b w) &&& BitVec.ofInt (64 : Nat) (IntKind.wrap IntKind.u64 (IntKind.wrap IntKind.i8 (w - 1))))) : Int))) (64 : Nat))) w), .int .i64 0]) ([tT, tT, tF, tT, tT, .ret _ _ _ c0, tT, tF, tF, .ret _ _ _ c1, .ret _ _ _ c2] ++ List.replicate 8 tF ++ [tT, tT, .ret _ _ _ c3]) (by kernel_rfl)).to (by ((simp only [wk, wkL, and_true]; repeat' (first | rfl | exact True.intro | apply And.intro)); done))
theorem rdo_7_ok : SpZR20 7 := by
 intro w a b hw
 have c0 := @rlong01_ok w
 rw [show (longM w) = true from hw] at c0
 have c1 := @rcut_l_ok a w hw
 have c2 := @rcut_l_ok b w hw
 have c3 := @rcut_l_ok (Int.fdiv (cutM a w) (2 ^ min (Int.toNat (IntKind.wrap IntKind.u64 (↑(BitVec.toNat (BitVec.ofInt (64 : Nat) (cutM b w) &&& BitVec.ofInt (64 : Nat) (IntKind.wrap IntKind.u64 (IntKind.wrap IntKind.i8 (w - 1))))) : Int))) (64 : Nat))) w hw
 exact (o42 (d := .tup [.int .u64 (cutM (Int.fdiv (cutM a w) (2 ^ min (Int.toNat (IntKind.wrap IntKind.u64 (↑(BitVec.toNat (BitVec.ofInt (64 : Nat) (cutM b w) &&& BitVec.ofInt (64 : Nat) (IntKind.wrap IntKind.u64 (IntKind.wrap IntKind.i8 (w - 1))))) : Int))) (64 : Nat))) w), .int .i64 0]) ([tT, tT, tF, tT, tT, .ret _ _ _ c0, tT, tF, tF, .ret _ _ _ c1, .ret _ _ _ c2] ++ List.replicate 9 tF ++ [tT, tT, .ret _ _ _ c3]) (by kernel_rfl)).to (by ((simp only [wk, wkL, and_true]; repeat' (first | rfl | exact True.intro | apply And.intro)); done))
theorem rdo_8_ok : SpZR20 8 := by
 intro w a b hw
 have c0 := @rlong01_ok w
 rw [show (longM w) = true from hw] at c0
 have c1 := @rcut_l_ok a w hw
 have c2 := @rcut_l_ok b w hw
 have c3 := @rcut_l_ok (IntKind.wrap IntKind.u64 (0 - cutM a w)) w hw
 exact (o42 (d := .tup [.int .u64 (cutM (IntKind.wrap IntKind.u64 (0 - cutM a w)) w), .int .i64 0]) ([tT, tT, tF, tT, tT, .ret _ _ _ c0, tT, tF, tF, .ret _ _ _ c1, .ret _ _ _ c2] ++ List.replicate 11 tF ++ [tT, .ret _ _ _ c3]) (by kernel_rfl)).to (by ((simp only [wk, wkL, and_true]; repeat' (first | rfl | exact True.intro | apply And.intro)); done))
theorem rdo_10_ok : SpZR20 10 := by
 intro w a b hw
 have c0 := @rlong01_ok w
 rw [show (longM w) = true from hw] at c0
 have c1 := @rcut_l_ok a w hw
 have c2 := @rcut_l_ok b w hw
 have c3 := @rcut_l_ok (IntKind.wrap IntKind.u64 (↑(BitVec.toNat (BitVec.ofInt (64 : Nat) (cutM a w) ^^^ BitVec.ofInt (64 : Nat) (cutM b w))) : Int)) w hw
 exact (o42 (d := .tup [.int .u64 (cutM (IntKind.wrap IntKind.u64 (↑(BitVec.toNat (BitVec.ofInt (64 : Nat) (cutM a w) ^^^ BitVec.ofInt (64 : Nat) (cutM b w))) : Int)) w), .int .i64 0]) [tT, tT, tF, tT, tT, .ret _ _ _ c0, tT, tF, tF, .ret _ _ _ c1, .ret _ _ _ c2, tF, tF, tF, tF, tF, tF, tF, tT, .ret _ _ _ c3] (by kernel_rfl)).to (by ((simp only [wk, wkL, and_true]; repeat' (first | rfl | exact True.intro | apply And.intro)); done))
theorem rtop_ok (v w : Int) (hw : longM w = true) : Ret Tryz.prog 124 ([.int .u64 v, .int .i8 w]) (.bool (topM v w)) := by
 exact (o124 (d := .bool (IntKind.wrap IntKind.u64 (↑(BitVec.toNat (BitVec.ofInt (64 : Nat) (Int.fdiv v (2 ^ min (Int.toNat (IntKind.wrap IntKind.i8 (w - 1))) (64 : Nat))) &&& BitVec.ofInt (64 : Nat) 1)) : Int) == 1)) [tC (v := true) (@wm1_nn w hw)] (by kernel_rfl)).to (by ((simp only [wk, wkL, and_true]; repeat' (first | rfl | exact True.intro | apply And.intro)); done))
theorem rwidth14_ok (w : Int) : Ret Tryz.prog 122 ([.int .i8 w]) (.bool (longM w)) := by
 by_cases h0 : w = 32
 ·subst h0
  exact (o122 (d := .bool true) [tF, tF, tT] (by kernel_rfl)).to (by simp only [wk, D.bool.injEq, longM]; rfl)
 exact (o122 (d := .bool (w == 64)) [tC (eF (neOf h0)), tC (eF (neOf h0)), tC (neOf h0)] (by kernel_rfl)).to (by simp only [wk, D.bool.injEq, longM]; (rw [Bool.eq_iff_iff]; simp [h0]; try omega))
theorem rnone_ok  : Ret Tryz.prog 66 ([]) (fD false false false false false) := by
 exact (o66 (d := .agg [.bool false, .bool false, .bool false, .bool false, .bool false]) [] (by kernel_rfl)).to (by ((simp only [wk, wkL, and_true]; repeat' (first | rfl | exact True.intro | apply And.intro)); done))
theorem rmade_ok (w v : Int) (c o : Bool) (hw : longM w = true) : Ret Tryz.prog 123 ([.int .i8 w, .int .u64 v, .bool c, .bool o]) (fD true c (cutM v w == 0) (topM (cutM v w) w) o) := by
 have c0 := @rcut_l_ok v w hw
 have c1 := @rtop_ok (cutM v w) w hw
 exact (o123 (d := .agg [.bool true, .bool c, .bool (cutM v w == 0), .bool (topM (cutM v w) w), .bool o]) [.ret _ _ _ c0, .ret _ _ _ c1] (by kernel_rfl)).to (by ((simp only [wk, wkL, and_true]; repeat' (first | rfl | exact True.intro | apply And.intro)); done))
theorem rof_ok (w v : Int) (hw : longM w = true) : Ret Tryz.prog 121 ([.int .i8 w, .int .u64 v]) (.tup [fD true false (cutM v w == 0) (negM v w) false, .int .i64 0]) := by
 have c0 := @rwidth14_ok w
 rw [show (longM w) = true from hw] at c0
 have c1 := @rmade_ok w v false false hw
 exact (o121 (d := .tup [.agg [.bool true, .bool false, .bool (cutM v w == 0), .bool (topM (cutM v w) w), .bool false], .int .i64 0]) [.ret _ _ _ c0, tF, .ret _ _ _ c1] (by kernel_rfl)).to (by simp only [wk, wkL, and_true, fD]; rw [top_cut hw, ← neg_top hw]; simp [wk, wkL])
end Go.Proofs.YtojgmjfcfpclbaaGreat

namespace Go.Proofs.YtojgmjfcfpclbaaGreat
open Go Go.Ev
set_option maxRecDepth 100000
set_option maxHeartbeats 8000000
theorem radd_ok (w a b : Int) (hw : longM w = true) : Ret Tryz.prog 120 ([.int .i8 w, .int .u64 a, .int .u64 b]) (.tup [fD true (addC w a b) (cutM (u64 (a + b)) w == 0) (negM (u64 (a + b)) w) (addO w a b), .int .i64 0]) := by
 have c0 := @rwidth14_ok w
 rw [show (longM w) = true from hw] at c0
 have c1 := @rcut_l_ok a w hw
 have c2 := @rcut_l_ok b w hw
 have c3 := @rcut_l_ok (IntKind.wrap IntKind.u64 (cutM a w + cutM b w)) w hw
 have c4 := @rtop_ok (cutM a w) w hw
 have c5 := @rtop_ok (cutM b w) w hw
 let E1 : EL := [.ret _ _ _ c0, tF, .ret _ _ _ c1, .ret _ _ _ c2, .ret _ _ _ c3, .ret _ _ _ c4, .ret _ _ _ c5]
 rcases bft (topM (cutM a w) w == topM (cutM b w) w) with h6 | h6
 ·have c7 := @rtop_ok (cutM (IntKind.wrap IntKind.u64 (cutM a w + cutM b w)) w) w hw
  have c8 := @rtop_ok (cutM a w) w hw
  have c9 := @rmade_ok w (cutM (IntKind.wrap IntKind.u64 (cutM a w + cutM b w)) w) (decide (cutM (IntKind.wrap IntKind.u64 (cutM a w + cutM b w)) w < cutM a w)) (!topM (cutM (IntKind.wrap IntKind.u64 (cutM a w + cutM b w)) w) w == topM (cutM a w) w) hw
  exact (o120 (d := .tup [.agg [.bool true, .bool (decide (cutM (IntKind.wrap IntKind.u64 (cutM a w + cutM b w)) w < cutM a w)), .bool (cutM (cutM (IntKind.wrap IntKind.u64 (cutM a w + cutM b w)) w) w == 0), .bool (topM (cutM (cutM (IntKind.wrap IntKind.u64 (cutM a w + cutM b w)) w) w) w), .bool !topM (cutM (IntKind.wrap IntKind.u64 (cutM a w + cutM b w)) w) w == topM (cutM a w) w], .int .i64 0]) (E1 ++ [tC (eT h6), tC (eT h6), tC (eT h6), .ret _ _ _ c7, tC (eT h6), tC (eT h6), tC (eT h6), .ret _ _ _ c8, tC (eT h6), tC h6, .ret _ _ _ c9]) (by kernel_rfl)).to (by clear E1; simp only [wk, wkL, and_true, true_and, fD, D.bool.injEq, addC, addO_top hw]; have e : cutM (IntKind.u64.wrap (cutM a w + cutM b w)) w = cutM (u64 (a + b)) w := cut_add hw; simp only [e, cut_cut, top_cut hw, neg_top hw] at *; clear e; (try clear c0 c1 c2 c3 c4 c5); (try clear c7); (try clear c8); (try clear c9); generalize topM a w = x at *; generalize topM b w = y at *; generalize topM (u64 (a + b)) w = z at *; cases x <;> cases y <;> cases z <;> simp_all)
 have c10 := @rmade_ok w (cutM (IntKind.wrap IntKind.u64 (cutM a w + cutM b w)) w) (decide (cutM (IntKind.wrap IntKind.u64 (cutM a w + cutM b w)) w < cutM a w)) false hw
 exact (o120 (d := .tup [.agg [.bool true, .bool (decide (cutM (IntKind.wrap IntKind.u64 (cutM a w + cutM b w)) w < cutM a w)), .bool (cutM (cutM (IntKind.wrap IntKind.u64 (cutM a w + cutM b w)) w) w == 0), .bool (topM (cutM (cutM (IntKind.wrap IntKind.u64 (cutM a w + cutM b w)) w) w) w), .bool false], .int .i64 0]) (E1 ++ List.replicate 7 (tC (eT h6)) ++ [tC h6, .ret _ _ _ c10]) (by kernel_rfl)).to (by clear E1; simp only [wk, wkL, and_true, true_and, fD, D.bool.injEq, addC, addO_top hw]; have e : cutM (IntKind.u64.wrap (cutM a w + cutM b w)) w = cutM (u64 (a + b)) w := cut_add hw; simp only [e, cut_cut, top_cut hw, neg_top hw] at *; clear e; (try clear c0 c1 c2 c3 c4 c5); (try clear c7); (try clear c8); (try clear c9); generalize topM a w = x at *; generalize topM b w = y at *; generalize topM (u64 (a + b)) w = z at *; cases x <;> cases y <;> cases z <;> simp_all)
theorem rsub_ok (w a b : Int) (hw : longM w = true) : Ret Tryz.prog 65 ([.int .i8 w, .int .u64 a, .int .u64 b]) (.tup [fD true (subC w a b) (cutM (u64 (a - b)) w == 0) (negM (u64 (a - b)) w) (subO w a b), .int .i64 0]) := by
 have c0 := @rwidth14_ok w
 rw [show (longM w) = true from hw] at c0
 have c1 := @rcut_l_ok a w hw
 have c2 := @rcut_l_ok b w hw
 have c3 := @rcut_l_ok (IntKind.wrap IntKind.u64 (cutM a w - cutM b w)) w hw
 have c4 := @rtop_ok (cutM a w) w hw
 have c5 := @rtop_ok (cutM b w) w hw
 let E1 : EL := [.ret _ _ _ c0, tF, .ret _ _ _ c1, .ret _ _ _ c2, .ret _ _ _ c3, .ret _ _ _ c4, .ret _ _ _ c5]
 rcases bft (topM (cutM a w) w == topM (cutM b w) w) with h6 | h6
 ·have c7 := @rmade_ok w (cutM (IntKind.wrap IntKind.u64 (cutM a w - cutM b w)) w) (decide (cutM a w < cutM b w)) false hw
  exact (o65 (d := .tup [.agg [.bool true, .bool (decide (cutM a w < cutM b w)), .bool (cutM (cutM (IntKind.wrap IntKind.u64 (cutM a w - cutM b w)) w) w == 0), .bool (topM (cutM (cutM (IntKind.wrap IntKind.u64 (cutM a w - cutM b w)) w) w) w), .bool false], .int .i64 0]) (E1 ++ List.replicate 7 (tC (eT (nt h6))) ++ [tC (nt h6), .ret _ _ _ c7]) (by kernel_rfl)).to (by clear E1; simp only [wk, wkL, and_true, true_and, fD, D.bool.injEq, subC, subO_top hw]; have e : cutM (IntKind.u64.wrap (cutM a w - cutM b w)) w = cutM (u64 (a - b)) w := cut_sub hw; simp only [e, cut_cut, top_cut hw, neg_top hw] at *; clear e; (try clear c0 c1 c2 c3 c4 c5); (try clear c7); (try clear c8); (try clear c9); generalize topM a w = x at *; generalize topM b w = y at *; generalize topM (u64 (a - b)) w = z at *; cases x <;> cases y <;> cases z <;> simp_all)
 have c8 := @rtop_ok (cutM (IntKind.wrap IntKind.u64 (cutM a w - cutM b w)) w) w hw
 have c9 := @rtop_ok (cutM a w) w hw
 have c10 := @rmade_ok w (cutM (IntKind.wrap IntKind.u64 (cutM a w - cutM b w)) w) (decide (cutM a w < cutM b w)) (!topM (cutM (IntKind.wrap IntKind.u64 (cutM a w - cutM b w)) w) w == topM (cutM a w) w) hw
 exact (o65 (d := .tup [.agg [.bool true, .bool (decide (cutM a w < cutM b w)), .bool (cutM (cutM (IntKind.wrap IntKind.u64 (cutM a w - cutM b w)) w) w == 0), .bool (topM (cutM (cutM (IntKind.wrap IntKind.u64 (cutM a w - cutM b w)) w) w) w), .bool !topM (cutM (IntKind.wrap IntKind.u64 (cutM a w - cutM b w)) w) w == topM (cutM a w) w], .int .i64 0]) (E1 ++ List.replicate 3 (tC (eT (nt h6))) ++ [.ret _ _ _ c8] ++ List.replicate 3 (tC (eT (nt h6))) ++ [.ret _ _ _ c9, tC (eT (nt h6)), tC (nt h6), .ret _ _ _ c10]) (by kernel_rfl)).to (by clear E1; simp only [wk, wkL, and_true, true_and, fD, D.bool.injEq, subC, subO_top hw]; have e : cutM (IntKind.u64.wrap (cutM a w - cutM b w)) w = cutM (u64 (a - b)) w := cut_sub hw; simp only [e, cut_cut, top_cut hw, neg_top hw] at *; clear e; (try clear c0 c1 c2 c3 c4 c5); (try clear c7); (try clear c8); (try clear c9); generalize topM a w = x at *; generalize topM b w = y at *; generalize topM (u64 (a - b)) w = z at *; cases x <;> cases y <;> cases z <;> simp_all)
end Go.Proofs.YtojgmjfcfpclbaaGreat

namespace Go.Proofs.YtojgmjfcfpclbaaGreat
open Go Go.Ev
set_option maxRecDepth 100000
set_option maxHeartbeats 8000000
theorem rsign_32_ok (v : Int) : Ret Tryz.prog 89 ([.int .u64 v, .int .i8 32]) (.int .u64 (signM v 32)) := by
 have c0 := @rwidth_ok 32
 have c1 := @rcut_l_ok v 32 (rfl : true = true)
 by_cases h2 : IntKind.wrap IntKind.u64 (↑(BitVec.toNat (BitVec.ofInt (64 : Nat) (Int.fdiv (cutM v 32) 2147483648) &&& BitVec.ofInt (64 : Nat) 1)) : Int) = 1
 ·exact (o89 (d := .int .u64 (IntKind.wrap IntKind.u64 (cutM v 32 - 4294967296))) [.ret _ _ _ c0, tF, .ret _ _ _ c1, tT, tC (eT (eqI 1 true h2)), tC (eT (eqI 1 true h2)), tC (eqI 1 true h2), tT, tT] (by kernel_rfl)).to (by simp only [wk, D.int.injEq, true_and]; first | rfl | exact sign32_t' h2 | exact sign32_f' h2)
 exact (o89 (d := .int .u64 (cutM v 32)) [.ret _ _ _ c0, tF, .ret _ _ _ c1, tT, tC (eT (neOf h2)), tC (eT (neOf h2)), tC (neOf h2), tF] (by kernel_rfl)).to (by simp only [wk, D.int.injEq, true_and]; first | rfl | exact sign32_t' h2 | exact sign32_f' h2)
theorem rsign_64_ok (v : Int) : Ret Tryz.prog 89 ([.int .u64 v, .int .i8 64]) (.int .u64 (signM v 64)) := by
 have c0 := @rwidth_ok 64
 have c1 := @rcut_l_ok v 64 (rfl : true = true)
 by_cases h2 : IntKind.wrap IntKind.u64 (↑(BitVec.toNat (BitVec.ofInt (64 : Nat) (Int.fdiv (cutM v 64) 9223372036854775808) &&& BitVec.ofInt (64 : Nat) 1)) : Int) = 1
 ·exact (o89 (d := .int .u64 (cutM v 64)) [.ret _ _ _ c0, tF, .ret _ _ _ c1, tT, tC (eT (eqI 1 true h2)), tC (eT (eqI 1 true h2)), tC (eqI 1 true h2), tF] (by kernel_rfl)).to (by simp only [wk, D.int.injEq, true_and]; first | rfl | exact sign32_t' h2 | exact sign32_f' h2)
 exact (o89 (d := .int .u64 (cutM v 64)) [.ret _ _ _ c0, tF, .ret _ _ _ c1, tT, tC (eT (neOf h2)), tC (eT (neOf h2)), tC (neOf h2), tF] (by kernel_rfl)).to (by simp only [wk, D.int.injEq, true_and]; first | rfl | exact sign32_t' h2 | exact sign32_f' h2)
def SpZR40 (k0_ : Int) : Prop := ∀ (c z s o : Bool), Ret Tryz.prog 67 ([.int .i8 k0_, fD true c z s o]) (.tup [.bool (holdM k0_ c z s o), .int .i64 0])
theorem rholds_2_ok : SpZR40 2 := by
 intro c z s o
 exact (o67 (d := .tup [.bool !c == false, .int .i64 0]) [.inl, tT, tT, tF, tF, tT] (by kernel_rfl)).to (by (try cases c) <;> (try cases z) <;> (try cases s) <;> (try cases o) <;> first | (simp [wk, wkL, holdM]; done) | rfl | exact ⟨rfl, rfl, trivial⟩)
def SpZR41 (k0_ : Int) : Prop := ∀ (c z s o : Bool), Ret Tryz.prog 67 ([.int .i8 k0_, fD false c z s o]) (.tup [.bool false, .int .i64 20])
theorem rholds_n2_ok : SpZR41 2 := by
 intro c z s o
 exact (o67 (d := .tup [.bool false, .int .i64 20]) [.inl, tT, tT, tF, tT] (by kernel_rfl)).to (by simp [wk, wkL])
theorem rholds_3_ok : SpZR40 3 := by
 intro c z s o
 exact (o67 (d := .tup [.bool !c == true, .int .i64 0]) [.inl, tF, tT, tT, tF, tF, tT] (by kernel_rfl)).to (by (try cases c) <;> (try cases z) <;> (try cases s) <;> (try cases o) <;> first | (simp [wk, wkL, holdM]; done) | rfl | exact ⟨rfl, rfl, trivial⟩)
theorem rholds_n3_ok : SpZR41 3 := by
 intro c z s o
 exact (o67 (d := .tup [.bool false, .int .i64 20]) [.inl, tF, tT, tT, tF, tT] (by kernel_rfl)).to (by simp [wk, wkL])
theorem rholds_4_ok : SpZR40 4 := by
 intro c z s o
 exact (o67 (d := .tup [.bool !z == false, .int .i64 0]) [.inl, tF, tF, tT, tT, tF, tF, tF, tT] (by kernel_rfl)).to (by (try cases c) <;> (try cases z) <;> (try cases s) <;> (try cases o) <;> first | (simp [wk, wkL, holdM]; done) | rfl | exact ⟨rfl, rfl, trivial⟩)
theorem rholds_n4_ok : SpZR41 4 := by
 intro c z s o
 exact (o67 (d := .tup [.bool false, .int .i64 20]) [.inl, tF, tF, tT, tT, tF, tT] (by kernel_rfl)).to (by simp [wk, wkL])
theorem rholds_5_ok : SpZR40 5 := by
 intro c z s o
 exact (o67 (d := .tup [.bool !z == true, .int .i64 0]) [.inl, tF, tF, tF, tT, tT, tF, tF, tF, tT] (by kernel_rfl)).to (by (try cases c) <;> (try cases z) <;> (try cases s) <;> (try cases o) <;> first | (simp [wk, wkL, holdM]; done) | rfl | exact ⟨rfl, rfl, trivial⟩)
theorem rholds_n5_ok : SpZR41 5 := by
 intro c z s o
 exact (o67 (d := .tup [.bool false, .int .i64 20]) [.inl, tF, tF, tF, tT, tT, tF, tT] (by kernel_rfl)).to (by simp [wk, wkL])
theorem rholds_6_ok : SpZR40 6 := by
 intro c z s o
 cases c
 ·exact (o67 (d := .tup [.bool !z == false, .int .i64 0]) [.inl, tF, tF, tF, tF, tT, tT, tF, tF, tF, tF, tT, tT, tT, tF] (by kernel_rfl)).to (by (try cases c) <;> (try cases z) <;> (try cases s) <;> (try cases o) <;> first | (simp [wk, wkL, holdM]; done) | rfl | exact ⟨rfl, rfl, trivial⟩)
 exact (o67 (d := .tup [.bool true, .int .i64 0]) [.inl, tF, tF, tF, tF, tT, tT, tF, tF, tF, tF, tT, tF, tF, tT] (by kernel_rfl)).to (by (try cases c) <;> (try cases z) <;> (try cases s) <;> (try cases o) <;> first | (simp [wk, wkL, holdM]; done) | rfl | exact ⟨rfl, rfl, trivial⟩)
theorem rholds_n6_ok : SpZR41 6 := by
 intro c z s o
 exact (o67 (d := .tup [.bool false, .int .i64 20]) [.inl, tF, tF, tF, tF, tT, tT, tF, tT] (by kernel_rfl)).to (by simp [wk, wkL])
theorem rholds_7_ok : SpZR40 7 := by
 intro c z s o
 cases c
 ·exact (o67 (d := .tup [.bool !z == true, .int .i64 0]) [.inl, tF, tF, tF, tF, tF, tT, tT, tF, tF, tF, tF, tT, tT, tT, tF] (by kernel_rfl)).to (by (try cases c) <;> (try cases z) <;> (try cases s) <;> (try cases o) <;> first | (simp [wk, wkL, holdM]; done) | rfl | exact ⟨rfl, rfl, trivial⟩)
 exact (o67 (d := .tup [.bool false, .int .i64 0]) [.inl, tF, tF, tF, tF, tF, tT, tT, tF, tF, tF, tF, tT, tF, tF, tT] (by kernel_rfl)).to (by (try cases c) <;> (try cases z) <;> (try cases s) <;> (try cases o) <;> first | (simp [wk, wkL, holdM]; done) | rfl | exact ⟨rfl, rfl, trivial⟩)
theorem rholds_n7_ok : SpZR41 7 := by
 intro c z s o
 exact (o67 (d := .tup [.bool false, .int .i64 20]) [.inl, tF, tF, tF, tF, tF, tT, tT, tF, tT] (by kernel_rfl)).to (by simp [wk, wkL])
theorem rholds_12_ok : SpZR40 12 := by
 intro c z s o
 exact (o67 (d := .tup [.bool !(!s == o) == false, .int .i64 0]) [.inl, tF, tF, tF, tF, tF, tF, tT, tT, tF, tF, tF, tF, tF, tT] (by kernel_rfl)).to (by (try cases c) <;> (try cases z) <;> (try cases s) <;> (try cases o) <;> first | (simp [wk, wkL, holdM]; done) | rfl | exact ⟨rfl, rfl, trivial⟩)
theorem rholds_n12_ok : SpZR41 12 := by
 intro c z s o
 exact (o67 (d := .tup [.bool false, .int .i64 20]) [.inl, tF, tF, tF, tF, tF, tF, tT, tT, tF, tT] (by kernel_rfl)).to (by simp [wk, wkL])
theorem rholds_13_ok : SpZR40 13 := by
 intro c z s o
 exact (o67 (d := .tup [.bool !(!s == o) == true, .int .i64 0]) [.inl, tF, tF, tF, tF, tF, tF, tF, tT, tT, tF, tF, tF, tF, tF, tT] (by kernel_rfl)).to (by (try cases c) <;> (try cases z) <;> (try cases s) <;> (try cases o) <;> first | (simp [wk, wkL, holdM]; done) | rfl | exact ⟨rfl, rfl, trivial⟩)
theorem rholds_n13_ok : SpZR41 13 := by
 intro c z s o
 exact (o67 (d := .tup [.bool false, .int .i64 20]) [.inl, tF, tF, tF, tF, tF, tF, tF, tT, tT, tF, tT] (by kernel_rfl)).to (by simp [wk, wkL])
theorem rholds_14_ok : SpZR40 14 := by
 intro c z s o
 cases z
 ·exact (o67 (d := .tup [.bool !(!s == o) == false, .int .i64 0]) ([.inl] ++ List.replicate 8 tF ++ [tT, tT, tF, tF, tF, tF, tF, tF, tT, tT, tT, tT, tT, tF]) (by kernel_rfl)).to (by (try cases c) <;> (try cases z) <;> (try cases s) <;> (try cases o) <;> first | (simp [wk, wkL, holdM]; done) | rfl | exact ⟨rfl, rfl, trivial⟩)
 exact (o67 (d := .tup [.bool true, .int .i64 0]) ([.inl] ++ List.replicate 8 tF ++ [tT, tT] ++ List.replicate 11 tF ++ [tT]) (by kernel_rfl)).to (by (try cases c) <;> (try cases z) <;> (try cases s) <;> (try cases o) <;> first | (simp [wk, wkL, holdM]; done) | rfl | exact ⟨rfl, rfl, trivial⟩)
theorem rholds_n14_ok : SpZR41 14 := by
 intro c z s o
 exact (o67 (d := .tup [.bool false, .int .i64 20]) ([.inl] ++ List.replicate 8 tF ++ [tT, tT, tF, tT]) (by kernel_rfl)).to (by simp [wk, wkL])
theorem rholds_15_ok : SpZR40 15 := by
 intro c z s o
 cases z
 ·exact (o67 (d := .tup [.bool !(!s == o) == true, .int .i64 0]) ([.inl] ++ List.replicate 9 tF ++ [tT, tF, tF, tF, tF, tF, tF, tT, tT, tT, tT, tT, tF]) (by kernel_rfl)).to (by (try cases c) <;> (try cases z) <;> (try cases s) <;> (try cases o) <;> first | (simp [wk, wkL, holdM]; done) | rfl | exact ⟨rfl, rfl, trivial⟩)
 exact (o67 (d := .tup [.bool false, .int .i64 0]) ([.inl] ++ List.replicate 9 tF ++ [tT] ++ List.replicate 11 tF ++ [tT]) (by kernel_rfl)).to (by (try cases c) <;> (try cases z) <;> (try cases s) <;> (try cases o) <;> first | (simp [wk, wkL, holdM]; done) | rfl | exact ⟨rfl, rfl, trivial⟩)
theorem rholds_n15_ok : SpZR41 15 := by
 intro c z s o
 exact (o67 (d := .tup [.bool false, .int .i64 20]) ([.inl] ++ List.replicate 9 tF ++ [tT, tF, tT]) (by kernel_rfl)).to (by simp [wk, wkL])
end Go.Proofs.YtojgmjfcfpclbaaGreat

namespace Go.Proofs.YtojgmjfcfpclbaaGreat
open Go Go.Ev
theorem rsign_l_ok (v w : Int) (hw : longM w = true) : Ret Tryz.prog 89 [.int .u64 v, .int .i8 w] (.int .u64 (signM v w)) := by
 rcases long_cases hw with rfl | rfl
 ·exact rsign_32_ok v
 ·exact rsign_64_ok v
theorem cc_cases' {cc : Int} (h : ccM cc = true) : cc = 2 ∨ cc = 3 ∨ cc = 4 ∨ cc = 5 ∨ cc = 6 ∨ cc = 7 ∨ cc = 12 ∨ cc = 13 ∨ cc = 14 ∨ cc = 15 := by
 simp only [ccM, decide_eq_true_eq] at h; omega
theorem rholds_t_ok (cc : Int) (c z s o : Bool) (h : ccM cc = true) : Ret Tryz.prog 67 [.int .i8 cc, fD true c z s o] (.tup [.bool (holdM cc c z s o), .int .i64 0]) := by
 rcases cc_cases' h with rfl | rfl | rfl | rfl | rfl | rfl | rfl | rfl | rfl | rfl
 ·exact rholds_2_ok c z s o
 ·exact rholds_3_ok c z s o
 ·exact rholds_4_ok c z s o
 ·exact rholds_5_ok c z s o
 ·exact rholds_6_ok c z s o
 ·exact rholds_7_ok c z s o
 ·exact rholds_12_ok c z s o
 ·exact rholds_13_ok c z s o
 ·exact rholds_14_ok c z s o
 ·exact rholds_15_ok c z s o
theorem rholds_f_ok (cc : Int) (c z s o : Bool) (h : ccM cc = true) : Ret Tryz.prog 67 [.int .i8 cc, fD false c z s o] (.tup [.bool false, .int .i64 20]) := by
 rcases cc_cases' h with rfl | rfl | rfl | rfl | rfl | rfl | rfl | rfl | rfl | rfl
 ·exact rholds_n2_ok c z s o
 ·exact rholds_n3_ok c z s o
 ·exact rholds_n4_ok c z s o
 ·exact rholds_n5_ok c z s o
 ·exact rholds_n6_ok c z s o
 ·exact rholds_n7_ok c z s o
 ·exact rholds_n12_ok c z s o
 ·exact rholds_n13_ok c z s o
 ·exact rholds_n14_ok c z s o
 ·exact rholds_n15_ok c z s o
end Go.Proofs.YtojgmjfcfpclbaaGreat

namespace Go.Proofs.YtojgmjfcfpclbaaGreat
open Go Go.Ev
set_option maxRecDepth 100000
set_option maxHeartbeats 8000000
theorem rscr_ok (n : Int) : Ret Tryz.prog 80 ([.int .i8 n]) (.bool (scrM n)) := by
 by_cases h0 : n = 0
 ·subst h0
  exact (o80 (d := .bool true) [tF, tF, tT, tF, tF, tT, tF, tF, tT] (by kernel_rfl)).to (by first | rfl | skip; apply wk_bool; unfold scrM; symm; first | (rw [decide_eq_true_eq]; omega) | (rw [decide_eq_false_iff_not]; omega) | (rw [Bool.eq_iff_iff]; simp only [beq_iff_eq, decide_eq_true_eq]; omega))
 let E1 : EL := [tC (eF (neOf h0)), tC (eF (neOf h0)), tC (neOf h0)]
 by_cases h1 : n = 1
 ·subst h1
  exact (o80 (d := .bool true) (E1 ++ [tF, tF, tT, tF, tF, tT]) (by kernel_rfl)).to (by first | rfl | skip; apply wk_bool; unfold scrM; symm; first | (rw [decide_eq_true_eq]; omega) | (rw [decide_eq_false_iff_not]; omega) | (rw [Bool.eq_iff_iff]; simp only [beq_iff_eq, decide_eq_true_eq]; omega))
 by_cases h2 : n = 2
 ·subst h2
  exact (o80 (d := .bool true) (E1 ++ [tC (eF (neOf h1)), tC (eF (neOf h1)), tC (neOf h1), tF, tF, tT]) (by kernel_rfl)).to (by first | rfl | skip; apply wk_bool; unfold scrM; symm; first | (rw [decide_eq_true_eq]; omega) | (rw [decide_eq_false_iff_not]; omega) | (rw [Bool.eq_iff_iff]; simp only [beq_iff_eq, decide_eq_true_eq]; omega))
 exact (o80 (d := .bool (n == 11)) (E1 ++ [tC (eF (neOf h1)), tC (eF (neOf h1)), tC (neOf h1), tC (eF (neOf h2)), tC (eF (neOf h2)), tC (neOf h2)]) (by kernel_rfl)).to (by first | rfl | skip; apply wk_bool; unfold scrM; symm; first | (rw [decide_eq_true_eq]; omega) | (rw [decide_eq_false_iff_not]; omega) | (rw [Bool.eq_iff_iff]; simp only [beq_iff_eq, decide_eq_true_eq]; omega))
theorem rmay14_ok (cc : Int) : Ret Tryz.prog 81 ([.int .i8 cc]) (.bool (ccM cc)) := by
 by_cases h0 : cc = 2
 ·subst h0
  exact (o81 (d := .bool true) [tT, tT] (by kernel_rfl)).to (by first | rfl | skip; apply wk_bool; unfold ccM; symm; first | (rw [decide_eq_true_eq]; omega) | (rw [decide_eq_false_iff_not]; omega) | (rw [Bool.eq_iff_iff]; simp only [beq_iff_eq, decide_eq_true_eq]; omega))
 let E1 : EL := [tC (neOf h0)]
 by_cases h1 : cc = 3
 ·subst h1
  exact (o81 (d := .bool true) (E1 ++ [tT, tT]) (by kernel_rfl)).to (by first | rfl | skip; apply wk_bool; unfold ccM; symm; first | (rw [decide_eq_true_eq]; omega) | (rw [decide_eq_false_iff_not]; omega) | (rw [Bool.eq_iff_iff]; simp only [beq_iff_eq, decide_eq_true_eq]; omega))
 let E2 : EL := E1 ++ [tC (neOf h1)]
 by_cases h2 : cc = 4
 ·subst h2
  exact (o81 (d := .bool true) (E2 ++ [tT, tT]) (by kernel_rfl)).to (by first | rfl | skip; apply wk_bool; unfold ccM; symm; first | (rw [decide_eq_true_eq]; omega) | (rw [decide_eq_false_iff_not]; omega) | (rw [Bool.eq_iff_iff]; simp only [beq_iff_eq, decide_eq_true_eq]; omega))
 let E3 : EL := E2 ++ [tC (neOf h2)]
 by_cases h3 : cc = 5
 ·subst h3
  exact (o81 (d := .bool true) (E3 ++ [tT, tT]) (by kernel_rfl)).to (by first | rfl | skip; apply wk_bool; unfold ccM; symm; first | (rw [decide_eq_true_eq]; omega) | (rw [decide_eq_false_iff_not]; omega) | (rw [Bool.eq_iff_iff]; simp only [beq_iff_eq, decide_eq_true_eq]; omega))
 let E4 : EL := E3 ++ [tC (neOf h3)]
 by_cases h4 : cc = 6
 ·subst h4
  exact (o81 (d := .bool true) (E4 ++ [tT, tT]) (by kernel_rfl)).to (by first | rfl | skip; apply wk_bool; unfold ccM; symm; first | (rw [decide_eq_true_eq]; omega) | (rw [decide_eq_false_iff_not]; omega) | (rw [Bool.eq_iff_iff]; simp only [beq_iff_eq, decide_eq_true_eq]; omega))
 by_cases h5 : cc = 7
 ·subst h5
  exact (o81 (d := .bool true) (E4 ++ [tC (neOf h4), tT, tT]) (by kernel_rfl)).to (by first | rfl | skip; apply wk_bool; unfold ccM; symm; first | (rw [decide_eq_true_eq]; omega) | (rw [decide_eq_false_iff_not]; omega) | (rw [Bool.eq_iff_iff]; simp only [beq_iff_eq, decide_eq_true_eq]; omega))
 let E5 : EL := E4 ++ [tC (neOf h4), tC (neOf h5)]
 by_cases h6 : cc = 12
 ·subst h6
  exact (o81 (d := .bool true) (E5 ++ [tT, tT]) (by kernel_rfl)).to (by first | rfl | skip; apply wk_bool; unfold ccM; symm; first | (rw [decide_eq_true_eq]; omega) | (rw [decide_eq_false_iff_not]; omega) | (rw [Bool.eq_iff_iff]; simp only [beq_iff_eq, decide_eq_true_eq]; omega))
 by_cases h7 : cc = 13
 ·subst h7
  exact (o81 (d := .bool true) (E5 ++ [tC (neOf h6), tT, tT]) (by kernel_rfl)).to (by first | rfl | skip; apply wk_bool; unfold ccM; symm; first | (rw [decide_eq_true_eq]; omega) | (rw [decide_eq_false_iff_not]; omega) | (rw [Bool.eq_iff_iff]; simp only [beq_iff_eq, decide_eq_true_eq]; omega))
 by_cases h8 : cc = 14
 ·subst h8
  exact (o81 (d := .bool true) (E5 ++ [tC (neOf h6), tC (neOf h7), tT, tT]) (by kernel_rfl)).to (by first | rfl | skip; apply wk_bool; unfold ccM; symm; first | (rw [decide_eq_true_eq]; omega) | (rw [decide_eq_false_iff_not]; omega) | (rw [Bool.eq_iff_iff]; simp only [beq_iff_eq, decide_eq_true_eq]; omega))
 by_cases h9 : cc = 15
 ·subst h9
  exact (o81 (d := .bool true) (E5 ++ [tC (neOf h6), tC (neOf h7), tC (neOf h8), tT]) (by kernel_rfl)).to (by first | rfl | skip; apply wk_bool; unfold ccM; symm; first | (rw [decide_eq_true_eq]; omega) | (rw [decide_eq_false_iff_not]; omega) | (rw [Bool.eq_iff_iff]; simp only [beq_iff_eq, decide_eq_true_eq]; omega))
 exact (o81 (d := .bool false) (E5 ++ [tC (neOf h6), tC (neOf h7), tC (neOf h8), tC (neOf h9)]) (by kernel_rfl)).to (by first | rfl | skip; apply wk_bool; unfold ccM; symm; first | (rw [decide_eq_true_eq]; omega) | (rw [decide_eq_false_iff_not]; omega) | (rw [Bool.eq_iff_iff]; simp only [beq_iff_eq, decide_eq_true_eq]; omega))
def SpZI00 (k0_ : Int) : Prop := ∀ (op w dst src base disp imm cc reg phys num to : Int) (ho : op ≤ 127) (hc : cc ≤ 127) (hp : phys ≤ 127) (g0 : -128 ≤ reg) (g1 : reg ≤ 127), Ret Tryz.prog 30 ([irD k0_ op w dst src base disp imm cc reg phys num to]) (.bool (mayI k0_ op w dst src base disp imm cc reg phys num to))
theorem rimay_1_ok : SpZI00 1 := by
 intro op w dst src base disp imm cc reg phys num to ho hc hp g0 g1
 let E1 : EL := [tT, tT, tT, tF, tT, tT, tT, .inl, tF, tT, tT]
 rcases bft (scrM phys) with k0 | k0
 ·rcases bft (eqCells [.int .i8 1, .int .i8 op, .int .i8 w, .int .i8 dst, .int .i8 src, .int .i8 base, .int .i64 disp, .int .i64 imm, .int .i8 cc, .int .i8 reg, .int .i8 phys, .int .i64 num, .int .i64 to] [.int .i8 1, .int .i8 0, .int .i8 0, .int .i8 0, .int .i8 0, .int .i8 0, .int .i64 0, .int .i64 0, .int .i8 0, .int .i8 reg, .int .i8 phys, .int .i64 0, .int .i64 0]) with h1 | h1
  ·let E2 : EL := E1 ++ [.keep [(0, Ob.box [.int .i8 1, .int .i8 op, .int .i8 w, .int .i8 dst, .int .i8 src, .int .i8 base, .int .i64 disp, .int .i64 imm, .int .i8 cc, .int .i8 reg, .int .i8 phys, .int .i64 num, .int .i64 to])], tT, .flat _ _ flat_Ir, tF, tC (nt h1), tF, tT, tT]
   rcases bft (decide (reg < 0)) with h2 | h2
   ·exact (o30 (d := .bool false) (E2 ++ List.replicate 3 (tC (eT (leL 0 h2))) ++ [tC (leL 0 h2), tF, tF, tF, tF]) (by kernel_rfl)).to (by clear E1 E2; simp only [wk, D.bool.injEq, eq_irc, mayI_1, zeroX, k0, h1, h2, Bool.true_and, Bool.false_and, Bool.and_true, Bool.and_false]; rw [Bool.eq_iff_iff]; simp only [sl1, eq_irc] at *; omega)
   rcases bft (decide (reg < 11)) with h3 | h3
   ·have c4 := @rscr_ok phys
    exact (o30 (d := .bool (scrM phys)) (E2 ++ List.replicate 3 (tC (eT (leL 0 h2))) ++ [tC (leL 0 h2), tC (eT h3), tC (eT h3), tC (eT h3), .ret _ _ _ c4, tC h3]) (by kernel_rfl)).to (by clear E1 E2; simp only [wk, D.bool.injEq, eq_irc, mayI_1, zeroX, k0, h1, h2, h3, Bool.true_and, Bool.false_and, Bool.and_true, Bool.and_false]; rw [Bool.eq_iff_iff]; simp only [sl1, eq_irc] at *; omega)
   exact (o30 (d := .bool false) (E2 ++ List.replicate 3 (tC (eT (leL 0 h2))) ++ [tC (leL 0 h2), tC (eT h3), tC (eT h3), tC (eT h3), tC h3]) (by kernel_rfl)).to (by clear E1 E2; simp only [wk, D.bool.injEq, eq_irc, mayI_1, zeroX, k0, h1, h2, h3, Bool.true_and, Bool.false_and, Bool.and_true, Bool.and_false]; rw [Bool.eq_iff_iff]; simp only [sl1, eq_irc] at *; omega)
  exact (o30 (d := .bool false) (E1 ++ [.keep [(0, Ob.box [.int .i8 1, .int .i8 op, .int .i8 w, .int .i8 dst, .int .i8 src, .int .i8 base, .int .i64 disp, .int .i64 imm, .int .i8 cc, .int .i8 reg, .int .i8 phys, .int .i64 num, .int .i64 to])], tT, .flat _ _ flat_Ir, tF, tC (nt h1)]) (by kernel_rfl)).to (by clear E1; simp only [wk, D.bool.injEq, eq_irc, mayI_1, zeroX, k0, h1, Bool.true_and, Bool.false_and, Bool.and_true, Bool.and_false]; rw [Bool.eq_iff_iff]; simp only [sl1, eq_irc] at *; omega)
 rcases bft (eqCells [.int .i8 1, .int .i8 op, .int .i8 w, .int .i8 dst, .int .i8 src, .int .i8 base, .int .i64 disp, .int .i64 imm, .int .i8 cc, .int .i8 reg, .int .i8 phys, .int .i64 num, .int .i64 to] [.int .i8 1, .int .i8 0, .int .i8 0, .int .i8 0, .int .i8 0, .int .i8 0, .int .i64 0, .int .i64 0, .int .i8 0, .int .i8 reg, .int .i8 phys, .int .i64 0, .int .i64 0]) with h5 | h5
 ·let E3 : EL := E1 ++ [.keep [(0, Ob.box [.int .i8 1, .int .i8 op, .int .i8 w, .int .i8 dst, .int .i8 src, .int .i8 base, .int .i64 disp, .int .i64 imm, .int .i8 cc, .int .i8 reg, .int .i8 phys, .int .i64 num, .int .i64 to])], tT, .flat _ _ flat_Ir, tF, tC (nt h5), tF, tT, tT]
  rcases bft (decide (reg < 0)) with h6 | h6
  ·exact (o30 (d := .bool false) (E3 ++ List.replicate 3 (tC (eT (leL 0 h6))) ++ [tC (leL 0 h6), tF, tF, tF, tF]) (by kernel_rfl)).to (by simp only [wk, D.bool.injEq, eq_irc, mayI_1, zeroX, k0, h5, h6, Bool.true_and, Bool.false_and, Bool.and_true, Bool.and_false]; done)
  rcases bft (decide (reg < 11)) with h7 | h7
  ·have c8 := @rscr_ok phys
   exact (o30 (d := .bool (scrM phys)) (E3 ++ List.replicate 3 (tC (eT (leL 0 h6))) ++ [tC (leL 0 h6), tC (eT h7), tC (eT h7), tC (eT h7), .ret _ _ _ c8, tC h7]) (by kernel_rfl)).to (by simp only [wk, D.bool.injEq, eq_irc, mayI_1, zeroX, k0, h5, h6, h7, Bool.true_and, Bool.false_and, Bool.and_true, Bool.and_false]; done)
  exact (o30 (d := .bool false) (E3 ++ List.replicate 3 (tC (eT (leL 0 h6))) ++ [tC (leL 0 h6), tC (eT h7), tC (eT h7), tC (eT h7), tC h7]) (by kernel_rfl)).to (by simp only [wk, D.bool.injEq, eq_irc, mayI_1, zeroX, k0, h5, h6, h7, Bool.true_and, Bool.false_and, Bool.and_true, Bool.and_false]; done)
 exact (o30 (d := .bool false) (E1 ++ [.keep [(0, Ob.box [.int .i8 1, .int .i8 op, .int .i8 w, .int .i8 dst, .int .i8 src, .int .i8 base, .int .i64 disp, .int .i64 imm, .int .i8 cc, .int .i8 reg, .int .i8 phys, .int .i64 num, .int .i64 to])], tT, .flat _ _ flat_Ir, tF, tC (nt h5)]) (by kernel_rfl)).to (by simp only [wk, D.bool.injEq, eq_irc, mayI_1, zeroX, k0, h5, Bool.true_and, Bool.false_and, Bool.and_true, Bool.and_false]; done)
theorem rimay_2_ok : SpZI00 2 := by
 intro op w dst src base disp imm cc reg phys num to ho hc hp g0 g1
 let E1 : EL := [tT, tT, tT, tF, tT, tT, tT, .inl, tF, tF, tT]
 rcases bft (scrM phys) with k0 | k0
 ·rcases bft (eqCells [.int .i8 2, .int .i8 op, .int .i8 w, .int .i8 dst, .int .i8 src, .int .i8 base, .int .i64 disp, .int .i64 imm, .int .i8 cc, .int .i8 reg, .int .i8 phys, .int .i64 num, .int .i64 to] [.int .i8 2, .int .i8 0, .int .i8 0, .int .i8 0, .int .i8 0, .int .i8 0, .int .i64 0, .int .i64 0, .int .i8 0, .int .i8 reg, .int .i8 phys, .int .i64 0, .int .i64 0]) with h1 | h1
  ·let E2 : EL := E1 ++ [.keep [(0, Ob.box [.int .i8 2, .int .i8 op, .int .i8 w, .int .i8 dst, .int .i8 src, .int .i8 base, .int .i64 disp, .int .i64 imm, .int .i8 cc, .int .i8 reg, .int .i8 phys, .int .i64 num, .int .i64 to])], tT, .flat _ _ flat_Ir, tF, tC (nt h1), tF, tF, tT]
   rcases bft (decide (reg < 0)) with h2 | h2
   ·exact (o30 (d := .bool false) (E2 ++ List.replicate 3 (tC (eT (leL 0 h2))) ++ [tC (leL 0 h2), tF, tF, tF, tF]) (by kernel_rfl)).to (by clear E1 E2; simp only [wk, D.bool.injEq, eq_irc, mayI_2, zeroX, k0, h1, h2, Bool.true_and, Bool.false_and, Bool.and_true, Bool.and_false]; rw [Bool.eq_iff_iff]; simp only [sl1, eq_irc] at *; omega)
   rcases bft (decide (reg < 11)) with h3 | h3
   ·have c4 := @rscr_ok phys
    exact (o30 (d := .bool (scrM phys)) (E2 ++ List.replicate 3 (tC (eT (leL 0 h2))) ++ [tC (leL 0 h2), tC (eT h3), tC (eT h3), tC (eT h3), .ret _ _ _ c4, tC h3]) (by kernel_rfl)).to (by clear E1 E2; simp only [wk, D.bool.injEq, eq_irc, mayI_2, zeroX, k0, h1, h2, h3, Bool.true_and, Bool.false_and, Bool.and_true, Bool.and_false]; rw [Bool.eq_iff_iff]; simp only [sl1, eq_irc] at *; omega)
   exact (o30 (d := .bool false) (E2 ++ List.replicate 3 (tC (eT (leL 0 h2))) ++ [tC (leL 0 h2), tC (eT h3), tC (eT h3), tC (eT h3), tC h3]) (by kernel_rfl)).to (by clear E1 E2; simp only [wk, D.bool.injEq, eq_irc, mayI_2, zeroX, k0, h1, h2, h3, Bool.true_and, Bool.false_and, Bool.and_true, Bool.and_false]; rw [Bool.eq_iff_iff]; simp only [sl1, eq_irc] at *; omega)
  exact (o30 (d := .bool false) (E1 ++ [.keep [(0, Ob.box [.int .i8 2, .int .i8 op, .int .i8 w, .int .i8 dst, .int .i8 src, .int .i8 base, .int .i64 disp, .int .i64 imm, .int .i8 cc, .int .i8 reg, .int .i8 phys, .int .i64 num, .int .i64 to])], tT, .flat _ _ flat_Ir, tF, tC (nt h1)]) (by kernel_rfl)).to (by clear E1; simp only [wk, D.bool.injEq, eq_irc, mayI_2, zeroX, k0, h1, Bool.true_and, Bool.false_and, Bool.and_true, Bool.and_false]; rw [Bool.eq_iff_iff]; simp only [sl1, eq_irc] at *; omega)
 rcases bft (eqCells [.int .i8 2, .int .i8 op, .int .i8 w, .int .i8 dst, .int .i8 src, .int .i8 base, .int .i64 disp, .int .i64 imm, .int .i8 cc, .int .i8 reg, .int .i8 phys, .int .i64 num, .int .i64 to] [.int .i8 2, .int .i8 0, .int .i8 0, .int .i8 0, .int .i8 0, .int .i8 0, .int .i64 0, .int .i64 0, .int .i8 0, .int .i8 reg, .int .i8 phys, .int .i64 0, .int .i64 0]) with h5 | h5
 ·let E3 : EL := E1 ++ [.keep [(0, Ob.box [.int .i8 2, .int .i8 op, .int .i8 w, .int .i8 dst, .int .i8 src, .int .i8 base, .int .i64 disp, .int .i64 imm, .int .i8 cc, .int .i8 reg, .int .i8 phys, .int .i64 num, .int .i64 to])], tT, .flat _ _ flat_Ir, tF, tC (nt h5), tF, tF, tT]
  rcases bft (decide (reg < 0)) with h6 | h6
  ·exact (o30 (d := .bool false) (E3 ++ List.replicate 3 (tC (eT (leL 0 h6))) ++ [tC (leL 0 h6), tF, tF, tF, tF]) (by kernel_rfl)).to (by simp only [wk, D.bool.injEq, eq_irc, mayI_2, zeroX, k0, h5, h6, Bool.true_and, Bool.false_and, Bool.and_true, Bool.and_false]; done)
  rcases bft (decide (reg < 11)) with h7 | h7
  ·have c8 := @rscr_ok phys
   exact (o30 (d := .bool (scrM phys)) (E3 ++ List.replicate 3 (tC (eT (leL 0 h6))) ++ [tC (leL 0 h6), tC (eT h7), tC (eT h7), tC (eT h7), .ret _ _ _ c8, tC h7]) (by kernel_rfl)).to (by simp only [wk, D.bool.injEq, eq_irc, mayI_2, zeroX, k0, h5, h6, h7, Bool.true_and, Bool.false_and, Bool.and_true, Bool.and_false]; done)
  exact (o30 (d := .bool false) (E3 ++ List.replicate 3 (tC (eT (leL 0 h6))) ++ [tC (leL 0 h6), tC (eT h7), tC (eT h7), tC (eT h7), tC h7]) (by kernel_rfl)).to (by simp only [wk, D.bool.injEq, eq_irc, mayI_2, zeroX, k0, h5, h6, h7, Bool.true_and, Bool.false_and, Bool.and_true, Bool.and_false]; done)
 exact (o30 (d := .bool false) (E1 ++ [.keep [(0, Ob.box [.int .i8 2, .int .i8 op, .int .i8 w, .int .i8 dst, .int .i8 src, .int .i8 base, .int .i64 disp, .int .i64 imm, .int .i8 cc, .int .i8 reg, .int .i8 phys, .int .i64 num, .int .i64 to])], tT, .flat _ _ flat_Ir, tF, tC (nt h5)]) (by kernel_rfl)).to (by simp only [wk, D.bool.injEq, eq_irc, mayI_2, zeroX, k0, h5, Bool.true_and, Bool.false_and, Bool.and_true, Bool.and_false]; done)
theorem rimay_3_ok : SpZI00 3 := by
 intro op w dst src base disp imm cc reg phys num to ho hc hp g0 g1
 let E1 : EL := [tT, tT, tT, tF, tT, tT, tT, .inl, tF, tF, tF, tT]
 rcases bft (eqCells [.int .i8 3, .int .i8 op, .int .i8 w, .int .i8 dst, .int .i8 src, .int .i8 base, .int .i64 disp, .int .i64 imm, .int .i8 cc, .int .i8 reg, .int .i8 phys, .int .i64 num, .int .i64 to] [.int .i8 3, .int .i8 0, .int .i8 0, .int .i8 0, .int .i8 0, .int .i8 0, .int .i64 0, .int .i64 0, .int .i8 0, .int .i8 0, .int .i8 0, .int .i64 num, .int .i64 0]) with h0 | h0
 ·let E2 : EL := E1 ++ [.keep [(0, Ob.box [.int .i8 3, .int .i8 op, .int .i8 w, .int .i8 dst, .int .i8 src, .int .i8 base, .int .i64 disp, .int .i64 imm, .int .i8 cc, .int .i8 reg, .int .i8 phys, .int .i64 num, .int .i64 to])], tT, .flat _ _ flat_Ir, tF, tC (nt h0), tF, tF, tF, tT]
  rcases bft (decide (num < 0)) with h1 | h1
  ·exact (o30 (d := .bool false) (E2 ++ List.replicate 3 (tC (eT (leL 0 h1))) ++ [tC (leL 0 h1)]) (by kernel_rfl)).to (by clear E1 E2; simp only [wk, D.bool.injEq, eq_irc, mayI_3, zeroX, h0, h1, Bool.true_and, Bool.false_and, Bool.and_true, Bool.and_false]; rw [Bool.eq_iff_iff]; simp only [sl1, eq_irc] at *; omega)
  exact (o30 (d := .bool (decide (num < 16))) (E2 ++ List.replicate 3 (tC (eT (leL 0 h1))) ++ [tC (leL 0 h1)]) (by kernel_rfl)).to (by clear E1 E2; simp only [wk, D.bool.injEq, eq_irc, mayI_3, zeroX, h0, h1, Bool.true_and, Bool.false_and, Bool.and_true, Bool.and_false]; rw [Bool.eq_iff_iff]; simp only [sl1, eq_irc] at *; omega)
 exact (o30 (d := .bool false) (E1 ++ [.keep [(0, Ob.box [.int .i8 3, .int .i8 op, .int .i8 w, .int .i8 dst, .int .i8 src, .int .i8 base, .int .i64 disp, .int .i64 imm, .int .i8 cc, .int .i8 reg, .int .i8 phys, .int .i64 num, .int .i64 to])], tT, .flat _ _ flat_Ir, tF, tC (nt h0)]) (by kernel_rfl)).to (by clear E1; simp only [wk, D.bool.injEq, eq_irc, mayI_3, zeroX, h0, Bool.true_and, Bool.false_and, Bool.and_true, Bool.and_false]; rw [Bool.eq_iff_iff]; simp only [sl1, eq_irc] at *; omega)
theorem rimay_4_ok : SpZI00 4 := by
 intro op w dst src base disp imm cc reg phys num to ho hc hp g0 g1
 let E1 : EL := [tT, tT, tT, tF, tT, tT, tT, .inl, tF, tF, tF, tF, tT]
 rcases bft (eqCells [.int .i8 4, .int .i8 op, .int .i8 w, .int .i8 dst, .int .i8 src, .int .i8 base, .int .i64 disp, .int .i64 imm, .int .i8 cc, .int .i8 reg, .int .i8 phys, .int .i64 num, .int .i64 to] [.int .i8 4, .int .i8 29, .int .i8 0, .int .i8 0, .int .i8 0, .int .i8 0, .int .i64 0, .int .i64 0, .int .i8 cc, .int .i8 0, .int .i8 0, .int .i64 0, .int .i64 to]) with h0 | h0
 ·have c1 := @rmay14_ok cc
  let E2 : EL := E1 ++ [.keep [(0, Ob.box [.int .i8 4, .int .i8 op, .int .i8 w, .int .i8 dst, .int .i8 src, .int .i8 base, .int .i64 disp, .int .i64 imm, .int .i8 cc, .int .i8 reg, .int .i8 phys, .int .i64 num, .int .i64 to])], tT, .flat _ _ flat_Ir, tF, tC (nt h0), tF, tF, tF, tF, tT, .ret _ _ _ c1]
  rcases bft (ccM cc) with h2 | h2
  ·rcases bft (decide (to < 0)) with h3 | h3
   ·exact (o30 (d := .bool false) (E2 ++ [tC (eT h2), tC (eT h2), tC (eT h2), tC h2] ++ List.replicate 3 (tC (eT (leL 0 h3))) ++ [tC (leL 0 h3)]) (by kernel_rfl)).to (by clear E1 E2; simp only [wk, D.bool.injEq, eq_irc, mayI_4, zeroX, h0, h2, h3, Bool.true_and, Bool.false_and, Bool.and_true, Bool.and_false]; rw [Bool.eq_iff_iff]; simp only [sl1, eq_irc] at *; omega)
   exact (o30 (d := .bool (decide (to ≤ 64))) (E2 ++ [tC (eT h2), tC (eT h2), tC (eT h2), tC h2] ++ List.replicate 3 (tC (eT (leL 0 h3))) ++ [tC (leL 0 h3)]) (by kernel_rfl)).to (by clear E1 E2; simp only [wk, D.bool.injEq, eq_irc, mayI_4, zeroX, h0, h2, h3, Bool.true_and, Bool.false_and, Bool.and_true, Bool.and_false]; rw [Bool.eq_iff_iff]; simp only [sl1, eq_irc] at *; omega)
  exact (o30 (d := .bool false) (E2 ++ [tC (eT h2), tC (eT h2), tC (eT h2), tC h2, tF, tF, tF, tF]) (by kernel_rfl)).to (by simp only [wk, D.bool.injEq, eq_irc, mayI_4, zeroX, h0, h2, Bool.true_and, Bool.false_and, Bool.and_true, Bool.and_false]; done)
 exact (o30 (d := .bool false) (E1 ++ [.keep [(0, Ob.box [.int .i8 4, .int .i8 op, .int .i8 w, .int .i8 dst, .int .i8 src, .int .i8 base, .int .i64 disp, .int .i64 imm, .int .i8 cc, .int .i8 reg, .int .i8 phys, .int .i64 num, .int .i64 to])], tT, .flat _ _ flat_Ir, tF, tC (nt h0)]) (by kernel_rfl)).to (by clear E1; simp only [wk, D.bool.injEq, eq_irc, mayI_4, zeroX, h0, Bool.true_and, Bool.false_and, Bool.and_true, Bool.and_false]; rw [Bool.eq_iff_iff]; simp only [sl1, eq_irc] at *; omega)
theorem rimay_5_ok : SpZI00 5 := by
 intro op w dst src base disp imm cc reg phys num to ho hc hp g0 g1
 let E1 : EL := [tT, tT, tT, tF, tT, tT, tT, .inl, tF, tF, tF, tF, tF, tT]
 rcases bft (eqCells [.int .i8 5, .int .i8 op, .int .i8 w, .int .i8 dst, .int .i8 src, .int .i8 base, .int .i64 disp, .int .i64 imm, .int .i8 cc, .int .i8 reg, .int .i8 phys, .int .i64 num, .int .i64 to] [.int .i8 5, .int .i8 0, .int .i8 0, .int .i8 0, .int .i8 0, .int .i8 0, .int .i64 0, .int .i64 0, .int .i8 0, .int .i8 0, .int .i8 0, .int .i64 0, .int .i64 to]) with h0 | h0
 ·let E2 : EL := E1 ++ [.keep [(0, Ob.box [.int .i8 5, .int .i8 op, .int .i8 w, .int .i8 dst, .int .i8 src, .int .i8 base, .int .i64 disp, .int .i64 imm, .int .i8 cc, .int .i8 reg, .int .i8 phys, .int .i64 num, .int .i64 to])], tT, .flat _ _ flat_Ir, tF, tC (nt h0), tF, tF, tF, tF, tF, tT]
  rcases bft (decide (to < 0)) with h1 | h1
  ·exact (o30 (d := .bool false) (E2 ++ List.replicate 3 (tC (eT (leL 0 h1))) ++ [tC (leL 0 h1)]) (by kernel_rfl)).to (by clear E1 E2; simp only [wk, D.bool.injEq, eq_irc, mayI_5, zeroX, h0, h1, Bool.true_and, Bool.false_and, Bool.and_true, Bool.and_false]; rw [Bool.eq_iff_iff]; simp only [sl1, eq_irc] at *; omega)
  exact (o30 (d := .bool (decide (to ≤ 64))) (E2 ++ List.replicate 3 (tC (eT (leL 0 h1))) ++ [tC (leL 0 h1)]) (by kernel_rfl)).to (by clear E1 E2; simp only [wk, D.bool.injEq, eq_irc, mayI_5, zeroX, h0, h1, Bool.true_and, Bool.false_and, Bool.and_true, Bool.and_false]; rw [Bool.eq_iff_iff]; simp only [sl1, eq_irc] at *; omega)
 exact (o30 (d := .bool false) (E1 ++ [.keep [(0, Ob.box [.int .i8 5, .int .i8 op, .int .i8 w, .int .i8 dst, .int .i8 src, .int .i8 base, .int .i64 disp, .int .i64 imm, .int .i8 cc, .int .i8 reg, .int .i8 phys, .int .i64 num, .int .i64 to])], tT, .flat _ _ flat_Ir, tF, tC (nt h0)]) (by kernel_rfl)).to (by clear E1; simp only [wk, D.bool.injEq, eq_irc, mayI_5, zeroX, h0, Bool.true_and, Bool.false_and, Bool.and_true, Bool.and_false]; rw [Bool.eq_iff_iff]; simp only [sl1, eq_irc] at *; omega)
theorem rimay_6_ok : SpZI00 6 := by
 intro op w dst src base disp imm cc reg phys num to ho hc hp g0 g1
 rcases bft (eqCells [.int .i8 6, .int .i8 op, .int .i8 w, .int .i8 dst, .int .i8 src, .int .i8 base, .int .i64 disp, .int .i64 imm, .int .i8 cc, .int .i8 reg, .int .i8 phys, .int .i64 num, .int .i64 to] [.int .i8 6, .int .i8 0, .int .i8 0, .int .i8 0, .int .i8 0, .int .i8 0, .int .i64 0, .int .i64 0, .int .i8 0, .int .i8 0, .int .i8 0, .int .i64 0, .int .i64 0]) with h0 | h0
 ·exact (o30 (d := .bool true) [tT, tT, tT, tF, tT, tT, tT, .inl, tF, tF, tF, tF, tF, tF, .keep [(0, Ob.box [.int .i8 6, .int .i8 op, .int .i8 w, .int .i8 dst, .int .i8 src, .int .i8 base, .int .i64 disp, .int .i64 imm, .int .i8 cc, .int .i8 reg, .int .i8 phys, .int .i64 num, .int .i64 to])], tT, .flat _ _ flat_Ir, tF, tC (nt h0), tF, tF, tF, tF, tF, tF] (by kernel_rfl)).to (by simp only [wk, D.bool.injEq, eq_irc, mayI_6, zeroX, Bool.true_and, Bool.false_and, Bool.and_true, Bool.and_false]; rw [Bool.eq_iff_iff]; simp only [sl1, eq_irc] at *; omega)
 exact (o30 (d := .bool false) [tT, tT, tT, tF, tT, tT, tT, .inl, tF, tF, tF, tF, tF, tF, .keep [(0, Ob.box [.int .i8 6, .int .i8 op, .int .i8 w, .int .i8 dst, .int .i8 src, .int .i8 base, .int .i64 disp, .int .i64 imm, .int .i8 cc, .int .i8 reg, .int .i8 phys, .int .i64 num, .int .i64 to])], tT, .flat _ _ flat_Ir, tF, tC (nt h0)] (by kernel_rfl)).to (by simp only [wk, D.bool.injEq, eq_irc, mayI_6, zeroX, Bool.true_and, Bool.false_and, Bool.and_true, Bool.and_false]; rw [Bool.eq_iff_iff]; simp only [sl1, eq_irc] at *; omega)
theorem rimay_lo_ok (kind op w dst src base disp imm cc reg phys num to : Int) (h : kind < 0) (h2 : -128 ≤ kind) : Ret Tryz.prog 30 ([irD kind op w dst src base disp imm cc reg phys num to]) (.bool false) := by
 exact (o30 (d := .bool false) (List.replicate 3 (tC (eF (decide_eq_true h))) ++ [tC (decide_eq_true h), tF, tF, tF, tF, tT, tT]) (by kernel_rfl)).to (by simp [wk])
theorem rimay_hi_ok (kind op w dst src base disp imm cc reg phys num to : Int) (h : 7 ≤ kind) (h2 : kind ≤ 127) : Ret Tryz.prog 30 ([irD kind op w dst src base disp imm cc reg phys num to]) (.bool false) := by
 exact (o30 (d := .bool false) (List.replicate 3 (tC (eF (ltD 0 (decide_eq_false (Int.not_lt.2 h))))) ++ [tC (ltD 0 (decide_eq_false (Int.not_lt.2 h)))] ++ List.replicate 4 (tC (eF (ltL 6 (decide_eq_false (Int.not_lt.2 h))))) ++ [tC (ltL 6 (decide_eq_false (Int.not_lt.2 h))), tT]) (by kernel_rfl)).to (by simp [wk])
theorem ristops_ok (kind op w dst src base disp imm cc reg phys num to : Int) (k0 : -128 ≤ kind) (k1 : kind ≤ 127) : Ret Tryz.prog 32 ([irD kind op w dst src base disp imm cc reg phys num to]) (.bool (stopsI kind op)) := by
 rcases bft (decide (kind < 3)) with h0 | h0
 ·let E1 : EL := (List.replicate 3 (tC (eT (leL 3 h0))) ++ [tC (leL 3 h0), tT, tT, tT, tT])
  by_cases h1 : kind = 0
  ·subst h1
   by_cases h2 : op = 26
   ·subst h2
    exact (o32 (d := .bool true) (E1 ++ [tT, tT, tT, tT, tT, tF, tF, tF, tF, tT, tT, tT, tT, tF]) (by kernel_rfl)).to (by clear E1; first | exact stops_op (by assumption) | (apply wk_bool; unfold stopsI; first | rfl | (simp; done) | skip; simp only [w_i64, beq_iff_eq, beq_eq_false_iff_ne, ne_eq, decide_eq_true_eq, decide_eq_false_iff_not] at *; first | (symm; rw [decide_eq_true_eq]; omega) | (symm; rw [decide_eq_false_iff_not]; omega) | (rw [Bool.eq_iff_iff]; simp only [beq_iff_eq, decide_eq_true_eq]; omega)))
   exact (o32 (d := .bool (op == 27)) (E1 ++ [tT, tT, tT, tT, tT] ++ List.replicate 4 (tC (eF (neOf h2))) ++ [tT, tC (neOf h2), tT, tT, tF]) (by kernel_rfl)).to (by clear E1; first | exact stops_op (by assumption) | (apply wk_bool; unfold stopsI; first | rfl | (simp; done) | skip; simp only [w_i64, beq_iff_eq, beq_eq_false_iff_ne, ne_eq, decide_eq_true_eq, decide_eq_false_iff_not] at *; first | (symm; rw [decide_eq_true_eq]; omega) | (symm; rw [decide_eq_false_iff_not]; omega) | (rw [Bool.eq_iff_iff]; simp only [beq_iff_eq, decide_eq_true_eq]; omega)))
  exact (o32 (d := .bool false) (E1 ++ List.replicate 6 (tC (eT (neOf h1))) ++ [tT, tC (neOf h1), tF]) (by kernel_rfl)).to (by clear E1; first | exact stops_op (by assumption) | (apply wk_bool; unfold stopsI; first | rfl | (simp; done) | skip; simp only [w_i64, beq_iff_eq, beq_eq_false_iff_ne, ne_eq, decide_eq_true_eq, decide_eq_false_iff_not] at *; first | (symm; rw [decide_eq_true_eq]; omega) | (symm; rw [decide_eq_false_iff_not]; omega) | (rw [Bool.eq_iff_iff]; simp only [beq_iff_eq, decide_eq_true_eq]; omega)))
 rcases bft (decide (kind < 7)) with h3 | h3
 ·exact (o32 (d := .bool true) (List.replicate 3 (tC (eT (leL 3 h0))) ++ [tC (leL 3 h0)] ++ List.replicate 5 (tC (eF (leC 6 h3))) ++ [tC (leC 6 h3)]) (by kernel_rfl)).to (by first | exact stops_op (by assumption) | (apply wk_bool; unfold stopsI; first | rfl | (simp; done) | skip; simp only [w_i64, beq_iff_eq, beq_eq_false_iff_ne, ne_eq, decide_eq_true_eq, decide_eq_false_iff_not] at *; first | (symm; rw [decide_eq_true_eq]; omega) | (symm; rw [decide_eq_false_iff_not]; omega) | (rw [Bool.eq_iff_iff]; simp only [beq_iff_eq, decide_eq_true_eq]; omega)))
 exact (o32 (d := .bool false) (List.replicate 3 (tC (eT (leL 3 h0))) ++ [tC (leL 3 h0)] ++ List.replicate 4 (tC (eF (leC 6 h3))) ++ List.replicate 6 (tC (eT (eqG 0 h0))) ++ [tC (eF (leC 6 h3)), tC (eqG 0 h0), tC (leC 6 h3)]) (by kernel_rfl)).to (by first | exact stops_op (by assumption) | (apply wk_bool; unfold stopsI; first | rfl | (simp; done) | skip; simp only [w_i64, beq_iff_eq, beq_eq_false_iff_ne, ne_eq, decide_eq_true_eq, decide_eq_false_iff_not] at *; first | (symm; rw [decide_eq_true_eq]; omega) | (symm; rw [decide_eq_false_iff_not]; omega) | (rw [Bool.eq_iff_iff]; simp only [beq_iff_eq, decide_eq_true_eq]; omega)))
end Go.Proofs.YtojgmjfcfpclbaaGreat
