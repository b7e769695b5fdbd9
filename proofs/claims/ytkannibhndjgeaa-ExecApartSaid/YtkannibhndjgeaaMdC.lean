/- Plain definitions: instructions of the source as values; which may be. -/
import Derived.Test.YtkannibhndjgeaaEvU
namespace Go.Ev
open Go
set_option linter.unusedVariables false
set_option linter.unusedSimpArgs false

/-- An instruction of the source. -/
abbrev instD (kind op width size : Int) (byReg : Bool) (dst src off imm : Int) : D :=
  .agg [.int .i8 kind, .int .i8 op, .int .i8 width, .int .i8 size, .bool byReg, .int .i8 dst, .int .i8 src, .int .i64 off, .int .i64 imm]
def mayRange (dst src off imm : Int) : Bool := decide (0 ≤ dst ∧ dst ≤ 10 ∧ 0 ≤ src ∧ src ≤ 10 ∧ -32768 ≤ off ∧ off ≤ 32767 ∧ -2147483648 ≤ imm ∧ imm ≤ 2147483647)
def sizedM (n : Int) : Bool := decide (n = 1 ∨ n = 2 ∨ n = 4 ∨ n = 8)
def mayKind (kind op width size : Int) (byReg : Bool) (dst src off imm : Int) : Bool :=
  if kind = 0 then decide (0 ≤ op ∧ op ≤ 12 ∧ (width = 32 ∨ width = 64) ∧ dst < 10 ∧ size = 0 ∧ off = 0) && (if byReg then decide (op ≠ 8 ∧ imm = 0) else decide (src = 0 ∧ (op = 8 → imm = 0)))
  else if kind = 1 then sizedM size && decide (dst < 10 ∧ op = 0 ∧ width = 0 ∧ imm = 0) && !byReg
  else if kind = 2 then sizedM size && decide (op = 0 ∧ width = 0 ∧ imm = 0) && !byReg
  else if kind = 3 then decide (0 ≤ op ∧ op ≤ 10 ∧ width = 0 ∧ size = 0) && (if byReg then decide (imm = 0) else decide (src = 0))
  else if kind = 4 then decide (op = 0 ∧ width = 0 ∧ size = 0 ∧ dst = 0 ∧ src = 0 ∧ imm = 0) && !byReg
  else if kind = 5 then decide (op = 0 ∧ width = 0 ∧ size = 0 ∧ dst = 0 ∧ src = 0 ∧ off = 0 ∧ 0 ≤ imm ∧ imm ≤ 15) && !byReg
  else if kind = 6 then decide (op = 0 ∧ width = 0 ∧ size = 0 ∧ dst = 0 ∧ src = 0 ∧ off = 0 ∧ imm = 0) && !byReg
  else false
/-- Which may be (P3.1). -/
def mayM (kind op width size : Int) (byReg : Bool) (dst src off imm : Int) : Bool := mayRange dst src off imm && mayKind kind op width size byReg dst src off imm
/-! What an instruction's kind names -/
def fOp (kind op : Int) : Int := if kind = 0 ∨ kind = 3 then op else 0
def fWidth (kind width : Int) : Int := if kind = 0 then width else 0
def fSize (kind size : Int) : Int := if kind = 1 ∨ kind = 2 then size else 0
def fByReg (kind op : Int) (byReg : Bool) : Bool := if kind = 0 then byReg && decide (op ≠ 8) else if kind = 3 then byReg else false
def fDst (kind dst : Int) : Int := if kind = 0 ∨ kind = 1 ∨ kind = 2 ∨ kind = 3 then dst else 0
def fSrc (kind op : Int) (byReg : Bool) (src : Int) : Int := if kind = 0 then (if byReg && decide (op ≠ 8) then src else 0) else if kind = 1 ∨ kind = 2 then src else if kind = 3 then (if byReg then src else 0) else 0
def fOff (kind off : Int) : Int := if kind = 1 ∨ kind = 2 ∨ kind = 3 ∨ kind = 4 then off else 0
def fImm (kind op : Int) (byReg : Bool) (imm : Int) : Int := if kind = 0 then (if byReg || decide (op = 8) then 0 else imm) else if kind = 3 then (if byReg then 0 else imm) else if kind = 5 then imm else 0
end Go.Ev

/- Plain definitions: steps as values; an instruction's steps (P18.1). -/
namespace Go.Ev
open Go
set_option linter.unusedVariables false
set_option linter.unusedSimpArgs false

/-- An instruction of the target. -/
abbrev xD (op w dst src base disp imm cc : Int) : D :=
  .agg [.int .i8 op, .int .i8 w, .int .i8 dst, .int .i8 src, .int .i8 base, .int .i64 disp, .int .i64 imm, .int .i8 cc]
/-- A step. -/
abbrev irD (kind op w dst src base disp imm cc reg phys num to : Int) : D :=
  .agg [.int .i8 kind, .int .i8 op, .int .i8 w, .int .i8 dst, .int .i8 src, .int .i8 base, .int .i64 disp, .int .i64 imm, .int .i8 cc, .int .i8 reg, .int .i8 phys, .int .i64 num, .int .i64 to]
abbrev takeD (phys reg : Int) : D := irD 1 0 0 0 0 0 0 0 0 reg phys 0 0
abbrev giveD (reg phys : Int) : D := irD 2 0 0 0 0 0 0 0 0 reg phys 0 0
abbrev two (op w dst src : Int) : D := irD 0 op w dst src 0 0 0 0 0 0 0 0
abbrev num (op w dst n : Int) : D := irD 0 op w dst 0 0 0 n 0 0 0 0 0
abbrev cmov (w dst : Int) : D := irD 0 25 w dst 11 0 0 0 4 0 0 0 0
def zeroImm (width imm : Int) : Bool := if width = 32 then decide (imm % 4294967296 = 0) else decide (imm = 0)
def regOp (op : Int) : Int := if op = 0 then 2 else if op = 1 then 5 else if op = 4 then 3 else if op = 5 then 4 else if op = 10 then 6 else if op = 6 then 20 else if op = 7 then 21 else 22
def immOp (op : Int) : Int := if op = 0 then 9 else if op = 1 then 12 else if op = 4 then 10 else if op = 5 then 11 else if op = 10 then 13 else if op = 6 then 17 else if op = 7 then 18 else 19
def aluM (op width : Int) (byReg : Bool) (dst src imm : Int) : List D :=
  if op = 3 ∨ op = 9 then
    (if byReg then
      [takeD 0 dst, takeD 1 src, num 1 32 2 0, num 1 32 11 1, two 8 width 1 1, cmov width 1, two 24 width 1 0, takeD 1 src] ++
        (if op = 3 then [num 1 32 11 0, two 8 width 1 1, cmov width 0, giveD dst 0] else [takeD 11 dst, two 8 width 1 1, cmov width 2, giveD dst 2])
    else if zeroImm width imm then
      (if op = 3 then [num 1 width 0 0, giveD dst 0] else if width = 32 then [takeD 0 dst, two 0 32 0 0, giveD dst 0] else [takeD 0 dst, giveD dst 0])
    else [takeD 0 dst, num 1 width 1 imm, num 1 32 2 0, two 24 width 1 0, giveD dst (if op = 3 then 0 else 2)])
  else if op = 2 then (if byReg then [takeD 0 dst, takeD 1 src, two 16 width 0 1, giveD dst 0] else [takeD 0 dst, num 1 width 1 imm, two 16 width 0 1, giveD dst 0])
  else if op = 8 then [takeD 0 dst, two 23 width 0 0, giveD dst 0]
  else if op = 11 then (if byReg then (if width = 32 then [takeD 0 src, two 0 32 0 0, giveD dst 0] else [takeD 0 src, giveD dst 0]) else [num 1 width 0 imm, giveD dst 0])
  else if op = 6 ∨ op = 7 ∨ op = 12 then (if byReg then [takeD 0 dst, takeD 1 src, two (regOp op) width 0 0, giveD dst 0] else [takeD 0 dst, num (immOp op) width 0 (imm % width), giveD dst 0])
  else (if byReg then [takeD 0 dst, takeD 1 src, two (regOp op) width 0 1, giveD dst 0] else [takeD 0 dst, num (immOp op) width 0 imm, giveD dst 0])
/-- An instruction's steps, if it is no jump and may be. -/
def stepsM (kind op width size : Int) (byReg : Bool) (dst src off imm : Int) : List D :=
  if kind = 0 then aluM op width byReg dst src imm
  else if kind = 1 then [takeD 1 src, irD 0 26 (8 * size) 0 0 1 off 0 0 0 0 0 0, giveD dst 0]
  else if kind = 2 then [takeD 1 dst, takeD 0 src, irD 0 27 (8 * size) 0 0 1 off 0 0 0 0 0 0]
  else if kind = 5 then [irD 3 0 0 0 0 0 0 0 0 0 0 imm 0, giveD 0 0, num 1 32 1 0, giveD 1 1, giveD 2 1, giveD 3 1, giveD 4 1, giveD 5 1]
  else if kind = 6 then [irD 6 0 0 0 0 0 0 0 0 0 0 0 0]
  else []
end Go.Ev

/- Plain arithmetic: wraps, and the bits of numbers. -/
namespace Go.Ev
open Go
set_option linter.unusedVariables false
set_option linter.unusedSimpArgs false

theorem w_u8 (n : Int) : IntKind.u8.wrap n = n % 256 := by simp [IntKind.wrap, IntKind.bits, IntKind.signed]
theorem w_u16 (n : Int) : IntKind.u16.wrap n = n % 65536 := by simp [IntKind.wrap, IntKind.bits, IntKind.signed]
theorem w_u32 (n : Int) : IntKind.u32.wrap n = n % 4294967296 := by simp [IntKind.wrap, IntKind.bits, IntKind.signed]
theorem w_u64 (n : Int) : IntKind.u64.wrap n = n % 18446744073709551616 := by simp [IntKind.wrap, IntKind.bits, IntKind.signed]
theorem w_i8 (n : Int) : IntKind.i8.wrap n = (n + 128) % 256 - 128 := by simp only [IntKind.wrap, IntKind.bits, IntKind.signed]; simp; split <;> omega
theorem w_i16 (n : Int) : IntKind.i16.wrap n = (n + 32768) % 65536 - 32768 := by simp only [IntKind.wrap, IntKind.bits, IntKind.signed]; simp; split <;> omega
theorem w_i32 (n : Int) : IntKind.i32.wrap n = (n + 2147483648) % 4294967296 - 2147483648 := by simp only [IntKind.wrap, IntKind.bits, IntKind.signed]; simp; split <;> omega
theorem w_i64 (n : Int) : IntKind.i64.wrap n = (n + 9223372036854775808) % 18446744073709551616 - 9223372036854775808 := by simp only [IntKind.wrap, IntKind.bits, IntKind.signed]; simp; split <;> omega

theorem toNat_ofInt (w : Nat) (a : Int) : (BitVec.ofInt w a).toNat = (a % (2 ^ w : Nat)).toNat := by simp [BitVec.toNat_ofInt]
/-- The bits of a number and of a row of ones. -/
theorem and_ones (w k : Nat) (hk : k ≤ w) (a : Int) : ((BitVec.ofInt w a &&& BitVec.ofInt w ((2 ^ k - 1 : Nat) : Int)).toNat : Int) = a % (2 ^ k : Nat) := by
  have hp : 0 < 2 ^ k := Nat.two_pow_pos k
  have hle : 2 ^ k ≤ 2 ^ w := Nat.pow_le_pow_right (by omega) hk
  have e2 : (((2 ^ k - 1 : Nat) : Int) % ((2 ^ w : Nat) : Int)).toNat = 2 ^ k - 1 := by
    rw [Int.emod_eq_of_lt (by omega) (by omega)]
    omega
  rw [BitVec.toNat_and, toNat_ofInt, toNat_ofInt, e2, Nat.and_two_pow_sub_one_eq_mod]
  have h0 : 0 ≤ a % ((2 ^ w : Nat) : Int) := Int.emod_nonneg _ (by omega)
  have h1 : ((a % ((2 ^ w : Nat) : Int)).toNat : Int) = a % ((2 ^ w : Nat) : Int) := Int.toNat_of_nonneg h0
  rw [Int.natCast_emod, h1]
  have hd : ((2 ^ k : Nat) : Int) ∣ ((2 ^ w : Nat) : Int) := by
    rw [Int.natCast_dvd_natCast]; exact Nat.pow_dvd_pow 2 hk
  exact Int.emod_emod_of_dvd a hd
theorem and32 (a : Int) : ((BitVec.ofInt 64 a &&& BitVec.ofInt 64 4294967295).toNat : Int) = a % 4294967296 := by have := and_ones 64 32 (by omega) a; exact this
theorem and31 (a : Int) : ((BitVec.ofInt 64 a &&& BitVec.ofInt 64 31).toNat : Int) = a % 32 := by have := and_ones 64 5 (by omega) a; exact this
theorem and63 (a : Int) : ((BitVec.ofInt 64 a &&& BitVec.ofInt 64 63).toNat : Int) = a % 64 := by have := and_ones 64 6 (by omega) a; exact this
theorem wrap_mod32 (a : Int) : IntKind.i64.wrap (a % 32) = a % 32 := by rw [w_i64]; omega
theorem wrap_mod64 (a : Int) : IntKind.i64.wrap (a % 64) = a % 64 := by rw [w_i64]; omega
end Go.Ev

/- Plain definitions: instructions and steps as structures; when two rows are the same. -/
namespace Go.Ev
open Go
set_option linter.unusedVariables false
set_option linter.unusedSimpArgs false

structure XS where
  op : Int
  w : Int
  dst : Int
  src : Int
  base : Int
  disp : Int
  imm : Int
  cc : Int
deriving DecidableEq
def XS.d (x : XS) : D := xD x.op x.w x.dst x.src x.base x.disp x.imm x.cc
structure IrS where
  kind : Int
  op : Int
  w : Int
  dst : Int
  src : Int
  base : Int
  disp : Int
  imm : Int
  cc : Int
  reg : Int
  phys : Int
  num : Int
  to : Int
deriving DecidableEq
def IrS.d (x : IrS) : D := irD x.kind x.op x.w x.dst x.src x.base x.disp x.imm x.cc x.reg x.phys x.num x.to
structure InstS where
  kind : Int
  op : Int
  width : Int
  size : Int
  byReg : Bool
  dst : Int
  src : Int
  off : Int
  imm : Int
deriving DecidableEq
def InstS.d (x : InstS) : D := instD x.kind x.op x.width x.size x.byReg x.dst x.src x.off x.imm

/-- The cells of a step. -/
abbrev irC (kind op w dst src base disp imm cc reg phys num to : Int) : List D :=
  [.int .i8 kind, .int .i8 op, .int .i8 w, .int .i8 dst, .int .i8 src, .int .i8 base, .int .i64 disp, .int .i64 imm, .int .i8 cc, .int .i8 reg, .int .i8 phys, .int .i64 num, .int .i64 to]
theorem eq_ir (x y : IrS) : eqCells (irC x.kind x.op x.w x.dst x.src x.base x.disp x.imm x.cc x.reg x.phys x.num x.to) (irC y.kind y.op y.w y.dst y.src y.base y.disp y.imm y.cc y.reg y.phys y.num y.to) = decide (x = y) := by
  cases x; cases y
  rw [Bool.eq_iff_iff]
  simp [eqCells, eqCell]
theorem get_map {α : Type} {f : α → D} {l : List α} {k : Nat} {x : α} (h : l[k]? = some x) : (l.map f)[k]? = some (f x) := by simp [h]
/-! ### Bits -/
def sh1 (n : Int) : Int := IntKind.i64.wrap (1 * 2 ^ (min (IntKind.u64.wrap n).toNat IntKind.i64.bits))
def sh8 (n : Int) : Int := IntKind.i64.wrap (1 * 2 ^ (min n.toNat IntKind.i64.bits))
def or64 (a b : Int) : Int := IntKind.i64.wrap ((BitVec.ofInt IntKind.i64.bits a ||| BitVec.ofInt IntKind.i64.bits b).toNat : Int)
def andNot64 (a b : Int) : Int := IntKind.i64.wrap ((BitVec.ofInt IntKind.i64.bits a &&& ~~~BitVec.ofInt IntKind.i64.bits b).toNat : Int)
end Go.Ev
