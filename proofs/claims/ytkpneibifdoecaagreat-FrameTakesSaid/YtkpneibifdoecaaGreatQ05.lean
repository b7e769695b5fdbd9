/- Contracts and plain laws that a statement's proof leans on (texts merged: MdC, Base, MdZ, MdM, Az, MdW, MdF2, MdE, MdP, MdS, MdI, MdO, MdPl, FEH, FE0, MdJ, MdT, MdK). -/
import Derived.Test.YtkpneibifdoecaaGreatProg
import Derived.Laws.Strings
import Derived.Test.YtkpneibifdoecaaGreatQ04
set_option linter.unusedVariables false
set_option linter.unusedSimpArgs false
set_option maxRecDepth 100000
set_option maxHeartbeats 8000000
namespace Go.Ev
open Go
abbrev instD (kind op width size : Int) (byReg : Bool) (dst src off imm : Int) : D :=
  .agg [.int .i8 kind, .int .i8 op, .int .i8 width, .int .i8 size, .bool byReg, .int .i8 dst, .int .i8 src, .int .i64 off, .int .i64 imm]
def mayRange (dst src off imm : Int) : Bool := decide (0 ≤ dst ∧ dst ≤ 10 ∧ 0 ≤ src ∧ src ≤ 10 ∧ -32768 ≤ off ∧ off ≤ 32767 ∧ -2147483648 ≤ imm ∧ imm ≤ 2147483647)
def sizedM (n : Int) : Bool := decide (n = 1 ∨ n = 2 ∨ n = 4 ∨ n = 8)
def mayKind (kind op width size : Int) (byReg : Bool) (dst src off imm : Int) : Bool :=
  if kind = 0 then decide (0 ≤ op ∧ op ≤ 12 ∧ (width = 32 ∨ width = 64) ∧ dst < 10 ∧ size = 0 ∧ off = 0) && (if byReg then decide (op ≠ 8 ∧ imm = 0) else decide (src = 0 ∧ (op = 8 → imm = 0)))
  else if kind = 1 then sizedM size && decide (dst < 10 ∧ op = 0 ∧ width = 0 ∧ imm = 0) && !byReg
  else if kind = 2 then sizedM size && decide (op = 0 ∧ width = 0 ∧ imm = 0) && !byReg
  else if kind = 3 then decide (0 ≤ op ∧ op ≤ 10 ∧ width = 0 ∧ size = 0) && (if byReg then decide (imm = 0) else decide (src = 0))
  else if kind = 4 then decide (op = 0 ∧ width = 0 ∧ size = 0 ∧ dst = 0 ∧ src = 0 ∧ imm = 0) && !byReg
  else if kind = 5 then decide (op = 0 ∧ width = 0 ∧ size = 0 ∧ dst = 0 ∧ src = 0 ∧ off = 0 ∧ 0 ≤ imm ∧ imm ≤ 15) && !byReg
  else if kind = 6 then decide (op = 0 ∧ width = 0 ∧ size = 0 ∧ dst = 0 ∧ src = 0 ∧ off = 0 ∧ imm = 0) && !byReg
  else false
def mayM (kind op width size : Int) (byReg : Bool) (dst src off imm : Int) : Bool := mayRange dst src off imm && mayKind kind op width size byReg dst src off imm
def fOp (kind op : Int) : Int := if kind = 0 ∨ kind = 3 then op else 0
def fWidth (kind width : Int) : Int := if kind = 0 then width else 0
def fSize (kind size : Int) : Int := if kind = 1 ∨ kind = 2 then size else 0
def fByReg (kind op : Int) (byReg : Bool) : Bool := if kind = 0 then byReg && decide (op ≠ 8) else if kind = 3 then byReg else false
def fDst (kind dst : Int) : Int := if kind = 0 ∨ kind = 1 ∨ kind = 2 ∨ kind = 3 then dst else 0
def fSrc (kind op : Int) (byReg : Bool) (src : Int) : Int := if kind = 0 then (if byReg && decide (op ≠ 8) then src else 0) else if kind = 1 ∨ kind = 2 then src else if kind = 3 then (if byReg then src else 0) else 0
def fOff (kind off : Int) : Int := if kind = 1 ∨ kind = 2 ∨ kind = 3 ∨ kind = 4 then off else 0
def fImm (kind op : Int) (byReg : Bool) (imm : Int) : Int := if kind = 0 then (if byReg || decide (op = 8) then 0 else imm) else if kind = 3 then (if byReg then 0 else imm) else if kind = 5 then imm else 0
abbrev xD (op w dst src base disp imm cc : Int) : D :=
  .agg [.int .i8 op, .int .i8 w, .int .i8 dst, .int .i8 src, .int .i8 base, .int .i64 disp, .int .i64 imm, .int .i8 cc]
abbrev irD (kind op w dst src base disp imm cc reg phys num to : Int) : D :=
  .agg [.int .i8 kind, .int .i8 op, .int .i8 w, .int .i8 dst, .int .i8 src, .int .i8 base, .int .i64 disp, .int .i64 imm, .int .i8 cc, .int .i8 reg, .int .i8 phys, .int .i64 num, .int .i64 to]
abbrev takeD (phys reg : Int) : D := irD 1 0 0 0 0 0 0 0 0 reg phys 0 0
abbrev giveD (reg phys : Int) : D := irD 2 0 0 0 0 0 0 0 0 reg phys 0 0
abbrev two (op w dst src : Int) : D := irD 0 op w dst src 0 0 0 0 0 0 0 0
abbrev num (op w dst n : Int) : D := irD 0 op w dst 0 0 0 n 0 0 0 0 0
abbrev cmov (w dst : Int) : D := irD 0 25 w dst 11 0 0 0 4 0 0 0 0
def zeroImm (width imm : Int) : Bool := if width = 32 then decide (imm % 4294967296 = 0) else decide (imm = 0)
def regOp (op : Int) : Int := if op = 0 then 2 else if op = 1 then 5 else if op = 4 then 3 else if op = 5 then 4 else if op = 10 then 6 else if op = 6 then 20 else if op = 7 then 21 else 22
def immOp (op : Int) : Int := if op = 0 then 9 else if op = 1 then 12 else if op = 4 then 10 else if op = 5 then 11 else if op = 10 then 13 else if op = 6 then 17 else if op = 7 then 18 else 19
def aluM (op width : Int) (byReg : Bool) (dst src imm : Int) : List D :=
  if op = 3 ∨ op = 9 then
    (if byReg then
      [takeD 0 dst, takeD 1 src, num 1 32 2 0, num 1 32 11 1, two 8 width 1 1, cmov width 1, two 24 width 1 0, takeD 1 src] ++
        (if op = 3 then [num 1 32 11 0, two 8 width 1 1, cmov width 0, giveD dst 0] else [takeD 11 dst, two 8 width 1 1, cmov width 2, giveD dst 2])
    else if zeroImm width imm then
      (if op = 3 then [num 1 width 0 0, giveD dst 0] else if width = 32 then [takeD 0 dst, two 0 32 0 0, giveD dst 0] else [takeD 0 dst, giveD dst 0])
    else [takeD 0 dst, num 1 width 1 imm, num 1 32 2 0, two 24 width 1 0, giveD dst (if op = 3 then 0 else 2)])
  else if op = 2 then (if byReg then [takeD 0 dst, takeD 1 src, two 16 width 0 1, giveD dst 0] else [takeD 0 dst, num 1 width 1 imm, two 16 width 0 1, giveD dst 0])
  else if op = 8 then [takeD 0 dst, two 23 width 0 0, giveD dst 0]
  else if op = 11 then (if byReg then (if width = 32 then [takeD 0 src, two 0 32 0 0, giveD dst 0] else [takeD 0 src, giveD dst 0]) else [num 1 width 0 imm, giveD dst 0])
  else if op = 6 ∨ op = 7 ∨ op = 12 then (if byReg then [takeD 0 dst, takeD 1 src, two (regOp op) width 0 0, giveD dst 0] else [takeD 0 dst, num (immOp op) width 0 (imm % width), giveD dst 0])
  else (if byReg then [takeD 0 dst, takeD 1 src, two (regOp op) width 0 1, giveD dst 0] else [takeD 0 dst, num (immOp op) width 0 imm, giveD dst 0])
def stepsM (kind op width size : Int) (byReg : Bool) (dst src off imm : Int) : List D :=
  if kind = 0 then aluM op width byReg dst src imm
  else if kind = 1 then [takeD 1 src, irD 0 26 (8 * size) 0 0 1 off 0 0 0 0 0 0, giveD dst 0]
  else if kind = 2 then [takeD 1 dst, takeD 0 src, irD 0 27 (8 * size) 0 0 1 off 0 0 0 0 0 0]
  else if kind = 5 then [irD 3 0 0 0 0 0 0 0 0 0 0 imm 0, giveD 0 0, num 1 32 1 0, giveD 1 1, giveD 2 1, giveD 3 1, giveD 4 1, giveD 5 1]
  else if kind = 6 then [irD 6 0 0 0 0 0 0 0 0 0 0 0 0]
  else []
theorem w_u8 (n : Int) : IntKind.u8.wrap n = n % 256 := by simp [IntKind.wrap, IntKind.bits, IntKind.signed]
theorem w_u16 (n : Int) : IntKind.u16.wrap n = n % 65536 := by simp [IntKind.wrap, IntKind.bits, IntKind.signed]
theorem w_u32 (n : Int) : IntKind.u32.wrap n = n % 4294967296 := by simp [IntKind.wrap, IntKind.bits, IntKind.signed]
theorem w_u64 (n : Int) : IntKind.u64.wrap n = n % 18446744073709551616 := by simp [IntKind.wrap, IntKind.bits, IntKind.signed]
theorem w_i8 (n : Int) : IntKind.i8.wrap n = (n + 128) % 256 - 128 := by simp only [IntKind.wrap, IntKind.bits, IntKind.signed]; simp; split <;> omega
theorem w_i16 (n : Int) : IntKind.i16.wrap n = (n + 32768) % 65536 - 32768 := by simp only [IntKind.wrap, IntKind.bits, IntKind.signed]; simp; split <;> omega
theorem w_i32 (n : Int) : IntKind.i32.wrap n = (n + 2147483648) % 4294967296 - 2147483648 := by simp only [IntKind.wrap, IntKind.bits, IntKind.signed]; simp; split <;> omega
theorem w_i64 (n : Int) : IntKind.i64.wrap n = (n + 9223372036854775808) % 18446744073709551616 - 9223372036854775808 := by simp only [IntKind.wrap, IntKind.bits, IntKind.signed]; simp; split <;> omega
theorem toNat_ofInt (w : Nat) (a : Int) : (BitVec.ofInt w a).toNat = (a % (2 ^ w : Nat)).toNat := by simp [BitVec.toNat_ofInt]
theorem and_ones (w k : Nat) (hk : k ≤ w) (a : Int) : ((BitVec.ofInt w a &&& BitVec.ofInt w ((2 ^ k - 1 : Nat) : Int)).toNat : Int) = a % (2 ^ k : Nat) := by
 have hp : 0 < 2 ^ k := Nat.two_pow_pos k
 have hle : 2 ^ k ≤ 2 ^ w := Nat.pow_le_pow_right (by omega) hk
 have e2 : (((2 ^ k - 1 : Nat) : Int) % ((2 ^ w : Nat) : Int)).toNat = 2 ^ k - 1 := by
  rw [Int.emod_eq_of_lt (by omega) (by omega)]
  omega
 rw [BitVec.toNat_and, toNat_ofInt, toNat_ofInt, e2, Nat.and_two_pow_sub_one_eq_mod]
 have h0 : 0 ≤ a % ((2 ^ w : Nat) : Int) := Int.emod_nonneg _ (by omega)
 have h1 : ((a % ((2 ^ w : Nat) : Int)).toNat : Int) = a % ((2 ^ w : Nat) : Int) := Int.toNat_of_nonneg h0
 rw [Int.natCast_emod, h1]
 have hd : ((2 ^ k : Nat) : Int) ∣ ((2 ^ w : Nat) : Int) := by
  rw [Int.natCast_dvd_natCast]; exact Nat.pow_dvd_pow 2 hk
 exact Int.emod_emod_of_dvd a hd
structure XS where
  op : Int
  w : Int
  dst : Int
  src : Int
  base : Int
  disp : Int
  imm : Int
  cc : Int
deriving DecidableEq
def XS.d (x : XS) : D := xD x.op x.w x.dst x.src x.base x.disp x.imm x.cc
structure IrS where
  kind : Int
  op : Int
  w : Int
  dst : Int
  src : Int
  base : Int
  disp : Int
  imm : Int
  cc : Int
  reg : Int
  phys : Int
  num : Int
  to : Int
deriving DecidableEq
def IrS.d (x : IrS) : D := irD x.kind x.op x.w x.dst x.src x.base x.disp x.imm x.cc x.reg x.phys x.num x.to
structure InstS where
  kind : Int
  op : Int
  width : Int
  size : Int
  byReg : Bool
  dst : Int
  src : Int
  off : Int
  imm : Int
deriving DecidableEq
def InstS.d (x : InstS) : D := instD x.kind x.op x.width x.size x.byReg x.dst x.src x.off x.imm
abbrev irC (kind op w dst src base disp imm cc reg phys num to : Int) : List D :=
  [.int .i8 kind, .int .i8 op, .int .i8 w, .int .i8 dst, .int .i8 src, .int .i8 base, .int .i64 disp, .int .i64 imm, .int .i8 cc, .int .i8 reg, .int .i8 phys, .int .i64 num, .int .i64 to]
def sh1 (n : Int) : Int := IntKind.i64.wrap (1 * 2 ^ (min (IntKind.u64.wrap n).toNat IntKind.i64.bits))
def sh8 (n : Int) : Int := IntKind.i64.wrap (1 * 2 ^ (min n.toNat IntKind.i64.bits))
def or64 (a b : Int) : Int := IntKind.i64.wrap ((BitVec.ofInt IntKind.i64.bits a ||| BitVec.ofInt IntKind.i64.bits b).toNat : Int)
def andNot64 (a b : Int) : Int := IntKind.i64.wrap ((BitVec.ofInt IntKind.i64.bits a &&& ~~~BitVec.ofInt IntKind.i64.bits b).toNat : Int)
end Go.Ev
namespace Go.Proofs.YtkpneibifdoecaaGreat
open Go Go.Ev
theorem mixed : Tryz.prog.follows .mixedOrders = true := by kernel_rfl
theorem flat_X : FlatEq Tryz.prog 55 [.int .i8, .int .i8, .int .i8, .int .i8, .int .i8, .int .i64, .int .i64, .int .i8] := FlatEq.of_flat (d := 5) (by kernel_rfl) (by kernel_rfl) (by kernel_rfl) (by kernel_rfl)
theorem flat_Ir : FlatEq Tryz.prog 65 [.int .i8, .int .i8, .int .i8, .int .i8, .int .i8, .int .i8, .int .i64, .int .i64, .int .i8, .int .i8, .int .i8, .int .i64, .int .i64] := FlatEq.of_flat (d := 5) (by kernel_rfl) (by kernel_rfl) (by kernel_rfl) (by kernel_rfl)
theorem flat_Place : FlatEq Tryz.prog 25 [.int .i8, .int .i8] := FlatEq.of_flat (d := 5) (by kernel_rfl) (by kernel_rfl) (by kernel_rfl) (by kernel_rfl)
theorem flat_Flags : FlatEq Tryz.prog 45 [.bool, .bool, .bool, .bool, .bool] := FlatEq.of_flat (d := 5) (by kernel_rfl) (by kernel_rfl) (by kernel_rfl) (by kernel_rfl)
end Go.Proofs.YtkpneibifdoecaaGreat
namespace Go.Ev
open Go
def shapeM (op : Int) : Int :=
  if op = 0 ∨ (2 ≤ op ∧ op ≤ 8) then 1
  else if op = 16 then 2
  else if op = 1 ∨ (9 ≤ op ∧ op ≤ 15) then 3
  else if 17 ≤ op ∧ op ≤ 19 then 4
  else if 20 ≤ op ∧ op ≤ 24 then 5
  else if op = 25 then 6
  else if op = 26 then 7
  else if op = 27 then 8
  else if op = 28 then 9
  else if op = 29 then 10
  else if op = 30 ∨ op = 31 then 11
  else 0
def codeM (op : Int) : Int :=
  if op = 0 then 0x89 else if op = 1 then 0xC7 else if op = 2 then 0x01 else if op = 3 then 0x09 else if op = 4 then 0x21 else if op = 5 then 0x29 else if op = 6 then 0x31 else if op = 7 then 0x39 else if op = 8 then 0x85
  else if 9 ≤ op ∧ op ≤ 14 then 0x81 else if op = 15 then 0xF7 else if op = 16 then 0xAF else if 17 ≤ op ∧ op ≤ 19 then 0xC1 else if 20 ≤ op ∧ op ≤ 22 then 0xD3 else if op = 23 ∨ op = 24 then 0xF7
  else if op = 25 then 0x40 else if op = 26 then 0x8B else if op = 27 then 0x89 else if op = 28 then 0xE9 else if op = 29 then 0x80 else if op = 30 then 0xC3 else if op = 31 then 0x05 else 0
def numM (op : Int) : Int :=
  if op = 10 then 1 else if op = 11 ∨ op = 17 ∨ op = 20 then 4 else if op = 12 ∨ op = 18 ∨ op = 21 then 5 else if op = 13 ∨ op = 24 then 6 else if op = 14 ∨ op = 19 ∨ op = 22 then 7 else if op = 23 then 3 else 0
def classM (op : Int) : Int :=
  if shapeM op = 1 ∨ shapeM op = 2 then 1 else if shapeM op = 0 then 0 else shapeM op - 1
def regM (n : Int) : Bool := decide (0 ≤ n ∧ n ≤ 15)
def ccM (n : Int) : Bool := decide ((2 ≤ n ∧ n ≤ 7) ∨ (12 ≤ n ∧ n ≤ 15))
def longM (w : Int) : Bool := decide (w = 32 ∨ w = 64)
def widthM (w : Int) : Bool := decide (w = 8 ∨ w = 16 ∨ w = 32 ∨ w = 64)
def jumpM (w imm : Int) : Bool := decide (w = 32 ∨ (w = 8 ∧ -128 ≤ imm ∧ imm ≤ 127))
def mayS (sh w dst src base disp imm cc : Int) : Bool :=
  if sh = 1 ∨ sh = 2 then longM w && decide (base = 0 ∧ disp = 0 ∧ imm = 0 ∧ cc = 0)
  else if sh = 3 then longM w && decide (src = 0 ∧ base = 0 ∧ disp = 0 ∧ cc = 0)
  else if sh = 4 then longM w && decide (src = 0 ∧ base = 0 ∧ disp = 0 ∧ cc = 0 ∧ 0 ≤ imm ∧ imm < w)
  else if sh = 5 then longM w && decide (src = 0 ∧ base = 0 ∧ disp = 0 ∧ imm = 0 ∧ cc = 0)
  else if sh = 6 then longM w && decide (base = 0 ∧ disp = 0 ∧ imm = 0) && ccM cc
  else if sh = 7 then widthM w && decide (src = 0 ∧ imm = 0 ∧ cc = 0)
  else if sh = 8 then widthM w && decide (dst = 0 ∧ imm = 0 ∧ cc = 0)
  else if sh = 9 then jumpM w imm && decide (dst = 0 ∧ src = 0 ∧ base = 0 ∧ disp = 0 ∧ cc = 0)
  else if sh = 10 then jumpM w imm && decide (dst = 0 ∧ src = 0 ∧ base = 0 ∧ disp = 0) && ccM cc
  else if sh = 11 then decide (w = 0 ∧ dst = 0 ∧ src = 0 ∧ base = 0 ∧ disp = 0 ∧ imm = 0 ∧ cc = 0)
  else false
def mayX (op w dst src base disp imm cc : Int) : Bool :=
  regM dst && regM src && regM base && decide (-2147483648 ≤ disp ∧ disp ≤ 2147483647) && decide (-2147483648 ≤ imm ∧ imm ≤ 2147483647) && mayS (shapeM op) w dst src base disp imm cc
def fourM (n : Int) : List Int := [n % 256, n / 256 % 256, n / 65536 % 256, n / 16777216 % 256]
def rexB (wide : Bool) (r m : Int) : Int := 64 + (if wide then 8 else 0) + 4 * (r / 8) + m / 8
def needM (wide : Bool) (r m : Int) (always : Bool) : Bool := wide || always || decide (8 ≤ r ∨ 8 ≤ m)
def rexM (wide : Bool) (r m : Int) (always : Bool) : List Int := if needM wide r m always then [rexB wide r m] else []
def regsM (r m : Int) : Int := 192 + 8 * (r % 8) + m % 8
def memM (r b disp : Int) : List Int := if b % 8 = 4 then (128 + 8 * (r % 8) + b % 8) :: 36 :: fourM disp else (128 + 8 * (r % 8) + b % 8) :: fourM disp
def bytesM (op w dst src base disp imm cc : Int) : List Int :=
  let sh := shapeM op
  let wide := decide (w = 64)
  if sh = 1 then rexM wide src dst false ++ [codeM op, regsM src dst]
  else if sh = 2 then rexM wide dst src false ++ [15, codeM op, regsM dst src]
  else if sh = 6 then rexM wide dst src false ++ [15, 64 + cc, regsM dst src]
  else if sh = 3 then (if op = 1 ∧ w = 32 then rexM false 0 dst false ++ ((184 + dst % 8) :: fourM imm) else rexM wide 0 dst false ++ (codeM op :: regsM (numM op) dst :: fourM imm))
  else if sh = 4 then rexM wide 0 dst false ++ [codeM op, regsM (numM op) dst, imm % 256]
  else if sh = 5 then rexM wide 0 dst false ++ [codeM op, regsM (numM op) dst]
  else if sh = 7 then rexM wide dst base false ++ ((if w = 8 then [15, 182] else if w = 16 then [15, 183] else [139]) ++ memM dst base disp)
  else if sh = 8 then (if w = 16 then [102] else []) ++ (rexM wide src base (decide (w = 8)) ++ ((if w = 8 then [136] else [137]) ++ memM src base disp))
  else if sh = 9 then (if w = 8 then [235, imm % 256] else 233 :: fourM imm)
  else if sh = 10 then (if w = 8 then [112 + cc, imm % 256] else 15 :: (128 + cc) :: fourM imm)
  else if op = 31 then [15, 5]
  else [195]
def bD (l : List Int) : List D := l.map fun n => .int .u8 n
def bytesL (op w dst src base disp imm cc : Int) : List D := if mayX op w dst src base disp imm cc then bD (bytesM op w dst src base disp imm cc) else []
def bytesE (op w dst src base disp imm cc : Int) : Int := if mayX op w dst src base disp imm cc then 0 else 2
def signed4 (a b c d : Int) : Int := (a + 256 * b + 65536 * c + 16777216 * d + 2147483648) % 4294967296 - 2147483648
def signed1 (a : Int) : Int := (a + 128) % 256 - 128
theorem mayX_parts {op w dst src base disp imm cc : Int} (h : mayX op w dst src base disp imm cc = true) :
  (0 ≤ dst ∧ dst ≤ 15 ∧ 0 ≤ src ∧ src ≤ 15 ∧ 0 ≤ base ∧ base ≤ 15 ∧ -2147483648 ≤ disp ∧ disp ≤ 2147483647 ∧ -2147483648 ≤ imm ∧ imm ≤ 2147483647) ∧ mayS (shapeM op) w dst src base disp imm cc = true := by
 simp only [mayX, regM, Bool.and_eq_true, decide_eq_true_eq] at h
 exact ⟨by omega, h.2⟩
theorem shape_ops {op : Int} (h : shapeM op ≠ 0) : op = 0 ∨ op = 1 ∨ op = 2 ∨ op = 3 ∨ op = 4 ∨ op = 5 ∨ op = 6 ∨ op = 7 ∨ op = 8 ∨ op = 9 ∨ op = 10 ∨ op = 11 ∨ op = 12 ∨ op = 13 ∨ op = 14 ∨ op = 15 ∨ op = 16 ∨ op = 17 ∨ op = 18 ∨ op = 19 ∨ op = 20 ∨ op = 21 ∨ op = 22 ∨ op = 23 ∨ op = 24 ∨ op = 25 ∨ op = 26 ∨ op = 27 ∨ op = 28 ∨ op = 29 ∨ op = 30 ∨ op = 31 := by
 by_cases h2 : 0 ≤ op ∧ op ≤ 31
 ·omega
 ·refine absurd ?_ h
  unfold shapeM
  repeat (rw [if_neg (by omega)])
def rd4 : List Int → Int
  | a :: b :: c :: d :: _ => signed4 a b c d
  | _ => 0
def hd (l : List Int) : Int := l.headD 0
def ops32 : List Int := [0, 1, 2, 3, 4, 5, 6, 7, 8, 9, 10, 11, 12, 13, 14, 15, 16, 17, 18, 19, 20, 21, 22, 23, 24, 25, 26, 27, 28, 29, 30, 31]
def findOp (p : Int → Bool) : Int := (ops32.find? p).getD (-1)
def opPairs (c : Int) : Int := findOp fun o => decide (shapeM o = 1 ∧ codeM o = c)
def opGroup (c k : Int) : Int := findOp fun o => decide ((shapeM o = 3 ∨ shapeM o = 4 ∨ shapeM o = 5) ∧ codeM o = c ∧ numM o = k)
def preM : List Int → Bool × Int × Int × List Int
  | h :: t => if 64 ≤ h ∧ h ≤ 79 then (decide (72 ≤ h), (h - 64) / 4 % 2, (h - 64) % 2, t) else (false, 0, 0, h :: t)
  | [] => (false, 0, 0, [])
def behM (t : List Int) : List Int := if hd t % 8 = 4 then t.drop 2 else t.drop 1
def dec2 (wide : Bool) (r m c : Int) (t : List Int) : XS :=
  let w := if wide then 64 else 32
  let reg := hd t / 8 % 8 + 8 * r
  let rm := hd t % 8 + 8 * m
  if c = 175 then ⟨16, w, reg, rm, 0, 0, 0, 0⟩
  else if 64 ≤ c ∧ c ≤ 79 then ⟨25, w, reg, rm, 0, 0, 0, c - 64⟩
  else if 128 ≤ c ∧ c ≤ 143 then ⟨29, 32, 0, 0, 0, 0, rd4 t, c - 128⟩
  else if c = 182 then ⟨26, 8, reg, 0, rm, rd4 (behM t), 0, 0⟩
  else if c = 183 then ⟨26, 16, reg, 0, rm, rd4 (behM t), 0, 0⟩
  else ⟨31, 0, 0, 0, 0, 0, 0, 0⟩
def dec1 (half wide : Bool) (r m c : Int) (t : List Int) : XS :=
  let w := if wide then 64 else 32
  let reg := hd t / 8 % 8 + 8 * r
  let rm := hd t % 8 + 8 * m
  if c = 15 then dec2 wide r m (hd t) (t.drop 1)
  else if 184 ≤ c ∧ c ≤ 191 then ⟨1, 32, c - 184 + 8 * m, 0, 0, 0, rd4 t, 0⟩
  else if 112 ≤ c ∧ c ≤ 127 then ⟨29, 8, 0, 0, 0, 0, signed1 (hd t), c - 112⟩
  else if c = 235 then ⟨28, 8, 0, 0, 0, 0, signed1 (hd t), 0⟩
  else if c = 233 then ⟨28, 32, 0, 0, 0, 0, rd4 t, 0⟩
  else if c = 195 then ⟨30, 0, 0, 0, 0, 0, 0, 0⟩
  else if c = 139 then ⟨26, w, reg, 0, rm, rd4 (behM t), 0, 0⟩
  else if c = 136 then ⟨27, 8, 0, reg, rm, rd4 (behM t), 0, 0⟩
  else if c = 137 ∧ hd t < 192 then ⟨27, if half then 16 else w, 0, reg, rm, rd4 (behM t), 0, 0⟩
  else if opPairs c ≠ -1 then ⟨opPairs c, w, rm, reg, 0, 0, 0, 0⟩
  else
    let o := opGroup c (hd t / 8 % 8)
    if shapeM o = 3 then ⟨o, w, rm, 0, 0, 0, rd4 (t.drop 1), 0⟩
    else if shapeM o = 4 then ⟨o, w, rm, 0, 0, 0, hd (t.drop 1), 0⟩
    else ⟨o, w, rm, 0, 0, 0, 0, 0⟩
def decR (half : Bool) (p : Bool × Int × Int × List Int) : XS := dec1 half p.1 p.2.1 p.2.2.1 (hd p.2.2.2) (p.2.2.2.drop 1)
def decM (l : List Int) : XS := if hd l = 102 then decR true (preM (l.drop 1)) else decR false (preM l)
theorem op_fin {op : Int} (h : shapeM op ≠ 0) : ∃ n : Fin 32, op = n.val := by
 have := shape_ops h
 exact ⟨⟨op.toNat, by omega⟩, by simp; omega⟩
theorem long_cases {w : Int} (h : longM w = true) : w = 32 ∨ w = 64 := by simpa [longM] using h
theorem shape_6 : ∀ n : Fin 32, shapeM (n.val : Int) = 6 → (n.val : Int) = 25 := by decide +kernel
theorem shape_7 : ∀ n : Fin 32, shapeM (n.val : Int) = 7 → (n.val : Int) = 26 := by decide +kernel
theorem shape_8 : ∀ n : Fin 32, shapeM (n.val : Int) = 8 → (n.val : Int) = 27 := by decide +kernel
theorem shape_9 : ∀ n : Fin 32, shapeM (n.val : Int) = 9 → (n.val : Int) = 28 := by decide +kernel
theorem shape_10 : ∀ n : Fin 32, shapeM (n.val : Int) = 10 → (n.val : Int) = 29 := by decide +kernel
theorem shape_11 : ∀ n : Fin 32, shapeM (n.val : Int) = 11 → (n.val : Int) = 30 ∨ (n.val : Int) = 31 := by decide +kernel
theorem fin16 {d : Int} (h0 : 0 ≤ d) (h1 : d ≤ 15) : ∃ n : Fin 16, d = (n.val : Int) := ⟨⟨d.toNat, by omega⟩, by simp; omega⟩
theorem need_or {r m : Int} (r0 : 0 ≤ r) (r1 : r ≤ 15) (m0 : 0 ≤ m) (m1 : m ≤ 15) : (IntKind.i8.wrap ((BitVec.ofInt 8 (IntKind.i8.wrap ((BitVec.ofInt 8 r ||| BitVec.ofInt 8 m).toNat : Int)) &&& BitVec.ofInt 8 8).toNat : Int) != 0) = decide (8 ≤ r ∨ 8 ≤ m) := by
 obtain ⟨n, rfl⟩ := fin16 r0 r1
 obtain ⟨k, rfl⟩ := fin16 m0 m1
 clear r0 r1 m0 m1
 revert n k
 decide +kernel
theorem reg_yes {r : Int} (r0 : 0 ≤ r) (r1 : r ≤ 15) : regM r = true := by simp [regM, r0, r1]
theorem rex_raw0 {r m : Int} (r0 : 0 ≤ r) (r1 : r ≤ 15) (m0 : 0 ≤ m) (m1 : m ≤ 15) : IntKind.u8.wrap ((BitVec.ofInt 8 (IntKind.u8.wrap ((BitVec.ofInt 8 64 ||| BitVec.ofInt 8 (4 * (r / 8))).toNat : Int)) ||| BitVec.ofInt 8 (m / 8)).toNat : Int) = rexB false r m := by
 obtain ⟨n, rfl⟩ := fin16 r0 r1
 obtain ⟨k, rfl⟩ := fin16 m0 m1
 clear r0 r1 m0 m1
 revert n k
 decide +kernel
theorem rex_raw1 {r m : Int} (r0 : 0 ≤ r) (r1 : r ≤ 15) (m0 : 0 ≤ m) (m1 : m ≤ 15) : IntKind.u8.wrap ((BitVec.ofInt 8 (IntKind.u8.wrap ((BitVec.ofInt 8 (IntKind.u8.wrap ((BitVec.ofInt 8 64 ||| BitVec.ofInt 8 (4 * (r / 8))).toNat : Int)) ||| BitVec.ofInt 8 (m / 8)).toNat : Int)) ||| BitVec.ofInt 8 8).toNat : Int) = rexB true r m := by
 obtain ⟨n, rfl⟩ := fin16 r0 r1
 obtain ⟨k, rfl⟩ := fin16 m0 m1
 clear r0 r1 m0 m1
 revert n k
 decide +kernel
theorem and7 (a : Int) : ((BitVec.ofInt 8 a &&& BitVec.ofInt 8 7).toNat : Int) = a % 8 := by have := and_ones 8 3 (by omega) a; exact this
theorem sib_t {b : Int} (h : decide (b % 8 = 4) = true) : (IntKind.i8.wrap ((BitVec.ofInt 8 b &&& BitVec.ofInt 8 7).toNat : Int) == 4) = true := by
 rw [and7, w_i8]; simp at h ⊢; omega
theorem sib_f {b : Int} (h : decide (b % 8 = 4) = false) : (IntKind.i8.wrap ((BitVec.ofInt 8 b &&& BitVec.ofInt 8 7).toNat : Int) == 4) = false := by
 rw [and7, w_i8]; simp at h ⊢; omega
theorem fd1 (a : Int) : a.fdiv 1 = a := by rw [Int.fdiv_eq_ediv_of_nonneg _ (by decide)]; omega
theorem fd256 (a : Int) : a.fdiv 256 = a / 256 := Int.fdiv_eq_ediv_of_nonneg _ (by decide)
theorem fd65536 (a : Int) : a.fdiv 65536 = a / 65536 := Int.fdiv_eq_ediv_of_nonneg _ (by decide)
theorem fd16777216 (a : Int) : a.fdiv 16777216 = a / 16777216 := Int.fdiv_eq_ediv_of_nonneg _ (by decide)
theorem or184 {r : Int} (r0 : 0 ≤ r) (r1 : r ≤ 15) : IntKind.u8.wrap ((BitVec.ofInt 8 184 ||| BitVec.ofInt 8 (IntKind.u8.wrap (IntKind.i8.wrap ((BitVec.ofInt 8 r &&& BitVec.ofInt 8 7).toNat : Int)))).toNat : Int) = 184 + r % 8 := by
 obtain ⟨n, rfl⟩ := fin16 r0 r1
 clear r0 r1
 revert n
 decide +kernel
theorem beq_dec (a b : Int) : (a == b) = decide (a = b) := by
 rw [Bool.eq_iff_iff]; simp
def lenX (op w dst src base disp imm cc : Int) : Int := ((bytesL op w dst src base disp imm cc).length : Nat)
def A255 (l : List Int) : Prop := ∀ b ∈ l, 0 ≤ b ∧ b ≤ 255
theorem A255.nil : A255 [] := by intro b hb; cases hb
theorem A255.cons {x : Int} {l : List Int} (h0 : 0 ≤ x) (h1 : x ≤ 255) (h : A255 l) : A255 (x :: l) := by
 intro b hb
 rcases List.mem_cons.1 hb with e | hb
 ·subst e; exact ⟨h0, h1⟩
 ·exact h b hb
def u64 (n : Int) : Int := IntKind.u64.wrap n
def cutM (v w : Int) : Int := if w = 8 then v % 256 else if w = 16 then v % 65536 else if w = 32 then v % 4294967296 else v
def signM (v w : Int) : Int :=
  if w = 8 then u64 (IntKind.i8.wrap v) else if w = 16 then u64 (IntKind.i16.wrap v) else if w = 32 then u64 (IntKind.i32.wrap v) else v
def negM (v w : Int) : Bool := decide (IntKind.i64.wrap (signM v w) < 0)
def xor64 (a b : Int) : Int := u64 ((BitVec.ofInt 64 a ^^^ BitVec.ofInt 64 b).toNat : Int)
def and64u (a b : Int) : Int := u64 ((BitVec.ofInt 64 a &&& BitVec.ofInt 64 b).toNat : Int)
def or64u (a b : Int) : Int := u64 ((BitVec.ofInt 64 a ||| BitVec.ofInt 64 b).toNat : Int)
def fD (k c z s o : Bool) : D := .agg [.bool k, .bool c, .bool z, .bool s, .bool o]
def byM (b w : Int) : Int := and64u b (u64 (IntKind.i8.wrap (w - 1)))
def opM (op a b by' w : Int) : Int :=
  if op = 0 then u64 (a + b)
  else if op = 1 then u64 (a - b)
  else if op = 2 then u64 (a * b)
  else if op = 3 then (if b = 0 then 0 else u64 (a.tdiv b))
  else if op = 4 then or64u a b
  else if op = 5 then and64u a b
  else if op = 6 then u64 (a * 2 ^ (min by'.toNat 64))
  else if op = 7 then a.fdiv (2 ^ (min by'.toNat 64))
  else if op = 8 then u64 (0 - a)
  else if op = 9 then (if b = 0 then a else a.tmod b)
  else if op = 10 then xor64 a b
  else if op = 11 then b
  else u64 ((IntKind.i64.wrap (signM a w)).fdiv (2 ^ (min by'.toNat 64)))
def doM (op w a b : Int) : Int := cutM (opM op (cutM a w) (cutM b w) (byM (cutM b w) w) w) w
theorem neD {x c : Int} {v : Bool} (h : (x == c) = v) : decide (x ≠ c) = !v := by
 rw [← h]; by_cases e : x = c <;> simp [e]
def rg (l : List Int) (i : Int) : Int := l.getD i.toNat 0
def st (j i v r : Int) : Int := if i = j then v else r
theorem in16 {i : Int} (h0 : 0 ≤ i) (h1 : i ≤ 15) : decide ((0 : Int) ≤ i ∧ i < ((16 : Nat) : Int)) = true := by
 rw [decide_eq_true_eq]; omega
def putD (i v r0 r1 r2 r3 r4 r5 r6 r7 r8 r9 r10 r11 r12 r13 r14 r15 : Int) (tl : List D) : List D := .int .u64 (st 0 i v r0) :: .int .u64 (st 1 i v r1) :: .int .u64 (st 2 i v r2) :: .int .u64 (st 3 i v r3) :: .int .u64 (st 4 i v r4) :: .int .u64 (st 5 i v r5) :: .int .u64 (st 6 i v r6) :: .int .u64 (st 7 i v r7) :: .int .u64 (st 8 i v r8) :: .int .u64 (st 9 i v r9) :: .int .u64 (st 10 i v r10) :: .int .u64 (st 11 i v r11) :: .int .u64 (st 12 i v r12) :: .int .u64 (st 13 i v r13) :: .int .u64 (st 14 i v r14) :: .int .u64 (st 15 i v r15) :: tl
abbrev uu : D := .undef
abbrev PutsA (l : List D) (i : Nat) (xs l' : List D) : Prop := l.take i ++ (xs ++ l.drop (i + xs.length)) = l' ∧ i + xs.length ≤ l.length
abbrev GetsA (l : List D) (i n : Nat) (l' : List D) : Prop := (l.drop i).take n = l' ∧ i + n ≤ l.length
section
variable {r0 r1 r2 r3 r4 r5 r6 r7 r8 r9 r10 r11 r12 r13 r14 r15 i v : Int} {tl : List D}
theorem get_reg (h0 : 0 ≤ i) (h1 : i ≤ 15) : (D.int .u64 r0 :: D.int .u64 r1 :: D.int .u64 r2 :: D.int .u64 r3 :: D.int .u64 r4 :: D.int .u64 r5 :: D.int .u64 r6 :: D.int .u64 r7 :: D.int .u64 r8 :: D.int .u64 r9 :: D.int .u64 r10 :: D.int .u64 r11 :: D.int .u64 r12 :: D.int .u64 r13 :: D.int .u64 r14 :: D.int .u64 r15 :: tl : List D)[0 + i.toNat * 1]? =
  some (.int .u64 (rg [r0, r1, r2, r3, r4, r5, r6, r7, r8, r9, r10, r11, r12, r13, r14, r15] i)) := by
 obtain ⟨n, rfl⟩ := fin16 h0 h1
 have : n.val = 0 ∨ n.val = 1 ∨ n.val = 2 ∨ n.val = 3 ∨ n.val = 4 ∨ n.val = 5 ∨ n.val = 6 ∨ n.val = 7 ∨ n.val = 8 ∨ n.val = 9 ∨ n.val = 10 ∨ n.val = 11 ∨ n.val = 12 ∨ n.val = 13 ∨ n.val = 14 ∨ n.val = 15 := by omega
 rcases this with e | e | e | e | e | e | e | e | e | e | e | e | e | e | e | e <;> rw [e] <;> rfl
theorem put_reg (h0 : 0 ≤ i) (h1 : i ≤ 15) : PutsA (D.int .u64 r0 :: D.int .u64 r1 :: D.int .u64 r2 :: D.int .u64 r3 :: D.int .u64 r4 :: D.int .u64 r5 :: D.int .u64 r6 :: D.int .u64 r7 :: D.int .u64 r8 :: D.int .u64 r9 :: D.int .u64 r10 :: D.int .u64 r11 :: D.int .u64 r12 :: D.int .u64 r13 :: D.int .u64 r14 :: D.int .u64 r15 :: tl : List D) (0 + i.toNat * 1) [D.int .u64 v]
  (D.int .u64 (st 0 i v r0) :: D.int .u64 (st 1 i v r1) :: D.int .u64 (st 2 i v r2) :: D.int .u64 (st 3 i v r3) :: D.int .u64 (st 4 i v r4) :: D.int .u64 (st 5 i v r5) :: D.int .u64 (st 6 i v r6) :: D.int .u64 (st 7 i v r7) :: D.int .u64 (st 8 i v r8) :: D.int .u64 (st 9 i v r9) :: D.int .u64 (st 10 i v r10) :: D.int .u64 (st 11 i v r11) :: D.int .u64 (st 12 i v r12) :: D.int .u64 (st 13 i v r13) :: D.int .u64 (st 14 i v r14) :: D.int .u64 (st 15 i v r15) :: tl) := by
 obtain ⟨n, rfl⟩ := fin16 h0 h1
 have : n.val = 0 ∨ n.val = 1 ∨ n.val = 2 ∨ n.val = 3 ∨ n.val = 4 ∨ n.val = 5 ∨ n.val = 6 ∨ n.val = 7 ∨ n.val = 8 ∨ n.val = 9 ∨ n.val = 10 ∨ n.val = 11 ∨ n.val = 12 ∨ n.val = 13 ∨ n.val = 14 ∨ n.val = 15 := by omega
 rcases this with e | e | e | e | e | e | e | e | e | e | e | e | e | e | e | e <;> rw [e] <;> refine ⟨rfl, by simp⟩
end
end Go.Ev
namespace Go.Proofs.YtkpneibifdoecaaGreat
open Go Go.Ev
abbrev EL := List (Ev Tryz.prog)
theorem bft (b : Bool) : b = true ∨ b = false := Bool.eq_false_or_eq_true b
theorem sl0 : (∀ {p : Prop} [Decidable p], (decide p = true) = p) ∧ (∀ {p : Prop} [Decidable p], (decide p = false) ↔ ¬p) ∧ (∀ (b : Bool), (¬(b = true)) = (b = false)) ∧ (∀ {α : Type} [BEq α] [LawfulBEq α] {a b : α}, (a == b) = true ↔ a = b) ∧ (∀ {α : Type} [BEq α] [LawfulBEq α] {a b : α}, (a == b) = false ↔ a ≠ b) ∧ (∀ (a b : Bool), (D.bool a = D.bool b) = (a = b)) := ⟨@decide_eq_true_eq, @decide_eq_false_iff_not, @Bool.not_eq_true, @beq_iff_eq, @beq_eq_false_iff_ne, @D.bool.injEq⟩
theorem sl2 : (∀ n : Int, IntKind.i8.wrap n = (n + 128) % 256 - 128) ∧ (∀ n : Int, IntKind.u8.wrap n = n % 256) ∧ (∀ n : Int, IntKind.i64.wrap n = (n + 9223372036854775808) % 18446744073709551616 - 9223372036854775808) ∧ (∀ n : Int, IntKind.u64.wrap n = n % 18446744073709551616) ∧ (∀ {p : Prop} [Decidable p], (decide p = true) = p) ∧ (∀ {p : Prop} [Decidable p], (decide p = false) ↔ ¬p) ∧ (∀ {α : Type} [BEq α] [LawfulBEq α] {a b : α}, (a == b) = true ↔ a = b) ∧ (∀ {α : Type} [BEq α] [LawfulBEq α] {a b : α}, (a != b) = true ↔ a ≠ b) ∧ (∀ {α : Type} [BEq α] [LawfulBEq α] {a b : α}, (a == b) = false ↔ a ≠ b) ∧ (∀ {α : Type} [BEq α] [LawfulBEq α] {a b : α}, (a != b) = false ↔ a = b) ∧ (∀ (b : Bool), ((!b) = true) = (b = false)) ∧ (∀ (b : Bool), ((!b) = false) = (b = true)) ∧ (∀ (a b : Bool), ((a && b) = true) = (a = true ∧ b = true)) ∧ (∀ (a b : Bool), ((a || b) = true) = (a = true ∨ b = true)) := ⟨@w_i8, @w_u8, @w_i64, @w_u64, @decide_eq_true_eq, @decide_eq_false_iff_not, @beq_iff_eq, @bne_iff_ne, @beq_eq_false_iff_ne, @bne_eq_false_iff_eq, @Bool.not_eq_true', @Bool.not_eq_false', @Bool.and_eq_true, @Bool.or_eq_true⟩
def OE (n : Nat) (f : Func) : Prop := ∀ {x : List D} {d : D} (o : EL), evalRet Tryz.prog f x o = some (d, selfs o True) → Ret Tryz.prog n x d
theorem o0 : OE 0 Tryz.f0 := Ret.of_eval mixed Tryz.func0 (by kernel_rfl)
theorem o1 : OE 1 Tryz.f1 := Ret.of_eval mixed Tryz.func1 (by kernel_rfl)
theorem o2 : OE 2 Tryz.f2 := Ret.of_eval mixed Tryz.func2 (by kernel_rfl)
theorem o3 : OE 3 Tryz.f3 := Ret.of_eval mixed Tryz.func3 (by kernel_rfl)
theorem o23 : OE 23 Tryz.f23 := Ret.of_eval mixed Tryz.func23 (by kernel_rfl)
theorem o25 : OE 25 Tryz.f25 := Ret.of_eval mixed Tryz.func25 (by kernel_rfl)
theorem o28 : OE 28 Tryz.f28 := Ret.of_eval mixed Tryz.func28 (by kernel_rfl)
theorem o53 : OE 53 Tryz.f53 := Ret.of_eval mixed Tryz.func53 (by kernel_rfl)
theorem o55 : OE 55 Tryz.f55 := Ret.of_eval mixed Tryz.func55 (by kernel_rfl)
theorem o56 : OE 56 Tryz.f56 := Ret.of_eval mixed Tryz.func56 (by kernel_rfl)
theorem o71 : OE 71 Tryz.f71 := Ret.of_eval mixed Tryz.func71 (by kernel_rfl)
theorem o72 : OE 72 Tryz.f72 := Ret.of_eval mixed Tryz.func72 (by kernel_rfl)
theorem o73 : OE 73 Tryz.f73 := Ret.of_eval mixed Tryz.func73 (by kernel_rfl)
theorem o99 : OE 99 Tryz.f99 := Ret.of_eval mixed Tryz.func99 (by kernel_rfl)
theorem o100 : OE 100 Tryz.f100 := Ret.of_eval mixed Tryz.func100 (by kernel_rfl)
theorem o101 : OE 101 Tryz.f101 := Ret.of_eval mixed Tryz.func101 (by kernel_rfl)
theorem o102 : OE 102 Tryz.f102 := Ret.of_eval mixed Tryz.func102 (by kernel_rfl)
theorem o103 : OE 103 Tryz.f103 := Ret.of_eval mixed Tryz.func103 (by kernel_rfl)
theorem o104 : OE 104 Tryz.f104 := Ret.of_eval mixed Tryz.func104 (by kernel_rfl)
theorem o105 : OE 105 Tryz.f105 := Ret.of_eval mixed Tryz.func105 (by kernel_rfl)
theorem o107 : OE 107 Tryz.f107 := Ret.of_eval mixed Tryz.func107 (by kernel_rfl)
theorem o111 : OE 111 Tryz.f111 := Ret.of_eval mixed Tryz.func111 (by kernel_rfl)
theorem o112 : OE 112 Tryz.f112 := Ret.of_eval mixed Tryz.func112 (by kernel_rfl)
theorem o113 : OE 113 Tryz.f113 := Ret.of_eval mixed Tryz.func113 (by kernel_rfl)
theorem o114 : OE 114 Tryz.f114 := Ret.of_eval mixed Tryz.func114 (by kernel_rfl)
theorem o115 : OE 115 Tryz.f115 := Ret.of_eval mixed Tryz.func115 (by kernel_rfl)
theorem o125 : OE 125 Tryz.f125 := Ret.of_eval mixed Tryz.func125 (by kernel_rfl)
theorem o137 : OE 137 Tryz.f137 := Ret.of_eval mixed Tryz.func137 (by kernel_rfl)
theorem o138 : OE 138 Tryz.f138 := Ret.of_eval mixed Tryz.func138 (by kernel_rfl)
theorem o139 : OE 139 Tryz.f139 := Ret.of_eval mixed Tryz.func139 (by kernel_rfl)
theorem o141 : OE 141 Tryz.f141 := Ret.of_eval mixed Tryz.func141 (by kernel_rfl)
theorem o142 : OE 142 Tryz.f142 := Ret.of_eval mixed Tryz.func142 (by kernel_rfl)
theorem o144 : OE 144 Tryz.f144 := Ret.of_eval mixed Tryz.func144 (by kernel_rfl)
theorem o145 : OE 145 Tryz.f145 := Ret.of_eval mixed Tryz.func145 (by kernel_rfl)
theorem o148 : OE 148 Tryz.f148 := Ret.of_eval mixed Tryz.func148 (by kernel_rfl)
theorem o149 : OE 149 Tryz.f149 := Ret.of_eval mixed Tryz.func149 (by kernel_rfl)
theorem o150 : OE 150 Tryz.f150 := Ret.of_eval mixed Tryz.func150 (by kernel_rfl)
theorem o152 : OE 152 Tryz.f152 := Ret.of_eval mixed Tryz.func152 (by kernel_rfl)
theorem o166 : OE 166 Tryz.f166 := Ret.of_eval mixed Tryz.func166 (by kernel_rfl)
theorem o174 : OE 174 Tryz.f174 := Ret.of_eval mixed Tryz.func174 (by kernel_rfl)
theorem o175 : OE 175 Tryz.f175 := Ret.of_eval mixed Tryz.func175 (by kernel_rfl)
theorem o176 : OE 176 Tryz.f176 := Ret.of_eval mixed Tryz.func176 (by kernel_rfl)
end Go.Proofs.YtkpneibifdoecaaGreat
namespace Go.Ev
open Go
def readsX (op dst src base : Int) : Int :=
  if op = 0 then sh8 src
  else if op = 1 ∨ op = 28 ∨ op = 29 then 0
  else if 20 ≤ op ∧ op ≤ 22 then or64 (sh8 dst) (sh8 1)
  else if op = 24 then or64 (or64 (sh8 dst) (sh8 0)) (sh8 2)
  else if op = 26 then sh8 base
  else if op = 27 then or64 (sh8 base) (sh8 src)
  else if op = 30 then 17
  else if op = 31 then 1477
  else if shapeM op = 1 ∨ shapeM op = 2 ∨ shapeM op = 6 then or64 (sh8 dst) (sh8 src)
  else sh8 dst
def writesX (op dst : Int) : Int :=
  if op = 7 ∨ op = 8 ∨ op = 14 ∨ op = 15 ∨ op = 27 ∨ op = 28 ∨ op = 29 then 0
  else if op = 24 then 5
  else if op = 30 then 16
  else if op = 31 then 2051
  else sh8 dst
def readsXX (op w dst src base disp imm cc : Int) : Int := if mayX op w dst src base disp imm cc then readsX op dst src base else 0
def writesXX (op w dst src base disp imm cc : Int) : Int := if mayX op w dst src base disp imm cc then writesX op dst else 0
def addC (w a b : Int) : Bool := decide (cutM (u64 (a + b)) w < cutM a w)
def addO (w a b : Int) : Bool := negM (and64u (xor64 a (u64 (a + b))) (xor64 b (u64 (a + b)))) w
def subC (w a b : Int) : Bool := decide (cutM a w < cutM b w)
def subO (w a b : Int) : Bool := negM (and64u (xor64 a b) (xor64 a (u64 (a - b)))) w
theorem sign_a (v : Int) : IntKind.u64.wrap (IntKind.i64.wrap (IntKind.i8.wrap v)) = IntKind.u64.wrap (IntKind.i8.wrap v) := by rw [w_u64, w_u64, w_i64, w_i8]; omega
theorem sign_b (v : Int) : IntKind.u64.wrap (IntKind.i64.wrap (IntKind.i16.wrap v)) = IntKind.u64.wrap (IntKind.i16.wrap v) := by rw [w_u64, w_u64, w_i64, w_i16]; omega
theorem sign_c (v : Int) : IntKind.u64.wrap (IntKind.i64.wrap (IntKind.i32.wrap v)) = IntKind.u64.wrap (IntKind.i32.wrap v) := by rw [w_u64, w_u64, w_i64, w_i32]; omega
def holdM (cc : Int) (c z s o : Bool) : Bool :=
  if cc = 2 then c else if cc = 3 then !c else if cc = 4 then z else if cc = 5 then !z else if cc = 6 then (c || z) else if cc = 7 then !(c || z)
  else if cc = 12 then (s != o) else if cc = 13 then !(s != o) else if cc = 14 then (z || (s != o)) else !(z || (s != o))
def wrOp (op : Int) : Bool := !(decide (op = 7 ∨ op = 8 ∨ op = 14 ∨ op = 15 ∨ op = 27 ∨ op = 28 ∨ op = 29))
theorem sh8_pos {d : Int} (h0 : 0 ≤ d) (h1 : d ≤ 15) : sh8 d ≠ 0 := by
 obtain ⟨n, rfl⟩ := fin16 h0 h1
 clear h0 h1
 revert n
 decide +kernel
theorem wr_nz {op w dst src base disp imm cc : Int} (hm : mayX op w dst src base disp imm cc = true) (d0 : 0 ≤ dst) (d1 : dst ≤ 15) (hop : wrOp op = true) : (writesXX op w dst src base disp imm cc == 0) = false := by
 rw [beq_eq_false_iff_ne]
 unfold writesXX
 rw [if_pos hm]
 unfold writesX
 simp only [wrOp, Bool.not_eq_true', decide_eq_false_iff_not] at hop
 rw [if_neg hop]
 split
 ·decide
 ·split
  ·decide
  ·split
   ·decide
   ·exact sh8_pos d0 d1
theorem wr_z {op w dst src base disp imm cc : Int} (hop : wrOp op = false) : (writesXX op w dst src base disp imm cc == 0) = true := by
 rw [beq_iff_eq]
 unfold writesXX writesX
 simp only [wrOp, Bool.not_eq_false', decide_eq_true_eq] at hop
 rw [if_pos hop]
 split <;> rfl
def inU (n : Int) : Prop := 0 ≤ n ∧ n ≤ 18446744073709551615
theorem cut_cut (v w : Int) : cutM (cutM v w) w = cutM v w := by
 unfold cutM
 split
 ·omega
 ·split
  ·omega
  ·split
   ·omega
   ·rfl
def bitOf (w k : Int) : Int := IntKind.i64.wrap ((BitVec.ofInt 64 (w.fdiv (2 ^ (min k.toNat 64))) &&& BitVec.ofInt 64 1).toNat : Int)
def mayP (w dst src : Int) : Bool := longM w && regM dst && regM src
theorem cases16 {p : Int → Prop} (h0 : p 0) (h1 : p 1) (h2 : p 2) (h3 : p 3) (h4 : p 4) (h5 : p 5) (h6 : p 6) (h7 : p 7) (h8 : p 8) (h9 : p 9) (h10 : p 10) (h11 : p 11) (h12 : p 12) (h13 : p 13) (h14 : p 14) (h15 : p 15) : ∀ k : Int, 0 ≤ k → k ≤ 15 → p k := by
 intro k k0 k1
 have : k = 0 ∨ k = 1 ∨ k = 2 ∨ k = 3 ∨ k = 4 ∨ k = 5 ∨ k = 6 ∨ k = 7 ∨ k = 8 ∨ k = 9 ∨ k = 10 ∨ k = 11 ∨ k = 12 ∨ k = 13 ∨ k = 14 ∨ k = 15 := by omega
 rcases this with rfl | rfl | rfl | rfl | rfl | rfl | rfl | rfl | rfl | rfl | rfl | rfl | rfl | rfl | rfl | rfl
 ·exact h0
 ·exact h1
 ·exact h2
 ·exact h3
 ·exact h4
 ·exact h5
 ·exact h6
 ·exact h7
 ·exact h8
 ·exact h9
 ·exact h10
 ·exact h11
 ·exact h12
 ·exact h13
 ·exact h14
 ·exact h15
theorem may_long {sh w dst src base disp imm cc : Int} (h : mayS sh w dst src base disp imm cc = true) (hs : sh = 1 ∨ sh = 2 ∨ sh = 3 ∨ sh = 4 ∨ sh = 5 ∨ sh = 6) : longM w = true := by
 rcases hs with rfl | rfl | rfl | rfl | rfl | rfl <;> simp [mayS] at h <;> first | exact h.1 | exact h.1.1 | exact h
theorem may_cc {w dst src base disp imm cc : Int} (h : mayS 6 w dst src base disp imm cc = true) : ccM cc = true := by
 simp [mayS] at h; exact h.2
theorem may_cc' {w dst src base disp imm cc : Int} (h : mayS 10 w dst src base disp imm cc = true) : ccM cc = true := by
 simp [mayS] at h; exact h.2
structure MachS where
  (q0 q1 q2 q3 q4 q5 q6 q7 q8 q9 q10 q11 q12 q13 q14 q15 : Int)
  (fk fc fz fs fo : Bool)
  (pc : Int)
deriving DecidableEq
def MachS.d (m : MachS) : D := .agg [.int .u64 m.q0, .int .u64 m.q1, .int .u64 m.q2, .int .u64 m.q3, .int .u64 m.q4, .int .u64 m.q5, .int .u64 m.q6, .int .u64 m.q7, .int .u64 m.q8, .int .u64 m.q9, .int .u64 m.q10, .int .u64 m.q11, .int .u64 m.q12, .int .u64 m.q13, .int .u64 m.q14, .int .u64 m.q15, .bool m.fk, .bool m.fc, .bool m.fz, .bool m.fs, .bool m.fo, .int .u64 m.pc]
def MachS.rl (m : MachS) : List Int := [m.q0, m.q1, m.q2, m.q3, m.q4, m.q5, m.q6, m.q7, m.q8, m.q9, m.q10, m.q11, m.q12, m.q13, m.q14, m.q15]
def MachS.put (m : MachS) (i v : Int) : MachS := ⟨st 0 i v m.q0, st 1 i v m.q1, st 2 i v m.q2, st 3 i v m.q3, st 4 i v m.q4, st 5 i v m.q5, st 6 i v m.q6, st 7 i v m.q7, st 8 i v m.q8, st 9 i v m.q9, st 10 i v m.q10, st 11 i v m.q11, st 12 i v m.q12, st 13 i v m.q13, st 14 i v m.q14, st 15 i v m.q15, m.fk, m.fc, m.fz, m.fs, m.fo, m.pc⟩
def MachS.flags (m : MachS) (k c z s o : Bool) : MachS := ⟨m.q0, m.q1, m.q2, m.q3, m.q4, m.q5, m.q6, m.q7, m.q8, m.q9, m.q10, m.q11, m.q12, m.q13, m.q14, m.q15, k, c, z, s, o, m.pc⟩
def MachS.at (m : MachS) (v : Int) : MachS := ⟨m.q0, m.q1, m.q2, m.q3, m.q4, m.q5, m.q6, m.q7, m.q8, m.q9, m.q10, m.q11, m.q12, m.q13, m.q14, m.q15, m.fk, m.fc, m.fz, m.fs, m.fo, v⟩
def MachS.zero : MachS := ⟨0, 0, 0, 0, 0, 0, 0, 0, 0, 0, 0, 0, 0, 0, 0, 0, false, false, false, false, false, 0⟩
def XS.len (x : XS) : Int := lenX x.op x.w x.dst x.src x.base x.disp x.imm x.cc
def XS.may (x : XS) : Bool := mayX x.op x.w x.dst x.src x.base x.disp x.imm x.cc
def sopM (op : Int) : Option (Int × Int) :=
  match op with
  | 2 => some (0, 0)
  | 3 => some (4, 0)
  | 4 => some (5, 0)
  | 5 => some (1, 0)
  | 6 => some (10, 0)
  | 7 => some (1, 0)
  | 8 => some (5, 0)
  | 9 => some (0, 1)
  | 10 => some (4, 1)
  | 11 => some (5, 1)
  | 12 => some (1, 1)
  | 13 => some (10, 1)
  | 14 => some (1, 1)
  | 15 => some (5, 1)
  | 16 => some (2, 0)
  | 17 => some (6, 1)
  | 18 => some (7, 1)
  | 19 => some (12, 1)
  | 20 => some (6, 2)
  | 21 => some (7, 2)
  | 22 => some (12, 2)
  | 23 => some (8, 0)
  | _ => none
def secS (m : MachS) (x : XS) (k : Int) : Int := match k with
  | 2 => m.q1
  | 1 => u64 x.imm
  | _ => rg m.rl x.src
def flagS (m : MachS) (s w a b v : Int) : MachS := match s with
  | 0 => m.flags true (addC w a b) (cutM (u64 (a + b)) w == 0) (negM (u64 (a + b)) w) (addO w a b)
  | 1 => m.flags true (subC w a b) (cutM (u64 (a - b)) w == 0) (negM (u64 (a - b)) w) (subO w a b)
  | 8 => m.flags true (subC w 0 a) (cutM (u64 (0 - a)) w == 0) (negM (u64 (0 - a)) w) (subO w 0 a)
  | 4 => m.flags true false (cutM v w == 0) (negM v w) false
  | 5 => m.flags true false (cutM v w == 0) (negM v w) false
  | 10 => m.flags true false (cutM v w == 0) (negM v w) false
  | _ => m.flags false false false false false
def keepOp (op : Int) : Bool := match op with
  | 7 => true
  | 8 => true
  | 14 => true
  | 15 => true
  | _ => false
def doS (m : MachS) (x : XS) (ld : Int) : MachS × Int := match sopM x.op with
  | some (s, k) =>
    let a := rg m.rl x.dst
    let b := secS m x k
    let v := doM s x.w a b
    match keepOp x.op with
    | true => (flagS m s x.w a b v, 0)
    | false => ((flagS m s x.w a b v).put x.dst v, 0)
  | none => match x.op with
    | 0 => (m.put x.dst (cutM (rg m.rl x.src) x.w), 0)
    | 1 => (m.put x.dst (cutM (u64 x.imm) x.w), 0)
    | 24 => match cutM (rg m.rl x.dst) x.w == 0 with
      | true => (.zero, 20)
      | false => match cutM m.q2 x.w == 0 with
        | false => (.zero, 20)
        | true => (({ m with q0 := u64 ((cutM m.q0 x.w).tdiv (cutM (rg m.rl x.dst) x.w)), q2 := (cutM m.q0 x.w).tmod (cutM (rg m.rl x.dst) x.w) }).flags false false false false false, 0)
    | 25 => match m.fk with
      | false => (.zero, 20)
      | true => (m.put x.dst (cutM (if holdM x.cc m.fc m.fz m.fs m.fo then rg m.rl x.src else rg m.rl x.dst) x.w), 0)
    | 26 => (m.put x.dst (cutM ld x.w), 0)
    | 28 => (m.at (u64 (m.pc + u64 x.imm)), 0)
    | 29 => match m.fk with
      | false => (.zero, 20)
      | true => (m.at (if holdM x.cc m.fc m.fz m.fs m.fo then u64 (m.pc + u64 x.imm) else m.pc), 0)
    | 30 => (({ m with q4 := u64 (m.q4 + 8) }).at ld, 0)
    | 31 => ({ m with q0 := ld, q1 := 0, q11 := 0 }, 0)
    | _ => (m, 0)
def execS (m : MachS) (x : XS) (ld : Int) : MachS × Int := match x.may with
  | false => (.zero, 2)
  | true => doS (m.at (u64 (m.pc + u64 x.len))) x ld
def execM (m : MachS) (x : XS) (ld : Int) : MachS := (execS m x ld).1
def execE (m : MachS) (x : XS) (ld : Int) : Int := (execS m x ld).2
theorem execS_no {m : MachS} {x : XS} {ld : Int} (h : x.may = false) : execS m x ld = (.zero, 2) := by unfold execS; rw [h]
theorem execS_may {m : MachS} {x : XS} {ld : Int} (h : x.may = true) : execS m x ld = doS (m.at (u64 (m.pc + u64 x.len))) x ld := by unfold execS; rw [h]
def pcX (m : MachS) (op w dst src base disp imm cc : Int) : Int := u64 (m.pc + u64 (lenX op w dst src base disp imm cc))
def xT (op w dst src base disp imm cc ld : Int) : List D := [.int .i8 op, .int .i8 w, .int .i8 dst, .int .i8 src, .int .i8 base, .int .i64 disp, .int .i64 imm, .int .i8 cc, .int .u64 ld]
def fT (m : MachS) (p : Int) (tl : List D) : List D := .bool m.fk :: .bool m.fc :: .bool m.fz :: .bool m.fs :: .bool m.fo :: .int .u64 p :: tl
def zC : List D := [.int .u64 0, .int .u64 0, .int .u64 0, .int .u64 0, .int .u64 0, .int .u64 0, .int .u64 0, .int .u64 0, .int .u64 0, .int .u64 0, .int .u64 0, .int .u64 0, .int .u64 0, .int .u64 0, .int .u64 0, .int .u64 0, .bool false, .bool false, .bool false, .bool false, .bool false, .int .u64 0]
def MachS.cw (m : MachS) (p : Int) (tl : List D) : List D := .int .u64 m.q0 :: .int .u64 m.q1 :: .int .u64 m.q2 :: .int .u64 m.q3 :: .int .u64 m.q4 :: .int .u64 m.q5 :: .int .u64 m.q6 :: .int .u64 m.q7 :: .int .u64 m.q8 :: .int .u64 m.q9 :: .int .u64 m.q10 :: .int .u64 m.q11 :: .int .u64 m.q12 :: .int .u64 m.q13 :: .int .u64 m.q14 :: .int .u64 m.q15 :: .bool m.fk :: .bool m.fc :: .bool m.fz :: .bool m.fs :: .bool m.fo :: .int .u64 p :: tl
theorem get_regm (m : MachS) (i : Int) (tl : List D) (h0 : 0 ≤ i) (h1 : i ≤ 15) : (D.int .u64 m.q0 :: D.int .u64 m.q1 :: D.int .u64 m.q2 :: D.int .u64 m.q3 :: D.int .u64 m.q4 :: D.int .u64 m.q5 :: D.int .u64 m.q6 :: D.int .u64 m.q7 :: D.int .u64 m.q8 :: D.int .u64 m.q9 :: D.int .u64 m.q10 :: D.int .u64 m.q11 :: D.int .u64 m.q12 :: D.int .u64 m.q13 :: D.int .u64 m.q14 :: D.int .u64 m.q15 :: tl : List D)[0 + i.toNat * 1]? = some (.int .u64 (rg m.rl i)) := get_reg h0 h1
theorem put_regm (m : MachS) (i v : Int) (tl : List D) (h0 : 0 ≤ i) (h1 : i ≤ 15) : PutsA (D.int .u64 m.q0 :: D.int .u64 m.q1 :: D.int .u64 m.q2 :: D.int .u64 m.q3 :: D.int .u64 m.q4 :: D.int .u64 m.q5 :: D.int .u64 m.q6 :: D.int .u64 m.q7 :: D.int .u64 m.q8 :: D.int .u64 m.q9 :: D.int .u64 m.q10 :: D.int .u64 m.q11 :: D.int .u64 m.q12 :: D.int .u64 m.q13 :: D.int .u64 m.q14 :: D.int .u64 m.q15 :: tl : List D) (0 + i.toNat * 1) [D.int .u64 v] (D.int .u64 (m.put i v).q0 :: D.int .u64 (m.put i v).q1 :: D.int .u64 (m.put i v).q2 :: D.int .u64 (m.put i v).q3 :: D.int .u64 (m.put i v).q4 :: D.int .u64 (m.put i v).q5 :: D.int .u64 (m.put i v).q6 :: D.int .u64 (m.put i v).q7 :: D.int .u64 (m.put i v).q8 :: D.int .u64 (m.put i v).q9 :: D.int .u64 (m.put i v).q10 :: D.int .u64 (m.put i v).q11 :: D.int .u64 (m.put i v).q12 :: D.int .u64 (m.put i v).q13 :: D.int .u64 (m.put i v).q14 :: D.int .u64 (m.put i v).q15 :: tl) := put_reg h0 h1
def addrS (m : MachS) (x : XS) : Int × Int × Bool :=
  if x.may = true ∧ (x.op = 26 ∨ x.op = 27) then (u64 (rg m.rl x.base + u64 x.disp), x.w / 8, true)
  else if x.may = true ∧ x.op = 30 then (m.q4, 8, true)
  else (0, 0, false)
def storedS (m : MachS) (x : XS) : Int := if x.may = true ∧ x.op = 27 then cutM (rg m.rl x.src) x.w else 0
def numS (m : MachS) : Int × Bool := if 16 ≤ m.q0 then (0, false) else (IntKind.i64.wrap m.q0, true)
def numV (q : Int) : Int := if 16 ≤ q then 0 else IntKind.i64.wrap q
def numB (q : Int) : Bool := !decide (16 ≤ q)
def argsS (m : MachS) : List Int := if 16 ≤ m.q0 then [] else [m.q7, m.q6, m.q2, m.q10, m.q8].take (m.q0.toNat % 6)
def wD (l : List Int) : List D := l.map (fun x => .int .u64 x)
def toccM (cc : Int) : Int × Bool :=
  if cc = 0 then (4, true) else if cc = 1 then (5, true) else if cc = 2 then (7, true) else if cc = 3 then (3, true) else if cc = 4 then (2, true) else if cc = 5 then (6, true)
  else if cc = 6 then (15, true) else if cc = 7 then (13, true) else if cc = 8 then (12, true) else if cc = 9 then (14, true) else if cc = 10 then (5, true) else (0, false)
def ccM' (cc : Int) : Int × Bool :=
  if cc = 4 then (0, true) else if cc = 5 then (1, true) else if cc = 7 then (2, true) else if cc = 3 then (3, true) else if cc = 2 then (4, true) else if cc = 6 then (5, true)
  else if cc = 15 then (6, true) else if cc = 13 then (7, true) else if cc = 12 then (8, true) else if cc = 14 then (9, true) else (0, false)
structure RgS where
  (r0 r1 r2 r3 r4 r5 r6 r7 r8 r9 r10 : Int)
deriving DecidableEq
def RgS.c (r : RgS) : List D := [.int .u64 r.r0, .int .u64 r.r1, .int .u64 r.r2, .int .u64 r.r3, .int .u64 r.r4, .int .u64 r.r5, .int .u64 r.r6, .int .u64 r.r7, .int .u64 r.r8, .int .u64 r.r9, .int .u64 r.r10]
def RgS.d (r : RgS) : D := .agg r.c
def RgS.l (r : RgS) : List Int := [r.r0, r.r1, r.r2, r.r3, r.r4, r.r5, r.r6, r.r7, r.r8, r.r9, r.r10]
def RgS.get (r : RgS) (i : Int) : Int := rg r.l i
def RgS.put (r : RgS) (i v : Int) : RgS := ⟨st 0 i v r.r0, st 1 i v r.r1, st 2 i v r.r2, st 3 i v r.r3, st 4 i v r.r4, st 5 i v r.r5, st 6 i v r.r6, st 7 i v r.r7, st 8 i v r.r8, st 9 i v r.r9, st 10 i v r.r10⟩
def RgS.zero : RgS := ⟨0, 0, 0, 0, 0, 0, 0, 0, 0, 0, 0⟩
theorem fin11 {i : Int} (h0 : 0 ≤ i) (h1 : i ≤ 10) : i = 0 ∨ i = 1 ∨ i = 2 ∨ i = 3 ∨ i = 4 ∨ i = 5 ∨ i = 6 ∨ i = 7 ∨ i = 8 ∨ i = 9 ∨ i = 10 := by omega
section
variable {r0 r1 r2 r3 r4 r5 r6 r7 r8 r9 r10 i v : Int} {tl : List D}
end
def MachS.c (m : MachS) : List D := [.int .u64 m.q0, .int .u64 m.q1, .int .u64 m.q2, .int .u64 m.q3, .int .u64 m.q4, .int .u64 m.q5, .int .u64 m.q6, .int .u64 m.q7, .int .u64 m.q8, .int .u64 m.q9, .int .u64 m.q10, .int .u64 m.q11, .int .u64 m.q12, .int .u64 m.q13, .int .u64 m.q14, .int .u64 m.q15, .bool m.fk, .bool m.fc, .bool m.fz, .bool m.fs, .bool m.fo, .int .u64 m.pc]
def IrS.x (s : IrS) : XS := ⟨s.op, s.w, s.dst, s.src, s.base, s.disp, s.imm, s.cc⟩
def scrM (n : Int) : Bool := decide (n = 0 ∨ n = 1 ∨ n = 2 ∨ n = 11)
theorem scr_bit_all : ∀ n : Fin 128, (bitOf 2055 (n.val : Int) == 1) = scrM (n.val : Int) := by decide +kernel
theorem wk_bool {a b : Bool} (h : a = b) : wk (.bool a) (.bool b) := by subst h; simp [wk]
theorem scr_bit_eq {n : Int} (h0 : decide (n < 0) = false) (h1 : n ≤ 127) : (bitOf 2055 n == 1) = scrM n := by
 rw [decide_eq_false_iff_not] at h0
 have := scr_bit_all ⟨n.toNat, by omega⟩
 simp only [Int.toNat_of_nonneg (show 0 ≤ n by omega)] at this
 exact this
theorem scr_neg {n : Int} (h0 : decide (n < 0) = true) : false = scrM n := by
 rw [decide_eq_true_eq] at h0
 exact (decide_eq_false (by omega)).symm
def namesM (op w dst src base disp imm cc : Int) : Int := or64 (readsXX op w dst src base disp imm cc) (writesXX op w dst src base disp imm cc)
def ownM (op w dst src base disp imm cc : Int) : Bool := andNot64 (namesM op w dst src base disp imm cc) 2055 == 0
def zeroX (op w dst src base disp imm cc : Int) : Bool := decide (op = 0 ∧ w = 0 ∧ dst = 0 ∧ src = 0 ∧ base = 0 ∧ disp = 0 ∧ imm = 0 ∧ cc = 0)
def mayI (kind op w dst src base disp imm cc reg phys num to : Int) : Bool :=
  if kind = 0 then mayX op w dst src base disp imm cc && decide (op < 28) && ownM op w dst src base disp imm cc && decide (reg = 0 ∧ phys = 0 ∧ num = 0 ∧ to = 0)
  else if kind = 1 ∨ kind = 2 then decide (0 ≤ reg ∧ reg ≤ 10) && scrM phys && zeroX op w dst src base disp imm cc && decide (num = 0 ∧ to = 0)
  else if kind = 3 then decide (0 ≤ num ∧ num ≤ 15) && zeroX op w dst src base disp imm cc && decide (reg = 0 ∧ phys = 0 ∧ to = 0)
  else if kind = 4 then ccM cc && zeroX (op - 29) w dst src base disp imm 0 && decide (0 ≤ to ∧ to ≤ 64) && decide (reg = 0 ∧ phys = 0 ∧ num = 0)
  else if kind = 5 then decide (0 ≤ to ∧ to ≤ 64) && zeroX op w dst src base disp imm cc && decide (reg = 0 ∧ phys = 0 ∧ num = 0)
  else if kind = 6 then zeroX op w dst src base disp imm cc && decide (reg = 0 ∧ phys = 0 ∧ num = 0 ∧ to = 0)
  else false
def stopsI (kind op : Int) : Bool := decide ((3 ≤ kind ∧ kind ≤ 6) ∨ (kind = 0 ∧ (op = 26 ∨ op = 27)))
def IrS.ok (s : IrS) : Prop := -128 ≤ s.kind ∧ s.kind ≤ 127 ∧ s.op ≤ 127 ∧ s.cc ≤ 127 ∧ s.phys ≤ 127 ∧ -128 ≤ s.reg ∧ s.reg ≤ 127
def AllOk (l : List IrS) : Prop := ∀ s ∈ l, s.ok
def IrS.may (s : IrS) : Bool := mayI s.kind s.op s.w s.dst s.src s.base s.disp s.imm s.cc s.reg s.phys s.num s.to
def IrS.stops (s : IrS) : Bool := stopsI s.kind s.op
def badI (l : List IrS) : Option Nat := l.findIdx? (fun s => !s.may)
def chkI (l : List IrS) : Int × Int := match badI l with
  | some k => ((k : Int), 2)
  | none => (0, 0)
def runI : List IrS → RgS → MachS → RgS × MachS × Nat × Int
  | [], r, m => (r, m, 0, 0)
  | s :: t, r, m => match s.stops with
    | true => (r, m, t.length + 1, 0)
    | false => if s.kind = 1 then runI t r (m.put s.phys (r.get s.reg))
      else if s.kind = 2 then runI t (r.put s.reg (rg m.rl s.phys)) m
      else if (execS m s.x 0).2 = 0 then runI t r ((execS m s.x 0).1.at 0)
      else (.zero, .zero, t.length + 1, (execS m s.x 0).2)
def restI (l : List IrS) (r : RgS) (m : MachS) : List IrS := l.drop (l.length - (runI l r m).2.2.1)
def doI (l : List IrS) (r : RgS) : RgS × MachS × Int × Int :=
  if (chkI l).2 = 0 then
    let q := runI l r .zero
    if q.2.2.2 = 0 then (q.1, q.2.1, ((l.length - q.2.2.1 : Nat) : Int), 0) else (.zero, .zero, 0, q.2.2.2)
  else (.zero, .zero, 0, 2)
def namedI (k : Int) (n : Int) : List IrS → Int
  | [] => n
  | s :: t => namedI k (if s.kind = k ∧ 0 ≤ s.reg ∧ s.reg ≤ 10 then or64 n (sh8 s.reg) else n) t
def homeP (k n : Int) : Bool := decide (k = 1 ∧ (n = 3 ∨ n = 9 ∨ n = 6 ∨ n = 7 ∨ n = 8 ∨ n = 10))
def plOK (k n : Int) : Bool := decide (k = 0 ∧ n = 0) || homeP k n || decide (k = 2 ∧ 0 ≤ n ∧ n < 11)
def mayPl (kl nl : List Int) : Bool := (List.range 11).all fun i => plOK (rg kl (i : Int)) (rg nl (i : Int))
section
variable {k0 n0 k1 n1 k2 n2 k3 n3 k4 n4 k5 n5 k6 n6 k7 n7 k8 n8 k9 n9 k10 n10 i : Int} {tl : List D}
end
structure PlS where
  k : Int → Int
  n : Int → Int
def PlS.d (p : PlS) : D := .agg [.int .i8 (p.k 0), .int .i8 (p.n 0), .int .i8 (p.k 1), .int .i8 (p.n 1), .int .i8 (p.k 2), .int .i8 (p.n 2), .int .i8 (p.k 3), .int .i8 (p.n 3), .int .i8 (p.k 4), .int .i8 (p.n 4), .int .i8 (p.k 5), .int .i8 (p.n 5), .int .i8 (p.k 6), .int .i8 (p.n 6), .int .i8 (p.k 7), .int .i8 (p.n 7), .int .i8 (p.k 8), .int .i8 (p.n 8), .int .i8 (p.k 9), .int .i8 (p.n 9), .int .i8 (p.k 10), .int .i8 (p.n 10)]
section
variable {p : PlS} {i : Int} {tl : List D}
theorem getp (h0 : 0 ≤ i) (h1 : i ≤ 10) : GetsA (.int .i8 (p.k 0) :: .int .i8 (p.n 0) :: .int .i8 (p.k 1) :: .int .i8 (p.n 1) :: .int .i8 (p.k 2) :: .int .i8 (p.n 2) :: .int .i8 (p.k 3) :: .int .i8 (p.n 3) :: .int .i8 (p.k 4) :: .int .i8 (p.n 4) :: .int .i8 (p.k 5) :: .int .i8 (p.n 5) :: .int .i8 (p.k 6) :: .int .i8 (p.n 6) :: .int .i8 (p.k 7) :: .int .i8 (p.n 7) :: .int .i8 (p.k 8) :: .int .i8 (p.n 8) :: .int .i8 (p.k 9) :: .int .i8 (p.n 9) :: .int .i8 (p.k 10) :: .int .i8 (p.n 10) :: tl : List D) (0 + i.toNat * 2) 2 [.int .i8 (p.k i), .int .i8 (p.n i)] := by
 rcases fin11 h0 h1 with rfl | rfl | rfl | rfl | rfl | rfl | rfl | rfl | rfl | rfl | rfl <;> exact ⟨rfl, by simp⟩
theorem getp' (h0 : 0 ≤ i) (h1 : i ≤ 10) : GetsA (.int .i8 (p.k 0) :: .int .i8 (p.n 0) :: .int .i8 (p.k 1) :: .int .i8 (p.n 1) :: .int .i8 (p.k 2) :: .int .i8 (p.n 2) :: .int .i8 (p.k 3) :: .int .i8 (p.n 3) :: .int .i8 (p.k 4) :: .int .i8 (p.n 4) :: .int .i8 (p.k 5) :: .int .i8 (p.n 5) :: .int .i8 (p.k 6) :: .int .i8 (p.n 6) :: .int .i8 (p.k 7) :: .int .i8 (p.n 7) :: .int .i8 (p.k 8) :: .int .i8 (p.n 8) :: .int .i8 (p.k 9) :: .int .i8 (p.n 9) :: .int .i8 (p.k 10) :: .int .i8 (p.n 10) :: tl : List D) (i.toNat * 2) 2 [.int .i8 (p.k i), .int .i8 (p.n i)] := by
 rcases fin11 h0 h1 with rfl | rfl | rfl | rfl | rfl | rfl | rfl | rfl | rfl | rfl | rfl <;> exact ⟨rfl, by simp⟩
theorem getpk (h0 : 0 ≤ i) (h1 : i ≤ 10) : (.int .i8 (p.k 0) :: .int .i8 (p.n 0) :: .int .i8 (p.k 1) :: .int .i8 (p.n 1) :: .int .i8 (p.k 2) :: .int .i8 (p.n 2) :: .int .i8 (p.k 3) :: .int .i8 (p.n 3) :: .int .i8 (p.k 4) :: .int .i8 (p.n 4) :: .int .i8 (p.k 5) :: .int .i8 (p.n 5) :: .int .i8 (p.k 6) :: .int .i8 (p.n 6) :: .int .i8 (p.k 7) :: .int .i8 (p.n 7) :: .int .i8 (p.k 8) :: .int .i8 (p.n 8) :: .int .i8 (p.k 9) :: .int .i8 (p.n 9) :: .int .i8 (p.k 10) :: .int .i8 (p.n 10) :: tl : List D)[0 + i.toNat * 2 + 0]? = some (.int .i8 (p.k i)) := by
 rcases fin11 h0 h1 with rfl | rfl | rfl | rfl | rfl | rfl | rfl | rfl | rfl | rfl | rfl <;> rfl
end
def PlS.okAt (p : PlS) (i : Int) : Bool := plOK (p.k i) (p.n i)
def PlS.mayU (p : PlS) : Nat → Nat → Bool
  | 0, _ => true
  | m + 1, i => p.okAt i && p.mayU m (i + 1)
def PlS.may (p : PlS) : Bool := p.mayU 11 0
theorem PlS.mayU_iff (p : PlS) : ∀ m i, p.mayU m i = true ↔ ∀ j : Nat, i ≤ j → j < i + m → p.okAt j = true
 | 0, i => by simp [PlS.mayU]; omega
 | m + 1, i => by
  rw [PlS.mayU, Bool.and_eq_true, PlS.mayU_iff p m (i + 1)]
  constructor
  ·rintro ⟨h1, h2⟩ j h3 h4
   rcases Nat.eq_or_lt_of_le h3 with e | e
   ·subst e; exact h1
   ·exact h2 j e (by omega)
  ·intro h
   exact ⟨h i (Nat.le_refl _) (by omega), fun j h1 h2 => h j (by omega) (by omega)⟩
theorem PlS.may_at {p : PlS} (h : p.may = true) {i : Int} (h0 : 0 ≤ i) (h1 : i ≤ 10) : p.okAt i = true := by
 have := (p.mayU_iff 11 0).1 h i.toNat (by omega) (by omega)
 rwa [Int.toNat_of_nonneg h0] at this
theorem plOK_form {k n : Int} (h : plOK k n = true) : (k = 0 ∧ n = 0) ∨ (k = 1 ∧ (n = 3 ∨ n = 9 ∨ n = 6 ∨ n = 7 ∨ n = 8 ∨ n = 10)) ∨ (k = 2 ∧ 0 ≤ n ∧ n < 11) := by
 unfold plOK homeP at h
 simp only [Bool.or_eq_true, decide_eq_true_eq] at h
 omega
def PlS.spU (p : PlS) : Nat → Int
  | 0 => 0
  | i + 1 => if p.k i = 2 then (if p.n i + 1 > p.spU i then p.n i + 1 else p.spU i) else p.spU i
def PlS.sp (p : PlS) : Int := p.spU 11
def PlS.hit (p : PlS) (i k : Int) : Bool := decide (p.k i ≠ 0 ∧ p.k i = p.k k ∧ p.n i = p.n k)
def PlS.hitU (p : PlS) (i : Int) : Nat → Nat → Bool
  | 0, _ => false
  | m + 1, k => p.hit i k || p.hitU i m (k + 1)
def PlS.sameU (p : PlS) : Nat → Nat → Bool
  | 0, _ => false
  | m + 1, i => p.hitU i i 0 || p.sameU m (i + 1)
def PlS.apart (p : PlS) : Bool := !p.sameU 11 0
theorem PlS.hitU_iff (p : PlS) (i : Int) : ∀ m k, p.hitU i m k = true ↔ ∃ j : Nat, k ≤ j ∧ j < k + m ∧ p.hit i j = true
 | 0, k => by simp [PlS.hitU]; omega
 | m + 1, k => by
  rw [PlS.hitU, Bool.or_eq_true, PlS.hitU_iff p i m (k + 1)]
  constructor
  ·rintro (h | ⟨j, h1, h2, h3⟩)
   ·exact ⟨k, by omega, by omega, h⟩
   ·exact ⟨j, by omega, by omega, h3⟩
  ·rintro ⟨j, h1, h2, h3⟩
   rcases Nat.eq_or_lt_of_le h1 with e | e
   ·subst e; exact .inl h3
   ·exact .inr ⟨j, by omega, by omega, h3⟩
theorem PlS.sameU_iff (p : PlS) : ∀ m i, p.sameU m i = true ↔ ∃ j : Nat, i ≤ j ∧ j < i + m ∧ p.hitU j j 0 = true
 | 0, i => by simp [PlS.sameU]; omega
 | m + 1, i => by
  rw [PlS.sameU, Bool.or_eq_true, PlS.sameU_iff p m (i + 1)]
  constructor
  ·rintro (h | ⟨j, h1, h2, h3⟩)
   ·exact ⟨i, by omega, by omega, h⟩
   ·exact ⟨j, by omega, by omega, h3⟩
  ·rintro ⟨j, h1, h2, h3⟩
   rcases Nat.eq_or_lt_of_le h1 with e | e
   ·subst e; exact .inl h3
   ·exact .inr ⟨j, by omega, by omega, h3⟩
theorem PlS.apart_ne {p : PlS} (h : p.apart = true) {i k : Int} (i0 : 0 ≤ i) (i1 : i ≤ 10) (k0 : 0 ≤ k) (k1 : k ≤ 10) (hne : i ≠ k) (hk : p.k i ≠ 0) : ¬ (p.k i = p.k k ∧ p.n i = p.n k) := by
 have key : ∀ a b : Nat, b < a → a < 11 → p.k a ≠ 0 → ¬ (p.k a = p.k b ∧ p.n a = p.n b) := by
  intro a b hab ha hka hh
  have : p.sameU 11 0 = true := (p.sameU_iff 11 0).2 ⟨a, by omega, by omega, (p.hitU_iff a a 0).2 ⟨b, by omega, by omega, by unfold PlS.hit; simp [hka, hh.1, hh.2]; rw [← hh.1]; exact hka⟩⟩
  unfold PlS.apart at h
  rw [this] at h
  cases h
 intro hh
 have e1 : ((i.toNat : Nat) : Int) = i := Int.toNat_of_nonneg i0
 have e2 : ((k.toNat : Nat) : Int) = k := Int.toNat_of_nonneg k0
 rcases Int.lt_or_gt_of_ne hne with q | q
 ·have := key k.toNat i.toNat (by omega) (by omega) (by rw [e2, ← hh.1]; exact hk)
  rw [e1, e2] at this
  exact this ⟨hh.1.symm, hh.2.symm⟩
 ·have := key i.toNat k.toNat (by omega) (by omega) (by rw [e1]; exact hk)
  rw [e1, e2] at this
  exact this hh
abbrev putX (dst n : Int) : XS := ⟨1, 32, dst, 0, 0, 0, n, 0⟩
abbrev storeX (src slot : Int) : XS := ⟨27, 64, 0, src, 4, 8 * slot, 0, 0⟩
def intoX (to k n : Int) : XS := if k = 1 then ⟨0, 64, to, n, 0, 0, 0, 0⟩ else if k = 2 then ⟨26, 64, to, 0, 4, 8 * n, 0, 0⟩ else putX to 0
def giveX (phys k n : Int) : List XS := if k = 1 then [⟨0, 64, n, phys, 0, 0, 0, 0⟩] else if k = 2 then [storeX phys n] else []
def setX (v k n : Int) : List XS := if k = 2 then [putX 0 v, storeX 0 n] else if k = 1 then [putX n v] else []
def proX (p : PlS) : List XS := (if p.sp > 0 then [⟨12, 64, 4, 0, 0, 0, 8 * p.sp, 0⟩] else []) ++ (setX 2097152 (p.k 1) (p.n 1) ++ setX 3145792 (p.k 10) (p.n 10))
def exitX (p : PlS) : List XS := intoX 0 (p.k 0) (p.n 0) :: ((if p.sp > 0 then [⟨9, 64, 4, 0, 0, 0, 8 * p.sp, 0⟩] else []) ++ [⟨30, 0, 0, 0, 0, 0, 0, 0⟩])
def slotOk (x : XS) (n : Nat) : Bool := decide (x.base = 4 ∧ x.w = 64 ∧ x.disp % 8 = 0 ∧ 0 ≤ x.disp ∧ x.disp / 8 < (n : Int))
def slotPut (x : XS) (m : MachS) (s : List Int) : List Int := if x.op = 27 then s.set (x.disp / 8).toNat (rg m.rl x.src) else s
def doneM : List XS → MachS → List Int → MachS × List Int × Bool
  | [], m, s => (m, s, true)
  | x :: t, m, s => if x.op = 31 ∨ x.op = 30 then (m, s, true)
    else if x.op = 26 ∨ x.op = 27 then
      (if slotOk x s.length = true then
        (if execE m x (s.getD (x.disp / 8).toNat 0) = 0 then doneM t (execM m x (s.getD (x.disp / 8).toNat 0)) (slotPut x m s) else (m, slotPut x m s, false))
       else (m, s, false))
    else if execE m x 0 = 0 then doneM t (execM m x 0) s else (m, s, false)
end Go.Ev
namespace Go.Proofs.YtkpneibifdoecaaGreat
open Go Go.Ev
abbrev un (n : Nat) : List D := List.replicate n .undef
abbrev plC (p : PlS) : List D := [.int .i8 (p.k 0), .int .i8 (p.n 0), .int .i8 (p.k 1), .int .i8 (p.n 1), .int .i8 (p.k 2), .int .i8 (p.n 2), .int .i8 (p.k 3), .int .i8 (p.n 3), .int .i8 (p.k 4), .int .i8 (p.n 4), .int .i8 (p.k 5), .int .i8 (p.n 5), .int .i8 (p.k 6), .int .i8 (p.n 6), .int .i8 (p.k 7), .int .i8 (p.n 7), .int .i8 (p.k 8), .int .i8 (p.n 8), .int .i8 (p.k 9), .int .i8 (p.n 9), .int .i8 (p.k 10), .int .i8 (p.n 10)]
abbrev maC (m : MachS) : List D := [.int .u64 m.q0, .int .u64 m.q1, .int .u64 m.q2, .int .u64 m.q3, .int .u64 m.q4, .int .u64 m.q5, .int .u64 m.q6, .int .u64 m.q7, .int .u64 m.q8, .int .u64 m.q9, .int .u64 m.q10, .int .u64 m.q11, .int .u64 m.q12, .int .u64 m.q13, .int .u64 m.q14, .int .u64 m.q15, .bool m.fk, .bool m.fc, .bool m.fz, .bool m.fs, .bool m.fo, .int .u64 m.pc]
abbrev reC (r : MachS) : List D := [.int .u64 r.q0, .int .u64 r.q1, .int .u64 r.q2, .int .u64 r.q3, .int .u64 r.q4, .int .u64 r.q5, .int .u64 r.q6, .int .u64 r.q7, .int .u64 r.q8, .int .u64 r.q9, .int .u64 r.q10, .int .u64 r.q11, .int .u64 r.q12, .int .u64 r.q13, .int .u64 r.q14, .int .u64 r.q15]
abbrev m0C (r : MachS) : List D := [.int .u64 r.q0, .int .u64 r.q1, .int .u64 r.q2, .int .u64 r.q3, .int .u64 r.q4, .int .u64 r.q5, .int .u64 r.q6, .int .u64 r.q7, .int .u64 r.q8, .int .u64 r.q9, .int .u64 r.q10, .int .u64 r.q11, .int .u64 r.q12, .int .u64 r.q13, .int .u64 r.q14, .int .u64 r.q15, .bool false, .bool false, .bool false, .bool false, .bool false, .int .u64 0]
abbrev zeC : List D := [.int .u64 0, .int .u64 0, .int .u64 0, .int .u64 0, .int .u64 0, .int .u64 0, .int .u64 0, .int .u64 0, .int .u64 0, .int .u64 0, .int .u64 0, .int .u64 0, .int .u64 0, .int .u64 0, .int .u64 0, .int .u64 0, .bool false, .bool false, .bool false, .bool false, .bool false, .int .u64 0]
abbrev sl0C : List D := List.map D.demote (repD 11 [D.int .u64 0])
theorem amay_ok (k n : Int) : Ret Tryz.prog 56 ([.agg [.int .i8 k, .int .i8 n], .bool false]) (.bool (homeP k n)) := by
 by_cases h0 : k = 1
 ·subst h0
  let E1 : EL := [tT, tT, .inl, tF]
  by_cases h1 : n = 3
  ·subst h1
   exact (o56 (d := .bool true) (E1 ++ [.keep [(0, .box [.int .i8 1, .int .i8 3])], tT, tT, tT, .inl, .inl, .go 64, tT, tT, .get ([.int .i8 3, .int .i8 9, .int .i8 6, .int .i8 7, .int .i8 8, .int .i8 10]) 0 (.int .i8 3) rfl, tT, tT]) (by kernel_rfl)).to (by clear E1; first | (simp [wk, homeP, ]; done) | (apply wk_bool; unfold homeP; symm; first | (rw [decide_eq_true_eq]; simp only [beq_iff_eq, beq_eq_false_iff_ne, ne_eq] at *; omega) | (rw [decide_eq_false_iff_not]; simp only [beq_iff_eq, beq_eq_false_iff_ne, ne_eq] at *; omega)))
  by_cases h2 : n = 9
  ·subst h2
   exact (o56 (d := .bool true) (E1 ++ [.keep [(0, .box [.int .i8 1, .int .i8 9])], tT, tT, tT, .inl, .inl, .go 64, tT, tT, .get ([.int .i8 3, .int .i8 9, .int .i8 6, .int .i8 7, .int .i8 8, .int .i8 10]) 0 (.int .i8 3) rfl, tC (neOf h1), tT, tT, .get ([.int .i8 3, .int .i8 9, .int .i8 6, .int .i8 7, .int .i8 8, .int .i8 10]) 1 (.int .i8 9) rfl, tT, tT]) (by kernel_rfl)).to (by clear E1; first | (simp [wk, homeP, h1]; done) | (apply wk_bool; unfold homeP; symm; first | (rw [decide_eq_true_eq]; simp only [beq_iff_eq, beq_eq_false_iff_ne, ne_eq] at *; omega) | (rw [decide_eq_false_iff_not]; simp only [beq_iff_eq, beq_eq_false_iff_ne, ne_eq] at *; omega)))
  by_cases h3 : n = 6
  ·subst h3
   exact (o56 (d := .bool true) (E1 ++ [.keep [(0, .box [.int .i8 1, .int .i8 6])], tT, tT, tT, .inl, .inl, .go 64, tT, tT, .get ([.int .i8 3, .int .i8 9, .int .i8 6, .int .i8 7, .int .i8 8, .int .i8 10]) 0 (.int .i8 3) rfl, tC (neOf h1), tT, tT, .get ([.int .i8 3, .int .i8 9, .int .i8 6, .int .i8 7, .int .i8 8, .int .i8 10]) 1 (.int .i8 9) rfl, tC (neOf h2), tT, tT, .get ([.int .i8 3, .int .i8 9, .int .i8 6, .int .i8 7, .int .i8 8, .int .i8 10]) 2 (.int .i8 6) rfl, tT, tT]) (by kernel_rfl)).to (by clear E1; first | (simp [wk, homeP, h1, h2]; done) | (apply wk_bool; unfold homeP; symm; first | (rw [decide_eq_true_eq]; simp only [beq_iff_eq, beq_eq_false_iff_ne, ne_eq] at *; omega) | (rw [decide_eq_false_iff_not]; simp only [beq_iff_eq, beq_eq_false_iff_ne, ne_eq] at *; omega)))
  by_cases h4 : n = 7
  ·subst h4
   exact (o56 (d := .bool true) (E1 ++ [.keep [(0, .box [.int .i8 1, .int .i8 7])], tT, tT, tT, .inl, .inl, .go 64, tT, tT, .get ([.int .i8 3, .int .i8 9, .int .i8 6, .int .i8 7, .int .i8 8, .int .i8 10]) 0 (.int .i8 3) rfl, tC (neOf h1), tT, tT, .get ([.int .i8 3, .int .i8 9, .int .i8 6, .int .i8 7, .int .i8 8, .int .i8 10]) 1 (.int .i8 9) rfl, tC (neOf h2), tT, tT, .get ([.int .i8 3, .int .i8 9, .int .i8 6, .int .i8 7, .int .i8 8, .int .i8 10]) 2 (.int .i8 6) rfl, tC (neOf h3), tT, tT, .get ([.int .i8 3, .int .i8 9, .int .i8 6, .int .i8 7, .int .i8 8, .int .i8 10]) 3 (.int .i8 7) rfl, tT, tT]) (by kernel_rfl)).to (by clear E1; first | (simp [wk, homeP, h1, h2, h3]; done) | (apply wk_bool; unfold homeP; symm; first | (rw [decide_eq_true_eq]; simp only [beq_iff_eq, beq_eq_false_iff_ne, ne_eq] at *; omega) | (rw [decide_eq_false_iff_not]; simp only [beq_iff_eq, beq_eq_false_iff_ne, ne_eq] at *; omega)))
  by_cases h5 : n = 8
  ·subst h5
   exact (o56 (d := .bool true) (E1 ++ [.keep [(0, .box [.int .i8 1, .int .i8 8])], tT, tT, tT, .inl, .inl, .go 64, tT, tT, .get ([.int .i8 3, .int .i8 9, .int .i8 6, .int .i8 7, .int .i8 8, .int .i8 10]) 0 (.int .i8 3) rfl, tC (neOf h1), tT, tT, .get ([.int .i8 3, .int .i8 9, .int .i8 6, .int .i8 7, .int .i8 8, .int .i8 10]) 1 (.int .i8 9) rfl, tC (neOf h2), tT, tT, .get ([.int .i8 3, .int .i8 9, .int .i8 6, .int .i8 7, .int .i8 8, .int .i8 10]) 2 (.int .i8 6) rfl, tC (neOf h3), tT, tT, .get ([.int .i8 3, .int .i8 9, .int .i8 6, .int .i8 7, .int .i8 8, .int .i8 10]) 3 (.int .i8 7) rfl, tC (neOf h4), tT, tT, .get ([.int .i8 3, .int .i8 9, .int .i8 6, .int .i8 7, .int .i8 8, .int .i8 10]) 4 (.int .i8 8) rfl, tT, tT]) (by kernel_rfl)).to (by clear E1; first | (simp [wk, homeP, h1, h2, h3, h4]; done) | (apply wk_bool; unfold homeP; symm; first | (rw [decide_eq_true_eq]; simp only [beq_iff_eq, beq_eq_false_iff_ne, ne_eq] at *; omega) | (rw [decide_eq_false_iff_not]; simp only [beq_iff_eq, beq_eq_false_iff_ne, ne_eq] at *; omega)))
  by_cases h6 : n = 10
  ·subst h6
   exact (o56 (d := .bool true) (E1 ++ [.keep [(0, .box [.int .i8 1, .int .i8 10])], tT, tT, tT, .inl, .inl, .go 64, tT, tT, .get ([.int .i8 3, .int .i8 9, .int .i8 6, .int .i8 7, .int .i8 8, .int .i8 10]) 0 (.int .i8 3) rfl, tC (neOf h1), tT, tT, .get ([.int .i8 3, .int .i8 9, .int .i8 6, .int .i8 7, .int .i8 8, .int .i8 10]) 1 (.int .i8 9) rfl, tC (neOf h2), tT, tT, .get ([.int .i8 3, .int .i8 9, .int .i8 6, .int .i8 7, .int .i8 8, .int .i8 10]) 2 (.int .i8 6) rfl, tC (neOf h3), tT, tT, .get ([.int .i8 3, .int .i8 9, .int .i8 6, .int .i8 7, .int .i8 8, .int .i8 10]) 3 (.int .i8 7) rfl, tC (neOf h4), tT, tT, .get ([.int .i8 3, .int .i8 9, .int .i8 6, .int .i8 7, .int .i8 8, .int .i8 10]) 4 (.int .i8 8) rfl, tC (neOf h5), tT, tT, .get ([.int .i8 3, .int .i8 9, .int .i8 6, .int .i8 7, .int .i8 8, .int .i8 10]) 5 (.int .i8 10) rfl, tT, tT]) (by kernel_rfl)).to (by clear E1; first | (simp [wk, homeP, h1, h2, h3, h4, h5]; done) | (apply wk_bool; unfold homeP; symm; first | (rw [decide_eq_true_eq]; simp only [beq_iff_eq, beq_eq_false_iff_ne, ne_eq] at *; omega) | (rw [decide_eq_false_iff_not]; simp only [beq_iff_eq, beq_eq_false_iff_ne, ne_eq] at *; omega)))
  exact (o56 (d := .bool false) (E1 ++ [.keep [(0, .box [.int .i8 1, .int .i8 n])], tT, tT, tT, .inl, .inl, .go 64, tT, tT, .get ([.int .i8 3, .int .i8 9, .int .i8 6, .int .i8 7, .int .i8 8, .int .i8 10]) 0 (.int .i8 3) rfl, tC (neOf h1), tT, tT, .get ([.int .i8 3, .int .i8 9, .int .i8 6, .int .i8 7, .int .i8 8, .int .i8 10]) 1 (.int .i8 9) rfl, tC (neOf h2), tT, tT, .get ([.int .i8 3, .int .i8 9, .int .i8 6, .int .i8 7, .int .i8 8, .int .i8 10]) 2 (.int .i8 6) rfl, tC (neOf h3), tT, tT, .get ([.int .i8 3, .int .i8 9, .int .i8 6, .int .i8 7, .int .i8 8, .int .i8 10]) 3 (.int .i8 7) rfl, tC (neOf h4), tT, tT, .get ([.int .i8 3, .int .i8 9, .int .i8 6, .int .i8 7, .int .i8 8, .int .i8 10]) 4 (.int .i8 8) rfl, tC (neOf h5), tT, tT, .get ([.int .i8 3, .int .i8 9, .int .i8 6, .int .i8 7, .int .i8 8, .int .i8 10]) 5 (.int .i8 10) rfl, tC (neOf h6), tF, tT]) (by kernel_rfl)).to (by clear E1; first | (simp [wk, homeP, h1, h2, h3, h4, h5, h6]; done) | (apply wk_bool; unfold homeP; symm; first | (rw [decide_eq_true_eq]; simp only [beq_iff_eq, beq_eq_false_iff_ne, ne_eq] at *; omega) | (rw [decide_eq_false_iff_not]; simp only [beq_iff_eq, beq_eq_false_iff_ne, ne_eq] at *; omega)))
 exact (o56 (d := .bool false) (List.replicate 5 (tC (eT (neOf h0))) ++ [tC (neOf h0)]) (by kernel_rfl)).to (by first | (simp [wk, homeP, h0]; done) | (apply wk_bool; unfold homeP; symm; first | (rw [decide_eq_true_eq]; simp only [beq_iff_eq, beq_eq_false_iff_ne, ne_eq] at *; omega) | (rw [decide_eq_false_iff_not]; simp only [beq_iff_eq, beq_eq_false_iff_ne, ne_eq] at *; omega)))
theorem rhome_ok (n : Int) : Ret Tryz.prog 53 ([.bool false, .int .i8 n]) (.bool (homeP 1 n)) := by
 let E1 : EL := [.inl, tF, .go 64, tT, tT, .get ([.int .i8 3, .int .i8 9, .int .i8 6, .int .i8 7, .int .i8 8, .int .i8 10]) 0 (.int .i8 3) rfl]
 rcases bft (3 == n) with h0 | h0
 ·exact (o53 (d := .bool true) (E1 ++ [tC h0]) (by kernel_rfl)).to (by clear E1; apply wk_bool; unfold homeP; (try simp only [beq_iff_eq, beq_eq_false_iff_ne, ne_eq] at *); symm; first | exact decide_eq_true ⟨trivial, by omega⟩ | exact decide_eq_false (fun q => by have := q.2; omega))
 let E2 : EL := E1 ++ [tC h0, tT, tT, .get ([.int .i8 3, .int .i8 9, .int .i8 6, .int .i8 7, .int .i8 8, .int .i8 10]) 1 (.int .i8 9) rfl]
 rcases bft (9 == n) with h1 | h1
 ·exact (o53 (d := .bool true) (E2 ++ [tC h1]) (by kernel_rfl)).to (by clear E1 E2; apply wk_bool; unfold homeP; (try simp only [beq_iff_eq, beq_eq_false_iff_ne, ne_eq] at *); symm; first | exact decide_eq_true ⟨trivial, by omega⟩ | exact decide_eq_false (fun q => by have := q.2; omega))
 let E3 : EL := E2 ++ [tC h1, tT, tT, .get ([.int .i8 3, .int .i8 9, .int .i8 6, .int .i8 7, .int .i8 8, .int .i8 10]) 2 (.int .i8 6) rfl]
 rcases bft (6 == n) with h2 | h2
 ·exact (o53 (d := .bool true) (E3 ++ [tC h2]) (by kernel_rfl)).to (by clear E1 E2 E3; apply wk_bool; unfold homeP; (try simp only [beq_iff_eq, beq_eq_false_iff_ne, ne_eq] at *); symm; first | exact decide_eq_true ⟨trivial, by omega⟩ | exact decide_eq_false (fun q => by have := q.2; omega))
 let E4 : EL := E3 ++ [tC h2, tT, tT, .get ([.int .i8 3, .int .i8 9, .int .i8 6, .int .i8 7, .int .i8 8, .int .i8 10]) 3 (.int .i8 7) rfl]
 rcases bft (7 == n) with h3 | h3
 ·exact (o53 (d := .bool true) (E4 ++ [tC h3]) (by kernel_rfl)).to (by clear E1 E2 E3 E4; apply wk_bool; unfold homeP; (try simp only [beq_iff_eq, beq_eq_false_iff_ne, ne_eq] at *); symm; first | exact decide_eq_true ⟨trivial, by omega⟩ | exact decide_eq_false (fun q => by have := q.2; omega))
 let E5 : EL := E4 ++ [tC h3, tT, tT, .get ([.int .i8 3, .int .i8 9, .int .i8 6, .int .i8 7, .int .i8 8, .int .i8 10]) 4 (.int .i8 8) rfl]
 rcases bft (8 == n) with h4 | h4
 ·exact (o53 (d := .bool true) (E5 ++ [tC h4]) (by kernel_rfl)).to (by clear E1 E2 E3 E4 E5; apply wk_bool; unfold homeP; (try simp only [beq_iff_eq, beq_eq_false_iff_ne, ne_eq] at *); symm; first | exact decide_eq_true ⟨trivial, by omega⟩ | exact decide_eq_false (fun q => by have := q.2; omega))
 let E6 : EL := E5 ++ [tC h4, tT, tT, .get ([.int .i8 3, .int .i8 9, .int .i8 6, .int .i8 7, .int .i8 8, .int .i8 10]) 5 (.int .i8 10) rfl]
 rcases bft (10 == n) with h5 | h5
 ·exact (o53 (d := .bool true) (E6 ++ [tC h5]) (by kernel_rfl)).to (by clear E1 E2 E3 E4 E5 E6; apply wk_bool; unfold homeP; (try simp only [beq_iff_eq, beq_eq_false_iff_ne, ne_eq] at *); symm; first | exact decide_eq_true ⟨trivial, by omega⟩ | exact decide_eq_false (fun q => by have := q.2; omega))
 exact (o53 (d := .bool false) (E6 ++ [tC h5, tF]) (by kernel_rfl)).to (by clear E1 E2 E3 E4 E5 E6; apply wk_bool; unfold homeP; (try simp only [beq_iff_eq, beq_eq_false_iff_ne, ne_eq] at *); symm; first | exact decide_eq_true ⟨trivial, by omega⟩ | exact decide_eq_false (fun q => by have := q.2; omega))
theorem pm_done (p : PlS)  : RoundRun Tryz.prog (loopB Tryz.f28 0) ⟨[2], [], []⟩ 1 (uu :: uu :: uu :: uu :: uu :: .agg (plC p) :: .int .i64 11 :: un 27) [.dead] (.exit 0) (un 34) ([.dead]) := by
 exact (RoundRun.of_eval (sp := ⟨[2], [], []⟩) (n0 := 1) (ex := Ex.exit (0 : Nat)) (t' := (un 34)) (s' := [.dead]) mixed [tF] (by kernel_rfl)).cast (by rfl) (by rfl)
theorem pm_zero (p : PlS) (i : Nat) (i1 : (i : Int) ≤ 10) (ha : (p.k (i : Int) == 0) = true) (hb : (p.n (i : Int) == 0) = true)  : RoundRun Tryz.prog (loopB Tryz.f28 0) ⟨[5, 6], [], []⟩ 1 (uu :: uu :: uu :: uu :: uu :: .agg (plC p) :: .int .i64 (↑i : Int) :: un 27) [.dead] .norm (uu :: uu :: uu :: uu :: uu :: .agg (plC p) :: .int .i64 (IntKind.i64.wrap ((↑i : Int) + 1)) :: un 27) ([.dead]) := by
 exact (RoundRun.of_eval (sp := ⟨[5, 6], [], []⟩) (n0 := 1) (ex := Ex.norm) (t' := (uu :: uu :: uu :: uu :: uu :: .agg (plC p) :: .int .i64 (IntKind.i64.wrap ((↑i : Int) + 1)) :: un 27)) (s' := [.dead]) mixed ([tC (decide_eq_true (Int.lt_add_one_of_le i1)), .tst (decide (0 ≤ (↑i : Int) ∧ (↑i : Int) < (↑(11 : Nat) : Int))) true (by ((try simp only [sl2] at *); (try unfold big at *); omega)), .getA _ _ _ _ (@getp' p ((↑i : Int)) ([]) (by ((try simp only [sl2] at *); (try unfold big at *); omega)) i1), .flat _ _ flat_Place] ++ List.replicate 3 (tC (eT (nt (andT (eqI 0 true (eq_of_beq ha)) (andT (eqI 0 true (eq_of_beq hb)) (rfl : true = true)))))) ++ [tC (nt (andT (eqI 0 true (eq_of_beq ha)) (andT (eqI 0 true (eq_of_beq hb)) (rfl : true = true))))] ++ List.replicate 10 tF) (by kernel_rfl)).cast (by rfl) (by rfl)
theorem pm_home (p : PlS) (i : Nat) (i1 : (i : Int) ≤ 10) (ha : (p.k (i : Int) == 1) = true) (hb : homeP (p.k (i : Int)) (p.n (i : Int)) = true)  : RoundRun Tryz.prog (loopB Tryz.f28 0) ⟨[5, 6], [], []⟩ 1 (uu :: uu :: uu :: uu :: uu :: .agg (plC p) :: .int .i64 (↑i : Int) :: un 27) [.dead] .norm (uu :: uu :: uu :: uu :: uu :: .agg (plC p) :: .int .i64 (IntKind.i64.wrap ((↑i : Int) + 1)) :: un 27) ([.dead]) := by
 have c0 := @amay_ok (PlS.k p (↑i : Int)) (PlS.n p (↑i : Int))
 exact (RoundRun.of_eval (sp := ⟨[5, 6], [], []⟩) (n0 := 1) (ex := Ex.norm) (t' := (uu :: uu :: uu :: uu :: uu :: .agg (plC p) :: .int .i64 (IntKind.i64.wrap ((↑i : Int) + 1)) :: un 27)) (s' := [.dead]) mixed ([tC (decide_eq_true (Int.lt_add_one_of_le i1)), .tst (decide (0 ≤ (↑i : Int) ∧ (↑i : Int) < (↑(11 : Nat) : Int))) true (by ((try simp only [sl2] at *); (try unfold big at *); omega)), .getA _ _ _ _ (@getp' p ((↑i : Int)) ([]) (by ((try simp only [sl2] at *); (try unfold big at *); omega)) i1), .flat _ _ flat_Place, tC (eT (nt (andF (y := eqCells [.int .i8 (PlS.n p (↑i : Int))] [.int .i8 0]) (eqI 0 false (eq_of_beq ha))))), tC (eT (nt (andF (y := eqCells [.int .i8 (PlS.n p (↑i : Int))] [.int .i8 0]) (eqI 0 false (eq_of_beq ha))))), .ret _ _ _ c0, tC (eT (nt (andF (y := eqCells [.int .i8 (PlS.n p (↑i : Int))] [.int .i8 0]) (eqI 0 false (eq_of_beq ha))))), tC (nt (andF (y := eqCells [.int .i8 (PlS.n p (↑i : Int))] [.int .i8 0]) (eqI 0 false (eq_of_beq ha))))] ++ List.replicate 8 (tC (eT (nt hb))) ++ [tC (nt hb), tF]) (by kernel_rfl)).cast (by rfl) (by rfl)
theorem pm_slot (p : PlS) (i : Nat) (i1 : (i : Int) ≤ 10) (ha : (p.k (i : Int) == 2) = true) (hb : homeP (p.k (i : Int)) (p.n (i : Int)) = false) (hc : 0 ≤ p.n (i : Int)) (hd : p.n (i : Int) < 11)  : RoundRun Tryz.prog (loopB Tryz.f28 0) ⟨[5, 6], [], []⟩ 1 (uu :: uu :: uu :: uu :: uu :: .agg (plC p) :: .int .i64 (↑i : Int) :: un 27) [.dead] .norm (uu :: uu :: uu :: uu :: uu :: .agg (plC p) :: .int .i64 (IntKind.i64.wrap ((↑i : Int) + 1)) :: un 27) ([.dead]) := by
 have c0 := @amay_ok (PlS.k p (↑i : Int)) (PlS.n p (↑i : Int))
 exact (RoundRun.of_eval (sp := ⟨[5, 6], [], []⟩) (n0 := 1) (ex := Ex.norm) (t' := (uu :: uu :: uu :: uu :: uu :: .agg (plC p) :: .int .i64 (IntKind.i64.wrap ((↑i : Int) + 1)) :: un 27)) (s' := [.dead]) mixed ([tC (decide_eq_true (Int.lt_add_one_of_le i1)), .tst (decide (0 ≤ (↑i : Int) ∧ (↑i : Int) < (↑(11 : Nat) : Int))) true (by ((try simp only [sl2] at *); (try unfold big at *); omega)), .getA _ _ _ _ (@getp' p ((↑i : Int)) ([]) (by ((try simp only [sl2] at *); (try unfold big at *); omega)) i1), .flat _ _ flat_Place, tC (eT (nt (andF (y := eqCells [.int .i8 (PlS.n p (↑i : Int))] [.int .i8 0]) (eqI 0 false (eq_of_beq ha))))), tC (eT (nt (andF (y := eqCells [.int .i8 (PlS.n p (↑i : Int))] [.int .i8 0]) (eqI 0 false (eq_of_beq ha))))), .ret _ _ _ c0, tC (eT (nt (andF (y := eqCells [.int .i8 (PlS.n p (↑i : Int))] [.int .i8 0]) (eqI 0 false (eq_of_beq ha))))), tC (nt (andF (y := eqCells [.int .i8 (PlS.n p (↑i : Int))] [.int .i8 0]) (eqI 0 false (eq_of_beq ha))))] ++ List.replicate 4 (tC (eT (nt hb))) ++ List.replicate 3 (tC (eT (eqI 2 true (eq_of_beq ha)))) ++ [tC (eT (nt hb)), tC (eqI 2 true (eq_of_beq ha)), tC (eT (nt hb))] ++ List.replicate 3 (tC (eT (leL 0 (decide_eq_false (Int.not_lt.2 hc))))) ++ [tC (eT (nt hb)), tC (leL 0 (decide_eq_false (Int.not_lt.2 hc))), tC (eT (nt hb)), tC (nt hb), tC (nt (decide_eq_true hd))]) (by kernel_rfl)).cast (by rfl) (by rfl)
theorem pm_b0 (p : PlS) (i : Nat) (i1 : (i : Int) ≤ 10) (ha : (p.k (i : Int) == 0) = true) (hb : (p.n (i : Int) == 0) = false) (hc : homeP (p.k (i : Int)) (p.n (i : Int)) = false)  : RoundRun Tryz.prog (loopB Tryz.f28 0) ⟨[2], [], []⟩ 1 (uu :: uu :: uu :: uu :: uu :: .agg (plC p) :: .int .i64 (↑i : Int) :: un 27) [.dead] (Ex.ret) (uu :: uu :: .bool false :: un 31) ([.dead]) := by
 have c0 := @amay_ok (PlS.k p (↑i : Int)) (PlS.n p (↑i : Int))
 exact (RoundRun.of_eval (sp := ⟨[2], [], []⟩) (n0 := 1) (ex := Ex.ret) (t' := (uu :: uu :: .bool false :: un 31)) (s' := [.dead]) mixed ([tC (decide_eq_true (Int.lt_add_one_of_le i1)), .tst (decide (0 ≤ (↑i : Int) ∧ (↑i : Int) < (↑(11 : Nat) : Int))) true (by ((try simp only [sl2] at *); (try unfold big at *); omega)), .getA _ _ _ _ (@getp' p ((↑i : Int)) ([]) (by ((try simp only [sl2] at *); (try unfold big at *); omega)) i1), .flat _ _ flat_Place, tC (eT (nt (andT (eqI 0 true (eq_of_beq ha)) (andF (y := true) hb)))), tC (eT (nt (andT (eqI 0 true (eq_of_beq ha)) (andF (y := true) hb)))), .ret _ _ _ c0, tC (eT (nt (andT (eqI 0 true (eq_of_beq ha)) (andF (y := true) hb)))), tC (nt (andT (eqI 0 true (eq_of_beq ha)) (andF (y := true) hb)))] ++ List.replicate 4 (tC (eT (nt hc))) ++ List.replicate 3 (tC (eT (eqI 2 false (eq_of_beq ha)))) ++ [tC (eT (nt hc)), tC (eqI 2 false (eq_of_beq ha)), tC (eT (nt hc)), tF, tF, tF, tC (eT (nt hc)), tF, tC (eT (nt hc)), tC (nt hc), tT]) (by kernel_rfl)).cast (by rfl) (by rfl)
theorem pm_b1 (p : PlS) (i : Nat) (i1 : (i : Int) ≤ 10) (ha : (p.k (i : Int) == 1) = true) (hb : homeP (p.k (i : Int)) (p.n (i : Int)) = false)  : RoundRun Tryz.prog (loopB Tryz.f28 0) ⟨[2], [], []⟩ 1 (uu :: uu :: uu :: uu :: uu :: .agg (plC p) :: .int .i64 (↑i : Int) :: un 27) [.dead] (Ex.ret) (uu :: uu :: .bool false :: un 31) ([.dead]) := by
 have c0 := @amay_ok (PlS.k p (↑i : Int)) (PlS.n p (↑i : Int))
 exact (RoundRun.of_eval (sp := ⟨[2], [], []⟩) (n0 := 1) (ex := Ex.ret) (t' := (uu :: uu :: .bool false :: un 31)) (s' := [.dead]) mixed ([tC (decide_eq_true (Int.lt_add_one_of_le i1)), .tst (decide (0 ≤ (↑i : Int) ∧ (↑i : Int) < (↑(11 : Nat) : Int))) true (by ((try simp only [sl2] at *); (try unfold big at *); omega)), .getA _ _ _ _ (@getp' p ((↑i : Int)) ([]) (by ((try simp only [sl2] at *); (try unfold big at *); omega)) i1), .flat _ _ flat_Place, tC (eT (nt (andF (y := eqCells [.int .i8 (PlS.n p (↑i : Int))] [.int .i8 0]) (eqI 0 false (eq_of_beq ha))))), tC (eT (nt (andF (y := eqCells [.int .i8 (PlS.n p (↑i : Int))] [.int .i8 0]) (eqI 0 false (eq_of_beq ha))))), .ret _ _ _ c0, tC (eT (nt (andF (y := eqCells [.int .i8 (PlS.n p (↑i : Int))] [.int .i8 0]) (eqI 0 false (eq_of_beq ha))))), tC (nt (andF (y := eqCells [.int .i8 (PlS.n p (↑i : Int))] [.int .i8 0]) (eqI 0 false (eq_of_beq ha))))] ++ List.replicate 4 (tC (eT (nt hb))) ++ List.replicate 3 (tC (eT (eqI 2 false (eq_of_beq ha)))) ++ [tC (eT (nt hb)), tC (eqI 2 false (eq_of_beq ha)), tC (eT (nt hb)), tF, tF, tF, tC (eT (nt hb)), tF, tC (eT (nt hb)), tC (nt hb), tT]) (by kernel_rfl)).cast (by rfl) (by rfl)
theorem pm_b2 (p : PlS) (i : Nat) (i1 : (i : Int) ≤ 10) (ha : (p.k (i : Int) == 2) = true) (hb : homeP (p.k (i : Int)) (p.n (i : Int)) = false) (hc : p.n (i : Int) < 0)  : RoundRun Tryz.prog (loopB Tryz.f28 0) ⟨[2], [], []⟩ 1 (uu :: uu :: uu :: uu :: uu :: .agg (plC p) :: .int .i64 (↑i : Int) :: un 27) [.dead] (Ex.ret) (uu :: uu :: .bool false :: un 31) ([.dead]) := by
 have c0 := @amay_ok (PlS.k p (↑i : Int)) (PlS.n p (↑i : Int))
 exact (RoundRun.of_eval (sp := ⟨[2], [], []⟩) (n0 := 1) (ex := Ex.ret) (t' := (uu :: uu :: .bool false :: un 31)) (s' := [.dead]) mixed ([tC (decide_eq_true (Int.lt_add_one_of_le i1)), .tst (decide (0 ≤ (↑i : Int) ∧ (↑i : Int) < (↑(11 : Nat) : Int))) true (by ((try simp only [sl2] at *); (try unfold big at *); omega)), .getA _ _ _ _ (@getp' p ((↑i : Int)) ([]) (by ((try simp only [sl2] at *); (try unfold big at *); omega)) i1), .flat _ _ flat_Place, tC (eT (nt (andF (y := eqCells [.int .i8 (PlS.n p (↑i : Int))] [.int .i8 0]) (eqI 0 false (eq_of_beq ha))))), tC (eT (nt (andF (y := eqCells [.int .i8 (PlS.n p (↑i : Int))] [.int .i8 0]) (eqI 0 false (eq_of_beq ha))))), .ret _ _ _ c0, tC (eT (nt (andF (y := eqCells [.int .i8 (PlS.n p (↑i : Int))] [.int .i8 0]) (eqI 0 false (eq_of_beq ha))))), tC (nt (andF (y := eqCells [.int .i8 (PlS.n p (↑i : Int))] [.int .i8 0]) (eqI 0 false (eq_of_beq ha))))] ++ List.replicate 4 (tC (eT (nt hb))) ++ List.replicate 3 (tC (eT (eqI 2 true (eq_of_beq ha)))) ++ [tC (eT (nt hb)), tC (eqI 2 true (eq_of_beq ha)), tC (eT (nt hb))] ++ List.replicate 3 (tC (eT (leL 0 (decide_eq_true hc)))) ++ [tC (eT (nt hb)), tC (leL 0 (decide_eq_true hc)), tC (eT (nt hb)), tC (nt hb), tT]) (by kernel_rfl)).cast (by rfl) (by rfl)
theorem pm_b3 (p : PlS) (i : Nat) (i1 : (i : Int) ≤ 10) (ha : (p.k (i : Int) == 2) = true) (hb : homeP (p.k (i : Int)) (p.n (i : Int)) = false) (hc : 11 ≤ p.n (i : Int))  : RoundRun Tryz.prog (loopB Tryz.f28 0) ⟨[2], [], []⟩ 1 (uu :: uu :: uu :: uu :: uu :: .agg (plC p) :: .int .i64 (↑i : Int) :: un 27) [.dead] (Ex.ret) (uu :: uu :: .bool false :: un 31) ([.dead]) := by
 have c0 := @amay_ok (PlS.k p (↑i : Int)) (PlS.n p (↑i : Int))
 exact (RoundRun.of_eval (sp := ⟨[2], [], []⟩) (n0 := 1) (ex := Ex.ret) (t' := (uu :: uu :: .bool false :: un 31)) (s' := [.dead]) mixed ([tC (decide_eq_true (Int.lt_add_one_of_le i1)), .tst (decide (0 ≤ (↑i : Int) ∧ (↑i : Int) < (↑(11 : Nat) : Int))) true (by ((try simp only [sl2] at *); (try unfold big at *); omega)), .getA _ _ _ _ (@getp' p ((↑i : Int)) ([]) (by ((try simp only [sl2] at *); (try unfold big at *); omega)) i1), .flat _ _ flat_Place, tC (eT (nt (andF (y := eqCells [.int .i8 (PlS.n p (↑i : Int))] [.int .i8 0]) (eqI 0 false (eq_of_beq ha))))), tC (eT (nt (andF (y := eqCells [.int .i8 (PlS.n p (↑i : Int))] [.int .i8 0]) (eqI 0 false (eq_of_beq ha))))), .ret _ _ _ c0, tC (eT (nt (andF (y := eqCells [.int .i8 (PlS.n p (↑i : Int))] [.int .i8 0]) (eqI 0 false (eq_of_beq ha))))), tC (nt (andF (y := eqCells [.int .i8 (PlS.n p (↑i : Int))] [.int .i8 0]) (eqI 0 false (eq_of_beq ha))))] ++ List.replicate 4 (tC (eT (nt hb))) ++ List.replicate 3 (tC (eT (eqI 2 true (eq_of_beq ha)))) ++ [tC (eT (nt hb)), tC (eqI 2 true (eq_of_beq ha)), tC (eT (nt hb))] ++ List.replicate 3 (tC (eT (leL 0 (ltD 0 (decide_eq_false (Int.not_lt.2 hc)))))) ++ [tC (eT (nt hb)), tC (leL 0 (ltD 0 (decide_eq_false (Int.not_lt.2 hc)))), tC (eT (nt hb)), tC (nt hb), tC (nt (decide_eq_false (Int.not_lt.2 hc)))]) (by kernel_rfl)).cast (by rfl) (by rfl)
theorem pm_b4 (p : PlS) (i : Nat) (i1 : (i : Int) ≤ 10) (ha : (p.k (i : Int) == 0) = false) (hb : (p.k (i : Int) == 2) = false) (hc : homeP (p.k (i : Int)) (p.n (i : Int)) = false)  : RoundRun Tryz.prog (loopB Tryz.f28 0) ⟨[2], [], []⟩ 1 (uu :: uu :: uu :: uu :: uu :: .agg (plC p) :: .int .i64 (↑i : Int) :: un 27) [.dead] (Ex.ret) (uu :: uu :: .bool false :: un 31) ([.dead]) := by
 have c0 := @amay_ok (PlS.k p (↑i : Int)) (PlS.n p (↑i : Int))
 exact (RoundRun.of_eval (sp := ⟨[2], [], []⟩) (n0 := 1) (ex := Ex.ret) (t' := (uu :: uu :: .bool false :: un 31)) (s' := [.dead]) mixed ([tC (decide_eq_true (Int.lt_add_one_of_le i1)), .tst (decide (0 ≤ (↑i : Int) ∧ (↑i : Int) < (↑(11 : Nat) : Int))) true (by ((try simp only [sl2] at *); (try unfold big at *); omega)), .getA _ _ _ _ (@getp' p ((↑i : Int)) ([]) (by ((try simp only [sl2] at *); (try unfold big at *); omega)) i1), .flat _ _ flat_Place, tC (eT (nt (andF (y := eqCells [.int .i8 (PlS.n p (↑i : Int))] [.int .i8 0]) ha))), tC (eT (nt (andF (y := eqCells [.int .i8 (PlS.n p (↑i : Int))] [.int .i8 0]) ha))), .ret _ _ _ c0, tC (eT (nt (andF (y := eqCells [.int .i8 (PlS.n p (↑i : Int))] [.int .i8 0]) ha))), tC (nt (andF (y := eqCells [.int .i8 (PlS.n p (↑i : Int))] [.int .i8 0]) ha))] ++ List.replicate 4 (tC (eT (nt hc))) ++ [tC (eT hb), tC (eT hb), tC (eT hb), tC (eT (nt hc)), tC hb, tC (eT (nt hc)), tF, tF, tF, tC (eT (nt hc)), tF, tC (eT (nt hc)), tC (nt hc), tT]) (by kernel_rfl)).cast (by rfl) (by rfl)
theorem rm_done (p : PlS)  : RoundRun Tryz.prog (loopB Tryz.f23 0) ⟨[2], [0], []⟩ 1 (uu :: .ptr false 0 0 :: uu :: .int .i64 11 :: un 38) [.box (plC p)] (.exit 0) (un 42) ([.box (plC p)]) := by
 exact (RoundRun.of_eval (sp := ⟨[2], [0], []⟩) (n0 := 1) (ex := Ex.exit (0 : Nat)) (t' := (un 42)) (s' := [.box (plC p)]) mixed [tF] (by kernel_rfl)).cast (by rfl) (by rfl)
theorem rm_zero (p : PlS) (i : Nat) (i1 : (i : Int) ≤ 10) (ha : (p.k (i : Int) == 0) = true) (hb : (p.n (i : Int) == 0) = true)  : RoundRun Tryz.prog (loopB Tryz.f23 0) ⟨[1, 3], [0], []⟩ 1 (uu :: .ptr false 0 0 :: uu :: .int .i64 (↑i : Int) :: un 38) [.box (plC p)] .norm (uu :: .ptr false 0 0 :: uu :: .int .i64 (IntKind.i64.wrap ((↑i : Int) + 1)) :: un 38) ([.box (plC p)]) := by
 exact (RoundRun.of_eval (sp := ⟨[1, 3], [0], []⟩) (n0 := 1) (ex := Ex.norm) (t' := (uu :: .ptr false 0 0 :: uu :: .int .i64 (IntKind.i64.wrap ((↑i : Int) + 1)) :: un 38)) (s' := [.box (plC p)]) mixed ([tC (decide_eq_true (Int.lt_add_one_of_le i1)), .tst (decide (0 ≤ (↑i : Int) ∧ (↑i : Int) < (↑(11 : Nat) : Int))) true (by ((try simp only [sl2] at *); (try unfold big at *); omega)), .getA _ _ _ _ (@getp p ((↑i : Int)) ([]) (by ((try simp only [sl2] at *); (try unfold big at *); omega)) i1), .flat _ _ flat_Place] ++ List.replicate 6 (tC (eT (nt (andT (eqI 0 true (eq_of_beq ha)) (andT (eqI 0 true (eq_of_beq hb)) (rfl : true = true)))))) ++ [tC (nt (andT (eqI 0 true (eq_of_beq ha)) (andT (eqI 0 true (eq_of_beq hb)) (rfl : true = true))))] ++ List.replicate 10 tF) (by kernel_rfl)).cast (by rfl) (by rfl)
theorem rm_home (p : PlS) (i : Nat) (i1 : (i : Int) ≤ 10) (ha : (p.k (i : Int) == 1) = true) (hb : homeP 1 (p.n (i : Int)) = true)  : RoundRun Tryz.prog (loopB Tryz.f23 0) ⟨[1, 3], [0], []⟩ 1 (uu :: .ptr false 0 0 :: uu :: .int .i64 (↑i : Int) :: un 38) [.box (plC p)] .norm (uu :: .ptr false 0 0 :: uu :: .int .i64 (IntKind.i64.wrap ((↑i : Int) + 1)) :: un 38) ([.box (plC p)]) := by
 have c0 := @rhome_ok (PlS.n p (↑i : Int))
 exact (RoundRun.of_eval (sp := ⟨[1, 3], [0], []⟩) (n0 := 1) (ex := Ex.norm) (t' := (uu :: .ptr false 0 0 :: uu :: .int .i64 (IntKind.i64.wrap ((↑i : Int) + 1)) :: un 38)) (s' := [.box (plC p)]) mixed ([tC (decide_eq_true (Int.lt_add_one_of_le i1)), .tst (decide (0 ≤ (↑i : Int) ∧ (↑i : Int) < (↑(11 : Nat) : Int))) true (by ((try simp only [sl2] at *); (try unfold big at *); omega)), .getA _ _ _ _ (@getp p ((↑i : Int)) ([]) (by ((try simp only [sl2] at *); (try unfold big at *); omega)) i1), .flat _ _ flat_Place] ++ List.replicate 4 (tC (eT (nt (andF (y := eqCells [.int .i8 (PlS.n p (↑i : Int))] [.int .i8 0]) (eqI 0 false (eq_of_beq ha)))))) ++ List.replicate 3 (tC (eT (eqI 1 true (eq_of_beq ha)))) ++ [.ret _ _ _ c0, tC (eT (nt (andF (y := eqCells [.int .i8 (PlS.n p (↑i : Int))] [.int .i8 0]) (eqI 0 false (eq_of_beq ha))))), tC (eqI 1 true (eq_of_beq ha)), tC (eT (nt (andF (y := eqCells [.int .i8 (PlS.n p (↑i : Int))] [.int .i8 0]) (eqI 0 false (eq_of_beq ha))))), tC (nt (andF (y := eqCells [.int .i8 (PlS.n p (↑i : Int))] [.int .i8 0]) (eqI 0 false (eq_of_beq ha))))] ++ List.replicate 8 (tC (eT (nt hb))) ++ [tC (nt hb), tF]) (by kernel_rfl)).cast (by rfl) (by rfl)
theorem rm_slot (p : PlS) (i : Nat) (i1 : (i : Int) ≤ 10) (ha : (p.k (i : Int) == 2) = true) (hc : 0 ≤ p.n (i : Int)) (hd : p.n (i : Int) < 11)  : RoundRun Tryz.prog (loopB Tryz.f23 0) ⟨[1, 3], [0], []⟩ 1 (uu :: .ptr false 0 0 :: uu :: .int .i64 (↑i : Int) :: un 38) [.box (plC p)] .norm (uu :: .ptr false 0 0 :: uu :: .int .i64 (IntKind.i64.wrap ((↑i : Int) + 1)) :: un 38) ([.box (plC p)]) := by
 exact (RoundRun.of_eval (sp := ⟨[1, 3], [0], []⟩) (n0 := 1) (ex := Ex.norm) (t' := (uu :: .ptr false 0 0 :: uu :: .int .i64 (IntKind.i64.wrap ((↑i : Int) + 1)) :: un 38)) (s' := [.box (plC p)]) mixed ([tC (decide_eq_true (Int.lt_add_one_of_le i1)), .tst (decide (0 ≤ (↑i : Int) ∧ (↑i : Int) < (↑(11 : Nat) : Int))) true (by ((try simp only [sl2] at *); (try unfold big at *); omega)), .getA _ _ _ _ (@getp p ((↑i : Int)) ([]) (by ((try simp only [sl2] at *); (try unfold big at *); omega)) i1), .flat _ _ flat_Place] ++ List.replicate 4 (tC (eT (nt (andF (y := eqCells [.int .i8 (PlS.n p (↑i : Int))] [.int .i8 0]) (eqI 0 false (eq_of_beq ha)))))) ++ List.replicate 3 (tC (eT (eqI 1 false (eq_of_beq ha)))) ++ [tC (eT (nt (andF (y := eqCells [.int .i8 (PlS.n p (↑i : Int))] [.int .i8 0]) (eqI 0 false (eq_of_beq ha))))), tC (eqI 1 false (eq_of_beq ha)), tC (eT (nt (andF (y := eqCells [.int .i8 (PlS.n p (↑i : Int))] [.int .i8 0]) (eqI 0 false (eq_of_beq ha))))), tC (nt (andF (y := eqCells [.int .i8 (PlS.n p (↑i : Int))] [.int .i8 0]) (eqI 0 false (eq_of_beq ha)))), tT, tT, tT, tT] ++ List.replicate 3 (tC (eT (eqI 2 true (eq_of_beq ha)))) ++ [tT, tC (eqI 2 true (eq_of_beq ha)), tT] ++ List.replicate 3 (tC (eT (leL 0 (decide_eq_false (Int.not_lt.2 hc))))) ++ [tT, tC (leL 0 (decide_eq_false (Int.not_lt.2 hc))), tT, tT, tC (nt (decide_eq_true hd))]) (by kernel_rfl)).cast (by rfl) (by rfl)
theorem rm_b0 (p : PlS) (i : Nat) (i1 : (i : Int) ≤ 10) (ha : (p.k (i : Int) == 0) = true) (hb : (p.n (i : Int) == 0) = false)  : RoundRun Tryz.prog (loopB Tryz.f23 0) ⟨[2], [0], []⟩ 1 (uu :: .ptr false 0 0 :: uu :: .int .i64 (↑i : Int) :: un 38) [.box (plC p)] (Ex.ret) (uu :: uu :: .bool false :: un 39) ([.box (plC p)]) := by
 exact (RoundRun.of_eval (sp := ⟨[2], [0], []⟩) (n0 := 1) (ex := Ex.ret) (t' := (uu :: uu :: .bool false :: un 39)) (s' := [.box (plC p)]) mixed ([tC (decide_eq_true (Int.lt_add_one_of_le i1)), .tst (decide (0 ≤ (↑i : Int) ∧ (↑i : Int) < (↑(11 : Nat) : Int))) true (by ((try simp only [sl2] at *); (try unfold big at *); omega)), .getA _ _ _ _ (@getp p ((↑i : Int)) ([]) (by ((try simp only [sl2] at *); (try unfold big at *); omega)) i1), .flat _ _ flat_Place] ++ List.replicate 4 (tC (eT (nt (andT (eqI 0 true (eq_of_beq ha)) (andF (y := true) hb))))) ++ List.replicate 3 (tC (eT (eqI 1 false (eq_of_beq ha)))) ++ [tC (eT (nt (andT (eqI 0 true (eq_of_beq ha)) (andF (y := true) hb)))), tC (eqI 1 false (eq_of_beq ha)), tC (eT (nt (andT (eqI 0 true (eq_of_beq ha)) (andF (y := true) hb)))), tC (nt (andT (eqI 0 true (eq_of_beq ha)) (andF (y := true) hb))), tT, tT, tT, tT] ++ List.replicate 3 (tC (eT (eqI 2 false (eq_of_beq ha)))) ++ [tT, tC (eqI 2 false (eq_of_beq ha)), tT, tF, tF, tF, tT, tF, tT, tT, tT]) (by kernel_rfl)).cast (by rfl) (by rfl)
theorem rm_b1 (p : PlS) (i : Nat) (i1 : (i : Int) ≤ 10) (ha : (p.k (i : Int) == 1) = true) (hb : homeP 1 (p.n (i : Int)) = false)  : RoundRun Tryz.prog (loopB Tryz.f23 0) ⟨[2], [0], []⟩ 1 (uu :: .ptr false 0 0 :: uu :: .int .i64 (↑i : Int) :: un 38) [.box (plC p)] (Ex.ret) (uu :: uu :: .bool false :: un 39) ([.box (plC p)]) := by
 have c0 := @rhome_ok (PlS.n p (↑i : Int))
 exact (RoundRun.of_eval (sp := ⟨[2], [0], []⟩) (n0 := 1) (ex := Ex.ret) (t' := (uu :: uu :: .bool false :: un 39)) (s' := [.box (plC p)]) mixed ([tC (decide_eq_true (Int.lt_add_one_of_le i1)), .tst (decide (0 ≤ (↑i : Int) ∧ (↑i : Int) < (↑(11 : Nat) : Int))) true (by ((try simp only [sl2] at *); (try unfold big at *); omega)), .getA _ _ _ _ (@getp p ((↑i : Int)) ([]) (by ((try simp only [sl2] at *); (try unfold big at *); omega)) i1), .flat _ _ flat_Place] ++ List.replicate 4 (tC (eT (nt (andF (y := eqCells [.int .i8 (PlS.n p (↑i : Int))] [.int .i8 0]) (eqI 0 false (eq_of_beq ha)))))) ++ List.replicate 3 (tC (eT (eqI 1 true (eq_of_beq ha)))) ++ [.ret _ _ _ c0, tC (eT (nt (andF (y := eqCells [.int .i8 (PlS.n p (↑i : Int))] [.int .i8 0]) (eqI 0 false (eq_of_beq ha))))), tC (eqI 1 true (eq_of_beq ha)), tC (eT (nt (andF (y := eqCells [.int .i8 (PlS.n p (↑i : Int))] [.int .i8 0]) (eqI 0 false (eq_of_beq ha))))), tC (nt (andF (y := eqCells [.int .i8 (PlS.n p (↑i : Int))] [.int .i8 0]) (eqI 0 false (eq_of_beq ha))))] ++ List.replicate 4 (tC (eT (nt hb))) ++ List.replicate 3 (tC (eT (eqI 2 false (eq_of_beq ha)))) ++ [tC (eT (nt hb)), tC (eqI 2 false (eq_of_beq ha)), tC (eT (nt hb)), tF, tF, tF, tC (eT (nt hb)), tF, tC (eT (nt hb)), tC (nt hb), tT]) (by kernel_rfl)).cast (by rfl) (by rfl)
theorem rm_b2 (p : PlS) (i : Nat) (i1 : (i : Int) ≤ 10) (ha : (p.k (i : Int) == 2) = true) (hc : p.n (i : Int) < 0)  : RoundRun Tryz.prog (loopB Tryz.f23 0) ⟨[2], [0], []⟩ 1 (uu :: .ptr false 0 0 :: uu :: .int .i64 (↑i : Int) :: un 38) [.box (plC p)] (Ex.ret) (uu :: uu :: .bool false :: un 39) ([.box (plC p)]) := by
 exact (RoundRun.of_eval (sp := ⟨[2], [0], []⟩) (n0 := 1) (ex := Ex.ret) (t' := (uu :: uu :: .bool false :: un 39)) (s' := [.box (plC p)]) mixed ([tC (decide_eq_true (Int.lt_add_one_of_le i1)), .tst (decide (0 ≤ (↑i : Int) ∧ (↑i : Int) < (↑(11 : Nat) : Int))) true (by ((try simp only [sl2] at *); (try unfold big at *); omega)), .getA _ _ _ _ (@getp p ((↑i : Int)) ([]) (by ((try simp only [sl2] at *); (try unfold big at *); omega)) i1), .flat _ _ flat_Place] ++ List.replicate 4 (tC (eT (nt (andF (y := eqCells [.int .i8 (PlS.n p (↑i : Int))] [.int .i8 0]) (eqI 0 false (eq_of_beq ha)))))) ++ List.replicate 3 (tC (eT (eqI 1 false (eq_of_beq ha)))) ++ [tC (eT (nt (andF (y := eqCells [.int .i8 (PlS.n p (↑i : Int))] [.int .i8 0]) (eqI 0 false (eq_of_beq ha))))), tC (eqI 1 false (eq_of_beq ha)), tC (eT (nt (andF (y := eqCells [.int .i8 (PlS.n p (↑i : Int))] [.int .i8 0]) (eqI 0 false (eq_of_beq ha))))), tC (nt (andF (y := eqCells [.int .i8 (PlS.n p (↑i : Int))] [.int .i8 0]) (eqI 0 false (eq_of_beq ha)))), tT, tT, tT, tT] ++ List.replicate 3 (tC (eT (eqI 2 true (eq_of_beq ha)))) ++ [tT, tC (eqI 2 true (eq_of_beq ha)), tT] ++ List.replicate 3 (tC (eT (leL 0 (decide_eq_true hc)))) ++ [tT, tC (leL 0 (decide_eq_true hc)), tT, tT, tT]) (by kernel_rfl)).cast (by rfl) (by rfl)
theorem rm_b3 (p : PlS) (i : Nat) (i1 : (i : Int) ≤ 10) (ha : (p.k (i : Int) == 2) = true) (hc : 11 ≤ p.n (i : Int))  : RoundRun Tryz.prog (loopB Tryz.f23 0) ⟨[2], [0], []⟩ 1 (uu :: .ptr false 0 0 :: uu :: .int .i64 (↑i : Int) :: un 38) [.box (plC p)] (Ex.ret) (uu :: uu :: .bool false :: un 39) ([.box (plC p)]) := by
 exact (RoundRun.of_eval (sp := ⟨[2], [0], []⟩) (n0 := 1) (ex := Ex.ret) (t' := (uu :: uu :: .bool false :: un 39)) (s' := [.box (plC p)]) mixed ([tC (decide_eq_true (Int.lt_add_one_of_le i1)), .tst (decide (0 ≤ (↑i : Int) ∧ (↑i : Int) < (↑(11 : Nat) : Int))) true (by ((try simp only [sl2] at *); (try unfold big at *); omega)), .getA _ _ _ _ (@getp p ((↑i : Int)) ([]) (by ((try simp only [sl2] at *); (try unfold big at *); omega)) i1), .flat _ _ flat_Place] ++ List.replicate 4 (tC (eT (nt (andF (y := eqCells [.int .i8 (PlS.n p (↑i : Int))] [.int .i8 0]) (eqI 0 false (eq_of_beq ha)))))) ++ List.replicate 3 (tC (eT (eqI 1 false (eq_of_beq ha)))) ++ [tC (eT (nt (andF (y := eqCells [.int .i8 (PlS.n p (↑i : Int))] [.int .i8 0]) (eqI 0 false (eq_of_beq ha))))), tC (eqI 1 false (eq_of_beq ha)), tC (eT (nt (andF (y := eqCells [.int .i8 (PlS.n p (↑i : Int))] [.int .i8 0]) (eqI 0 false (eq_of_beq ha))))), tC (nt (andF (y := eqCells [.int .i8 (PlS.n p (↑i : Int))] [.int .i8 0]) (eqI 0 false (eq_of_beq ha)))), tT, tT, tT, tT] ++ List.replicate 3 (tC (eT (eqI 2 true (eq_of_beq ha)))) ++ [tT, tC (eqI 2 true (eq_of_beq ha)), tT] ++ List.replicate 3 (tC (eT (leL 0 (ltD 0 (decide_eq_false (Int.not_lt.2 hc)))))) ++ [tT, tC (leL 0 (ltD 0 (decide_eq_false (Int.not_lt.2 hc)))), tT, tT, tC (nt (decide_eq_false (Int.not_lt.2 hc)))]) (by kernel_rfl)).cast (by rfl) (by rfl)
theorem rm_b4 (p : PlS) (i : Nat) (i1 : (i : Int) ≤ 10) (ha : (p.k (i : Int) == 0) = false) (hb : (p.k (i : Int) == 2) = false) (hc : (p.k (i : Int) == 1) = false)  : RoundRun Tryz.prog (loopB Tryz.f23 0) ⟨[2], [0], []⟩ 1 (uu :: .ptr false 0 0 :: uu :: .int .i64 (↑i : Int) :: un 38) [.box (plC p)] (Ex.ret) (uu :: uu :: .bool false :: un 39) ([.box (plC p)]) := by
 exact (RoundRun.of_eval (sp := ⟨[2], [0], []⟩) (n0 := 1) (ex := Ex.ret) (t' := (uu :: uu :: .bool false :: un 39)) (s' := [.box (plC p)]) mixed ([tC (decide_eq_true (Int.lt_add_one_of_le i1)), .tst (decide (0 ≤ (↑i : Int) ∧ (↑i : Int) < (↑(11 : Nat) : Int))) true (by ((try simp only [sl2] at *); (try unfold big at *); omega)), .getA _ _ _ _ (@getp p ((↑i : Int)) ([]) (by ((try simp only [sl2] at *); (try unfold big at *); omega)) i1), .flat _ _ flat_Place] ++ List.replicate 4 (tC (eT (nt (andF (y := eqCells [.int .i8 (PlS.n p (↑i : Int))] [.int .i8 0]) ha)))) ++ [tC (eT hc), tC (eT hc), tC (eT hc), tC (eT (nt (andF (y := eqCells [.int .i8 (PlS.n p (↑i : Int))] [.int .i8 0]) ha))), tC hc, tC (eT (nt (andF (y := eqCells [.int .i8 (PlS.n p (↑i : Int))] [.int .i8 0]) ha))), tC (nt (andF (y := eqCells [.int .i8 (PlS.n p (↑i : Int))] [.int .i8 0]) ha)), tT, tT, tT, tT, tC (eT hb), tC (eT hb), tC (eT hb), tT, tC hb, tT, tF, tF, tF, tT, tF, tT, tT, tT]) (by kernel_rfl)).cast (by rfl) (by rfl)
theorem ap_done (p : PlS) (i k : Nat) (h : (i : Int) ≤ (k : Int))  : RoundRun Tryz.prog (loopB Tryz.f25 1) ⟨[1, 5], [0], []⟩ 1 (uu :: .ptr false 0 0 :: uu :: .int .i64 (↑i : Int) :: .int .i64 (↑k : Int) :: .int .i64 (↑i : Int) :: un 22) [.box (plC p)] (.exit 2) (uu :: .ptr false 0 0 :: uu :: uu :: uu :: .int .i64 (↑i : Int) :: un 22) ([.box (plC p)]) := by
 exact (RoundRun.of_eval (sp := ⟨[1, 5], [0], []⟩) (n0 := 1) (ex := Ex.exit (2 : Nat)) (t' := (uu :: .ptr false 0 0 :: uu :: uu :: uu :: .int .i64 (↑i : Int) :: un 22)) (s' := [.box (plC p)]) mixed [tC (by ((try simp only [sl2] at *); (try unfold big at *); omega) : (decide ((↑k : Int) < (↑i : Int))) = false)] (by kernel_rfl)).cast (by rfl) (by rfl)
theorem ap_hit (p : PlS) (i k : Nat) (i1 : (i : Int) ≤ 10) (k1 : (k : Int) < (i : Int)) (ha : (p.k (i : Int) == 0) = false) (hb : (p.k (i : Int) == p.k (k : Int)) = true) (hc : (p.n (i : Int) == p.n (k : Int)) = true)  : RoundRun Tryz.prog (loopB Tryz.f25 1) ⟨[2], [0], []⟩ 1 (uu :: .ptr false 0 0 :: uu :: .int .i64 (↑i : Int) :: .int .i64 (↑k : Int) :: .int .i64 (↑i : Int) :: un 22) [.box (plC p)] (Ex.ret) (uu :: uu :: .bool false :: un 25) ([.box (plC p)]) := by
 exact (RoundRun.of_eval (sp := ⟨[2], [0], []⟩) (n0 := 1) (ex := Ex.ret) (t' := (uu :: uu :: .bool false :: un 25)) (s' := [.box (plC p)]) mixed [tC (by ((try simp only [sl2] at *); (try unfold big at *); omega) : (decide ((↑k : Int) < (↑i : Int))) = true), .tst (decide (0 ≤ (↑i : Int) ∧ (↑i : Int) < (↑(11 : Nat) : Int))) true (by ((try simp only [sl2] at *); (try unfold big at *); omega)), .get _ _ _ (@getpk p ((↑i : Int)) ([]) (by ((try simp only [sl2] at *); (try unfold big at *); omega)) i1), tC (eT (nt ha)), tC (eT (nt ha)), .tst (decide (0 ≤ (↑i : Int) ∧ (↑i : Int) < (↑(11 : Nat) : Int))) true (by ((try simp only [sl2] at *); (try unfold big at *); omega)), tC (eT (nt ha)), .getA _ _ _ _ (@getp p ((↑i : Int)) ([]) (by ((try simp only [sl2] at *); (try unfold big at *); omega)) i1), tC (eT (nt ha)), tC (eT (nt ha)), .tst (decide (0 ≤ (↑k : Int) ∧ (↑k : Int) < (↑(11 : Nat) : Int))) true (by ((try simp only [sl2] at *); (try unfold big at *); omega)), tC (eT (nt ha)), .getA _ _ _ _ (@getp p ((↑k : Int)) ([]) (by ((try simp only [sl2] at *); (try unfold big at *); omega)) (by ((try simp only [sl2] at *); (try unfold big at *); omega))), tC (eT (nt ha)), .flat _ _ flat_Place, tC (nt ha), tC (andT hb (andT hc (rfl : true = true)))] (by kernel_rfl)).cast (by rfl) (by rfl)
theorem ap_z (p : PlS) (i k : Nat) (i1 : (i : Int) ≤ 10) (k1 : (k : Int) < (i : Int)) (ha : (p.k (i : Int) == 0) = true)  : RoundRun Tryz.prog (loopB Tryz.f25 1) ⟨[1, 3, 4, 5], [0], []⟩ 1 (uu :: .ptr false 0 0 :: uu :: .int .i64 (↑i : Int) :: .int .i64 (↑k : Int) :: .int .i64 (↑i : Int) :: un 22) [.box (plC p)] .norm (uu :: .ptr false 0 0 :: uu :: .int .i64 (↑i : Int) :: .int .i64 (IntKind.i64.wrap ((↑k : Int) + 1)) :: .int .i64 (↑i : Int) :: un 22) ([.box (plC p)]) := by
 exact (RoundRun.of_eval (sp := ⟨[1, 3, 4, 5], [0], []⟩) (n0 := 1) (ex := Ex.norm) (t' := (uu :: .ptr false 0 0 :: uu :: .int .i64 (↑i : Int) :: .int .i64 (IntKind.i64.wrap ((↑k : Int) + 1)) :: .int .i64 (↑i : Int) :: un 22)) (s' := [.box (plC p)]) mixed ([tC (by ((try simp only [sl2] at *); (try unfold big at *); omega) : (decide ((↑k : Int) < (↑i : Int))) = true), .tst (decide (0 ≤ (↑i : Int) ∧ (↑i : Int) < (↑(11 : Nat) : Int))) true (by ((try simp only [sl2] at *); (try unfold big at *); omega)), .get _ _ _ (@getpk p ((↑i : Int)) ([]) (by ((try simp only [sl2] at *); (try unfold big at *); omega)) i1)] ++ List.replicate 7 (tC (eT (nt (eqI 0 true (eq_of_beq ha))))) ++ [tC (nt (eqI 0 true (eq_of_beq ha))), tF]) (by kernel_rfl)).cast (by rfl) (by rfl)
theorem ap_k (p : PlS) (i k : Nat) (i1 : (i : Int) ≤ 10) (k1 : (k : Int) < (i : Int)) (ha : (p.k (i : Int) == 0) = false) (hb : (p.k (i : Int) == p.k (k : Int)) = false)  : RoundRun Tryz.prog (loopB Tryz.f25 1) ⟨[1, 3, 4, 5], [0], []⟩ 1 (uu :: .ptr false 0 0 :: uu :: .int .i64 (↑i : Int) :: .int .i64 (↑k : Int) :: .int .i64 (↑i : Int) :: un 22) [.box (plC p)] .norm (uu :: .ptr false 0 0 :: uu :: .int .i64 (↑i : Int) :: .int .i64 (IntKind.i64.wrap ((↑k : Int) + 1)) :: .int .i64 (↑i : Int) :: un 22) ([.box (plC p)]) := by
 exact (RoundRun.of_eval (sp := ⟨[1, 3, 4, 5], [0], []⟩) (n0 := 1) (ex := Ex.norm) (t' := (uu :: .ptr false 0 0 :: uu :: .int .i64 (↑i : Int) :: .int .i64 (IntKind.i64.wrap ((↑k : Int) + 1)) :: .int .i64 (↑i : Int) :: un 22)) (s' := [.box (plC p)]) mixed [tC (by ((try simp only [sl2] at *); (try unfold big at *); omega) : (decide ((↑k : Int) < (↑i : Int))) = true), .tst (decide (0 ≤ (↑i : Int) ∧ (↑i : Int) < (↑(11 : Nat) : Int))) true (by ((try simp only [sl2] at *); (try unfold big at *); omega)), .get _ _ _ (@getpk p ((↑i : Int)) ([]) (by ((try simp only [sl2] at *); (try unfold big at *); omega)) i1), tC (eT (nt ha)), tC (eT (nt ha)), .tst (decide (0 ≤ (↑i : Int) ∧ (↑i : Int) < (↑(11 : Nat) : Int))) true (by ((try simp only [sl2] at *); (try unfold big at *); omega)), tC (eT (nt ha)), .getA _ _ _ _ (@getp p ((↑i : Int)) ([]) (by ((try simp only [sl2] at *); (try unfold big at *); omega)) i1), tC (eT (nt ha)), tC (eT (nt ha)), .tst (decide (0 ≤ (↑k : Int) ∧ (↑k : Int) < (↑(11 : Nat) : Int))) true (by ((try simp only [sl2] at *); (try unfold big at *); omega)), tC (eT (nt ha)), .getA _ _ _ _ (@getp p ((↑k : Int)) ([]) (by ((try simp only [sl2] at *); (try unfold big at *); omega)) (by ((try simp only [sl2] at *); (try unfold big at *); omega))), tC (eT (nt ha)), .flat _ _ flat_Place, tC (nt ha), tC (andF (y := eqCells [.int .i8 (PlS.n p (↑i : Int))] [.int .i8 (PlS.n p (↑k : Int))]) hb)] (by kernel_rfl)).cast (by rfl) (by rfl)
theorem ap_n (p : PlS) (i k : Nat) (i1 : (i : Int) ≤ 10) (k1 : (k : Int) < (i : Int)) (ha : (p.k (i : Int) == 0) = false) (hb : (p.k (i : Int) == p.k (k : Int)) = true) (hc : (p.n (i : Int) == p.n (k : Int)) = false)  : RoundRun Tryz.prog (loopB Tryz.f25 1) ⟨[1, 3, 4, 5], [0], []⟩ 1 (uu :: .ptr false 0 0 :: uu :: .int .i64 (↑i : Int) :: .int .i64 (↑k : Int) :: .int .i64 (↑i : Int) :: un 22) [.box (plC p)] .norm (uu :: .ptr false 0 0 :: uu :: .int .i64 (↑i : Int) :: .int .i64 (IntKind.i64.wrap ((↑k : Int) + 1)) :: .int .i64 (↑i : Int) :: un 22) ([.box (plC p)]) := by
 exact (RoundRun.of_eval (sp := ⟨[1, 3, 4, 5], [0], []⟩) (n0 := 1) (ex := Ex.norm) (t' := (uu :: .ptr false 0 0 :: uu :: .int .i64 (↑i : Int) :: .int .i64 (IntKind.i64.wrap ((↑k : Int) + 1)) :: .int .i64 (↑i : Int) :: un 22)) (s' := [.box (plC p)]) mixed [tC (by ((try simp only [sl2] at *); (try unfold big at *); omega) : (decide ((↑k : Int) < (↑i : Int))) = true), .tst (decide (0 ≤ (↑i : Int) ∧ (↑i : Int) < (↑(11 : Nat) : Int))) true (by ((try simp only [sl2] at *); (try unfold big at *); omega)), .get _ _ _ (@getpk p ((↑i : Int)) ([]) (by ((try simp only [sl2] at *); (try unfold big at *); omega)) i1), tC (eT (nt ha)), tC (eT (nt ha)), .tst (decide (0 ≤ (↑i : Int) ∧ (↑i : Int) < (↑(11 : Nat) : Int))) true (by ((try simp only [sl2] at *); (try unfold big at *); omega)), tC (eT (nt ha)), .getA _ _ _ _ (@getp p ((↑i : Int)) ([]) (by ((try simp only [sl2] at *); (try unfold big at *); omega)) i1), tC (eT (nt ha)), tC (eT (nt ha)), .tst (decide (0 ≤ (↑k : Int) ∧ (↑k : Int) < (↑(11 : Nat) : Int))) true (by ((try simp only [sl2] at *); (try unfold big at *); omega)), tC (eT (nt ha)), .getA _ _ _ _ (@getp p ((↑k : Int)) ([]) (by ((try simp only [sl2] at *); (try unfold big at *); omega)) (by ((try simp only [sl2] at *); (try unfold big at *); omega))), tC (eT (nt ha)), .flat _ _ flat_Place, tC (nt ha), tC (andT hb (andF (y := true) hc))] (by kernel_rfl)).cast (by rfl) (by rfl)
end Go.Proofs.YtkpneibifdoecaaGreat
namespace Go.Ev
open Go
def topM (v w : Int) : Bool := IntKind.u64.wrap ((BitVec.ofInt 64 (v.fdiv (2 ^ (min (IntKind.i8.wrap (w - 1)).toNat 64))) &&& BitVec.ofInt 64 1).toNat : Int) == 1
def EqBut (o : Int) (r r' : RgS) : Prop := ∀ k, 0 ≤ k → k ≤ 10 → k ≠ o → r.get k = r'.get k
end Go.Ev
