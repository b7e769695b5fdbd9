/- Contracts and plain laws that a statement's proof leans on (texts merged: MdC, Base, MdZ, MdM, Az, XOf, XOfA, XMay0). -/
import Derived.Test.YtcngafhpodeenaaProg
import Derived.Laws.Strings
import Derived.Test.YtcngafhpodeenaaP04
set_option linter.unusedVariables false
set_option linter.unusedSimpArgs false
set_option maxRecDepth 100000
set_option maxHeartbeats 8000000
namespace Go.Ev
open Go
abbrev instD (kind op width size : Int) (byReg : Bool) (dst src off imm : Int) : D :=
  .agg [.int .i8 kind, .int .i8 op, .int .i8 width, .int .i8 size, .bool byReg, .int .i8 dst, .int .i8 src, .int .i64 off, .int .i64 imm]
def mayRange (dst src off imm : Int) : Bool := decide (0 ≤ dst ∧ dst ≤ 10 ∧ 0 ≤ src ∧ src ≤ 10 ∧ -32768 ≤ off ∧ off ≤ 32767 ∧ -2147483648 ≤ imm ∧ imm ≤ 2147483647)
def sizedM (n : Int) : Bool := decide (n = 1 ∨ n = 2 ∨ n = 4 ∨ n = 8)
def mayKind (kind op width size : Int) (byReg : Bool) (dst src off imm : Int) : Bool :=
  if kind = 0 then decide (0 ≤ op ∧ op ≤ 12 ∧ (width = 32 ∨ width = 64) ∧ dst < 10 ∧ size = 0 ∧ off = 0) && (if byReg then decide (op ≠ 8 ∧ imm = 0) else decide (src = 0 ∧ (op = 8 → imm = 0)))
  else if kind = 1 then sizedM size && decide (dst < 10 ∧ op = 0 ∧ width = 0 ∧ imm = 0) && !byReg
  else if kind = 2 then sizedM size && decide (op = 0 ∧ width = 0 ∧ imm = 0) && !byReg
  else if kind = 3 then decide (0 ≤ op ∧ op ≤ 10 ∧ width = 0 ∧ size = 0) && (if byReg then decide (imm = 0) else decide (src = 0))
  else if kind = 4 then decide (op = 0 ∧ width = 0 ∧ size = 0 ∧ dst = 0 ∧ src = 0 ∧ imm = 0) && !byReg
  else if kind = 5 then decide (op = 0 ∧ width = 0 ∧ size = 0 ∧ dst = 0 ∧ src = 0 ∧ off = 0 ∧ 0 ≤ imm ∧ imm ≤ 15) && !byReg
  else if kind = 6 then decide (op = 0 ∧ width = 0 ∧ size = 0 ∧ dst = 0 ∧ src = 0 ∧ off = 0 ∧ imm = 0) && !byReg
  else false
def mayM (kind op width size : Int) (byReg : Bool) (dst src off imm : Int) : Bool := mayRange dst src off imm && mayKind kind op width size byReg dst src off imm
def fOp (kind op : Int) : Int := if kind = 0 ∨ kind = 3 then op else 0
def fWidth (kind width : Int) : Int := if kind = 0 then width else 0
def fSize (kind size : Int) : Int := if kind = 1 ∨ kind = 2 then size else 0
def fByReg (kind op : Int) (byReg : Bool) : Bool := if kind = 0 then byReg && decide (op ≠ 8) else if kind = 3 then byReg else false
def fDst (kind dst : Int) : Int := if kind = 0 ∨ kind = 1 ∨ kind = 2 ∨ kind = 3 then dst else 0
def fSrc (kind op : Int) (byReg : Bool) (src : Int) : Int := if kind = 0 then (if byReg && decide (op ≠ 8) then src else 0) else if kind = 1 ∨ kind = 2 then src else if kind = 3 then (if byReg then src else 0) else 0
def fOff (kind off : Int) : Int := if kind = 1 ∨ kind = 2 ∨ kind = 3 ∨ kind = 4 then off else 0
def fImm (kind op : Int) (byReg : Bool) (imm : Int) : Int := if kind = 0 then (if byReg || decide (op = 8) then 0 else imm) else if kind = 3 then (if byReg then 0 else imm) else if kind = 5 then imm else 0
abbrev xD (op w dst src base disp imm cc : Int) : D :=
  .agg [.int .i8 op, .int .i8 w, .int .i8 dst, .int .i8 src, .int .i8 base, .int .i64 disp, .int .i64 imm, .int .i8 cc]
abbrev irD (kind op w dst src base disp imm cc reg phys num to : Int) : D :=
  .agg [.int .i8 kind, .int .i8 op, .int .i8 w, .int .i8 dst, .int .i8 src, .int .i8 base, .int .i64 disp, .int .i64 imm, .int .i8 cc, .int .i8 reg, .int .i8 phys, .int .i64 num, .int .i64 to]
abbrev takeD (phys reg : Int) : D := irD 1 0 0 0 0 0 0 0 0 reg phys 0 0
abbrev giveD (reg phys : Int) : D := irD 2 0 0 0 0 0 0 0 0 reg phys 0 0
abbrev two (op w dst src : Int) : D := irD 0 op w dst src 0 0 0 0 0 0 0 0
abbrev num (op w dst n : Int) : D := irD 0 op w dst 0 0 0 n 0 0 0 0 0
abbrev cmov (w dst : Int) : D := irD 0 25 w dst 11 0 0 0 4 0 0 0 0
def zeroImm (width imm : Int) : Bool := if width = 32 then decide (imm % 4294967296 = 0) else decide (imm = 0)
def regOp (op : Int) : Int := if op = 0 then 2 else if op = 1 then 5 else if op = 4 then 3 else if op = 5 then 4 else if op = 10 then 6 else if op = 6 then 20 else if op = 7 then 21 else 22
def immOp (op : Int) : Int := if op = 0 then 9 else if op = 1 then 12 else if op = 4 then 10 else if op = 5 then 11 else if op = 10 then 13 else if op = 6 then 17 else if op = 7 then 18 else 19
def aluM (op width : Int) (byReg : Bool) (dst src imm : Int) : List D :=
  if op = 3 ∨ op = 9 then
    (if byReg then
      [takeD 0 dst, takeD 1 src, num 1 32 2 0, num 1 32 11 1, two 8 width 1 1, cmov width 1, two 24 width 1 0, takeD 1 src] ++
        (if op = 3 then [num 1 32 11 0, two 8 width 1 1, cmov width 0, giveD dst 0] else [takeD 11 dst, two 8 width 1 1, cmov width 2, giveD dst 2])
    else if zeroImm width imm then
      (if op = 3 then [num 1 width 0 0, giveD dst 0] else if width = 32 then [takeD 0 dst, two 0 32 0 0, giveD dst 0] else [takeD 0 dst, giveD dst 0])
    else [takeD 0 dst, num 1 width 1 imm, num 1 32 2 0, two 24 width 1 0, giveD dst (if op = 3 then 0 else 2)])
  else if op = 2 then (if byReg then [takeD 0 dst, takeD 1 src, two 16 width 0 1, giveD dst 0] else [takeD 0 dst, num 1 width 1 imm, two 16 width 0 1, giveD dst 0])
  else if op = 8 then [takeD 0 dst, two 23 width 0 0, giveD dst 0]
  else if op = 11 then (if byReg then (if width = 32 then [takeD 0 src, two 0 32 0 0, giveD dst 0] else [takeD 0 src, giveD dst 0]) else [num 1 width 0 imm, giveD dst 0])
  else if op = 6 ∨ op = 7 ∨ op = 12 then (if byReg then [takeD 0 dst, takeD 1 src, two (regOp op) width 0 0, giveD dst 0] else [takeD 0 dst, num (immOp op) width 0 (imm % width), giveD dst 0])
  else (if byReg then [takeD 0 dst, takeD 1 src, two (regOp op) width 0 1, giveD dst 0] else [takeD 0 dst, num (immOp op) width 0 imm, giveD dst 0])
def stepsM (kind op width size : Int) (byReg : Bool) (dst src off imm : Int) : List D :=
  if kind = 0 then aluM op width byReg dst src imm
  else if kind = 1 then [takeD 1 src, irD 0 26 (8 * size) 0 0 1 off 0 0 0 0 0 0, giveD dst 0]
  else if kind = 2 then [takeD 1 dst, takeD 0 src, irD 0 27 (8 * size) 0 0 1 off 0 0 0 0 0 0]
  else if kind = 5 then [irD 3 0 0 0 0 0 0 0 0 0 0 imm 0, giveD 0 0, num 1 32 1 0, giveD 1 1, giveD 2 1, giveD 3 1, giveD 4 1, giveD 5 1]
  else if kind = 6 then [irD 6 0 0 0 0 0 0 0 0 0 0 0 0]
  else []
theorem w_u8 (n : Int) : IntKind.u8.wrap n = n % 256 := by simp [IntKind.wrap, IntKind.bits, IntKind.signed]
theorem w_u64 (n : Int) : IntKind.u64.wrap n = n % 18446744073709551616 := by simp [IntKind.wrap, IntKind.bits, IntKind.signed]
theorem w_i8 (n : Int) : IntKind.i8.wrap n = (n + 128) % 256 - 128 := by simp only [IntKind.wrap, IntKind.bits, IntKind.signed]; simp; split <;> omega
theorem w_i64 (n : Int) : IntKind.i64.wrap n = (n + 9223372036854775808) % 18446744073709551616 - 9223372036854775808 := by simp only [IntKind.wrap, IntKind.bits, IntKind.signed]; simp; split <;> omega
theorem toNat_ofInt (w : Nat) (a : Int) : (BitVec.ofInt w a).toNat = (a % (2 ^ w : Nat)).toNat := by simp [BitVec.toNat_ofInt]
theorem and_ones (w k : Nat) (hk : k ≤ w) (a : Int) : ((BitVec.ofInt w a &&& BitVec.ofInt w ((2 ^ k - 1 : Nat) : Int)).toNat : Int) = a % (2 ^ k : Nat) := by
 have hp : 0 < 2 ^ k := Nat.two_pow_pos k
 have hle : 2 ^ k ≤ 2 ^ w := Nat.pow_le_pow_right (by omega) hk
 have e2 : (((2 ^ k - 1 : Nat) : Int) % ((2 ^ w : Nat) : Int)).toNat = 2 ^ k - 1 := by
  rw [Int.emod_eq_of_lt (by omega) (by omega)]
  omega
 rw [BitVec.toNat_and, toNat_ofInt, toNat_ofInt, e2, Nat.and_two_pow_sub_one_eq_mod]
 have h0 : 0 ≤ a % ((2 ^ w : Nat) : Int) := Int.emod_nonneg _ (by omega)
 have h1 : ((a % ((2 ^ w : Nat) : Int)).toNat : Int) = a % ((2 ^ w : Nat) : Int) := Int.toNat_of_nonneg h0
 rw [Int.natCast_emod, h1]
 have hd : ((2 ^ k : Nat) : Int) ∣ ((2 ^ w : Nat) : Int) := by
  rw [Int.natCast_dvd_natCast]; exact Nat.pow_dvd_pow 2 hk
 exact Int.emod_emod_of_dvd a hd
structure XS where
  op : Int
  w : Int
  dst : Int
  src : Int
  base : Int
  disp : Int
  imm : Int
  cc : Int
deriving DecidableEq
def XS.d (x : XS) : D := xD x.op x.w x.dst x.src x.base x.disp x.imm x.cc
structure IrS where
  kind : Int
  op : Int
  w : Int
  dst : Int
  src : Int
  base : Int
  disp : Int
  imm : Int
  cc : Int
  reg : Int
  phys : Int
  num : Int
  to : Int
deriving DecidableEq
def IrS.d (x : IrS) : D := irD x.kind x.op x.w x.dst x.src x.base x.disp x.imm x.cc x.reg x.phys x.num x.to
structure InstS where
  kind : Int
  op : Int
  width : Int
  size : Int
  byReg : Bool
  dst : Int
  src : Int
  off : Int
  imm : Int
deriving DecidableEq
def InstS.d (x : InstS) : D := instD x.kind x.op x.width x.size x.byReg x.dst x.src x.off x.imm
abbrev irC (kind op w dst src base disp imm cc reg phys num to : Int) : List D :=
  [.int .i8 kind, .int .i8 op, .int .i8 w, .int .i8 dst, .int .i8 src, .int .i8 base, .int .i64 disp, .int .i64 imm, .int .i8 cc, .int .i8 reg, .int .i8 phys, .int .i64 num, .int .i64 to]
def sh1 (n : Int) : Int := IntKind.i64.wrap (1 * 2 ^ (min (IntKind.u64.wrap n).toNat IntKind.i64.bits))
def sh8 (n : Int) : Int := IntKind.i64.wrap (1 * 2 ^ (min n.toNat IntKind.i64.bits))
def or64 (a b : Int) : Int := IntKind.i64.wrap ((BitVec.ofInt IntKind.i64.bits a ||| BitVec.ofInt IntKind.i64.bits b).toNat : Int)
def andNot64 (a b : Int) : Int := IntKind.i64.wrap ((BitVec.ofInt IntKind.i64.bits a &&& ~~~BitVec.ofInt IntKind.i64.bits b).toNat : Int)
end Go.Ev
namespace Go.Proofs.Ytcngafhpodeenaa
open Go Go.Ev
theorem mixed : Try.prog.follows .mixedOrders = true := by kernel_rfl
theorem flat_X : FlatEq Try.prog 37 [.int .i8, .int .i8, .int .i8, .int .i8, .int .i8, .int .i64, .int .i64, .int .i8] := FlatEq.of_flat (d := 5) (by kernel_rfl) (by kernel_rfl) (by kernel_rfl) (by kernel_rfl)
theorem flat_Ir : FlatEq Try.prog 64 [.int .i8, .int .i8, .int .i8, .int .i8, .int .i8, .int .i8, .int .i64, .int .i64, .int .i8, .int .i8, .int .i8, .int .i64, .int .i64] := FlatEq.of_flat (d := 5) (by kernel_rfl) (by kernel_rfl) (by kernel_rfl) (by kernel_rfl)
end Go.Proofs.Ytcngafhpodeenaa
namespace Go.Ev
open Go
def shapeM (op : Int) : Int :=
  if op = 0 ∨ (2 ≤ op ∧ op ≤ 8) then 1
  else if op = 16 then 2
  else if op = 1 ∨ (9 ≤ op ∧ op ≤ 15) then 3
  else if 17 ≤ op ∧ op ≤ 19 then 4
  else if 20 ≤ op ∧ op ≤ 24 then 5
  else if op = 25 then 6
  else if op = 26 then 7
  else if op = 27 then 8
  else if op = 28 then 9
  else if op = 29 then 10
  else if op = 30 ∨ op = 31 then 11
  else 0
def codeM (op : Int) : Int :=
  if op = 0 then 0x89 else if op = 1 then 0xC7 else if op = 2 then 0x01 else if op = 3 then 0x09 else if op = 4 then 0x21 else if op = 5 then 0x29 else if op = 6 then 0x31 else if op = 7 then 0x39 else if op = 8 then 0x85
  else if 9 ≤ op ∧ op ≤ 14 then 0x81 else if op = 15 then 0xF7 else if op = 16 then 0xAF else if 17 ≤ op ∧ op ≤ 19 then 0xC1 else if 20 ≤ op ∧ op ≤ 22 then 0xD3 else if op = 23 ∨ op = 24 then 0xF7
  else if op = 25 then 0x40 else if op = 26 then 0x8B else if op = 27 then 0x89 else if op = 28 then 0xE9 else if op = 29 then 0x80 else if op = 30 then 0xC3 else if op = 31 then 0x05 else 0
def numM (op : Int) : Int :=
  if op = 10 then 1 else if op = 11 ∨ op = 17 ∨ op = 20 then 4 else if op = 12 ∨ op = 18 ∨ op = 21 then 5 else if op = 13 ∨ op = 24 then 6 else if op = 14 ∨ op = 19 ∨ op = 22 then 7 else if op = 23 then 3 else 0
def classM (op : Int) : Int :=
  if shapeM op = 1 ∨ shapeM op = 2 then 1 else if shapeM op = 0 then 0 else shapeM op - 1
def regM (n : Int) : Bool := decide (0 ≤ n ∧ n ≤ 15)
def ccM (n : Int) : Bool := decide ((2 ≤ n ∧ n ≤ 7) ∨ (12 ≤ n ∧ n ≤ 15))
def longM (w : Int) : Bool := decide (w = 32 ∨ w = 64)
def widthM (w : Int) : Bool := decide (w = 8 ∨ w = 16 ∨ w = 32 ∨ w = 64)
def jumpM (w imm : Int) : Bool := decide (w = 32 ∨ (w = 8 ∧ -128 ≤ imm ∧ imm ≤ 127))
def mayS (sh w dst src base disp imm cc : Int) : Bool :=
  if sh = 1 ∨ sh = 2 then longM w && decide (base = 0 ∧ disp = 0 ∧ imm = 0 ∧ cc = 0)
  else if sh = 3 then longM w && decide (src = 0 ∧ base = 0 ∧ disp = 0 ∧ cc = 0)
  else if sh = 4 then longM w && decide (src = 0 ∧ base = 0 ∧ disp = 0 ∧ cc = 0 ∧ 0 ≤ imm ∧ imm < w)
  else if sh = 5 then longM w && decide (src = 0 ∧ base = 0 ∧ disp = 0 ∧ imm = 0 ∧ cc = 0)
  else if sh = 6 then longM w && decide (base = 0 ∧ disp = 0 ∧ imm = 0) && ccM cc
  else if sh = 7 then widthM w && decide (src = 0 ∧ imm = 0 ∧ cc = 0)
  else if sh = 8 then widthM w && decide (dst = 0 ∧ imm = 0 ∧ cc = 0)
  else if sh = 9 then jumpM w imm && decide (dst = 0 ∧ src = 0 ∧ base = 0 ∧ disp = 0 ∧ cc = 0)
  else if sh = 10 then jumpM w imm && decide (dst = 0 ∧ src = 0 ∧ base = 0 ∧ disp = 0) && ccM cc
  else if sh = 11 then decide (w = 0 ∧ dst = 0 ∧ src = 0 ∧ base = 0 ∧ disp = 0 ∧ imm = 0 ∧ cc = 0)
  else false
def mayX (op w dst src base disp imm cc : Int) : Bool :=
  regM dst && regM src && regM base && decide (-2147483648 ≤ disp ∧ disp ≤ 2147483647) && decide (-2147483648 ≤ imm ∧ imm ≤ 2147483647) && mayS (shapeM op) w dst src base disp imm cc
def fourM (n : Int) : List Int := [n % 256, n / 256 % 256, n / 65536 % 256, n / 16777216 % 256]
def rexB (wide : Bool) (r m : Int) : Int := 64 + (if wide then 8 else 0) + 4 * (r / 8) + m / 8
def needM (wide : Bool) (r m : Int) (always : Bool) : Bool := wide || always || decide (8 ≤ r ∨ 8 ≤ m)
def rexM (wide : Bool) (r m : Int) (always : Bool) : List Int := if needM wide r m always then [rexB wide r m] else []
def regsM (r m : Int) : Int := 192 + 8 * (r % 8) + m % 8
def memM (r b disp : Int) : List Int := if b % 8 = 4 then (128 + 8 * (r % 8) + b % 8) :: 36 :: fourM disp else (128 + 8 * (r % 8) + b % 8) :: fourM disp
def bytesM (op w dst src base disp imm cc : Int) : List Int :=
  let sh := shapeM op
  let wide := decide (w = 64)
  if sh = 1 then rexM wide src dst false ++ [codeM op, regsM src dst]
  else if sh = 2 then rexM wide dst src false ++ [15, codeM op, regsM dst src]
  else if sh = 6 then rexM wide dst src false ++ [15, 64 + cc, regsM dst src]
  else if sh = 3 then (if op = 1 ∧ w = 32 then rexM false 0 dst false ++ ((184 + dst % 8) :: fourM imm) else rexM wide 0 dst false ++ (codeM op :: regsM (numM op) dst :: fourM imm))
  else if sh = 4 then rexM wide 0 dst false ++ [codeM op, regsM (numM op) dst, imm % 256]
  else if sh = 5 then rexM wide 0 dst false ++ [codeM op, regsM (numM op) dst]
  else if sh = 7 then rexM wide dst base false ++ ((if w = 8 then [15, 182] else if w = 16 then [15, 183] else [139]) ++ memM dst base disp)
  else if sh = 8 then (if w = 16 then [102] else []) ++ (rexM wide src base (decide (w = 8)) ++ ((if w = 8 then [136] else [137]) ++ memM src base disp))
  else if sh = 9 then (if w = 8 then [235, imm % 256] else 233 :: fourM imm)
  else if sh = 10 then (if w = 8 then [112 + cc, imm % 256] else 15 :: (128 + cc) :: fourM imm)
  else if op = 31 then [15, 5]
  else [195]
def bD (l : List Int) : List D := l.map fun n => .int .u8 n
def bytesL (op w dst src base disp imm cc : Int) : List D := if mayX op w dst src base disp imm cc then bD (bytesM op w dst src base disp imm cc) else []
def bytesE (op w dst src base disp imm cc : Int) : Int := if mayX op w dst src base disp imm cc then 0 else 2
def signed4 (a b c d : Int) : Int := (a + 256 * b + 65536 * c + 16777216 * d + 2147483648) % 4294967296 - 2147483648
def signed1 (a : Int) : Int := (a + 128) % 256 - 128
theorem mayX_parts {op w dst src base disp imm cc : Int} (h : mayX op w dst src base disp imm cc = true) :
  (0 ≤ dst ∧ dst ≤ 15 ∧ 0 ≤ src ∧ src ≤ 15 ∧ 0 ≤ base ∧ base ≤ 15 ∧ -2147483648 ≤ disp ∧ disp ≤ 2147483647 ∧ -2147483648 ≤ imm ∧ imm ≤ 2147483647) ∧ mayS (shapeM op) w dst src base disp imm cc = true := by
 simp only [mayX, regM, Bool.and_eq_true, decide_eq_true_eq] at h
 exact ⟨by omega, h.2⟩
theorem shape_ops {op : Int} (h : shapeM op ≠ 0) : op = 0 ∨ op = 1 ∨ op = 2 ∨ op = 3 ∨ op = 4 ∨ op = 5 ∨ op = 6 ∨ op = 7 ∨ op = 8 ∨ op = 9 ∨ op = 10 ∨ op = 11 ∨ op = 12 ∨ op = 13 ∨ op = 14 ∨ op = 15 ∨ op = 16 ∨ op = 17 ∨ op = 18 ∨ op = 19 ∨ op = 20 ∨ op = 21 ∨ op = 22 ∨ op = 23 ∨ op = 24 ∨ op = 25 ∨ op = 26 ∨ op = 27 ∨ op = 28 ∨ op = 29 ∨ op = 30 ∨ op = 31 := by
 by_cases h2 : 0 ≤ op ∧ op ≤ 31
 ·omega
 ·refine absurd ?_ h
  unfold shapeM
  repeat (rw [if_neg (by omega)])
def rd4 : List Int → Int
  | a :: b :: c :: d :: _ => signed4 a b c d
  | _ => 0
def hd (l : List Int) : Int := l.headD 0
def ops32 : List Int := [0, 1, 2, 3, 4, 5, 6, 7, 8, 9, 10, 11, 12, 13, 14, 15, 16, 17, 18, 19, 20, 21, 22, 23, 24, 25, 26, 27, 28, 29, 30, 31]
def findOp (p : Int → Bool) : Int := (ops32.find? p).getD (-1)
def opPairs (c : Int) : Int := findOp fun o => decide (shapeM o = 1 ∧ codeM o = c)
def opGroup (c k : Int) : Int := findOp fun o => decide ((shapeM o = 3 ∨ shapeM o = 4 ∨ shapeM o = 5) ∧ codeM o = c ∧ numM o = k)
def preM : List Int → Bool × Int × Int × List Int
  | h :: t => if 64 ≤ h ∧ h ≤ 79 then (decide (72 ≤ h), (h - 64) / 4 % 2, (h - 64) % 2, t) else (false, 0, 0, h :: t)
  | [] => (false, 0, 0, [])
def behM (t : List Int) : List Int := if hd t % 8 = 4 then t.drop 2 else t.drop 1
def dec2 (wide : Bool) (r m c : Int) (t : List Int) : XS :=
  let w := if wide then 64 else 32
  let reg := hd t / 8 % 8 + 8 * r
  let rm := hd t % 8 + 8 * m
  if c = 175 then ⟨16, w, reg, rm, 0, 0, 0, 0⟩
  else if 64 ≤ c ∧ c ≤ 79 then ⟨25, w, reg, rm, 0, 0, 0, c - 64⟩
  else if 128 ≤ c ∧ c ≤ 143 then ⟨29, 32, 0, 0, 0, 0, rd4 t, c - 128⟩
  else if c = 182 then ⟨26, 8, reg, 0, rm, rd4 (behM t), 0, 0⟩
  else if c = 183 then ⟨26, 16, reg, 0, rm, rd4 (behM t), 0, 0⟩
  else ⟨31, 0, 0, 0, 0, 0, 0, 0⟩
def dec1 (half wide : Bool) (r m c : Int) (t : List Int) : XS :=
  let w := if wide then 64 else 32
  let reg := hd t / 8 % 8 + 8 * r
  let rm := hd t % 8 + 8 * m
  if c = 15 then dec2 wide r m (hd t) (t.drop 1)
  else if 184 ≤ c ∧ c ≤ 191 then ⟨1, 32, c - 184 + 8 * m, 0, 0, 0, rd4 t, 0⟩
  else if 112 ≤ c ∧ c ≤ 127 then ⟨29, 8, 0, 0, 0, 0, signed1 (hd t), c - 112⟩
  else if c = 235 then ⟨28, 8, 0, 0, 0, 0, signed1 (hd t), 0⟩
  else if c = 233 then ⟨28, 32, 0, 0, 0, 0, rd4 t, 0⟩
  else if c = 195 then ⟨30, 0, 0, 0, 0, 0, 0, 0⟩
  else if c = 139 then ⟨26, w, reg, 0, rm, rd4 (behM t), 0, 0⟩
  else if c = 136 then ⟨27, 8, 0, reg, rm, rd4 (behM t), 0, 0⟩
  else if c = 137 ∧ hd t < 192 then ⟨27, if half then 16 else w, 0, reg, rm, rd4 (behM t), 0, 0⟩
  else if opPairs c ≠ -1 then ⟨opPairs c, w, rm, reg, 0, 0, 0, 0⟩
  else
    let o := opGroup c (hd t / 8 % 8)
    if shapeM o = 3 then ⟨o, w, rm, 0, 0, 0, rd4 (t.drop 1), 0⟩
    else if shapeM o = 4 then ⟨o, w, rm, 0, 0, 0, hd (t.drop 1), 0⟩
    else ⟨o, w, rm, 0, 0, 0, 0, 0⟩
def decR (half : Bool) (p : Bool × Int × Int × List Int) : XS := dec1 half p.1 p.2.1 p.2.2.1 (hd p.2.2.2) (p.2.2.2.drop 1)
def decM (l : List Int) : XS := if hd l = 102 then decR true (preM (l.drop 1)) else decR false (preM l)
theorem op_fin {op : Int} (h : shapeM op ≠ 0) : ∃ n : Fin 32, op = n.val := by
 have := shape_ops h
 exact ⟨⟨op.toNat, by omega⟩, by simp; omega⟩
theorem long_cases {w : Int} (h : longM w = true) : w = 32 ∨ w = 64 := by simpa [longM] using h
theorem shape_6 : ∀ n : Fin 32, shapeM (n.val : Int) = 6 → (n.val : Int) = 25 := by decide +kernel
theorem shape_7 : ∀ n : Fin 32, shapeM (n.val : Int) = 7 → (n.val : Int) = 26 := by decide +kernel
theorem shape_8 : ∀ n : Fin 32, shapeM (n.val : Int) = 8 → (n.val : Int) = 27 := by decide +kernel
theorem shape_9 : ∀ n : Fin 32, shapeM (n.val : Int) = 9 → (n.val : Int) = 28 := by decide +kernel
theorem shape_10 : ∀ n : Fin 32, shapeM (n.val : Int) = 10 → (n.val : Int) = 29 := by decide +kernel
theorem shape_11 : ∀ n : Fin 32, shapeM (n.val : Int) = 11 → (n.val : Int) = 30 ∨ (n.val : Int) = 31 := by decide +kernel
theorem fin16 {d : Int} (h0 : 0 ≤ d) (h1 : d ≤ 15) : ∃ n : Fin 16, d = (n.val : Int) := ⟨⟨d.toNat, by omega⟩, by simp; omega⟩
theorem need_or {r m : Int} (r0 : 0 ≤ r) (r1 : r ≤ 15) (m0 : 0 ≤ m) (m1 : m ≤ 15) : (IntKind.i8.wrap ((BitVec.ofInt 8 (IntKind.i8.wrap ((BitVec.ofInt 8 r ||| BitVec.ofInt 8 m).toNat : Int)) &&& BitVec.ofInt 8 8).toNat : Int) != 0) = decide (8 ≤ r ∨ 8 ≤ m) := by
 obtain ⟨n, rfl⟩ := fin16 r0 r1
 obtain ⟨k, rfl⟩ := fin16 m0 m1
 clear r0 r1 m0 m1
 revert n k
 decide +kernel
theorem reg_yes {r : Int} (r0 : 0 ≤ r) (r1 : r ≤ 15) : regM r = true := by simp [regM, r0, r1]
theorem rex_raw0 {r m : Int} (r0 : 0 ≤ r) (r1 : r ≤ 15) (m0 : 0 ≤ m) (m1 : m ≤ 15) : IntKind.u8.wrap ((BitVec.ofInt 8 (IntKind.u8.wrap ((BitVec.ofInt 8 64 ||| BitVec.ofInt 8 (4 * (r / 8))).toNat : Int)) ||| BitVec.ofInt 8 (m / 8)).toNat : Int) = rexB false r m := by
 obtain ⟨n, rfl⟩ := fin16 r0 r1
 obtain ⟨k, rfl⟩ := fin16 m0 m1
 clear r0 r1 m0 m1
 revert n k
 decide +kernel
theorem rex_raw1 {r m : Int} (r0 : 0 ≤ r) (r1 : r ≤ 15) (m0 : 0 ≤ m) (m1 : m ≤ 15) : IntKind.u8.wrap ((BitVec.ofInt 8 (IntKind.u8.wrap ((BitVec.ofInt 8 (IntKind.u8.wrap ((BitVec.ofInt 8 64 ||| BitVec.ofInt 8 (4 * (r / 8))).toNat : Int)) ||| BitVec.ofInt 8 (m / 8)).toNat : Int)) ||| BitVec.ofInt 8 8).toNat : Int) = rexB true r m := by
 obtain ⟨n, rfl⟩ := fin16 r0 r1
 obtain ⟨k, rfl⟩ := fin16 m0 m1
 clear r0 r1 m0 m1
 revert n k
 decide +kernel
theorem and7 (a : Int) : ((BitVec.ofInt 8 a &&& BitVec.ofInt 8 7).toNat : Int) = a % 8 := by have := and_ones 8 3 (by omega) a; exact this
theorem sib_t {b : Int} (h : decide (b % 8 = 4) = true) : (IntKind.i8.wrap ((BitVec.ofInt 8 b &&& BitVec.ofInt 8 7).toNat : Int) == 4) = true := by
 rw [and7, w_i8]; simp at h ⊢; omega
theorem sib_f {b : Int} (h : decide (b % 8 = 4) = false) : (IntKind.i8.wrap ((BitVec.ofInt 8 b &&& BitVec.ofInt 8 7).toNat : Int) == 4) = false := by
 rw [and7, w_i8]; simp at h ⊢; omega
theorem fd1 (a : Int) : a.fdiv 1 = a := by rw [Int.fdiv_eq_ediv_of_nonneg _ (by decide)]; omega
theorem fd256 (a : Int) : a.fdiv 256 = a / 256 := Int.fdiv_eq_ediv_of_nonneg _ (by decide)
theorem fd65536 (a : Int) : a.fdiv 65536 = a / 65536 := Int.fdiv_eq_ediv_of_nonneg _ (by decide)
theorem fd16777216 (a : Int) : a.fdiv 16777216 = a / 16777216 := Int.fdiv_eq_ediv_of_nonneg _ (by decide)
theorem or184 {r : Int} (r0 : 0 ≤ r) (r1 : r ≤ 15) : IntKind.u8.wrap ((BitVec.ofInt 8 184 ||| BitVec.ofInt 8 (IntKind.u8.wrap (IntKind.i8.wrap ((BitVec.ofInt 8 r &&& BitVec.ofInt 8 7).toNat : Int)))).toNat : Int) = 184 + r % 8 := by
 obtain ⟨n, rfl⟩ := fin16 r0 r1
 clear r0 r1
 revert n
 decide +kernel
theorem beq_dec (a b : Int) : (a == b) = decide (a = b) := by
 rw [Bool.eq_iff_iff]; simp
def lenX (op w dst src base disp imm cc : Int) : Int := ((bytesL op w dst src base disp imm cc).length : Nat)
theorem mayS_cc {sh w dst src base disp imm cc : Int} (hs : mayS sh w dst src base disp imm cc = true) : 0 ≤ cc ∧ cc ≤ 15 := by
 unfold mayS at hs
 repeat' split at hs
 all_goals first | (cases hs; done) | (simp only [ccM, Bool.and_eq_true, decide_eq_true_eq] at hs; omega)
def A255 (l : List Int) : Prop := ∀ b ∈ l, 0 ≤ b ∧ b ≤ 255
theorem A255.nil : A255 [] := by intro b hb; cases hb
theorem A255.cons {x : Int} {l : List Int} (h0 : 0 ≤ x) (h1 : x ≤ 255) (h : A255 l) : A255 (x :: l) := by
 intro b hb
 rcases List.mem_cons.1 hb with e | hb
 ·subst e; exact ⟨h0, h1⟩
 ·exact h b hb
theorem A255.ite {c : Prop} [Decidable c] {a b : List Int} (h : c → A255 a) (k : ¬ c → A255 b) : A255 (if c then a else b) := by
 split
 ·exact h ‹_›
 ·exact k ‹_›
def u64 (n : Int) : Int := IntKind.u64.wrap n
def cutM (v w : Int) : Int := if w = 8 then v % 256 else if w = 16 then v % 65536 else if w = 32 then v % 4294967296 else v
def signM (v w : Int) : Int :=
  if w = 8 then u64 (IntKind.i8.wrap v) else if w = 16 then u64 (IntKind.i16.wrap v) else if w = 32 then u64 (IntKind.i32.wrap v) else v
def negM (v w : Int) : Bool := decide (IntKind.i64.wrap (signM v w) < 0)
def xor64 (a b : Int) : Int := u64 ((BitVec.ofInt 64 a ^^^ BitVec.ofInt 64 b).toNat : Int)
def and64u (a b : Int) : Int := u64 ((BitVec.ofInt 64 a &&& BitVec.ofInt 64 b).toNat : Int)
def or64u (a b : Int) : Int := u64 ((BitVec.ofInt 64 a ||| BitVec.ofInt 64 b).toNat : Int)
def fD (k c z s o : Bool) : D := .agg [.bool k, .bool c, .bool z, .bool s, .bool o]
def byM (b w : Int) : Int := and64u b (u64 (IntKind.i8.wrap (w - 1)))
def opM (op a b by' w : Int) : Int :=
  if op = 0 then u64 (a + b)
  else if op = 1 then u64 (a - b)
  else if op = 2 then u64 (a * b)
  else if op = 3 then (if b = 0 then 0 else u64 (a.tdiv b))
  else if op = 4 then or64u a b
  else if op = 5 then and64u a b
  else if op = 6 then u64 (a * 2 ^ (min by'.toNat 64))
  else if op = 7 then a.fdiv (2 ^ (min by'.toNat 64))
  else if op = 8 then u64 (0 - a)
  else if op = 9 then (if b = 0 then a else a.tmod b)
  else if op = 10 then xor64 a b
  else if op = 11 then b
  else u64 ((IntKind.i64.wrap (signM a w)).fdiv (2 ^ (min by'.toNat 64)))
def doM (op w a b : Int) : Int := cutM (opM op (cutM a w) (cutM b w) (byM (cutM b w) w) w) w
def rg (l : List Int) (i : Int) : Int := l.getD i.toNat 0
def st (j i v r : Int) : Int := if i = j then v else r
def putD (i v r0 r1 r2 r3 r4 r5 r6 r7 r8 r9 r10 r11 r12 r13 r14 r15 : Int) (tl : List D) : List D := .int .u64 (st 0 i v r0) :: .int .u64 (st 1 i v r1) :: .int .u64 (st 2 i v r2) :: .int .u64 (st 3 i v r3) :: .int .u64 (st 4 i v r4) :: .int .u64 (st 5 i v r5) :: .int .u64 (st 6 i v r6) :: .int .u64 (st 7 i v r7) :: .int .u64 (st 8 i v r8) :: .int .u64 (st 9 i v r9) :: .int .u64 (st 10 i v r10) :: .int .u64 (st 11 i v r11) :: .int .u64 (st 12 i v r12) :: .int .u64 (st 13 i v r13) :: .int .u64 (st 14 i v r14) :: .int .u64 (st 15 i v r15) :: tl
abbrev uu : D := .undef
abbrev PutsA (l : List D) (i : Nat) (xs l' : List D) : Prop := l.take i ++ (xs ++ l.drop (i + xs.length)) = l' ∧ i + xs.length ≤ l.length
abbrev GetsA (l : List D) (i n : Nat) (l' : List D) : Prop := (l.drop i).take n = l' ∧ i + n ≤ l.length
section
variable {r0 r1 r2 r3 r4 r5 r6 r7 r8 r9 r10 r11 r12 r13 r14 r15 i v : Int} {tl : List D}
end
end Go.Ev
namespace Go.Proofs.Ytcngafhpodeenaa
open Go Go.Ev
abbrev EL := List (Ev Try.prog)
theorem bft (b : Bool) : b = true ∨ b = false := Bool.eq_false_or_eq_true b
theorem sl0 : (∀ {p : Prop} [Decidable p], (decide p = true) = p) ∧ (∀ {p : Prop} [Decidable p], (decide p = false) ↔ ¬p) ∧ (∀ (b : Bool), (¬(b = true)) = (b = false)) ∧ (∀ {α : Type} [BEq α] [LawfulBEq α] {a b : α}, (a == b) = true ↔ a = b) ∧ (∀ {α : Type} [BEq α] [LawfulBEq α] {a b : α}, (a == b) = false ↔ a ≠ b) ∧ (∀ (a b : Bool), (D.bool a = D.bool b) = (a = b)) := ⟨@decide_eq_true_eq, @decide_eq_false_iff_not, @Bool.not_eq_true, @beq_iff_eq, @beq_eq_false_iff_ne, @D.bool.injEq⟩
theorem sl1 : (∀ {α : Type} [BEq α] [LawfulBEq α] {a b : α}, (a == b) = true ↔ a = b) ∧ (∀ {α : Type} [BEq α] [LawfulBEq α] {a b : α}, (a == b) = false ↔ a ≠ b) ∧ (∀ {α : Type} (a b : α), (a ≠ b) = ¬(a = b)) ∧ (∀ n : Int, IntKind.i64.wrap n = (n + 9223372036854775808) % 18446744073709551616 - 9223372036854775808) ∧ (∀ (a b : Bool), ((a && b) = true) = (a = true ∧ b = true)) ∧ ((false = true) = False) ∧ (∀ {p : Prop} [Decidable p], (decide p = true) = p) ∧ (∀ {p : Prop} [Decidable p], (decide p = false) ↔ ¬p) ∧ (∀ (p : Prop), (False ↔ p) = ¬p) ∧ (∀ (p : Prop), (p ↔ False) = ¬p) ∧ (∀ (p : Prop), (True ↔ p) = p) ∧ (∀ (p : Prop), (p ↔ True) = p) ∧ (∀ (p : Prop), (True ∧ p) = p) ∧ (∀ (p : Prop), (p ∧ True) = p) := ⟨@beq_iff_eq, @beq_eq_false_iff_ne, @ne_eq, @w_i64, @Bool.and_eq_true, @Bool.false_eq_true, @decide_eq_true_eq, @decide_eq_false_iff_not, @false_iff, @iff_false, @true_iff, @iff_true, @true_and, @and_true⟩
theorem sl2 : (∀ n : Int, IntKind.i8.wrap n = (n + 128) % 256 - 128) ∧ (∀ n : Int, IntKind.u8.wrap n = n % 256) ∧ (∀ n : Int, IntKind.i64.wrap n = (n + 9223372036854775808) % 18446744073709551616 - 9223372036854775808) ∧ (∀ n : Int, IntKind.u64.wrap n = n % 18446744073709551616) ∧ (∀ {p : Prop} [Decidable p], (decide p = true) = p) ∧ (∀ {p : Prop} [Decidable p], (decide p = false) ↔ ¬p) ∧ (∀ {α : Type} [BEq α] [LawfulBEq α] {a b : α}, (a == b) = true ↔ a = b) ∧ (∀ {α : Type} [BEq α] [LawfulBEq α] {a b : α}, (a != b) = true ↔ a ≠ b) ∧ (∀ {α : Type} [BEq α] [LawfulBEq α] {a b : α}, (a == b) = false ↔ a ≠ b) ∧ (∀ {α : Type} [BEq α] [LawfulBEq α] {a b : α}, (a != b) = false ↔ a = b) ∧ (∀ (b : Bool), ((!b) = true) = (b = false)) ∧ (∀ (b : Bool), ((!b) = false) = (b = true)) ∧ (∀ (a b : Bool), ((a && b) = true) = (a = true ∧ b = true)) ∧ (∀ (a b : Bool), ((a || b) = true) = (a = true ∨ b = true)) := ⟨@w_i8, @w_u8, @w_i64, @w_u64, @decide_eq_true_eq, @decide_eq_false_iff_not, @beq_iff_eq, @bne_iff_ne, @beq_eq_false_iff_ne, @bne_eq_false_iff_eq, @Bool.not_eq_true', @Bool.not_eq_false', @Bool.and_eq_true, @Bool.or_eq_true⟩
def OE (n : Nat) (f : Func) : Prop := ∀ {x : List D} {d : D} (o : EL), evalRet Try.prog f x o = some (d, selfs o True) → Ret Try.prog n x d
theorem o0 : OE 0 Try.f0 := Ret.of_eval mixed Try.func0 (by kernel_rfl)
theorem o1 : OE 1 Try.f1 := Ret.of_eval mixed Try.func1 (by kernel_rfl)
theorem o2 : OE 2 Try.f2 := Ret.of_eval mixed Try.func2 (by kernel_rfl)
theorem o3 : OE 3 Try.f3 := Ret.of_eval mixed Try.func3 (by kernel_rfl)
theorem o21 : OE 21 Try.f21 := Ret.of_eval mixed Try.func21 (by kernel_rfl)
theorem o22 : OE 22 Try.f22 := Ret.of_eval mixed Try.func22 (by kernel_rfl)
theorem o54 : OE 54 Try.f54 := Ret.of_eval mixed Try.func54 (by kernel_rfl)
theorem o55 : OE 55 Try.f55 := Ret.of_eval mixed Try.func55 (by kernel_rfl)
theorem o56 : OE 56 Try.f56 := Ret.of_eval mixed Try.func56 (by kernel_rfl)
theorem o57 : OE 57 Try.f57 := Ret.of_eval mixed Try.func57 (by kernel_rfl)
theorem o59 : OE 59 Try.f59 := Ret.of_eval mixed Try.func59 (by kernel_rfl)
theorem o60 : OE 60 Try.f60 := Ret.of_eval mixed Try.func60 (by kernel_rfl)
theorem o61 : OE 61 Try.f61 := Ret.of_eval mixed Try.func61 (by kernel_rfl)
theorem o64 : OE 64 Try.f64 := Ret.of_eval mixed Try.func64 (by kernel_rfl)
theorem o67 : OE 67 Try.f67 := Ret.of_eval mixed Try.func67 (by kernel_rfl)
theorem o74 : OE 74 Try.f74 := Ret.of_eval mixed Try.func74 (by kernel_rfl)
theorem o99 : OE 99 Try.f99 := Ret.of_eval mixed Try.func99 (by kernel_rfl)
theorem o101 : OE 101 Try.f101 := Ret.of_eval mixed Try.func101 (by kernel_rfl)
theorem o102 : OE 102 Try.f102 := Ret.of_eval mixed Try.func102 (by kernel_rfl)
theorem o103 : OE 103 Try.f103 := Ret.of_eval mixed Try.func103 (by kernel_rfl)
theorem o104 : OE 104 Try.f104 := Ret.of_eval mixed Try.func104 (by kernel_rfl)
theorem o105 : OE 105 Try.f105 := Ret.of_eval mixed Try.func105 (by kernel_rfl)
theorem o106 : OE 106 Try.f106 := Ret.of_eval mixed Try.func106 (by kernel_rfl)
theorem o107 : OE 107 Try.f107 := Ret.of_eval mixed Try.func107 (by kernel_rfl)
theorem o108 : OE 108 Try.f108 := Ret.of_eval mixed Try.func108 (by kernel_rfl)
theorem o109 : OE 109 Try.f109 := Ret.of_eval mixed Try.func109 (by kernel_rfl)
theorem o110 : OE 110 Try.f110 := Ret.of_eval mixed Try.func110 (by kernel_rfl)
theorem o111 : OE 111 Try.f111 := Ret.of_eval mixed Try.func111 (by kernel_rfl)
theorem o113 : OE 113 Try.f113 := Ret.of_eval mixed Try.func113 (by kernel_rfl)
theorem o114 : OE 114 Try.f114 := Ret.of_eval mixed Try.func114 (by kernel_rfl)
theorem o115 : OE 115 Try.f115 := Ret.of_eval mixed Try.func115 (by kernel_rfl)
theorem o116 : OE 116 Try.f116 := Ret.of_eval mixed Try.func116 (by kernel_rfl)
theorem o117 : OE 117 Try.f117 := Ret.of_eval mixed Try.func117 (by kernel_rfl)
theorem o118 : OE 118 Try.f118 := Ret.of_eval mixed Try.func118 (by kernel_rfl)
theorem o119 : OE 119 Try.f119 := Ret.of_eval mixed Try.func119 (by kernel_rfl)
theorem o120 : OE 120 Try.f120 := Ret.of_eval mixed Try.func120 (by kernel_rfl)
theorem o122 : OE 122 Try.f122 := Ret.of_eval mixed Try.func122 (by kernel_rfl)
theorem o124 : OE 124 Try.f124 := Ret.of_eval mixed Try.func124 (by kernel_rfl)
theorem o126 : OE 126 Try.f126 := Ret.of_eval mixed Try.func126 (by kernel_rfl)
theorem o129 : OE 129 Try.f129 := Ret.of_eval mixed Try.func129 (by kernel_rfl)
theorem o154 : OE 154 Try.f154 := Ret.of_eval mixed Try.func154 (by kernel_rfl)
theorem o155 : OE 155 Try.f155 := Ret.of_eval mixed Try.func155 (by kernel_rfl)
theorem o156 : OE 156 Try.f156 := Ret.of_eval mixed Try.func156 (by kernel_rfl)
theorem o159 : OE 159 Try.f159 := Ret.of_eval mixed Try.func159 (by kernel_rfl)
def tab_XOf_0 : List D := [.int .i8 1, .int .u8 137, .int .i8 0, .int .i8 3, .int .u8 199, .int .i8 0, .int .i8 1, .int .u8 1, .int .i8 0, .int .i8 1, .int .u8 9, .int .i8 0, .int .i8 1, .int .u8 33, .int .i8 0, .int .i8 1, .int .u8 41, .int .i8 0, .int .i8 1, .int .u8 49, .int .i8 0, .int .i8 1, .int .u8 57, .int .i8 0, .int .i8 1, .int .u8 133, .int .i8 0, .int .i8 3, .int .u8 129, .int .i8 0, .int .i8 3, .int .u8 129, .int .i8 1, .int .i8 3, .int .u8 129, .int .i8 4, .int .i8 3, .int .u8 129, .int .i8 5, .int .i8 3, .int .u8 129, .int .i8 6, .int .i8 3, .int .u8 129, .int .i8 7, .int .i8 3, .int .u8 247, .int .i8 0, .int .i8 2, .int .u8 175, .int .i8 0, .int .i8 4, .int .u8 193, .int .i8 4, .int .i8 4, .int .u8 193, .int .i8 5, .int .i8 4, .int .u8 193, .int .i8 7, .int .i8 5, .int .u8 211, .int .i8 4, .int .i8 5, .int .u8 211, .int .i8 5, .int .i8 5, .int .u8 211, .int .i8 7, .int .i8 5, .int .u8 247, .int .i8 3, .int .i8 5, .int .u8 247, .int .i8 6, .int .i8 6, .int .u8 64, .int .i8 0, .int .i8 7, .int .u8 139, .int .i8 0, .int .i8 8, .int .u8 137, .int .i8 0, .int .i8 9, .int .u8 233, .int .i8 0, .int .i8 10, .int .u8 128, .int .i8 0, .int .i8 11, .int .u8 195, .int .i8 0, .int .i8 11, .int .u8 5, .int .i8 0]
def SpXOf0 (k0_ : Int) : Prop := Ret Try.prog 57 ([.int .i8 k0_]) (.tup [.agg [.int .i8 (shapeM k0_), .int .u8 (codeM k0_), .int .i8 (numM k0_)], .bool true])
theorem of_0_ok : SpXOf0 0 := by
 exact (o57 (d := .tup [.agg [.int .i8 1, .int .u8 137, .int .i8 0], .bool true]) [.inl, tT, tT, tT, tF, tF, tT, .getA tab_XOf_0 0 3 ([.int .i8 1, .int .u8 137, .int .i8 0]) ⟨rfl, by decide⟩] (by kernel_rfl)).to (by simp [wk, wkL]; decide)
theorem of_1_ok : SpXOf0 1 := by
 exact (o57 (d := .tup [.agg [.int .i8 3, .int .u8 199, .int .i8 0], .bool true]) [.inl, tT, tT, tT, tF, tF, tT, .getA tab_XOf_0 3 3 ([.int .i8 3, .int .u8 199, .int .i8 0]) ⟨rfl, by decide⟩] (by kernel_rfl)).to (by simp [wk, wkL]; decide)
theorem of_2_ok : SpXOf0 2 := by
 exact (o57 (d := .tup [.agg [.int .i8 1, .int .u8 1, .int .i8 0], .bool true]) [.inl, tT, tT, tT, tF, tF, tT, .getA tab_XOf_0 6 3 ([.int .i8 1, .int .u8 1, .int .i8 0]) ⟨rfl, by decide⟩] (by kernel_rfl)).to (by simp [wk, wkL]; decide)
theorem of_3_ok : SpXOf0 3 := by
 exact (o57 (d := .tup [.agg [.int .i8 1, .int .u8 9, .int .i8 0], .bool true]) [.inl, tT, tT, tT, tF, tF, tT, .getA tab_XOf_0 9 3 ([.int .i8 1, .int .u8 9, .int .i8 0]) ⟨rfl, by decide⟩] (by kernel_rfl)).to (by simp [wk, wkL]; decide)
theorem of_4_ok : SpXOf0 4 := by
 exact (o57 (d := .tup [.agg [.int .i8 1, .int .u8 33, .int .i8 0], .bool true]) [.inl, tT, tT, tT, tF, tF, tT, .getA tab_XOf_0 12 3 ([.int .i8 1, .int .u8 33, .int .i8 0]) ⟨rfl, by decide⟩] (by kernel_rfl)).to (by simp [wk, wkL]; decide)
theorem of_5_ok : SpXOf0 5 := by
 exact (o57 (d := .tup [.agg [.int .i8 1, .int .u8 41, .int .i8 0], .bool true]) [.inl, tT, tT, tT, tF, tF, tT, .getA tab_XOf_0 15 3 ([.int .i8 1, .int .u8 41, .int .i8 0]) ⟨rfl, by decide⟩] (by kernel_rfl)).to (by simp [wk, wkL]; decide)
theorem of_6_ok : SpXOf0 6 := by
 exact (o57 (d := .tup [.agg [.int .i8 1, .int .u8 49, .int .i8 0], .bool true]) [.inl, tT, tT, tT, tF, tF, tT, .getA tab_XOf_0 18 3 ([.int .i8 1, .int .u8 49, .int .i8 0]) ⟨rfl, by decide⟩] (by kernel_rfl)).to (by simp [wk, wkL]; decide)
theorem of_7_ok : SpXOf0 7 := by
 exact (o57 (d := .tup [.agg [.int .i8 1, .int .u8 57, .int .i8 0], .bool true]) [.inl, tT, tT, tT, tF, tF, tT, .getA tab_XOf_0 21 3 ([.int .i8 1, .int .u8 57, .int .i8 0]) ⟨rfl, by decide⟩] (by kernel_rfl)).to (by simp [wk, wkL]; decide)
theorem of_8_ok : SpXOf0 8 := by
 exact (o57 (d := .tup [.agg [.int .i8 1, .int .u8 133, .int .i8 0], .bool true]) [.inl, tT, tT, tT, tF, tF, tT, .getA tab_XOf_0 24 3 ([.int .i8 1, .int .u8 133, .int .i8 0]) ⟨rfl, by decide⟩] (by kernel_rfl)).to (by simp [wk, wkL]; decide)
theorem of_9_ok : SpXOf0 9 := by
 exact (o57 (d := .tup [.agg [.int .i8 3, .int .u8 129, .int .i8 0], .bool true]) [.inl, tT, tT, tT, tF, tF, tT, .getA tab_XOf_0 27 3 ([.int .i8 3, .int .u8 129, .int .i8 0]) ⟨rfl, by decide⟩] (by kernel_rfl)).to (by simp [wk, wkL]; decide)
theorem of_10_ok : SpXOf0 10 := by
 exact (o57 (d := .tup [.agg [.int .i8 3, .int .u8 129, .int .i8 1], .bool true]) [.inl, tT, tT, tT, tF, tF, tT, .getA tab_XOf_0 30 3 ([.int .i8 3, .int .u8 129, .int .i8 1]) ⟨rfl, by decide⟩] (by kernel_rfl)).to (by simp [wk, wkL]; decide)
theorem of_11_ok : SpXOf0 11 := by
 exact (o57 (d := .tup [.agg [.int .i8 3, .int .u8 129, .int .i8 4], .bool true]) [.inl, tT, tT, tT, tF, tF, tT, .getA tab_XOf_0 33 3 ([.int .i8 3, .int .u8 129, .int .i8 4]) ⟨rfl, by decide⟩] (by kernel_rfl)).to (by simp [wk, wkL]; decide)
theorem of_12_ok : SpXOf0 12 := by
 exact (o57 (d := .tup [.agg [.int .i8 3, .int .u8 129, .int .i8 5], .bool true]) [.inl, tT, tT, tT, tF, tF, tT, .getA tab_XOf_0 36 3 ([.int .i8 3, .int .u8 129, .int .i8 5]) ⟨rfl, by decide⟩] (by kernel_rfl)).to (by simp [wk, wkL]; decide)
theorem of_13_ok : SpXOf0 13 := by
 exact (o57 (d := .tup [.agg [.int .i8 3, .int .u8 129, .int .i8 6], .bool true]) [.inl, tT, tT, tT, tF, tF, tT, .getA tab_XOf_0 39 3 ([.int .i8 3, .int .u8 129, .int .i8 6]) ⟨rfl, by decide⟩] (by kernel_rfl)).to (by simp [wk, wkL]; decide)
theorem of_14_ok : SpXOf0 14 := by
 exact (o57 (d := .tup [.agg [.int .i8 3, .int .u8 129, .int .i8 7], .bool true]) [.inl, tT, tT, tT, tF, tF, tT, .getA tab_XOf_0 42 3 ([.int .i8 3, .int .u8 129, .int .i8 7]) ⟨rfl, by decide⟩] (by kernel_rfl)).to (by simp [wk, wkL]; decide)
theorem of_15_ok : SpXOf0 15 := by
 exact (o57 (d := .tup [.agg [.int .i8 3, .int .u8 247, .int .i8 0], .bool true]) [.inl, tT, tT, tT, tF, tF, tT, .getA tab_XOf_0 45 3 ([.int .i8 3, .int .u8 247, .int .i8 0]) ⟨rfl, by decide⟩] (by kernel_rfl)).to (by simp [wk, wkL]; decide)
theorem of_16_ok : SpXOf0 16 := by
 exact (o57 (d := .tup [.agg [.int .i8 2, .int .u8 175, .int .i8 0], .bool true]) [.inl, tT, tT, tT, tF, tF, tT, .getA tab_XOf_0 48 3 ([.int .i8 2, .int .u8 175, .int .i8 0]) ⟨rfl, by decide⟩] (by kernel_rfl)).to (by simp [wk, wkL]; decide)
theorem of_17_ok : SpXOf0 17 := by
 exact (o57 (d := .tup [.agg [.int .i8 4, .int .u8 193, .int .i8 4], .bool true]) [.inl, tT, tT, tT, tF, tF, tT, .getA tab_XOf_0 51 3 ([.int .i8 4, .int .u8 193, .int .i8 4]) ⟨rfl, by decide⟩] (by kernel_rfl)).to (by simp [wk, wkL]; decide)
theorem of_18_ok : SpXOf0 18 := by
 exact (o57 (d := .tup [.agg [.int .i8 4, .int .u8 193, .int .i8 5], .bool true]) [.inl, tT, tT, tT, tF, tF, tT, .getA tab_XOf_0 54 3 ([.int .i8 4, .int .u8 193, .int .i8 5]) ⟨rfl, by decide⟩] (by kernel_rfl)).to (by simp [wk, wkL]; decide)
theorem of_19_ok : SpXOf0 19 := by
 exact (o57 (d := .tup [.agg [.int .i8 4, .int .u8 193, .int .i8 7], .bool true]) [.inl, tT, tT, tT, tF, tF, tT, .getA tab_XOf_0 57 3 ([.int .i8 4, .int .u8 193, .int .i8 7]) ⟨rfl, by decide⟩] (by kernel_rfl)).to (by simp [wk, wkL]; decide)
theorem of_20_ok : SpXOf0 20 := by
 exact (o57 (d := .tup [.agg [.int .i8 5, .int .u8 211, .int .i8 4], .bool true]) [.inl, tT, tT, tT, tF, tF, tT, .getA tab_XOf_0 60 3 ([.int .i8 5, .int .u8 211, .int .i8 4]) ⟨rfl, by decide⟩] (by kernel_rfl)).to (by simp [wk, wkL]; decide)
theorem of_21_ok : SpXOf0 21 := by
 exact (o57 (d := .tup [.agg [.int .i8 5, .int .u8 211, .int .i8 5], .bool true]) [.inl, tT, tT, tT, tF, tF, tT, .getA tab_XOf_0 63 3 ([.int .i8 5, .int .u8 211, .int .i8 5]) ⟨rfl, by decide⟩] (by kernel_rfl)).to (by simp [wk, wkL]; decide)
theorem of_22_ok : SpXOf0 22 := by
 exact (o57 (d := .tup [.agg [.int .i8 5, .int .u8 211, .int .i8 7], .bool true]) [.inl, tT, tT, tT, tF, tF, tT, .getA tab_XOf_0 66 3 ([.int .i8 5, .int .u8 211, .int .i8 7]) ⟨rfl, by decide⟩] (by kernel_rfl)).to (by simp [wk, wkL]; decide)
theorem of_23_ok : SpXOf0 23 := by
 exact (o57 (d := .tup [.agg [.int .i8 5, .int .u8 247, .int .i8 3], .bool true]) [.inl, tT, tT, tT, tF, tF, tT, .getA tab_XOf_0 69 3 ([.int .i8 5, .int .u8 247, .int .i8 3]) ⟨rfl, by decide⟩] (by kernel_rfl)).to (by simp [wk, wkL]; decide)
theorem of_24_ok : SpXOf0 24 := by
 exact (o57 (d := .tup [.agg [.int .i8 5, .int .u8 247, .int .i8 6], .bool true]) [.inl, tT, tT, tT, tF, tF, tT, .getA tab_XOf_0 72 3 ([.int .i8 5, .int .u8 247, .int .i8 6]) ⟨rfl, by decide⟩] (by kernel_rfl)).to (by simp [wk, wkL]; decide)
theorem of_25_ok : SpXOf0 25 := by
 exact (o57 (d := .tup [.agg [.int .i8 6, .int .u8 64, .int .i8 0], .bool true]) [.inl, tT, tT, tT, tF, tF, tT, .getA tab_XOf_0 75 3 ([.int .i8 6, .int .u8 64, .int .i8 0]) ⟨rfl, by decide⟩] (by kernel_rfl)).to (by simp [wk, wkL]; decide)
theorem of_26_ok : SpXOf0 26 := by
 exact (o57 (d := .tup [.agg [.int .i8 7, .int .u8 139, .int .i8 0], .bool true]) [.inl, tT, tT, tT, tF, tF, tT, .getA tab_XOf_0 78 3 ([.int .i8 7, .int .u8 139, .int .i8 0]) ⟨rfl, by decide⟩] (by kernel_rfl)).to (by simp [wk, wkL]; decide)
theorem of_27_ok : SpXOf0 27 := by
 exact (o57 (d := .tup [.agg [.int .i8 8, .int .u8 137, .int .i8 0], .bool true]) [.inl, tT, tT, tT, tF, tF, tT, .getA tab_XOf_0 81 3 ([.int .i8 8, .int .u8 137, .int .i8 0]) ⟨rfl, by decide⟩] (by kernel_rfl)).to (by simp [wk, wkL]; decide)
theorem of_28_ok : SpXOf0 28 := by
 exact (o57 (d := .tup [.agg [.int .i8 9, .int .u8 233, .int .i8 0], .bool true]) [.inl, tT, tT, tT, tF, tF, tT, .getA tab_XOf_0 84 3 ([.int .i8 9, .int .u8 233, .int .i8 0]) ⟨rfl, by decide⟩] (by kernel_rfl)).to (by simp [wk, wkL]; decide)
theorem of_29_ok : SpXOf0 29 := by
 exact (o57 (d := .tup [.agg [.int .i8 10, .int .u8 128, .int .i8 0], .bool true]) [.inl, tT, tT, tT, tF, tF, tT, .getA tab_XOf_0 87 3 ([.int .i8 10, .int .u8 128, .int .i8 0]) ⟨rfl, by decide⟩] (by kernel_rfl)).to (by simp [wk, wkL]; decide)
theorem of_30_ok : SpXOf0 30 := by
 exact (o57 (d := .tup [.agg [.int .i8 11, .int .u8 195, .int .i8 0], .bool true]) [.inl, tT, tT, tT, tF, tF, tT, .getA tab_XOf_0 90 3 ([.int .i8 11, .int .u8 195, .int .i8 0]) ⟨rfl, by decide⟩] (by kernel_rfl)).to (by simp [wk, wkL]; decide)
theorem of_31_ok : SpXOf0 31 := by
 exact (o57 (d := .tup [.agg [.int .i8 11, .int .u8 5, .int .i8 0], .bool true]) [.inl, tT, tT, tT, tF, tF, tT, .getA tab_XOf_0 93 3 ([.int .i8 11, .int .u8 5, .int .i8 0]) ⟨rfl, by decide⟩] (by kernel_rfl)).to (by simp [wk, wkL]; decide)
theorem of_low_ok (op : Int) (h : op < 0) : Ret Try.prog 57 ([.int .i8 op]) (.tup [.agg [.int .i8 0, .int .u8 0, .int .i8 0], .bool false]) := by
 exact (o57 (d := .tup [.agg [.int .i8 0, .int .u8 0, .int .i8 0], .bool false]) ([.inl] ++ List.replicate 3 (tC (eF (decide_eq_true h))) ++ [tC (decide_eq_true h), tT]) (by kernel_rfl)).to (by simp [wk, wkL])
theorem of_high_ok (op : Int) (h : 32 ≤ op) (ho : op ≤ 127) : Ret Try.prog 57 ([.int .i8 op]) (.tup [.agg [.int .i8 0, .int .u8 0, .int .i8 0], .bool false]) := by
 exact (o57 (d := .tup [.agg [.int .i8 0, .int .u8 0, .int .i8 0], .bool false]) ([.inl] ++ List.replicate 3 (tC (eF (ltD 0 (decide_eq_false (Int.not_lt.2 h))))) ++ [tC (ltD 0 (decide_eq_false (Int.not_lt.2 h))), tC (leL 32 (by (simp only [sl2] at *; omega) : (decide (IntKind.wrap IntKind.i64 op < 32)) = false))]) (by kernel_rfl)).to (by simp [wk, wkL])
theorem reg_ok (n : Int) : Ret Try.prog 114 ([.int .i8 n]) (.bool (regM n)) := by
 rcases bft (decide (n < 0)) with h0 | h0
 ·exact (o114 (d := .bool false) [tC (eT (leL 0 h0)), tC (eT (leL 0 h0)), tC (leL 0 h0)] (by kernel_rfl)).to (by (try simp only [sl0, wk, wkL, wkO, eqCells, eqCell, regM, ccM, widthM, longM] at *); first | (simp [wk, wkL, wkO, eqCells, eqCell, regM, ccM, widthM, longM, *]; done) | (simp [wk, wkL, wkO, eqCells, eqCell, regM, ccM, widthM, longM, *]; omega) | (rw [Bool.eq_iff_iff]; simp [wk, wkL, wkO, eqCells, eqCell, regM, ccM, widthM, longM, *]; done) | (rw [Bool.eq_iff_iff]; simp [wk, wkL, wkO, eqCells, eqCell, regM, ccM, widthM, longM, *]; omega) | (rw [Bool.eq_iff_iff]; simp [wk, wkL, wkO, eqCells, eqCell, regM, ccM, widthM, longM, *]; grind) | (subst_vars; rw [Bool.eq_iff_iff]; simp; grind))
 exact (o114 (d := .bool (decide (n < 16))) [tC (eT (leL 0 h0)), tC (eT (leL 0 h0)), tC (leL 0 h0)] (by kernel_rfl)).to (by (try simp only [sl0, wk, wkL, wkO, eqCells, eqCell, regM, ccM, widthM, longM] at *); first | (simp [wk, wkL, wkO, eqCells, eqCell, regM, ccM, widthM, longM, *]; done) | (simp [wk, wkL, wkO, eqCells, eqCell, regM, ccM, widthM, longM, *]; omega) | (rw [Bool.eq_iff_iff]; simp [wk, wkL, wkO, eqCells, eqCell, regM, ccM, widthM, longM, *]; done) | (rw [Bool.eq_iff_iff]; simp [wk, wkL, wkO, eqCells, eqCell, regM, ccM, widthM, longM, *]; omega) | (rw [Bool.eq_iff_iff]; simp [wk, wkL, wkO, eqCells, eqCell, regM, ccM, widthM, longM, *]; grind) | (subst_vars; rw [Bool.eq_iff_iff]; simp; grind))
theorem cond_ok (n : Int) : Ret Try.prog 116 ([.int .i8 n]) (.bool (ccM n)) := by
 rcases bft (decide (n < 2)) with h0 | h0
 ·exact (o116 (d := .bool false) [tC (eT (leL 2 h0)), tC (eT (leL 2 h0)), tC (leL 2 h0), tT, tT, tT, tC (eT (leL 12 (ltU 12 h0))), tC (eT (leL 12 (ltU 12 h0))), tT, tC (leL 12 (ltU 12 h0)), tF] (by kernel_rfl)).to (by (try simp only [sl0, wk, wkL, wkO, eqCells, eqCell, regM, ccM, widthM, longM] at *); first | (simp [wk, wkL, wkO, eqCells, eqCell, regM, ccM, widthM, longM, *]; done) | (simp [wk, wkL, wkO, eqCells, eqCell, regM, ccM, widthM, longM, *]; omega) | (rw [Bool.eq_iff_iff]; simp [wk, wkL, wkO, eqCells, eqCell, regM, ccM, widthM, longM, *]; done) | (rw [Bool.eq_iff_iff]; simp [wk, wkL, wkO, eqCells, eqCell, regM, ccM, widthM, longM, *]; omega) | (rw [Bool.eq_iff_iff]; simp [wk, wkL, wkO, eqCells, eqCell, regM, ccM, widthM, longM, *]; grind) | (subst_vars; rw [Bool.eq_iff_iff]; simp; grind))
 let E1 : EL := [tC (eT (leL 2 h0)), tC (eT (leL 2 h0)), tC (leL 2 h0)]
 rcases bft (decide (n < 8)) with h1 | h1
 ·exact (o116 (d := .bool true) (E1 ++ List.replicate 4 (tC (eF (leC 7 h1))) ++ [tC (leC 7 h1)]) (by kernel_rfl)).to (by clear E1; (try simp only [sl0, wk, wkL, wkO, eqCells, eqCell, regM, ccM, widthM, longM] at *); first | (simp [wk, wkL, wkO, eqCells, eqCell, regM, ccM, widthM, longM, *]; done) | (simp [wk, wkL, wkO, eqCells, eqCell, regM, ccM, widthM, longM, *]; omega) | (rw [Bool.eq_iff_iff]; simp [wk, wkL, wkO, eqCells, eqCell, regM, ccM, widthM, longM, *]; done) | (rw [Bool.eq_iff_iff]; simp [wk, wkL, wkO, eqCells, eqCell, regM, ccM, widthM, longM, *]; omega) | (rw [Bool.eq_iff_iff]; simp [wk, wkL, wkO, eqCells, eqCell, regM, ccM, widthM, longM, *]; grind) | (subst_vars; rw [Bool.eq_iff_iff]; simp; grind))
 rcases bft (decide (n < 12)) with h2 | h2
 ·exact (o116 (d := .bool false) (E1 ++ List.replicate 3 (tC (eF (leC 7 h1))) ++ [tC (eT (leL 12 h2)), tC (eT (leL 12 h2)), tC (eF (leC 7 h1)), tC (leL 12 h2), tC (leC 7 h1)]) (by kernel_rfl)).to (by clear E1; (try simp only [sl0, wk, wkL, wkO, eqCells, eqCell, regM, ccM, widthM, longM] at *); first | (simp [wk, wkL, wkO, eqCells, eqCell, regM, ccM, widthM, longM, *]; done) | (simp [wk, wkL, wkO, eqCells, eqCell, regM, ccM, widthM, longM, *]; omega) | (rw [Bool.eq_iff_iff]; simp [wk, wkL, wkO, eqCells, eqCell, regM, ccM, widthM, longM, *]; done) | (rw [Bool.eq_iff_iff]; simp [wk, wkL, wkO, eqCells, eqCell, regM, ccM, widthM, longM, *]; omega) | (rw [Bool.eq_iff_iff]; simp [wk, wkL, wkO, eqCells, eqCell, regM, ccM, widthM, longM, *]; grind) | (subst_vars; rw [Bool.eq_iff_iff]; simp; grind))
 exact (o116 (d := .bool (decide (n ≤ 15))) (E1 ++ List.replicate 3 (tC (eF (leC 7 h1))) ++ [tC (eT (leL 12 h2)), tC (eT (leL 12 h2)), tC (eF (leC 7 h1)), tC (leL 12 h2), tC (leC 7 h1)]) (by kernel_rfl)).to (by clear E1; (try simp only [sl0, wk, wkL, wkO, eqCells, eqCell, regM, ccM, widthM, longM] at *); first | (simp [wk, wkL, wkO, eqCells, eqCell, regM, ccM, widthM, longM, *]; done) | (simp [wk, wkL, wkO, eqCells, eqCell, regM, ccM, widthM, longM, *]; omega) | (rw [Bool.eq_iff_iff]; simp [wk, wkL, wkO, eqCells, eqCell, regM, ccM, widthM, longM, *]; done) | (rw [Bool.eq_iff_iff]; simp [wk, wkL, wkO, eqCells, eqCell, regM, ccM, widthM, longM, *]; omega) | (rw [Bool.eq_iff_iff]; simp [wk, wkL, wkO, eqCells, eqCell, regM, ccM, widthM, longM, *]; grind) | (subst_vars; rw [Bool.eq_iff_iff]; simp; grind))
theorem within_ok (n a b : Int) : Ret Try.prog 115 ([.int .i64 n, .int .i64 a, .int .i64 b]) (.bool (decide (a ≤ n) && decide (n ≤ b))) := by
 rcases bft (decide (n ≥ a)) with h0 | h0
 ·exact (o115 (d := .bool (decide (n ≤ b))) [tC (eT h0), tC (eT h0), tC (eT h0), tC h0] (by kernel_rfl)).to (by (try simp only [sl0, wk, wkL, wkO, eqCells, eqCell, regM, ccM, widthM, longM] at *); (simp [wk, wkL, wkO, eqCells, eqCell, regM, ccM, widthM, longM, *]; done))
 exact (o115 (d := .bool false) [tC (eT h0), tC (eT h0), tC (eT h0), tC h0] (by kernel_rfl)).to (by (try simp only [sl0, wk, wkL, wkO, eqCells, eqCell, regM, ccM, widthM, longM] at *); (simp [wk, wkL, wkO, eqCells, eqCell, regM, ccM, widthM, longM, *]; done))
theorem width_ok (n : Int) : Ret Try.prog 117 ([.int .i8 n]) (.bool (widthM n)) := by
 by_cases h0 : n = 8
 ·subst h0
  exact (o117 (d := .bool true) [tT, tT] (by kernel_rfl)).to (by (try simp only [sl0, wk, wkL, wkO, eqCells, eqCell, regM, ccM, widthM, longM] at *); (simp [wk, wkL, wkO, eqCells, eqCell, regM, ccM, widthM, longM, *]; done))
 by_cases h1 : n = 16
 ·subst h1
  exact (o117 (d := .bool true) [tC (neOf h0), tT, tT] (by kernel_rfl)).to (by (try simp only [sl0, wk, wkL, wkO, eqCells, eqCell, regM, ccM, widthM, longM] at *); (simp [wk, wkL, wkO, eqCells, eqCell, regM, ccM, widthM, longM, *]; done))
 by_cases h2 : n = 32
 ·subst h2
  exact (o117 (d := .bool true) [tC (neOf h0), tC (neOf h1), tT, tT] (by kernel_rfl)).to (by (try simp only [sl0, wk, wkL, wkO, eqCells, eqCell, regM, ccM, widthM, longM] at *); (simp [wk, wkL, wkO, eqCells, eqCell, regM, ccM, widthM, longM, *]; done))
 by_cases h3 : n = 64
 ·subst h3
  exact (o117 (d := .bool true) [tC (neOf h0), tC (neOf h1), tC (neOf h2), tT] (by kernel_rfl)).to (by (try simp only [sl0, wk, wkL, wkO, eqCells, eqCell, regM, ccM, widthM, longM] at *); (simp [wk, wkL, wkO, eqCells, eqCell, regM, ccM, widthM, longM, *]; done))
 exact (o117 (d := .bool false) [tC (neOf h0), tC (neOf h1), tC (neOf h2), tC (neOf h3)] (by kernel_rfl)).to (by (try simp only [sl0, wk, wkL, wkO, eqCells, eqCell, regM, ccM, widthM, longM] at *); (simp [wk, wkL, wkO, eqCells, eqCell, regM, ccM, widthM, longM, *]; done))
theorem rreg_ok (n : Int) : Ret Try.prog 102 ([.int .i8 n]) (.bool (regM n)) := by
 rcases bft (decide (n < 0)) with h0 | h0
 ·exact (o102 (d := .bool false) [tC (eT (leL 0 h0)), tC (eT (leL 0 h0)), tC (leL 0 h0)] (by kernel_rfl)).to (by (try simp only [sl0, wk, wkL, wkO, eqCells, eqCell, regM, ccM, widthM, longM] at *); first | (simp [wk, wkL, wkO, eqCells, eqCell, regM, ccM, widthM, longM, *]; done) | (simp [wk, wkL, wkO, eqCells, eqCell, regM, ccM, widthM, longM, *]; omega) | (rw [Bool.eq_iff_iff]; simp [wk, wkL, wkO, eqCells, eqCell, regM, ccM, widthM, longM, *]; done) | (rw [Bool.eq_iff_iff]; simp [wk, wkL, wkO, eqCells, eqCell, regM, ccM, widthM, longM, *]; omega) | (rw [Bool.eq_iff_iff]; simp [wk, wkL, wkO, eqCells, eqCell, regM, ccM, widthM, longM, *]; grind) | (subst_vars; rw [Bool.eq_iff_iff]; simp; grind))
 exact (o102 (d := .bool (decide (n < 16))) [tC (eT (leL 0 h0)), tC (eT (leL 0 h0)), tC (leL 0 h0)] (by kernel_rfl)).to (by (try simp only [sl0, wk, wkL, wkO, eqCells, eqCell, regM, ccM, widthM, longM] at *); first | (simp [wk, wkL, wkO, eqCells, eqCell, regM, ccM, widthM, longM, *]; done) | (simp [wk, wkL, wkO, eqCells, eqCell, regM, ccM, widthM, longM, *]; omega) | (rw [Bool.eq_iff_iff]; simp [wk, wkL, wkO, eqCells, eqCell, regM, ccM, widthM, longM, *]; done) | (rw [Bool.eq_iff_iff]; simp [wk, wkL, wkO, eqCells, eqCell, regM, ccM, widthM, longM, *]; omega) | (rw [Bool.eq_iff_iff]; simp [wk, wkL, wkO, eqCells, eqCell, regM, ccM, widthM, longM, *]; grind) | (subst_vars; rw [Bool.eq_iff_iff]; simp; grind))
theorem rcc_ok (n : Int) : Ret Try.prog 105 ([.int .i8 n]) (.bool (ccM n)) := by
 rcases bft (decide (n < 2)) with h0 | h0
 ·exact (o105 (d := .bool false) [tC (eT (leL 2 h0)), tC (eT (leL 2 h0)), tC (leL 2 h0), tT, tT, tT, tC (eT (leL 12 (ltU 12 h0))), tC (eT (leL 12 (ltU 12 h0))), tT, tC (leL 12 (ltU 12 h0)), tF] (by kernel_rfl)).to (by (try simp only [sl0, wk, wkL, wkO, eqCells, eqCell, regM, ccM, widthM, longM] at *); first | (simp [wk, wkL, wkO, eqCells, eqCell, regM, ccM, widthM, longM, *]; done) | (simp [wk, wkL, wkO, eqCells, eqCell, regM, ccM, widthM, longM, *]; omega) | (rw [Bool.eq_iff_iff]; simp [wk, wkL, wkO, eqCells, eqCell, regM, ccM, widthM, longM, *]; done) | (rw [Bool.eq_iff_iff]; simp [wk, wkL, wkO, eqCells, eqCell, regM, ccM, widthM, longM, *]; omega) | (rw [Bool.eq_iff_iff]; simp [wk, wkL, wkO, eqCells, eqCell, regM, ccM, widthM, longM, *]; grind) | (subst_vars; rw [Bool.eq_iff_iff]; simp; grind))
 let E1 : EL := [tC (eT (leL 2 h0)), tC (eT (leL 2 h0)), tC (leL 2 h0)]
 rcases bft (decide (n < 8)) with h1 | h1
 ·exact (o105 (d := .bool true) (E1 ++ List.replicate 4 (tC (eF (leC 7 h1))) ++ [tC (leC 7 h1)]) (by kernel_rfl)).to (by clear E1; (try simp only [sl0, wk, wkL, wkO, eqCells, eqCell, regM, ccM, widthM, longM] at *); first | (simp [wk, wkL, wkO, eqCells, eqCell, regM, ccM, widthM, longM, *]; done) | (simp [wk, wkL, wkO, eqCells, eqCell, regM, ccM, widthM, longM, *]; omega) | (rw [Bool.eq_iff_iff]; simp [wk, wkL, wkO, eqCells, eqCell, regM, ccM, widthM, longM, *]; done) | (rw [Bool.eq_iff_iff]; simp [wk, wkL, wkO, eqCells, eqCell, regM, ccM, widthM, longM, *]; omega) | (rw [Bool.eq_iff_iff]; simp [wk, wkL, wkO, eqCells, eqCell, regM, ccM, widthM, longM, *]; grind) | (subst_vars; rw [Bool.eq_iff_iff]; simp; grind))
 rcases bft (decide (n < 12)) with h2 | h2
 ·exact (o105 (d := .bool false) (E1 ++ List.replicate 3 (tC (eF (leC 7 h1))) ++ [tC (eT (leL 12 h2)), tC (eT (leL 12 h2)), tC (eF (leC 7 h1)), tC (leL 12 h2), tC (leC 7 h1)]) (by kernel_rfl)).to (by clear E1; (try simp only [sl0, wk, wkL, wkO, eqCells, eqCell, regM, ccM, widthM, longM] at *); first | (simp [wk, wkL, wkO, eqCells, eqCell, regM, ccM, widthM, longM, *]; done) | (simp [wk, wkL, wkO, eqCells, eqCell, regM, ccM, widthM, longM, *]; omega) | (rw [Bool.eq_iff_iff]; simp [wk, wkL, wkO, eqCells, eqCell, regM, ccM, widthM, longM, *]; done) | (rw [Bool.eq_iff_iff]; simp [wk, wkL, wkO, eqCells, eqCell, regM, ccM, widthM, longM, *]; omega) | (rw [Bool.eq_iff_iff]; simp [wk, wkL, wkO, eqCells, eqCell, regM, ccM, widthM, longM, *]; grind) | (subst_vars; rw [Bool.eq_iff_iff]; simp; grind))
 exact (o105 (d := .bool (decide (n ≤ 15))) (E1 ++ List.replicate 3 (tC (eF (leC 7 h1))) ++ [tC (eT (leL 12 h2)), tC (eT (leL 12 h2)), tC (eF (leC 7 h1)), tC (leL 12 h2), tC (leC 7 h1)]) (by kernel_rfl)).to (by clear E1; (try simp only [sl0, wk, wkL, wkO, eqCells, eqCell, regM, ccM, widthM, longM] at *); first | (simp [wk, wkL, wkO, eqCells, eqCell, regM, ccM, widthM, longM, *]; done) | (simp [wk, wkL, wkO, eqCells, eqCell, regM, ccM, widthM, longM, *]; omega) | (rw [Bool.eq_iff_iff]; simp [wk, wkL, wkO, eqCells, eqCell, regM, ccM, widthM, longM, *]; done) | (rw [Bool.eq_iff_iff]; simp [wk, wkL, wkO, eqCells, eqCell, regM, ccM, widthM, longM, *]; omega) | (rw [Bool.eq_iff_iff]; simp [wk, wkL, wkO, eqCells, eqCell, regM, ccM, widthM, longM, *]; grind) | (subst_vars; rw [Bool.eq_iff_iff]; simp; grind))
theorem rlong_ok (n : Int) : Ret Try.prog 104 ([.int .i8 n]) (.bool (longM n)) := by
 by_cases h0 : n = 32
 ·subst h0
  exact (o104 (d := .bool true) [tF, tF, tT] (by kernel_rfl)).to (by (try simp only [sl0, wk, wkL, wkO, eqCells, eqCell, regM, ccM, widthM, longM] at *); first | (simp [wk, wkL, wkO, eqCells, eqCell, regM, ccM, widthM, longM, *]; done) | (simp [wk, wkL, wkO, eqCells, eqCell, regM, ccM, widthM, longM, *]; omega) | (rw [Bool.eq_iff_iff]; simp [wk, wkL, wkO, eqCells, eqCell, regM, ccM, widthM, longM, *]; done) | (rw [Bool.eq_iff_iff]; simp [wk, wkL, wkO, eqCells, eqCell, regM, ccM, widthM, longM, *]; omega) | (rw [Bool.eq_iff_iff]; simp [wk, wkL, wkO, eqCells, eqCell, regM, ccM, widthM, longM, *]; grind) | (subst_vars; rw [Bool.eq_iff_iff]; simp; grind))
 exact (o104 (d := .bool (n == 64)) [tC (eF (neOf h0)), tC (eF (neOf h0)), tC (neOf h0)] (by kernel_rfl)).to (by (try simp only [sl0, wk, wkL, wkO, eqCells, eqCell, regM, ccM, widthM, longM] at *); first | (simp [wk, wkL, wkO, eqCells, eqCell, regM, ccM, widthM, longM, *]; done) | (simp [wk, wkL, wkO, eqCells, eqCell, regM, ccM, widthM, longM, *]; omega) | (rw [Bool.eq_iff_iff]; simp [wk, wkL, wkO, eqCells, eqCell, regM, ccM, widthM, longM, *]; done) | (rw [Bool.eq_iff_iff]; simp [wk, wkL, wkO, eqCells, eqCell, regM, ccM, widthM, longM, *]; omega) | (rw [Bool.eq_iff_iff]; simp [wk, wkL, wkO, eqCells, eqCell, regM, ccM, widthM, longM, *]; grind) | (subst_vars; rw [Bool.eq_iff_iff]; simp; grind))
theorem rwidth_ok (n : Int) : Ret Try.prog 106 ([.int .i8 n]) (.bool (widthM n)) := by
 by_cases h0 : n = 8
 ·subst h0
  exact (o106 (d := .bool true) [tF, tF, tT, tF, tF, tT, tF, tF, tT] (by kernel_rfl)).to (by (try simp only [sl0, wk, wkL, wkO, eqCells, eqCell, regM, ccM, widthM, longM] at *); first | (simp [wk, wkL, wkO, eqCells, eqCell, regM, ccM, widthM, longM, *]; done) | (simp [wk, wkL, wkO, eqCells, eqCell, regM, ccM, widthM, longM, *]; omega) | (rw [Bool.eq_iff_iff]; simp [wk, wkL, wkO, eqCells, eqCell, regM, ccM, widthM, longM, *]; done) | (rw [Bool.eq_iff_iff]; simp [wk, wkL, wkO, eqCells, eqCell, regM, ccM, widthM, longM, *]; omega) | (rw [Bool.eq_iff_iff]; simp [wk, wkL, wkO, eqCells, eqCell, regM, ccM, widthM, longM, *]; grind) | (subst_vars; rw [Bool.eq_iff_iff]; simp; grind))
 let E1 : EL := [tC (eF (neOf h0)), tC (eF (neOf h0)), tC (neOf h0)]
 by_cases h1 : n = 16
 ·subst h1
  exact (o106 (d := .bool true) (E1 ++ [tF, tF, tT, tF, tF, tT]) (by kernel_rfl)).to (by clear E1; (try simp only [sl0, wk, wkL, wkO, eqCells, eqCell, regM, ccM, widthM, longM] at *); first | (simp [wk, wkL, wkO, eqCells, eqCell, regM, ccM, widthM, longM, *]; done) | (simp [wk, wkL, wkO, eqCells, eqCell, regM, ccM, widthM, longM, *]; omega) | (rw [Bool.eq_iff_iff]; simp [wk, wkL, wkO, eqCells, eqCell, regM, ccM, widthM, longM, *]; done) | (rw [Bool.eq_iff_iff]; simp [wk, wkL, wkO, eqCells, eqCell, regM, ccM, widthM, longM, *]; omega) | (rw [Bool.eq_iff_iff]; simp [wk, wkL, wkO, eqCells, eqCell, regM, ccM, widthM, longM, *]; grind) | (subst_vars; rw [Bool.eq_iff_iff]; simp; grind))
 by_cases h2 : n = 32
 ·subst h2
  exact (o106 (d := .bool true) (E1 ++ [tC (eF (neOf h1)), tC (eF (neOf h1)), tC (neOf h1), tF, tF, tT]) (by kernel_rfl)).to (by clear E1; (try simp only [sl0, wk, wkL, wkO, eqCells, eqCell, regM, ccM, widthM, longM] at *); first | (simp [wk, wkL, wkO, eqCells, eqCell, regM, ccM, widthM, longM, *]; done) | (simp [wk, wkL, wkO, eqCells, eqCell, regM, ccM, widthM, longM, *]; omega) | (rw [Bool.eq_iff_iff]; simp [wk, wkL, wkO, eqCells, eqCell, regM, ccM, widthM, longM, *]; done) | (rw [Bool.eq_iff_iff]; simp [wk, wkL, wkO, eqCells, eqCell, regM, ccM, widthM, longM, *]; omega) | (rw [Bool.eq_iff_iff]; simp [wk, wkL, wkO, eqCells, eqCell, regM, ccM, widthM, longM, *]; grind) | (subst_vars; rw [Bool.eq_iff_iff]; simp; grind))
 exact (o106 (d := .bool (n == 64)) (E1 ++ [tC (eF (neOf h1)), tC (eF (neOf h1)), tC (neOf h1), tC (eF (neOf h2)), tC (eF (neOf h2)), tC (neOf h2)]) (by kernel_rfl)).to (by clear E1; (try simp only [sl0, wk, wkL, wkO, eqCells, eqCell, regM, ccM, widthM, longM] at *); first | (simp [wk, wkL, wkO, eqCells, eqCell, regM, ccM, widthM, longM, *]; done) | (simp [wk, wkL, wkO, eqCells, eqCell, regM, ccM, widthM, longM, *]; omega) | (rw [Bool.eq_iff_iff]; simp [wk, wkL, wkO, eqCells, eqCell, regM, ccM, widthM, longM, *]; done) | (rw [Bool.eq_iff_iff]; simp [wk, wkL, wkO, eqCells, eqCell, regM, ccM, widthM, longM, *]; omega) | (rw [Bool.eq_iff_iff]; simp [wk, wkL, wkO, eqCells, eqCell, regM, ccM, widthM, longM, *]; grind) | (subst_vars; rw [Bool.eq_iff_iff]; simp; grind))
theorem rfour_ok (n : Int) : Ret Try.prog 103 ([.int .i64 n]) (.bool (decide (-2147483648 ≤ n ∧ n ≤ 2147483647))) := by
 rcases bft (decide (n < (-2147483648))) with h0 | h0
 ·exact (o103 (d := .bool false) [tC (eT (leL (-2147483648) h0)), tC (eT (leL (-2147483648) h0)), tC (leL (-2147483648) h0)] (by kernel_rfl)).to (by (try simp only [sl0, wk, wkL, wkO, eqCells, eqCell, regM, ccM, widthM, longM] at *); first | (simp [wk, wkL, wkO, eqCells, eqCell, regM, ccM, widthM, longM, *]; done) | (simp [wk, wkL, wkO, eqCells, eqCell, regM, ccM, widthM, longM, *]; omega) | (rw [Bool.eq_iff_iff]; simp [wk, wkL, wkO, eqCells, eqCell, regM, ccM, widthM, longM, *]; done) | (rw [Bool.eq_iff_iff]; simp [wk, wkL, wkO, eqCells, eqCell, regM, ccM, widthM, longM, *]; omega) | (rw [Bool.eq_iff_iff]; simp [wk, wkL, wkO, eqCells, eqCell, regM, ccM, widthM, longM, *]; grind) | (subst_vars; rw [Bool.eq_iff_iff]; simp; grind))
 exact (o103 (d := .bool (decide (n < 2147483648))) [tC (eT (leL (-2147483648) h0)), tC (eT (leL (-2147483648) h0)), tC (leL (-2147483648) h0)] (by kernel_rfl)).to (by (try simp only [sl0, wk, wkL, wkO, eqCells, eqCell, regM, ccM, widthM, longM] at *); first | (simp [wk, wkL, wkO, eqCells, eqCell, regM, ccM, widthM, longM, *]; done) | (simp [wk, wkL, wkO, eqCells, eqCell, regM, ccM, widthM, longM, *]; omega) | (rw [Bool.eq_iff_iff]; simp [wk, wkL, wkO, eqCells, eqCell, regM, ccM, widthM, longM, *]; done) | (rw [Bool.eq_iff_iff]; simp [wk, wkL, wkO, eqCells, eqCell, regM, ccM, widthM, longM, *]; omega) | (rw [Bool.eq_iff_iff]; simp [wk, wkL, wkO, eqCells, eqCell, regM, ccM, widthM, longM, *]; grind) | (subst_vars; rw [Bool.eq_iff_iff]; simp; grind))
theorem rone_ok (n : Int) : Ret Try.prog 107 ([.int .i64 n]) (.bool (decide (-128 ≤ n ∧ n ≤ 127))) := by
 rcases bft (decide (n < (-128))) with h0 | h0
 ·exact (o107 (d := .bool false) [tC (eT (leL (-128) h0)), tC (eT (leL (-128) h0)), tC (leL (-128) h0)] (by kernel_rfl)).to (by (try simp only [sl0, wk, wkL, wkO, eqCells, eqCell, regM, ccM, widthM, longM] at *); first | (simp [wk, wkL, wkO, eqCells, eqCell, regM, ccM, widthM, longM, *]; done) | (simp [wk, wkL, wkO, eqCells, eqCell, regM, ccM, widthM, longM, *]; omega) | (rw [Bool.eq_iff_iff]; simp [wk, wkL, wkO, eqCells, eqCell, regM, ccM, widthM, longM, *]; done) | (rw [Bool.eq_iff_iff]; simp [wk, wkL, wkO, eqCells, eqCell, regM, ccM, widthM, longM, *]; omega) | (rw [Bool.eq_iff_iff]; simp [wk, wkL, wkO, eqCells, eqCell, regM, ccM, widthM, longM, *]; grind) | (subst_vars; rw [Bool.eq_iff_iff]; simp; grind))
 exact (o107 (d := .bool (decide (n < 128))) [tC (eT (leL (-128) h0)), tC (eT (leL (-128) h0)), tC (leL (-128) h0)] (by kernel_rfl)).to (by (try simp only [sl0, wk, wkL, wkO, eqCells, eqCell, regM, ccM, widthM, longM] at *); first | (simp [wk, wkL, wkO, eqCells, eqCell, regM, ccM, widthM, longM, *]; done) | (simp [wk, wkL, wkO, eqCells, eqCell, regM, ccM, widthM, longM, *]; omega) | (rw [Bool.eq_iff_iff]; simp [wk, wkL, wkO, eqCells, eqCell, regM, ccM, widthM, longM, *]; done) | (rw [Bool.eq_iff_iff]; simp [wk, wkL, wkO, eqCells, eqCell, regM, ccM, widthM, longM, *]; omega) | (rw [Bool.eq_iff_iff]; simp [wk, wkL, wkO, eqCells, eqCell, regM, ccM, widthM, longM, *]; grind) | (subst_vars; rw [Bool.eq_iff_iff]; simp; grind))
theorem class_ok (op : Int) : Ret Try.prog 99 ([.int .i8 op]) (.int .i64 (classM op)) := by
 by_cases h0 : op = 0
 ·subst h0
  exact (o99 (d := .int .i64 1) [tT, tT] (by kernel_rfl)).to (by (simp only [wk, D.int.injEq, true_and]; decide))
 let E1 : EL := [tC (neOf h0)]
 by_cases h1 : op = 2
 ·subst h1
  exact (o99 (d := .int .i64 1) (E1 ++ [tT, tT]) (by kernel_rfl)).to (by (simp only [wk, D.int.injEq, true_and]; decide))
 let E2 : EL := E1 ++ [tC (neOf h1)]
 by_cases h2 : op = 3
 ·subst h2
  exact (o99 (d := .int .i64 1) (E2 ++ [tT, tT]) (by kernel_rfl)).to (by (simp only [wk, D.int.injEq, true_and]; decide))
 let E3 : EL := E2 ++ [tC (neOf h2)]
 by_cases h3 : op = 4
 ·subst h3
  exact (o99 (d := .int .i64 1) (E3 ++ [tT, tT]) (by kernel_rfl)).to (by (simp only [wk, D.int.injEq, true_and]; decide))
 let E4 : EL := E3 ++ [tC (neOf h3)]
 by_cases h4 : op = 5
 ·subst h4
  exact (o99 (d := .int .i64 1) (E4 ++ [tT, tT]) (by kernel_rfl)).to (by (simp only [wk, D.int.injEq, true_and]; decide))
 let E5 : EL := E4 ++ [tC (neOf h4)]
 by_cases h5 : op = 6
 ·subst h5
  exact (o99 (d := .int .i64 1) (E5 ++ [tT, tT]) (by kernel_rfl)).to (by (simp only [wk, D.int.injEq, true_and]; decide))
 let E6 : EL := E5 ++ [tC (neOf h5)]
 by_cases h6 : op = 7
 ·subst h6
  exact (o99 (d := .int .i64 1) (E6 ++ [tT, tT]) (by kernel_rfl)).to (by (simp only [wk, D.int.injEq, true_and]; decide))
 let E7 : EL := E6 ++ [tC (neOf h6)]
 by_cases h7 : op = 8
 ·subst h7
  exact (o99 (d := .int .i64 1) (E7 ++ [tT, tT]) (by kernel_rfl)).to (by (simp only [wk, D.int.injEq, true_and]; decide))
 let E8 : EL := E7 ++ [tC (neOf h7)]
 by_cases h8 : op = 16
 ·subst h8
  exact (o99 (d := .int .i64 1) (E8 ++ [tT]) (by kernel_rfl)).to (by (simp only [wk, D.int.injEq, true_and]; decide))
 let E9 : EL := E8 ++ [tC (neOf h8)]
 by_cases h9 : op = 1
 ·subst h9
  exact (o99 (d := .int .i64 2) (E9 ++ [tT, tT]) (by kernel_rfl)).to (by (simp only [wk, D.int.injEq, true_and]; decide))
 let E10 : EL := E9 ++ [tC (neOf h9)]
 by_cases h10 : op = 9
 ·subst h10
  exact (o99 (d := .int .i64 2) (E10 ++ [tT, tT]) (by kernel_rfl)).to (by (simp only [wk, D.int.injEq, true_and]; decide))
 let E11 : EL := E10 ++ [tC (neOf h10)]
 by_cases h11 : op = 10
 ·subst h11
  exact (o99 (d := .int .i64 2) (E11 ++ [tT, tT]) (by kernel_rfl)).to (by (simp only [wk, D.int.injEq, true_and]; decide))
 let E12 : EL := E11 ++ [tC (neOf h11)]
 by_cases h12 : op = 11
 ·subst h12
  exact (o99 (d := .int .i64 2) (E12 ++ [tT, tT]) (by kernel_rfl)).to (by (simp only [wk, D.int.injEq, true_and]; decide))
 let E13 : EL := E12 ++ [tC (neOf h12)]
 by_cases h13 : op = 12
 ·subst h13
  exact (o99 (d := .int .i64 2) (E13 ++ [tT, tT]) (by kernel_rfl)).to (by (simp only [wk, D.int.injEq, true_and]; decide))
 let E14 : EL := E13 ++ [tC (neOf h13)]
 by_cases h14 : op = 13
 ·subst h14
  exact (o99 (d := .int .i64 2) (E14 ++ [tT, tT]) (by kernel_rfl)).to (by (simp only [wk, D.int.injEq, true_and]; decide))
 let E15 : EL := E14 ++ [tC (neOf h14)]
 by_cases h15 : op = 14
 ·subst h15
  exact (o99 (d := .int .i64 2) (E15 ++ [tT, tT]) (by kernel_rfl)).to (by (simp only [wk, D.int.injEq, true_and]; decide))
 let E16 : EL := E15 ++ [tC (neOf h15)]
 by_cases h16 : op = 15
 ·subst h16
  exact (o99 (d := .int .i64 2) (E16 ++ [tT]) (by kernel_rfl)).to (by (simp only [wk, D.int.injEq, true_and]; decide))
 let E17 : EL := E16 ++ [tC (neOf h16)]
 by_cases h17 : op = 17
 ·subst h17
  exact (o99 (d := .int .i64 3) (E17 ++ [tT, tT]) (by kernel_rfl)).to (by (simp only [wk, D.int.injEq, true_and]; decide))
 let E18 : EL := E17 ++ [tC (neOf h17)]
 by_cases h18 : op = 18
 ·subst h18
  exact (o99 (d := .int .i64 3) (E18 ++ [tT, tT]) (by kernel_rfl)).to (by (simp only [wk, D.int.injEq, true_and]; decide))
 let E19 : EL := E18 ++ [tC (neOf h18)]
 by_cases h19 : op = 19
 ·subst h19
  exact (o99 (d := .int .i64 3) (E19 ++ [tT]) (by kernel_rfl)).to (by (simp only [wk, D.int.injEq, true_and]; decide))
 let E20 : EL := E19 ++ [tC (neOf h19)]
 by_cases h20 : op = 20
 ·subst h20
  exact (o99 (d := .int .i64 4) (E20 ++ [tT, tT]) (by kernel_rfl)).to (by (simp only [wk, D.int.injEq, true_and]; decide))
 let E21 : EL := E20 ++ [tC (neOf h20)]
 by_cases h21 : op = 21
 ·subst h21
  exact (o99 (d := .int .i64 4) (E21 ++ [tT, tT]) (by kernel_rfl)).to (by (simp only [wk, D.int.injEq, true_and]; decide))
 let E22 : EL := E21 ++ [tC (neOf h21)]
 by_cases h22 : op = 22
 ·subst h22
  exact (o99 (d := .int .i64 4) (E22 ++ [tT, tT]) (by kernel_rfl)).to (by (simp only [wk, D.int.injEq, true_and]; decide))
 let E23 : EL := E22 ++ [tC (neOf h22)]
 by_cases h23 : op = 23
 ·subst h23
  exact (o99 (d := .int .i64 4) (E23 ++ [tT, tT]) (by kernel_rfl)).to (by (simp only [wk, D.int.injEq, true_and]; decide))
 let E24 : EL := E23 ++ [tC (neOf h23)]
 by_cases h24 : op = 24
 ·subst h24
  exact (o99 (d := .int .i64 4) (E24 ++ [tT]) (by kernel_rfl)).to (by (simp only [wk, D.int.injEq, true_and]; decide))
 let E25 : EL := E24 ++ [tC (neOf h24)]
 by_cases h25 : op = 25
 ·subst h25
  exact (o99 (d := .int .i64 5) (E25 ++ [tT]) (by kernel_rfl)).to (by (simp only [wk, D.int.injEq, true_and]; decide))
 let E26 : EL := E25 ++ [tC (neOf h25)]
 by_cases h26 : op = 26
 ·subst h26
  exact (o99 (d := .int .i64 6) (E26 ++ [tT]) (by kernel_rfl)).to (by (simp only [wk, D.int.injEq, true_and]; decide))
 let E27 : EL := E26 ++ [tC (neOf h26)]
 by_cases h27 : op = 27
 ·subst h27
  exact (o99 (d := .int .i64 7) (E27 ++ [tT]) (by kernel_rfl)).to (by (simp only [wk, D.int.injEq, true_and]; decide))
 by_cases h28 : op = 28
 ·subst h28
  exact (o99 (d := .int .i64 8) (E27 ++ [tC (neOf h27), tT]) (by kernel_rfl)).to (by (simp only [wk, D.int.injEq, true_and]; decide))
 let E28 : EL := E27 ++ [tC (neOf h27), tC (neOf h28)]
 by_cases h29 : op = 29
 ·subst h29
  exact (o99 (d := .int .i64 9) (E28 ++ [tT]) (by kernel_rfl)).to (by (simp only [wk, D.int.injEq, true_and]; decide))
 by_cases h30 : op = 30
 ·subst h30
  exact (o99 (d := .int .i64 10) (E28 ++ [tC (neOf h29), tT, tT]) (by kernel_rfl)).to (by (simp only [wk, D.int.injEq, true_and]; decide))
 by_cases h31 : op = 31
 ·subst h31
  exact (o99 (d := .int .i64 10) (E28 ++ [tC (neOf h29), tC (neOf h30), tT]) (by kernel_rfl)).to (by (simp only [wk, D.int.injEq, true_and]; decide))
 exact (o99 (d := .int .i64 0) (E28 ++ [tC (neOf h29), tC (neOf h30), tC (neOf h31)]) (by kernel_rfl)).to (by (simp only [wk, D.int.injEq, true_and]; unfold classM shapeM; (repeat split) <;> omega))
theorem bareL_1_ok (op w dst src base disp imm cc : Int) : Ret Try.prog 113 ([xD op w dst src base disp imm cc, .int .i8 1]) (xD 0 0 0 0 base disp imm cc) := by
 let E1 : EL := [tT, tT, tT, tT, tF, tF, .flat _ _ flat_X]
 by_cases h0 : base = 0
 ·subst h0
  by_cases h1 : disp = 0
  ·subst h1
   by_cases h2 : imm = 0
   ·subst h2
    by_cases h3 : cc = 0
    ·subst h3
     exact (o113 (d := (xD 0 0 0 0 0 0 0 0)) (E1 ++ [tF]) (by kernel_rfl)).to (by (simp [wk, wkL, ]; done))
    exact (o113 (d := (xD 0 0 0 0 0 0 0 cc)) (E1 ++ [tC (nt (andT rfl (andT rfl (andT rfl (andT rfl (andT rfl (andT rfl (andT rfl (andF (y := true) (neOf h3))))))))))]) (by kernel_rfl)).to (by (simp [wk, wkL, h3]; done))
   exact (o113 (d := (xD 0 0 0 0 0 0 imm cc)) (E1 ++ [tC (nt (andT rfl (andT rfl (andT rfl (andT rfl (andT rfl (andT rfl (andF (y := eqCells [.int .i8 cc] [.int .i8 0]) (neOf h2)))))))))]) (by kernel_rfl)).to (by (simp [wk, wkL, h2]; done))
  exact (o113 (d := (xD 0 0 0 0 0 disp imm cc)) (E1 ++ [tC (nt (andT rfl (andT rfl (andT rfl (andT rfl (andT rfl (andF (y := eqCells [.int .i64 imm, .int .i8 cc] [.int .i64 0, .int .i8 0]) (neOf h1))))))))]) (by kernel_rfl)).to (by (simp [wk, wkL, h1]; done))
 exact (o113 (d := (xD 0 0 0 0 base disp imm cc)) (E1 ++ [tC (nt (andT rfl (andT rfl (andT rfl (andT rfl (andF (y := eqCells [.int .i64 disp, .int .i64 imm, .int .i8 cc] [.int .i64 0, .int .i64 0, .int .i8 0]) (neOf h0)))))))]) (by kernel_rfl)).to (by (simp [wk, wkL, h0]; done))
theorem bareL_2_ok (op w dst src base disp imm cc : Int) : Ret Try.prog 113 ([xD op w dst src base disp imm cc, .int .i8 2]) (xD 0 0 0 0 base disp imm cc) := by
 let E1 : EL := [tF, tT, tT, tT, tT, tF, tF, .flat _ _ flat_X]
 by_cases h0 : base = 0
 ·subst h0
  by_cases h1 : disp = 0
  ·subst h1
   by_cases h2 : imm = 0
   ·subst h2
    by_cases h3 : cc = 0
    ·subst h3
     exact (o113 (d := (xD 0 0 0 0 0 0 0 0)) (E1 ++ [tF]) (by kernel_rfl)).to (by (simp [wk, wkL, ]; done))
    exact (o113 (d := (xD 0 0 0 0 0 0 0 cc)) (E1 ++ [tC (nt (andT rfl (andT rfl (andT rfl (andT rfl (andT rfl (andT rfl (andT rfl (andF (y := true) (neOf h3))))))))))]) (by kernel_rfl)).to (by (simp [wk, wkL, h3]; done))
   exact (o113 (d := (xD 0 0 0 0 0 0 imm cc)) (E1 ++ [tC (nt (andT rfl (andT rfl (andT rfl (andT rfl (andT rfl (andT rfl (andF (y := eqCells [.int .i8 cc] [.int .i8 0]) (neOf h2)))))))))]) (by kernel_rfl)).to (by (simp [wk, wkL, h2]; done))
  exact (o113 (d := (xD 0 0 0 0 0 disp imm cc)) (E1 ++ [tC (nt (andT rfl (andT rfl (andT rfl (andT rfl (andT rfl (andF (y := eqCells [.int .i64 imm, .int .i8 cc] [.int .i64 0, .int .i8 0]) (neOf h1))))))))]) (by kernel_rfl)).to (by (simp [wk, wkL, h1]; done))
 exact (o113 (d := (xD 0 0 0 0 base disp imm cc)) (E1 ++ [tC (nt (andT rfl (andT rfl (andT rfl (andT rfl (andF (y := eqCells [.int .i64 disp, .int .i64 imm, .int .i8 cc] [.int .i64 0, .int .i64 0, .int .i8 0]) (neOf h0)))))))]) (by kernel_rfl)).to (by (simp [wk, wkL, h0]; done))
theorem bareL_3_ok (op w dst src base disp imm cc : Int) : Ret Try.prog 113 ([xD op w dst src base disp imm cc, .int .i8 3]) (xD 0 0 0 src base disp 0 cc) := by
 let E1 : EL := [tF, tF, tF, tT, tT, tT, tT, tF, tF, .flat _ _ flat_X]
 by_cases h0 : src = 0
 ·subst h0
  by_cases h1 : base = 0
  ·subst h1
   by_cases h2 : disp = 0
   ·subst h2
    by_cases h3 : cc = 0
    ·subst h3
     exact (o113 (d := (xD 0 0 0 0 0 0 0 0)) (E1 ++ [tF]) (by kernel_rfl)).to (by (simp [wk, wkL, ]; done))
    exact (o113 (d := (xD 0 0 0 0 0 0 0 cc)) (E1 ++ [tC (nt (andT rfl (andT rfl (andT rfl (andT rfl (andT rfl (andT rfl (andT rfl (andF (y := true) (neOf h3))))))))))]) (by kernel_rfl)).to (by (simp [wk, wkL, h3]; done))
   exact (o113 (d := (xD 0 0 0 0 0 disp 0 cc)) (E1 ++ [tC (nt (andT rfl (andT rfl (andT rfl (andT rfl (andT rfl (andF (y := eqCells [.int .i64 0, .int .i8 cc] [.int .i64 0, .int .i8 0]) (neOf h2))))))))]) (by kernel_rfl)).to (by (simp [wk, wkL, h2]; done))
  exact (o113 (d := (xD 0 0 0 0 base disp 0 cc)) (E1 ++ [tC (nt (andT rfl (andT rfl (andT rfl (andT rfl (andF (y := eqCells [.int .i64 disp, .int .i64 0, .int .i8 cc] [.int .i64 0, .int .i64 0, .int .i8 0]) (neOf h1)))))))]) (by kernel_rfl)).to (by (simp [wk, wkL, h1]; done))
 exact (o113 (d := (xD 0 0 0 src base disp 0 cc)) (E1 ++ [tC (nt (andT rfl (andT rfl (andT rfl (andF (y := eqCells [.int .i8 base, .int .i64 disp, .int .i64 0, .int .i8 cc] [.int .i8 0, .int .i64 0, .int .i64 0, .int .i8 0]) (neOf h0))))))]) (by kernel_rfl)).to (by (simp [wk, wkL, h0]; done))
theorem bareL_4_ok (op w dst src base disp imm cc : Int) : Ret Try.prog 113 ([xD op w dst src base disp imm cc, .int .i8 4]) (xD 0 0 0 src base disp 0 cc) := by
 let E1 : EL := [tF, tF, tF, tF, tT, tT, tT, tF, tF, .flat _ _ flat_X]
 by_cases h0 : src = 0
 ·subst h0
  by_cases h1 : base = 0
  ·subst h1
   by_cases h2 : disp = 0
   ·subst h2
    by_cases h3 : cc = 0
    ·subst h3
     exact (o113 (d := (xD 0 0 0 0 0 0 0 0)) (E1 ++ [tF]) (by kernel_rfl)).to (by (simp [wk, wkL, ]; done))
    exact (o113 (d := (xD 0 0 0 0 0 0 0 cc)) (E1 ++ [tC (nt (andT rfl (andT rfl (andT rfl (andT rfl (andT rfl (andT rfl (andT rfl (andF (y := true) (neOf h3))))))))))]) (by kernel_rfl)).to (by (simp [wk, wkL, h3]; done))
   exact (o113 (d := (xD 0 0 0 0 0 disp 0 cc)) (E1 ++ [tC (nt (andT rfl (andT rfl (andT rfl (andT rfl (andT rfl (andF (y := eqCells [.int .i64 0, .int .i8 cc] [.int .i64 0, .int .i8 0]) (neOf h2))))))))]) (by kernel_rfl)).to (by (simp [wk, wkL, h2]; done))
  exact (o113 (d := (xD 0 0 0 0 base disp 0 cc)) (E1 ++ [tC (nt (andT rfl (andT rfl (andT rfl (andT rfl (andF (y := eqCells [.int .i64 disp, .int .i64 0, .int .i8 cc] [.int .i64 0, .int .i64 0, .int .i8 0]) (neOf h1)))))))]) (by kernel_rfl)).to (by (simp [wk, wkL, h1]; done))
 exact (o113 (d := (xD 0 0 0 src base disp 0 cc)) (E1 ++ [tC (nt (andT rfl (andT rfl (andT rfl (andF (y := eqCells [.int .i8 base, .int .i64 disp, .int .i64 0, .int .i8 cc] [.int .i8 0, .int .i64 0, .int .i64 0, .int .i8 0]) (neOf h0))))))]) (by kernel_rfl)).to (by (simp [wk, wkL, h0]; done))
theorem bareL_5_ok (op w dst src base disp imm cc : Int) : Ret Try.prog 113 ([xD op w dst src base disp imm cc, .int .i8 5]) (xD 0 0 0 src base disp imm cc) := by
 let E1 : EL := [tF, tF, tF, tF, tF, tT, tT, tT, tF, tF, .flat _ _ flat_X]
 by_cases h0 : src = 0
 ·subst h0
  by_cases h1 : base = 0
  ·subst h1
   by_cases h2 : disp = 0
   ·subst h2
    by_cases h3 : imm = 0
    ·subst h3
     by_cases h4 : cc = 0
     ·subst h4
      exact (o113 (d := (xD 0 0 0 0 0 0 0 0)) (E1 ++ [tF]) (by kernel_rfl)).to (by (simp [wk, wkL, ]; done))
     exact (o113 (d := (xD 0 0 0 0 0 0 0 cc)) (E1 ++ [tC (nt (andT rfl (andT rfl (andT rfl (andT rfl (andT rfl (andT rfl (andT rfl (andF (y := true) (neOf h4))))))))))]) (by kernel_rfl)).to (by (simp [wk, wkL, h4]; done))
    exact (o113 (d := (xD 0 0 0 0 0 0 imm cc)) (E1 ++ [tC (nt (andT rfl (andT rfl (andT rfl (andT rfl (andT rfl (andT rfl (andF (y := eqCells [.int .i8 cc] [.int .i8 0]) (neOf h3)))))))))]) (by kernel_rfl)).to (by (simp [wk, wkL, h3]; done))
   exact (o113 (d := (xD 0 0 0 0 0 disp imm cc)) (E1 ++ [tC (nt (andT rfl (andT rfl (andT rfl (andT rfl (andT rfl (andF (y := eqCells [.int .i64 imm, .int .i8 cc] [.int .i64 0, .int .i8 0]) (neOf h2))))))))]) (by kernel_rfl)).to (by (simp [wk, wkL, h2]; done))
  exact (o113 (d := (xD 0 0 0 0 base disp imm cc)) (E1 ++ [tC (nt (andT rfl (andT rfl (andT rfl (andT rfl (andF (y := eqCells [.int .i64 disp, .int .i64 imm, .int .i8 cc] [.int .i64 0, .int .i64 0, .int .i8 0]) (neOf h1)))))))]) (by kernel_rfl)).to (by (simp [wk, wkL, h1]; done))
 exact (o113 (d := (xD 0 0 0 src base disp imm cc)) (E1 ++ [tC (nt (andT rfl (andT rfl (andT rfl (andF (y := eqCells [.int .i8 base, .int .i64 disp, .int .i64 imm, .int .i8 cc] [.int .i8 0, .int .i64 0, .int .i64 0, .int .i8 0]) (neOf h0))))))]) (by kernel_rfl)).to (by (simp [wk, wkL, h0]; done))
theorem bareL_6_ok (op w dst src base disp imm cc : Int) : Ret Try.prog 113 ([xD op w dst src base disp imm cc, .int .i8 6]) (xD 0 0 0 0 base disp imm 0) := by
 let E1 : EL := [tF, tF, tT, tF, tF, tT, tT, .flat _ _ flat_X]
 by_cases h0 : base = 0
 ·subst h0
  by_cases h1 : disp = 0
  ·subst h1
   by_cases h2 : imm = 0
   ·subst h2
    exact (o113 (d := (xD 0 0 0 0 0 0 0 0)) (E1 ++ [tF]) (by kernel_rfl)).to (by (simp [wk, wkL, ]; done))
   exact (o113 (d := (xD 0 0 0 0 0 0 imm 0)) (E1 ++ [tC (nt (andT rfl (andT rfl (andT rfl (andT rfl (andT rfl (andT rfl (andF (y := true) (neOf h2)))))))))]) (by kernel_rfl)).to (by (simp [wk, wkL, h2]; done))
  exact (o113 (d := (xD 0 0 0 0 0 disp imm 0)) (E1 ++ [tC (nt (andT rfl (andT rfl (andT rfl (andT rfl (andT rfl (andF (y := eqCells [.int .i64 imm, .int .i8 0] [.int .i64 0, .int .i8 0]) (neOf h1))))))))]) (by kernel_rfl)).to (by (simp [wk, wkL, h1]; done))
 exact (o113 (d := (xD 0 0 0 0 base disp imm 0)) (E1 ++ [tC (nt (andT rfl (andT rfl (andT rfl (andT rfl (andF (y := eqCells [.int .i64 disp, .int .i64 imm, .int .i8 0] [.int .i64 0, .int .i64 0, .int .i8 0]) (neOf h0)))))))]) (by kernel_rfl)).to (by (simp [wk, wkL, h0]; done))
theorem bareL_7_ok (op w dst src base disp imm cc : Int) : Ret Try.prog 113 ([xD op w dst src base disp imm cc, .int .i8 7]) (xD 0 0 0 src 0 0 imm cc) := by
 let E1 : EL := [tF, tF, tF, tF, tF, tF, tT, tT, tT, tF, tF, .flat _ _ flat_X]
 by_cases h0 : src = 0
 ·subst h0
  by_cases h1 : imm = 0
  ·subst h1
   by_cases h2 : cc = 0
   ·subst h2
    exact (o113 (d := (xD 0 0 0 0 0 0 0 0)) (E1 ++ [tF]) (by kernel_rfl)).to (by (simp [wk, wkL, ]; done))
   exact (o113 (d := (xD 0 0 0 0 0 0 0 cc)) (E1 ++ [tC (nt (andT rfl (andT rfl (andT rfl (andT rfl (andT rfl (andT rfl (andT rfl (andF (y := true) (neOf h2))))))))))]) (by kernel_rfl)).to (by (simp [wk, wkL, h2]; done))
  exact (o113 (d := (xD 0 0 0 0 0 0 imm cc)) (E1 ++ [tC (nt (andT rfl (andT rfl (andT rfl (andT rfl (andT rfl (andT rfl (andF (y := eqCells [.int .i8 cc] [.int .i8 0]) (neOf h1)))))))))]) (by kernel_rfl)).to (by (simp [wk, wkL, h1]; done))
 exact (o113 (d := (xD 0 0 0 src 0 0 imm cc)) (E1 ++ [tC (nt (andT rfl (andT rfl (andT rfl (andF (y := eqCells [.int .i8 0, .int .i64 0, .int .i64 imm, .int .i8 cc] [.int .i8 0, .int .i64 0, .int .i64 0, .int .i8 0]) (neOf h0))))))]) (by kernel_rfl)).to (by (simp [wk, wkL, h0]; done))
theorem bareL_8_ok (op w dst src base disp imm cc : Int) : Ret Try.prog 113 ([xD op w dst src base disp imm cc, .int .i8 8]) (xD 0 0 dst 0 0 0 imm cc) := by
 let E1 : EL := [tF, tF, tF, tF, tF, tF, tF, tT, tT, tT, tF, tF, .flat _ _ flat_X]
 by_cases h0 : dst = 0
 ·subst h0
  by_cases h1 : imm = 0
  ·subst h1
   by_cases h2 : cc = 0
   ·subst h2
    exact (o113 (d := (xD 0 0 0 0 0 0 0 0)) (E1 ++ [tF]) (by kernel_rfl)).to (by (simp [wk, wkL, ]; done))
   exact (o113 (d := (xD 0 0 0 0 0 0 0 cc)) (E1 ++ [tC (nt (andT rfl (andT rfl (andT rfl (andT rfl (andT rfl (andT rfl (andT rfl (andF (y := true) (neOf h2))))))))))]) (by kernel_rfl)).to (by (simp [wk, wkL, h2]; done))
  exact (o113 (d := (xD 0 0 0 0 0 0 imm cc)) (E1 ++ [tC (nt (andT rfl (andT rfl (andT rfl (andT rfl (andT rfl (andT rfl (andF (y := eqCells [.int .i8 cc] [.int .i8 0]) (neOf h1)))))))))]) (by kernel_rfl)).to (by (simp [wk, wkL, h1]; done))
 exact (o113 (d := (xD 0 0 dst 0 0 0 imm cc)) (E1 ++ [tC (nt (andT rfl (andT rfl (andF (y := eqCells [.int .i8 0, .int .i8 0, .int .i64 0, .int .i64 imm, .int .i8 cc] [.int .i8 0, .int .i8 0, .int .i64 0, .int .i64 0, .int .i8 0]) (neOf h0)))))]) (by kernel_rfl)).to (by (simp [wk, wkL, h0]; done))
theorem bareL_9_ok (op w dst src base disp imm cc : Int) : Ret Try.prog 113 ([xD op w dst src base disp imm cc, .int .i8 9]) (xD 0 0 dst src base disp 0 cc) := by
 let E1 : EL := (List.replicate 8 tF ++ [tT, tT, tT, tT, tF, tF, .flat _ _ flat_X])
 by_cases h0 : dst = 0
 ·subst h0
  by_cases h1 : src = 0
  ·subst h1
   by_cases h2 : base = 0
   ·subst h2
    by_cases h3 : disp = 0
    ·subst h3
     by_cases h4 : cc = 0
     ·subst h4
      exact (o113 (d := (xD 0 0 0 0 0 0 0 0)) (E1 ++ [tF]) (by kernel_rfl)).to (by (simp [wk, wkL, ]; done))
     exact (o113 (d := (xD 0 0 0 0 0 0 0 cc)) (E1 ++ [tC (nt (andT rfl (andT rfl (andT rfl (andT rfl (andT rfl (andT rfl (andT rfl (andF (y := true) (neOf h4))))))))))]) (by kernel_rfl)).to (by (simp [wk, wkL, h4]; done))
    exact (o113 (d := (xD 0 0 0 0 0 disp 0 cc)) (E1 ++ [tC (nt (andT rfl (andT rfl (andT rfl (andT rfl (andT rfl (andF (y := eqCells [.int .i64 0, .int .i8 cc] [.int .i64 0, .int .i8 0]) (neOf h3))))))))]) (by kernel_rfl)).to (by (simp [wk, wkL, h3]; done))
   exact (o113 (d := (xD 0 0 0 0 base disp 0 cc)) (E1 ++ [tC (nt (andT rfl (andT rfl (andT rfl (andT rfl (andF (y := eqCells [.int .i64 disp, .int .i64 0, .int .i8 cc] [.int .i64 0, .int .i64 0, .int .i8 0]) (neOf h2)))))))]) (by kernel_rfl)).to (by (simp [wk, wkL, h2]; done))
  exact (o113 (d := (xD 0 0 0 src base disp 0 cc)) (E1 ++ [tC (nt (andT rfl (andT rfl (andT rfl (andF (y := eqCells [.int .i8 base, .int .i64 disp, .int .i64 0, .int .i8 cc] [.int .i8 0, .int .i64 0, .int .i64 0, .int .i8 0]) (neOf h1))))))]) (by kernel_rfl)).to (by (simp [wk, wkL, h1]; done))
 exact (o113 (d := (xD 0 0 dst src base disp 0 cc)) (E1 ++ [tC (nt (andT rfl (andT rfl (andF (y := eqCells [.int .i8 src, .int .i8 base, .int .i64 disp, .int .i64 0, .int .i8 cc] [.int .i8 0, .int .i8 0, .int .i64 0, .int .i64 0, .int .i8 0]) (neOf h0)))))]) (by kernel_rfl)).to (by (simp [wk, wkL, h0]; done))
theorem bareL_10_ok (op w dst src base disp imm cc : Int) : Ret Try.prog 113 ([xD op w dst src base disp imm cc, .int .i8 10]) (xD 0 0 dst src base disp 0 0) := by
 let E1 : EL := (List.replicate 9 tF ++ [tT, tT, tT, tF, tT, .flat _ _ flat_X])
 by_cases h0 : dst = 0
 ·subst h0
  by_cases h1 : src = 0
  ·subst h1
   by_cases h2 : base = 0
   ·subst h2
    by_cases h3 : disp = 0
    ·subst h3
     exact (o113 (d := (xD 0 0 0 0 0 0 0 0)) (E1 ++ [tF]) (by kernel_rfl)).to (by (simp [wk, wkL, ]; done))
    exact (o113 (d := (xD 0 0 0 0 0 disp 0 0)) (E1 ++ [tC (nt (andT rfl (andT rfl (andT rfl (andT rfl (andT rfl (andF (y := true) (neOf h3))))))))]) (by kernel_rfl)).to (by (simp [wk, wkL, h3]; done))
   exact (o113 (d := (xD 0 0 0 0 base disp 0 0)) (E1 ++ [tC (nt (andT rfl (andT rfl (andT rfl (andT rfl (andF (y := eqCells [.int .i64 disp, .int .i64 0, .int .i8 0] [.int .i64 0, .int .i64 0, .int .i8 0]) (neOf h2)))))))]) (by kernel_rfl)).to (by (simp [wk, wkL, h2]; done))
  exact (o113 (d := (xD 0 0 0 src base disp 0 0)) (E1 ++ [tC (nt (andT rfl (andT rfl (andT rfl (andF (y := eqCells [.int .i8 base, .int .i64 disp, .int .i64 0, .int .i8 0] [.int .i8 0, .int .i64 0, .int .i64 0, .int .i8 0]) (neOf h1))))))]) (by kernel_rfl)).to (by (simp [wk, wkL, h1]; done))
 exact (o113 (d := (xD 0 0 dst src base disp 0 0)) (E1 ++ [tC (nt (andT rfl (andT rfl (andF (y := eqCells [.int .i8 src, .int .i8 base, .int .i64 disp, .int .i64 0, .int .i8 0] [.int .i8 0, .int .i8 0, .int .i64 0, .int .i64 0, .int .i8 0]) (neOf h0)))))]) (by kernel_rfl)).to (by (simp [wk, wkL, h0]; done))
theorem bareL_11_ok (op w dst src base disp imm cc : Int) : Ret Try.prog 113 ([xD op w dst src base disp imm cc, .int .i8 11]) (xD 0 w dst src base disp imm cc) := by
 let E1 : EL := (List.replicate 10 tF ++ [tT, tT, tF, tF, .flat _ _ flat_X])
 by_cases h0 : w = 0
 ·subst h0
  by_cases h1 : dst = 0
  ·subst h1
   by_cases h2 : src = 0
   ·subst h2
    by_cases h3 : base = 0
    ·subst h3
     by_cases h4 : disp = 0
     ·subst h4
      by_cases h5 : imm = 0
      ·subst h5
       by_cases h6 : cc = 0
       ·subst h6
        exact (o113 (d := (xD 0 0 0 0 0 0 0 0)) (E1 ++ [tF]) (by kernel_rfl)).to (by (simp [wk, wkL, ]; done))
       exact (o113 (d := (xD 0 0 0 0 0 0 0 cc)) (E1 ++ [tC (nt (andT rfl (andT rfl (andT rfl (andT rfl (andT rfl (andT rfl (andT rfl (andF (y := true) (neOf h6))))))))))]) (by kernel_rfl)).to (by (simp [wk, wkL, h6]; done))
      exact (o113 (d := (xD 0 0 0 0 0 0 imm cc)) (E1 ++ [tC (nt (andT rfl (andT rfl (andT rfl (andT rfl (andT rfl (andT rfl (andF (y := eqCells [.int .i8 cc] [.int .i8 0]) (neOf h5)))))))))]) (by kernel_rfl)).to (by (simp [wk, wkL, h5]; done))
     exact (o113 (d := (xD 0 0 0 0 0 disp imm cc)) (E1 ++ [tC (nt (andT rfl (andT rfl (andT rfl (andT rfl (andT rfl (andF (y := eqCells [.int .i64 imm, .int .i8 cc] [.int .i64 0, .int .i8 0]) (neOf h4))))))))]) (by kernel_rfl)).to (by (simp [wk, wkL, h4]; done))
    exact (o113 (d := (xD 0 0 0 0 base disp imm cc)) (E1 ++ [tC (nt (andT rfl (andT rfl (andT rfl (andT rfl (andF (y := eqCells [.int .i64 disp, .int .i64 imm, .int .i8 cc] [.int .i64 0, .int .i64 0, .int .i8 0]) (neOf h3)))))))]) (by kernel_rfl)).to (by (simp [wk, wkL, h3]; done))
   exact (o113 (d := (xD 0 0 0 src base disp imm cc)) (E1 ++ [tC (nt (andT rfl (andT rfl (andT rfl (andF (y := eqCells [.int .i8 base, .int .i64 disp, .int .i64 imm, .int .i8 cc] [.int .i8 0, .int .i64 0, .int .i64 0, .int .i8 0]) (neOf h2))))))]) (by kernel_rfl)).to (by (simp [wk, wkL, h2]; done))
  exact (o113 (d := (xD 0 0 dst src base disp imm cc)) (E1 ++ [tC (nt (andT rfl (andT rfl (andF (y := eqCells [.int .i8 src, .int .i8 base, .int .i64 disp, .int .i64 imm, .int .i8 cc] [.int .i8 0, .int .i8 0, .int .i64 0, .int .i64 0, .int .i8 0]) (neOf h1)))))]) (by kernel_rfl)).to (by (simp [wk, wkL, h1]; done))
 exact (o113 (d := (xD 0 w dst src base disp imm cc)) (E1 ++ [tC (nt (andT rfl (andF (y := eqCells [.int .i8 dst, .int .i8 src, .int .i8 base, .int .i64 disp, .int .i64 imm, .int .i8 cc] [.int .i8 0, .int .i8 0, .int .i8 0, .int .i64 0, .int .i64 0, .int .i8 0]) (neOf h0))))]) (by kernel_rfl)).to (by (simp [wk, wkL, h0]; done))
theorem shape_none {op : Int} (h : op < 0 ∨ 32 ≤ op) : shapeM op = 0 ∧ codeM op = 0 ∧ numM op = 0 := by
 refine ⟨?_, ?_, ?_⟩
 ·unfold shapeM; repeat (rw [if_neg (by omega)])
 ·unfold codeM; repeat (rw [if_neg (by omega)])
 ·unfold numM; repeat (rw [if_neg (by omega)])
theorem of_any_ok (op : Int) (ho : op ≤ 127) : Ret Try.prog 57 [.int .i8 op] (.tup [.agg [.int .i8 (shapeM op), .int .u8 (codeM op), .int .i8 (numM op)], .bool (decide (0 ≤ op ∧ op ≤ 31))]) := by
 by_cases h1 : op < 0
 ·obtain ⟨e1, e2, e3⟩ := shape_none (.inl h1)
  rw [e1, e2, e3, decide_eq_false (by omega)]
  exact of_low_ok op h1
 ·by_cases h2 : 32 ≤ op
  ·obtain ⟨e1, e2, e3⟩ := shape_none (.inr h2)
   rw [e1, e2, e3, decide_eq_false (by omega)]
   exact of_high_ok op h2 ho
  ·rcases (by omega : op = 0 ∨ op = 1 ∨ op = 2 ∨ op = 3 ∨ op = 4 ∨ op = 5 ∨ op = 6 ∨ op = 7 ∨ op = 8 ∨ op = 9 ∨ op = 10 ∨ op = 11 ∨ op = 12 ∨ op = 13 ∨ op = 14 ∨ op = 15 ∨ op = 16 ∨ op = 17 ∨ op = 18 ∨ op = 19 ∨ op = 20 ∨ op = 21 ∨ op = 22 ∨ op = 23 ∨ op = 24 ∨ op = 25 ∨ op = 26 ∨ op = 27 ∨ op = 28 ∨ op = 29 ∨ op = 30 ∨ op = 31) with rfl | rfl | rfl | rfl | rfl | rfl | rfl | rfl | rfl | rfl | rfl | rfl | rfl | rfl | rfl | rfl | rfl | rfl | rfl | rfl | rfl | rfl | rfl | rfl | rfl | rfl | rfl | rfl | rfl | rfl | rfl | rfl
   ·exact of_0_ok
   ·exact of_1_ok
   ·exact of_2_ok
   ·exact of_3_ok
   ·exact of_4_ok
   ·exact of_5_ok
   ·exact of_6_ok
   ·exact of_7_ok
   ·exact of_8_ok
   ·exact of_9_ok
   ·exact of_10_ok
   ·exact of_11_ok
   ·exact of_12_ok
   ·exact of_13_ok
   ·exact of_14_ok
   ·exact of_15_ok
   ·exact of_16_ok
   ·exact of_17_ok
   ·exact of_18_ok
   ·exact of_19_ok
   ·exact of_20_ok
   ·exact of_21_ok
   ·exact of_22_ok
   ·exact of_23_ok
   ·exact of_24_ok
   ·exact of_25_ok
   ·exact of_26_ok
   ·exact of_27_ok
   ·exact of_28_ok
   ·exact of_29_ok
   ·exact of_30_ok
   ·exact of_31_ok
theorem bare_1_ok (op w dst src base disp imm cc sh : Int) (h : (sh == 1) = true) : Ret Try.prog 113 [xD op w dst src base disp imm cc, .int .i8 sh] (xD 0 0 0 0 base disp imm cc) := by
 obtain rfl := eq_of_beq h
 exact bareL_1_ok op w dst src base disp imm cc
theorem bare_2_ok (op w dst src base disp imm cc sh : Int) (h : (sh == 2) = true) : Ret Try.prog 113 [xD op w dst src base disp imm cc, .int .i8 sh] (xD 0 0 0 0 base disp imm cc) := by
 obtain rfl := eq_of_beq h
 exact bareL_2_ok op w dst src base disp imm cc
theorem bare_3_ok (op w dst src base disp imm cc sh : Int) (h : (sh == 3) = true) : Ret Try.prog 113 [xD op w dst src base disp imm cc, .int .i8 sh] (xD 0 0 0 src base disp 0 cc) := by
 obtain rfl := eq_of_beq h
 exact bareL_3_ok op w dst src base disp imm cc
theorem bare_4_ok (op w dst src base disp imm cc sh : Int) (h : (sh == 4) = true) : Ret Try.prog 113 [xD op w dst src base disp imm cc, .int .i8 sh] (xD 0 0 0 src base disp 0 cc) := by
 obtain rfl := eq_of_beq h
 exact bareL_4_ok op w dst src base disp imm cc
theorem bare_5_ok (op w dst src base disp imm cc sh : Int) (h : (sh == 5) = true) : Ret Try.prog 113 [xD op w dst src base disp imm cc, .int .i8 sh] (xD 0 0 0 src base disp imm cc) := by
 obtain rfl := eq_of_beq h
 exact bareL_5_ok op w dst src base disp imm cc
theorem bare_6_ok (op w dst src base disp imm cc sh : Int) (h : (sh == 6) = true) : Ret Try.prog 113 [xD op w dst src base disp imm cc, .int .i8 sh] (xD 0 0 0 0 base disp imm 0) := by
 obtain rfl := eq_of_beq h
 exact bareL_6_ok op w dst src base disp imm cc
theorem bare_7_ok (op w dst src base disp imm cc sh : Int) (h : (sh == 7) = true) : Ret Try.prog 113 [xD op w dst src base disp imm cc, .int .i8 sh] (xD 0 0 0 src 0 0 imm cc) := by
 obtain rfl := eq_of_beq h
 exact bareL_7_ok op w dst src base disp imm cc
theorem bare_8_ok (op w dst src base disp imm cc sh : Int) (h : (sh == 8) = true) : Ret Try.prog 113 [xD op w dst src base disp imm cc, .int .i8 sh] (xD 0 0 dst 0 0 0 imm cc) := by
 obtain rfl := eq_of_beq h
 exact bareL_8_ok op w dst src base disp imm cc
theorem bare_9_ok (op w dst src base disp imm cc sh : Int) (h : (sh == 9) = true) : Ret Try.prog 113 [xD op w dst src base disp imm cc, .int .i8 sh] (xD 0 0 dst src base disp 0 cc) := by
 obtain rfl := eq_of_beq h
 exact bareL_9_ok op w dst src base disp imm cc
theorem bare_10_ok (op w dst src base disp imm cc sh : Int) (h : (sh == 10) = true) : Ret Try.prog 113 [xD op w dst src base disp imm cc, .int .i8 sh] (xD 0 0 dst src base disp 0 0) := by
 obtain rfl := eq_of_beq h
 exact bareL_10_ok op w dst src base disp imm cc
theorem bare_11_ok (op w dst src base disp imm cc sh : Int) (h : (sh == 11) = true) : Ret Try.prog 113 [xD op w dst src base disp imm cc, .int .i8 sh] (xD 0 w dst src base disp imm cc) := by
 obtain rfl := eq_of_beq h
 exact bareL_11_ok op w dst src base disp imm cc
theorem mayX_0_ok (op w dst src base disp imm cc : Int) (ho : op ≤ 127) (h : (shapeM op == 0) = true) (hin : decide (0 ≤ op ∧ op ≤ 31) = false) : Ret Try.prog 56 ([xD op w dst src base disp imm cc]) (.bool (mayX op w dst src base disp imm cc)) := by
 have c0 := @of_any_ok op ho
 rw [show (shapeM op) = 0 from (eq_of_beq h)] at c0
 generalize g2 : codeM op = r1 at c0
 generalize g4 : numM op = r3 at c0
 exact (o56 (d := .bool false) ([.ret _ _ _ c0] ++ List.replicate 6 (tC (eF (nt hin))) ++ [tC (nt hin), tF, tF, tF, tF, tT, tF, tF, tF, tF, tT, tF, tF, tF, tF, tT, tF, tF, tF, tF, tT, tF, tF, tF, tF, tT, tT]) (by kernel_rfl)).to (by (try simp only [sl0, wk, wkL, wkO, eqCells, eqCell, mayX, regM, mayS, longM, widthM, jumpM, ccM] at *); (simp [wk, wkL, wkO, eqCells, eqCell, mayX, regM, mayS, longM, widthM, jumpM, ccM, *]; done))
theorem mayX_1_ok (op w dst src base disp imm cc : Int) (ho : op ≤ 127) (h : (shapeM op == 1) = true) (hin : decide (0 ≤ op ∧ op ≤ 31) = true) : Ret Try.prog 56 ([xD op w dst src base disp imm cc]) (.bool (mayX op w dst src base disp imm cc)) := by
 have c0 := @of_any_ok op ho
 rw [show (shapeM op) = 1 from (eq_of_beq h)] at c0
 generalize g2 : codeM op = r1 at c0
 generalize g4 : numM op = r3 at c0
 have c5 := @bare_1_ok op w dst src base disp imm cc 1 (rfl : true = true)
 let E1 : EL := ([.ret _ _ _ c0] ++ List.replicate 4 (tC (eF (nt hin))) ++ [.ret _ _ _ c5, tC (eF (nt hin)), tC (eF (nt hin)), .flat _ _ flat_X, tC (nt hin)])
 rcases bft (eqCells [.int .i8 0, .int .i8 0, .int .i8 0, .int .i8 0, .int .i8 base, .int .i64 disp, .int .i64 imm, .int .i8 cc] [.int .i8 0, .int .i8 0, .int .i8 0, .int .i8 0, .int .i8 0, .int .i64 0, .int .i64 0, .int .i8 0]) with h6 | h6
 ·have c7 := @reg_ok dst
  generalize g9 : regM dst = r8 at c7
  let E2 : EL := E1 ++ List.replicate 3 (tC (eF (nt h6))) ++ [.ret _ _ _ c7, tC (eF (nt h6)), tC (nt h6)]
  cases r8
  ·exact (o56 (d := .bool false) (E2 ++ [tF, tF, tF, tF, tT, tF, tF, tF, tF, tT, tF, tF, tF, tF, tT, tF, tF, tF, tF, tT, tT]) (by kernel_rfl)).to (by clear E1 E2; (try simp only [sl0, wk, wkL, wkO, eqCells, eqCell, mayX, regM, mayS, longM, widthM, jumpM, ccM] at *); (simp [wk, wkL, wkO, eqCells, eqCell, mayX, regM, mayS, longM, widthM, jumpM, ccM, *]; done))
  have c10 := @reg_ok src
  generalize g12 : regM src = r11 at c10
  let E3 : EL := E2 ++ [tT, tT, tT, .ret _ _ _ c10, tT, tF]
  cases r11
  ·exact (o56 (d := .bool false) (E3 ++ [tF, tF, tF, tF, tT, tF, tF, tF, tF, tT, tF, tF, tF, tF, tT, tT]) (by kernel_rfl)).to (by clear E1 E2 E3; (try simp only [sl0, wk, wkL, wkO, eqCells, eqCell, mayX, regM, mayS, longM, widthM, jumpM, ccM] at *); (simp [wk, wkL, wkO, eqCells, eqCell, mayX, regM, mayS, longM, widthM, jumpM, ccM, *]; done))
  have c13 := @reg_ok base
  generalize g15 : regM base = r14 at c13
  let E4 : EL := E3 ++ [tT, tT, tT, .ret _ _ _ c13, tT, tF]
  cases r14
  ·exact (o56 (d := .bool false) (E4 ++ [tF, tF, tF, tF, tT, tF, tF, tF, tF, tT, tT]) (by kernel_rfl)).to (by clear E1 E2 E3 E4; (try simp only [sl0, wk, wkL, wkO, eqCells, eqCell, mayX, regM, mayS, longM, widthM, jumpM, ccM] at *); (simp [wk, wkL, wkO, eqCells, eqCell, mayX, regM, mayS, longM, widthM, jumpM, ccM, *]; done))
  have c16 := @within_ok disp (-2147483648) 2147483647
  let E5 : EL := E4 ++ [tT, tT, tT, .ret _ _ _ c16, tT, tF]
  rcases bft (decide (disp < (-2147483648))) with h17 | h17
  ·exact (o56 (d := .bool false) (E5 ++ List.replicate 4 (tC (eF (nt (andF (y := decide (disp ≤ 2147483647)) (leL (-2147483648) h17))))) ++ [tC (nt (andF (y := decide (disp ≤ 2147483647)) (leL (-2147483648) h17))), tT]) (by kernel_rfl)).to (by clear E1 E2 E3 E4 E5; (try simp only [sl0, wk, wkL, wkO, eqCells, eqCell, mayX, regM, mayS, longM, widthM, jumpM, ccM] at *); (simp [wk, wkL, wkO, eqCells, eqCell, mayX, regM, mayS, longM, widthM, jumpM, ccM, *]; omega))
  rcases bft (decide (disp < 2147483648)) with h18 | h18
  ·have c19 := @within_ok imm (-2147483648) 2147483647
   let E6 : EL := E5 ++ List.replicate 3 (tC (eF (nt (andT (leL (-2147483648) h17) (leC 2147483647 h18))))) ++ [.ret _ _ _ c19, tC (eF (nt (andT (leL (-2147483648) h17) (leC 2147483647 h18)))), tC (nt (andT (leL (-2147483648) h17) (leC 2147483647 h18)))]
   rcases bft (decide (imm < (-2147483648))) with h20 | h20
   ·exact (o56 (d := .bool false) (E6 ++ [tC (nt (andF (y := decide (imm ≤ 2147483647)) (leL (-2147483648) h20)))]) (by kernel_rfl)).to (by clear E1 E2 E3 E4 E5 E6; (try simp only [sl0, wk, wkL, wkO, eqCells, eqCell, mayX, regM, mayS, longM, widthM, jumpM, ccM] at *); (simp [wk, wkL, wkO, eqCells, eqCell, mayX, regM, mayS, longM, widthM, jumpM, ccM, *]; omega))
   rcases bft (decide (imm < 2147483648)) with h21 | h21
   ·let E7 : EL := E6 ++ [tC (nt (andT (leL (-2147483648) h20) (leC 2147483647 h21)))]
    by_cases h22 : w = 32
    ·subst h22
     exact (o56 (d := .bool true) (E7 ++ [tF, tF, tF, tT, tF, tF, tF, tF, tF, tT, tT, tT]) (by kernel_rfl)).to (by clear E1 E2 E3 E4 E5 E6 E7; (try simp only [sl0, wk, wkL, wkO, eqCells, eqCell, mayX, regM, mayS, longM, widthM, jumpM, ccM] at *); (rw [Bool.eq_iff_iff]; simp [wk, wkL, wkO, eqCells, eqCell, mayX, regM, mayS, longM, widthM, jumpM, ccM, *]; grind))
    let E8 : EL := E7 ++ List.replicate 3 (tC (eF (neOf h22))) ++ [tC (neOf h22)] ++ List.replicate 4 (tC (eF (neOf h22)))
    by_cases h23 : w = 8
    ·subst h23
     have c24 := @within_ok imm (-128) 127
     exact (o56 (d := .bool false) (E8 ++ [tT, tT, tT, .ret _ _ _ c24, tT, tT, tF, tT, tT]) (by kernel_rfl)).to (by clear E1 E2 E3 E4 E5 E6 E7 E8; (try simp only [sl0, wk, wkL, wkO, eqCells, eqCell, mayX, regM, mayS, longM, widthM, jumpM, ccM] at *); (simp [wk, wkL, wkO, eqCells, eqCell, mayX, regM, mayS, longM, widthM, jumpM, ccM, *]; done))
    exact (o56 (d := .bool (w == 64)) (E8 ++ List.replicate 3 (tC (eT (neOf h23))) ++ [tC (eF (neOf h22)), tC (neOf h23), tC (neOf h22), tT, tT]) (by kernel_rfl)).to (by clear E1 E2 E3 E4 E5 E6 E7 E8; (try simp only [sl0, wk, wkL, wkO, eqCells, eqCell, mayX, regM, mayS, longM, widthM, jumpM, ccM] at *); (rw [Bool.eq_iff_iff]; simp [wk, wkL, wkO, eqCells, eqCell, mayX, regM, mayS, longM, widthM, jumpM, ccM, *]; grind))
   exact (o56 (d := .bool false) (E6 ++ [tC (nt (andT (leL (-2147483648) h20) (leC 2147483647 h21)))]) (by kernel_rfl)).to (by clear E1 E2 E3 E4 E5 E6; (try simp only [sl0, wk, wkL, wkO, eqCells, eqCell, mayX, regM, mayS, longM, widthM, jumpM, ccM] at *); (simp [wk, wkL, wkO, eqCells, eqCell, mayX, regM, mayS, longM, widthM, jumpM, ccM, *]; omega))
  exact (o56 (d := .bool false) (E5 ++ List.replicate 4 (tC (eF (nt (andT (leL (-2147483648) h17) (leC 2147483647 h18))))) ++ [tC (nt (andT (leL (-2147483648) h17) (leC 2147483647 h18))), tT]) (by kernel_rfl)).to (by clear E1 E2 E3 E4 E5; (try simp only [sl0, wk, wkL, wkO, eqCells, eqCell, mayX, regM, mayS, longM, widthM, jumpM, ccM] at *); (simp [wk, wkL, wkO, eqCells, eqCell, mayX, regM, mayS, longM, widthM, jumpM, ccM, *]; omega))
 exact (o56 (d := .bool false) (E1 ++ List.replicate 4 (tC (eF (nt h6))) ++ [tC (nt h6), tF, tF, tF, tF, tT, tF, tF, tF, tF, tT, tF, tF, tF, tF, tT, tF, tF, tF, tF, tT, tT]) (by kernel_rfl)).to (by clear E1; (try simp only [sl0, wk, wkL, wkO, eqCells, eqCell, mayX, regM, mayS, longM, widthM, jumpM, ccM] at *); (rw [Bool.eq_iff_iff]; simp [wk, wkL, wkO, eqCells, eqCell, mayX, regM, mayS, longM, widthM, jumpM, ccM, *]; grind))
theorem mayX_2_ok (op w dst src base disp imm cc : Int) (ho : op ≤ 127) (h : (shapeM op == 2) = true) (hin : decide (0 ≤ op ∧ op ≤ 31) = true) : Ret Try.prog 56 ([xD op w dst src base disp imm cc]) (.bool (mayX op w dst src base disp imm cc)) := by
 have c0 := @of_any_ok op ho
 rw [show (shapeM op) = 2 from (eq_of_beq h)] at c0
 generalize g2 : codeM op = r1 at c0
 generalize g4 : numM op = r3 at c0
 have c5 := @bare_2_ok op w dst src base disp imm cc 2 (rfl : true = true)
 let E1 : EL := ([.ret _ _ _ c0] ++ List.replicate 4 (tC (eF (nt hin))) ++ [.ret _ _ _ c5, tC (eF (nt hin)), tC (eF (nt hin)), .flat _ _ flat_X, tC (nt hin)])
 rcases bft (eqCells [.int .i8 0, .int .i8 0, .int .i8 0, .int .i8 0, .int .i8 base, .int .i64 disp, .int .i64 imm, .int .i8 cc] [.int .i8 0, .int .i8 0, .int .i8 0, .int .i8 0, .int .i8 0, .int .i64 0, .int .i64 0, .int .i8 0]) with h6 | h6
 ·have c7 := @reg_ok dst
  generalize g9 : regM dst = r8 at c7
  let E2 : EL := E1 ++ List.replicate 3 (tC (eF (nt h6))) ++ [.ret _ _ _ c7, tC (eF (nt h6)), tC (nt h6)]
  cases r8
  ·exact (o56 (d := .bool false) (E2 ++ [tF, tF, tF, tF, tT, tF, tF, tF, tF, tT, tF, tF, tF, tF, tT, tF, tF, tF, tF, tT, tT]) (by kernel_rfl)).to (by clear E1 E2; (try simp only [sl0, wk, wkL, wkO, eqCells, eqCell, mayX, regM, mayS, longM, widthM, jumpM, ccM] at *); (simp [wk, wkL, wkO, eqCells, eqCell, mayX, regM, mayS, longM, widthM, jumpM, ccM, *]; done))
  have c10 := @reg_ok src
  generalize g12 : regM src = r11 at c10
  let E3 : EL := E2 ++ [tT, tT, tT, .ret _ _ _ c10, tT, tF]
  cases r11
  ·exact (o56 (d := .bool false) (E3 ++ [tF, tF, tF, tF, tT, tF, tF, tF, tF, tT, tF, tF, tF, tF, tT, tT]) (by kernel_rfl)).to (by clear E1 E2 E3; (try simp only [sl0, wk, wkL, wkO, eqCells, eqCell, mayX, regM, mayS, longM, widthM, jumpM, ccM] at *); (simp [wk, wkL, wkO, eqCells, eqCell, mayX, regM, mayS, longM, widthM, jumpM, ccM, *]; done))
  have c13 := @reg_ok base
  generalize g15 : regM base = r14 at c13
  let E4 : EL := E3 ++ [tT, tT, tT, .ret _ _ _ c13, tT, tF]
  cases r14
  ·exact (o56 (d := .bool false) (E4 ++ [tF, tF, tF, tF, tT, tF, tF, tF, tF, tT, tT]) (by kernel_rfl)).to (by clear E1 E2 E3 E4; (try simp only [sl0, wk, wkL, wkO, eqCells, eqCell, mayX, regM, mayS, longM, widthM, jumpM, ccM] at *); (simp [wk, wkL, wkO, eqCells, eqCell, mayX, regM, mayS, longM, widthM, jumpM, ccM, *]; done))
  have c16 := @within_ok disp (-2147483648) 2147483647
  let E5 : EL := E4 ++ [tT, tT, tT, .ret _ _ _ c16, tT, tF]
  rcases bft (decide (disp < (-2147483648))) with h17 | h17
  ·exact (o56 (d := .bool false) (E5 ++ List.replicate 4 (tC (eF (nt (andF (y := decide (disp ≤ 2147483647)) (leL (-2147483648) h17))))) ++ [tC (nt (andF (y := decide (disp ≤ 2147483647)) (leL (-2147483648) h17))), tT]) (by kernel_rfl)).to (by clear E1 E2 E3 E4 E5; (try simp only [sl0, wk, wkL, wkO, eqCells, eqCell, mayX, regM, mayS, longM, widthM, jumpM, ccM] at *); (simp [wk, wkL, wkO, eqCells, eqCell, mayX, regM, mayS, longM, widthM, jumpM, ccM, *]; omega))
  rcases bft (decide (disp < 2147483648)) with h18 | h18
  ·have c19 := @within_ok imm (-2147483648) 2147483647
   let E6 : EL := E5 ++ List.replicate 3 (tC (eF (nt (andT (leL (-2147483648) h17) (leC 2147483647 h18))))) ++ [.ret _ _ _ c19, tC (eF (nt (andT (leL (-2147483648) h17) (leC 2147483647 h18)))), tC (nt (andT (leL (-2147483648) h17) (leC 2147483647 h18)))]
   rcases bft (decide (imm < (-2147483648))) with h20 | h20
   ·exact (o56 (d := .bool false) (E6 ++ [tC (nt (andF (y := decide (imm ≤ 2147483647)) (leL (-2147483648) h20)))]) (by kernel_rfl)).to (by clear E1 E2 E3 E4 E5 E6; (try simp only [sl0, wk, wkL, wkO, eqCells, eqCell, mayX, regM, mayS, longM, widthM, jumpM, ccM] at *); (simp [wk, wkL, wkO, eqCells, eqCell, mayX, regM, mayS, longM, widthM, jumpM, ccM, *]; omega))
   rcases bft (decide (imm < 2147483648)) with h21 | h21
   ·let E7 : EL := E6 ++ [tC (nt (andT (leL (-2147483648) h20) (leC 2147483647 h21)))]
    by_cases h22 : w = 32
    ·subst h22
     exact (o56 (d := .bool true) (E7 ++ [tF, tF, tF, tT, tF, tF, tF, tF, tF, tT, tF, tT, tT]) (by kernel_rfl)).to (by clear E1 E2 E3 E4 E5 E6 E7; (try simp only [sl0, wk, wkL, wkO, eqCells, eqCell, mayX, regM, mayS, longM, widthM, jumpM, ccM] at *); (rw [Bool.eq_iff_iff]; simp [wk, wkL, wkO, eqCells, eqCell, mayX, regM, mayS, longM, widthM, jumpM, ccM, *]; grind))
    let E8 : EL := E7 ++ List.replicate 3 (tC (eF (neOf h22))) ++ [tC (neOf h22)] ++ List.replicate 4 (tC (eF (neOf h22)))
    by_cases h23 : w = 8
    ·subst h23
     have c24 := @within_ok imm (-128) 127
     exact (o56 (d := .bool false) (E8 ++ [tT, tT, tT, .ret _ _ _ c24, tT, tT, tF, tF, tT, tT]) (by kernel_rfl)).to (by clear E1 E2 E3 E4 E5 E6 E7 E8; (try simp only [sl0, wk, wkL, wkO, eqCells, eqCell, mayX, regM, mayS, longM, widthM, jumpM, ccM] at *); (simp [wk, wkL, wkO, eqCells, eqCell, mayX, regM, mayS, longM, widthM, jumpM, ccM, *]; done))
    exact (o56 (d := .bool (w == 64)) (E8 ++ List.replicate 3 (tC (eT (neOf h23))) ++ [tC (eF (neOf h22)), tC (neOf h23), tC (neOf h22), tF, tT, tT]) (by kernel_rfl)).to (by clear E1 E2 E3 E4 E5 E6 E7 E8; (try simp only [sl0, wk, wkL, wkO, eqCells, eqCell, mayX, regM, mayS, longM, widthM, jumpM, ccM] at *); (rw [Bool.eq_iff_iff]; simp [wk, wkL, wkO, eqCells, eqCell, mayX, regM, mayS, longM, widthM, jumpM, ccM, *]; grind))
   exact (o56 (d := .bool false) (E6 ++ [tC (nt (andT (leL (-2147483648) h20) (leC 2147483647 h21)))]) (by kernel_rfl)).to (by clear E1 E2 E3 E4 E5 E6; (try simp only [sl0, wk, wkL, wkO, eqCells, eqCell, mayX, regM, mayS, longM, widthM, jumpM, ccM] at *); (simp [wk, wkL, wkO, eqCells, eqCell, mayX, regM, mayS, longM, widthM, jumpM, ccM, *]; omega))
  exact (o56 (d := .bool false) (E5 ++ List.replicate 4 (tC (eF (nt (andT (leL (-2147483648) h17) (leC 2147483647 h18))))) ++ [tC (nt (andT (leL (-2147483648) h17) (leC 2147483647 h18))), tT]) (by kernel_rfl)).to (by clear E1 E2 E3 E4 E5; (try simp only [sl0, wk, wkL, wkO, eqCells, eqCell, mayX, regM, mayS, longM, widthM, jumpM, ccM] at *); (simp [wk, wkL, wkO, eqCells, eqCell, mayX, regM, mayS, longM, widthM, jumpM, ccM, *]; omega))
 exact (o56 (d := .bool false) (E1 ++ List.replicate 4 (tC (eF (nt h6))) ++ [tC (nt h6), tF, tF, tF, tF, tT, tF, tF, tF, tF, tT, tF, tF, tF, tF, tT, tF, tF, tF, tF, tT, tT]) (by kernel_rfl)).to (by clear E1; (try simp only [sl0, wk, wkL, wkO, eqCells, eqCell, mayX, regM, mayS, longM, widthM, jumpM, ccM] at *); (rw [Bool.eq_iff_iff]; simp [wk, wkL, wkO, eqCells, eqCell, mayX, regM, mayS, longM, widthM, jumpM, ccM, *]; grind))
end Go.Proofs.Ytcngafhpodeenaa
