/- Plain definitions: instructions of the source as values; which may be. -/
import Derived.Test.YteakhlhhmgpidaaEvT
namespace Go.Ev
open Go
set_option linter.unusedVariables false
set_option linter.unusedSimpArgs false

/-- An instruction of the source. -/
abbrev instD (kind op width size : Int) (byReg : Bool) (dst src off imm : Int) : D :=
  .agg [.int .i8 kind, .int .i8 op, .int .i8 width, .int .i8 size, .bool byReg, .int .i8 dst, .int .i8 src, .int .i64 off, .int .i64 imm]
def mayRange (dst src off imm : Int) : Bool := decide (0 ≤ dst ∧ dst ≤ 10 ∧ 0 ≤ src ∧ src ≤ 10 ∧ -32768 ≤ off ∧ off ≤ 32767 ∧ -2147483648 ≤ imm ∧ imm ≤ 2147483647)
def sizedM (n : Int) : Bool := decide (n = 1 ∨ n = 2 ∨ n = 4 ∨ n = 8)
def mayKind (kind op width size : Int) (byReg : Bool) (dst src off imm : Int) : Bool :=
  if kind = 0 then decide (0 ≤ op ∧ op ≤ 12 ∧ (width = 32 ∨ width = 64) ∧ dst < 10 ∧ size = 0 ∧ off = 0) && (if byReg then decide (op ≠ 8 ∧ imm = 0) else decide (src = 0 ∧ (op = 8 → imm = 0)))
  else if kind = 1 then sizedM size && decide (dst < 10 ∧ op = 0 ∧ width = 0 ∧ imm = 0) && !byReg
  else if kind = 2 then sizedM size && decide (op = 0 ∧ width = 0 ∧ imm = 0) && !byReg
  else if kind = 3 then decide (0 ≤ op ∧ op ≤ 10 ∧ width = 0 ∧ size = 0) && (if byReg then decide (imm = 0) else decide (src = 0))
  else if kind = 4 then decide (op = 0 ∧ width = 0 ∧ size = 0 ∧ dst = 0 ∧ src = 0 ∧ imm = 0) && !byReg
  else if kind = 5 then decide (op = 0 ∧ width = 0 ∧ size = 0 ∧ dst = 0 ∧ src = 0 ∧ off = 0 ∧ 0 ≤ imm ∧ imm ≤ 15) && !byReg
  else if kind = 6 then decide (op = 0 ∧ width = 0 ∧ size = 0 ∧ dst = 0 ∧ src = 0 ∧ off = 0 ∧ imm = 0) && !byReg
  else false
/-- Which may be (P3.1). -/
def mayM (kind op width size : Int) (byReg : Bool) (dst src off imm : Int) : Bool := mayRange dst src off imm && mayKind kind op width size byReg dst src off imm
/-! What an instruction's kind names -/
def fOp (kind op : Int) : Int := if kind = 0 ∨ kind = 3 then op else 0
def fWidth (kind width : Int) : Int := if kind = 0 then width else 0
def fSize (kind size : Int) : Int := if kind = 1 ∨ kind = 2 then size else 0
def fByReg (kind op : Int) (byReg : Bool) : Bool := if kind = 0 then byReg && decide (op ≠ 8) else if kind = 3 then byReg else false
def fDst (kind dst : Int) : Int := if kind = 0 ∨ kind = 1 ∨ kind = 2 ∨ kind = 3 then dst else 0
def fSrc (kind op : Int) (byReg : Bool) (src : Int) : Int := if kind = 0 then (if byReg && decide (op ≠ 8) then src else 0) else if kind = 1 ∨ kind = 2 then src else if kind = 3 then (if byReg then src else 0) else 0
def fOff (kind off : Int) : Int := if kind = 1 ∨ kind = 2 ∨ kind = 3 ∨ kind = 4 then off else 0
def fImm (kind op : Int) (byReg : Bool) (imm : Int) : Int := if kind = 0 then (if byReg || decide (op = 8) then 0 else imm) else if kind = 3 then (if byReg then 0 else imm) else if kind = 5 then imm else 0
end Go.Ev
