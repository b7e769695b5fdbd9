/- Plain definitions: instructions and steps as structures; when two rows are the same. -/
import Derived.Test.YteakhlhhmgpidaaMdB
import Derived.Test.YteakhlhhmgpidaaMdL
namespace Go.Ev
open Go
set_option linter.unusedVariables false
set_option linter.unusedSimpArgs false

structure XS where
  op : Int
  w : Int
  dst : Int
  src : Int
  base : Int
  disp : Int
  imm : Int
  cc : Int
deriving DecidableEq
def XS.d (x : XS) : D := xD x.op x.w x.dst x.src x.base x.disp x.imm x.cc
structure IrS where
  kind : Int
  op : Int
  w : Int
  dst : Int
  src : Int
  base : Int
  disp : Int
  imm : Int
  cc : Int
  reg : Int
  phys : Int
  num : Int
  to : Int
deriving DecidableEq
def IrS.d (x : IrS) : D := irD x.kind x.op x.w x.dst x.src x.base x.disp x.imm x.cc x.reg x.phys x.num x.to
structure InstS where
  kind : Int
  op : Int
  width : Int
  size : Int
  byReg : Bool
  dst : Int
  src : Int
  off : Int
  imm : Int
deriving DecidableEq
def InstS.d (x : InstS) : D := instD x.kind x.op x.width x.size x.byReg x.dst x.src x.off x.imm

/-- The cells of a step. -/
abbrev irC (kind op w dst src base disp imm cc reg phys num to : Int) : List D :=
  [.int .i8 kind, .int .i8 op, .int .i8 w, .int .i8 dst, .int .i8 src, .int .i8 base, .int .i64 disp, .int .i64 imm, .int .i8 cc, .int .i8 reg, .int .i8 phys, .int .i64 num, .int .i64 to]
theorem eq_ir (x y : IrS) : eqCells (irC x.kind x.op x.w x.dst x.src x.base x.disp x.imm x.cc x.reg x.phys x.num x.to) (irC y.kind y.op y.w y.dst y.src y.base y.disp y.imm y.cc y.reg y.phys y.num y.to) = decide (x = y) := by
  cases x; cases y
  rw [Bool.eq_iff_iff]
  simp [eqCells, eqCell]
theorem get_map {α : Type} {f : α → D} {l : List α} {k : Nat} {x : α} (h : l[k]? = some x) : (l.map f)[k]? = some (f x) := by simp [h]
end Go.Ev
