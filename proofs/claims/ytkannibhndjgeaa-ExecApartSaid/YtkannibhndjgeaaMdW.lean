/- Plain definitions: the registers that an instruction of the target reads and writes, as bits (P13.2). -/
import Derived.Test.YtkannibhndjgeaaMdZ
import Derived.Test.YtkannibhndjgeaaMdC
namespace Go.Ev
open Go
set_option linter.unusedVariables false
set_option linter.unusedSimpArgs false

def readsX (op dst src base : Int) : Int :=
  if op = 0 then sh8 src
  else if op = 1 ∨ op = 28 ∨ op = 29 then 0
  else if 20 ≤ op ∧ op ≤ 22 then or64 (sh8 dst) (sh8 1)
  else if op = 24 then or64 (or64 (sh8 dst) (sh8 0)) (sh8 2)
  else if op = 26 then sh8 base
  else if op = 27 then or64 (sh8 base) (sh8 src)
  else if op = 30 then 17
  else if op = 31 then 1477
  else if shapeM op = 1 ∨ shapeM op = 2 ∨ shapeM op = 6 then or64 (sh8 dst) (sh8 src)
  else sh8 dst
def writesX (op dst : Int) : Int :=
  if op = 7 ∨ op = 8 ∨ op = 14 ∨ op = 15 ∨ op = 27 ∨ op = 28 ∨ op = 29 then 0
  else if op = 24 then 5
  else if op = 30 then 16
  else if op = 31 then 2051
  else sh8 dst
def readsXX (op w dst src base disp imm cc : Int) : Int := if mayX op w dst src base disp imm cc then readsX op dst src base else 0
def writesXX (op w dst src base disp imm cc : Int) : Int := if mayX op w dst src base disp imm cc then writesX op dst else 0
end Go.Ev
