/- Plain definitions: carry and overflow of sums and differences; conditions (P14.1, P14.2). -/
import Derived.Test.YtkannibhndjgeaaMdM
import Derived.Test.YtkannibhndjgeaaMdW
namespace Go.Ev
open Go
set_option linter.unusedVariables false
set_option linter.unusedSimpArgs false

def addC (w a b : Int) : Bool := decide (cutM (u64 (a + b)) w < cutM a w)
def addO (w a b : Int) : Bool := negM (and64u (xor64 a (u64 (a + b))) (xor64 b (u64 (a + b)))) w
def subC (w a b : Int) : Bool := decide (cutM a w < cutM b w)
def subO (w a b : Int) : Bool := negM (and64u (xor64 a b) (xor64 a (u64 (a - b)))) w
theorem sign_a (v : Int) : IntKind.u64.wrap (IntKind.i64.wrap (IntKind.i8.wrap v)) = IntKind.u64.wrap (IntKind.i8.wrap v) := by rw [w_u64, w_u64, w_i64, w_i8]; omega
theorem sign_b (v : Int) : IntKind.u64.wrap (IntKind.i64.wrap (IntKind.i16.wrap v)) = IntKind.u64.wrap (IntKind.i16.wrap v) := by rw [w_u64, w_u64, w_i64, w_i16]; omega
theorem sign_c (v : Int) : IntKind.u64.wrap (IntKind.i64.wrap (IntKind.i32.wrap v)) = IntKind.u64.wrap (IntKind.i32.wrap v) := by rw [w_u64, w_u64, w_i64, w_i32]; omega
/-- Does a condition hold? -/
def holdM (cc : Int) (c z s o : Bool) : Bool :=
  if cc = 2 then c else if cc = 3 then !c else if cc = 4 then z else if cc = 5 then !z else if cc = 6 then (c || z) else if cc = 7 then !(c || z)
  else if cc = 12 then (s != o) else if cc = 13 then !(s != o) else if cc = 14 then (z || (s != o)) else !(z || (s != o))
/-! ### Which operations write -/
def wrOp (op : Int) : Bool := !(decide (op = 7 ∨ op = 8 ∨ op = 14 ∨ op = 15 ∨ op = 27 ∨ op = 28 ∨ op = 29))
theorem sh8_pos {d : Int} (h0 : 0 ≤ d) (h1 : d ≤ 15) : sh8 d ≠ 0 := by
  obtain ⟨n, rfl⟩ := fin16 h0 h1
  clear h0 h1
  revert n
  decide +kernel
theorem wr_nz {op w dst src base disp imm cc : Int} (hm : mayX op w dst src base disp imm cc = true) (d0 : 0 ≤ dst) (d1 : dst ≤ 15) (hop : wrOp op = true) : (writesXX op w dst src base disp imm cc == 0) = false := by
  rw [beq_eq_false_iff_ne]
  unfold writesXX
  rw [if_pos hm]
  unfold writesX
  simp only [wrOp, Bool.not_eq_true', decide_eq_false_iff_not] at hop
  rw [if_neg hop]
  split
  · decide
  · split
    · decide
    · split
      · decide
      · exact sh8_pos d0 d1
theorem wr_z {op w dst src base disp imm cc : Int} (hop : wrOp op = false) : (writesXX op w dst src base disp imm cc == 0) = true := by
  rw [beq_iff_eq]
  unfold writesXX writesX
  simp only [wrOp, Bool.not_eq_false', decide_eq_true_eq] at hop
  rw [if_pos hop]
  split <;> rfl
end Go.Ev
