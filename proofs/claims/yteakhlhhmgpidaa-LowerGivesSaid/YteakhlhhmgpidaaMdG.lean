/- Steps as structures. -/
import Derived.Test.YteakhlhhmgpidaaMdF
namespace Go.Ev
open Go
set_option linter.unusedVariables false
set_option linter.unusedSimpArgs false

def irOf : D → IrS
  | .agg [.int _ a, .int _ b, .int _ c, .int _ d, .int _ e, .int _ f, .int _ g, .int _ h, .int _ i, .int _ j, .int _ k, .int _ l, .int _ m] => ⟨a, b, c, d, e, f, g, h, i, j, k, l, m⟩
  | _ => ⟨0, 0, 0, 0, 0, 0, 0, 0, 0, 0, 0, 0, 0⟩
/-- A row of steps. -/
def AllIr (l : List D) : Prop := (l.map irOf).map IrS.d = l
theorem allIr_nil : AllIr [] := rfl
theorem allIr_cons {kind op w dst src base disp imm cc reg phys num to : Int} {l : List D} (h : AllIr l) : AllIr (irD kind op w dst src base disp imm cc reg phys num to :: l) := by
  unfold AllIr at h ⊢
  rw [List.map_cons, List.map_cons, h]
  rfl
theorem allIr_app {l m : List D} (h : AllIr l) (k : AllIr m) : AllIr (l ++ m) := by
  unfold AllIr at h k ⊢
  rw [List.map_append, List.map_append, h, k]
theorem steps_ir (kind op width size : Int) (byReg : Bool) (dst src off imm : Int) : AllIr (stepsM kind op width size byReg dst src off imm) := by
  unfold stepsM aluM
  repeat' split
  all_goals first
    | rfl
    | (repeat' first | exact allIr_nil | apply allIr_app | apply allIr_cons)
theorem steps_len (kind op width size : Int) (byReg : Bool) (dst src off imm : Int) : (stepsM kind op width size byReg dst src off imm).length ≤ 12 := by
  unfold stepsM aluM
  repeat' split
  all_goals (simp)
theorem one_ir (kind op width size : Int) (byReg : Bool) (dst src off imm : Int) : AllIr (oneL kind op width size byReg dst src off imm) := by
  unfold oneL
  split
  · exact steps_ir _ _ _ _ _ _ _ _ _
  · exact allIr_nil
theorem one_len (kind op width size : Int) (byReg : Bool) (dst src off imm : Int) : (oneL kind op width size byReg dst src off imm).length ≤ 12 := by
  unfold oneL
  split
  · exact steps_len _ _ _ _ _ _ _ _ _
  · simp
end Go.Ev
