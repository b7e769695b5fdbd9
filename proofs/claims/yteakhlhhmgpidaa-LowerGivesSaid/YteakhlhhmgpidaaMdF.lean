/- The forms of instructions that may be. -/
import Derived.Test.YteakhlhhmgpidaaMdC
namespace Go.Ev
open Go
set_option linter.unusedVariables false
set_option linter.unusedSimpArgs false

/-- The forms of instructions that may be. -/
theorem may_forms {kind op width size : Int} {byReg : Bool} {dst src off imm : Int} (h : mayM kind op width size byReg dst src off imm = true) :
    (0 ≤ dst ∧ dst ≤ 10 ∧ 0 ≤ src ∧ src ≤ 10 ∧ -32768 ≤ off ∧ off ≤ 32767 ∧ -2147483648 ≤ imm ∧ imm ≤ 2147483647) ∧
    ((kind = 0 ∧ size = 0 ∧ off = 0 ∧ dst < 10 ∧ (op = 8 → byReg = false) ∧ (op = 0 ∨ op = 1 ∨ op = 2 ∨ op = 3 ∨ op = 4 ∨ op = 5 ∨ op = 6 ∨ op = 7 ∨ op = 8 ∨ op = 9 ∨ op = 10 ∨ op = 11 ∨ op = 12) ∧ (width = 32 ∨ width = 64) ∧ (byReg = true → imm = 0) ∧ (byReg = false → src = 0)) ∨
     (kind = 1 ∧ op = 0 ∧ width = 0 ∧ byReg = false ∧ imm = 0 ∧ dst < 10 ∧ (size = 1 ∨ size = 2 ∨ size = 4 ∨ size = 8)) ∨
     (kind = 2 ∧ op = 0 ∧ width = 0 ∧ byReg = false ∧ imm = 0 ∧ (size = 1 ∨ size = 2 ∨ size = 4 ∨ size = 8)) ∨
     (kind = 3 ∧ width = 0 ∧ size = 0 ∧ (op = 0 ∨ op = 1 ∨ op = 2 ∨ op = 3 ∨ op = 4 ∨ op = 5 ∨ op = 6 ∨ op = 7 ∨ op = 8 ∨ op = 9 ∨ op = 10) ∧ (byReg = true → imm = 0) ∧ (byReg = false → src = 0)) ∨
     (kind = 4 ∧ op = 0 ∧ width = 0 ∧ size = 0 ∧ byReg = false ∧ dst = 0 ∧ src = 0 ∧ imm = 0) ∨
     (kind = 5 ∧ op = 0 ∧ width = 0 ∧ size = 0 ∧ byReg = false ∧ dst = 0 ∧ src = 0 ∧ off = 0 ∧ 0 ≤ imm ∧ imm ≤ 15) ∨
     (kind = 6 ∧ op = 0 ∧ width = 0 ∧ size = 0 ∧ byReg = false ∧ dst = 0 ∧ src = 0 ∧ off = 0 ∧ imm = 0)) := by
  unfold mayM mayRange at h
  rw [Bool.and_eq_true, decide_eq_true_eq] at h
  refine ⟨h.1, ?_⟩
  have h2 := h.2
  clear h
  unfold mayKind sizedM at h2
  split at h2
  · refine .inl ?_
    cases byReg <;> simp at h2 ⊢ <;> omega
  · split at h2
    · simp at h2; refine .inr (.inl ?_); simp [h2]; omega
    · split at h2
      · simp at h2; refine .inr (.inr (.inl ?_)); simp [h2]; omega
      · split at h2
        · refine .inr (.inr (.inr (.inl ?_)))
          cases byReg <;> simp at h2 ⊢ <;> omega
        · split at h2
          · simp at h2; refine .inr (.inr (.inr (.inr (.inl ?_)))); simp [h2]; omega
          · split at h2
            · simp at h2; refine .inr (.inr (.inr (.inr (.inr (.inl ?_))))); simp [h2]; omega
            · split at h2
              · simp at h2; refine .inr (.inr (.inr (.inr (.inr (.inr ?_))))); simp [h2]; omega
              · cases h2
/-- What One tells. -/
def oneOK (kind op width size : Int) (byReg : Bool) (dst src off imm : Int) : Bool := mayM kind op width size byReg dst src off imm && (!(kind == 3) && !(kind == 4))
def oneL (kind op width size : Int) (byReg : Bool) (dst src off imm : Int) : List D := if oneOK kind op width size byReg dst src off imm then stepsM kind op width size byReg dst src off imm else []
def oneE (kind op width size : Int) (byReg : Bool) (dst src off imm : Int) : Int := if oneOK kind op width size byReg dst src off imm then 0 else 2
end Go.Ev
