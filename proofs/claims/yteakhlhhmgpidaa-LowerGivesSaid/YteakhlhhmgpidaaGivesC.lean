/- What follows of an instruction that has steps: laws that decide tests. -/
import Derived.Test.YteakhlhhmgpidaaGivesB
import Derived.Test.YteakhlhhmgpidaaReads1
namespace Go.Proofs.Yteakhlhhmgpidaa
open Go Go.Ev
set_option linter.unusedVariables false
set_option linter.unusedSimpArgs false
section
variable {kind op width size : Int} {byReg : Bool} {dst src off imm : Int}
theorem one_yes (h : oneOK kind op width size byReg dst src off imm = true) : (oneE kind op width size byReg dst src off imm == 0) = true := by simp [oneE, h]
theorem one_no (h : oneOK kind op width size byReg dst src off imm = false) : (oneE kind op width size byReg dst src off imm == 0) = false := by simp [oneE, h]
theorem one_none (h : oneOK kind op width size byReg dst src off imm = false) : (((oneL kind op width size byReg dst src off imm).length : Int) == 0) = true := by simp [oneL, h]
theorem one_may (h : oneOK kind op width size byReg dst src off imm = true) : mayM kind op width size byReg dst src off imm = true := by
  simp only [oneOK, Bool.and_eq_true] at h; exact h.1
theorem one_dst (h : oneOK kind op width size byReg dst src off imm = true) : decide (0 ≤ dst) = true := by
  have := one_may h
  obtain ⟨⟨d0, _⟩, _⟩ := may_forms this
  simpa using d0
theorem one_gives {n : Int} (h : oneOK kind op width size byReg dst src off imm = true) (hn : wantM kind dst = n) : (namesD 2 (oneL kind op width size byReg dst src off imm) == n) = true := by
  rw [gives_law kind op width size byReg dst src off imm h, hn]; simp
theorem gives_0 (h : oneOK 0 op width size byReg dst src off imm = true) : (namesD 2 (oneL 0 op width size byReg dst src off imm) == IntKind.i64.wrap (1 * 2 ^ (min dst.toNat 64))) = true := one_gives h rfl
theorem gives_1 (h : oneOK 1 op width size byReg dst src off imm = true) : (namesD 2 (oneL 1 op width size byReg dst src off imm) == IntKind.i64.wrap (1 * 2 ^ (min dst.toNat 64))) = true := one_gives h rfl
theorem gives_5 (h : oneOK 5 op width size byReg dst src off imm = true) : (namesD 2 (oneL 5 op width size byReg dst src off imm) == 63) = true := one_gives h rfl
theorem gives_x (h : oneOK kind op width size byReg dst src off imm = true) (h0 : (kind == 0) = false) (h1 : (kind == 1) = false) (h5 : (kind == 5) = false) : (namesD 2 (oneL kind op width size byReg dst src off imm) == 0) = true := by
  simp only [beq_eq_false_iff_ne] at h0 h1 h5
  exact one_gives h (by rw [wantM, if_neg (by omega), if_neg h5])
theorem takes_x (h : oneOK kind op width size byReg dst src off imm = true) : (IntKind.i64.wrap ((BitVec.ofInt 64 (namesD 1 (oneL kind op width size byReg dst src off imm)) &&& ~~~BitVec.ofInt 64 (readsM kind op byReg dst src imm)).toNat : Int) == 0) = true := by
  have := takes_law kind op width size byReg dst src off imm h
  have h2 : IntKind.i64.wrap ((BitVec.ofInt 64 (namesD 1 (oneL kind op width size byReg dst src off imm)) &&& ~~~BitVec.ofInt 64 (readsM kind op byReg dst src imm)).toNat : Int) = 0 := this
  rw [h2]; rfl
theorem reads_one_ok (kind op width size : Int) (byReg : Bool) (dst src off imm : Int) (h : oneOK kind op width size byReg dst src off imm = true) :
    Ret Try.prog 12 [instD kind op width size byReg dst src off imm] (.int .i64 (readsM kind op byReg dst src imm)) := reads_may_ok _ _ _ _ _ _ _ _ _ (one_may h)
end
end Go.Proofs.Yteakhlhhmgpidaa
