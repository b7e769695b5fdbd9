/- An instruction's steps, whatever it is, from those of each form. -/
import Derived.Test.YteakhlhhmgpidaaStepsL
import Derived.Test.YteakhlhhmgpidaaStepsR
import Derived.Test.YteakhlhhmgpidaaMdF
namespace Go.Proofs.Yteakhlhhmgpidaa
open Go Go.Ev
set_option linter.unusedVariables false
set_option linter.unusedSimpArgs false

theorem does_any_ok (kind op width size : Int) (byReg : Bool) (dst src off imm : Int) (h : mayM kind op width size byReg dst src off imm = true) (h3 : (kind == 3) = false) (h4 : (kind == 4) = false) :
    Ret Try.prog 20 [instD kind op width size byReg dst src off imm] (.lst .no 13 (stepsM kind op width size byReg dst src off imm)) := by
  obtain ⟨⟨_, _, _, _, _, _, i1, i2⟩, hf⟩ := may_forms h
  simp only [beq_eq_false_iff_ne] at h3 h4
  rcases hf with ⟨rfl, rfl, rfl, _, h8, ho, hw, _, _⟩ | ⟨rfl, rfl, rfl, rfl, rfl, _, hs⟩ | ⟨rfl, rfl, rfl, rfl, rfl, hs⟩ | ⟨rfl, _⟩ | ⟨rfl, _⟩ | ⟨rfl, rfl, rfl, rfl, rfl, rfl, rfl, rfl, _⟩ | ⟨rfl, rfl, rfl, rfl, rfl, rfl, rfl, rfl, rfl⟩
  · rcases ho with rfl | rfl | rfl | rfl | rfl | rfl | rfl | rfl | rfl | rfl | rfl | rfl | rfl <;> rcases hw with rfl | rfl
    all_goals first
      | exact does_0_0_32_ok _ _ _ _ i1 i2
      | exact does_0_0_64_ok _ _ _ _ i1 i2
      | exact does_0_1_32_ok _ _ _ _ i1 i2
      | exact does_0_1_64_ok _ _ _ _ i1 i2
      | exact does_0_2_32_ok _ _ _ _ i1 i2
      | exact does_0_2_64_ok _ _ _ _ i1 i2
      | exact does_0_3_32_ok _ _ _ _ i1 i2
      | exact does_0_3_64_ok _ _ _ _ i1 i2
      | exact does_0_4_32_ok _ _ _ _ i1 i2
      | exact does_0_4_64_ok _ _ _ _ i1 i2
      | exact does_0_5_32_ok _ _ _ _ i1 i2
      | exact does_0_5_64_ok _ _ _ _ i1 i2
      | exact does_0_6_32_ok _ _ _ _ i1 i2
      | exact does_0_6_64_ok _ _ _ _ i1 i2
      | exact does_0_7_32_ok _ _ _ _ i1 i2
      | exact does_0_7_64_ok _ _ _ _ i1 i2
      | exact does_0_8_32_ok _ _ _ _ i1 i2 (h8 rfl)
      | exact does_0_8_64_ok _ _ _ _ i1 i2 (h8 rfl)
      | exact does_0_9_32_ok _ _ _ _ i1 i2
      | exact does_0_9_64_ok _ _ _ _ i1 i2
      | exact does_0_10_32_ok _ _ _ _ i1 i2
      | exact does_0_10_64_ok _ _ _ _ i1 i2
      | exact does_0_11_32_ok _ _ _ _ i1 i2
      | exact does_0_11_64_ok _ _ _ _ i1 i2
      | exact does_0_12_32_ok _ _ _ _ i1 i2
      | exact does_0_12_64_ok _ _ _ _ i1 i2
  · exact does_1_ok _ _ _ _ hs
  · exact does_2_ok _ _ _ _ hs
  · exact absurd rfl h3
  · exact absurd rfl h4
  · exact does_5_ok _
  · exact does_6_ok
theorem rsteps_any_ok (kind op width size : Int) (byReg : Bool) (dst src off imm : Int) (h : mayM kind op width size byReg dst src off imm = true) (h3 : (kind == 3) = false) (h4 : (kind == 4) = false) :
    Ret Try.prog 21 [instD kind op width size byReg dst src off imm] (.lst .no 13 (stepsM kind op width size byReg dst src off imm)) := by
  obtain ⟨⟨_, _, _, _, _, _, i1, i2⟩, hf⟩ := may_forms h
  simp only [beq_eq_false_iff_ne] at h3 h4
  rcases hf with ⟨rfl, rfl, rfl, _, h8, ho, hw, _, _⟩ | ⟨rfl, rfl, rfl, rfl, rfl, _, hs⟩ | ⟨rfl, rfl, rfl, rfl, rfl, hs⟩ | ⟨rfl, _⟩ | ⟨rfl, _⟩ | ⟨rfl, rfl, rfl, rfl, rfl, rfl, rfl, rfl, _⟩ | ⟨rfl, rfl, rfl, rfl, rfl, rfl, rfl, rfl, rfl⟩
  · rcases ho with rfl | rfl | rfl | rfl | rfl | rfl | rfl | rfl | rfl | rfl | rfl | rfl | rfl <;> rcases hw with rfl | rfl
    all_goals first
      | exact rsteps_0_0_32_ok _ _ _ _ i1 i2
      | exact rsteps_0_0_64_ok _ _ _ _ i1 i2
      | exact rsteps_0_1_32_ok _ _ _ _ i1 i2
      | exact rsteps_0_1_64_ok _ _ _ _ i1 i2
      | exact rsteps_0_2_32_ok _ _ _ _ i1 i2
      | exact rsteps_0_2_64_ok _ _ _ _ i1 i2
      | exact rsteps_0_3_32_ok _ _ _ _ i1 i2
      | exact rsteps_0_3_64_ok _ _ _ _ i1 i2
      | exact rsteps_0_4_32_ok _ _ _ _ i1 i2
      | exact rsteps_0_4_64_ok _ _ _ _ i1 i2
      | exact rsteps_0_5_32_ok _ _ _ _ i1 i2
      | exact rsteps_0_5_64_ok _ _ _ _ i1 i2
      | exact rsteps_0_6_32_ok _ _ _ _ i1 i2
      | exact rsteps_0_6_64_ok _ _ _ _ i1 i2
      | exact rsteps_0_7_32_ok _ _ _ _ i1 i2
      | exact rsteps_0_7_64_ok _ _ _ _ i1 i2
      | exact rsteps_0_8_32_ok _ _ _ _ i1 i2 (h8 rfl)
      | exact rsteps_0_8_64_ok _ _ _ _ i1 i2 (h8 rfl)
      | exact rsteps_0_9_32_ok _ _ _ _ i1 i2
      | exact rsteps_0_9_64_ok _ _ _ _ i1 i2
      | exact rsteps_0_10_32_ok _ _ _ _ i1 i2
      | exact rsteps_0_10_64_ok _ _ _ _ i1 i2
      | exact rsteps_0_11_32_ok _ _ _ _ i1 i2
      | exact rsteps_0_11_64_ok _ _ _ _ i1 i2
      | exact rsteps_0_12_32_ok _ _ _ _ i1 i2
      | exact rsteps_0_12_64_ok _ _ _ _ i1 i2
  · exact rsteps_1_ok _ _ _ _ hs
  · exact rsteps_2_ok _ _ _ _ hs
  · exact absurd rfl h3
  · exact absurd rfl h4
  · exact rsteps_5_ok _
  · exact rsteps_6_ok
end Go.Proofs.Yteakhlhhmgpidaa
