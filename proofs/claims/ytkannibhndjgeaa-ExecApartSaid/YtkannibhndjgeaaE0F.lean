/- Whether a condition holds, of whatever condition. -/
import Derived.Test.YtkannibhndjgeaaE0F0
namespace Go.Proofs.Ytkannibhndjgeaa
open Go Go.Ev
set_option linter.unusedVariables false
set_option linter.unusedSimpArgs false

theorem cc_cases {cc : Int} (h : ccM cc = true) : cc = 2 ∨ cc = 3 ∨ cc = 4 ∨ cc = 5 ∨ cc = 6 ∨ cc = 7 ∨ cc = 12 ∨ cc = 13 ∨ cc = 14 ∨ cc = 15 := by
  simp only [ccM, decide_eq_true_eq] at h; omega
theorem fholds_t_ok (cc : Int) (c z s o : Bool) (h : ccM cc = true) : Ret Try.prog 66 [.int .i8 cc, fD true c z s o] (.tup [.bool (holdM cc c z s o), .int .i64 0]) := by
  rcases cc_cases h with rfl | rfl | rfl | rfl | rfl | rfl | rfl | rfl | rfl | rfl
  · exact fholds_2_ok c z s o
  · exact fholds_3_ok c z s o
  · exact fholds_4_ok c z s o
  · exact fholds_5_ok c z s o
  · exact fholds_6_ok c z s o
  · exact fholds_7_ok c z s o
  · exact fholds_12_ok c z s o
  · exact fholds_13_ok c z s o
  · exact fholds_14_ok c z s o
  · exact fholds_15_ok c z s o
theorem fholds_f_ok (cc : Int) (c z s o : Bool) (h : ccM cc = true) : Ret Try.prog 66 [.int .i8 cc, fD false c z s o] (.tup [.bool false, .int .i64 20]) := by
  rcases cc_cases h with rfl | rfl | rfl | rfl | rfl | rfl | rfl | rfl | rfl | rfl
  · exact fholds_n2_ok c z s o
  · exact fholds_n3_ok c z s o
  · exact fholds_n4_ok c z s o
  · exact fholds_n5_ok c z s o
  · exact fholds_n6_ok c z s o
  · exact fholds_n7_ok c z s o
  · exact fholds_n12_ok c z s o
  · exact fholds_n13_ok c z s o
  · exact fholds_n14_ok c z s o
  · exact fholds_n15_ok c z s o
end Go.Proofs.Ytkannibhndjgeaa
