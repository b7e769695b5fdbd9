/- Contracts: two rows of steps are the same, or not. -/
import Derived.Test.YteakhlhhmgpidaaSameB
namespace Go.Proofs.Yteakhlhhmgpidaa
open Go Go.Ev
set_option maxRecDepth 100000
set_option maxHeartbeats 8000000
set_option linter.unusedVariables false
set_option linter.unusedSimpArgs false
theorem same17_ok (l m : List IrS) (hb : (l.map IrS.d).length ≤ 1099511627776) : Ret Try.prog 9 ([.lst .no 13 (l.map IrS.d), .lst .no 13 (m.map IrS.d)]) (.bool (decide (l = m))) := by
  rcases Bool.eq_false_or_eq_true (decide (l = m)) with k0 | k0
  · skip
    rcases Bool.eq_false_or_eq_true ((↑(List.length (List.map IrS.d l)) : Int) == (↑(List.length (List.map IrS.d m)) : Int)) with k1 | k1
    · skip
      have c2 := Proofs.Yteakhlhhmgpidaa.same_run_t (l) (m) hb k0
      exact (Ret.of_eval (d := D.bool true) mixed Try.func9 (by kernel_rfl) [tC (nt k1), .head ⟨[0, 1, 5], [], []⟩ _ _ _ _ _ _ _ c2] (by kernel_rfl)).to (by first | (simp [wk, k0, k1]; done) | (exfalso; simp only [decide_eq_true_eq] at k0; subst k0; simp at k1))
    · skip
      exact (Ret.of_eval (d := D.bool false) mixed Try.func9 (by kernel_rfl) [tC (nt k1)] (by kernel_rfl)).to (by first | (simp [wk, k0, k1]; done) | (exfalso; simp only [decide_eq_true_eq] at k0; subst k0; simp at k1))
  · skip
    rcases Bool.eq_false_or_eq_true ((↑(List.length (List.map IrS.d l)) : Int) == (↑(List.length (List.map IrS.d m)) : Int)) with k3 | k3
    · skip
      have c4 := Proofs.Yteakhlhhmgpidaa.same_run_f (l) (m) hb k0 k3
      exact (Ret.of_eval (d := D.bool false) mixed Try.func9 (by kernel_rfl) [tC (nt k3), .head ⟨[0, 1, 5], [], []⟩ _ _ _ _ _ _ _ c4] (by kernel_rfl)).to (by first | (simp [wk, k0, k3]; done) | (exfalso; simp only [decide_eq_true_eq] at k0; subst k0; simp at k1))
    · skip
      exact (Ret.of_eval (d := D.bool false) mixed Try.func9 (by kernel_rfl) [tC (nt k3)] (by kernel_rfl)).to (by first | (simp [wk, k0, k3]; done) | (exfalso; simp only [decide_eq_true_eq] at k0; subst k0; simp at k1))

end Go.Proofs.Yteakhlhhmgpidaa
