/- A loop that compares two rows of steps, from its rounds. -/
import Derived.Test.YteakhlhhmgpidaaSame
namespace Go.Proofs.Yteakhlhhmgpidaa
open Go Go.Ev
set_option linter.unusedVariables false
set_option maxRecDepth 100000

theorem same_rounds_t (l : List IrS) (hb : l.length ≤ 1099511627776) : ∀ (n k : Nat), n + k = l.length →
    Rounds Try.prog (loopB Try.f9 0) 0 [.lst .no 13 (l.map IrS.d), .lst .no 13 (l.map IrS.d), .undef, .undef, .undef, .int .i64 (k : Int), .undef, .undef, .undef, .undef, .undef, .undef, .undef, .undef, .undef, .undef, .undef, .undef, .undef, .undef, .undef, .undef, .undef, .undef, .undef, .undef] [] (.exit 0) [.undef, .undef, .undef, .undef, .undef, .undef, .undef, .undef, .undef, .undef, .undef, .undef, .undef, .undef, .undef, .undef, .undef, .undef, .undef, .undef, .undef, .undef, .undef, .undef, .undef, .undef] [] := by
  intro n
  induction n with
  | zero =>
    intro k hk
    exact Rounds.last (same_done (l.map IrS.d) (l.map IrS.d) k (by simpa using hb) (by simp; omega)) (by simp)
  | succ n ih =>
    intro k hk
    have hx : l[k]? = some l[k] := by simp
    exact Rounds.more (same_eq (l.map IrS.d) (l.map IrS.d) k (by simpa using hb) (by simp; omega) _ _ _ _ _ _ _ _ _ _ _ _ _ _ _ _ _ _ _ _ _ _ _ _ _ _ (get_map hx) (get_map hx) (by rw [eq_ir]; simp)) (ih (k + 1) (by omega))
theorem same_run_t (l m : List IrS) (hb : (l.map IrS.d).length ≤ 1099511627776) (h : decide (l = m) = true) :
    LoopRun Try.prog 0 (.loop (loopB Try.f9 0)) [.lst .no 13 (l.map IrS.d), .lst .no 13 (m.map IrS.d), .undef, .undef, .undef, .int .i64 0, .undef, .undef, .undef, .undef, .undef, .undef, .undef, .undef, .undef, .undef, .undef, .undef, .undef, .undef, .undef, .undef, .undef, .undef, .undef, .undef] [] (.exit 0) [.undef, .undef, .undef, .undef, .undef, .undef, .undef, .undef, .undef, .undef, .undef, .undef, .undef, .undef, .undef, .undef, .undef, .undef, .undef, .undef, .undef, .undef, .undef, .undef, .undef, .undef] [] := by
  simp only [decide_eq_true_eq] at h
  subst h
  exact LoopRun.of_rounds (by decide) (same_rounds_t l (by simpa using hb) l.length 0 (by omega))
theorem same_rounds_f (l m : List IrS) (hb : l.length ≤ 1099511627776) (hl : l.length = m.length) : ∀ (n k : Nat), n + k = l.length → l.drop k ≠ m.drop k →
    Rounds Try.prog (loopB Try.f9 0) 0 [.lst .no 13 (l.map IrS.d), .lst .no 13 (m.map IrS.d), .undef, .undef, .undef, .int .i64 (k : Int), .undef, .undef, .undef, .undef, .undef, .undef, .undef, .undef, .undef, .undef, .undef, .undef, .undef, .undef, .undef, .undef, .undef, .undef, .undef, .undef] [] .ret [.undef, .undef, .undef, .undef, .bool false, .undef, .undef, .undef, .undef, .undef, .undef, .undef, .undef, .undef, .undef, .undef, .undef, .undef, .undef, .undef, .undef, .undef, .undef, .undef, .undef, .undef] [] := by
  intro n
  induction n with
  | zero =>
    intro k hk hd
    rw [List.drop_eq_nil_of_le (by omega), List.drop_eq_nil_of_le (by omega)] at hd
    exact absurd rfl hd
  | succ n ih =>
    intro k hk hd
    have hx : l[k]? = some l[k] := by simp
    have hy : m[k]? = some (m[k]'(by omega)) := by simp
    by_cases he : l[k] = m[k]'(by omega)
    · refine Rounds.more (same_eq (l.map IrS.d) (m.map IrS.d) k (by simpa using hb) (by simp; omega) _ _ _ _ _ _ _ _ _ _ _ _ _ _ _ _ _ _ _ _ _ _ _ _ _ _ (get_map hx) (get_map hy) (by rw [eq_ir]; simpa using he)) (ih (k + 1) (by omega) ?_)
      intro h
      apply hd
      rw [List.drop_eq_getElem_cons (show k < l.length by omega), List.drop_eq_getElem_cons (show k < m.length by omega), he, h]
    · exact Rounds.last (same_ne (l.map IrS.d) (m.map IrS.d) k (by simpa using hb) (by simp; omega) _ _ _ _ _ _ _ _ _ _ _ _ _ _ _ _ _ _ _ _ _ _ _ _ _ _ (get_map hx) (get_map hy) (by rw [eq_ir]; simpa using he)) (by simp)
theorem same_run_f (l m : List IrS) (hb : (l.map IrS.d).length ≤ 1099511627776) (h : decide (l = m) = false) (hl : (((l.map IrS.d).length : Int) == ((m.map IrS.d).length : Int)) = true) :
    LoopRun Try.prog 0 (.loop (loopB Try.f9 0)) [.lst .no 13 (l.map IrS.d), .lst .no 13 (m.map IrS.d), .undef, .undef, .undef, .int .i64 0, .undef, .undef, .undef, .undef, .undef, .undef, .undef, .undef, .undef, .undef, .undef, .undef, .undef, .undef, .undef, .undef, .undef, .undef, .undef, .undef] [] .ret [.undef, .undef, .undef, .undef, .bool false, .undef, .undef, .undef, .undef, .undef, .undef, .undef, .undef, .undef, .undef, .undef, .undef, .undef, .undef, .undef, .undef, .undef, .undef, .undef, .undef, .undef] [] := by
  have hl' : l.length = m.length := by simp only [beq_iff_eq, List.length_map] at hl; omega
  exact LoopRun.of_rounds (by decide) (same_rounds_f l m (by simpa using hb) hl' l.length 0 (by omega) (by simpa using h))
end Go.Proofs.Yteakhlhhmgpidaa
