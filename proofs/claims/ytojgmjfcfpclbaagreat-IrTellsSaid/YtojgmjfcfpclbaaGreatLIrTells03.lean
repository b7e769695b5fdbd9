/- Contracts and plain laws that a statement's proof leans on (texts merged: MdV). -/
import Derived.Test.YtojgmjfcfpclbaaGreatW09
import Derived.Test.YtojgmjfcfpclbaaGreatW10
import Derived.Test.YtojgmjfcfpclbaaGreatLIrTells02
set_option linter.unusedVariables false
set_option linter.unusedSimpArgs false
namespace Go.Ev
open Go
def irK : List LK := [.int .i8, .int .i8, .int .i8, .int .i8, .int .i8, .int .i8, .int .i64, .int .i64, .int .i8, .int .i8, .int .i8, .int .i64, .int .i64]
theorem has8_ {n : Int} (h : IntKind.i8.has n) : -128 ≤ n ∧ n ≤ 127 := by
 simp [IntKind.has, IntKind.min, IntKind.max, IntKind.signed, IntKind.bits] at h
 omega
theorem ir_of {ds : List D} (h : okL irK ds) : (irOf (.agg ds)).d = .agg ds ∧ (irOf (.agg ds)).ok := by
 simp only [irK, okL] at h
 obtain ⟨a1, _, rfl, h1, a2, _, rfl, h2, a3, _, rfl, h3, a4, _, rfl, h4, a5, _, rfl, h5, a6, _, rfl, h6, a7, _, rfl, h7, a8, _, rfl, h8, a9, _, rfl, h9, a10, _, rfl, h10, a11, _, rfl, h11, a12, _, rfl, h12, a13, _, rfl, h13, rfl⟩ := h
 have k1 := has8_ h1
 have k2 := has8_ h2
 have k9 := has8_ h9
 have k10 := has8_ h10
 have k11 := has8_ h11
 exact ⟨rfl, k1.1, k1.2, k2.2, k9.2, k11.2, k10.1, k10.2⟩
theorem irs_of : ∀ (xs : List (List D)), (∀ ds ∈ xs, okL irK ds) → ∃ l : List IrS, xs.map .agg = l.map IrS.d ∧ AllOk l ∧ l.length = xs.length
 | [], _ => ⟨[], rfl, fun s hs => (by simp at hs), rfl⟩
 | ds :: r, h => by
  obtain ⟨l, e, ho, hl⟩ := irs_of r (fun d hd => h d (List.mem_cons_of_mem _ hd))
  obtain ⟨e1, o1⟩ := ir_of (h ds (List.mem_cons_self ..))
  refine ⟨irOf (.agg ds) :: l, by rw [List.map_cons, List.map_cons, e, e1], fun s hs => ?_, by simp [hl]⟩
  rcases List.mem_cons.mp hs with rfl | hs
  ·exact o1
  ·exact ho s hs
end Go.Ev
