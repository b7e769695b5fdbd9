/- LayoutRuns returns true whatever its arguments; no condition. -/
import Derived.Test.YtcngafhpodeenaaRows
import Derived.Test.YtcngafhpodeenaaP06
import Derived.Test.YtcngafhpodeenaaP07
import Derived.Test.YtcngafhpodeenaaP08
import Derived.Test.YtcngafhpodeenaaP15
import Derived.Test.YtcngafhpodeenaaLLayoutRuns01
namespace Go.Proofs.Ytcngafhpodeenaa
open Go.ChangeShapes Go.WideShapes Go.ChangeAt Go.RowKit Go.Ev
set_option linter.unusedVariables false
set_option linter.unusedSimpArgs false

theorem layoutRuns_own : ownKnob Try.prog.godebug = none := by kernel_rfl
theorem layoutRuns_laid : laidOutB Try.prog = true := by kernel_rfl

set_option maxRecDepth 100000 in
theorem layoutRuns_law {H : Type} {enc : TypeId × Value → H} {ds0 : List (DataW H)} {ps0 : List MemPlace} (W : World) (base : Nat) (args : Array Value) (hval : ∀ (j : Nat) t v, Try.f7.params[j]? = some t → args[j]? = some v → Value.okWide Try.prog W .any base t v) (hlen : args.toList.length = Try.f7.params.toList.length) (hA : DataW.TrodAll enc Try.prog W 0 (fun _ => true) true Try.f7.params.toList args.toList ds0 ps0) (hz : (DataW.weightsEach Try.prog Try.f7.params.toList ds0).all (· ≤ reachBytes) = true) :
    Calls Try.prog 7 args W fun e W' => e = .returned (.bool true) ∧ Below W.heap.size W W' := by
  rw [Try.params7] at hlen hval hA hz
  obtain ⟨v0, v1, rfl⟩ : ∃ v0 v1, args = #[v0, v1] := by
    rcases args with ⟨l⟩
    match l, hlen with
    | [v0, v1], _ => exact ⟨v0, v1, rfl⟩
  obtain ⟨a0, len0, cap0, ev0⟩ := okWide_slice Try.underlying45 (hval 0 45 v0 rfl rfl)
  obtain ⟨fu0, ft0, hf0, hw0⟩ := trod_get_w hA hz 0 45 v0 rfl rfl
  rw [show v0.cells.toList = [v0] by rw [ev0]; rfl] at hf0
  obtain ⟨xs0, hx0, hn0, hr0⟩ := slice_cells (ks := xK) .agg (fun ds _ => rfl) Try.underlying45 (by kernel_rfl) (by kernel_rfl) (by decide) hf0
  have hb0 := wt_len (by kernel_rfl) (slice_wt Try.underlying45 hf0 hr0 hw0)
  obtain ⟨pro, e0, ho0, hl0⟩ := xs_of xs0 hx0
  rw [e0] at hr0 hb0
  rw [List.length_map] at hb0
  obtain ⟨a1, len1, cap1, ev1⟩ := okWide_slice Try.underlying26 (hval 1 26 v1 rfl rfl)
  obtain ⟨fu1, ft1, hf1, hw1⟩ := trod_get_w hA hz 1 26 v1 rfl rfl
  rw [show v1.cells.toList = [v1] by rw [ev1]; rfl] at hf1
  obtain ⟨xs1, hx1, hr1⟩ := slices_open (ks := irK) Try.underlying26 Try.underlying31 (by kernel_rfl) (by kernel_rfl) (by kernel_rfl) (by decide) hf1 hw1
  obtain ⟨l, e1, ho1⟩ := rows_of xs1 hx1
  rw [e1] at hr1
  refine Ret.law (runs_any pro l ho0 (fun r hr => (ho1 r hr).1) ⟨hb0, fun r hr => wt_len (by kernel_rfl) (ho1 r hr).2⟩) ⟨rfl, ?_⟩
  intro i d v' h1 h2
  match i, h1, h2 with
  | 0, h1, h2 =>
    simp at h1 h2
    subst h1 h2
    exact hr0
  | 1, h1, h2 =>
    simp at h1 h2
    subst h1 h2
    exact hr1

set_option maxRecDepth 100000 in
theorem layoutRuns_lifted (os : Os) (started : os.Started) (H : Type) (enc : TypeId × Value → H) :
    ReturnsInHanded {} Try.checked os 7 .any (Rows.layoutRunsSpec.pre6 enc Try.prog Try.f7 Rows.layoutRunsRow.domain false) (Rows.layoutRunsSpec.post enc Try.prog Try.f7 false true false false) :=
  law_lifted (C := Try.checked) (tb := 4) layoutRuns_own started (by kernel_rfl) Try.func7 layoutRuns_laid rfl
    (by rw [Try.params7]; intro t ht; simp at ht; rcases ht with rfl | rfl <;> exact ⟨by kernel_rfl, by decide +kernel⟩) (by kernel_rfl) Try.underlying4
    (by
      intro ds hl
      have hl' : ds.length = 2 := hl
      match ds, hl' with
      | [d0, d1], _ => exact ⟨rfl, rfl, rfl⟩)
    (ChangeSpec.witness6 (enc := enc) (C := Try.checked) false ⟨#[], #[.slice none 0 0, .slice none 0 0], []⟩ 8 (by kernel_rfl) (by kernel_rfl) (by kernel_rfl) (by kernel_rfl))
    (fun W base args ds ps hval hlen hA hz => layoutRuns_law W base args hval hlen hA hz)

theorem layoutRuns_holds : Rows.LayoutRunsSaid :=
  OpenClaim.holds_of_wide 7 Try.f7 rfl rfl rfl rfl rfl rfl rfl ⟨rfl, rfl, rfl, rfl, rfl⟩ rfl rfl rfl rfl rfl (by kernel_rfl) Try.func7 (by kernel_rfl)
    (of_decide_eq_true (by kernel_rfl)) (by unfold Func.isWrapper; first | (rw [if_pos (by decide +kernel)]; kernel_rfl) | (rw [if_neg (by decide +kernel)]; exact ⟨rfl, rfl⟩))
    (fun os started H enc _ => layoutRuns_lifted os started H enc)
end Go.Proofs.Ytcngafhpodeenaa
#print axioms Go.Proofs.Ytcngafhpodeenaa.layoutRuns_holds
