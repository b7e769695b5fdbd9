/- EncodeReads returns true whatever its arguments; no condition. -/
import Derived.Test.YtcngafhpodeenaaRows
import Derived.Test.YtcngafhpodeenaaG08
import Derived.Test.YtcngafhpodeenaaG09
import Derived.Test.YtcngafhpodeenaaG10
import Derived.Test.YtcngafhpodeenaaG15
import Derived.Test.YtcngafhpodeenaaLEncodeReads01
namespace Go.Proofs.Ytcngafhpodeenaa
open Go.ChangeShapes Go.WideShapes Go.ChangeAt Go.RowKit Go.Ev
set_option linter.unusedVariables false
set_option linter.unusedSimpArgs false

theorem encodeReads_own : ownKnob Try.prog.godebug = none := by kernel_rfl
theorem encodeReads_laid : laidOutB Try.prog = true := by kernel_rfl

set_option maxRecDepth 100000 in
theorem encodeReads_law {H : Type} {enc : TypeId × Value → H} {ds0 : List (DataW H)} {ps0 : List MemPlace} (W : World) (base : Nat) (args : Array Value) (hval : ∀ (j : Nat) t v, Try.f4.params[j]? = some t → args[j]? = some v → Value.okWide Try.prog W .any base t v) (hlen : args.toList.length = Try.f4.params.toList.length) (hA : DataW.TrodAll enc Try.prog W 0 (fun _ => true) true Try.f4.params.toList args.toList ds0 ps0) :
    Calls Try.prog 4 args W fun e W' => e = .returned (.bool true) ∧ Below W.heap.size W W' := by
  rw [Try.params4] at hlen hval hA
  obtain ⟨v0, rfl⟩ : ∃ v0, args = #[v0] := by
    rcases args with ⟨l⟩
    match l, hlen with
    | [v0], _ => exact ⟨v0, rfl⟩
  obtain ⟨a0, len0, cap0, ev0⟩ := okWide_slice Try.underlying34 (hval 0 34 v0 rfl rfl)
  obtain ⟨fu0, ft0, hf0⟩ := trod_get hA 0 34 v0 rfl rfl
  rw [show v0.cells.toList = [v0] by rw [ev0]; rfl] at hf0
  obtain ⟨xs0, hx0, hn0, hr0⟩ := slice_cells (ks := byK) hdD by_cells Try.underlying34 (by kernel_rfl) (by kernel_rfl) (by decide) hf0
  obtain ⟨b, e0, ho0, hl0⟩ := bys_of xs0 hx0
  rw [e0] at hr0
  refine Ret.law (reads_any b ho0) ⟨rfl, ?_⟩
  intro i d v' h1 h2
  match i, h1, h2 with
  | 0, h1, h2 =>
    simp at h1 h2
    subst h1 h2
    exact hr0

set_option maxRecDepth 100000 in
theorem encodeReads_lifted (os : Os) (started : os.Started) (H : Type) (enc : TypeId × Value → H) :
    ReturnsInHanded {} Try.checked os 4 .any (Rows.encodeReadsSpec.pre6 enc Try.prog Try.f4 Rows.encodeReadsRow.domain false) (Rows.encodeReadsSpec.post enc Try.prog Try.f4 false true false false) :=
  law_lifted (C := Try.checked) (tb := 4) encodeReads_own started (by kernel_rfl) Try.func4 encodeReads_laid rfl
    (by rw [Try.params4]; intro t ht; simp at ht; subst ht; exact ⟨by kernel_rfl, by decide +kernel⟩) (by kernel_rfl) Try.underlying4
    (by
      intro ds hl
      have hl' : ds.length = 1 := hl
      match ds, hl' with
      | [d0], _ => exact ⟨rfl, rfl, rfl⟩)
    (ChangeSpec.witness6 (enc := enc) (C := Try.checked) false ⟨#[], #[.slice none 0 0], []⟩ 8 (by kernel_rfl) (by kernel_rfl) (by kernel_rfl) (by kernel_rfl))
    (fun W base args ds ps hval hlen hA _ => encodeReads_law W base args hval hlen hA)

theorem encodeReads_holds : Rows.EncodeReadsSaid :=
  OpenClaim.holds_of_wide 4 Try.f4 rfl rfl rfl rfl rfl rfl rfl ⟨rfl, rfl, rfl, rfl, rfl⟩ rfl rfl rfl rfl rfl (by kernel_rfl) Try.func4 (by kernel_rfl)
    (of_decide_eq_true (by kernel_rfl)) (by unfold Func.isWrapper; first | (rw [if_pos (by decide +kernel)]; kernel_rfl) | (rw [if_neg (by decide +kernel)]; exact ⟨rfl, rfl⟩))
    (fun os started H enc _ => encodeReads_lifted os started H enc)
end Go.Proofs.Ytcngafhpodeenaa
#print axioms Go.Proofs.Ytcngafhpodeenaa.encodeReads_holds
