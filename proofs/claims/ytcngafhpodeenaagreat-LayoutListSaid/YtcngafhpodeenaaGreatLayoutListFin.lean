/- LayoutList returns true whatever its arguments; no condition. -/
import Derived.Test.YtcngafhpodeenaaGreatRows
import Derived.Test.YtcngafhpodeenaaGreatG08
import Derived.Test.YtcngafhpodeenaaGreatG09
import Derived.Test.YtcngafhpodeenaaGreatG10
import Derived.Test.YtcngafhpodeenaaGreatG15
namespace Go.Proofs.YtcngafhpodeenaaGreat
open Go.ChangeShapes Go.WideShapes Go.ChangeAt Go.RowKit Go.Ev
set_option linter.unusedVariables false
set_option linter.unusedSimpArgs false

theorem layoutList_own : ownKnob Tryz.prog.godebug = none := by kernel_rfl
theorem layoutList_laid : laidOutB Tryz.prog = true := by kernel_rfl

set_option maxRecDepth 100000 in
theorem layoutList_law {H : Type} {enc : TypeId × Value → H} {ds0 : List (DataW H)} {ps0 : List MemPlace} (W : World) (base : Nat) (args : Array Value) (hval : ∀ (j : Nat) t v, Tryz.f3.params[j]? = some t → args[j]? = some v → Value.okWide Tryz.prog W .any base t v) (hlen : args.toList.length = Tryz.f3.params.toList.length) (hA : DataW.TrodAll enc Tryz.prog W 0 (fun _ => true) true Tryz.f3.params.toList args.toList ds0 ps0) :
    Calls Tryz.prog 3 args W fun e W' => e = .returned (.bool true) ∧ Below W.heap.size W W' := by
  rw [Tryz.params3] at hlen hval hA
  obtain ⟨v0, rfl⟩ : ∃ v0, args = #[v0] := by
    rcases args with ⟨l⟩
    match l, hlen with
    | [v0], _ => exact ⟨v0, rfl⟩
  obtain ⟨a0, len0, cap0, ev0⟩ := okWide_slice Tryz.underlying22 (hval 0 22 v0 rfl rfl)
  obtain ⟨fu0, ft0, hf0⟩ := trod_get hA 0 22 v0 rfl rfl
  rw [show v0.cells.toList = [v0] by rw [ev0]; rfl] at hf0
  obtain ⟨xs0, hx0, hn0, hr0⟩ := slice_cells (ks := byK) hdD by_cells Tryz.underlying22 (by kernel_rfl) (by kernel_rfl) (by decide) hf0
  obtain ⟨b, e0, ho0, hl0⟩ := bys_of xs0 hx0
  rw [e0] at hr0
  refine Ret.law (lay_list b ho0) ⟨rfl, ?_⟩
  intro i d v' h1 h2
  match i, h1, h2 with
  | 0, h1, h2 =>
    simp at h1 h2
    subst h1 h2
    exact hr0

set_option maxRecDepth 100000 in
theorem layoutList_lifted (os : Os) (started : os.Started) (H : Type) (enc : TypeId × Value → H) :
    ReturnsInHanded {} Tryz.checked os 3 .any (Rows.layoutListSpec.pre6 enc Tryz.prog Tryz.f3 Rows.layoutListRow.domain false) (Rows.layoutListSpec.post enc Tryz.prog Tryz.f3 false true false false) :=
  law_lifted (C := Tryz.checked) (tb := 4) layoutList_own started (by kernel_rfl) Tryz.func3 layoutList_laid rfl
    (by rw [Tryz.params3]; intro t ht; simp at ht; subst ht; exact ⟨by kernel_rfl, by decide +kernel⟩) (by kernel_rfl) Tryz.underlying4
    (by
      intro ds hl
      have hl' : ds.length = 1 := hl
      match ds, hl' with
      | [d0], _ => exact ⟨rfl, rfl, rfl⟩)
    (ChangeSpec.witness6 (enc := enc) (C := Tryz.checked) false ⟨#[], #[.slice none 0 0], []⟩ 8 (by kernel_rfl) (by kernel_rfl) (by kernel_rfl) (by kernel_rfl))
    (fun W base args ds ps hval hlen hA _ => layoutList_law W base args hval hlen hA)

theorem layoutList_holds : Rows.LayoutListSaid :=
  OpenClaim.holds_of_wide 3 Tryz.f3 rfl rfl rfl rfl rfl rfl rfl ⟨rfl, rfl, rfl, rfl, rfl⟩ rfl rfl rfl rfl rfl (by kernel_rfl) Tryz.func3 (by kernel_rfl)
    (of_decide_eq_true (by kernel_rfl)) (by unfold Func.isWrapper; first | (rw [if_pos (by decide +kernel)]; kernel_rfl) | (rw [if_neg (by decide +kernel)]; exact ⟨rfl, rfl⟩))
    (fun os started H enc _ => layoutList_lifted os started H enc)
end Go.Proofs.YtcngafhpodeenaaGreat
#print axioms Go.Proofs.YtcngafhpodeenaaGreat.layoutList_holds
