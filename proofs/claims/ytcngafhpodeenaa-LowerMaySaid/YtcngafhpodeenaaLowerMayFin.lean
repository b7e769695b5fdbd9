/- LowerMay returns true whatever its arguments; no condition. -/
import Derived.Test.YtcngafhpodeenaaRows
import Derived.Test.YtcngafhpodeenaaW05
import Derived.Test.YtcngafhpodeenaaW06
import Derived.Test.YtcngafhpodeenaaW14
import Derived.Test.YtcngafhpodeenaaLLowerMay01
namespace Go.Proofs.Ytcngafhpodeenaa
open Go.ChangeShapes Go.WideShapes Go.ChangeAt Go.RowKit Go.Ev
set_option linter.unusedVariables false
set_option linter.unusedSimpArgs false

theorem lowerMay_own : ownKnob Try.prog.godebug = none := by kernel_rfl
theorem lowerMay_laid : laidOutB Try.prog = true := by kernel_rfl

set_option maxRecDepth 100000 in
theorem lowerMay_law {H : Type} {enc : TypeId × Value → H} {ds0 : List (DataW H)} {ps0 : List MemPlace} (W : World) (base : Nat) (args : Array Value) (hval : ∀ (j : Nat) t v, Try.f8.params[j]? = some t → args[j]? = some v → Value.okWide Try.prog W .any base t v) (hlen : args.toList.length = Try.f8.params.toList.length) (hA : DataW.TrodAll enc Try.prog W 0 (fun _ => true) true Try.f8.params.toList args.toList ds0 ps0) :
    Calls Try.prog 8 args W fun e W' => e = .returned (.bool true) ∧ Below W.heap.size W W' := by
  rw [Try.params8] at hlen hval hA
  obtain ⟨v0, rfl⟩ : ∃ v0, args = #[v0] := by
    rcases args with ⟨l⟩
    match l, hlen with
    | [v0], _ => exact ⟨v0, rfl⟩
  obtain ⟨fu0, ft0, hf0⟩ := trod_get hA 0 24 v0 rfl rfl
  obtain ⟨ctx, xs0, hx0, hr0⟩ := prog_open (ks := inK) Try.underlying24 (by kernel_rfl) rfl Try.underlying3 (by kernel_rfl) rfl Try.underlying22 (by kernel_rfl) (by kernel_rfl) (by kernel_rfl) (by decide) (hval 0 24 v0 rfl rfl) hf0
  obtain ⟨l, e0⟩ := insts_of xs0 hx0
  rw [e0] at hr0
  refine Ret.law (lmay_any ctx l) ⟨rfl, ?_⟩
  intro i d v' h1 h2
  match i, h1, h2 with
  | 0, h1, h2 =>
    simp at h1 h2
    subst h1 h2
    exact hr0

set_option maxRecDepth 100000 in
theorem lowerMay_lifted (os : Os) (started : os.Started) (H : Type) (enc : TypeId × Value → H) :
    ReturnsInHanded {} Try.checked os 8 .any (Rows.lowerMaySpec.pre6 enc Try.prog Try.f8 Rows.lowerMayRow.domain false) (Rows.lowerMaySpec.post enc Try.prog Try.f8 false true false false) :=
  law_lifted (C := Try.checked) (tb := 4) lowerMay_own started (by kernel_rfl) Try.func8 lowerMay_laid rfl
    (by rw [Try.params8]; intro t ht; simp at ht; subst ht; exact ⟨by kernel_rfl, by decide +kernel⟩) (by kernel_rfl) Try.underlying4
    (by
      intro ds hl
      have hl' : ds.length = 1 := hl
      match ds, hl' with
      | [d0], _ => exact ⟨rfl, rfl, rfl⟩)
    (ChangeSpec.witness6 (enc := enc) (C := Try.checked) false ⟨#[], #[.agg #[.int .i64 0, .slice none 0 0]], []⟩ 8 (by kernel_rfl) (by kernel_rfl) (by kernel_rfl) (by kernel_rfl))
    (fun W base args ds ps hval hlen hA _ => lowerMay_law W base args hval hlen hA)

theorem lowerMay_holds : Rows.LowerMaySaid :=
  OpenClaim.holds_of_wide 8 Try.f8 rfl rfl rfl rfl rfl rfl rfl ⟨rfl, rfl, rfl, rfl, rfl⟩ rfl rfl rfl rfl rfl (by kernel_rfl) Try.func8 (by kernel_rfl)
    (of_decide_eq_true (by kernel_rfl)) (by unfold Func.isWrapper; first | (rw [if_pos (by decide +kernel)]; kernel_rfl) | (rw [if_neg (by decide +kernel)]; exact ⟨rfl, rfl⟩))
    (fun os started H enc _ => lowerMay_lifted os started H enc)
end Go.Proofs.Ytcngafhpodeenaa
#print axioms Go.Proofs.Ytcngafhpodeenaa.lowerMay_holds
