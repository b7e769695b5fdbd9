/- LowerGives returns true at any instruction of the source; no condition. -/
import Derived.Test.YteakhlhhmgpidaaRows
import Derived.Test.YteakhlhhmgpidaaGives
import Derived.Test.YteakhlhhmgpidaaEvR
namespace Go.Proofs.Yteakhlhhmgpidaa
open Go.ChangeShapes Go.WideShapes Go.ChangeAt Go.RowKit Go.Ev
set_option linter.unusedVariables false
set_option linter.unusedSimpArgs false

theorem own : ownKnob Try.prog.godebug = none := by kernel_rfl
theorem laid : laidOutB Try.prog = true := by kernel_rfl

set_option maxRecDepth 100000 in
theorem lowerGives_law (W : World) (base : Nat) (args : Array Value) (hval : ∀ (j : Nat) t v, Try.f4.params[j]? = some t → args[j]? = some v → Value.okWide Try.prog W .any base t v) (hlen : args.toList.length = Try.f4.params.toList.length) :
    Calls Try.prog 4 args W fun e W' => e = .returned (.bool true) ∧ Below W.heap.size W W' := by
  rw [Try.params4] at hlen hval
  obtain ⟨v, rfl⟩ : ∃ v, args = #[v] := by
    rcases args with ⟨l⟩
    match l, hlen with
    | [v], _ => exact ⟨v, rfl⟩
  obtain ⟨ds, hk, hr⟩ := agg_open (M := bareOf (allOf W)) (ts := [22, 22, 22, 22, 4, 22, 22, 3, 3]) (ks := [.int .i8, .int .i8, .int .i8, .int .i8, .bool, .int .i8, .int .i8, .int .i64, .int .i64]) Try.underlying24 rfl (by kernel_rfl) (by kernel_rfl) (by kernel_rfl) (hval 0 24 v rfl rfl)
  simp only [okL] at hk
  obtain ⟨kind, _, rfl, _, op, _, rfl, _, width, _, rfl, _, size, _, rfl, _, byReg, _, rfl, dst, _, rfl, _, src, _, rfl, _, off, _, rfl, _, imm, _, rfl, _, rfl⟩ := hk
  refine Ret.law (lowerGives_ok kind op width size byReg dst src off imm) ⟨rfl, ?_⟩
  intro i d v' h1 h2
  match i, h1, h2 with
  | 0, h1, h2 =>
    simp at h1 h2
    subst h1 h2
    exact hr

set_option maxRecDepth 100000 in
theorem lowerGives_lifted (os : Os) (started : os.Started) (H : Type) (enc : TypeId × Value → H) :
    ReturnsInHanded {} Try.checked os 4 .any (Rows.lowerGivesSpec.pre6 enc Try.prog Try.f4 Rows.lowerGivesRow.domain false) (Rows.lowerGivesSpec.post enc Try.prog Try.f4 false true false false) :=
  law_lifted (C := Try.checked) (tb := 4) own started (by kernel_rfl) Try.func4 laid rfl
    (by rw [Try.params4]; intro t ht; simp at ht; subst ht; exact ⟨by kernel_rfl, by decide +kernel⟩) (by kernel_rfl) Try.underlying4
    (by
      intro ds hl
      have hl' : ds.length = 1 := hl
      match ds, hl' with
      | [d], _ => exact ⟨rfl, rfl, rfl⟩)
    (ChangeSpec.witness6 (enc := enc) (C := Try.checked) false ⟨#[], #[.agg #[.int .i8 0, .int .i8 0, .int .i8 0, .int .i8 0, .bool false, .int .i8 0, .int .i8 0, .int .i64 0, .int .i64 0]], []⟩ 8 (by kernel_rfl) (by kernel_rfl) (by kernel_rfl) (by kernel_rfl))
    (fun W base args ds ps hval hlen _ _ => lowerGives_law W base args hval hlen)

theorem lowerGives_holds : Rows.LowerGivesSaid :=
  OpenClaim.holds_of_wide 4 Try.f4 rfl rfl rfl rfl rfl rfl rfl ⟨rfl, rfl, rfl, rfl, rfl⟩ rfl rfl rfl rfl rfl (by kernel_rfl) Try.func4 (by kernel_rfl)
    (of_decide_eq_true (by kernel_rfl)) (by unfold Func.isWrapper; first | (rw [if_pos (by decide +kernel)]; kernel_rfl) | (rw [if_neg (by decide +kernel)]; exact ⟨rfl, rfl⟩))
    (fun os started H enc _ => lowerGives_lifted os started H enc)
end Go.Proofs.Yteakhlhhmgpidaa
#print axioms Go.Proofs.Yteakhlhhmgpidaa.lowerGives_holds
