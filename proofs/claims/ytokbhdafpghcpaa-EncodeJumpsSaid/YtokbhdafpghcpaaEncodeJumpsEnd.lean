/- EncodeJumps returns true whatever its arguments; no condition. -/
import Derived.Test.YtokbhdafpghcpaaXJumps
import Derived.Test.YtokbhdafpghcpaaEvR
import Derived.Test.YtokbhdafpghcpaaRows
namespace Go.Proofs.Ytokbhdafpghcpaa
open Go.ChangeShapes Go.WideShapes Go.ChangeAt Go.RowKit Go.Ev
set_option linter.unusedVariables false
set_option linter.unusedSimpArgs false

theorem encodeJumps_own : ownKnob Try.prog.godebug = none := by kernel_rfl
theorem encodeJumps_laid : laidOutB Try.prog = true := by kernel_rfl

set_option maxRecDepth 100000 in
theorem encodeJumps_law (W : World) (base : Nat) (args : Array Value) (hval : ∀ (j : Nat) t v, Try.f4.params[j]? = some t → args[j]? = some v → Value.okWide Try.prog W .any base t v) (hlen : args.toList.length = Try.f4.params.toList.length) :
    Calls Try.prog 4 args W fun e W' => e = .returned (.bool true) ∧ Below W.heap.size W W' := by
  rw [Try.params4] at hlen hval
  obtain ⟨v0, v1, rfl⟩ : ∃ v0 v1, args = #[v0, v1] := by
    rcases args with ⟨l⟩
    match l, hlen with
    | [v0, v1], _ => exact ⟨v0, v1, rfl⟩
  obtain ⟨d0, hk0, hr0⟩ := one_open (M := bareOf (allOf W)) (k := .int .i8) (by kernel_rfl) (hval 0 22 v0 rfl rfl)
  simp only [okL] at hk0
  obtain ⟨cc, r0, e0, h_cc, _⟩ := hk0
  obtain rfl := (List.cons.inj e0).1
  obtain ⟨d1, hk1, hr1⟩ := one_open (M := bareOf (allOf W)) (k := .int .i64) (by kernel_rfl) (hval 1 3 v1 rfl rfl)
  simp only [okL] at hk1
  obtain ⟨n, r1, e1, h_n, _⟩ := hk1
  obtain rfl := (List.cons.inj e1).1
  refine Ret.law (jumps_ok cc n) ⟨rfl, ?_⟩
  intro i d v' h1 h2
  match i, h1, h2 with
  | 0, h1, h2 =>
    simp at h1 h2
    subst h1 h2
    exact hr0
  | 1, h1, h2 =>
    simp at h1 h2
    subst h1 h2
    exact hr1

set_option maxRecDepth 100000 in
theorem encodeJumps_lifted (os : Os) (started : os.Started) (H : Type) (enc : TypeId × Value → H) :
    ReturnsInHanded {} Try.checked os 4 .any (Rows.encodeJumpsSpec.pre6 enc Try.prog Try.f4 Rows.encodeJumpsRow.domain false) (Rows.encodeJumpsSpec.post enc Try.prog Try.f4 false true false false) :=
  law_lifted (C := Try.checked) (tb := 4) encodeJumps_own started (by kernel_rfl) Try.func4 encodeJumps_laid rfl
    (by rw [Try.params4]; intro t ht; simp at ht; rcases ht with rfl | rfl <;> exact ⟨by kernel_rfl, by decide +kernel⟩) (by kernel_rfl) Try.underlying4
    (by
      intro ds hl
      have hl' : ds.length = 2 := hl
      match ds, hl' with
      | [d0, d1], _ => exact ⟨rfl, rfl, rfl⟩)
    (ChangeSpec.witness6 (enc := enc) (C := Try.checked) false ⟨#[], #[.int .i8 0, .int .i64 0], []⟩ 8 (by kernel_rfl) (by kernel_rfl) (by kernel_rfl) (by kernel_rfl))
    (fun W base args ds ps hval hlen _ _ => encodeJumps_law W base args hval hlen)

theorem encodeJumps_holds : Rows.EncodeJumpsSaid :=
  OpenClaim.holds_of_wide 4 Try.f4 rfl rfl rfl rfl rfl rfl rfl ⟨rfl, rfl, rfl, rfl, rfl⟩ rfl rfl rfl rfl rfl (by kernel_rfl) Try.func4 (by kernel_rfl)
    (of_decide_eq_true (by kernel_rfl)) (by unfold Func.isWrapper; first | (rw [if_pos (by decide +kernel)]; kernel_rfl) | (rw [if_neg (by decide +kernel)]; exact ⟨rfl, rfl⟩))
    (fun os started H enc _ => encodeJumps_lifted os started H enc)
end Go.Proofs.Ytokbhdafpghcpaa
#print axioms Go.Proofs.Ytokbhdafpghcpaa.encodeJumps_holds
