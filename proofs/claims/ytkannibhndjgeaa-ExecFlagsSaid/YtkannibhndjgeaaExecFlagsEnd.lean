/- ExecFlags returns true whatever its arguments; no condition. -/
import Derived.Test.YtkannibhndjgeaaE4
import Derived.Test.YtkannibhndjgeaaEvR
import Derived.Test.YtkannibhndjgeaaRows
namespace Go.Proofs.Ytkannibhndjgeaa
open Go.ChangeShapes Go.WideShapes Go.ChangeAt Go.RowKit Go.Ev
set_option linter.unusedVariables false
set_option linter.unusedSimpArgs false

theorem execFlags_own : ownKnob Try.prog.godebug = none := by kernel_rfl
theorem execFlags_laid : laidOutB Try.prog = true := by kernel_rfl

set_option maxRecDepth 100000 in
theorem execFlags_law (W : World) (base : Nat) (args : Array Value) (hval : ∀ (j : Nat) t v, Try.f3.params[j]? = some t → args[j]? = some v → Value.okWide Try.prog W .any base t v) (hlen : args.toList.length = Try.f3.params.toList.length) :
    Calls Try.prog 3 args W fun e W' => e = .returned (.bool true) ∧ Below W.heap.size W W' := by
  rw [Try.params3] at hlen hval
  obtain ⟨v0, v1, v2, v3, rfl⟩ : ∃ v0 v1 v2 v3, args = #[v0, v1, v2, v3] := by
    rcases args with ⟨l⟩
    match l, hlen with
    | [v0, v1, v2, v3], _ => exact ⟨v0, v1, v2, v3, rfl⟩
  obtain ⟨ds0, hk0, hr0⟩ := agg_open (M := bareOf (allOf W)) (ts := [22, 22, 22, 22, 22, 22, 22, 22, 22, 22, 22, 22, 22, 22, 22, 22, 4, 4, 4, 4, 4, 22]) (ks := [.int .u64, .int .u64, .int .u64, .int .u64, .int .u64, .int .u64, .int .u64, .int .u64, .int .u64, .int .u64, .int .u64, .int .u64, .int .u64, .int .u64, .int .u64, .int .u64, .bool, .bool, .bool, .bool, .bool, .int .u64]) Try.underlying27 rfl (by kernel_rfl) (by kernel_rfl) (by kernel_rfl) (hval 0 27 v0 rfl rfl)
  simp only [okL] at hk0
  obtain ⟨q0, _, rfl, h_q0, q1, _, rfl, h_q1, q2, _, rfl, h_q2, q3, _, rfl, h_q3, q4, _, rfl, h_q4, q5, _, rfl, h_q5, q6, _, rfl, h_q6, q7, _, rfl, h_q7, q8, _, rfl, h_q8, q9, _, rfl, h_q9, q10, _, rfl, h_q10, q11, _, rfl, h_q11, q12, _, rfl, h_q12, q13, _, rfl, h_q13, q14, _, rfl, h_q14, q15, _, rfl, h_q15, fk, _, rfl, fc, _, rfl, fz, _, rfl, fs, _, rfl, fo, _, rfl, at', _, rfl, h_at', rfl⟩ := hk0
  obtain ⟨d1, hk1, hr1⟩ := one_open (M := bareOf (allOf W)) (k := .int .i8) (by kernel_rfl) (hval 1 28 v1 rfl rfl)
  simp only [okL] at hk1
  obtain ⟨w, r1, e1, h_w, _⟩ := hk1
  obtain rfl := (List.cons.inj e1).1
  obtain ⟨d2, hk2, hr2⟩ := one_open (M := bareOf (allOf W)) (k := .int .i8) (by kernel_rfl) (hval 2 28 v2 rfl rfl)
  simp only [okL] at hk2
  obtain ⟨dst, r2, e2, h_dst, _⟩ := hk2
  obtain rfl := (List.cons.inj e2).1
  obtain ⟨d3, hk3, hr3⟩ := one_open (M := bareOf (allOf W)) (k := .int .i8) (by kernel_rfl) (hval 3 28 v3 rfl rfl)
  simp only [okL] at hk3
  obtain ⟨src, r3, e3, h_src, _⟩ := hk3
  obtain rfl := (List.cons.inj e3).1
  refine Ret.law (flags_ok q0 q1 q2 q3 q4 q5 q6 q7 q8 q9 q10 q11 q12 q13 q14 q15 at' fk fc fz fs fo w dst src) ⟨rfl, ?_⟩
  intro i d v' h1 h2
  match i, h1, h2 with
  | 0, h1, h2 =>
    simp at h1 h2
    subst h1 h2
    exact hr0
  | 1, h1, h2 =>
    simp at h1 h2
    subst h1 h2
    exact hr1
  | 2, h1, h2 =>
    simp at h1 h2
    subst h1 h2
    exact hr2
  | 3, h1, h2 =>
    simp at h1 h2
    subst h1 h2
    exact hr3

set_option maxRecDepth 100000 in
theorem execFlags_lifted (os : Os) (started : os.Started) (H : Type) (enc : TypeId × Value → H) :
    ReturnsInHanded {} Try.checked os 3 .any (Rows.execFlagsSpec.pre6 enc Try.prog Try.f3 Rows.execFlagsRow.domain false) (Rows.execFlagsSpec.post enc Try.prog Try.f3 false true false false) :=
  law_lifted (C := Try.checked) (tb := 4) execFlags_own started (by kernel_rfl) Try.func3 execFlags_laid rfl
    (by rw [Try.params3]; intro t ht; simp at ht; rcases ht with rfl | rfl <;> exact ⟨by kernel_rfl, by decide +kernel⟩) (by kernel_rfl) Try.underlying4
    (by
      intro ds hl
      have hl' : ds.length = 4 := hl
      match ds, hl' with
      | [d0, d1, d2, d3], _ => exact ⟨rfl, rfl, rfl⟩)
    (ChangeSpec.witness6 (enc := enc) (C := Try.checked) false ⟨#[], #[.agg #[.int .u64 0, .int .u64 0, .int .u64 0, .int .u64 0, .int .u64 0, .int .u64 0, .int .u64 0, .int .u64 0, .int .u64 0, .int .u64 0, .int .u64 0, .int .u64 0, .int .u64 0, .int .u64 0, .int .u64 0, .int .u64 0, .bool false, .bool false, .bool false, .bool false, .bool false, .int .u64 0], .int .i8 0, .int .i8 0, .int .i8 0], []⟩ 8 (by kernel_rfl) (by kernel_rfl) (by kernel_rfl) (by kernel_rfl))
    (fun W base args ds ps hval hlen _ _ => execFlags_law W base args hval hlen)

theorem execFlags_holds : Rows.ExecFlagsSaid :=
  OpenClaim.holds_of_wide 3 Try.f3 rfl rfl rfl rfl rfl rfl rfl ⟨rfl, rfl, rfl, rfl, rfl⟩ rfl rfl rfl rfl rfl (by kernel_rfl) Try.func3 (by kernel_rfl)
    (of_decide_eq_true (by kernel_rfl)) (by unfold Func.isWrapper; first | (rw [if_pos (by decide +kernel)]; kernel_rfl) | (rw [if_neg (by decide +kernel)]; exact ⟨rfl, rfl⟩))
    (fun os started H enc _ => execFlags_lifted os started H enc)
end Go.Proofs.Ytkannibhndjgeaa
#print axioms Go.Proofs.Ytkannibhndjgeaa.execFlags_holds
