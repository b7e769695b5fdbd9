/- IrOne returns true whatever its arguments; no condition. -/
import Derived.Test.YtojgmjfcfpclbaaRows
import Derived.Test.YtojgmjfcfpclbaaK15
import Derived.Test.YtojgmjfcfpclbaaLIrOne01
namespace Go.Proofs.Ytojgmjfcfpclbaa
open Go.ChangeShapes Go.WideShapes Go.ChangeAt Go.RowKit Go.Ev
set_option linter.unusedVariables false
set_option linter.unusedSimpArgs false

theorem irOne_own : ownKnob Try.prog.godebug = none := by kernel_rfl
theorem irOne_laid : laidOutB Try.prog = true := by kernel_rfl
theorem has8 {n : Int} (h : IntKind.i8.has n) : -128 ≤ n ∧ n ≤ 127 := by
  simp [IntKind.has, IntKind.min, IntKind.max, IntKind.signed, IntKind.bits] at h
  omega

set_option maxRecDepth 100000 in
theorem irOne_law (W : World) (base : Nat) (args : Array Value) (hval : ∀ (j : Nat) t v, Try.f5.params[j]? = some t → args[j]? = some v → Value.okWide Try.prog W .any base t v) (hlen : args.toList.length = Try.f5.params.toList.length) :
    Calls Try.prog 5 args W fun e W' => e = .returned (.bool true) ∧ Below W.heap.size W W' := by
  rw [Try.params5] at hlen hval
  obtain ⟨v0, v1, rfl⟩ : ∃ v0 v1, args = #[v0, v1] := by
    rcases args with ⟨l⟩
    match l, hlen with
    | [v0, v1], _ => exact ⟨v0, v1, rfl⟩
  obtain ⟨ds0, hk0, hr0⟩ := agg_open (M := bareOf (allOf W)) (ts := [34, 34, 34, 34, 34, 3, 3, 34]) (ks := [.int .i8, .int .i8, .int .i8, .int .i8, .int .i8, .int .i64, .int .i64, .int .i8]) Try.underlying37 rfl (by kernel_rfl) (by kernel_rfl) (by kernel_rfl) (hval 0 37 v0 rfl rfl)
  simp only [okL] at hk0
  obtain ⟨op, _, rfl, h_op, w, _, rfl, h_w, dst, _, rfl, h_dst, src, _, rfl, h_src, base, _, rfl, h_base, disp, _, rfl, h_disp, imm, _, rfl, h_imm, cc, _, rfl, h_cc, rfl⟩ := hk0
  obtain ⟨ds1, hk1, hr1⟩ := agg_open (M := bareOf (allOf W)) (ts := [23, 23, 23, 23, 23, 23, 23, 23, 23, 23, 23]) (ks := [.int .u64, .int .u64, .int .u64, .int .u64, .int .u64, .int .u64, .int .u64, .int .u64, .int .u64, .int .u64, .int .u64]) Try.underlying24 rfl (by kernel_rfl) (by kernel_rfl) (by kernel_rfl) (hval 1 24 v1 rfl rfl)
  simp only [okL] at hk1
  obtain ⟨r0, _, rfl, h_r0, r1, _, rfl, h_r1, r2, _, rfl, h_r2, r3, _, rfl, h_r3, r4, _, rfl, h_r4, r5, _, rfl, h_r5, r6, _, rfl, h_r6, r7, _, rfl, h_r7, r8, _, rfl, h_r8, r9, _, rfl, h_r9, r10, _, rfl, h_r10, rfl⟩ := hk1
  refine Ret.law (one_any_ok op w dst src base disp imm cc ⟨r0, r1, r2, r3, r4, r5, r6, r7, r8, r9, r10⟩ (has8 h_op).2 (has8 h_cc).2) ⟨rfl, ?_⟩
  intro i d v' h1 h2
  match i, h1, h2 with
  | 0, h1, h2 =>
    simp at h1 h2
    subst h1 h2
    exact hr0
  | 1, h1, h2 =>
    simp at h1 h2
    subst h1 h2
    exact hr1

set_option maxRecDepth 100000 in
theorem irOne_lifted (os : Os) (started : os.Started) (H : Type) (enc : TypeId × Value → H) :
    ReturnsInHanded {} Try.checked os 5 .any (Rows.irOneSpec.pre6 enc Try.prog Try.f5 Rows.irOneRow.domain false) (Rows.irOneSpec.post enc Try.prog Try.f5 false true false false) :=
  law_lifted (C := Try.checked) (tb := 4) irOne_own started (by kernel_rfl) Try.func5 irOne_laid rfl
    (by rw [Try.params5]; intro t ht; simp at ht; rcases ht with rfl | rfl <;> exact ⟨by kernel_rfl, by decide +kernel⟩) (by kernel_rfl) Try.underlying4
    (by
      intro ds hl
      have hl' : ds.length = 2 := hl
      match ds, hl' with
      | [d0, d1], _ => exact ⟨rfl, rfl, rfl⟩)
    (ChangeSpec.witness6 (enc := enc) (C := Try.checked) false ⟨#[], #[.agg #[.int .i8 0, .int .i8 0, .int .i8 0, .int .i8 0, .int .i8 0, .int .i64 0, .int .i64 0, .int .i8 0], .agg #[.int .u64 0, .int .u64 0, .int .u64 0, .int .u64 0, .int .u64 0, .int .u64 0, .int .u64 0, .int .u64 0, .int .u64 0, .int .u64 0, .int .u64 0]], []⟩ 8 (by kernel_rfl) (by kernel_rfl) (by kernel_rfl) (by kernel_rfl))
    (fun W base args ds ps hval hlen hA _ => irOne_law W base args hval hlen)

theorem irOne_holds : Rows.IrOneSaid :=
  OpenClaim.holds_of_wide 5 Try.f5 rfl rfl rfl rfl rfl rfl rfl ⟨rfl, rfl, rfl, rfl, rfl⟩ rfl rfl rfl rfl rfl (by kernel_rfl) Try.func5 (by kernel_rfl)
    (of_decide_eq_true (by kernel_rfl)) (by unfold Func.isWrapper; first | (rw [if_pos (by decide +kernel)]; kernel_rfl) | (rw [if_neg (by decide +kernel)]; exact ⟨rfl, rfl⟩))
    (fun os started H enc _ => irOne_lifted os started H enc)
end Go.Proofs.Ytojgmjfcfpclbaa
#print axioms Go.Proofs.Ytojgmjfcfpclbaa.irOne_holds
