/- IrBehind returns true whatever its arguments; no condition. -/
import Derived.Test.YtojgmjfcfpclbaaRows
import Derived.Test.YtojgmjfcfpclbaaK15
import Derived.Test.YtojgmjfcfpclbaaK16
import Derived.Test.YtojgmjfcfpclbaaK17
import Derived.Test.YtojgmjfcfpclbaaLIrBehind01
namespace Go.Proofs.Ytojgmjfcfpclbaa
open Go.ChangeShapes Go.WideShapes Go.ChangeAt Go.RowKit Go.Ev
set_option linter.unusedVariables false
set_option linter.unusedSimpArgs false

theorem irBehind_own : ownKnob Try.prog.godebug = none := by kernel_rfl
theorem irBehind_laid : laidOutB Try.prog = true := by kernel_rfl

set_option maxRecDepth 100000 in
theorem irBehind_law {H : Type} {enc : TypeId × Value → H} {ds0 : List (DataW H)} {ps0 : List MemPlace} (W : World) (base : Nat) (args : Array Value) (hval : ∀ (j : Nat) t v, Try.f4.params[j]? = some t → args[j]? = some v → Value.okWide Try.prog W .any base t v) (hlen : args.toList.length = Try.f4.params.toList.length) (hA : DataW.TrodAll enc Try.prog W 0 (fun _ => true) true Try.f4.params.toList args.toList ds0 ps0) :
    Calls Try.prog 4 args W fun e W' => e = .returned (.bool true) ∧ Below W.heap.size W W' := by
  rw [Try.params4] at hlen hval hA
  obtain ⟨v0, v1, v2, rfl⟩ : ∃ v0 v1 v2, args = #[v0, v1, v2] := by
    rcases args with ⟨l⟩
    match l, hlen with
    | [v0, v1, v2], _ => exact ⟨v0, v1, v2, rfl⟩
  obtain ⟨a0, len0, cap0, ev0⟩ := okWide_slice Try.underlying22 (hval 0 22 v0 rfl rfl)
  obtain ⟨fu0, ft0, hf0⟩ := trod_get hA 0 22 v0 rfl rfl
  rw [show v0.cells.toList = [v0] by rw [ev0]; rfl] at hf0
  obtain ⟨xs0, hx0, hn0, hr0⟩ := slice_cells (ks := irK) .agg (fun ds _ => rfl) Try.underlying22 (by kernel_rfl) (by kernel_rfl) (by decide) hf0
  obtain ⟨l, e0, ho0, hl0⟩ := irs_of xs0 hx0
  rw [e0] at hr0
  obtain ⟨a1, len1, cap1, ev1⟩ := okWide_slice Try.underlying22 (hval 1 22 v1 rfl rfl)
  obtain ⟨fu1, ft1, hf1⟩ := trod_get hA 1 22 v1 rfl rfl
  rw [show v1.cells.toList = [v1] by rw [ev1]; rfl] at hf1
  obtain ⟨xs1, hx1, hn1, hr1⟩ := slice_cells (ks := irK) .agg (fun ds _ => rfl) Try.underlying22 (by kernel_rfl) (by kernel_rfl) (by decide) hf1
  obtain ⟨k, e1, ho1, hl1⟩ := irs_of xs1 hx1
  rw [e1] at hr1
  obtain ⟨ds2, hk2, hr2⟩ := agg_open (M := bareOf (allOf W)) (ts := [23, 23, 23, 23, 23, 23, 23, 23, 23, 23, 23]) (ks := [.int .u64, .int .u64, .int .u64, .int .u64, .int .u64, .int .u64, .int .u64, .int .u64, .int .u64, .int .u64, .int .u64]) Try.underlying24 rfl (by kernel_rfl) (by kernel_rfl) (by kernel_rfl) (hval 2 24 v2 rfl rfl)
  simp only [okL] at hk2
  obtain ⟨r0, _, rfl, h_r0, r1, _, rfl, h_r1, r2, _, rfl, h_r2, r3, _, rfl, h_r3, r4, _, rfl, h_r4, r5, _, rfl, h_r5, r6, _, rfl, h_r6, r7, _, rfl, h_r7, r8, _, rfl, h_r8, r9, _, rfl, h_r9, r10, _, rfl, h_r10, rfl⟩ := hk2
  refine Ret.law (beh_any_ok l k ⟨r0, r1, r2, r3, r4, r5, r6, r7, r8, r9, r10⟩ (by omega) (by omega) ho0 ho1) ⟨rfl, ?_⟩
  intro i d v' h1 h2
  match i, h1, h2 with
  | 0, h1, h2 =>
    simp at h1 h2
    subst h1 h2
    exact hr0
  | 1, h1, h2 =>
    simp at h1 h2
    subst h1 h2
    exact hr1
  | 2, h1, h2 =>
    simp at h1 h2
    subst h1 h2
    exact hr2

set_option maxRecDepth 100000 in
theorem irBehind_lifted (os : Os) (started : os.Started) (H : Type) (enc : TypeId × Value → H) :
    ReturnsInHanded {} Try.checked os 4 .any (Rows.irBehindSpec.pre6 enc Try.prog Try.f4 Rows.irBehindRow.domain false) (Rows.irBehindSpec.post enc Try.prog Try.f4 false true false false) :=
  law_lifted (C := Try.checked) (tb := 4) irBehind_own started (by kernel_rfl) Try.func4 irBehind_laid rfl
    (by rw [Try.params4]; intro t ht; simp at ht; rcases ht with rfl | rfl | rfl <;> exact ⟨by kernel_rfl, by decide +kernel⟩) (by kernel_rfl) Try.underlying4
    (by
      intro ds hl
      have hl' : ds.length = 3 := hl
      match ds, hl' with
      | [d0, d1, d2], _ => exact ⟨rfl, rfl, rfl⟩)
    (ChangeSpec.witness6 (enc := enc) (C := Try.checked) false ⟨#[], #[.slice none 0 0, .slice none 0 0, .agg #[.int .u64 0, .int .u64 0, .int .u64 0, .int .u64 0, .int .u64 0, .int .u64 0, .int .u64 0, .int .u64 0, .int .u64 0, .int .u64 0, .int .u64 0]], []⟩ 8 (by kernel_rfl) (by kernel_rfl) (by kernel_rfl) (by kernel_rfl))
    (fun W base args ds ps hval hlen hA _ => irBehind_law W base args hval hlen hA)

theorem irBehind_holds : Rows.IrBehindSaid :=
  OpenClaim.holds_of_wide 4 Try.f4 rfl rfl rfl rfl rfl rfl rfl ⟨rfl, rfl, rfl, rfl, rfl⟩ rfl rfl rfl rfl rfl (by kernel_rfl) Try.func4 (by kernel_rfl)
    (of_decide_eq_true (by kernel_rfl)) (by unfold Func.isWrapper; first | (rw [if_pos (by decide +kernel)]; kernel_rfl) | (rw [if_neg (by decide +kernel)]; exact ⟨rfl, rfl⟩))
    (fun os started H enc _ => irBehind_lifted os started H enc)
end Go.Proofs.Ytojgmjfcfpclbaa
#print axioms Go.Proofs.Ytojgmjfcfpclbaa.irBehind_holds
