/- IrKeeps returns true whatever its arguments; no condition. -/
import Derived.Test.YtojgmjfcfpclbaaRows
import Derived.Test.YtojgmjfcfpclbaaK15
import Derived.Test.YtojgmjfcfpclbaaK16
import Derived.Test.YtojgmjfcfpclbaaK17
import Derived.Test.YtojgmjfcfpclbaaLIrKeeps01
namespace Go.Proofs.Ytojgmjfcfpclbaa
open Go.ChangeShapes Go.WideShapes Go.ChangeAt Go.RowKit Go.Ev
set_option linter.unusedVariables false
set_option linter.unusedSimpArgs false

theorem irKeeps_own : ownKnob Try.prog.godebug = none := by kernel_rfl
theorem irKeeps_laid : laidOutB Try.prog = true := by kernel_rfl

set_option maxRecDepth 100000 in
theorem irKeeps_law {H : Type} {enc : TypeId × Value → H} {ds0 : List (DataW H)} {ps0 : List MemPlace} (W : World) (base : Nat) (args : Array Value) (hval : ∀ (j : Nat) t v, Try.f6.params[j]? = some t → args[j]? = some v → Value.okWide Try.prog W .any base t v) (hlen : args.toList.length = Try.f6.params.toList.length) (hA : DataW.TrodAll enc Try.prog W 0 (fun _ => true) true Try.f6.params.toList args.toList ds0 ps0) :
    Calls Try.prog 6 args W fun e W' => e = .returned (.bool true) ∧ Below W.heap.size W W' := by
  rw [Try.params6] at hlen hval hA
  obtain ⟨v0, v1, v2, v3, rfl⟩ : ∃ v0 v1 v2 v3, args = #[v0, v1, v2, v3] := by
    rcases args with ⟨l⟩
    match l, hlen with
    | [v0, v1, v2, v3], _ => exact ⟨v0, v1, v2, v3, rfl⟩
  obtain ⟨a0, len0, cap0, ev0⟩ := okWide_slice Try.underlying22 (hval 0 22 v0 rfl rfl)
  obtain ⟨fu0, ft0, hf0⟩ := trod_get hA 0 22 v0 rfl rfl
  rw [show v0.cells.toList = [v0] by rw [ev0]; rfl] at hf0
  obtain ⟨xs0, hx0, hn0, hr0⟩ := slice_cells (ks := irK) .agg (fun ds _ => rfl) Try.underlying22 (by kernel_rfl) (by kernel_rfl) (by decide) hf0
  obtain ⟨l, e0, ho0, hl0⟩ := irs_of xs0 hx0
  rw [e0] at hr0
  obtain ⟨ds1, hk1, hr1⟩ := agg_open (M := bareOf (allOf W)) (ts := [23, 23, 23, 23, 23, 23, 23, 23, 23, 23, 23]) (ks := [.int .u64, .int .u64, .int .u64, .int .u64, .int .u64, .int .u64, .int .u64, .int .u64, .int .u64, .int .u64, .int .u64]) Try.underlying24 rfl (by kernel_rfl) (by kernel_rfl) (by kernel_rfl) (hval 1 24 v1 rfl rfl)
  simp only [okL] at hk1
  obtain ⟨y0, _, rfl, h_y0, y1, _, rfl, h_y1, y2, _, rfl, h_y2, y3, _, rfl, h_y3, y4, _, rfl, h_y4, y5, _, rfl, h_y5, y6, _, rfl, h_y6, y7, _, rfl, h_y7, y8, _, rfl, h_y8, y9, _, rfl, h_y9, y10, _, rfl, h_y10, rfl⟩ := hk1
  obtain ⟨d2, hk2, hr2⟩ := one_open (M := bareOf (allOf W)) (k := .int .i64) (by kernel_rfl) (hval 2 3 v2 rfl rfl)
  simp only [okL] at hk2
  obtain ⟨oth, r2, e2, h_oth, _⟩ := hk2
  obtain rfl := (List.cons.inj e2).1
  obtain ⟨d3, hk3, hr3⟩ := one_open (M := bareOf (allOf W)) (k := .int .u64) (by kernel_rfl) (hval 3 23 v3 rfl rfl)
  simp only [okL] at hk3
  obtain ⟨byv, r3, e3, h_byv, _⟩ := hk3
  obtain rfl := (List.cons.inj e3).1
  refine Ret.law (keeps_any_ok l ⟨y0, y1, y2, y3, y4, y5, y6, y7, y8, y9, y10⟩ oth byv (by omega) ho0) ⟨rfl, ?_⟩
  intro i d v' h1 h2
  match i, h1, h2 with
  | 0, h1, h2 =>
    simp at h1 h2
    subst h1 h2
    exact hr0
  | 1, h1, h2 =>
    simp at h1 h2
    subst h1 h2
    exact hr1
  | 2, h1, h2 =>
    simp at h1 h2
    subst h1 h2
    exact hr2
  | 3, h1, h2 =>
    simp at h1 h2
    subst h1 h2
    exact hr3

set_option maxRecDepth 100000 in
theorem irKeeps_lifted (os : Os) (started : os.Started) (H : Type) (enc : TypeId × Value → H) :
    ReturnsInHanded {} Try.checked os 6 .any (Rows.irKeepsSpec.pre6 enc Try.prog Try.f6 Rows.irKeepsRow.domain false) (Rows.irKeepsSpec.post enc Try.prog Try.f6 false true false false) :=
  law_lifted (C := Try.checked) (tb := 4) irKeeps_own started (by kernel_rfl) Try.func6 irKeeps_laid rfl
    (by rw [Try.params6]; intro t ht; simp at ht; rcases ht with rfl | rfl | rfl | rfl <;> exact ⟨by kernel_rfl, by decide +kernel⟩) (by kernel_rfl) Try.underlying4
    (by
      intro ds hl
      have hl' : ds.length = 4 := hl
      match ds, hl' with
      | [d0, d1, d2, d3], _ => exact ⟨rfl, rfl, rfl⟩)
    (ChangeSpec.witness6 (enc := enc) (C := Try.checked) false ⟨#[], #[.slice none 0 0, .agg #[.int .u64 0, .int .u64 0, .int .u64 0, .int .u64 0, .int .u64 0, .int .u64 0, .int .u64 0, .int .u64 0, .int .u64 0, .int .u64 0, .int .u64 0], .int .i64 0, .int .u64 0], []⟩ 8 (by kernel_rfl) (by kernel_rfl) (by kernel_rfl) (by kernel_rfl))
    (fun W base args ds ps hval hlen hA _ => irKeeps_law W base args hval hlen hA)

theorem irKeeps_holds : Rows.IrKeepsSaid :=
  OpenClaim.holds_of_wide 6 Try.f6 rfl rfl rfl rfl rfl rfl rfl ⟨rfl, rfl, rfl, rfl, rfl⟩ rfl rfl rfl rfl rfl (by kernel_rfl) Try.func6 (by kernel_rfl)
    (of_decide_eq_true (by kernel_rfl)) (by unfold Func.isWrapper; first | (rw [if_pos (by decide +kernel)]; kernel_rfl) | (rw [if_neg (by decide +kernel)]; exact ⟨rfl, rfl⟩))
    (fun os started H enc _ => irKeeps_lifted os started H enc)
end Go.Proofs.Ytojgmjfcfpclbaa
#print axioms Go.Proofs.Ytojgmjfcfpclbaa.irKeeps_holds
