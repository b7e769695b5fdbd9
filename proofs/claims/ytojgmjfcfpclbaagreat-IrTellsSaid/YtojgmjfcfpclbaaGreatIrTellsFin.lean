/- IrTells returns true whatever its arguments; no condition. -/
import Derived.Test.YtojgmjfcfpclbaaGreatRows
import Derived.Test.YtojgmjfcfpclbaaGreatW14
import Derived.Test.YtojgmjfcfpclbaaGreatLIrTells01
import Derived.Test.YtojgmjfcfpclbaaGreatLIrTells02
import Derived.Test.YtojgmjfcfpclbaaGreatLIrTells03
namespace Go.Proofs.YtojgmjfcfpclbaaGreat
open Go.ChangeShapes Go.WideShapes Go.ChangeAt Go.RowKit Go.Ev
set_option linter.unusedVariables false
set_option linter.unusedSimpArgs false

theorem irTells_own : ownKnob Tryz.prog.godebug = none := by kernel_rfl
theorem irTells_laid : laidOutB Tryz.prog = true := by kernel_rfl

set_option maxRecDepth 100000 in
theorem irTells_law {H : Type} {enc : TypeId × Value → H} {ds0 : List (DataW H)} {ps0 : List MemPlace} (W : World) (base : Nat) (args : Array Value) (hval : ∀ (j : Nat) t v, Tryz.f4.params[j]? = some t → args[j]? = some v → Value.okWide Tryz.prog W .any base t v) (hlen : args.toList.length = Tryz.f4.params.toList.length) (hA : DataW.TrodAll enc Tryz.prog W 0 (fun _ => true) true Tryz.f4.params.toList args.toList ds0 ps0) :
    Calls Tryz.prog 4 args W fun e W' => e = .returned (.bool true) ∧ Below W.heap.size W W' := by
  rw [Tryz.params4] at hlen hval hA
  obtain ⟨v0, v1, v2, rfl⟩ : ∃ v0 v1 v2, args = #[v0, v1, v2] := by
    rcases args with ⟨l⟩
    match l, hlen with
    | [v0, v1, v2], _ => exact ⟨v0, v1, v2, rfl⟩
  obtain ⟨a0, len0, cap0, ev0⟩ := okWide_slice Tryz.underlying46 (hval 0 46 v0 rfl rfl)
  obtain ⟨fu0, ft0, hf0⟩ := trod_get hA 0 46 v0 rfl rfl
  rw [show v0.cells.toList = [v0] by rw [ev0]; rfl] at hf0
  obtain ⟨xs0, hx0, hn0, hr0⟩ := slice_cells (ks := irK) .agg (fun ds _ => rfl) Tryz.underlying46 (by kernel_rfl) (by kernel_rfl) (by decide) hf0
  obtain ⟨l, e0, ho0, hl0⟩ := irs_of xs0 hx0
  rw [e0] at hr0
  obtain ⟨a1, len1, cap1, ev1⟩ := okWide_slice Tryz.underlying46 (hval 1 46 v1 rfl rfl)
  obtain ⟨fu1, ft1, hf1⟩ := trod_get hA 1 46 v1 rfl rfl
  rw [show v1.cells.toList = [v1] by rw [ev1]; rfl] at hf1
  obtain ⟨xs1, hx1, hn1, hr1⟩ := slice_cells (ks := irK) .agg (fun ds _ => rfl) Tryz.underlying46 (by kernel_rfl) (by kernel_rfl) (by decide) hf1
  obtain ⟨k, e1, ho1, hl1⟩ := irs_of xs1 hx1
  rw [e1] at hr1
  obtain ⟨ds2, hk2, hr2⟩ := agg_open (M := bareOf (allOf W)) (ts := [22, 22, 22, 22, 22, 22, 22, 22, 22, 22, 22]) (ks := [.int .u64, .int .u64, .int .u64, .int .u64, .int .u64, .int .u64, .int .u64, .int .u64, .int .u64, .int .u64, .int .u64]) Tryz.underlying47 rfl (by kernel_rfl) (by kernel_rfl) (by kernel_rfl) (hval 2 47 v2 rfl rfl)
  simp only [okL] at hk2
  obtain ⟨y0, _, rfl, h_y0, y1, _, rfl, h_y1, y2, _, rfl, h_y2, y3, _, rfl, h_y3, y4, _, rfl, h_y4, y5, _, rfl, h_y5, y6, _, rfl, h_y6, y7, _, rfl, h_y7, y8, _, rfl, h_y8, y9, _, rfl, h_y9, y10, _, rfl, h_y10, rfl⟩ := hk2
  refine Ret.law (tells_any_ok l k ⟨y0, y1, y2, y3, y4, y5, y6, y7, y8, y9, y10⟩ (by omega) ho0) ⟨rfl, ?_⟩
  intro i d v' h1 h2
  match i, h1, h2 with
  | 0, h1, h2 =>
    simp at h1 h2
    subst h1 h2
    exact hr0
  | 1, h1, h2 =>
    simp at h1 h2
    subst h1 h2
    exact hr1
  | 2, h1, h2 =>
    simp at h1 h2
    subst h1 h2
    exact hr2

set_option maxRecDepth 100000 in
theorem irTells_lifted (os : Os) (started : os.Started) (H : Type) (enc : TypeId × Value → H) :
    ReturnsInHanded {} Tryz.checked os 4 .any (Rows.irTellsSpec.pre6 enc Tryz.prog Tryz.f4 Rows.irTellsRow.domain false) (Rows.irTellsSpec.post enc Tryz.prog Tryz.f4 false true false false) :=
  law_lifted (C := Tryz.checked) (tb := 4) irTells_own started (by kernel_rfl) Tryz.func4 irTells_laid rfl
    (by rw [Tryz.params4]; intro t ht; simp at ht; rcases ht with rfl | rfl | rfl <;> exact ⟨by kernel_rfl, by decide +kernel⟩) (by kernel_rfl) Tryz.underlying4
    (by
      intro ds hl
      have hl' : ds.length = 3 := hl
      match ds, hl' with
      | [d0, d1, d2], _ => exact ⟨rfl, rfl, rfl⟩)
    (ChangeSpec.witness6 (enc := enc) (C := Tryz.checked) false ⟨#[], #[.slice none 0 0, .slice none 0 0, .agg #[.int .u64 0, .int .u64 0, .int .u64 0, .int .u64 0, .int .u64 0, .int .u64 0, .int .u64 0, .int .u64 0, .int .u64 0, .int .u64 0, .int .u64 0]], []⟩ 8 (by kernel_rfl) (by kernel_rfl) (by kernel_rfl) (by kernel_rfl))
    (fun W base args ds ps hval hlen hA _ => irTells_law W base args hval hlen hA)

theorem irTells_holds : Rows.IrTellsSaid :=
  OpenClaim.holds_of_wide 4 Tryz.f4 rfl rfl rfl rfl rfl rfl rfl ⟨rfl, rfl, rfl, rfl, rfl⟩ rfl rfl rfl rfl rfl (by kernel_rfl) Tryz.func4 (by kernel_rfl)
    (of_decide_eq_true (by kernel_rfl)) (by unfold Func.isWrapper; first | (rw [if_pos (by decide +kernel)]; kernel_rfl) | (rw [if_neg (by decide +kernel)]; exact ⟨rfl, rfl⟩))
    (fun os started H enc _ => irTells_lifted os started H enc)
end Go.Proofs.YtojgmjfcfpclbaaGreat
#print axioms Go.Proofs.YtojgmjfcfpclbaaGreat.irTells_holds
