/- EncodeBack returns true whatever its arguments; no condition. -/
import Derived.Test.YtcngafhpodeenaaRows
import Derived.Test.YtcngafhpodeenaaB10
import Derived.Test.YtcngafhpodeenaaB11
import Derived.Test.YtcngafhpodeenaaB12
import Derived.Test.YtcngafhpodeenaaLEncodeBack01
namespace Go.Proofs.Ytcngafhpodeenaa
open Go.ChangeShapes Go.WideShapes Go.ChangeAt Go.RowKit Go.Ev
set_option linter.unusedVariables false
set_option linter.unusedSimpArgs false

theorem encodeBack_own : ownKnob Try.prog.godebug = none := by kernel_rfl
theorem encodeBack_laid : laidOutB Try.prog = true := by kernel_rfl

set_option maxRecDepth 100000 in
theorem encodeBack_law {H : Type} {enc : TypeId × Value → H} {ds0 : List (DataW H)} {ps0 : List MemPlace} (W : World) (base : Nat) (args : Array Value) (hval : ∀ (j : Nat) t v, Try.f5.params[j]? = some t → args[j]? = some v → Value.okWide Try.prog W .any base t v) (hlen : args.toList.length = Try.f5.params.toList.length) (hA : DataW.TrodAll enc Try.prog W 0 (fun _ => true) true Try.f5.params.toList args.toList ds0 ps0) :
    Calls Try.prog 5 args W fun e W' => e = .returned (.bool true) ∧ Below W.heap.size W W' := by
  rw [Try.params5] at hlen hval hA
  obtain ⟨v0, v1, rfl⟩ : ∃ v0 v1, args = #[v0, v1] := by
    rcases args with ⟨l⟩
    match l, hlen with
    | [v0, v1], _ => exact ⟨v0, v1, rfl⟩
  obtain ⟨ds0, hk0, hr0⟩ := agg_open (M := bareOf (allOf W)) (ts := [35, 35, 35, 35, 35, 3, 3, 35]) (ks := [.int .i8, .int .i8, .int .i8, .int .i8, .int .i8, .int .i64, .int .i64, .int .i8]) Try.underlying37 rfl (by kernel_rfl) (by kernel_rfl) (by kernel_rfl) (hval 0 37 v0 rfl rfl)
  simp only [okL] at hk0
  obtain ⟨op, _, rfl, h_op, w, _, rfl, h_w, dst, _, rfl, h_dst, src, _, rfl, h_src, base, _, rfl, h_base, disp, _, rfl, h_disp, imm, _, rfl, h_imm, cc, _, rfl, h_cc, rfl⟩ := hk0
  obtain ⟨a1, len1, cap1, ev1⟩ := okWide_slice Try.underlying34 (hval 1 34 v1 rfl rfl)
  obtain ⟨fu1, ft1, hf1⟩ := trod_get hA 1 34 v1 rfl rfl
  rw [show v1.cells.toList = [v1] by rw [ev1]; rfl] at hf1
  obtain ⟨xs1, hx1, hn1, hr1⟩ := slice_cells (ks := byK) hdD by_cells Try.underlying34 (by kernel_rfl) (by kernel_rfl) (by decide) hf1
  obtain ⟨b, e1, ho1, hl1⟩ := bys_of xs1 hx1
  rw [e1] at hr1
  refine Ret.law (back_any op w dst src base disp imm cc (has8_ h_op).2 b ho1) ⟨rfl, ?_⟩
  intro i d v' h1 h2
  match i, h1, h2 with
  | 0, h1, h2 =>
    simp at h1 h2
    subst h1 h2
    exact hr0
  | 1, h1, h2 =>
    simp at h1 h2
    subst h1 h2
    exact hr1

set_option maxRecDepth 100000 in
theorem encodeBack_lifted (os : Os) (started : os.Started) (H : Type) (enc : TypeId × Value → H) :
    ReturnsInHanded {} Try.checked os 5 .any (Rows.encodeBackSpec.pre6 enc Try.prog Try.f5 Rows.encodeBackRow.domain false) (Rows.encodeBackSpec.post enc Try.prog Try.f5 false true false false) :=
  law_lifted (C := Try.checked) (tb := 4) encodeBack_own started (by kernel_rfl) Try.func5 encodeBack_laid rfl
    (by rw [Try.params5]; intro t ht; simp at ht; rcases ht with rfl | rfl <;> exact ⟨by kernel_rfl, by decide +kernel⟩) (by kernel_rfl) Try.underlying4
    (by
      intro ds hl
      have hl' : ds.length = 2 := hl
      match ds, hl' with
      | [d0, d1], _ => exact ⟨rfl, rfl, rfl⟩)
    (ChangeSpec.witness6 (enc := enc) (C := Try.checked) false ⟨#[], #[.agg #[.int .i8 0, .int .i8 0, .int .i8 0, .int .i8 0, .int .i8 0, .int .i64 0, .int .i64 0, .int .i8 0], .slice none 0 0], []⟩ 8 (by kernel_rfl) (by kernel_rfl) (by kernel_rfl) (by kernel_rfl))
    (fun W base args ds ps hval hlen hA _ => encodeBack_law W base args hval hlen hA)

theorem encodeBack_holds : Rows.EncodeBackSaid :=
  OpenClaim.holds_of_wide 5 Try.f5 rfl rfl rfl rfl rfl rfl rfl ⟨rfl, rfl, rfl, rfl, rfl⟩ rfl rfl rfl rfl rfl (by kernel_rfl) Try.func5 (by kernel_rfl)
    (of_decide_eq_true (by kernel_rfl)) (by unfold Func.isWrapper; first | (rw [if_pos (by decide +kernel)]; kernel_rfl) | (rw [if_neg (by decide +kernel)]; exact ⟨rfl, rfl⟩))
    (fun os started H enc _ => encodeBack_lifted os started H enc)
end Go.Proofs.Ytcngafhpodeenaa
#print axioms Go.Proofs.Ytcngafhpodeenaa.encodeBack_holds
