/- SymxNil returns true whatever its arguments; no condition. -/
import Derived.Test.YtglcgdnaanhddaaGreatRows
import Derived.Test.YtglcgdnaanhddaaGreatN12
import Derived.Test.YtglcgdnaanhddaaGreatLSymxNil01
import Derived.Test.YtglcgdnaanhddaaGreatLSymxNil02
import Derived.Test.YtglcgdnaanhddaaGreatLSymxNil03
namespace Go.Proofs.YtglcgdnaanhddaaGreat
open Go.ChangeShapes Go.WideShapes Go.ChangeAt Go.RowKit Go.Ev
set_option linter.unusedVariables false
set_option linter.unusedSimpArgs false

theorem symxNil_own : ownKnob Tryz.prog.godebug = none := by kernel_rfl
theorem symxNil_laid : laidOutB Tryz.prog = true := by kernel_rfl

set_option maxRecDepth 100000 in
theorem symxNil_law {H : Type} {enc : TypeId × Value → H} {ds0 : List (DataW H)} {ps0 : List MemPlace} (W : World) (base : Nat) (args : Array Value) (hval : ∀ (j : Nat) t v, Tryz.f4.params[j]? = some t → args[j]? = some v → Value.okWide Tryz.prog W .any base t v) (hlen : args.toList.length = Tryz.f4.params.toList.length) (hA : DataW.TrodAll enc Tryz.prog W 0 (fun _ => true) true Tryz.f4.params.toList args.toList ds0 ps0) :
    Calls Tryz.prog 4 args W fun e W' => e = .returned (.bool true) ∧ Below W.heap.size W W' := by
  rw [Tryz.params4] at hlen hval hA
  obtain ⟨v0, v1, v2, v3, rfl⟩ : ∃ v0 v1 v2 v3, args = #[v0, v1, v2, v3] := by
    rcases args with ⟨l⟩
    match l, hlen with
    | [v0, v1, v2, v3], _ => exact ⟨v0, v1, v2, v3, rfl⟩
  obtain ⟨a0, len0, cap0, ev0⟩ := okWide_slice Tryz.underlying22 (hval 0 22 v0 rfl rfl)
  obtain ⟨fu0, ft0, hf0⟩ := trod_get hA 0 22 v0 rfl rfl
  rw [show v0.cells.toList = [v0] by rw [ev0]; rfl] at hf0
  obtain ⟨xs0, hx0, hn0, hr0⟩ := slice_cells (ks := byK) hdD by_cells Tryz.underlying22 (by kernel_rfl) (by kernel_rfl) (by decide) hf0
  obtain ⟨b, e0, ho0, hl0⟩ := bys_of xs0 hx0
  rw [e0] at hr0
  obtain ⟨fu1, ft1, hf1⟩ := trod_get hA 1 25 v1 rfl rfl
  obtain ⟨sp, hl, hx1, hr1⟩ := prog_open (ks := [.int .i64, .int .i8, .int .i8, .int .i8, .int .i8, .int .i8, .int .i8, .int .i8, .int .i8, .int .i8, .int .i8, .int .i8, .int .i8, .int .i8, .int .i8, .int .i8, .int .i8, .int .i8, .int .i8, .int .i8, .int .i8, .int .i8, .int .i8]) Tryz.underlying25 (by kernel_rfl) rfl Tryz.underlying3 (by kernel_rfl) rfl Tryz.underlying23 (by kernel_rfl) (by kernel_rfl) (by kernel_rfl) (by decide) (hval 1 25 v1 rfl rfl) hf1
  obtain ⟨d2, hk2, hr2⟩ := one_open (M := bareOf (allOf W)) (k := .int .i64) (by kernel_rfl) (hval 2 3 v2 rfl rfl)
  simp only [okL] at hk2
  obtain ⟨block, r2, e2, h_block, _⟩ := hk2
  obtain rfl := (List.cons.inj e2).1
  obtain ⟨d3, hk3, hr3⟩ := one_open (M := bareOf (allOf W)) (k := .int .i64) (by kernel_rfl) (hval 3 3 v3 rfl rfl)
  simp only [okL] at hk3
  obtain ⟨most, r3, e3, h_most, _⟩ := hk3
  obtain rfl := (List.cons.inj e3).1
  refine Ret.law (nil29_ok (bD b) (hl.map .agg) sp block most) ⟨rfl, ?_⟩
  intro i d v' h1 h2
  match i, h1, h2 with
  | 0, h1, h2 =>
    simp at h1 h2
    subst h1 h2
    exact hr0
  | 1, h1, h2 =>
    simp at h1 h2
    subst h1 h2
    exact hr1
  | 2, h1, h2 =>
    simp at h1 h2
    subst h1 h2
    exact hr2
  | 3, h1, h2 =>
    simp at h1 h2
    subst h1 h2
    exact hr3

set_option maxRecDepth 100000 in
theorem symxNil_lifted (os : Os) (started : os.Started) (H : Type) (enc : TypeId × Value → H) :
    ReturnsInHanded {} Tryz.checked os 4 .any (Rows.symxNilSpec.pre6 enc Tryz.prog Tryz.f4 Rows.symxNilRow.domain false) (Rows.symxNilSpec.post enc Tryz.prog Tryz.f4 false true false false) :=
  law_lifted (C := Tryz.checked) (tb := 4) symxNil_own started (by kernel_rfl) Tryz.func4 symxNil_laid rfl
    (by rw [Tryz.params4]; intro t ht; simp at ht; rcases ht with rfl | rfl | rfl | rfl <;> exact ⟨by kernel_rfl, by decide +kernel⟩) (by kernel_rfl) Tryz.underlying4
    (by
      intro ds hl
      have hl' : ds.length = 4 := hl
      match ds, hl' with
      | [d0, d1, d2, d3], _ => exact ⟨rfl, rfl, rfl⟩)
    (ChangeSpec.witness6 (enc := enc) (C := Tryz.checked) false ⟨#[], #[.slice none 0 0, .agg #[.int .i64 0, .slice none 0 0], .int .i64 0, .int .i64 0], []⟩ 8 (by kernel_rfl) (by kernel_rfl) (by kernel_rfl) (by kernel_rfl))
    (fun W base args ds ps hval hlen hA _ => symxNil_law W base args hval hlen hA)

theorem symxNil_holds : Rows.SymxNilSaid :=
  OpenClaim.holds_of_wide 4 Tryz.f4 rfl rfl rfl rfl rfl rfl rfl ⟨rfl, rfl, rfl, rfl, rfl⟩ rfl rfl rfl rfl rfl (by kernel_rfl) Tryz.func4 (by kernel_rfl)
    (of_decide_eq_true (by kernel_rfl)) (by unfold Func.isWrapper; first | (rw [if_pos (by decide +kernel)]; kernel_rfl) | (rw [if_neg (by decide +kernel)]; exact ⟨rfl, rfl⟩))
    (fun os started H enc _ => symxNil_lifted os started H enc)
end Go.Proofs.YtglcgdnaanhddaaGreat
#print axioms Go.Proofs.YtglcgdnaanhddaaGreat.symxNil_holds
