/- FrameNowhere returns true whatever its arguments; no condition. -/
import Derived.Test.YtojgmjfcfpclbaaRows
import Derived.Test.YtojgmjfcfpclbaaJ09
import Derived.Test.YtojgmjfcfpclbaaLFrameNowhere01
namespace Go.Proofs.Ytojgmjfcfpclbaa
open Go.ChangeShapes Go.WideShapes Go.ChangeAt Go.RowKit Go.Ev
set_option linter.unusedVariables false
set_option linter.unusedSimpArgs false

theorem frameNowhere_own : ownKnob Try.prog.godebug = none := by kernel_rfl
theorem frameNowhere_laid : laidOutB Try.prog = true := by kernel_rfl
theorem has8 {n : Int} (h : IntKind.i8.has n) : -128 ≤ n ∧ n ≤ 127 := by
  simp [IntKind.has, IntKind.min, IntKind.max, IntKind.signed, IntKind.bits] at h
  omega

set_option maxRecDepth 100000 in
theorem frameNowhere_law (W : World) (base : Nat) (args : Array Value) (hval : ∀ (j : Nat) t v, Try.f9.params[j]? = some t → args[j]? = some v → Value.okWide Try.prog W .any base t v) (hlen : args.toList.length = Try.f9.params.toList.length) :
    Calls Try.prog 9 args W fun e W' => e = .returned (.bool true) ∧ Below W.heap.size W W' := by
  rw [Try.params9] at hlen hval
  obtain ⟨v0, v1, v2, rfl⟩ : ∃ v0 v1 v2, args = #[v0, v1, v2] := by
    rcases args with ⟨l⟩
    match l, hlen with
    | [v0, v1, v2], _ => exact ⟨v0, v1, v2, rfl⟩
  obtain ⟨ds0, hk0, hr0⟩ := agg_open (M := bareOf (allOf W)) (ts := [34, 34, 34, 34, 34, 34, 34, 34, 34, 34, 34, 34, 34, 34, 34, 34, 34, 34, 34, 34, 34, 34]) (ks := [.int .i8, .int .i8, .int .i8, .int .i8, .int .i8, .int .i8, .int .i8, .int .i8, .int .i8, .int .i8, .int .i8, .int .i8, .int .i8, .int .i8, .int .i8, .int .i8, .int .i8, .int .i8, .int .i8, .int .i8, .int .i8, .int .i8]) Try.underlying66 rfl (by kernel_rfl) (by kernel_rfl) (by kernel_rfl) (hval 0 66 v0 rfl rfl)
  simp only [okL] at hk0
  obtain ⟨u0, _, rfl, h_u0, w0, _, rfl, h_w0, u1, _, rfl, h_u1, w1, _, rfl, h_w1, u2, _, rfl, h_u2, w2, _, rfl, h_w2, u3, _, rfl, h_u3, w3, _, rfl, h_w3, u4, _, rfl, h_u4, w4, _, rfl, h_w4, u5, _, rfl, h_u5, w5, _, rfl, h_w5, u6, _, rfl, h_u6, w6, _, rfl, h_w6, u7, _, rfl, h_u7, w7, _, rfl, h_w7, u8, _, rfl, h_u8, w8, _, rfl, h_w8, u9, _, rfl, h_u9, w9, _, rfl, h_w9, u10, _, rfl, h_u10, w10, _, rfl, h_w10, rfl⟩ := hk0
  obtain ⟨d1, hk1, hr1⟩ := one_open (M := bareOf (allOf W)) (k := .int .i64) (by kernel_rfl) (hval 1 3 v1 rfl rfl)
  simp only [okL] at hk1
  obtain ⟨reg, r1, e1, h_reg, _⟩ := hk1
  obtain rfl := (List.cons.inj e1).1
  obtain ⟨d2, hk2, hr2⟩ := one_open (M := bareOf (allOf W)) (k := .int .i8) (by kernel_rfl) (hval 2 34 v2 rfl rfl)
  simp only [okL] at hk2
  obtain ⟨phys, r2, e2, h_phys, _⟩ := hk2
  obtain rfl := (List.cons.inj e2).1
  refine Ret.law (nowhere_ok u0 w0 u1 w1 u2 w2 u3 w3 u4 w4 u5 w5 u6 w6 u7 w7 u8 w8 u9 w9 u10 w10 reg phys (has8 h_phys).2) ⟨rfl, ?_⟩
  intro i d v' h1 h2
  match i, h1, h2 with
  | 0, h1, h2 =>
    simp at h1 h2
    subst h1 h2
    exact hr0
  | 1, h1, h2 =>
    simp at h1 h2
    subst h1 h2
    exact hr1
  | 2, h1, h2 =>
    simp at h1 h2
    subst h1 h2
    exact hr2

set_option maxRecDepth 100000 in
theorem frameNowhere_lifted (os : Os) (started : os.Started) (H : Type) (enc : TypeId × Value → H) :
    ReturnsInHanded {} Try.checked os 9 .any (Rows.frameNowhereSpec.pre6 enc Try.prog Try.f9 Rows.frameNowhereRow.domain false) (Rows.frameNowhereSpec.post enc Try.prog Try.f9 false true false false) :=
  law_lifted (C := Try.checked) (tb := 4) frameNowhere_own started (by kernel_rfl) Try.func9 frameNowhere_laid rfl
    (by rw [Try.params9]; intro t ht; simp at ht; rcases ht with rfl | rfl | rfl <;> exact ⟨by kernel_rfl, by decide +kernel⟩) (by kernel_rfl) Try.underlying4
    (by
      intro ds hl
      have hl' : ds.length = 3 := hl
      match ds, hl' with
      | [d0, d1, d2], _ => exact ⟨rfl, rfl, rfl⟩)
    (ChangeSpec.witness6 (enc := enc) (C := Try.checked) false ⟨#[], #[.agg #[.int .i8 0, .int .i8 0, .int .i8 0, .int .i8 0, .int .i8 0, .int .i8 0, .int .i8 0, .int .i8 0, .int .i8 0, .int .i8 0, .int .i8 0, .int .i8 0, .int .i8 0, .int .i8 0, .int .i8 0, .int .i8 0, .int .i8 0, .int .i8 0, .int .i8 0, .int .i8 0, .int .i8 0, .int .i8 0], .int .i64 0, .int .i8 0], []⟩ 8 (by kernel_rfl) (by kernel_rfl) (by kernel_rfl) (by kernel_rfl))
    (fun W base args ds ps hval hlen hA _ => frameNowhere_law W base args hval hlen)

theorem frameNowhere_holds : Rows.FrameNowhereSaid :=
  OpenClaim.holds_of_wide 9 Try.f9 rfl rfl rfl rfl rfl rfl rfl ⟨rfl, rfl, rfl, rfl, rfl⟩ rfl rfl rfl rfl rfl (by kernel_rfl) Try.func9 (by kernel_rfl)
    (of_decide_eq_true (by kernel_rfl)) (by unfold Func.isWrapper; first | (rw [if_pos (by decide +kernel)]; kernel_rfl) | (rw [if_neg (by decide +kernel)]; exact ⟨rfl, rfl⟩))
    (fun os started H enc _ => frameNowhere_lifted os started H enc)
end Go.Proofs.Ytojgmjfcfpclbaa
#print axioms Go.Proofs.Ytojgmjfcfpclbaa.frameNowhere_holds
