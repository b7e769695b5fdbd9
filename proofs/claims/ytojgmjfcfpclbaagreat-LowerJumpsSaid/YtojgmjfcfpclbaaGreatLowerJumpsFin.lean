/- LowerJumps returns true whatever its arguments; no condition. -/
import Derived.Test.YtojgmjfcfpclbaaGreatRows
import Derived.Test.YtojgmjfcfpclbaaGreatU12
import Derived.Test.YtojgmjfcfpclbaaGreatLLowerJumps01
namespace Go.Proofs.YtojgmjfcfpclbaaGreat
open Go.ChangeShapes Go.WideShapes Go.ChangeAt Go.RowKit Go.Ev
set_option linter.unusedVariables false
set_option linter.unusedSimpArgs false

theorem lowerJumps_own : ownKnob Tryz.prog.godebug = none := by kernel_rfl
theorem lowerJumps_laid : laidOutB Tryz.prog = true := by kernel_rfl
theorem hasU {n : Int} (h : IntKind.u64.has n) : inU n := by
  simp [IntKind.has, IntKind.min, IntKind.max, IntKind.signed, IntKind.bits] at h
  exact ⟨by omega, by omega⟩

set_option maxRecDepth 100000 in
theorem lowerJumps_law (W : World) (base : Nat) (args : Array Value) (hval : ∀ (j : Nat) t v, Tryz.f7.params[j]? = some t → args[j]? = some v → Value.okWide Tryz.prog W .any base t v) (hlen : args.toList.length = Tryz.f7.params.toList.length) :
    Calls Tryz.prog 7 args W fun e W' => e = .returned (.bool true) ∧ Below W.heap.size W W' := by
  rw [Tryz.params7] at hlen hval
  obtain ⟨v0, v1, rfl⟩ : ∃ v0 v1, args = #[v0, v1] := by
    rcases args with ⟨l⟩
    match l, hlen with
    | [v0, v1], _ => exact ⟨v0, v1, rfl⟩
  obtain ⟨ds0, hk0, hr0⟩ := agg_open (M := bareOf (allOf W)) (ts := [28, 28, 28, 28, 4, 28, 28, 3, 3]) (ks := [.int .i8, .int .i8, .int .i8, .int .i8, .bool, .int .i8, .int .i8, .int .i64, .int .i64]) Tryz.underlying59 rfl (by kernel_rfl) (by kernel_rfl) (by kernel_rfl) (hval 0 59 v0 rfl rfl)
  simp only [okL] at hk0
  obtain ⟨kind, _, rfl, h_kind, op, _, rfl, h_op, width, _, rfl, h_width, size, _, rfl, h_size, byReg, _, rfl, dst, _, rfl, h_dst, src, _, rfl, h_src, off, _, rfl, h_off, imm, _, rfl, h_imm, rfl⟩ := hk0
  obtain ⟨ds1, hk1, hr1⟩ := agg_open (M := bareOf (allOf W)) (ts := [22, 22, 22, 22, 22, 22, 22, 22, 22, 22, 22]) (ks := [.int .u64, .int .u64, .int .u64, .int .u64, .int .u64, .int .u64, .int .u64, .int .u64, .int .u64, .int .u64, .int .u64]) Tryz.underlying47 rfl (by kernel_rfl) (by kernel_rfl) (by kernel_rfl) (hval 1 47 v1 rfl rfl)
  simp only [okL] at hk1
  obtain ⟨y0, _, rfl, h_y0, y1, _, rfl, h_y1, y2, _, rfl, h_y2, y3, _, rfl, h_y3, y4, _, rfl, h_y4, y5, _, rfl, h_y5, y6, _, rfl, h_y6, y7, _, rfl, h_y7, y8, _, rfl, h_y8, y9, _, rfl, h_y9, y10, _, rfl, h_y10, rfl⟩ := hk1
  refine Ret.law (jumps_any_ok kind op width size byReg dst src off imm ⟨y0, y1, y2, y3, y4, y5, y6, y7, y8, y9, y10⟩ (by intro x hx; simp only [RgS.l, List.mem_cons, List.not_mem_nil, or_false] at hx; rcases hx with rfl | rfl | rfl | rfl | rfl | rfl | rfl | rfl | rfl | rfl | rfl <;> first | exact hasU h_y0 | exact hasU h_y1 | exact hasU h_y2 | exact hasU h_y3 | exact hasU h_y4 | exact hasU h_y5 | exact hasU h_y6 | exact hasU h_y7 | exact hasU h_y8 | exact hasU h_y9 | exact hasU h_y10)) ⟨rfl, ?_⟩
  intro i d v' h1 h2
  match i, h1, h2 with
  | 0, h1, h2 =>
    simp at h1 h2
    subst h1 h2
    exact hr0
  | 1, h1, h2 =>
    simp at h1 h2
    subst h1 h2
    exact hr1

set_option maxRecDepth 100000 in
theorem lowerJumps_lifted (os : Os) (started : os.Started) (H : Type) (enc : TypeId × Value → H) :
    ReturnsInHanded {} Tryz.checked os 7 .any (Rows.lowerJumpsSpec.pre6 enc Tryz.prog Tryz.f7 Rows.lowerJumpsRow.domain false) (Rows.lowerJumpsSpec.post enc Tryz.prog Tryz.f7 false true false false) :=
  law_lifted (C := Tryz.checked) (tb := 4) lowerJumps_own started (by kernel_rfl) Tryz.func7 lowerJumps_laid rfl
    (by rw [Tryz.params7]; intro t ht; simp at ht; rcases ht with rfl | rfl <;> exact ⟨by kernel_rfl, by decide +kernel⟩) (by kernel_rfl) Tryz.underlying4
    (by
      intro ds hl
      have hl' : ds.length = 2 := hl
      match ds, hl' with
      | [d0, d1], _ => exact ⟨rfl, rfl, rfl⟩)
    (ChangeSpec.witness6 (enc := enc) (C := Tryz.checked) false ⟨#[], #[.agg #[.int .i8 0, .int .i8 0, .int .i8 0, .int .i8 0, .bool false, .int .i8 0, .int .i8 0, .int .i64 0, .int .i64 0], .agg #[.int .u64 0, .int .u64 0, .int .u64 0, .int .u64 0, .int .u64 0, .int .u64 0, .int .u64 0, .int .u64 0, .int .u64 0, .int .u64 0, .int .u64 0]], []⟩ 8 (by kernel_rfl) (by kernel_rfl) (by kernel_rfl) (by kernel_rfl))
    (fun W base args ds ps hval hlen hA _ => lowerJumps_law W base args hval hlen)

theorem lowerJumps_holds : Rows.LowerJumpsSaid :=
  OpenClaim.holds_of_wide 7 Tryz.f7 rfl rfl rfl rfl rfl rfl rfl ⟨rfl, rfl, rfl, rfl, rfl⟩ rfl rfl rfl rfl rfl (by kernel_rfl) Tryz.func7 (by kernel_rfl)
    (of_decide_eq_true (by kernel_rfl)) (by unfold Func.isWrapper; first | (rw [if_pos (by decide +kernel)]; kernel_rfl) | (rw [if_neg (by decide +kernel)]; exact ⟨rfl, rfl⟩))
    (fun os started H enc _ => lowerJumps_lifted os started H enc)
end Go.Proofs.YtojgmjfcfpclbaaGreat
#print axioms Go.Proofs.YtojgmjfcfpclbaaGreat.lowerJumps_holds
