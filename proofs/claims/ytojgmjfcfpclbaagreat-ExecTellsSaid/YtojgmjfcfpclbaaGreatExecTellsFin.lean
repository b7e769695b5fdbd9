/- ExecTells returns true whatever its arguments; no condition. -/
import Derived.Test.YtojgmjfcfpclbaaGreatRows
import Derived.Test.YtojgmjfcfpclbaaGreatH13
import Derived.Test.YtojgmjfcfpclbaaGreatLExecTells01
namespace Go.Proofs.YtojgmjfcfpclbaaGreat
open Go.ChangeShapes Go.WideShapes Go.ChangeAt Go.RowKit Go.Ev
set_option linter.unusedVariables false
set_option linter.unusedSimpArgs false

theorem execTells_own : ownKnob Tryz.prog.godebug = none := by kernel_rfl
theorem execTells_laid : laidOutB Tryz.prog = true := by kernel_rfl
theorem has8 {n : Int} (h : IntKind.i8.has n) : -128 ≤ n ∧ n ≤ 127 := by
  simp [IntKind.has, IntKind.min, IntKind.max, IntKind.signed, IntKind.bits] at h
  omega
theorem hasU {n : Int} (h : IntKind.u64.has n) : 0 ≤ n := by
  simp [IntKind.has, IntKind.min, IntKind.max, IntKind.signed, IntKind.bits] at h
  omega

set_option maxRecDepth 100000 in
theorem execTells_law (W : World) (base : Nat) (args : Array Value) (hval : ∀ (j : Nat) t v, Tryz.f3.params[j]? = some t → args[j]? = some v → Value.okWide Tryz.prog W .any base t v) (hlen : args.toList.length = Tryz.f3.params.toList.length) :
    Calls Tryz.prog 3 args W fun e W' => e = .returned (.bool true) ∧ Below W.heap.size W W' := by
  rw [Tryz.params3] at hlen hval
  obtain ⟨v0, v1, v2, v3, rfl⟩ : ∃ v0 v1 v2 v3, args = #[v0, v1, v2, v3] := by
    rcases args with ⟨l⟩
    match l, hlen with
    | [v0, v1, v2, v3], _ => exact ⟨v0, v1, v2, v3, rfl⟩
  obtain ⟨ds0, hk0, hr0⟩ := agg_open (M := bareOf (allOf W)) (ts := [22, 22, 22, 22, 22, 22, 22, 22, 22, 22, 22, 22, 22, 22, 22, 22, 4, 4, 4, 4, 4, 22]) (ks := [.int .u64, .int .u64, .int .u64, .int .u64, .int .u64, .int .u64, .int .u64, .int .u64, .int .u64, .int .u64, .int .u64, .int .u64, .int .u64, .int .u64, .int .u64, .int .u64, .bool, .bool, .bool, .bool, .bool, .int .u64]) Tryz.underlying27 rfl (by kernel_rfl) (by kernel_rfl) (by kernel_rfl) (hval 0 27 v0 rfl rfl)
  simp only [okL] at hk0
  obtain ⟨q0, _, rfl, h_q0, q1, _, rfl, h_q1, q2, _, rfl, h_q2, q3, _, rfl, h_q3, q4, _, rfl, h_q4, q5, _, rfl, h_q5, q6, _, rfl, h_q6, q7, _, rfl, h_q7, q8, _, rfl, h_q8, q9, _, rfl, h_q9, q10, _, rfl, h_q10, q11, _, rfl, h_q11, q12, _, rfl, h_q12, q13, _, rfl, h_q13, q14, _, rfl, h_q14, q15, _, rfl, h_q15, fk, _, rfl, fc, _, rfl, fz, _, rfl, fs, _, rfl, fo, _, rfl, pc, _, rfl, h_pc, rfl⟩ := hk0
  obtain ⟨ds1, hk1, hr1⟩ := agg_open (M := bareOf (allOf W)) (ts := [28, 28, 28, 28, 28, 3, 3, 28]) (ks := [.int .i8, .int .i8, .int .i8, .int .i8, .int .i8, .int .i64, .int .i64, .int .i8]) Tryz.underlying30 rfl (by kernel_rfl) (by kernel_rfl) (by kernel_rfl) (hval 1 30 v1 rfl rfl)
  simp only [okL] at hk1
  obtain ⟨op, _, rfl, h_op, w, _, rfl, h_w, dst, _, rfl, h_dst, src, _, rfl, h_src, base, _, rfl, h_base, disp, _, rfl, h_disp, imm, _, rfl, h_imm, cd, _, rfl, h_cd, rfl⟩ := hk1
  obtain ⟨d2, hk2, hr2⟩ := one_open (M := bareOf (allOf W)) (k := .int .u64) (by kernel_rfl) (hval 2 22 v2 rfl rfl)
  simp only [okL] at hk2
  obtain ⟨ld, r2, e2, h_ld, _⟩ := hk2
  obtain rfl := (List.cons.inj e2).1
  obtain ⟨d3, hk3, hr3⟩ := one_open (M := bareOf (allOf W)) (k := .int .i8) (by kernel_rfl) (hval 3 28 v3 rfl rfl)
  simp only [okL] at hk3
  obtain ⟨cc, r3, e3, h_cc, _⟩ := hk3
  obtain rfl := (List.cons.inj e3).1
  refine Ret.law (tells15_ok q0 q1 q2 q3 q4 q5 q6 q7 q8 q9 q10 q11 q12 q13 q14 q15 pc fk fc fz fs fo op w dst src base disp imm cd ld cc (has8 h_op).2 (hasU h_q0)) ⟨rfl, ?_⟩
  intro i d v' h1 h2
  match i, h1, h2 with
  | 0, h1, h2 =>
    simp at h1 h2
    subst h1 h2
    exact hr0
  | 1, h1, h2 =>
    simp at h1 h2
    subst h1 h2
    exact hr1
  | 2, h1, h2 =>
    simp at h1 h2
    subst h1 h2
    exact hr2
  | 3, h1, h2 =>
    simp at h1 h2
    subst h1 h2
    exact hr3

set_option maxRecDepth 100000 in
theorem execTells_lifted (os : Os) (started : os.Started) (H : Type) (enc : TypeId × Value → H) :
    ReturnsInHanded {} Tryz.checked os 3 .any (Rows.execTellsSpec.pre6 enc Tryz.prog Tryz.f3 Rows.execTellsRow.domain false) (Rows.execTellsSpec.post enc Tryz.prog Tryz.f3 false true false false) :=
  law_lifted (C := Tryz.checked) (tb := 4) execTells_own started (by kernel_rfl) Tryz.func3 execTells_laid rfl
    (by rw [Tryz.params3]; intro t ht; simp at ht; rcases ht with rfl | rfl | rfl | rfl <;> exact ⟨by kernel_rfl, by decide +kernel⟩) (by kernel_rfl) Tryz.underlying4
    (by
      intro ds hl
      have hl' : ds.length = 4 := hl
      match ds, hl' with
      | [d0, d1, d2, d3], _ => exact ⟨rfl, rfl, rfl⟩)
    (ChangeSpec.witness6 (enc := enc) (C := Tryz.checked) false ⟨#[], #[.agg #[.int .u64 0, .int .u64 0, .int .u64 0, .int .u64 0, .int .u64 0, .int .u64 0, .int .u64 0, .int .u64 0, .int .u64 0, .int .u64 0, .int .u64 0, .int .u64 0, .int .u64 0, .int .u64 0, .int .u64 0, .int .u64 0, .bool false, .bool false, .bool false, .bool false, .bool false, .int .u64 0], .agg #[.int .i8 0, .int .i8 0, .int .i8 0, .int .i8 0, .int .i8 0, .int .i64 0, .int .i64 0, .int .i8 0], .int .u64 0, .int .i8 0], []⟩ 8 (by kernel_rfl) (by kernel_rfl) (by kernel_rfl) (by kernel_rfl))
    (fun W base args ds ps hval hlen hA _ => execTells_law W base args hval hlen)

theorem execTells_holds : Rows.ExecTellsSaid :=
  OpenClaim.holds_of_wide 3 Tryz.f3 rfl rfl rfl rfl rfl rfl rfl ⟨rfl, rfl, rfl, rfl, rfl⟩ rfl rfl rfl rfl rfl (by kernel_rfl) Tryz.func3 (by kernel_rfl)
    (of_decide_eq_true (by kernel_rfl)) (by unfold Func.isWrapper; first | (rw [if_pos (by decide +kernel)]; kernel_rfl) | (rw [if_neg (by decide +kernel)]; exact ⟨rfl, rfl⟩))
    (fun os started H enc _ => execTells_lifted os started H enc)
end Go.Proofs.YtojgmjfcfpclbaaGreat
#print axioms Go.Proofs.YtojgmjfcfpclbaaGreat.execTells_holds
