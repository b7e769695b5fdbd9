/- ExecApart returns true whatever its arguments; no condition. -/
import Derived.Test.YtkannibhndjgeaaE8
import Derived.Test.YtkannibhndjgeaaEvR
import Derived.Test.YtkannibhndjgeaaRows
namespace Go.Proofs.Ytkannibhndjgeaa
open Go.ChangeShapes Go.WideShapes Go.ChangeAt Go.RowKit Go.Ev
set_option linter.unusedVariables false
set_option linter.unusedSimpArgs false

theorem execApart_own : ownKnob Try.prog.godebug = none := by kernel_rfl
theorem execApart_laid : laidOutB Try.prog = true := by kernel_rfl
theorem has8 {n : Int} (h : IntKind.i8.has n) : -128 ≤ n ∧ n ≤ 127 := by
  simp [IntKind.has, IntKind.min, IntKind.max, IntKind.signed, IntKind.bits] at h
  omega

set_option maxRecDepth 100000 in
theorem execApart_law (W : World) (base : Nat) (args : Array Value) (hval : ∀ (j : Nat) t v, Try.f6.params[j]? = some t → args[j]? = some v → Value.okWide Try.prog W .any base t v) (hlen : args.toList.length = Try.f6.params.toList.length) :
    Calls Try.prog 6 args W fun e W' => e = .returned (.bool true) ∧ Below W.heap.size W W' := by
  rw [Try.params6] at hlen hval
  obtain ⟨v0, v1, v2, v3, v4, rfl⟩ : ∃ v0 v1 v2 v3 v4, args = #[v0, v1, v2, v3, v4] := by
    rcases args with ⟨l⟩
    match l, hlen with
    | [v0, v1, v2, v3, v4], _ => exact ⟨v0, v1, v2, v3, v4, rfl⟩
  obtain ⟨ds0, hk0, hr0⟩ := agg_open (M := bareOf (allOf W)) (ts := [22, 22, 22, 22, 22, 22, 22, 22, 22, 22, 22, 22, 22, 22, 22, 22, 4, 4, 4, 4, 4, 22]) (ks := [.int .u64, .int .u64, .int .u64, .int .u64, .int .u64, .int .u64, .int .u64, .int .u64, .int .u64, .int .u64, .int .u64, .int .u64, .int .u64, .int .u64, .int .u64, .int .u64, .bool, .bool, .bool, .bool, .bool, .int .u64]) Try.underlying27 rfl (by kernel_rfl) (by kernel_rfl) (by kernel_rfl) (hval 0 27 v0 rfl rfl)
  simp only [okL] at hk0
  obtain ⟨q0, _, rfl, h_q0, q1, _, rfl, h_q1, q2, _, rfl, h_q2, q3, _, rfl, h_q3, q4, _, rfl, h_q4, q5, _, rfl, h_q5, q6, _, rfl, h_q6, q7, _, rfl, h_q7, q8, _, rfl, h_q8, q9, _, rfl, h_q9, q10, _, rfl, h_q10, q11, _, rfl, h_q11, q12, _, rfl, h_q12, q13, _, rfl, h_q13, q14, _, rfl, h_q14, q15, _, rfl, h_q15, fk, _, rfl, fc, _, rfl, fz, _, rfl, fs, _, rfl, fo, _, rfl, at', _, rfl, h_at', rfl⟩ := hk0
  obtain ⟨ds1, hk1, hr1⟩ := agg_open (M := bareOf (allOf W)) (ts := [28, 28, 28, 28, 28, 3, 3, 28]) (ks := [.int .i8, .int .i8, .int .i8, .int .i8, .int .i8, .int .i64, .int .i64, .int .i8]) Try.underlying35 rfl (by kernel_rfl) (by kernel_rfl) (by kernel_rfl) (hval 1 35 v1 rfl rfl)
  simp only [okL] at hk1
  obtain ⟨op, _, rfl, h_op, w, _, rfl, h_w, dst, _, rfl, h_dst, src, _, rfl, h_src, base, _, rfl, h_base, disp, _, rfl, h_disp, imm, _, rfl, h_imm, cc, _, rfl, h_cc, rfl⟩ := hk1
  obtain ⟨d2, hk2, hr2⟩ := one_open (M := bareOf (allOf W)) (k := .int .u64) (by kernel_rfl) (hval 2 22 v2 rfl rfl)
  simp only [okL] at hk2
  obtain ⟨ld, r2, e2, h_ld, _⟩ := hk2
  obtain rfl := (List.cons.inj e2).1
  obtain ⟨d3, hk3, hr3⟩ := one_open (M := bareOf (allOf W)) (k := .int .i8) (by kernel_rfl) (hval 3 28 v3 rfl rfl)
  simp only [okL] at hk3
  obtain ⟨other, r3, e3, h_other, _⟩ := hk3
  obtain rfl := (List.cons.inj e3).1
  obtain ⟨d4, hk4, hr4⟩ := one_open (M := bareOf (allOf W)) (k := .int .u64) (by kernel_rfl) (hval 4 22 v4 rfl rfl)
  simp only [okL] at hk4
  obtain ⟨v, r4, e4, h_v, _⟩ := hk4
  obtain rfl := (List.cons.inj e4).1
  have ho := (has8 h_op).2
  refine Ret.law (apart_any_ok q0 q1 q2 q3 q4 q5 q6 q7 q8 q9 q10 q11 q12 q13 q14 q15 at' fk fc fz fs fo op w dst src base disp imm cc ld other v ho) ⟨rfl, ?_⟩
  intro i d v' h1 h2
  match i, h1, h2 with
  | 0, h1, h2 =>
    simp at h1 h2
    subst h1 h2
    exact hr0
  | 1, h1, h2 =>
    simp at h1 h2
    subst h1 h2
    exact hr1
  | 2, h1, h2 =>
    simp at h1 h2
    subst h1 h2
    exact hr2
  | 3, h1, h2 =>
    simp at h1 h2
    subst h1 h2
    exact hr3
  | 4, h1, h2 =>
    simp at h1 h2
    subst h1 h2
    exact hr4

set_option maxRecDepth 100000 in
theorem execApart_lifted (os : Os) (started : os.Started) (H : Type) (enc : TypeId × Value → H) :
    ReturnsInHanded {} Try.checked os 6 .any (Rows.execApartSpec.pre6 enc Try.prog Try.f6 Rows.execApartRow.domain false) (Rows.execApartSpec.post enc Try.prog Try.f6 false true false false) :=
  law_lifted (C := Try.checked) (tb := 4) execApart_own started (by kernel_rfl) Try.func6 execApart_laid rfl
    (by rw [Try.params6]; intro t ht; simp at ht; rcases ht with rfl | rfl | rfl | rfl | rfl <;> exact ⟨by kernel_rfl, by decide +kernel⟩) (by kernel_rfl) Try.underlying4
    (by
      intro ds hl
      have hl' : ds.length = 5 := hl
      match ds, hl' with
      | [d0, d1, d2, d3, d4], _ => exact ⟨rfl, rfl, rfl⟩)
    (ChangeSpec.witness6 (enc := enc) (C := Try.checked) false ⟨#[], #[.agg #[.int .u64 0, .int .u64 0, .int .u64 0, .int .u64 0, .int .u64 0, .int .u64 0, .int .u64 0, .int .u64 0, .int .u64 0, .int .u64 0, .int .u64 0, .int .u64 0, .int .u64 0, .int .u64 0, .int .u64 0, .int .u64 0, .bool false, .bool false, .bool false, .bool false, .bool false, .int .u64 0], .agg #[.int .i8 0, .int .i8 0, .int .i8 0, .int .i8 0, .int .i8 0, .int .i64 0, .int .i64 0, .int .i8 0], .int .u64 0, .int .i8 0, .int .u64 0], []⟩ 8 (by kernel_rfl) (by kernel_rfl) (by kernel_rfl) (by kernel_rfl))
    (fun W base args ds ps hval hlen _ _ => execApart_law W base args hval hlen)

theorem execApart_holds : Rows.ExecApartSaid :=
  OpenClaim.holds_of_wide 6 Try.f6 rfl rfl rfl rfl rfl rfl rfl ⟨rfl, rfl, rfl, rfl, rfl⟩ rfl rfl rfl rfl rfl (by kernel_rfl) Try.func6 (by kernel_rfl)
    (of_decide_eq_true (by kernel_rfl)) (by unfold Func.isWrapper; first | (rw [if_pos (by decide +kernel)]; kernel_rfl) | (rw [if_neg (by decide +kernel)]; exact ⟨rfl, rfl⟩))
    (fun os started H enc _ => execApart_lifted os started H enc)
end Go.Proofs.Ytkannibhndjgeaa
#print axioms Go.Proofs.Ytkannibhndjgeaa.execApart_holds
