/- EncodeTells returns true whatever its arguments; no condition. -/
import Derived.Test.YtokbhdafpghcpaaXTells
import Derived.Test.YtokbhdafpghcpaaEvR
import Derived.Test.YtokbhdafpghcpaaRows
namespace Go.Proofs.Ytokbhdafpghcpaa
open Go.ChangeShapes Go.WideShapes Go.ChangeAt Go.RowKit Go.Ev
set_option linter.unusedVariables false
set_option linter.unusedSimpArgs false

theorem encodeTells_own : ownKnob Try.prog.godebug = none := by kernel_rfl
theorem encodeTells_laid : laidOutB Try.prog = true := by kernel_rfl
theorem has8 {n : Int} (h : IntKind.i8.has n) : -128 ≤ n ∧ n ≤ 127 := by
  simp [IntKind.has, IntKind.min, IntKind.max, IntKind.signed, IntKind.bits] at h
  omega

set_option maxRecDepth 100000 in
theorem encodeTells_law (W : World) (base : Nat) (args : Array Value) (hval : ∀ (j : Nat) t v, Try.f5.params[j]? = some t → args[j]? = some v → Value.okWide Try.prog W .any base t v) (hlen : args.toList.length = Try.f5.params.toList.length) :
    Calls Try.prog 5 args W fun e W' => e = .returned (.bool true) ∧ Below W.heap.size W W' := by
  rw [Try.params5] at hlen hval
  obtain ⟨v0, rfl⟩ : ∃ v0, args = #[v0] := by
    rcases args with ⟨l⟩
    match l, hlen with
    | [v0], _ => exact ⟨v0, rfl⟩
  obtain ⟨ds0, hk0, hr0⟩ := agg_open (M := bareOf (allOf W)) (ts := [22, 22, 22, 22, 22, 3, 3, 22]) (ks := [.int .i8, .int .i8, .int .i8, .int .i8, .int .i8, .int .i64, .int .i64, .int .i8]) Try.underlying24 rfl (by kernel_rfl) (by kernel_rfl) (by kernel_rfl) (hval 0 24 v0 rfl rfl)
  simp only [okL] at hk0
  obtain ⟨op, _, rfl, h_op, w, _, rfl, h_w, dst, _, rfl, h_dst, src, _, rfl, h_src, base, _, rfl, h_base, disp, _, rfl, h_disp, imm, _, rfl, h_imm, cc, _, rfl, h_cc, rfl⟩ := hk0
  have ho := (has8 h_op).2
  refine Ret.law (tells_ok op w dst src base disp imm cc ho) ⟨rfl, ?_⟩
  intro i d v' h1 h2
  match i, h1, h2 with
  | 0, h1, h2 =>
    simp at h1 h2
    subst h1 h2
    exact hr0

set_option maxRecDepth 100000 in
theorem encodeTells_lifted (os : Os) (started : os.Started) (H : Type) (enc : TypeId × Value → H) :
    ReturnsInHanded {} Try.checked os 5 .any (Rows.encodeTellsSpec.pre6 enc Try.prog Try.f5 Rows.encodeTellsRow.domain false) (Rows.encodeTellsSpec.post enc Try.prog Try.f5 false true false false) :=
  law_lifted (C := Try.checked) (tb := 4) encodeTells_own started (by kernel_rfl) Try.func5 encodeTells_laid rfl
    (by rw [Try.params5]; intro t ht; simp at ht; subst ht; exact ⟨by kernel_rfl, by decide +kernel⟩) (by kernel_rfl) Try.underlying4
    (by
      intro ds hl
      have hl' : ds.length = 1 := hl
      match ds, hl' with
      | [d0], _ => exact ⟨rfl, rfl, rfl⟩)
    (ChangeSpec.witness6 (enc := enc) (C := Try.checked) false ⟨#[], #[.agg #[.int .i8 0, .int .i8 0, .int .i8 0, .int .i8 0, .int .i8 0, .int .i64 0, .int .i64 0, .int .i8 0]], []⟩ 8 (by kernel_rfl) (by kernel_rfl) (by kernel_rfl) (by kernel_rfl))
    (fun W base args ds ps hval hlen _ _ => encodeTells_law W base args hval hlen)

theorem encodeTells_holds : Rows.EncodeTellsSaid :=
  OpenClaim.holds_of_wide 5 Try.f5 rfl rfl rfl rfl rfl rfl rfl ⟨rfl, rfl, rfl, rfl, rfl⟩ rfl rfl rfl rfl rfl (by kernel_rfl) Try.func5 (by kernel_rfl)
    (of_decide_eq_true (by kernel_rfl)) (by unfold Func.isWrapper; first | (rw [if_pos (by decide +kernel)]; kernel_rfl) | (rw [if_neg (by decide +kernel)]; exact ⟨rfl, rfl⟩))
    (fun os started H enc _ => encodeTells_lifted os started H enc)
end Go.Proofs.Ytokbhdafpghcpaa
#print axioms Go.Proofs.Ytokbhdafpghcpaa.encodeTells_holds
