/- FrameHosts returns true whatever its arguments; no condition. -/
import Derived.Test.YtkpneibifdoecaaGreatRows
import Derived.Test.YtkpneibifdoecaaGreatH05
import Derived.Test.YtkpneibifdoecaaGreatH14
namespace Go.Proofs.YtkpneibifdoecaaGreat
open Go.ChangeShapes Go.WideShapes Go.ChangeAt Go.RowKit Go.Ev
set_option linter.unusedVariables false
set_option linter.unusedSimpArgs false

theorem frameHosts_own : ownKnob Tryz.prog.godebug = none := by kernel_rfl
theorem frameHosts_laid : laidOutB Tryz.prog = true := by kernel_rfl

set_option maxRecDepth 100000 in
theorem frameHosts_law (W : World) (base : Nat) (args : Array Value) (hval : ∀ (j : Nat) t v, Tryz.f6.params[j]? = some t → args[j]? = some v → Value.okWide Tryz.prog W .any base t v) (hlen : args.toList.length = Tryz.f6.params.toList.length) :
    Calls Tryz.prog 6 args W fun e W' => e = .returned (.bool true) ∧ Below W.heap.size W W' := by
  rw [Tryz.params6] at hlen hval
  obtain ⟨v0, v1, v2, v3, rfl⟩ : ∃ v0 v1 v2 v3, args = #[v0, v1, v2, v3] := by
    rcases args with ⟨l⟩
    match l, hlen with
    | [v0, v1, v2, v3], _ => exact ⟨v0, v1, v2, v3, rfl⟩
  obtain ⟨ds0, hk0, hr0⟩ := agg_open (M := bareOf (allOf W)) (ts := [23, 23, 23, 23, 23, 23, 23, 23, 23, 23, 23, 23, 23, 23, 23, 23, 23, 23, 23, 23, 23, 23]) (ks := [.int .i8, .int .i8, .int .i8, .int .i8, .int .i8, .int .i8, .int .i8, .int .i8, .int .i8, .int .i8, .int .i8, .int .i8, .int .i8, .int .i8, .int .i8, .int .i8, .int .i8, .int .i8, .int .i8, .int .i8, .int .i8, .int .i8]) Tryz.underlying26 rfl (by kernel_rfl) (by kernel_rfl) (by kernel_rfl) (hval 0 26 v0 rfl rfl)
  simp only [okL] at hk0
  obtain ⟨u0, _, rfl, h_u0, w0, _, rfl, h_w0, u1, _, rfl, h_u1, w1, _, rfl, h_w1, u2, _, rfl, h_u2, w2, _, rfl, h_w2, u3, _, rfl, h_u3, w3, _, rfl, h_w3, u4, _, rfl, h_u4, w4, _, rfl, h_w4, u5, _, rfl, h_u5, w5, _, rfl, h_w5, u6, _, rfl, h_u6, w6, _, rfl, h_w6, u7, _, rfl, h_u7, w7, _, rfl, h_w7, u8, _, rfl, h_u8, w8, _, rfl, h_w8, u9, _, rfl, h_u9, w9, _, rfl, h_w9, u10, _, rfl, h_u10, w10, _, rfl, h_w10, rfl⟩ := hk0
  obtain ⟨d1, hk1, hr1⟩ := one_open (M := bareOf (allOf W)) (k := .int .i64) (by kernel_rfl) (hval 1 3 v1 rfl rfl)
  simp only [okL] at hk1
  obtain ⟨num, r1, e1, h_num, _⟩ := hk1
  obtain rfl := (List.cons.inj e1).1
  obtain ⟨ds2, hk2, hr2⟩ := agg_open (M := bareOf (allOf W)) (ts := [39, 39, 39, 39, 39, 39, 39, 39, 39, 39, 39, 39, 39, 39, 39, 39]) (ks := [.int .u64, .int .u64, .int .u64, .int .u64, .int .u64, .int .u64, .int .u64, .int .u64, .int .u64, .int .u64, .int .u64, .int .u64, .int .u64, .int .u64, .int .u64, .int .u64]) Tryz.underlying40 rfl (by kernel_rfl) (by kernel_rfl) (by kernel_rfl) (hval 2 40 v2 rfl rfl)
  simp only [okL] at hk2
  obtain ⟨y0, _, rfl, h_y0, y1, _, rfl, h_y1, y2, _, rfl, h_y2, y3, _, rfl, h_y3, y4, _, rfl, h_y4, y5, _, rfl, h_y5, y6, _, rfl, h_y6, y7, _, rfl, h_y7, y8, _, rfl, h_y8, y9, _, rfl, h_y9, y10, _, rfl, h_y10, y11, _, rfl, h_y11, y12, _, rfl, h_y12, y13, _, rfl, h_y13, y14, _, rfl, h_y14, y15, _, rfl, h_y15, rfl⟩ := hk2
  obtain ⟨ds3, hk3, hr3⟩ := agg_open (M := bareOf (allOf W)) (ts := [39, 39, 39, 39, 39, 39, 39, 39, 39, 39, 39]) (ks := [.int .u64, .int .u64, .int .u64, .int .u64, .int .u64, .int .u64, .int .u64, .int .u64, .int .u64, .int .u64, .int .u64]) Tryz.underlying41 rfl (by kernel_rfl) (by kernel_rfl) (by kernel_rfl) (hval 3 41 v3 rfl rfl)
  simp only [okL] at hk3
  obtain ⟨z0, _, rfl, h_z0, z1, _, rfl, h_z1, z2, _, rfl, h_z2, z3, _, rfl, h_z3, z4, _, rfl, h_z4, z5, _, rfl, h_z5, z6, _, rfl, h_z6, z7, _, rfl, h_z7, z8, _, rfl, h_z8, z9, _, rfl, h_z9, z10, _, rfl, h_z10, rfl⟩ := hk3
  refine Ret.law (hosts_any ⟨fun i => rg [u0, u1, u2, u3, u4, u5, u6, u7, u8, u9, u10] i, fun i => rg [w0, w1, w2, w3, w4, w5, w6, w7, w8, w9, w10] i⟩ num ⟨y0, y1, y2, y3, y4, y5, y6, y7, y8, y9, y10, y11, y12, y13, y14, y15, false, false, false, false, false, 0⟩ (fun i => rg [z0, z1, z2, z3, z4, z5, z6, z7, z8, z9, z10] i)) ⟨rfl, ?_⟩
  intro i d v' h1 h2
  match i, h1, h2 with
  | 0, h1, h2 =>
    simp at h1 h2
    subst h1 h2
    exact hr0
  | 1, h1, h2 =>
    simp at h1 h2
    subst h1 h2
    exact hr1
  | 2, h1, h2 =>
    simp at h1 h2
    subst h1 h2
    exact hr2
  | 3, h1, h2 =>
    simp at h1 h2
    subst h1 h2
    exact hr3

set_option maxRecDepth 100000 in
theorem frameHosts_lifted (os : Os) (started : os.Started) (H : Type) (enc : TypeId × Value → H) :
    ReturnsInHanded {} Tryz.checked os 6 .any (Rows.frameHostsSpec.pre6 enc Tryz.prog Tryz.f6 Rows.frameHostsRow.domain false) (Rows.frameHostsSpec.post enc Tryz.prog Tryz.f6 false true false false) :=
  law_lifted (C := Tryz.checked) (tb := 4) frameHosts_own started (by kernel_rfl) Tryz.func6 frameHosts_laid rfl
    (by rw [Tryz.params6]; intro t ht; simp at ht; rcases ht with rfl | rfl | rfl | rfl <;> exact ⟨by kernel_rfl, by decide +kernel⟩) (by kernel_rfl) Tryz.underlying4
    (by
      intro ds hl
      have hl' : ds.length = 4 := hl
      match ds, hl' with
      | [d0, d1, d2, d3], _ => exact ⟨rfl, rfl, rfl⟩)
    (ChangeSpec.witness6 (enc := enc) (C := Tryz.checked) false ⟨#[], #[.agg #[.int .i8 0, .int .i8 0, .int .i8 0, .int .i8 0, .int .i8 0, .int .i8 0, .int .i8 0, .int .i8 0, .int .i8 0, .int .i8 0, .int .i8 0, .int .i8 0, .int .i8 0, .int .i8 0, .int .i8 0, .int .i8 0, .int .i8 0, .int .i8 0, .int .i8 0, .int .i8 0, .int .i8 0, .int .i8 0], .int .i64 0, .agg #[.int .u64 0, .int .u64 0, .int .u64 0, .int .u64 0, .int .u64 0, .int .u64 0, .int .u64 0, .int .u64 0, .int .u64 0, .int .u64 0, .int .u64 0, .int .u64 0, .int .u64 0, .int .u64 0, .int .u64 0, .int .u64 0], .agg #[.int .u64 0, .int .u64 0, .int .u64 0, .int .u64 0, .int .u64 0, .int .u64 0, .int .u64 0, .int .u64 0, .int .u64 0, .int .u64 0, .int .u64 0]], []⟩ 8 (by kernel_rfl) (by kernel_rfl) (by kernel_rfl) (by kernel_rfl))
    (fun W base args ds ps hval hlen hA _ => frameHosts_law W base args hval hlen)

theorem frameHosts_holds : Rows.FrameHostsSaid :=
  OpenClaim.holds_of_wide 6 Tryz.f6 rfl rfl rfl rfl rfl rfl rfl ⟨rfl, rfl, rfl, rfl, rfl⟩ rfl rfl rfl rfl rfl (by kernel_rfl) Tryz.func6 (by kernel_rfl)
    (of_decide_eq_true (by kernel_rfl)) (by unfold Func.isWrapper; first | (rw [if_pos (by decide +kernel)]; kernel_rfl) | (rw [if_neg (by decide +kernel)]; exact ⟨rfl, rfl⟩))
    (fun os started H enc _ => frameHosts_lifted os started H enc)
end Go.Proofs.YtkpneibifdoecaaGreat
#print axioms Go.Proofs.YtkpneibifdoecaaGreat.frameHosts_holds
