/- The statements on compares, divisions, stores and loads, of whatever machine. -/
import Derived.Test.YtkannibhndjgeaaE3
namespace Go.Proofs.Ytkannibhndjgeaa
open Go Go.Ev
set_option linter.unusedVariables false
set_option linter.unusedSimpArgs false

section
variable (q0 q1 q2 q3 q4 q5 q6 q7 q8 q9 q10 q11 q12 q13 q14 q15 at' : Int) (fk fc fz fs fo : Bool)
theorem flags_ok (w dst src : Int) :
    Ret Try.prog 3 [.agg [.int .u64 q0, .int .u64 q1, .int .u64 q2, .int .u64 q3, .int .u64 q4, .int .u64 q5, .int .u64 q6, .int .u64 q7, .int .u64 q8, .int .u64 q9, .int .u64 q10, .int .u64 q11, .int .u64 q12, .int .u64 q13, .int .u64 q14, .int .u64 q15, .bool fk, .bool fc, .bool fz, .bool fs, .bool fo, .int .u64 at'], .int .i8 w, .int .i8 dst, .int .i8 src] (.bool true) := by
  have e7 := may_pair (op := 7) (w := w) (dst := dst) (src := src) rfl
  have e5 := may_pair (op := 5) (w := w) (dst := dst) (src := src) rfl
  have e8 := may_pair (op := 8) (w := w) (dst := dst) (src := src) rfl
  have e4 := may_pair (op := 4) (w := w) (dst := dst) (src := src) rfl
  cases h : mayP w dst src
  · rw [h] at e7 e5 e8 e4
    exact flags_no_ok _ _ _ _ _ _ _ _ _ _ _ _ _ _ _ _ _ _ _ _ _ _ w dst src e7 e5 e8 e4
  · rw [h] at e7 e5 e8 e4
    obtain ⟨hw, d0, d1, s0, s1⟩ := mayP_out h
    exact flags_yes_ok _ _ _ _ _ _ _ _ _ _ _ _ _ _ _ _ _ _ _ _ _ _ w dst src d0 d1 s0 s1 hw e7 e5 e8 e4
theorem div_any_ok (hq : ∀ x ∈ [q0, q1, q2, q3, q4, q5, q6, q7, q8, q9, q10, q11, q12, q13, q14, q15], inU x) (w dv : Int) :
    Ret Try.prog 4 [.agg [.int .u64 q0, .int .u64 q1, .int .u64 q2, .int .u64 q3, .int .u64 q4, .int .u64 q5, .int .u64 q6, .int .u64 q7, .int .u64 q8, .int .u64 q9, .int .u64 q10, .int .u64 q11, .int .u64 q12, .int .u64 q13, .int .u64 q14, .int .u64 q15, .bool fk, .bool fc, .bool fz, .bool fs, .bool fo, .int .u64 at'], .int .i8 w, .int .i8 dv] (.bool true) := by
  cases hm : mayX 24 w dv 0 0 0 0 0
  · exact div_no_ok _ _ _ _ _ _ _ _ _ _ _ _ _ _ _ _ _ _ _ _ _ _ w dv hm
  · obtain ⟨⟨d0, d1, _⟩, hs⟩ := mayX_parts hm
    have hw : longM w = true := by
      rw [show shapeM 24 = 5 from rfl] at hs
      simp [mayS] at hs
      exact hs
    cases hd : cutM (rg [q0, q1, q2, q3, q4, q5, q6, q7, q8, q9, q10, q11, q12, q13, q14, q15] dv) w == 0
    · cases hz : cutM q2 w == 0
      · exact div_f2_ok _ _ _ _ _ _ _ _ _ _ _ _ _ _ _ _ _ _ _ _ _ _ w dv d0 d1 hw hm hd hz
      · exact div_ok_ok _ _ _ _ _ _ _ _ _ _ _ _ _ _ _ _ _ _ _ _ _ _ w dv d0 d1 hw hm hd hz (div_same (hq q0 (by simp)) (rg_in hq dv) hd) (mod_same (hq q0 (by simp)) (rg_in hq dv) hd)
    · exact div_f1_ok _ _ _ _ _ _ _ _ _ _ _ _ _ _ _ _ _ _ _ _ _ _ w dv d0 d1 hw hm hd
theorem loads_any_ok (w src dst base disp : Int) :
    Ret Try.prog 5 [.agg [.int .u64 q0, .int .u64 q1, .int .u64 q2, .int .u64 q3, .int .u64 q4, .int .u64 q5, .int .u64 q6, .int .u64 q7, .int .u64 q8, .int .u64 q9, .int .u64 q10, .int .u64 q11, .int .u64 q12, .int .u64 q13, .int .u64 q14, .int .u64 q15, .bool fk, .bool fc, .bool fz, .bool fs, .bool fo, .int .u64 at'], .int .i8 w, .int .i8 src, .int .i8 dst, .int .i8 base, .int .i64 disp] (.bool true) := by
  have wOf : ∀ {sh d s b p i c : Int}, (sh = 7 ∨ sh = 8) → mayS sh w d s b p i c = true → w = 8 ∨ w = 16 ∨ w = 32 ∨ w = 64 := by
    intro sh d s b p i c hsh h
    rcases hsh with rfl | rfl <;> simp [mayS] at h <;> exact width_cases h.1
  cases hp : mayX 27 w 0 src base disp 0 0
  · cases hg : mayX 26 w dst 0 base disp 0 0
    · exact loads_n1_ok _ _ _ _ _ _ _ _ _ _ _ _ _ _ _ _ _ _ _ _ _ _ w src dst base disp hp hg
    · obtain ⟨⟨d0, d1, _, _, b0, b1, _⟩, hs⟩ := mayX_parts hg
      have hw := wOf (.inl rfl) (by rw [show shapeM 26 = 7 from rfl] at hs; exact hs)
      exact loads_n3_ok _ _ _ _ _ _ _ _ _ _ _ _ _ _ _ _ _ _ _ _ _ _ w (by omega) (by omega) src dst base disp d0 d1 b0 b1 hp hg
  · obtain ⟨⟨_, _, s0, s1, b0, b1, _⟩, hs⟩ := mayX_parts hp
    have hw := wOf (.inr rfl) (by rw [show shapeM 27 = 8 from rfl] at hs; exact hs)
    cases hg : mayX 26 w dst 0 base disp 0 0
    · exact loads_n2_ok _ _ _ _ _ _ _ _ _ _ _ _ _ _ _ _ _ _ _ _ _ _ w (by omega) (by omega) src dst base disp s0 s1 b0 b1 hp hg
    · obtain ⟨⟨d0, d1, _⟩, _⟩ := mayX_parts hg
      rcases hw with rfl | rfl | rfl | rfl
      · exact loads_8_ok _ _ _ _ _ _ _ _ _ _ _ _ _ _ _ _ _ _ _ _ _ _ src dst base disp d0 d1 s0 s1 b0 b1 hp hg
      · exact loads_16_ok _ _ _ _ _ _ _ _ _ _ _ _ _ _ _ _ _ _ _ _ _ _ src dst base disp d0 d1 s0 s1 b0 b1 hp hg
      · exact loads_32_ok _ _ _ _ _ _ _ _ _ _ _ _ _ _ _ _ _ _ _ _ _ _ src dst base disp d0 d1 s0 s1 b0 b1 hp hg
      · exact loads_64_ok _ _ _ _ _ _ _ _ _ _ _ _ _ _ _ _ _ _ _ _ _ _ src dst base disp d0 d1 s0 s1 b0 b1 hp hg
end
end Go.Proofs.Ytkannibhndjgeaa
