/- ExecApart, whatever the instruction and the machine. -/
import Derived.Test.YtkannibhndjgeaaE7
import Derived.Test.YtkannibhndjgeaaE1a
import Derived.Test.YtkannibhndjgeaaE1b
import Derived.Test.YtkannibhndjgeaaE1c
import Derived.Test.YtkannibhndjgeaaE1d
import Derived.Test.YtkannibhndjgeaaE1e
import Derived.Test.YtkannibhndjgeaaE1f
namespace Go.Proofs.Ytkannibhndjgeaa
open Go Go.Ev
set_option linter.unusedVariables false
set_option linter.unusedSimpArgs false
set_option maxRecDepth 100000

theorem apx_0 (q0 q1 q2 q3 q4 q5 q6 q7 q8 q9 q10 q11 q12 q13 q14 q15 at' : Int) (fk fc fz fs fo : Bool) (w dst src base disp imm cc ld other v : Int) (hm : mayX 0 w dst src base disp imm cc = true) : ApLaw q0 q1 q2 q3 q4 q5 q6 q7 q8 q9 q10 q11 q12 q13 q14 q15 at' fk fc fz fs fo 0 w dst src base disp imm cc ld other v := by
  obtain ⟨⟨d0, d1, s0, s1, b0, b1, _⟩, hs⟩ := mayX_parts hm
  rw [show shapeM 0 = 1 from rfl] at hs
  refine ap_dst q0 q1 q2 q3 q4 q5 q6 q7 q8 q9 q10 q11 q12 q13 q14 q15 at' fk fc fz fs fo 0 w dst src base disp imm cc ld other v _ _ _ _ _ _ _ (by decide) d0 d1 (by rw [writes_may hm]; rfl) (exec_0_ok q0 q1 q2 q3 q4 q5 q6 q7 q8 q9 q10 q11 q12 q13 q14 q15 at' fk fc fz fs fo w dst src base disp imm cc ld d0 d1 s0 s1 b0 b1 hm) (fun _ _ _ => beq_self_eq_true _) fun o0 o1 hr => ?_
  · have h2 := exec_0_ok (st 0 other v q0) (st 1 other v q1) (st 2 other v q2) (st 3 other v q3) (st 4 other v q4) (st 5 other v q5) (st 6 other v q6) (st 7 other v q7) (st 8 other v q8) (st 9 other v q9) (st 10 other v q10) (st 11 other v q11) (st 12 other v q12) (st 13 other v q13) (st 14 other v q14) (st 15 other v q15) at' fk fc fz fs fo w dst src base disp imm cc ld d0 d1 s0 s1 b0 b1 hm
    have hr2 : (bitOf (sh8 src) other == 1) = false := by rw [reads_may hm] at hr; exact hr
    have n2 := bit_sh1 s0 s1 o0 o1 hr2
    rw [e_rg o0 o1 s0 n2] at h2
    exact h2
theorem apx_1 (q0 q1 q2 q3 q4 q5 q6 q7 q8 q9 q10 q11 q12 q13 q14 q15 at' : Int) (fk fc fz fs fo : Bool) (w dst src base disp imm cc ld other v : Int) (hm : mayX 1 w dst src base disp imm cc = true) : ApLaw q0 q1 q2 q3 q4 q5 q6 q7 q8 q9 q10 q11 q12 q13 q14 q15 at' fk fc fz fs fo 1 w dst src base disp imm cc ld other v := by
  obtain ⟨⟨d0, d1, s0, s1, b0, b1, _⟩, hs⟩ := mayX_parts hm
  rw [show shapeM 1 = 3 from rfl] at hs
  refine ap_dst q0 q1 q2 q3 q4 q5 q6 q7 q8 q9 q10 q11 q12 q13 q14 q15 at' fk fc fz fs fo 1 w dst src base disp imm cc ld other v _ _ _ _ _ _ _ (by decide) d0 d1 (by rw [writes_may hm]; rfl) (exec_1_ok q0 q1 q2 q3 q4 q5 q6 q7 q8 q9 q10 q11 q12 q13 q14 q15 at' fk fc fz fs fo w dst src base disp imm cc ld d0 d1 s0 s1 b0 b1 hm) (fun _ _ _ => beq_self_eq_true _) fun o0 o1 hr => ?_
  · have h2 := exec_1_ok (st 0 other v q0) (st 1 other v q1) (st 2 other v q2) (st 3 other v q3) (st 4 other v q4) (st 5 other v q5) (st 6 other v q6) (st 7 other v q7) (st 8 other v q8) (st 9 other v q9) (st 10 other v q10) (st 11 other v q11) (st 12 other v q12) (st 13 other v q13) (st 14 other v q14) (st 15 other v q15) at' fk fc fz fs fo w dst src base disp imm cc ld d0 d1 s0 s1 b0 b1 hm
    exact h2
theorem apx_2 (q0 q1 q2 q3 q4 q5 q6 q7 q8 q9 q10 q11 q12 q13 q14 q15 at' : Int) (fk fc fz fs fo : Bool) (w dst src base disp imm cc ld other v : Int) (hm : mayX 2 w dst src base disp imm cc = true) : ApLaw q0 q1 q2 q3 q4 q5 q6 q7 q8 q9 q10 q11 q12 q13 q14 q15 at' fk fc fz fs fo 2 w dst src base disp imm cc ld other v := by
  obtain ⟨⟨d0, d1, s0, s1, b0, b1, _⟩, hs⟩ := mayX_parts hm
  rw [show shapeM 2 = 1 from rfl] at hs
  have hl := may_long hs (by decide)
  refine ap_dst q0 q1 q2 q3 q4 q5 q6 q7 q8 q9 q10 q11 q12 q13 q14 q15 at' fk fc fz fs fo 2 w dst src base disp imm cc ld other v _ _ _ _ _ _ _ (by decide) d0 d1 (by rw [writes_may hm]; rfl) (exec_2_ok q0 q1 q2 q3 q4 q5 q6 q7 q8 q9 q10 q11 q12 q13 q14 q15 at' fk fc fz fs fo w dst src base disp imm cc ld d0 d1 s0 s1 b0 b1 hm hl) (fun _ _ _ => beq_self_eq_true _) fun o0 o1 hr => ?_
  · have h2 := exec_2_ok (st 0 other v q0) (st 1 other v q1) (st 2 other v q2) (st 3 other v q3) (st 4 other v q4) (st 5 other v q5) (st 6 other v q6) (st 7 other v q7) (st 8 other v q8) (st 9 other v q9) (st 10 other v q10) (st 11 other v q11) (st 12 other v q12) (st 13 other v q13) (st 14 other v q14) (st 15 other v q15) at' fk fc fz fs fo w dst src base disp imm cc ld d0 d1 s0 s1 b0 b1 hm hl
    have hr2 : (bitOf (or64 (sh8 dst) (sh8 src)) other == 1) = false := by rw [reads_may hm] at hr; exact hr
    obtain ⟨n1, n2⟩ := bit_or1 d0 d1 s0 s1 o0 o1 hr2
    simp only [e_rg o0 o1 d0 n1, e_rg o0 o1 s0 n2] at h2
    exact h2
theorem apx_3 (q0 q1 q2 q3 q4 q5 q6 q7 q8 q9 q10 q11 q12 q13 q14 q15 at' : Int) (fk fc fz fs fo : Bool) (w dst src base disp imm cc ld other v : Int) (hm : mayX 3 w dst src base disp imm cc = true) : ApLaw q0 q1 q2 q3 q4 q5 q6 q7 q8 q9 q10 q11 q12 q13 q14 q15 at' fk fc fz fs fo 3 w dst src base disp imm cc ld other v := by
  obtain ⟨⟨d0, d1, s0, s1, b0, b1, _⟩, hs⟩ := mayX_parts hm
  rw [show shapeM 3 = 1 from rfl] at hs
  have hl := may_long hs (by decide)
  refine ap_dst q0 q1 q2 q3 q4 q5 q6 q7 q8 q9 q10 q11 q12 q13 q14 q15 at' fk fc fz fs fo 3 w dst src base disp imm cc ld other v _ _ _ _ _ _ _ (by decide) d0 d1 (by rw [writes_may hm]; rfl) (exec_3_ok q0 q1 q2 q3 q4 q5 q6 q7 q8 q9 q10 q11 q12 q13 q14 q15 at' fk fc fz fs fo w dst src base disp imm cc ld d0 d1 s0 s1 b0 b1 hm hl) (fun _ _ _ => beq_self_eq_true _) fun o0 o1 hr => ?_
  · have h2 := exec_3_ok (st 0 other v q0) (st 1 other v q1) (st 2 other v q2) (st 3 other v q3) (st 4 other v q4) (st 5 other v q5) (st 6 other v q6) (st 7 other v q7) (st 8 other v q8) (st 9 other v q9) (st 10 other v q10) (st 11 other v q11) (st 12 other v q12) (st 13 other v q13) (st 14 other v q14) (st 15 other v q15) at' fk fc fz fs fo w dst src base disp imm cc ld d0 d1 s0 s1 b0 b1 hm hl
    have hr2 : (bitOf (or64 (sh8 dst) (sh8 src)) other == 1) = false := by rw [reads_may hm] at hr; exact hr
    obtain ⟨n1, n2⟩ := bit_or1 d0 d1 s0 s1 o0 o1 hr2
    simp only [e_rg o0 o1 d0 n1, e_rg o0 o1 s0 n2] at h2
    exact h2
theorem apx_4 (q0 q1 q2 q3 q4 q5 q6 q7 q8 q9 q10 q11 q12 q13 q14 q15 at' : Int) (fk fc fz fs fo : Bool) (w dst src base disp imm cc ld other v : Int) (hm : mayX 4 w dst src base disp imm cc = true) : ApLaw q0 q1 q2 q3 q4 q5 q6 q7 q8 q9 q10 q11 q12 q13 q14 q15 at' fk fc fz fs fo 4 w dst src base disp imm cc ld other v := by
  obtain ⟨⟨d0, d1, s0, s1, b0, b1, _⟩, hs⟩ := mayX_parts hm
  rw [show shapeM 4 = 1 from rfl] at hs
  have hl := may_long hs (by decide)
  refine ap_dst q0 q1 q2 q3 q4 q5 q6 q7 q8 q9 q10 q11 q12 q13 q14 q15 at' fk fc fz fs fo 4 w dst src base disp imm cc ld other v _ _ _ _ _ _ _ (by decide) d0 d1 (by rw [writes_may hm]; rfl) (exec_4_ok q0 q1 q2 q3 q4 q5 q6 q7 q8 q9 q10 q11 q12 q13 q14 q15 at' fk fc fz fs fo w dst src base disp imm cc ld d0 d1 s0 s1 b0 b1 hm hl) (fun _ _ _ => beq_self_eq_true _) fun o0 o1 hr => ?_
  · have h2 := exec_4_ok (st 0 other v q0) (st 1 other v q1) (st 2 other v q2) (st 3 other v q3) (st 4 other v q4) (st 5 other v q5) (st 6 other v q6) (st 7 other v q7) (st 8 other v q8) (st 9 other v q9) (st 10 other v q10) (st 11 other v q11) (st 12 other v q12) (st 13 other v q13) (st 14 other v q14) (st 15 other v q15) at' fk fc fz fs fo w dst src base disp imm cc ld d0 d1 s0 s1 b0 b1 hm hl
    have hr2 : (bitOf (or64 (sh8 dst) (sh8 src)) other == 1) = false := by rw [reads_may hm] at hr; exact hr
    obtain ⟨n1, n2⟩ := bit_or1 d0 d1 s0 s1 o0 o1 hr2
    simp only [e_rg o0 o1 d0 n1, e_rg o0 o1 s0 n2] at h2
    exact h2
theorem apx_5 (q0 q1 q2 q3 q4 q5 q6 q7 q8 q9 q10 q11 q12 q13 q14 q15 at' : Int) (fk fc fz fs fo : Bool) (w dst src base disp imm cc ld other v : Int) (hm : mayX 5 w dst src base disp imm cc = true) : ApLaw q0 q1 q2 q3 q4 q5 q6 q7 q8 q9 q10 q11 q12 q13 q14 q15 at' fk fc fz fs fo 5 w dst src base disp imm cc ld other v := by
  obtain ⟨⟨d0, d1, s0, s1, b0, b1, _⟩, hs⟩ := mayX_parts hm
  rw [show shapeM 5 = 1 from rfl] at hs
  have hl := may_long hs (by decide)
  refine ap_dst q0 q1 q2 q3 q4 q5 q6 q7 q8 q9 q10 q11 q12 q13 q14 q15 at' fk fc fz fs fo 5 w dst src base disp imm cc ld other v _ _ _ _ _ _ _ (by decide) d0 d1 (by rw [writes_may hm]; rfl) (exec_5_ok q0 q1 q2 q3 q4 q5 q6 q7 q8 q9 q10 q11 q12 q13 q14 q15 at' fk fc fz fs fo w dst src base disp imm cc ld d0 d1 s0 s1 b0 b1 hm hl) (fun _ _ _ => beq_self_eq_true _) fun o0 o1 hr => ?_
  · have h2 := exec_5_ok (st 0 other v q0) (st 1 other v q1) (st 2 other v q2) (st 3 other v q3) (st 4 other v q4) (st 5 other v q5) (st 6 other v q6) (st 7 other v q7) (st 8 other v q8) (st 9 other v q9) (st 10 other v q10) (st 11 other v q11) (st 12 other v q12) (st 13 other v q13) (st 14 other v q14) (st 15 other v q15) at' fk fc fz fs fo w dst src base disp imm cc ld d0 d1 s0 s1 b0 b1 hm hl
    have hr2 : (bitOf (or64 (sh8 dst) (sh8 src)) other == 1) = false := by rw [reads_may hm] at hr; exact hr
    obtain ⟨n1, n2⟩ := bit_or1 d0 d1 s0 s1 o0 o1 hr2
    simp only [e_rg o0 o1 d0 n1, e_rg o0 o1 s0 n2] at h2
    exact h2
theorem apx_6 (q0 q1 q2 q3 q4 q5 q6 q7 q8 q9 q10 q11 q12 q13 q14 q15 at' : Int) (fk fc fz fs fo : Bool) (w dst src base disp imm cc ld other v : Int) (hm : mayX 6 w dst src base disp imm cc = true) : ApLaw q0 q1 q2 q3 q4 q5 q6 q7 q8 q9 q10 q11 q12 q13 q14 q15 at' fk fc fz fs fo 6 w dst src base disp imm cc ld other v := by
  obtain ⟨⟨d0, d1, s0, s1, b0, b1, _⟩, hs⟩ := mayX_parts hm
  rw [show shapeM 6 = 1 from rfl] at hs
  have hl := may_long hs (by decide)
  refine ap_dst q0 q1 q2 q3 q4 q5 q6 q7 q8 q9 q10 q11 q12 q13 q14 q15 at' fk fc fz fs fo 6 w dst src base disp imm cc ld other v _ _ _ _ _ _ _ (by decide) d0 d1 (by rw [writes_may hm]; rfl) (exec_6_ok q0 q1 q2 q3 q4 q5 q6 q7 q8 q9 q10 q11 q12 q13 q14 q15 at' fk fc fz fs fo w dst src base disp imm cc ld d0 d1 s0 s1 b0 b1 hm hl) (fun _ _ _ => beq_self_eq_true _) fun o0 o1 hr => ?_
  · have h2 := exec_6_ok (st 0 other v q0) (st 1 other v q1) (st 2 other v q2) (st 3 other v q3) (st 4 other v q4) (st 5 other v q5) (st 6 other v q6) (st 7 other v q7) (st 8 other v q8) (st 9 other v q9) (st 10 other v q10) (st 11 other v q11) (st 12 other v q12) (st 13 other v q13) (st 14 other v q14) (st 15 other v q15) at' fk fc fz fs fo w dst src base disp imm cc ld d0 d1 s0 s1 b0 b1 hm hl
    have hr2 : (bitOf (or64 (sh8 dst) (sh8 src)) other == 1) = false := by rw [reads_may hm] at hr; exact hr
    obtain ⟨n1, n2⟩ := bit_or1 d0 d1 s0 s1 o0 o1 hr2
    simp only [e_rg o0 o1 d0 n1, e_rg o0 o1 s0 n2] at h2
    exact h2
theorem apx_7 (q0 q1 q2 q3 q4 q5 q6 q7 q8 q9 q10 q11 q12 q13 q14 q15 at' : Int) (fk fc fz fs fo : Bool) (w dst src base disp imm cc ld other v : Int) (hm : mayX 7 w dst src base disp imm cc = true) : ApLaw q0 q1 q2 q3 q4 q5 q6 q7 q8 q9 q10 q11 q12 q13 q14 q15 at' fk fc fz fs fo 7 w dst src base disp imm cc ld other v := by
  obtain ⟨⟨d0, d1, s0, s1, b0, b1, _⟩, hs⟩ := mayX_parts hm
  rw [show shapeM 7 = 1 from rfl] at hs
  have hl := may_long hs (by decide)
  refine ap_none q0 q1 q2 q3 q4 q5 q6 q7 q8 q9 q10 q11 q12 q13 q14 q15 at' fk fc fz fs fo 7 w dst src base disp imm cc ld other v _ _ _ _ _ _ (by decide) (exec_7_ok q0 q1 q2 q3 q4 q5 q6 q7 q8 q9 q10 q11 q12 q13 q14 q15 at' fk fc fz fs fo w dst src base disp imm cc ld d0 d1 s0 s1 b0 b1 hm hl) (fun _ _ _ => beq_self_eq_true _) fun o0 o1 hr => ?_
  · have h2 := exec_7_ok (st 0 other v q0) (st 1 other v q1) (st 2 other v q2) (st 3 other v q3) (st 4 other v q4) (st 5 other v q5) (st 6 other v q6) (st 7 other v q7) (st 8 other v q8) (st 9 other v q9) (st 10 other v q10) (st 11 other v q11) (st 12 other v q12) (st 13 other v q13) (st 14 other v q14) (st 15 other v q15) at' fk fc fz fs fo w dst src base disp imm cc ld d0 d1 s0 s1 b0 b1 hm hl
    have hr2 : (bitOf (or64 (sh8 dst) (sh8 src)) other == 1) = false := by rw [reads_may hm] at hr; exact hr
    obtain ⟨n1, n2⟩ := bit_or1 d0 d1 s0 s1 o0 o1 hr2
    simp only [e_rg o0 o1 d0 n1, e_rg o0 o1 s0 n2] at h2
    exact h2
theorem apx_8 (q0 q1 q2 q3 q4 q5 q6 q7 q8 q9 q10 q11 q12 q13 q14 q15 at' : Int) (fk fc fz fs fo : Bool) (w dst src base disp imm cc ld other v : Int) (hm : mayX 8 w dst src base disp imm cc = true) : ApLaw q0 q1 q2 q3 q4 q5 q6 q7 q8 q9 q10 q11 q12 q13 q14 q15 at' fk fc fz fs fo 8 w dst src base disp imm cc ld other v := by
  obtain ⟨⟨d0, d1, s0, s1, b0, b1, _⟩, hs⟩ := mayX_parts hm
  rw [show shapeM 8 = 1 from rfl] at hs
  have hl := may_long hs (by decide)
  refine ap_none q0 q1 q2 q3 q4 q5 q6 q7 q8 q9 q10 q11 q12 q13 q14 q15 at' fk fc fz fs fo 8 w dst src base disp imm cc ld other v _ _ _ _ _ _ (by decide) (exec_8_ok q0 q1 q2 q3 q4 q5 q6 q7 q8 q9 q10 q11 q12 q13 q14 q15 at' fk fc fz fs fo w dst src base disp imm cc ld d0 d1 s0 s1 b0 b1 hm hl) (fun _ _ _ => beq_self_eq_true _) fun o0 o1 hr => ?_
  · have h2 := exec_8_ok (st 0 other v q0) (st 1 other v q1) (st 2 other v q2) (st 3 other v q3) (st 4 other v q4) (st 5 other v q5) (st 6 other v q6) (st 7 other v q7) (st 8 other v q8) (st 9 other v q9) (st 10 other v q10) (st 11 other v q11) (st 12 other v q12) (st 13 other v q13) (st 14 other v q14) (st 15 other v q15) at' fk fc fz fs fo w dst src base disp imm cc ld d0 d1 s0 s1 b0 b1 hm hl
    have hr2 : (bitOf (or64 (sh8 dst) (sh8 src)) other == 1) = false := by rw [reads_may hm] at hr; exact hr
    obtain ⟨n1, n2⟩ := bit_or1 d0 d1 s0 s1 o0 o1 hr2
    simp only [e_rg o0 o1 d0 n1, e_rg o0 o1 s0 n2] at h2
    exact h2
theorem apx_9 (q0 q1 q2 q3 q4 q5 q6 q7 q8 q9 q10 q11 q12 q13 q14 q15 at' : Int) (fk fc fz fs fo : Bool) (w dst src base disp imm cc ld other v : Int) (hm : mayX 9 w dst src base disp imm cc = true) : ApLaw q0 q1 q2 q3 q4 q5 q6 q7 q8 q9 q10 q11 q12 q13 q14 q15 at' fk fc fz fs fo 9 w dst src base disp imm cc ld other v := by
  obtain ⟨⟨d0, d1, s0, s1, b0, b1, _⟩, hs⟩ := mayX_parts hm
  rw [show shapeM 9 = 3 from rfl] at hs
  have hl := may_long hs (by decide)
  refine ap_dst q0 q1 q2 q3 q4 q5 q6 q7 q8 q9 q10 q11 q12 q13 q14 q15 at' fk fc fz fs fo 9 w dst src base disp imm cc ld other v _ _ _ _ _ _ _ (by decide) d0 d1 (by rw [writes_may hm]; rfl) (exec_9_ok q0 q1 q2 q3 q4 q5 q6 q7 q8 q9 q10 q11 q12 q13 q14 q15 at' fk fc fz fs fo w dst src base disp imm cc ld d0 d1 s0 s1 b0 b1 hm hl) (fun _ _ _ => beq_self_eq_true _) fun o0 o1 hr => ?_
  · have h2 := exec_9_ok (st 0 other v q0) (st 1 other v q1) (st 2 other v q2) (st 3 other v q3) (st 4 other v q4) (st 5 other v q5) (st 6 other v q6) (st 7 other v q7) (st 8 other v q8) (st 9 other v q9) (st 10 other v q10) (st 11 other v q11) (st 12 other v q12) (st 13 other v q13) (st 14 other v q14) (st 15 other v q15) at' fk fc fz fs fo w dst src base disp imm cc ld d0 d1 s0 s1 b0 b1 hm hl
    have hr2 : (bitOf (sh8 dst) other == 1) = false := by rw [reads_may hm] at hr; exact hr
    have n1 := bit_sh1 d0 d1 o0 o1 hr2
    rw [e_rg o0 o1 d0 n1] at h2
    exact h2
theorem apx_10 (q0 q1 q2 q3 q4 q5 q6 q7 q8 q9 q10 q11 q12 q13 q14 q15 at' : Int) (fk fc fz fs fo : Bool) (w dst src base disp imm cc ld other v : Int) (hm : mayX 10 w dst src base disp imm cc = true) : ApLaw q0 q1 q2 q3 q4 q5 q6 q7 q8 q9 q10 q11 q12 q13 q14 q15 at' fk fc fz fs fo 10 w dst src base disp imm cc ld other v := by
  obtain ⟨⟨d0, d1, s0, s1, b0, b1, _⟩, hs⟩ := mayX_parts hm
  rw [show shapeM 10 = 3 from rfl] at hs
  have hl := may_long hs (by decide)
  refine ap_dst q0 q1 q2 q3 q4 q5 q6 q7 q8 q9 q10 q11 q12 q13 q14 q15 at' fk fc fz fs fo 10 w dst src base disp imm cc ld other v _ _ _ _ _ _ _ (by decide) d0 d1 (by rw [writes_may hm]; rfl) (exec_10_ok q0 q1 q2 q3 q4 q5 q6 q7 q8 q9 q10 q11 q12 q13 q14 q15 at' fk fc fz fs fo w dst src base disp imm cc ld d0 d1 s0 s1 b0 b1 hm hl) (fun _ _ _ => beq_self_eq_true _) fun o0 o1 hr => ?_
  · have h2 := exec_10_ok (st 0 other v q0) (st 1 other v q1) (st 2 other v q2) (st 3 other v q3) (st 4 other v q4) (st 5 other v q5) (st 6 other v q6) (st 7 other v q7) (st 8 other v q8) (st 9 other v q9) (st 10 other v q10) (st 11 other v q11) (st 12 other v q12) (st 13 other v q13) (st 14 other v q14) (st 15 other v q15) at' fk fc fz fs fo w dst src base disp imm cc ld d0 d1 s0 s1 b0 b1 hm hl
    have hr2 : (bitOf (sh8 dst) other == 1) = false := by rw [reads_may hm] at hr; exact hr
    have n1 := bit_sh1 d0 d1 o0 o1 hr2
    rw [e_rg o0 o1 d0 n1] at h2
    exact h2
theorem apx_11 (q0 q1 q2 q3 q4 q5 q6 q7 q8 q9 q10 q11 q12 q13 q14 q15 at' : Int) (fk fc fz fs fo : Bool) (w dst src base disp imm cc ld other v : Int) (hm : mayX 11 w dst src base disp imm cc = true) : ApLaw q0 q1 q2 q3 q4 q5 q6 q7 q8 q9 q10 q11 q12 q13 q14 q15 at' fk fc fz fs fo 11 w dst src base disp imm cc ld other v := by
  obtain ⟨⟨d0, d1, s0, s1, b0, b1, _⟩, hs⟩ := mayX_parts hm
  rw [show shapeM 11 = 3 from rfl] at hs
  have hl := may_long hs (by decide)
  refine ap_dst q0 q1 q2 q3 q4 q5 q6 q7 q8 q9 q10 q11 q12 q13 q14 q15 at' fk fc fz fs fo 11 w dst src base disp imm cc ld other v _ _ _ _ _ _ _ (by decide) d0 d1 (by rw [writes_may hm]; rfl) (exec_11_ok q0 q1 q2 q3 q4 q5 q6 q7 q8 q9 q10 q11 q12 q13 q14 q15 at' fk fc fz fs fo w dst src base disp imm cc ld d0 d1 s0 s1 b0 b1 hm hl) (fun _ _ _ => beq_self_eq_true _) fun o0 o1 hr => ?_
  · have h2 := exec_11_ok (st 0 other v q0) (st 1 other v q1) (st 2 other v q2) (st 3 other v q3) (st 4 other v q4) (st 5 other v q5) (st 6 other v q6) (st 7 other v q7) (st 8 other v q8) (st 9 other v q9) (st 10 other v q10) (st 11 other v q11) (st 12 other v q12) (st 13 other v q13) (st 14 other v q14) (st 15 other v q15) at' fk fc fz fs fo w dst src base disp imm cc ld d0 d1 s0 s1 b0 b1 hm hl
    have hr2 : (bitOf (sh8 dst) other == 1) = false := by rw [reads_may hm] at hr; exact hr
    have n1 := bit_sh1 d0 d1 o0 o1 hr2
    rw [e_rg o0 o1 d0 n1] at h2
    exact h2
theorem apx_12 (q0 q1 q2 q3 q4 q5 q6 q7 q8 q9 q10 q11 q12 q13 q14 q15 at' : Int) (fk fc fz fs fo : Bool) (w dst src base disp imm cc ld other v : Int) (hm : mayX 12 w dst src base disp imm cc = true) : ApLaw q0 q1 q2 q3 q4 q5 q6 q7 q8 q9 q10 q11 q12 q13 q14 q15 at' fk fc fz fs fo 12 w dst src base disp imm cc ld other v := by
  obtain ⟨⟨d0, d1, s0, s1, b0, b1, _⟩, hs⟩ := mayX_parts hm
  rw [show shapeM 12 = 3 from rfl] at hs
  have hl := may_long hs (by decide)
  refine ap_dst q0 q1 q2 q3 q4 q5 q6 q7 q8 q9 q10 q11 q12 q13 q14 q15 at' fk fc fz fs fo 12 w dst src base disp imm cc ld other v _ _ _ _ _ _ _ (by decide) d0 d1 (by rw [writes_may hm]; rfl) (exec_12_ok q0 q1 q2 q3 q4 q5 q6 q7 q8 q9 q10 q11 q12 q13 q14 q15 at' fk fc fz fs fo w dst src base disp imm cc ld d0 d1 s0 s1 b0 b1 hm hl) (fun _ _ _ => beq_self_eq_true _) fun o0 o1 hr => ?_
  · have h2 := exec_12_ok (st 0 other v q0) (st 1 other v q1) (st 2 other v q2) (st 3 other v q3) (st 4 other v q4) (st 5 other v q5) (st 6 other v q6) (st 7 other v q7) (st 8 other v q8) (st 9 other v q9) (st 10 other v q10) (st 11 other v q11) (st 12 other v q12) (st 13 other v q13) (st 14 other v q14) (st 15 other v q15) at' fk fc fz fs fo w dst src base disp imm cc ld d0 d1 s0 s1 b0 b1 hm hl
    have hr2 : (bitOf (sh8 dst) other == 1) = false := by rw [reads_may hm] at hr; exact hr
    have n1 := bit_sh1 d0 d1 o0 o1 hr2
    rw [e_rg o0 o1 d0 n1] at h2
    exact h2
theorem apx_13 (q0 q1 q2 q3 q4 q5 q6 q7 q8 q9 q10 q11 q12 q13 q14 q15 at' : Int) (fk fc fz fs fo : Bool) (w dst src base disp imm cc ld other v : Int) (hm : mayX 13 w dst src base disp imm cc = true) : ApLaw q0 q1 q2 q3 q4 q5 q6 q7 q8 q9 q10 q11 q12 q13 q14 q15 at' fk fc fz fs fo 13 w dst src base disp imm cc ld other v := by
  obtain ⟨⟨d0, d1, s0, s1, b0, b1, _⟩, hs⟩ := mayX_parts hm
  rw [show shapeM 13 = 3 from rfl] at hs
  have hl := may_long hs (by decide)
  refine ap_dst q0 q1 q2 q3 q4 q5 q6 q7 q8 q9 q10 q11 q12 q13 q14 q15 at' fk fc fz fs fo 13 w dst src base disp imm cc ld other v _ _ _ _ _ _ _ (by decide) d0 d1 (by rw [writes_may hm]; rfl) (exec_13_ok q0 q1 q2 q3 q4 q5 q6 q7 q8 q9 q10 q11 q12 q13 q14 q15 at' fk fc fz fs fo w dst src base disp imm cc ld d0 d1 s0 s1 b0 b1 hm hl) (fun _ _ _ => beq_self_eq_true _) fun o0 o1 hr => ?_
  · have h2 := exec_13_ok (st 0 other v q0) (st 1 other v q1) (st 2 other v q2) (st 3 other v q3) (st 4 other v q4) (st 5 other v q5) (st 6 other v q6) (st 7 other v q7) (st 8 other v q8) (st 9 other v q9) (st 10 other v q10) (st 11 other v q11) (st 12 other v q12) (st 13 other v q13) (st 14 other v q14) (st 15 other v q15) at' fk fc fz fs fo w dst src base disp imm cc ld d0 d1 s0 s1 b0 b1 hm hl
    have hr2 : (bitOf (sh8 dst) other == 1) = false := by rw [reads_may hm] at hr; exact hr
    have n1 := bit_sh1 d0 d1 o0 o1 hr2
    rw [e_rg o0 o1 d0 n1] at h2
    exact h2
theorem apx_14 (q0 q1 q2 q3 q4 q5 q6 q7 q8 q9 q10 q11 q12 q13 q14 q15 at' : Int) (fk fc fz fs fo : Bool) (w dst src base disp imm cc ld other v : Int) (hm : mayX 14 w dst src base disp imm cc = true) : ApLaw q0 q1 q2 q3 q4 q5 q6 q7 q8 q9 q10 q11 q12 q13 q14 q15 at' fk fc fz fs fo 14 w dst src base disp imm cc ld other v := by
  obtain ⟨⟨d0, d1, s0, s1, b0, b1, _⟩, hs⟩ := mayX_parts hm
  rw [show shapeM 14 = 3 from rfl] at hs
  have hl := may_long hs (by decide)
  refine ap_none q0 q1 q2 q3 q4 q5 q6 q7 q8 q9 q10 q11 q12 q13 q14 q15 at' fk fc fz fs fo 14 w dst src base disp imm cc ld other v _ _ _ _ _ _ (by decide) (exec_14_ok q0 q1 q2 q3 q4 q5 q6 q7 q8 q9 q10 q11 q12 q13 q14 q15 at' fk fc fz fs fo w dst src base disp imm cc ld d0 d1 s0 s1 b0 b1 hm hl) (fun _ _ _ => beq_self_eq_true _) fun o0 o1 hr => ?_
  · have h2 := exec_14_ok (st 0 other v q0) (st 1 other v q1) (st 2 other v q2) (st 3 other v q3) (st 4 other v q4) (st 5 other v q5) (st 6 other v q6) (st 7 other v q7) (st 8 other v q8) (st 9 other v q9) (st 10 other v q10) (st 11 other v q11) (st 12 other v q12) (st 13 other v q13) (st 14 other v q14) (st 15 other v q15) at' fk fc fz fs fo w dst src base disp imm cc ld d0 d1 s0 s1 b0 b1 hm hl
    have hr2 : (bitOf (sh8 dst) other == 1) = false := by rw [reads_may hm] at hr; exact hr
    have n1 := bit_sh1 d0 d1 o0 o1 hr2
    rw [e_rg o0 o1 d0 n1] at h2
    exact h2
theorem apx_15 (q0 q1 q2 q3 q4 q5 q6 q7 q8 q9 q10 q11 q12 q13 q14 q15 at' : Int) (fk fc fz fs fo : Bool) (w dst src base disp imm cc ld other v : Int) (hm : mayX 15 w dst src base disp imm cc = true) : ApLaw q0 q1 q2 q3 q4 q5 q6 q7 q8 q9 q10 q11 q12 q13 q14 q15 at' fk fc fz fs fo 15 w dst src base disp imm cc ld other v := by
  obtain ⟨⟨d0, d1, s0, s1, b0, b1, _⟩, hs⟩ := mayX_parts hm
  rw [show shapeM 15 = 3 from rfl] at hs
  have hl := may_long hs (by decide)
  refine ap_none q0 q1 q2 q3 q4 q5 q6 q7 q8 q9 q10 q11 q12 q13 q14 q15 at' fk fc fz fs fo 15 w dst src base disp imm cc ld other v _ _ _ _ _ _ (by decide) (exec_15_ok q0 q1 q2 q3 q4 q5 q6 q7 q8 q9 q10 q11 q12 q13 q14 q15 at' fk fc fz fs fo w dst src base disp imm cc ld d0 d1 s0 s1 b0 b1 hm hl) (fun _ _ _ => beq_self_eq_true _) fun o0 o1 hr => ?_
  · have h2 := exec_15_ok (st 0 other v q0) (st 1 other v q1) (st 2 other v q2) (st 3 other v q3) (st 4 other v q4) (st 5 other v q5) (st 6 other v q6) (st 7 other v q7) (st 8 other v q8) (st 9 other v q9) (st 10 other v q10) (st 11 other v q11) (st 12 other v q12) (st 13 other v q13) (st 14 other v q14) (st 15 other v q15) at' fk fc fz fs fo w dst src base disp imm cc ld d0 d1 s0 s1 b0 b1 hm hl
    have hr2 : (bitOf (sh8 dst) other == 1) = false := by rw [reads_may hm] at hr; exact hr
    have n1 := bit_sh1 d0 d1 o0 o1 hr2
    rw [e_rg o0 o1 d0 n1] at h2
    exact h2
theorem apx_16 (q0 q1 q2 q3 q4 q5 q6 q7 q8 q9 q10 q11 q12 q13 q14 q15 at' : Int) (fk fc fz fs fo : Bool) (w dst src base disp imm cc ld other v : Int) (hm : mayX 16 w dst src base disp imm cc = true) : ApLaw q0 q1 q2 q3 q4 q5 q6 q7 q8 q9 q10 q11 q12 q13 q14 q15 at' fk fc fz fs fo 16 w dst src base disp imm cc ld other v := by
  obtain ⟨⟨d0, d1, s0, s1, b0, b1, _⟩, hs⟩ := mayX_parts hm
  rw [show shapeM 16 = 2 from rfl] at hs
  have hl := may_long hs (by decide)
  refine ap_dst q0 q1 q2 q3 q4 q5 q6 q7 q8 q9 q10 q11 q12 q13 q14 q15 at' fk fc fz fs fo 16 w dst src base disp imm cc ld other v _ _ _ _ _ _ _ (by decide) d0 d1 (by rw [writes_may hm]; rfl) (exec_16_ok q0 q1 q2 q3 q4 q5 q6 q7 q8 q9 q10 q11 q12 q13 q14 q15 at' fk fc fz fs fo w dst src base disp imm cc ld d0 d1 s0 s1 b0 b1 hm hl) (fun _ _ _ => beq_self_eq_true _) fun o0 o1 hr => ?_
  · have h2 := exec_16_ok (st 0 other v q0) (st 1 other v q1) (st 2 other v q2) (st 3 other v q3) (st 4 other v q4) (st 5 other v q5) (st 6 other v q6) (st 7 other v q7) (st 8 other v q8) (st 9 other v q9) (st 10 other v q10) (st 11 other v q11) (st 12 other v q12) (st 13 other v q13) (st 14 other v q14) (st 15 other v q15) at' fk fc fz fs fo w dst src base disp imm cc ld d0 d1 s0 s1 b0 b1 hm hl
    have hr2 : (bitOf (or64 (sh8 dst) (sh8 src)) other == 1) = false := by rw [reads_may hm] at hr; exact hr
    obtain ⟨n1, n2⟩ := bit_or1 d0 d1 s0 s1 o0 o1 hr2
    simp only [e_rg o0 o1 d0 n1, e_rg o0 o1 s0 n2] at h2
    exact h2
theorem apx_17 (q0 q1 q2 q3 q4 q5 q6 q7 q8 q9 q10 q11 q12 q13 q14 q15 at' : Int) (fk fc fz fs fo : Bool) (w dst src base disp imm cc ld other v : Int) (hm : mayX 17 w dst src base disp imm cc = true) : ApLaw q0 q1 q2 q3 q4 q5 q6 q7 q8 q9 q10 q11 q12 q13 q14 q15 at' fk fc fz fs fo 17 w dst src base disp imm cc ld other v := by
  obtain ⟨⟨d0, d1, s0, s1, b0, b1, _⟩, hs⟩ := mayX_parts hm
  rw [show shapeM 17 = 4 from rfl] at hs
  have hl := may_long hs (by decide)
  refine ap_dst q0 q1 q2 q3 q4 q5 q6 q7 q8 q9 q10 q11 q12 q13 q14 q15 at' fk fc fz fs fo 17 w dst src base disp imm cc ld other v _ _ _ _ _ _ _ (by decide) d0 d1 (by rw [writes_may hm]; rfl) (exec_17_ok q0 q1 q2 q3 q4 q5 q6 q7 q8 q9 q10 q11 q12 q13 q14 q15 at' fk fc fz fs fo w dst src base disp imm cc ld d0 d1 s0 s1 b0 b1 hm hl) (fun _ _ _ => beq_self_eq_true _) fun o0 o1 hr => ?_
  · have h2 := exec_17_ok (st 0 other v q0) (st 1 other v q1) (st 2 other v q2) (st 3 other v q3) (st 4 other v q4) (st 5 other v q5) (st 6 other v q6) (st 7 other v q7) (st 8 other v q8) (st 9 other v q9) (st 10 other v q10) (st 11 other v q11) (st 12 other v q12) (st 13 other v q13) (st 14 other v q14) (st 15 other v q15) at' fk fc fz fs fo w dst src base disp imm cc ld d0 d1 s0 s1 b0 b1 hm hl
    have hr2 : (bitOf (sh8 dst) other == 1) = false := by rw [reads_may hm] at hr; exact hr
    have n1 := bit_sh1 d0 d1 o0 o1 hr2
    rw [e_rg o0 o1 d0 n1] at h2
    exact h2
theorem apx_18 (q0 q1 q2 q3 q4 q5 q6 q7 q8 q9 q10 q11 q12 q13 q14 q15 at' : Int) (fk fc fz fs fo : Bool) (w dst src base disp imm cc ld other v : Int) (hm : mayX 18 w dst src base disp imm cc = true) : ApLaw q0 q1 q2 q3 q4 q5 q6 q7 q8 q9 q10 q11 q12 q13 q14 q15 at' fk fc fz fs fo 18 w dst src base disp imm cc ld other v := by
  obtain ⟨⟨d0, d1, s0, s1, b0, b1, _⟩, hs⟩ := mayX_parts hm
  rw [show shapeM 18 = 4 from rfl] at hs
  have hl := may_long hs (by decide)
  refine ap_dst q0 q1 q2 q3 q4 q5 q6 q7 q8 q9 q10 q11 q12 q13 q14 q15 at' fk fc fz fs fo 18 w dst src base disp imm cc ld other v _ _ _ _ _ _ _ (by decide) d0 d1 (by rw [writes_may hm]; rfl) (exec_18_ok q0 q1 q2 q3 q4 q5 q6 q7 q8 q9 q10 q11 q12 q13 q14 q15 at' fk fc fz fs fo w dst src base disp imm cc ld d0 d1 s0 s1 b0 b1 hm hl) (fun _ _ _ => beq_self_eq_true _) fun o0 o1 hr => ?_
  · have h2 := exec_18_ok (st 0 other v q0) (st 1 other v q1) (st 2 other v q2) (st 3 other v q3) (st 4 other v q4) (st 5 other v q5) (st 6 other v q6) (st 7 other v q7) (st 8 other v q8) (st 9 other v q9) (st 10 other v q10) (st 11 other v q11) (st 12 other v q12) (st 13 other v q13) (st 14 other v q14) (st 15 other v q15) at' fk fc fz fs fo w dst src base disp imm cc ld d0 d1 s0 s1 b0 b1 hm hl
    have hr2 : (bitOf (sh8 dst) other == 1) = false := by rw [reads_may hm] at hr; exact hr
    have n1 := bit_sh1 d0 d1 o0 o1 hr2
    rw [e_rg o0 o1 d0 n1] at h2
    exact h2
theorem apx_19 (q0 q1 q2 q3 q4 q5 q6 q7 q8 q9 q10 q11 q12 q13 q14 q15 at' : Int) (fk fc fz fs fo : Bool) (w dst src base disp imm cc ld other v : Int) (hm : mayX 19 w dst src base disp imm cc = true) : ApLaw q0 q1 q2 q3 q4 q5 q6 q7 q8 q9 q10 q11 q12 q13 q14 q15 at' fk fc fz fs fo 19 w dst src base disp imm cc ld other v := by
  obtain ⟨⟨d0, d1, s0, s1, b0, b1, _⟩, hs⟩ := mayX_parts hm
  rw [show shapeM 19 = 4 from rfl] at hs
  have hl := may_long hs (by decide)
  refine ap_dst q0 q1 q2 q3 q4 q5 q6 q7 q8 q9 q10 q11 q12 q13 q14 q15 at' fk fc fz fs fo 19 w dst src base disp imm cc ld other v _ _ _ _ _ _ _ (by decide) d0 d1 (by rw [writes_may hm]; rfl) (exec_19_ok q0 q1 q2 q3 q4 q5 q6 q7 q8 q9 q10 q11 q12 q13 q14 q15 at' fk fc fz fs fo w dst src base disp imm cc ld d0 d1 s0 s1 b0 b1 hm hl) (fun _ _ _ => beq_self_eq_true _) fun o0 o1 hr => ?_
  · have h2 := exec_19_ok (st 0 other v q0) (st 1 other v q1) (st 2 other v q2) (st 3 other v q3) (st 4 other v q4) (st 5 other v q5) (st 6 other v q6) (st 7 other v q7) (st 8 other v q8) (st 9 other v q9) (st 10 other v q10) (st 11 other v q11) (st 12 other v q12) (st 13 other v q13) (st 14 other v q14) (st 15 other v q15) at' fk fc fz fs fo w dst src base disp imm cc ld d0 d1 s0 s1 b0 b1 hm hl
    have hr2 : (bitOf (sh8 dst) other == 1) = false := by rw [reads_may hm] at hr; exact hr
    have n1 := bit_sh1 d0 d1 o0 o1 hr2
    rw [e_rg o0 o1 d0 n1] at h2
    exact h2
theorem apx_20 (q0 q1 q2 q3 q4 q5 q6 q7 q8 q9 q10 q11 q12 q13 q14 q15 at' : Int) (fk fc fz fs fo : Bool) (w dst src base disp imm cc ld other v : Int) (hm : mayX 20 w dst src base disp imm cc = true) : ApLaw q0 q1 q2 q3 q4 q5 q6 q7 q8 q9 q10 q11 q12 q13 q14 q15 at' fk fc fz fs fo 20 w dst src base disp imm cc ld other v := by
  obtain ⟨⟨d0, d1, s0, s1, b0, b1, _⟩, hs⟩ := mayX_parts hm
  rw [show shapeM 20 = 5 from rfl] at hs
  have hl := may_long hs (by decide)
  refine ap_dst q0 q1 q2 q3 q4 q5 q6 q7 q8 q9 q10 q11 q12 q13 q14 q15 at' fk fc fz fs fo 20 w dst src base disp imm cc ld other v _ _ _ _ _ _ _ (by decide) d0 d1 (by rw [writes_may hm]; rfl) (exec_20_ok q0 q1 q2 q3 q4 q5 q6 q7 q8 q9 q10 q11 q12 q13 q14 q15 at' fk fc fz fs fo w dst src base disp imm cc ld d0 d1 s0 s1 b0 b1 hm hl) (fun _ _ _ => beq_self_eq_true _) fun o0 o1 hr => ?_
  · have h2 := exec_20_ok (st 0 other v q0) (st 1 other v q1) (st 2 other v q2) (st 3 other v q3) (st 4 other v q4) (st 5 other v q5) (st 6 other v q6) (st 7 other v q7) (st 8 other v q8) (st 9 other v q9) (st 10 other v q10) (st 11 other v q11) (st 12 other v q12) (st 13 other v q13) (st 14 other v q14) (st 15 other v q15) at' fk fc fz fs fo w dst src base disp imm cc ld d0 d1 s0 s1 b0 b1 hm hl
    have hr2 : (bitOf (or64 (sh8 dst) (sh8 1)) other == 1) = false := by rw [reads_may hm] at hr; exact hr
    obtain ⟨n1, n2⟩ := bit_or1 d0 d1 (by decide) (by decide) o0 o1 hr2
    rw [cl_same o0 o1 d0 n1 n2] at h2
    exact h2
theorem apx_21 (q0 q1 q2 q3 q4 q5 q6 q7 q8 q9 q10 q11 q12 q13 q14 q15 at' : Int) (fk fc fz fs fo : Bool) (w dst src base disp imm cc ld other v : Int) (hm : mayX 21 w dst src base disp imm cc = true) : ApLaw q0 q1 q2 q3 q4 q5 q6 q7 q8 q9 q10 q11 q12 q13 q14 q15 at' fk fc fz fs fo 21 w dst src base disp imm cc ld other v := by
  obtain ⟨⟨d0, d1, s0, s1, b0, b1, _⟩, hs⟩ := mayX_parts hm
  rw [show shapeM 21 = 5 from rfl] at hs
  have hl := may_long hs (by decide)
  refine ap_dst q0 q1 q2 q3 q4 q5 q6 q7 q8 q9 q10 q11 q12 q13 q14 q15 at' fk fc fz fs fo 21 w dst src base disp imm cc ld other v _ _ _ _ _ _ _ (by decide) d0 d1 (by rw [writes_may hm]; rfl) (exec_21_ok q0 q1 q2 q3 q4 q5 q6 q7 q8 q9 q10 q11 q12 q13 q14 q15 at' fk fc fz fs fo w dst src base disp imm cc ld d0 d1 s0 s1 b0 b1 hm hl) (fun _ _ _ => beq_self_eq_true _) fun o0 o1 hr => ?_
  · have h2 := exec_21_ok (st 0 other v q0) (st 1 other v q1) (st 2 other v q2) (st 3 other v q3) (st 4 other v q4) (st 5 other v q5) (st 6 other v q6) (st 7 other v q7) (st 8 other v q8) (st 9 other v q9) (st 10 other v q10) (st 11 other v q11) (st 12 other v q12) (st 13 other v q13) (st 14 other v q14) (st 15 other v q15) at' fk fc fz fs fo w dst src base disp imm cc ld d0 d1 s0 s1 b0 b1 hm hl
    have hr2 : (bitOf (or64 (sh8 dst) (sh8 1)) other == 1) = false := by rw [reads_may hm] at hr; exact hr
    obtain ⟨n1, n2⟩ := bit_or1 d0 d1 (by decide) (by decide) o0 o1 hr2
    rw [cl_same o0 o1 d0 n1 n2] at h2
    exact h2
theorem apx_22 (q0 q1 q2 q3 q4 q5 q6 q7 q8 q9 q10 q11 q12 q13 q14 q15 at' : Int) (fk fc fz fs fo : Bool) (w dst src base disp imm cc ld other v : Int) (hm : mayX 22 w dst src base disp imm cc = true) : ApLaw q0 q1 q2 q3 q4 q5 q6 q7 q8 q9 q10 q11 q12 q13 q14 q15 at' fk fc fz fs fo 22 w dst src base disp imm cc ld other v := by
  obtain ⟨⟨d0, d1, s0, s1, b0, b1, _⟩, hs⟩ := mayX_parts hm
  rw [show shapeM 22 = 5 from rfl] at hs
  have hl := may_long hs (by decide)
  refine ap_dst q0 q1 q2 q3 q4 q5 q6 q7 q8 q9 q10 q11 q12 q13 q14 q15 at' fk fc fz fs fo 22 w dst src base disp imm cc ld other v _ _ _ _ _ _ _ (by decide) d0 d1 (by rw [writes_may hm]; rfl) (exec_22_ok q0 q1 q2 q3 q4 q5 q6 q7 q8 q9 q10 q11 q12 q13 q14 q15 at' fk fc fz fs fo w dst src base disp imm cc ld d0 d1 s0 s1 b0 b1 hm hl) (fun _ _ _ => beq_self_eq_true _) fun o0 o1 hr => ?_
  · have h2 := exec_22_ok (st 0 other v q0) (st 1 other v q1) (st 2 other v q2) (st 3 other v q3) (st 4 other v q4) (st 5 other v q5) (st 6 other v q6) (st 7 other v q7) (st 8 other v q8) (st 9 other v q9) (st 10 other v q10) (st 11 other v q11) (st 12 other v q12) (st 13 other v q13) (st 14 other v q14) (st 15 other v q15) at' fk fc fz fs fo w dst src base disp imm cc ld d0 d1 s0 s1 b0 b1 hm hl
    have hr2 : (bitOf (or64 (sh8 dst) (sh8 1)) other == 1) = false := by rw [reads_may hm] at hr; exact hr
    obtain ⟨n1, n2⟩ := bit_or1 d0 d1 (by decide) (by decide) o0 o1 hr2
    rw [cl_same o0 o1 d0 n1 n2] at h2
    exact h2
theorem apx_23 (q0 q1 q2 q3 q4 q5 q6 q7 q8 q9 q10 q11 q12 q13 q14 q15 at' : Int) (fk fc fz fs fo : Bool) (w dst src base disp imm cc ld other v : Int) (hm : mayX 23 w dst src base disp imm cc = true) : ApLaw q0 q1 q2 q3 q4 q5 q6 q7 q8 q9 q10 q11 q12 q13 q14 q15 at' fk fc fz fs fo 23 w dst src base disp imm cc ld other v := by
  obtain ⟨⟨d0, d1, s0, s1, b0, b1, _⟩, hs⟩ := mayX_parts hm
  rw [show shapeM 23 = 5 from rfl] at hs
  have hl := may_long hs (by decide)
  refine ap_dst q0 q1 q2 q3 q4 q5 q6 q7 q8 q9 q10 q11 q12 q13 q14 q15 at' fk fc fz fs fo 23 w dst src base disp imm cc ld other v _ _ _ _ _ _ _ (by decide) d0 d1 (by rw [writes_may hm]; rfl) (exec_23_ok q0 q1 q2 q3 q4 q5 q6 q7 q8 q9 q10 q11 q12 q13 q14 q15 at' fk fc fz fs fo w dst src base disp imm cc ld d0 d1 s0 s1 b0 b1 hm hl) (fun _ _ _ => beq_self_eq_true _) fun o0 o1 hr => ?_
  · have h2 := exec_23_ok (st 0 other v q0) (st 1 other v q1) (st 2 other v q2) (st 3 other v q3) (st 4 other v q4) (st 5 other v q5) (st 6 other v q6) (st 7 other v q7) (st 8 other v q8) (st 9 other v q9) (st 10 other v q10) (st 11 other v q11) (st 12 other v q12) (st 13 other v q13) (st 14 other v q14) (st 15 other v q15) at' fk fc fz fs fo w dst src base disp imm cc ld d0 d1 s0 s1 b0 b1 hm hl
    have hr2 : (bitOf (sh8 dst) other == 1) = false := by rw [reads_may hm] at hr; exact hr
    have n1 := bit_sh1 d0 d1 o0 o1 hr2
    rw [neg_same o0 o1 d0 n1, e_rg o0 o1 d0 n1] at h2
    exact h2
theorem apx_26 (q0 q1 q2 q3 q4 q5 q6 q7 q8 q9 q10 q11 q12 q13 q14 q15 at' : Int) (fk fc fz fs fo : Bool) (w dst src base disp imm cc ld other v : Int) (hm : mayX 26 w dst src base disp imm cc = true) : ApLaw q0 q1 q2 q3 q4 q5 q6 q7 q8 q9 q10 q11 q12 q13 q14 q15 at' fk fc fz fs fo 26 w dst src base disp imm cc ld other v := by
  obtain ⟨⟨d0, d1, s0, s1, b0, b1, _⟩, hs⟩ := mayX_parts hm
  rw [show shapeM 26 = 7 from rfl] at hs
  refine ap_dst q0 q1 q2 q3 q4 q5 q6 q7 q8 q9 q10 q11 q12 q13 q14 q15 at' fk fc fz fs fo 26 w dst src base disp imm cc ld other v _ _ _ _ _ _ _ (by decide) d0 d1 (by rw [writes_may hm]; rfl) (exec_26_ok q0 q1 q2 q3 q4 q5 q6 q7 q8 q9 q10 q11 q12 q13 q14 q15 at' fk fc fz fs fo w dst src base disp imm cc ld d0 d1 s0 s1 b0 b1 hm) (fun _ _ _ => beq_self_eq_true _) fun o0 o1 hr => ?_
  · have h2 := exec_26_ok (st 0 other v q0) (st 1 other v q1) (st 2 other v q2) (st 3 other v q3) (st 4 other v q4) (st 5 other v q5) (st 6 other v q6) (st 7 other v q7) (st 8 other v q8) (st 9 other v q9) (st 10 other v q10) (st 11 other v q11) (st 12 other v q12) (st 13 other v q13) (st 14 other v q14) (st 15 other v q15) at' fk fc fz fs fo w dst src base disp imm cc ld d0 d1 s0 s1 b0 b1 hm
    exact h2
theorem apx_27 (q0 q1 q2 q3 q4 q5 q6 q7 q8 q9 q10 q11 q12 q13 q14 q15 at' : Int) (fk fc fz fs fo : Bool) (w dst src base disp imm cc ld other v : Int) (hm : mayX 27 w dst src base disp imm cc = true) : ApLaw q0 q1 q2 q3 q4 q5 q6 q7 q8 q9 q10 q11 q12 q13 q14 q15 at' fk fc fz fs fo 27 w dst src base disp imm cc ld other v := by
  obtain ⟨⟨d0, d1, s0, s1, b0, b1, _⟩, hs⟩ := mayX_parts hm
  rw [show shapeM 27 = 8 from rfl] at hs
  refine ap_none q0 q1 q2 q3 q4 q5 q6 q7 q8 q9 q10 q11 q12 q13 q14 q15 at' fk fc fz fs fo 27 w dst src base disp imm cc ld other v _ _ _ _ _ _ (by decide) (exec_27_ok q0 q1 q2 q3 q4 q5 q6 q7 q8 q9 q10 q11 q12 q13 q14 q15 at' fk fc fz fs fo w dst src base disp imm cc ld d0 d1 s0 s1 b0 b1 hm) (fun _ _ _ => beq_self_eq_true _) fun o0 o1 hr => ?_
  · have h2 := exec_27_ok (st 0 other v q0) (st 1 other v q1) (st 2 other v q2) (st 3 other v q3) (st 4 other v q4) (st 5 other v q5) (st 6 other v q6) (st 7 other v q7) (st 8 other v q8) (st 9 other v q9) (st 10 other v q10) (st 11 other v q11) (st 12 other v q12) (st 13 other v q13) (st 14 other v q14) (st 15 other v q15) at' fk fc fz fs fo w dst src base disp imm cc ld d0 d1 s0 s1 b0 b1 hm
    exact h2
theorem apx_28 (q0 q1 q2 q3 q4 q5 q6 q7 q8 q9 q10 q11 q12 q13 q14 q15 at' : Int) (fk fc fz fs fo : Bool) (w dst src base disp imm cc ld other v : Int) (hm : mayX 28 w dst src base disp imm cc = true) : ApLaw q0 q1 q2 q3 q4 q5 q6 q7 q8 q9 q10 q11 q12 q13 q14 q15 at' fk fc fz fs fo 28 w dst src base disp imm cc ld other v := by
  obtain ⟨⟨d0, d1, s0, s1, b0, b1, _⟩, hs⟩ := mayX_parts hm
  rw [show shapeM 28 = 9 from rfl] at hs
  refine ap_none q0 q1 q2 q3 q4 q5 q6 q7 q8 q9 q10 q11 q12 q13 q14 q15 at' fk fc fz fs fo 28 w dst src base disp imm cc ld other v _ _ _ _ _ _ (by decide) (exec_28_ok q0 q1 q2 q3 q4 q5 q6 q7 q8 q9 q10 q11 q12 q13 q14 q15 at' fk fc fz fs fo w dst src base disp imm cc ld d0 d1 s0 s1 b0 b1 hm) (fun h => absurd h (by decide)) fun o0 o1 hr => ?_
  · have h2 := exec_28_ok (st 0 other v q0) (st 1 other v q1) (st 2 other v q2) (st 3 other v q3) (st 4 other v q4) (st 5 other v q5) (st 6 other v q6) (st 7 other v q7) (st 8 other v q8) (st 9 other v q9) (st 10 other v q10) (st 11 other v q11) (st 12 other v q12) (st 13 other v q13) (st 14 other v q14) (st 15 other v q15) at' fk fc fz fs fo w dst src base disp imm cc ld d0 d1 s0 s1 b0 b1 hm
    exact h2
theorem apx_25 (q0 q1 q2 q3 q4 q5 q6 q7 q8 q9 q10 q11 q12 q13 q14 q15 at' : Int) (fk fc fz fs fo : Bool) (w dst src base disp imm cc ld other v : Int) (hm : mayX 25 w dst src base disp imm cc = true) : ApLaw q0 q1 q2 q3 q4 q5 q6 q7 q8 q9 q10 q11 q12 q13 q14 q15 at' fk fc fz fs fo 25 w dst src base disp imm cc ld other v := by
  obtain ⟨⟨d0, d1, s0, s1, b0, b1, _⟩, hs⟩ := mayX_parts hm
  rw [show shapeM 25 = 6 from rfl] at hs
  have hc := may_cc hs
  cases fk
  · exact ap_err_ok q0 q1 q2 q3 q4 q5 q6 q7 q8 q9 q10 q11 q12 q13 q14 q15 at' false fc fz fs fo 25 w dst src base disp imm cc ld other v 20 (exec_25f_ok q0 q1 q2 q3 q4 q5 q6 q7 q8 q9 q10 q11 q12 q13 q14 q15 at' fc fz fs fo w dst src base disp imm cc ld d0 d1 s0 s1 b0 b1 hm hc) rfl
  · refine ap_dst q0 q1 q2 q3 q4 q5 q6 q7 q8 q9 q10 q11 q12 q13 q14 q15 at' true fc fz fs fo 25 w dst src base disp imm cc ld other v _ _ _ _ _ _ _ (by decide) d0 d1 (by rw [writes_may hm]; rfl) (exec_25_ok q0 q1 q2 q3 q4 q5 q6 q7 q8 q9 q10 q11 q12 q13 q14 q15 at' fc fz fs fo w dst src base disp imm cc ld d0 d1 s0 s1 b0 b1 hm hc) (fun _ _ _ => beq_self_eq_true _) fun o0 o1 hr => ?_
    have h2 := exec_25_ok (st 0 other v q0) (st 1 other v q1) (st 2 other v q2) (st 3 other v q3) (st 4 other v q4) (st 5 other v q5) (st 6 other v q6) (st 7 other v q7) (st 8 other v q8) (st 9 other v q9) (st 10 other v q10) (st 11 other v q11) (st 12 other v q12) (st 13 other v q13) (st 14 other v q14) (st 15 other v q15) at' fc fz fs fo w dst src base disp imm cc ld d0 d1 s0 s1 b0 b1 hm hc
    have hr2 : (bitOf (or64 (sh8 dst) (sh8 src)) other == 1) = false := by rw [reads_may hm] at hr; exact hr
    obtain ⟨n1, n2⟩ := bit_or1 d0 d1 s0 s1 o0 o1 hr2
    simp only [e_rg o0 o1 d0 n1, e_rg o0 o1 s0 n2] at h2
    exact h2
theorem apx_29 (q0 q1 q2 q3 q4 q5 q6 q7 q8 q9 q10 q11 q12 q13 q14 q15 at' : Int) (fk fc fz fs fo : Bool) (w dst src base disp imm cc ld other v : Int) (hm : mayX 29 w dst src base disp imm cc = true) : ApLaw q0 q1 q2 q3 q4 q5 q6 q7 q8 q9 q10 q11 q12 q13 q14 q15 at' fk fc fz fs fo 29 w dst src base disp imm cc ld other v := by
  obtain ⟨⟨d0, d1, s0, s1, b0, b1, _⟩, hs⟩ := mayX_parts hm
  rw [show shapeM 29 = 10 from rfl] at hs
  have hc := may_cc' hs
  cases fk
  · exact ap_err_ok q0 q1 q2 q3 q4 q5 q6 q7 q8 q9 q10 q11 q12 q13 q14 q15 at' false fc fz fs fo 29 w dst src base disp imm cc ld other v 20 (exec_29f_ok q0 q1 q2 q3 q4 q5 q6 q7 q8 q9 q10 q11 q12 q13 q14 q15 at' fc fz fs fo w dst src base disp imm cc ld d0 d1 s0 s1 b0 b1 hm hc) rfl
  · exact ap_none q0 q1 q2 q3 q4 q5 q6 q7 q8 q9 q10 q11 q12 q13 q14 q15 at' true fc fz fs fo 29 w dst src base disp imm cc ld other v _ _ _ _ _ _ (by decide) (exec_29_ok q0 q1 q2 q3 q4 q5 q6 q7 q8 q9 q10 q11 q12 q13 q14 q15 at' fc fz fs fo w dst src base disp imm cc ld d0 d1 s0 s1 b0 b1 hm hc) (fun _ h => absurd h (by decide)) fun o0 o1 hr => exec_29_ok (st 0 other v q0) (st 1 other v q1) (st 2 other v q2) (st 3 other v q3) (st 4 other v q4) (st 5 other v q5) (st 6 other v q6) (st 7 other v q7) (st 8 other v q8) (st 9 other v q9) (st 10 other v q10) (st 11 other v q11) (st 12 other v q12) (st 13 other v q13) (st 14 other v q14) (st 15 other v q15) at' fc fz fs fo w dst src base disp imm cc ld d0 d1 s0 s1 b0 b1 hm hc
theorem apx_30 (q0 q1 q2 q3 q4 q5 q6 q7 q8 q9 q10 q11 q12 q13 q14 q15 at' : Int) (fk fc fz fs fo : Bool) (w dst src base disp imm cc ld other v : Int) (hm : mayX 30 w dst src base disp imm cc = true) : ApLaw q0 q1 q2 q3 q4 q5 q6 q7 q8 q9 q10 q11 q12 q13 q14 q15 at' fk fc fz fs fo 30 w dst src base disp imm cc ld other v := by
  obtain ⟨⟨d0, d1, s0, s1, b0, b1, _⟩, hs⟩ := mayX_parts hm
  rw [show shapeM 30 = 11 from rfl] at hs
  refine ap_core q0 q1 q2 q3 q4 q5 q6 q7 q8 q9 q10 q11 q12 q13 q14 q15 at' fk fc fz fs fo 30 w dst src base disp imm cc ld other v (q0) (q1) (q2) (q3) (u64 (q4 + 8)) (q5) (q6) (q7) (q8) (q9) (q10) (q11) (q12) (q13) (q14) (q15) ld fk fc fz fs fo (st 0 other v q0) (st 1 other v q1) (st 2 other v q2) (st 3 other v q3) (u64 (st 4 other v q4 + 8)) (st 5 other v q5) (st 6 other v q6) (st 7 other v q7) (st 8 other v q8) (st 9 other v q9) (st 10 other v q10) (st 11 other v q11) (st 12 other v q12) (st 13 other v q13) (st 14 other v q14) (st 15 other v q15) (by decide) (exec_30_ok q0 q1 q2 q3 q4 q5 q6 q7 q8 q9 q10 q11 q12 q13 q14 q15 at' fk fc fz fs fo w dst src base disp imm cc ld d0 d1 s0 s1 b0 b1 hm) ?_ (fun _ _ h => absurd h (by decide)) fun o0 o1 hr => ⟨?_, ?_, ?_⟩
  · rw [writes_may hm, show writesX 30 dst = 16 from rfl]
    refine cases16 ?_ ?_ ?_ ?_ ?_ ?_ ?_ ?_ ?_ ?_ ?_ ?_ ?_ ?_ ?_ ?_ <;> intro hk <;> first | exact beq_self_eq_true _ | (exfalso; revert hk; decide)
  · exact exec_30_ok (st 0 other v q0) (st 1 other v q1) (st 2 other v q2) (st 3 other v q3) (st 4 other v q4) (st 5 other v q5) (st 6 other v q6) (st 7 other v q7) (st 8 other v q8) (st 9 other v q9) (st 10 other v q10) (st 11 other v q11) (st 12 other v q12) (st 13 other v q13) (st 14 other v q14) (st 15 other v q15) at' fk fc fz fs fo w dst src base disp imm cc ld d0 d1 s0 s1 b0 b1 hm
  · have key : ∀ k : Int, 0 ≤ k → k ≤ 15 → k ≠ other → (rg [st 0 other v q0, st 1 other v q1, st 2 other v q2, st 3 other v q3, u64 (st 4 other v q4 + 8), st 5 other v q5, st 6 other v q6, st 7 other v q7, st 8 other v q8, st 9 other v q9, st 10 other v q10, st 11 other v q11, st 12 other v q12, st 13 other v q13, st 14 other v q14, st 15 other v q15] k == rg [q0, q1, q2, q3, u64 (q4 + 8), q5, q6, q7, q8, q9, q10, q11, q12, q13, q14, q15] k) = true := by
      refine cases16 ?_ ?_ ?_ ?_ ?_ ?_ ?_ ?_ ?_ ?_ ?_ ?_ ?_ ?_ ?_ ?_ <;> intro hk
      · show (st 0 other v q0 == q0) = true; rw [st_ne (Ne.symm hk), beq_self_eq_true]
      · show (st 1 other v q1 == q1) = true; rw [st_ne (Ne.symm hk), beq_self_eq_true]
      · show (st 2 other v q2 == q2) = true; rw [st_ne (Ne.symm hk), beq_self_eq_true]
      · show (st 3 other v q3 == q3) = true; rw [st_ne (Ne.symm hk), beq_self_eq_true]
      · show (u64 (st 4 other v q4 + 8) == u64 (q4 + 8)) = true; rw [st_ne (Ne.symm hk), beq_self_eq_true]
      · show (st 5 other v q5 == q5) = true; rw [st_ne (Ne.symm hk), beq_self_eq_true]
      · show (st 6 other v q6 == q6) = true; rw [st_ne (Ne.symm hk), beq_self_eq_true]
      · show (st 7 other v q7 == q7) = true; rw [st_ne (Ne.symm hk), beq_self_eq_true]
      · show (st 8 other v q8 == q8) = true; rw [st_ne (Ne.symm hk), beq_self_eq_true]
      · show (st 9 other v q9 == q9) = true; rw [st_ne (Ne.symm hk), beq_self_eq_true]
      · show (st 10 other v q10 == q10) = true; rw [st_ne (Ne.symm hk), beq_self_eq_true]
      · show (st 11 other v q11 == q11) = true; rw [st_ne (Ne.symm hk), beq_self_eq_true]
      · show (st 12 other v q12 == q12) = true; rw [st_ne (Ne.symm hk), beq_self_eq_true]
      · show (st 13 other v q13 == q13) = true; rw [st_ne (Ne.symm hk), beq_self_eq_true]
      · show (st 14 other v q14 == q14) = true; rw [st_ne (Ne.symm hk), beq_self_eq_true]
      · show (st 15 other v q15 == q15) = true; rw [st_ne (Ne.symm hk), beq_self_eq_true]
    intro k k0 k1 hk
    rw [i8_16 k0 k1, beq_eq_false_iff_ne] at hk
    exact key k k0 k1 hk
  · rw [writes_may hm, show writesX 30 dst = 16 from rfl]
    revert o0 o1
    intro o0 o1 hk
    clear hr
    have key : ∀ k : Int, 0 ≤ k → k ≤ 15 → other = k → (bitOf 16 k == 1) = false → (rg [st 0 other v q0, st 1 other v q1, st 2 other v q2, st 3 other v q3, u64 (st 4 other v q4 + 8), st 5 other v q5, st 6 other v q6, st 7 other v q7, st 8 other v q8, st 9 other v q9, st 10 other v q10, st 11 other v q11, st 12 other v q12, st 13 other v q13, st 14 other v q14, st 15 other v q15] k == v) = true := by
      refine cases16 ?_ ?_ ?_ ?_ ?_ ?_ ?_ ?_ ?_ ?_ ?_ ?_ ?_ ?_ ?_ ?_ <;> intro e hk <;> subst e <;> first | exact beq_self_eq_true _ | (exfalso; revert hk; decide)
    exact key other o0 o1 rfl hk
theorem apx_31 (q0 q1 q2 q3 q4 q5 q6 q7 q8 q9 q10 q11 q12 q13 q14 q15 at' : Int) (fk fc fz fs fo : Bool) (w dst src base disp imm cc ld other v : Int) (hm : mayX 31 w dst src base disp imm cc = true) : ApLaw q0 q1 q2 q3 q4 q5 q6 q7 q8 q9 q10 q11 q12 q13 q14 q15 at' fk fc fz fs fo 31 w dst src base disp imm cc ld other v := by
  obtain ⟨⟨d0, d1, s0, s1, b0, b1, _⟩, hs⟩ := mayX_parts hm
  rw [show shapeM 31 = 11 from rfl] at hs
  refine ap_core q0 q1 q2 q3 q4 q5 q6 q7 q8 q9 q10 q11 q12 q13 q14 q15 at' fk fc fz fs fo 31 w dst src base disp imm cc ld other v (ld) (0) (q2) (q3) (q4) (q5) (q6) (q7) (q8) (q9) (q10) (0) (q12) (q13) (q14) (q15) _ fk fc fz fs fo (ld) (0) (st 2 other v q2) (st 3 other v q3) (st 4 other v q4) (st 5 other v q5) (st 6 other v q6) (st 7 other v q7) (st 8 other v q8) (st 9 other v q9) (st 10 other v q10) (0) (st 12 other v q12) (st 13 other v q13) (st 14 other v q14) (st 15 other v q15) (by decide) (exec_31_ok q0 q1 q2 q3 q4 q5 q6 q7 q8 q9 q10 q11 q12 q13 q14 q15 at' fk fc fz fs fo w dst src base disp imm cc ld d0 d1 s0 s1 b0 b1 hm) ?_ (fun _ _ _ => beq_self_eq_true _) fun o0 o1 hr => ⟨?_, ?_, ?_⟩
  · rw [writes_may hm, show writesX 31 dst = 2051 from rfl]
    refine cases16 ?_ ?_ ?_ ?_ ?_ ?_ ?_ ?_ ?_ ?_ ?_ ?_ ?_ ?_ ?_ ?_ <;> intro hk <;> first | exact beq_self_eq_true _ | (exfalso; revert hk; decide)
  · exact exec_31_ok (st 0 other v q0) (st 1 other v q1) (st 2 other v q2) (st 3 other v q3) (st 4 other v q4) (st 5 other v q5) (st 6 other v q6) (st 7 other v q7) (st 8 other v q8) (st 9 other v q9) (st 10 other v q10) (st 11 other v q11) (st 12 other v q12) (st 13 other v q13) (st 14 other v q14) (st 15 other v q15) at' fk fc fz fs fo w dst src base disp imm cc ld d0 d1 s0 s1 b0 b1 hm
  · have key : ∀ k : Int, 0 ≤ k → k ≤ 15 → k ≠ other → (rg [ld, 0, st 2 other v q2, st 3 other v q3, st 4 other v q4, st 5 other v q5, st 6 other v q6, st 7 other v q7, st 8 other v q8, st 9 other v q9, st 10 other v q10, 0, st 12 other v q12, st 13 other v q13, st 14 other v q14, st 15 other v q15] k == rg [ld, 0, q2, q3, q4, q5, q6, q7, q8, q9, q10, 0, q12, q13, q14, q15] k) = true := by
      refine cases16 ?_ ?_ ?_ ?_ ?_ ?_ ?_ ?_ ?_ ?_ ?_ ?_ ?_ ?_ ?_ ?_ <;> intro hk
      · exact beq_self_eq_true _
      · exact beq_self_eq_true _
      · show (st 2 other v q2 == q2) = true; rw [st_ne (Ne.symm hk), beq_self_eq_true]
      · show (st 3 other v q3 == q3) = true; rw [st_ne (Ne.symm hk), beq_self_eq_true]
      · show (st 4 other v q4 == q4) = true; rw [st_ne (Ne.symm hk), beq_self_eq_true]
      · show (st 5 other v q5 == q5) = true; rw [st_ne (Ne.symm hk), beq_self_eq_true]
      · show (st 6 other v q6 == q6) = true; rw [st_ne (Ne.symm hk), beq_self_eq_true]
      · show (st 7 other v q7 == q7) = true; rw [st_ne (Ne.symm hk), beq_self_eq_true]
      · show (st 8 other v q8 == q8) = true; rw [st_ne (Ne.symm hk), beq_self_eq_true]
      · show (st 9 other v q9 == q9) = true; rw [st_ne (Ne.symm hk), beq_self_eq_true]
      · show (st 10 other v q10 == q10) = true; rw [st_ne (Ne.symm hk), beq_self_eq_true]
      · exact beq_self_eq_true _
      · show (st 12 other v q12 == q12) = true; rw [st_ne (Ne.symm hk), beq_self_eq_true]
      · show (st 13 other v q13 == q13) = true; rw [st_ne (Ne.symm hk), beq_self_eq_true]
      · show (st 14 other v q14 == q14) = true; rw [st_ne (Ne.symm hk), beq_self_eq_true]
      · show (st 15 other v q15 == q15) = true; rw [st_ne (Ne.symm hk), beq_self_eq_true]
    intro k k0 k1 hk
    rw [i8_16 k0 k1, beq_eq_false_iff_ne] at hk
    exact key k k0 k1 hk
  · rw [writes_may hm, show writesX 31 dst = 2051 from rfl]
    revert o0 o1
    intro o0 o1 hk
    clear hr
    have key : ∀ k : Int, 0 ≤ k → k ≤ 15 → other = k → (bitOf 2051 k == 1) = false → (rg [ld, 0, st 2 other v q2, st 3 other v q3, st 4 other v q4, st 5 other v q5, st 6 other v q6, st 7 other v q7, st 8 other v q8, st 9 other v q9, st 10 other v q10, 0, st 12 other v q12, st 13 other v q13, st 14 other v q14, st 15 other v q15] k == v) = true := by
      refine cases16 ?_ ?_ ?_ ?_ ?_ ?_ ?_ ?_ ?_ ?_ ?_ ?_ ?_ ?_ ?_ ?_ <;> intro e hk <;> subst e <;> first | exact beq_self_eq_true _ | (exfalso; revert hk; decide)
    exact key other o0 o1 rfl hk
theorem apx_24 (q0 q1 q2 q3 q4 q5 q6 q7 q8 q9 q10 q11 q12 q13 q14 q15 at' : Int) (fk fc fz fs fo : Bool) (w dst src base disp imm cc ld other v : Int) (hm : mayX 24 w dst src base disp imm cc = true) : ApLaw q0 q1 q2 q3 q4 q5 q6 q7 q8 q9 q10 q11 q12 q13 q14 q15 at' fk fc fz fs fo 24 w dst src base disp imm cc ld other v := by
  obtain ⟨⟨d0, d1, s0, s1, b0, b1, _⟩, hs⟩ := mayX_parts hm
  rw [show shapeM 24 = 5 from rfl] at hs
  cases hd : (cutM (rg [q0, q1, q2, q3, q4, q5, q6, q7, q8, q9, q10, q11, q12, q13, q14, q15] dst) w == 0)
  case true => exact ap_err_ok q0 q1 q2 q3 q4 q5 q6 q7 q8 q9 q10 q11 q12 q13 q14 q15 at' fk fc fz fs fo 24 w dst src base disp imm cc ld other v 20 (exec_24f_ok q0 q1 q2 q3 q4 q5 q6 q7 q8 q9 q10 q11 q12 q13 q14 q15 at' fk fc fz fs fo w dst src base disp imm cc ld d0 d1 s0 s1 b0 b1 hm hd) rfl
  cases hz : (cutM q2 w == 0)
  case false => exact ap_err_ok q0 q1 q2 q3 q4 q5 q6 q7 q8 q9 q10 q11 q12 q13 q14 q15 at' fk fc fz fs fo 24 w dst src base disp imm cc ld other v 20 (exec_24g_ok q0 q1 q2 q3 q4 q5 q6 q7 q8 q9 q10 q11 q12 q13 q14 q15 at' fk fc fz fs fo w dst src base disp imm cc ld d0 d1 s0 s1 b0 b1 hm hd hz) rfl
  refine ap_core q0 q1 q2 q3 q4 q5 q6 q7 q8 q9 q10 q11 q12 q13 q14 q15 at' fk fc fz fs fo 24 w dst src base disp imm cc ld other v (u64 ((cutM (q0) w).tdiv (cutM (rg [q0, q1, q2, q3, q4, q5, q6, q7, q8, q9, q10, q11, q12, q13, q14, q15] dst) w))) (q1) ((cutM (q0) w).tmod (cutM (rg [q0, q1, q2, q3, q4, q5, q6, q7, q8, q9, q10, q11, q12, q13, q14, q15] dst) w)) (q3) (q4) (q5) (q6) (q7) (q8) (q9) (q10) (q11) (q12) (q13) (q14) (q15) _ false false false false false (u64 ((cutM (st 0 other v q0) w).tdiv (cutM (rg [st 0 other v q0, st 1 other v q1, st 2 other v q2, st 3 other v q3, st 4 other v q4, st 5 other v q5, st 6 other v q6, st 7 other v q7, st 8 other v q8, st 9 other v q9, st 10 other v q10, st 11 other v q11, st 12 other v q12, st 13 other v q13, st 14 other v q14, st 15 other v q15] dst) w))) (st 1 other v q1) ((cutM (st 0 other v q0) w).tmod (cutM (rg [st 0 other v q0, st 1 other v q1, st 2 other v q2, st 3 other v q3, st 4 other v q4, st 5 other v q5, st 6 other v q6, st 7 other v q7, st 8 other v q8, st 9 other v q9, st 10 other v q10, st 11 other v q11, st 12 other v q12, st 13 other v q13, st 14 other v q14, st 15 other v q15] dst) w)) (st 3 other v q3) (st 4 other v q4) (st 5 other v q5) (st 6 other v q6) (st 7 other v q7) (st 8 other v q8) (st 9 other v q9) (st 10 other v q10) (st 11 other v q11) (st 12 other v q12) (st 13 other v q13) (st 14 other v q14) (st 15 other v q15) (by decide) (exec_24_ok q0 q1 q2 q3 q4 q5 q6 q7 q8 q9 q10 q11 q12 q13 q14 q15 at' fk fc fz fs fo w dst src base disp imm cc ld d0 d1 s0 s1 b0 b1 hm hd hz) ?_ (fun _ _ _ => beq_self_eq_true _) fun o0 o1 hr => ⟨?_, ?_, ?_⟩
  · rw [writes_may hm, show writesX 24 dst = 5 from rfl]
    refine cases16 ?_ ?_ ?_ ?_ ?_ ?_ ?_ ?_ ?_ ?_ ?_ ?_ ?_ ?_ ?_ ?_ <;> intro hk <;> first | exact beq_self_eq_true _ | (exfalso; revert hk; decide)
  · have hr2 : (bitOf (or64 (or64 (sh8 dst) (sh8 0)) (sh8 2)) other == 1) = false := by rw [reads_may hm] at hr; exact hr
    obtain ⟨n1, n0, n2⟩ := bit_div1 d0 d1 o0 o1 hr2
    have e1 : rg [st 0 other v q0, st 1 other v q1, st 2 other v q2, st 3 other v q3, st 4 other v q4, st 5 other v q5, st 6 other v q6, st 7 other v q7, st 8 other v q8, st 9 other v q9, st 10 other v q10, st 11 other v q11, st 12 other v q12, st 13 other v q13, st 14 other v q14, st 15 other v q15] dst = rg [q0, q1, q2, q3, q4, q5, q6, q7, q8, q9, q10, q11, q12, q13, q14, q15] dst := by rw [st_set o0 o1, rg_set_ne o0 d0 (Ne.symm n1)]
    exact exec_24_ok (st 0 other v q0) (st 1 other v q1) (st 2 other v q2) (st 3 other v q3) (st 4 other v q4) (st 5 other v q5) (st 6 other v q6) (st 7 other v q7) (st 8 other v q8) (st 9 other v q9) (st 10 other v q10) (st 11 other v q11) (st 12 other v q12) (st 13 other v q13) (st 14 other v q14) (st 15 other v q15) at' fk fc fz fs fo w dst src base disp imm cc ld d0 d1 s0 s1 b0 b1 hm (by rw [e1]; exact hd) (by rw [st_ne n2]; exact hz)
  · have hr2 : (bitOf (or64 (or64 (sh8 dst) (sh8 0)) (sh8 2)) other == 1) = false := by rw [reads_may hm] at hr; exact hr
    obtain ⟨n1, n0, n2⟩ := bit_div1 d0 d1 o0 o1 hr2
    have e1 : rg [st 0 other v q0, st 1 other v q1, st 2 other v q2, st 3 other v q3, st 4 other v q4, st 5 other v q5, st 6 other v q6, st 7 other v q7, st 8 other v q8, st 9 other v q9, st 10 other v q10, st 11 other v q11, st 12 other v q12, st 13 other v q13, st 14 other v q14, st 15 other v q15] dst = rg [q0, q1, q2, q3, q4, q5, q6, q7, q8, q9, q10, q11, q12, q13, q14, q15] dst := by rw [st_set o0 o1, rg_set_ne o0 d0 (Ne.symm n1)]
    have key : ∀ k : Int, 0 ≤ k → k ≤ 15 → k ≠ other → (rg [u64 ((cutM (st 0 other v q0) w).tdiv (cutM (rg [st 0 other v q0, st 1 other v q1, st 2 other v q2, st 3 other v q3, st 4 other v q4, st 5 other v q5, st 6 other v q6, st 7 other v q7, st 8 other v q8, st 9 other v q9, st 10 other v q10, st 11 other v q11, st 12 other v q12, st 13 other v q13, st 14 other v q14, st 15 other v q15] dst) w)), st 1 other v q1, (cutM (st 0 other v q0) w).tmod (cutM (rg [st 0 other v q0, st 1 other v q1, st 2 other v q2, st 3 other v q3, st 4 other v q4, st 5 other v q5, st 6 other v q6, st 7 other v q7, st 8 other v q8, st 9 other v q9, st 10 other v q10, st 11 other v q11, st 12 other v q12, st 13 other v q13, st 14 other v q14, st 15 other v q15] dst) w), st 3 other v q3, st 4 other v q4, st 5 other v q5, st 6 other v q6, st 7 other v q7, st 8 other v q8, st 9 other v q9, st 10 other v q10, st 11 other v q11, st 12 other v q12, st 13 other v q13, st 14 other v q14, st 15 other v q15] k == rg [u64 ((cutM (q0) w).tdiv (cutM (rg [q0, q1, q2, q3, q4, q5, q6, q7, q8, q9, q10, q11, q12, q13, q14, q15] dst) w)), q1, (cutM (q0) w).tmod (cutM (rg [q0, q1, q2, q3, q4, q5, q6, q7, q8, q9, q10, q11, q12, q13, q14, q15] dst) w), q3, q4, q5, q6, q7, q8, q9, q10, q11, q12, q13, q14, q15] k) = true := by
      refine cases16 ?_ ?_ ?_ ?_ ?_ ?_ ?_ ?_ ?_ ?_ ?_ ?_ ?_ ?_ ?_ ?_ <;> intro hk
      · show (u64 ((cutM (st 0 other v q0) w).tdiv (cutM (rg [st 0 other v q0, st 1 other v q1, st 2 other v q2, st 3 other v q3, st 4 other v q4, st 5 other v q5, st 6 other v q6, st 7 other v q7, st 8 other v q8, st 9 other v q9, st 10 other v q10, st 11 other v q11, st 12 other v q12, st 13 other v q13, st 14 other v q14, st 15 other v q15] dst) w)) == u64 ((cutM (q0) w).tdiv (cutM (rg [q0, q1, q2, q3, q4, q5, q6, q7, q8, q9, q10, q11, q12, q13, q14, q15] dst) w))) = true; rw [e1, st_ne n0, beq_self_eq_true]
      · show (st 1 other v q1 == q1) = true; rw [st_ne (Ne.symm hk), beq_self_eq_true]
      · show ((cutM (st 0 other v q0) w).tmod (cutM (rg [st 0 other v q0, st 1 other v q1, st 2 other v q2, st 3 other v q3, st 4 other v q4, st 5 other v q5, st 6 other v q6, st 7 other v q7, st 8 other v q8, st 9 other v q9, st 10 other v q10, st 11 other v q11, st 12 other v q12, st 13 other v q13, st 14 other v q14, st 15 other v q15] dst) w) == (cutM (q0) w).tmod (cutM (rg [q0, q1, q2, q3, q4, q5, q6, q7, q8, q9, q10, q11, q12, q13, q14, q15] dst) w)) = true; rw [e1, st_ne n0, beq_self_eq_true]
      · show (st 3 other v q3 == q3) = true; rw [st_ne (Ne.symm hk), beq_self_eq_true]
      · show (st 4 other v q4 == q4) = true; rw [st_ne (Ne.symm hk), beq_self_eq_true]
      · show (st 5 other v q5 == q5) = true; rw [st_ne (Ne.symm hk), beq_self_eq_true]
      · show (st 6 other v q6 == q6) = true; rw [st_ne (Ne.symm hk), beq_self_eq_true]
      · show (st 7 other v q7 == q7) = true; rw [st_ne (Ne.symm hk), beq_self_eq_true]
      · show (st 8 other v q8 == q8) = true; rw [st_ne (Ne.symm hk), beq_self_eq_true]
      · show (st 9 other v q9 == q9) = true; rw [st_ne (Ne.symm hk), beq_self_eq_true]
      · show (st 10 other v q10 == q10) = true; rw [st_ne (Ne.symm hk), beq_self_eq_true]
      · show (st 11 other v q11 == q11) = true; rw [st_ne (Ne.symm hk), beq_self_eq_true]
      · show (st 12 other v q12 == q12) = true; rw [st_ne (Ne.symm hk), beq_self_eq_true]
      · show (st 13 other v q13 == q13) = true; rw [st_ne (Ne.symm hk), beq_self_eq_true]
      · show (st 14 other v q14 == q14) = true; rw [st_ne (Ne.symm hk), beq_self_eq_true]
      · show (st 15 other v q15 == q15) = true; rw [st_ne (Ne.symm hk), beq_self_eq_true]
    intro k k0 k1 hk
    rw [i8_16 k0 k1, beq_eq_false_iff_ne] at hk
    exact key k k0 k1 hk
  · rw [writes_may hm, show writesX 24 dst = 5 from rfl]
    revert o0 o1
    intro o0 o1 hk
    clear hr
    have key : ∀ k : Int, 0 ≤ k → k ≤ 15 → other = k → (bitOf 5 k == 1) = false → (rg [u64 ((cutM (st 0 other v q0) w).tdiv (cutM (rg [st 0 other v q0, st 1 other v q1, st 2 other v q2, st 3 other v q3, st 4 other v q4, st 5 other v q5, st 6 other v q6, st 7 other v q7, st 8 other v q8, st 9 other v q9, st 10 other v q10, st 11 other v q11, st 12 other v q12, st 13 other v q13, st 14 other v q14, st 15 other v q15] dst) w)), st 1 other v q1, (cutM (st 0 other v q0) w).tmod (cutM (rg [st 0 other v q0, st 1 other v q1, st 2 other v q2, st 3 other v q3, st 4 other v q4, st 5 other v q5, st 6 other v q6, st 7 other v q7, st 8 other v q8, st 9 other v q9, st 10 other v q10, st 11 other v q11, st 12 other v q12, st 13 other v q13, st 14 other v q14, st 15 other v q15] dst) w), st 3 other v q3, st 4 other v q4, st 5 other v q5, st 6 other v q6, st 7 other v q7, st 8 other v q8, st 9 other v q9, st 10 other v q10, st 11 other v q11, st 12 other v q12, st 13 other v q13, st 14 other v q14, st 15 other v q15] k == v) = true := by
      refine cases16 ?_ ?_ ?_ ?_ ?_ ?_ ?_ ?_ ?_ ?_ ?_ ?_ ?_ ?_ ?_ ?_ <;> intro e hk <;> subst e <;> first | exact beq_self_eq_true _ | (exfalso; revert hk; decide)
    exact key other o0 o1 rfl hk
theorem apart_any_ok (q0 q1 q2 q3 q4 q5 q6 q7 q8 q9 q10 q11 q12 q13 q14 q15 at' : Int) (fk fc fz fs fo : Bool) (op w dst src base disp imm cc ld other v : Int) (ho : op ≤ 127) : Ret Try.prog 6 [.agg [.int .u64 (q0), .int .u64 (q1), .int .u64 (q2), .int .u64 (q3), .int .u64 (q4), .int .u64 (q5), .int .u64 (q6), .int .u64 (q7), .int .u64 (q8), .int .u64 (q9), .int .u64 (q10), .int .u64 (q11), .int .u64 (q12), .int .u64 (q13), .int .u64 (q14), .int .u64 (q15), .bool (fk), .bool (fc), .bool (fz), .bool (fs), .bool (fo), .int .u64 (at')], xD op w dst src base disp imm cc, .int .u64 ld, .int .i8 other, .int .u64 v] (.bool true) := by
  cases hm : mayX op w dst src base disp imm cc
  · exact ap_err_ok q0 q1 q2 q3 q4 q5 q6 q7 q8 q9 q10 q11 q12 q13 q14 q15 at' fk fc fz fs fo op w dst src base disp imm cc ld other v 2 (exec_no_ok q0 q1 q2 q3 q4 q5 q6 q7 q8 q9 q10 q11 q12 q13 q14 q15 at' fk fc fz fs fo op w dst src base disp imm cc ld ho hm) rfl
  · have hsh : shapeM op ≠ 0 := by
      intro e
      have hs := (mayX_parts hm).2
      rw [e] at hs
      simp [mayS] at hs
    rcases shape_ops hsh with rfl | rfl | rfl | rfl | rfl | rfl | rfl | rfl | rfl | rfl | rfl | rfl | rfl | rfl | rfl | rfl | rfl | rfl | rfl | rfl | rfl | rfl | rfl | rfl | rfl | rfl | rfl | rfl | rfl | rfl | rfl | rfl
    · exact apx_0 q0 q1 q2 q3 q4 q5 q6 q7 q8 q9 q10 q11 q12 q13 q14 q15 at' fk fc fz fs fo w dst src base disp imm cc ld other v hm
    · exact apx_1 q0 q1 q2 q3 q4 q5 q6 q7 q8 q9 q10 q11 q12 q13 q14 q15 at' fk fc fz fs fo w dst src base disp imm cc ld other v hm
    · exact apx_2 q0 q1 q2 q3 q4 q5 q6 q7 q8 q9 q10 q11 q12 q13 q14 q15 at' fk fc fz fs fo w dst src base disp imm cc ld other v hm
    · exact apx_3 q0 q1 q2 q3 q4 q5 q6 q7 q8 q9 q10 q11 q12 q13 q14 q15 at' fk fc fz fs fo w dst src base disp imm cc ld other v hm
    · exact apx_4 q0 q1 q2 q3 q4 q5 q6 q7 q8 q9 q10 q11 q12 q13 q14 q15 at' fk fc fz fs fo w dst src base disp imm cc ld other v hm
    · exact apx_5 q0 q1 q2 q3 q4 q5 q6 q7 q8 q9 q10 q11 q12 q13 q14 q15 at' fk fc fz fs fo w dst src base disp imm cc ld other v hm
    · exact apx_6 q0 q1 q2 q3 q4 q5 q6 q7 q8 q9 q10 q11 q12 q13 q14 q15 at' fk fc fz fs fo w dst src base disp imm cc ld other v hm
    · exact apx_7 q0 q1 q2 q3 q4 q5 q6 q7 q8 q9 q10 q11 q12 q13 q14 q15 at' fk fc fz fs fo w dst src base disp imm cc ld other v hm
    · exact apx_8 q0 q1 q2 q3 q4 q5 q6 q7 q8 q9 q10 q11 q12 q13 q14 q15 at' fk fc fz fs fo w dst src base disp imm cc ld other v hm
    · exact apx_9 q0 q1 q2 q3 q4 q5 q6 q7 q8 q9 q10 q11 q12 q13 q14 q15 at' fk fc fz fs fo w dst src base disp imm cc ld other v hm
    · exact apx_10 q0 q1 q2 q3 q4 q5 q6 q7 q8 q9 q10 q11 q12 q13 q14 q15 at' fk fc fz fs fo w dst src base disp imm cc ld other v hm
    · exact apx_11 q0 q1 q2 q3 q4 q5 q6 q7 q8 q9 q10 q11 q12 q13 q14 q15 at' fk fc fz fs fo w dst src base disp imm cc ld other v hm
    · exact apx_12 q0 q1 q2 q3 q4 q5 q6 q7 q8 q9 q10 q11 q12 q13 q14 q15 at' fk fc fz fs fo w dst src base disp imm cc ld other v hm
    · exact apx_13 q0 q1 q2 q3 q4 q5 q6 q7 q8 q9 q10 q11 q12 q13 q14 q15 at' fk fc fz fs fo w dst src base disp imm cc ld other v hm
    · exact apx_14 q0 q1 q2 q3 q4 q5 q6 q7 q8 q9 q10 q11 q12 q13 q14 q15 at' fk fc fz fs fo w dst src base disp imm cc ld other v hm
    · exact apx_15 q0 q1 q2 q3 q4 q5 q6 q7 q8 q9 q10 q11 q12 q13 q14 q15 at' fk fc fz fs fo w dst src base disp imm cc ld other v hm
    · exact apx_16 q0 q1 q2 q3 q4 q5 q6 q7 q8 q9 q10 q11 q12 q13 q14 q15 at' fk fc fz fs fo w dst src base disp imm cc ld other v hm
    · exact apx_17 q0 q1 q2 q3 q4 q5 q6 q7 q8 q9 q10 q11 q12 q13 q14 q15 at' fk fc fz fs fo w dst src base disp imm cc ld other v hm
    · exact apx_18 q0 q1 q2 q3 q4 q5 q6 q7 q8 q9 q10 q11 q12 q13 q14 q15 at' fk fc fz fs fo w dst src base disp imm cc ld other v hm
    · exact apx_19 q0 q1 q2 q3 q4 q5 q6 q7 q8 q9 q10 q11 q12 q13 q14 q15 at' fk fc fz fs fo w dst src base disp imm cc ld other v hm
    · exact apx_20 q0 q1 q2 q3 q4 q5 q6 q7 q8 q9 q10 q11 q12 q13 q14 q15 at' fk fc fz fs fo w dst src base disp imm cc ld other v hm
    · exact apx_21 q0 q1 q2 q3 q4 q5 q6 q7 q8 q9 q10 q11 q12 q13 q14 q15 at' fk fc fz fs fo w dst src base disp imm cc ld other v hm
    · exact apx_22 q0 q1 q2 q3 q4 q5 q6 q7 q8 q9 q10 q11 q12 q13 q14 q15 at' fk fc fz fs fo w dst src base disp imm cc ld other v hm
    · exact apx_23 q0 q1 q2 q3 q4 q5 q6 q7 q8 q9 q10 q11 q12 q13 q14 q15 at' fk fc fz fs fo w dst src base disp imm cc ld other v hm
    · exact apx_24 q0 q1 q2 q3 q4 q5 q6 q7 q8 q9 q10 q11 q12 q13 q14 q15 at' fk fc fz fs fo w dst src base disp imm cc ld other v hm
    · exact apx_25 q0 q1 q2 q3 q4 q5 q6 q7 q8 q9 q10 q11 q12 q13 q14 q15 at' fk fc fz fs fo w dst src base disp imm cc ld other v hm
    · exact apx_26 q0 q1 q2 q3 q4 q5 q6 q7 q8 q9 q10 q11 q12 q13 q14 q15 at' fk fc fz fs fo w dst src base disp imm cc ld other v hm
    · exact apx_27 q0 q1 q2 q3 q4 q5 q6 q7 q8 q9 q10 q11 q12 q13 q14 q15 at' fk fc fz fs fo w dst src base disp imm cc ld other v hm
    · exact apx_28 q0 q1 q2 q3 q4 q5 q6 q7 q8 q9 q10 q11 q12 q13 q14 q15 at' fk fc fz fs fo w dst src base disp imm cc ld other v hm
    · exact apx_29 q0 q1 q2 q3 q4 q5 q6 q7 q8 q9 q10 q11 q12 q13 q14 q15 at' fk fc fz fs fo w dst src base disp imm cc ld other v hm
    · exact apx_30 q0 q1 q2 q3 q4 q5 q6 q7 q8 q9 q10 q11 q12 q13 q14 q15 at' fk fc fz fs fo w dst src base disp imm cc ld other v hm
    · exact apx_31 q0 q1 q2 q3 q4 q5 q6 q7 q8 q9 q10 q11 q12 q13 q14 q15 at' fk fc fz fs fo w dst src base disp imm cc ld other v hm
end Go.Proofs.Ytkannibhndjgeaa
