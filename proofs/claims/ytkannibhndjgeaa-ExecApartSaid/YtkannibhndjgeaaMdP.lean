/- Plain laws: registers that are put, bits of rows of registers. -/
import Derived.Test.YtkannibhndjgeaaMdE
namespace Go.Ev
open Go
set_option linter.unusedVariables false
set_option linter.unusedSimpArgs false

theorem st_set {q0 q1 q2 q3 q4 q5 q6 q7 q8 q9 q10 q11 q12 q13 q14 q15 d v : Int} (h0 : 0 ≤ d) (h1 : d ≤ 15) : [st 0 d v q0, st 1 d v q1, st 2 d v q2, st 3 d v q3, st 4 d v q4, st 5 d v q5, st 6 d v q6, st 7 d v q7, st 8 d v q8, st 9 d v q9, st 10 d v q10, st 11 d v q11, st 12 d v q12, st 13 d v q13, st 14 d v q14, st 15 d v q15] = [q0, q1, q2, q3, q4, q5, q6, q7, q8, q9, q10, q11, q12, q13, q14, q15].set d.toNat v := by
  obtain ⟨n, rfl⟩ := fin16 h0 h1
  have : n.val = 0 ∨ n.val = 1 ∨ n.val = 2 ∨ n.val = 3 ∨ n.val = 4 ∨ n.val = 5 ∨ n.val = 6 ∨ n.val = 7 ∨ n.val = 8 ∨ n.val = 9 ∨ n.val = 10 ∨ n.val = 11 ∨ n.val = 12 ∨ n.val = 13 ∨ n.val = 14 ∨ n.val = 15 := by omega
  rcases this with e | e | e | e | e | e | e | e | e | e | e | e | e | e | e | e <;> rw [e] <;> rfl
theorem rg_set_ne {l : List Int} {d k v : Int} (h0 : 0 ≤ d) (k0 : 0 ≤ k) (h : k ≠ d) : rg (l.set d.toNat v) k = rg l k := by
  unfold rg
  rw [List.getD_eq_getElem?_getD, List.getD_eq_getElem?_getD, List.getElem?_set_ne (by omega)]
theorem rg_set_eq {l : List Int} {d v : Int} (h0 : 0 ≤ d) (h1 : d.toNat < l.length) : rg (l.set d.toNat v) d = v := by
  unfold rg
  rw [List.getD_eq_getElem?_getD, List.getElem?_set_self h1]
  rfl
theorem bit_sh : ∀ n k : Fin 16, bitOf (sh8 (n.val : Int)) (k.val : Int) = if n = k then 1 else 0 := by decide +kernel
theorem bit_sh0 {d k : Int} (d0 : 0 ≤ d) (d1 : d ≤ 15) (k0 : 0 ≤ k) (k1 : k ≤ 15) (h : (bitOf (sh8 d) k == 0) = true) : k ≠ d := by
  obtain ⟨n, rfl⟩ := fin16 d0 d1
  obtain ⟨m, rfl⟩ := fin16 k0 k1
  intro e
  have : n = m := by apply Fin.ext; omega
  subst this
  rw [bit_sh, if_pos rfl] at h
  cases h
theorem bit_sh1 {d k : Int} (d0 : 0 ≤ d) (d1 : d ≤ 15) (k0 : 0 ≤ k) (k1 : k ≤ 15) (h : (bitOf (sh8 d) k == 1) = false) : k ≠ d := by
  obtain ⟨n, rfl⟩ := fin16 d0 d1
  obtain ⟨m, rfl⟩ := fin16 k0 k1
  intro e
  have : n = m := by apply Fin.ext; omega
  subst this
  rw [bit_sh, if_pos rfl] at h
  cases h
theorem bit_or : ∀ n m k : Fin 16, (bitOf (or64 (sh8 (n.val : Int)) (sh8 (m.val : Int))) (k.val : Int) == 1) = false → n ≠ k ∧ m ≠ k := by decide +kernel
theorem bit_or1 {a b k : Int} (a0 : 0 ≤ a) (a1 : a ≤ 15) (b0 : 0 ≤ b) (b1 : b ≤ 15) (k0 : 0 ≤ k) (k1 : k ≤ 15) (h : (bitOf (or64 (sh8 a) (sh8 b)) k == 1) = false) : k ≠ a ∧ k ≠ b := by
  obtain ⟨n, rfl⟩ := fin16 a0 a1
  obtain ⟨m, rfl⟩ := fin16 b0 b1
  obtain ⟨l, rfl⟩ := fin16 k0 k1
  have := bit_or n m l h
  refine ⟨fun e => this.1 (Fin.ext (by omega)), fun e => this.2 (Fin.ext (by omega))⟩
theorem bit_div : ∀ n k : Fin 16, (bitOf (or64 (or64 (sh8 (n.val : Int)) (sh8 0)) (sh8 2)) (k.val : Int) == 1) = false → n ≠ k ∧ k.val ≠ 0 ∧ k.val ≠ 2 := by decide +kernel
theorem bit_div1 {a k : Int} (a0 : 0 ≤ a) (a1 : a ≤ 15) (k0 : 0 ≤ k) (k1 : k ≤ 15) (h : (bitOf (or64 (or64 (sh8 a) (sh8 0)) (sh8 2)) k == 1) = false) : k ≠ a ∧ k ≠ 0 ∧ k ≠ 2 := by
  obtain ⟨n, rfl⟩ := fin16 a0 a1
  obtain ⟨l, rfl⟩ := fin16 k0 k1
  have := bit_div n l h
  exact ⟨fun e => this.1 (Fin.ext (by omega)), by omega, by omega⟩
theorem reads_may {op w dst src base disp imm cc : Int} (hm : mayX op w dst src base disp imm cc = true) : readsXX op w dst src base disp imm cc = readsX op dst src base := by unfold readsXX; rw [if_pos hm]
theorem writes_may {op w dst src base disp imm cc : Int} (hm : mayX op w dst src base disp imm cc = true) : writesXX op w dst src base disp imm cc = writesX op dst := by unfold writesXX; rw [if_pos hm]
theorem st_ne {i d v r : Int} (h : d ≠ i) : st i d v r = r := by unfold st; rw [if_neg h]
theorem cases16 {p : Int → Prop} (h0 : p 0) (h1 : p 1) (h2 : p 2) (h3 : p 3) (h4 : p 4) (h5 : p 5) (h6 : p 6) (h7 : p 7) (h8 : p 8) (h9 : p 9) (h10 : p 10) (h11 : p 11) (h12 : p 12) (h13 : p 13) (h14 : p 14) (h15 : p 15) : ∀ k : Int, 0 ≤ k → k ≤ 15 → p k := by
  intro k k0 k1
  have : k = 0 ∨ k = 1 ∨ k = 2 ∨ k = 3 ∨ k = 4 ∨ k = 5 ∨ k = 6 ∨ k = 7 ∨ k = 8 ∨ k = 9 ∨ k = 10 ∨ k = 11 ∨ k = 12 ∨ k = 13 ∨ k = 14 ∨ k = 15 := by omega
  rcases this with rfl | rfl | rfl | rfl | rfl | rfl | rfl | rfl | rfl | rfl | rfl | rfl | rfl | rfl | rfl | rfl
  · exact h0
  · exact h1
  · exact h2
  · exact h3
  · exact h4
  · exact h5
  · exact h6
  · exact h7
  · exact h8
  · exact h9
  · exact h10
  · exact h11
  · exact h12
  · exact h13
  · exact h14
  · exact h15
theorem e_rg {q0 q1 q2 q3 q4 q5 q6 q7 q8 q9 q10 q11 q12 q13 q14 q15 other v d : Int} (o0 : 0 ≤ other) (o1 : other ≤ 15) (d0 : 0 ≤ d) (n : other ≠ d) : rg [st 0 other v q0, st 1 other v q1, st 2 other v q2, st 3 other v q3, st 4 other v q4, st 5 other v q5, st 6 other v q6, st 7 other v q7, st 8 other v q8, st 9 other v q9, st 10 other v q10, st 11 other v q11, st 12 other v q12, st 13 other v q13, st 14 other v q14, st 15 other v q15] d = rg [q0, q1, q2, q3, q4, q5, q6, q7, q8, q9, q10, q11, q12, q13, q14, q15] d := by
  rw [st_set o0 o1, rg_set_ne o0 d0 (Ne.symm n)]
theorem cl_same {q0 q1 q2 q3 q4 q5 q6 q7 q8 q9 q10 q11 q12 q13 q14 q15 other v d w s : Int} (o0 : 0 ≤ other) (o1 : other ≤ 15) (d0 : 0 ≤ d) (n : other ≠ d) (n1 : other ≠ 1) : doM s w (rg [st 0 other v q0, st 1 other v q1, st 2 other v q2, st 3 other v q3, st 4 other v q4, st 5 other v q5, st 6 other v q6, st 7 other v q7, st 8 other v q8, st 9 other v q9, st 10 other v q10, st 11 other v q11, st 12 other v q12, st 13 other v q13, st 14 other v q14, st 15 other v q15] d) (st 1 other v q1) = doM s w (rg [q0, q1, q2, q3, q4, q5, q6, q7, q8, q9, q10, q11, q12, q13, q14, q15] d) q1 := by
  rw [e_rg o0 o1 d0 n, st_ne n1]
theorem neg_same {q0 q1 q2 q3 q4 q5 q6 q7 q8 q9 q10 q11 q12 q13 q14 q15 other v d r w : Int} (o0 : 0 ≤ other) (o1 : other ≤ 15) (d0 : 0 ≤ d) (n : other ≠ d) : doM 8 w (rg [st 0 other v q0, st 1 other v q1, st 2 other v q2, st 3 other v q3, st 4 other v q4, st 5 other v q5, st 6 other v q6, st 7 other v q7, st 8 other v q8, st 9 other v q9, st 10 other v q10, st 11 other v q11, st 12 other v q12, st 13 other v q13, st 14 other v q14, st 15 other v q15] d) (rg [st 0 other v q0, st 1 other v q1, st 2 other v q2, st 3 other v q3, st 4 other v q4, st 5 other v q5, st 6 other v q6, st 7 other v q7, st 8 other v q8, st 9 other v q9, st 10 other v q10, st 11 other v q11, st 12 other v q12, st 13 other v q13, st 14 other v q14, st 15 other v q15] r) = doM 8 w (rg [q0, q1, q2, q3, q4, q5, q6, q7, q8, q9, q10, q11, q12, q13, q14, q15] d) (rg [q0, q1, q2, q3, q4, q5, q6, q7, q8, q9, q10, q11, q12, q13, q14, q15] r) := by
  rw [e_rg o0 o1 d0 n]; rfl
theorem may_long {sh w dst src base disp imm cc : Int} (h : mayS sh w dst src base disp imm cc = true) (hs : sh = 1 ∨ sh = 2 ∨ sh = 3 ∨ sh = 4 ∨ sh = 5 ∨ sh = 6) : longM w = true := by
  rcases hs with rfl | rfl | rfl | rfl | rfl | rfl <;> simp [mayS] at h <;> first | exact h.1 | exact h.1.1 | exact h
theorem may_cc {w dst src base disp imm cc : Int} (h : mayS 6 w dst src base disp imm cc = true) : ccM cc = true := by
  simp [mayS] at h; exact h.2
theorem may_cc' {w dst src base disp imm cc : Int} (h : mayS 10 w dst src base disp imm cc = true) : ccM cc = true := by
  simp [mayS] at h; exact h.2
end Go.Ev
