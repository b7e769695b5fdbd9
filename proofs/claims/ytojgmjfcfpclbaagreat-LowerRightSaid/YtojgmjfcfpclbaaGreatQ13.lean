/- Contracts and plain laws that a statement's proof leans on (texts merged: I5, I6, I14, ZL3). -/
import Derived.Test.YtojgmjfcfpclbaaGreatQ04
import Derived.Test.YtojgmjfcfpclbaaGreatQ06
import Derived.Test.YtojgmjfcfpclbaaGreatQ07
import Derived.Test.YtojgmjfcfpclbaaGreatQ10
import Derived.Test.YtojgmjfcfpclbaaGreatQ12
set_option linter.unusedVariables false
set_option linter.unusedSimpArgs false
namespace Go.Proofs.YtojgmjfcfpclbaaGreat
open Go Go.Ev
set_option maxRecDepth 100000
theorem do_rounds_ok (L0 : List D) : ∀ (l : List IrS) (r : RgS) (m : MachS), l.length ≤ 9223372036854775807 → AllOk l → (∀ s ∈ l, s.may = true) → (runI l r m).2.2.2 = 0 →
    Rounds Tryz.prog (loopB Tryz.f25 0) 4 [.lst .no 13 L0, .undef, .undef, .ptr false 0 0, .ptr false 1 0, .ptr false 2 0, .undef, .undef, .undef, .undef, .lst .tight 13 (l.map IrS.d), .undef, .undef, .undef, .undef, .undef, .undef, .undef, .undef, .undef, .undef, .undef, .undef, .undef, .undef, .undef, .undef, .undef, .undef, .undef, .undef, .undef, .undef, .undef, .undef, .undef, .undef, .undef, .undef, .undef, .undef, .undef, .undef, .undef, .undef, .undef, .undef, .undef, .undef, .undef, .undef, .undef, .undef, .undef, .undef, .undef, .undef, .undef, .undef, .undef, .undef, .undef, .undef, .undef, .undef, .undef, .undef, .undef, .undef, .undef, .undef, .undef, .undef, .undef, .undef, .undef, .undef, .undef, .undef, .undef, .undef, .undef, .undef, .undef, .undef] [.box r.c, .box [.int .u64 0, .int .u64 0, .int .u64 0, .int .u64 0, .int .u64 0, .int .u64 0, .int .u64 0, .int .u64 0, .int .u64 0, .int .u64 0, .int .u64 0], .box m.c, .dead] (.exit 0) [.lst .no 13 L0, .undef, .undef, .ptr false 0 0, .ptr false 1 0, .ptr false 2 0, .undef, .undef, .undef, .undef, .lst .tight 13 ((restI l r m).map IrS.d), .undef, .undef, .undef, .undef, .undef, .undef, .undef, .undef, .undef, .undef, .undef, .undef, .undef, .undef, .undef, .undef, .undef, .undef, .undef, .undef, .undef, .undef, .undef, .undef, .undef, .undef, .undef, .undef, .undef, .undef, .undef, .undef, .undef, .undef, .undef, .undef, .undef, .undef, .undef, .undef, .undef, .undef, .undef, .undef, .undef, .undef, .undef, .undef, .undef, .undef, .undef, .undef, .undef, .undef, .undef, .undef, .undef, .undef, .undef, .undef, .undef, .undef, .undef, .undef, .undef, .undef, .undef, .undef, .undef, .undef, .undef, .undef, .undef, .undef] [.box (runI l r m).1.c, .box [.int .u64 0, .int .u64 0, .int .u64 0, .int .u64 0, .int .u64 0, .int .u64 0, .int .u64 0, .int .u64 0, .int .u64 0, .int .u64 0, .int .u64 0], .box (runI l r m).2.1.c, .dead]
  | [], r, m, _, _, _, _ => Rounds.last (do_end L0 [] r.r0 r.r1 r.r2 r.r3 r.r4 r.r5 r.r6 r.r7 r.r8 r.r9 r.r10 m.q0 m.q1 m.q2 m.q3 m.q4 m.q5 m.q6 m.q7 m.q8 m.q9 m.q10 m.q11 m.q12 m.q13 m.q14 m.q15 m.pc m.fk m.fc m.fz m.fs m.fo) (by simp)
  | s :: t, r, m, hl, ho, hm, he => by
    have hm' := fun s' hs' => hm s' (List.mem_cons_of_mem _ hs')
    have ho' : AllOk t := fun s' hs' => ho s' (List.mem_cons_of_mem _ hs')
    have hl' : (t.map IrS.d).length < 9223372036854775807 := by simp only [List.length_cons] at hl; simp; omega
    obtain ⟨a0, a1, hop, hc, hp, g0, g1⟩ := ho s (List.mem_cons_self ..)
    cases hs : s.stops
    · by_cases h1 : s.kind = 1
      · have e := runI_take (t := t) (r := r) (m := m) h1
        rw [restI_cons e, e]
        rw [e] at he
        obtain ⟨b0, b1, hsc⟩ := may_reg (hm s (List.mem_cons_self ..)) (.inl h1)
        have hsc' : 0 ≤ s.phys ∧ s.phys ≤ 15 := by simp only [scrM, decide_eq_true_eq] at hsc; omega
        obtain ⟨kind, op, w, dst, src, base, disp, imm, cc, reg, phys, num, to⟩ := s
        obtain rfl : kind = 1 := h1
        exact Rounds.more (do_take L0 (t.map IrS.d) r.r0 r.r1 r.r2 r.r3 r.r4 r.r5 r.r6 r.r7 r.r8 r.r9 r.r10 m.q0 m.q1 m.q2 m.q3 m.q4 m.q5 m.q6 m.q7 m.q8 m.q9 m.q10 m.q11 m.q12 m.q13 m.q14 m.q15 m.pc m.fk m.fc m.fz m.fs m.fo hl' op w dst src base disp imm cc reg phys num to b0 b1 hsc'.1 hsc'.2) (do_rounds_ok L0 t r _ (by simp only [List.length_cons] at hl; omega) ho' hm' he)
      · by_cases h2 : s.kind = 2
        · have e := runI_give (t := t) (r := r) (m := m) h2
          rw [restI_cons e, e]
          rw [e] at he
          obtain ⟨b0, b1, hsc⟩ := may_reg (hm s (List.mem_cons_self ..)) (.inr h2)
          have hsc' : 0 ≤ s.phys ∧ s.phys ≤ 15 := by simp only [scrM, decide_eq_true_eq] at hsc; omega
          obtain ⟨kind, op, w, dst, src, base, disp, imm, cc, reg, phys, num, to⟩ := s
          obtain rfl : kind = 2 := h2
          exact Rounds.more (do_give L0 (t.map IrS.d) r.r0 r.r1 r.r2 r.r3 r.r4 r.r5 r.r6 r.r7 r.r8 r.r9 r.r10 m.q0 m.q1 m.q2 m.q3 m.q4 m.q5 m.q6 m.q7 m.q8 m.q9 m.q10 m.q11 m.q12 m.q13 m.q14 m.q15 m.pc m.fk m.fc m.fz m.fs m.fo hl' op w dst src base disp imm cc reg phys num to b0 b1 hsc'.1 hsc'.2) (do_rounds_ok L0 t _ m (by simp only [List.length_cons] at hl; omega) ho' hm' he)
        · have h0 := may_kind0 (hm s (List.mem_cons_self ..)) hs h1 h2
          by_cases hx : (execS m s.x 0).2 = 0
          · have e := runI_x (t := t) (r := r) (m := m) hs h1 h2 hx
            rw [restI_cons e, e]
            rw [e] at he
            obtain ⟨kind, op, w, dst, src, base, disp, imm, cc, reg, phys, num, to⟩ := s
            obtain rfl : kind = 0 := h0
            exact Rounds.more (do_x L0 (t.map IrS.d) r.r0 r.r1 r.r2 r.r3 r.r4 r.r5 r.r6 r.r7 r.r8 r.r9 r.r10 m.q0 m.q1 m.q2 m.q3 m.q4 m.q5 m.q6 m.q7 m.q8 m.q9 m.q10 m.q11 m.q12 m.q13 m.q14 m.q15 m.pc m.fk m.fc m.fz m.fs m.fo hl' op w dst src base disp imm cc reg phys num to hop hs (beq_iff_eq.mpr hx)) (do_rounds_ok L0 t r _ (by simp only [List.length_cons] at hl; omega) ho' hm' he)
          · rw [runI_xe hs h1 h2 hx] at he
            exact absurd he hx
    · rw [restI_stop hs, runI_stop hs]
      obtain ⟨kind, op, w, dst, src, base, disp, imm, cc, reg, phys, num, to⟩ := s
      exact Rounds.last (do_stop L0 (t.map IrS.d) r.r0 r.r1 r.r2 r.r3 r.r4 r.r5 r.r6 r.r7 r.r8 r.r9 r.r10 m.q0 m.q1 m.q2 m.q3 m.q4 m.q5 m.q6 m.q7 m.q8 m.q9 m.q10 m.q11 m.q12 m.q13 m.q14 m.q15 m.pc m.fk m.fc m.fz m.fs m.fo hl' kind op w dst src base disp imm cc reg phys num to a0 a1 hs) (by simp)
theorem do_rounds_err (L0 : List D) : ∀ (l : List IrS) (r : RgS) (m : MachS), l.length ≤ 9223372036854775807 → AllOk l → (∀ s ∈ l, s.may = true) → (runI l r m).2.2.2 ≠ 0 →
    Rounds Tryz.prog (loopB Tryz.f25 0) 4 [.lst .no 13 L0, .undef, .undef, .ptr false 0 0, .ptr false 1 0, .ptr false 2 0, .undef, .undef, .undef, .undef, .lst .tight 13 (l.map IrS.d), .undef, .undef, .undef, .undef, .undef, .undef, .undef, .undef, .undef, .undef, .undef, .undef, .undef, .undef, .undef, .undef, .undef, .undef, .undef, .undef, .undef, .undef, .undef, .undef, .undef, .undef, .undef, .undef, .undef, .undef, .undef, .undef, .undef, .undef, .undef, .undef, .undef, .undef, .undef, .undef, .undef, .undef, .undef, .undef, .undef, .undef, .undef, .undef, .undef, .undef, .undef, .undef, .undef, .undef, .undef, .undef, .undef, .undef, .undef, .undef, .undef, .undef, .undef, .undef, .undef, .undef, .undef, .undef, .undef, .undef, .undef, .undef, .undef, .undef] [.box r.c, .box [.int .u64 0, .int .u64 0, .int .u64 0, .int .u64 0, .int .u64 0, .int .u64 0, .int .u64 0, .int .u64 0, .int .u64 0, .int .u64 0, .int .u64 0], .box m.c, .dead] .ret [.undef, .undef, .undef, .undef, .ptr false 1 0, .ptr false 2 0, .int .i64 0, .int .i64 (runI l r m).2.2.2, .undef, .undef, .undef, .undef, .undef, .undef, .undef, .undef, .undef, .undef, .undef, .undef, .undef, .undef, .undef, .undef, .undef, .undef, .undef, .undef, .undef, .undef, .undef, .undef, .undef, .undef, .undef, .undef, .undef, .undef, .undef, .undef, .undef, .undef, .undef, .undef, .undef, .undef, .undef, .undef, .undef, .undef, .undef, .undef, .undef, .undef, .undef, .undef, .undef, .undef, .undef, .undef, .undef, .undef, .undef, .undef, .undef, .undef, .undef, .undef, .undef, .undef, .undef, .undef, .undef, .undef, .undef, .undef, .undef, .undef, .undef, .undef, .undef, .undef, .undef, .undef, .undef] [.dead, .box [.int .u64 0, .int .u64 0, .int .u64 0, .int .u64 0, .int .u64 0, .int .u64 0, .int .u64 0, .int .u64 0, .int .u64 0, .int .u64 0, .int .u64 0], .box MachS.zero.c, .dead]
  | [], r, m, _, _, _, he => absurd rfl he
  | s :: t, r, m, hl, ho, hm, he => by
    have hm' := fun s' hs' => hm s' (List.mem_cons_of_mem _ hs')
    have ho' : AllOk t := fun s' hs' => ho s' (List.mem_cons_of_mem _ hs')
    have hl' : (t.map IrS.d).length < 9223372036854775807 := by simp only [List.length_cons] at hl; simp; omega
    obtain ⟨a0, a1, hop, hc, hp, g0, g1⟩ := ho s (List.mem_cons_self ..)
    cases hs : s.stops
    · by_cases h1 : s.kind = 1
      · have e := runI_take (t := t) (r := r) (m := m) h1
        rw [e]
        rw [e] at he
        obtain ⟨b0, b1, hsc⟩ := may_reg (hm s (List.mem_cons_self ..)) (.inl h1)
        have hsc' : 0 ≤ s.phys ∧ s.phys ≤ 15 := by simp only [scrM, decide_eq_true_eq] at hsc; omega
        obtain ⟨kind, op, w, dst, src, base, disp, imm, cc, reg, phys, num, to⟩ := s
        obtain rfl : kind = 1 := h1
        exact Rounds.more (do_take L0 (t.map IrS.d) r.r0 r.r1 r.r2 r.r3 r.r4 r.r5 r.r6 r.r7 r.r8 r.r9 r.r10 m.q0 m.q1 m.q2 m.q3 m.q4 m.q5 m.q6 m.q7 m.q8 m.q9 m.q10 m.q11 m.q12 m.q13 m.q14 m.q15 m.pc m.fk m.fc m.fz m.fs m.fo hl' op w dst src base disp imm cc reg phys num to b0 b1 hsc'.1 hsc'.2) (do_rounds_err L0 t r _ (by simp only [List.length_cons] at hl; omega) ho' hm' he)
      · by_cases h2 : s.kind = 2
        · have e := runI_give (t := t) (r := r) (m := m) h2
          rw [e]
          rw [e] at he
          obtain ⟨b0, b1, hsc⟩ := may_reg (hm s (List.mem_cons_self ..)) (.inr h2)
          have hsc' : 0 ≤ s.phys ∧ s.phys ≤ 15 := by simp only [scrM, decide_eq_true_eq] at hsc; omega
          obtain ⟨kind, op, w, dst, src, base, disp, imm, cc, reg, phys, num, to⟩ := s
          obtain rfl : kind = 2 := h2
          exact Rounds.more (do_give L0 (t.map IrS.d) r.r0 r.r1 r.r2 r.r3 r.r4 r.r5 r.r6 r.r7 r.r8 r.r9 r.r10 m.q0 m.q1 m.q2 m.q3 m.q4 m.q5 m.q6 m.q7 m.q8 m.q9 m.q10 m.q11 m.q12 m.q13 m.q14 m.q15 m.pc m.fk m.fc m.fz m.fs m.fo hl' op w dst src base disp imm cc reg phys num to b0 b1 hsc'.1 hsc'.2) (do_rounds_err L0 t _ m (by simp only [List.length_cons] at hl; omega) ho' hm' he)
        · have h0 := may_kind0 (hm s (List.mem_cons_self ..)) hs h1 h2
          by_cases hx : (execS m s.x 0).2 = 0
          · have e := runI_x (t := t) (r := r) (m := m) hs h1 h2 hx
            rw [e]
            rw [e] at he
            obtain ⟨kind, op, w, dst, src, base, disp, imm, cc, reg, phys, num, to⟩ := s
            obtain rfl : kind = 0 := h0
            exact Rounds.more (do_x L0 (t.map IrS.d) r.r0 r.r1 r.r2 r.r3 r.r4 r.r5 r.r6 r.r7 r.r8 r.r9 r.r10 m.q0 m.q1 m.q2 m.q3 m.q4 m.q5 m.q6 m.q7 m.q8 m.q9 m.q10 m.q11 m.q12 m.q13 m.q14 m.q15 m.pc m.fk m.fc m.fz m.fs m.fo hl' op w dst src base disp imm cc reg phys num to hop hs (beq_iff_eq.mpr hx)) (do_rounds_err L0 t r _ (by simp only [List.length_cons] at hl; omega) ho' hm' he)
          · rw [runI_xe hs h1 h2 hx]
            obtain ⟨kind, op, w, dst, src, base, disp, imm, cc, reg, phys, num, to⟩ := s
            obtain rfl : kind = 0 := h0
            exact Rounds.last (do_xe L0 (t.map IrS.d) r.r0 r.r1 r.r2 r.r3 r.r4 r.r5 r.r6 r.r7 r.r8 r.r9 r.r10 m.q0 m.q1 m.q2 m.q3 m.q4 m.q5 m.q6 m.q7 m.q8 m.q9 m.q10 m.q11 m.q12 m.q13 m.q14 m.q15 m.pc m.fk m.fc m.fz m.fs m.fo hl' op w dst src base disp imm cc reg phys num to hop hs (beq_eq_false_iff_ne.mpr hx)) (by simp)
    · rw [runI_stop hs] at he
      exact absurd rfl he
section
variable (l : List IrS) (r0 r1 r2 r3 r4 r5 r6 r7 r8 r9 r10 : Int) (hb : (l.map IrS.d).length ≤ 9223372036854775807) (ho : AllOk l) (hm : badI l = none)
theorem may_all {l : List IrS} (hm : badI l = none) : ∀ s ∈ l, s.may = true := by
  unfold badI at hm
  rw [List.findIdx?_eq_none_iff] at hm
  intro s hs
  simpa using hm s hs
theorem do_run_ok (hb : (l.map IrS.d).length ≤ 9223372036854775807) (ho : AllOk l) (hm : badI l = none) (he : ((runI l ⟨r0, r1, r2, r3, r4, r5, r6, r7, r8, r9, r10⟩ .zero).2.2.2 == 0) = true) :
    LoopRun Tryz.prog 4 (.loop (loopB Tryz.f25 0)) [.lst .no 13 (List.map IrS.d l), .undef, .undef, .ptr false 0 0, .ptr false 1 0, .ptr false 2 0, .undef, .undef, .undef, .undef, .lst .tight 13 (List.take (Int.toNat ((List.map IrS.d l).length : Int)) (List.map IrS.d l)), .undef, .undef, .undef, .undef, .undef, .undef, .undef, .undef, .undef, .undef, .undef, .undef, .undef, .undef, .undef, .undef, .undef, .undef, .undef, .undef, .undef, .undef, .undef, .undef, .undef, .undef, .undef, .undef, .undef, .undef, .undef, .undef, .undef, .undef, .undef, .undef, .undef, .undef, .undef, .undef, .undef, .undef, .undef, .undef, .undef, .undef, .undef, .undef, .undef, .undef, .undef, .undef, .undef, .undef, .undef, .undef, .undef, .undef, .undef, .undef, .undef, .undef, .undef, .undef, .undef, .undef, .undef, .undef, .undef, .undef, .undef, .undef, .undef, .undef] [.box [.int .u64 r0, .int .u64 r1, .int .u64 r2, .int .u64 r3, .int .u64 r4, .int .u64 r5, .int .u64 r6, .int .u64 r7, .int .u64 r8, .int .u64 r9, .int .u64 r10], .box [.int .u64 0, .int .u64 0, .int .u64 0, .int .u64 0, .int .u64 0, .int .u64 0, .int .u64 0, .int .u64 0, .int .u64 0, .int .u64 0, .int .u64 0], .box [.int .u64 0, .int .u64 0, .int .u64 0, .int .u64 0, .int .u64 0, .int .u64 0, .int .u64 0, .int .u64 0, .int .u64 0, .int .u64 0, .int .u64 0, .int .u64 0, .int .u64 0, .int .u64 0, .int .u64 0, .int .u64 0, .bool false, .bool false, .bool false, .bool false, .bool false, .int .u64 0], .dead] (.exit 0) [.lst .no 13 (List.map IrS.d l), .undef, .undef, .ptr false 0 0, .ptr false 1 0, .ptr false 2 0, .undef, .undef, .undef, .undef, .lst .tight 13 ((restI l ⟨r0, r1, r2, r3, r4, r5, r6, r7, r8, r9, r10⟩ .zero).map IrS.d), .undef, .undef, .undef, .undef, .undef, .undef, .undef, .undef, .undef, .undef, .undef, .undef, .undef, .undef, .undef, .undef, .undef, .undef, .undef, .undef, .undef, .undef, .undef, .undef, .undef, .undef, .undef, .undef, .undef, .undef, .undef, .undef, .undef, .undef, .undef, .undef, .undef, .undef, .undef, .undef, .undef, .undef, .undef, .undef, .undef, .undef, .undef, .undef, .undef, .undef, .undef, .undef, .undef, .undef, .undef, .undef, .undef, .undef, .undef, .undef, .undef, .undef, .undef, .undef, .undef, .undef, .undef, .undef, .undef, .undef, .undef, .undef, .undef, .undef] [.box (runI l ⟨r0, r1, r2, r3, r4, r5, r6, r7, r8, r9, r10⟩ .zero).1.c, .box [.int .u64 0, .int .u64 0, .int .u64 0, .int .u64 0, .int .u64 0, .int .u64 0, .int .u64 0, .int .u64 0, .int .u64 0, .int .u64 0, .int .u64 0], .box (runI l ⟨r0, r1, r2, r3, r4, r5, r6, r7, r8, r9, r10⟩ .zero).2.1.c, .dead] := by
  have hb' : l.length ≤ 9223372036854775807 := by simpa using hb
  rw [show List.take (Int.toNat ((List.map IrS.d l).length : Int)) (List.map IrS.d l) = List.map IrS.d l by rw [Int.toNat_natCast, List.take_length]]
  exact LoopRun.of_rounds (Nat.le_refl 4) (do_rounds_ok (List.map IrS.d l) l ⟨r0, r1, r2, r3, r4, r5, r6, r7, r8, r9, r10⟩ .zero hb' ho (may_all hm) (beq_iff_eq.mp he))
theorem do_run_err (hb : (l.map IrS.d).length ≤ 9223372036854775807) (ho : AllOk l) (hm : badI l = none) (he : ((runI l ⟨r0, r1, r2, r3, r4, r5, r6, r7, r8, r9, r10⟩ .zero).2.2.2 == 0) = false) :
    LoopRun Tryz.prog 4 (.loop (loopB Tryz.f25 0)) [.lst .no 13 (List.map IrS.d l), .undef, .undef, .ptr false 0 0, .ptr false 1 0, .ptr false 2 0, .undef, .undef, .undef, .undef, .lst .tight 13 (List.take (Int.toNat ((List.map IrS.d l).length : Int)) (List.map IrS.d l)), .undef, .undef, .undef, .undef, .undef, .undef, .undef, .undef, .undef, .undef, .undef, .undef, .undef, .undef, .undef, .undef, .undef, .undef, .undef, .undef, .undef, .undef, .undef, .undef, .undef, .undef, .undef, .undef, .undef, .undef, .undef, .undef, .undef, .undef, .undef, .undef, .undef, .undef, .undef, .undef, .undef, .undef, .undef, .undef, .undef, .undef, .undef, .undef, .undef, .undef, .undef, .undef, .undef, .undef, .undef, .undef, .undef, .undef, .undef, .undef, .undef, .undef, .undef, .undef, .undef, .undef, .undef, .undef, .undef, .undef, .undef, .undef, .undef, .undef] [.box [.int .u64 r0, .int .u64 r1, .int .u64 r2, .int .u64 r3, .int .u64 r4, .int .u64 r5, .int .u64 r6, .int .u64 r7, .int .u64 r8, .int .u64 r9, .int .u64 r10], .box [.int .u64 0, .int .u64 0, .int .u64 0, .int .u64 0, .int .u64 0, .int .u64 0, .int .u64 0, .int .u64 0, .int .u64 0, .int .u64 0, .int .u64 0], .box [.int .u64 0, .int .u64 0, .int .u64 0, .int .u64 0, .int .u64 0, .int .u64 0, .int .u64 0, .int .u64 0, .int .u64 0, .int .u64 0, .int .u64 0, .int .u64 0, .int .u64 0, .int .u64 0, .int .u64 0, .int .u64 0, .bool false, .bool false, .bool false, .bool false, .bool false, .int .u64 0], .dead] .ret [.undef, .undef, .undef, .undef, .ptr false 1 0, .ptr false 2 0, .int .i64 0, .int .i64 (runI l ⟨r0, r1, r2, r3, r4, r5, r6, r7, r8, r9, r10⟩ .zero).2.2.2, .undef, .undef, .undef, .undef, .undef, .undef, .undef, .undef, .undef, .undef, .undef, .undef, .undef, .undef, .undef, .undef, .undef, .undef, .undef, .undef, .undef, .undef, .undef, .undef, .undef, .undef, .undef, .undef, .undef, .undef, .undef, .undef, .undef, .undef, .undef, .undef, .undef, .undef, .undef, .undef, .undef, .undef, .undef, .undef, .undef, .undef, .undef, .undef, .undef, .undef, .undef, .undef, .undef, .undef, .undef, .undef, .undef, .undef, .undef, .undef, .undef, .undef, .undef, .undef, .undef, .undef, .undef, .undef, .undef, .undef, .undef, .undef, .undef, .undef, .undef, .undef, .undef] [.dead, .box [.int .u64 0, .int .u64 0, .int .u64 0, .int .u64 0, .int .u64 0, .int .u64 0, .int .u64 0, .int .u64 0, .int .u64 0, .int .u64 0, .int .u64 0], .box MachS.zero.c, .dead] := by
  have hb' : l.length ≤ 9223372036854775807 := by simpa using hb
  rw [show List.take (Int.toNat ((List.map IrS.d l).length : Int)) (List.map IrS.d l) = List.map IrS.d l by rw [Int.toNat_natCast, List.take_length]]
  exact LoopRun.of_rounds (Nat.le_refl 4) (do_rounds_err (List.map IrS.d l) l ⟨r0, r1, r2, r3, r4, r5, r6, r7, r8, r9, r10⟩ .zero hb' ho (may_all hm) (beq_eq_false_iff_ne.mp he))
end
end Go.Proofs.YtojgmjfcfpclbaaGreat

namespace Go.Proofs.YtojgmjfcfpclbaaGreat
open Go Go.Ev
set_option maxRecDepth 100000
set_option maxHeartbeats 8000000
theorem do_ok_ok (l : List IrS) (a0 a1 a2 a3 a4 a5 a6 a7 a8 a9 a10 : Int) (hb : (l.map IrS.d).length ≤ 9223372036854775807) (ho : AllOk l) (hm : badI l = none) (he : ((runI l ⟨a0, a1, a2, a3, a4, a5, a6, a7, a8, a9, a10⟩ .zero).2.2.2 == 0) = true) : Ret Tryz.prog 25 ([.lst .no 13 (l.map IrS.d), .agg [.int .u64 a0, .int .u64 a1, .int .u64 a2, .int .u64 a3, .int .u64 a4, .int .u64 a5, .int .u64 a6, .int .u64 a7, .int .u64 a8, .int .u64 a9, .int .u64 a10]]) (.tup [(runI l ⟨a0, a1, a2, a3, a4, a5, a6, a7, a8, a9, a10⟩ .zero).1.d, (runI l ⟨a0, a1, a2, a3, a4, a5, a6, a7, a8, a9, a10⟩ .zero).2.1.d, .int .i64 (IntKind.i64.wrap (((l.map IrS.d).length : Int) - (((restI l ⟨a0, a1, a2, a3, a4, a5, a6, a7, a8, a9, a10⟩ .zero).map IrS.d).length : Int))), .int .i64 0]) := by
 have c0 := @chk_n_ok l hb ho hm
 have c1 := @do_run_ok l a0 a1 a2 a3 a4 a5 a6 a7 a8 a9 a10 hb ho hm (eqI 0 true (eq_of_beq he))
 generalize g3 : List.map IrS.d l = r2 at c1
 generalize g5 : List.map IrS.d (restI l ⟨a0, a1, a2, a3, a4, a5, a6, a7, a8, a9, a10⟩ MachS.zero) = r4 at c1
 exact (o25 (d := .tup [.agg [.int .u64 (RgS.r0 (Prod.fst (runI l ⟨a0, a1, a2, a3, a4, a5, a6, a7, a8, a9, a10⟩ MachS.zero))), .int .u64 (RgS.r1 (Prod.fst (runI l ⟨a0, a1, a2, a3, a4, a5, a6, a7, a8, a9, a10⟩ MachS.zero))), .int .u64 (RgS.r2 (Prod.fst (runI l ⟨a0, a1, a2, a3, a4, a5, a6, a7, a8, a9, a10⟩ MachS.zero))), .int .u64 (RgS.r3 (Prod.fst (runI l ⟨a0, a1, a2, a3, a4, a5, a6, a7, a8, a9, a10⟩ MachS.zero))), .int .u64 (RgS.r4 (Prod.fst (runI l ⟨a0, a1, a2, a3, a4, a5, a6, a7, a8, a9, a10⟩ MachS.zero))), .int .u64 (RgS.r5 (Prod.fst (runI l ⟨a0, a1, a2, a3, a4, a5, a6, a7, a8, a9, a10⟩ MachS.zero))), .int .u64 (RgS.r6 (Prod.fst (runI l ⟨a0, a1, a2, a3, a4, a5, a6, a7, a8, a9, a10⟩ MachS.zero))), .int .u64 (RgS.r7 (Prod.fst (runI l ⟨a0, a1, a2, a3, a4, a5, a6, a7, a8, a9, a10⟩ MachS.zero))), .int .u64 (RgS.r8 (Prod.fst (runI l ⟨a0, a1, a2, a3, a4, a5, a6, a7, a8, a9, a10⟩ MachS.zero))), .int .u64 (RgS.r9 (Prod.fst (runI l ⟨a0, a1, a2, a3, a4, a5, a6, a7, a8, a9, a10⟩ MachS.zero))), .int .u64 (RgS.r10 (Prod.fst (runI l ⟨a0, a1, a2, a3, a4, a5, a6, a7, a8, a9, a10⟩ MachS.zero)))], .agg [.int .u64 (MachS.q0 (Prod.fst (Prod.snd (runI l ⟨a0, a1, a2, a3, a4, a5, a6, a7, a8, a9, a10⟩ MachS.zero)))), .int .u64 (MachS.q1 (Prod.fst (Prod.snd (runI l ⟨a0, a1, a2, a3, a4, a5, a6, a7, a8, a9, a10⟩ MachS.zero)))), .int .u64 (MachS.q2 (Prod.fst (Prod.snd (runI l ⟨a0, a1, a2, a3, a4, a5, a6, a7, a8, a9, a10⟩ MachS.zero)))), .int .u64 (MachS.q3 (Prod.fst (Prod.snd (runI l ⟨a0, a1, a2, a3, a4, a5, a6, a7, a8, a9, a10⟩ MachS.zero)))), .int .u64 (MachS.q4 (Prod.fst (Prod.snd (runI l ⟨a0, a1, a2, a3, a4, a5, a6, a7, a8, a9, a10⟩ MachS.zero)))), .int .u64 (MachS.q5 (Prod.fst (Prod.snd (runI l ⟨a0, a1, a2, a3, a4, a5, a6, a7, a8, a9, a10⟩ MachS.zero)))), .int .u64 (MachS.q6 (Prod.fst (Prod.snd (runI l ⟨a0, a1, a2, a3, a4, a5, a6, a7, a8, a9, a10⟩ MachS.zero)))), .int .u64 (MachS.q7 (Prod.fst (Prod.snd (runI l ⟨a0, a1, a2, a3, a4, a5, a6, a7, a8, a9, a10⟩ MachS.zero)))), .int .u64 (MachS.q8 (Prod.fst (Prod.snd (runI l ⟨a0, a1, a2, a3, a4, a5, a6, a7, a8, a9, a10⟩ MachS.zero)))), .int .u64 (MachS.q9 (Prod.fst (Prod.snd (runI l ⟨a0, a1, a2, a3, a4, a5, a6, a7, a8, a9, a10⟩ MachS.zero)))), .int .u64 (MachS.q10 (Prod.fst (Prod.snd (runI l ⟨a0, a1, a2, a3, a4, a5, a6, a7, a8, a9, a10⟩ MachS.zero)))), .int .u64 (MachS.q11 (Prod.fst (Prod.snd (runI l ⟨a0, a1, a2, a3, a4, a5, a6, a7, a8, a9, a10⟩ MachS.zero)))), .int .u64 (MachS.q12 (Prod.fst (Prod.snd (runI l ⟨a0, a1, a2, a3, a4, a5, a6, a7, a8, a9, a10⟩ MachS.zero)))), .int .u64 (MachS.q13 (Prod.fst (Prod.snd (runI l ⟨a0, a1, a2, a3, a4, a5, a6, a7, a8, a9, a10⟩ MachS.zero)))), .int .u64 (MachS.q14 (Prod.fst (Prod.snd (runI l ⟨a0, a1, a2, a3, a4, a5, a6, a7, a8, a9, a10⟩ MachS.zero)))), .int .u64 (MachS.q15 (Prod.fst (Prod.snd (runI l ⟨a0, a1, a2, a3, a4, a5, a6, a7, a8, a9, a10⟩ MachS.zero)))), .bool (MachS.fk (Prod.fst (Prod.snd (runI l ⟨a0, a1, a2, a3, a4, a5, a6, a7, a8, a9, a10⟩ MachS.zero)))), .bool (MachS.fc (Prod.fst (Prod.snd (runI l ⟨a0, a1, a2, a3, a4, a5, a6, a7, a8, a9, a10⟩ MachS.zero)))), .bool (MachS.fz (Prod.fst (Prod.snd (runI l ⟨a0, a1, a2, a3, a4, a5, a6, a7, a8, a9, a10⟩ MachS.zero)))), .bool (MachS.fs (Prod.fst (Prod.snd (runI l ⟨a0, a1, a2, a3, a4, a5, a6, a7, a8, a9, a10⟩ MachS.zero)))), .bool (MachS.fo (Prod.fst (Prod.snd (runI l ⟨a0, a1, a2, a3, a4, a5, a6, a7, a8, a9, a10⟩ MachS.zero)))), .int .u64 (MachS.pc (Prod.fst (Prod.snd (runI l ⟨a0, a1, a2, a3, a4, a5, a6, a7, a8, a9, a10⟩ MachS.zero))))], .int .i64 (IntKind.wrap IntKind.i64 ((↑(List.length r2) : Int) - (↑(List.length r4) : Int))), .int .i64 0]) [.ret _ _ _ c0, tF, tC (v := true) (@sl3 (List.length (List.map IrS.d l))), .head ⟨[0, 3, 4, 5, 10], [0, 1, 2], []⟩ _ _ _ _ _ _ _ c1] (by kernel_rfl)).to (by first | exact ⟨wkL_agg rfl, wkL_agg rfl, rfl, rfl, trivial⟩ | (simp only [wk, wkL, and_true, RgS.d, RgS.c, MachS.d]; done))
theorem do_err_ok (l : List IrS) (a0 a1 a2 a3 a4 a5 a6 a7 a8 a9 a10 : Int) (hb : (l.map IrS.d).length ≤ 9223372036854775807) (ho : AllOk l) (hm : badI l = none) (he : ((runI l ⟨a0, a1, a2, a3, a4, a5, a6, a7, a8, a9, a10⟩ .zero).2.2.2 == 0) = false) : Ret Tryz.prog 25 ([.lst .no 13 (l.map IrS.d), .agg [.int .u64 a0, .int .u64 a1, .int .u64 a2, .int .u64 a3, .int .u64 a4, .int .u64 a5, .int .u64 a6, .int .u64 a7, .int .u64 a8, .int .u64 a9, .int .u64 a10]]) (.tup [RgS.zero.d, MachS.zero.d, .int .i64 0, .int .i64 (runI l ⟨a0, a1, a2, a3, a4, a5, a6, a7, a8, a9, a10⟩ .zero).2.2.2]) := by
 have c0 := @chk_n_ok l hb ho hm
 have c1 := @do_run_err l a0 a1 a2 a3 a4 a5 a6 a7 a8 a9 a10 hb ho hm he
 generalize g3 : Prod.snd (Prod.snd (Prod.snd (runI l ⟨a0, a1, a2, a3, a4, a5, a6, a7, a8, a9, a10⟩ MachS.zero))) = r2 at c1
 exact (o25 (d := .tup [.agg [.int .u64 0, .int .u64 0, .int .u64 0, .int .u64 0, .int .u64 0, .int .u64 0, .int .u64 0, .int .u64 0, .int .u64 0, .int .u64 0, .int .u64 0], .agg [.int .u64 0, .int .u64 0, .int .u64 0, .int .u64 0, .int .u64 0, .int .u64 0, .int .u64 0, .int .u64 0, .int .u64 0, .int .u64 0, .int .u64 0, .int .u64 0, .int .u64 0, .int .u64 0, .int .u64 0, .int .u64 0, .bool false, .bool false, .bool false, .bool false, .bool false, .int .u64 0], .int .i64 0, .int .i64 r2]) [.ret _ _ _ c0, tF, tC (v := true) (@sl3 (List.length (List.map IrS.d l))), .head ⟨[0, 3, 4, 5, 10], [0, 1, 2], []⟩ _ _ _ _ _ _ _ c1] (by kernel_rfl)).to (by simp [wk, wkL, RgS.zero, RgS.d, RgS.c, MachS.zero, MachS.d, MachS.c])
theorem do_bad_ok (l : List IrS) (a0 a1 a2 a3 a4 a5 a6 a7 a8 a9 a10 : Int) (hb : (l.map IrS.d).length ≤ 9223372036854775807) (ho : AllOk l) (j : Nat) (hm : badI l = some j) : Ret Tryz.prog 25 ([.lst .no 13 (l.map IrS.d), .agg [.int .u64 a0, .int .u64 a1, .int .u64 a2, .int .u64 a3, .int .u64 a4, .int .u64 a5, .int .u64 a6, .int .u64 a7, .int .u64 a8, .int .u64 a9, .int .u64 a10]]) (.tup [RgS.zero.d, MachS.zero.d, .int .i64 0, .int .i64 2]) := by
 have c0 := @chk_s_ok l hb ho _ hm
 exact (o25 (d := .tup [.agg [.int .u64 0, .int .u64 0, .int .u64 0, .int .u64 0, .int .u64 0, .int .u64 0, .int .u64 0, .int .u64 0, .int .u64 0, .int .u64 0, .int .u64 0], .agg [.int .u64 0, .int .u64 0, .int .u64 0, .int .u64 0, .int .u64 0, .int .u64 0, .int .u64 0, .int .u64 0, .int .u64 0, .int .u64 0, .int .u64 0, .int .u64 0, .int .u64 0, .int .u64 0, .int .u64 0, .int .u64 0, .bool false, .bool false, .bool false, .bool false, .bool false, .int .u64 0], .int .i64 0, .int .i64 2]) [.ret _ _ _ c0, tT] (by kernel_rfl)).to (by simp [wk, wkL, RgS.zero, RgS.d, RgS.c, MachS.zero, MachS.d])
end Go.Proofs.YtojgmjfcfpclbaaGreat

namespace Go.Proofs.YtojgmjfcfpclbaaGreat
open Go Go.Ev
set_option maxRecDepth 100000
theorem ido_ok (l : List IrS) (r : RgS) (hb : l.length ≤ 9223372036854775807) (ho : AllOk l) :
    Ret Tryz.prog 25 [.lst .no 13 (l.map IrS.d), r.d] (.tup [(doI l r).1.d, (doI l r).2.1.d, .int .i64 (doI l r).2.2.1, .int .i64 (doI l r).2.2.2]) := by
  have hb' : (l.map IrS.d).length ≤ 9223372036854775807 := by simpa using hb
  cases h : badI l with
  | none =>
    have hc : (chkI l).2 = 0 := by unfold chkI; rw [h]
    by_cases he : (runI l r .zero).2.2.2 = 0
    · rw [doI_ok hc he]
      have hk := do_ok_ok l r.r0 r.r1 r.r2 r.r3 r.r4 r.r5 r.r6 r.r7 r.r8 r.r9 r.r10 hb' ho h (beq_iff_eq.mpr he)
      have hl := runI_left l r .zero
      have ew : IntKind.i64.wrap (((l.map IrS.d).length : Int) - (((restI l r .zero).map IrS.d).length : Int)) = ((l.length - (runI l r .zero).2.2.1 : Nat) : Int) := by
        rw [List.length_map, List.length_map, restI_len, w_i64]
        omega
      rw [← ew]
      exact hk
    · have e : doI l r = (.zero, .zero, 0, (runI l r .zero).2.2.2) := by
        unfold doI
        simp only [if_pos hc, if_neg he]
      rw [e]
      exact do_err_ok l r.r0 r.r1 r.r2 r.r3 r.r4 r.r5 r.r6 r.r7 r.r8 r.r9 r.r10 hb' ho h (beq_eq_false_iff_ne.mpr he)
  | some k =>
    have hc : ¬ (chkI l).2 = 0 := by unfold chkI; rw [h]; simp
    have e : doI l r = (.zero, .zero, 0, 2) := by
      unfold doI
      simp only [if_neg hc]
    rw [e]
    exact do_bad_ok l r.r0 r.r1 r.r2 r.r3 r.r4 r.r5 r.r6 r.r7 r.r8 r.r9 r.r10 hb' ho k h
end Go.Proofs.YtojgmjfcfpclbaaGreat

namespace Go.Proofs.YtojgmjfcfpclbaaGreat
open Go Go.Ev
set_option maxRecDepth 100000
theorem cut_nn {w b : Int} (hb : inU b) : 0 ≤ cutM b w := by
  obtain ⟨b0, _⟩ := hb
  unfold cutM
  repeat' split
  all_goals omega
theorem rdo_3_ok (w a b : Int) (hw : longM w = true) (hb : 0 ≤ cutM b w) : Ret Tryz.prog 42 [.int .i8 3, .int .i8 w, .int .u64 a, .int .u64 b] (.tup [.int .u64 (doM 3 w a b), .int .i64 0]) := by
  cases hq : decide (cutM b w < 1)
  · exact rdo_3p_ok w a b hw hb hq
  · exact rdo_3z_ok w a b hw hb hq
theorem rdo_9_ok (w a b : Int) (hw : longM w = true) (hb : 0 ≤ cutM b w) : Ret Tryz.prog 42 [.int .i8 9, .int .i8 w, .int .u64 a, .int .u64 b] (.tup [.int .u64 (doM 9 w a b), .int .i64 0]) := by
  cases hq : decide (cutM b w < 1)
  · exact rdo_9p_ok w a b hw hb hq
  · exact rdo_9z_ok w a b hw hb hq
theorem rdo_any_ok (op w a b : Int) (hw : w = 32 ∨ w = 64) (hb : inU b) (ho : op = 0 ∨ op = 1 ∨ op = 2 ∨ op = 3 ∨ op = 4 ∨ op = 5 ∨ op = 6 ∨ op = 7 ∨ op = 8 ∨ op = 9 ∨ op = 10 ∨ op = 11 ∨ op = 12) :
    Ret Tryz.prog 42 [.int .i8 op, .int .i8 w, .int .u64 a, .int .u64 b] (.tup [.int .u64 (doM op w a b), .int .i64 0]) := by
  have hl : longM w = true := by rcases hw with rfl | rfl <;> rfl
  rcases ho with rfl | rfl | rfl | rfl | rfl | rfl | rfl | rfl | rfl | rfl | rfl | rfl | rfl
  · exact rdo_0_ok w a b hl
  · exact rdo_1_ok w a b hl
  · exact rdo_2_ok w a b hl
  · exact rdo_3_ok w a b hl (cut_nn hb)
  · exact rdo_4_ok w a b hl
  · exact rdo_5_ok w a b hl
  · exact rdo_6_ok w a b hl
  · exact rdo_7_ok w a b hl
  · exact rdo_8_ok w a b hl
  · exact rdo_9_ok w a b hl (cut_nn hb)
  · exact rdo_10_ok w a b hl
  · exact rdo_11_ok w a b hl
  · exact rdo_12_ok w a b hl
theorem alu_ir (op w : Int) (byReg : Bool) (dst src imm : Int) : ((aluM op w byReg dst src imm).map irOf).map IrS.d = aluM op w byReg dst src imm := steps_ir 0 op w 0 byReg dst src 0 imm
theorem alu_small (op w : Int) (byReg : Bool) (dst src imm : Int) : (aluM op w byReg dst src imm).length ≤ 12 := by
  unfold aluM
  repeat' split
  all_goals simp
theorem alu_okS {op w : Int} {byReg : Bool} {dst src imm : Int} (ho : op = 0 ∨ op = 1 ∨ op = 2 ∨ op = 3 ∨ op = 4 ∨ op = 5 ∨ op = 6 ∨ op = 7 ∨ op = 8 ∨ op = 9 ∨ op = 10 ∨ op = 11 ∨ op = 12) (d0 : 0 ≤ dst) (d1 : dst ≤ 10) (s0 : 0 ≤ src) (s1 : src ≤ 10) : AllOk ((aluM op w byReg dst src imm).map irOf) := by
  intro s hs
  rw [List.mem_map] at hs
  obtain ⟨d, hd, rfl⟩ := hs
  unfold IrS.ok
  unfold aluM regOp immOp at hd
  rcases ho with rfl | rfl | rfl | rfl | rfl | rfl | rfl | rfl | rfl | rfl | rfl | rfl | rfl <;> cases byReg <;> simp only [reduceIte, Int.reduceEq, if_true, if_false, Bool.false_eq_true, or_false, or_true, false_or, true_or, or_self] at hd
  all_goals (repeat' split at hd)
  all_goals simp only [List.mem_cons, List.mem_append, List.not_mem_nil, or_false] at hd
  all_goals first
    | (rcases hd with rfl | rfl | rfl | rfl | rfl <;> simp [irOf] <;> omega)
    | (rcases hd with rfl | rfl | rfl | rfl <;> simp [irOf] <;> omega)
    | (rcases hd with rfl | rfl | rfl <;> simp [irOf] <;> omega)
    | (rcases hd with rfl | rfl <;> simp [irOf] <;> omega)
    | (rcases hd with (rfl | rfl | rfl | rfl | rfl | rfl | rfl | rfl) | rfl | rfl | rfl | rfl <;> simp [irOf] <;> omega)
theorem right_any_ok (kind op width size : Int) (byReg : Bool) (dst src off imm : Int) (r : RgS) (hr : ∀ k, inU (r.get k)) :
    Ret Tryz.prog 5 [instD kind op width size byReg dst src off imm, r.d] (.bool true) := by
  cases hk : kind == 0
  · exact right_k_ok _ _ _ _ _ _ _ _ _ _ _ _ _ _ _ _ _ _ _ _ hk
  cases hm : mayM kind op width size byReg dst src off imm
  · exact right_m_ok _ _ _ _ _ _ _ _ _ _ _ _ _ _ _ _ _ _ _ _ hm
  obtain rfl : kind = 0 := by simpa using hk
  obtain ⟨⟨d0, d1, s0, s1, _, _, i1, i2⟩, hf⟩ := may_forms hm
  rcases hf with ⟨_, rfl, rfl, _, h8, ho, hw, _, _⟩ | ⟨h0, _⟩ | ⟨h0, _⟩ | ⟨h0, _⟩ | ⟨h0, _⟩ | ⟨h0, _⟩ | ⟨h0, _⟩
  · obtain ⟨m, hd⟩ := alu_do (dst := dst) (src := src) hr d0 d1 s0 s1 hw h8 ho i1 i2
    have hone := one_alu_ok op width byReg dst src imm hm
    rw [← alu_ir] at hone
    have hlen := alu_small op width byReg dst src imm
    have hdo := ido_ok ((aluM op width byReg dst src imm).map irOf) r (by rw [List.length_map]; omega) (alu_okS ho d0 d1 s0 s1)
    rw [hd] at hdo
    have hl : ((((aluM op width byReg dst src imm).map irOf).length : Nat) : Int) = ((((aluM op width byReg dst src imm).map irOf).map IrS.d).length : Int) := by rw [List.length_map (f := IrS.d)]
    rw [hl] at hdo
    cases byReg
    · have hb : inU (u64 imm) := u64_range imm
      exact right_false_ok op width dst src imm r.r0 r.r1 r.r2 r.r3 r.r4 r.r5 r.r6 r.r7 r.r8 r.r9 r.r10 hm d0 d1 s0 s1 _ m _ hone hdo (rdo_any_ok op width (r.get dst) (u64 imm) hw hb ho)
    · exact right_true_ok op width dst src imm r.r0 r.r1 r.r2 r.r3 r.r4 r.r5 r.r6 r.r7 r.r8 r.r9 r.r10 hm d0 d1 s0 s1 _ m _ hone hdo (rdo_any_ok op width (r.get dst) (r.get src) hw (hr src) ho)
  all_goals exact absurd h0 (by decide)
end Go.Proofs.YtojgmjfcfpclbaaGreat
