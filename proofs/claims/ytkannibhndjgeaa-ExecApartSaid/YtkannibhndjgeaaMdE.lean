/- Plain laws of words cut to a width, for the statements of chapter 15. -/
import Derived.Test.YtkannibhndjgeaaMdF2
namespace Go.Ev
open Go
set_option linter.unusedVariables false
set_option linter.unusedSimpArgs false

theorem u64_same (n : Int) : (u64 n == IntKind.u64.wrap n) = true := beq_self_eq_true _
theorem fd8 (a : Int) : a.fdiv 8 = a / 8 := Int.fdiv_eq_ediv_of_nonneg _ (by decide)
def inU (n : Int) : Prop := 0 ≤ n ∧ n ≤ 18446744073709551615
theorem cut_range {v w : Int} (h : inU v) : inU (cutM v w) ∧ cutM v w ≤ v := by
  unfold inU at *
  unfold cutM
  split
  · omega
  · split
    · omega
    · split <;> omega
theorem cut_cut (v w : Int) : cutM (cutM v w) w = cutM v w := by
  unfold cutM
  split
  · omega
  · split
    · omega
    · split
      · omega
      · rfl
theorem rg_in {l : List Int} (h : ∀ x ∈ l, inU x) (i : Int) : inU (rg l i) := by
  unfold rg
  rw [List.getD_eq_getElem?_getD]
  cases e : l[i.toNat]? with
  | none => exact ⟨by decide, by decide⟩
  | some x => exact h x (List.mem_of_getElem? e)
theorem u64_in {n : Int} (h : inU n) : u64 n = n := by
  unfold u64 inU at *
  rw [w_u64]; omega
theorem tdiv_le {a b : Int} (ha : 0 ≤ a) (hb : 0 ≤ b) : 0 ≤ a.tdiv b ∧ a.tdiv b ≤ a := by
  rw [Int.tdiv_eq_ediv_of_nonneg ha]
  refine ⟨Int.ediv_nonneg ha hb, ?_⟩
  exact Int.ediv_le_self b ha
theorem tmod_le {a b : Int} (ha : 0 ≤ a) (hb : 0 ≤ b) : 0 ≤ a.tmod b ∧ a.tmod b ≤ a := by
  rw [Int.tmod_eq_emod_of_nonneg ha]
  rcases Int.lt_or_eq_of_le hb with h | h
  · refine ⟨Int.emod_nonneg _ (by omega), ?_⟩
    have h1 := Int.emod_add_mul_ediv a b
    have h2 := Int.mul_nonneg hb (Int.ediv_nonneg ha hb)
    omega
  · subst h; simp [ha]
theorem cut_small {v w n : Int} (hv : 0 ≤ v) (h : v ≤ cutM n w) (hn : inU n) : cutM v w = v := by
  have := cut_range (w := w) hn
  unfold inU at *
  unfold cutM at *
  split
  · rename_i e; rw [if_pos e] at h; omega
  · rename_i e
    rw [if_neg e] at h
    split
    · rename_i e2; rw [if_pos e2] at h; omega
    · rename_i e2
      rw [if_neg e2] at h
      split
      · rename_i e3; rw [if_pos e3] at h; omega
      · rfl
/-- A division's quotient and rest are the source's. -/
theorem div_same {a b w : Int} (ha : inU a) (hb : inU b) (h : (cutM b w == 0) = false) : (u64 ((cutM a w).tdiv (cutM b w)) == doM 3 w a (cutM b w)) = true := by
  rw [beq_eq_false_iff_ne] at h
  rw [beq_iff_eq]
  have h1 := cut_range (w := w) ha
  have h2 := cut_range (w := w) hb
  have h3 := tdiv_le h1.1.1 h2.1.1
  unfold doM
  rw [cut_cut]
  have e : opM 3 (cutM a w) (cutM b w) (byM (cutM b w) w) w = u64 ((cutM a w).tdiv (cutM b w)) := by
    simp [opM, h]
  rw [e, u64_in ⟨h3.1, by have := h1.1.2; omega⟩, cut_small h3.1 h3.2 ha]
theorem mod_same {a b w : Int} (ha : inU a) (hb : inU b) (h : (cutM b w == 0) = false) : ((cutM a w).tmod (cutM b w) == doM 9 w a (cutM b w)) = true := by
  rw [beq_eq_false_iff_ne] at h
  rw [beq_iff_eq]
  have h1 := cut_range (w := w) ha
  have h2 := cut_range (w := w) hb
  have h3 := tmod_le h1.1.1 h2.1.1
  unfold doM
  rw [cut_cut]
  have e : opM 9 (cutM a w) (cutM b w) (byM (cutM b w) w) w = (cutM a w).tmod (cutM b w) := by
    simp [opM, h]
  rw [e, cut_small h3.1 h3.2 ha]
/-- A bit of a number, as the statements ask for it. -/
def bitOf (w k : Int) : Int := IntKind.i64.wrap ((BitVec.ofInt 64 (w.fdiv (2 ^ (min k.toNat 64))) &&& BitVec.ofInt 64 1).toNat : Int)
theorem bit_zf {w k : Int} (h : (bitOf w k == 0) = false) : (IntKind.i64.wrap ((BitVec.ofInt 64 (w.fdiv (2 ^ (min k.toNat 64))) &&& BitVec.ofInt 64 1).toNat : Int) == 0) = false := h
theorem bit_zt {w k : Int} (h : (bitOf w k == 0) = true) : (IntKind.i64.wrap ((BitVec.ofInt 64 (w.fdiv (2 ^ (min k.toNat 64))) &&& BitVec.ofInt 64 1).toNat : Int) == 0) = true := h
theorem bit_of {w k : Int} (h : (bitOf w k == 1) = false) : (IntKind.i64.wrap ((BitVec.ofInt 64 (w.fdiv (2 ^ (min k.toNat 64))) &&& BitVec.ofInt 64 1).toNat : Int) == 1) = false := h
theorem bit_ot {w k : Int} (h : (bitOf w k == 1) = true) : (IntKind.i64.wrap ((BitVec.ofInt 64 (w.fdiv (2 ^ (min k.toNat 64))) &&& BitVec.ofInt 64 1).toNat : Int) == 1) = true := h
theorem succ16 {k : Int} (h0 : 0 ≤ k) (h1 : k ≤ 15) : IntKind.i64.wrap (k + 1) = k + 1 := by rw [w_i64]; omega
theorem i8_16 {k : Int} (h0 : 0 ≤ k) (h1 : k ≤ 15) : IntKind.i8.wrap k = k := by rw [w_i8]; omega
/-- Which instructions of two registers may be. -/
def mayP (w dst src : Int) : Bool := longM w && regM dst && regM src
theorem may_pair {op w dst src : Int} (h : shapeM op = 1) : mayX op w dst src 0 0 0 0 = mayP w dst src := by
  unfold mayX mayP
  rw [h]
  simp only [mayS]
  rw [Bool.eq_iff_iff]
  simp [regM, longM]
  constructor <;> intro h <;> omega
theorem mayP_out {w dst src : Int} (h : mayP w dst src = true) : longM w = true ∧ 0 ≤ dst ∧ dst ≤ 15 ∧ 0 ≤ src ∧ src ≤ 15 := by
  simp only [mayP, regM, Bool.and_eq_true, decide_eq_true_eq] at h
  exact ⟨h.1.1, by omega⟩
theorem rg_st {r0 r1 r2 r3 r4 r5 r6 r7 r8 r9 r10 r11 r12 r13 r14 r15 i v : Int} (h0 : 0 ≤ i) (h1 : i ≤ 15) : rg [st 0 i v r0, st 1 i v r1, st 2 i v r2, st 3 i v r3, st 4 i v r4, st 5 i v r5, st 6 i v r6, st 7 i v r7, st 8 i v r8, st 9 i v r9, st 10 i v r10, st 11 i v r11, st 12 i v r12, st 13 i v r13, st 14 i v r14, st 15 i v r15] i = v := by
  obtain ⟨n, rfl⟩ := fin16 h0 h1
  have : n.val = 0 ∨ n.val = 1 ∨ n.val = 2 ∨ n.val = 3 ∨ n.val = 4 ∨ n.val = 5 ∨ n.val = 6 ∨ n.val = 7 ∨ n.val = 8 ∨ n.val = 9 ∨ n.val = 10 ∨ n.val = 11 ∨ n.val = 12 ∨ n.val = 13 ∨ n.val = 14 ∨ n.val = 15 := by omega
  rcases this with e | e | e | e | e | e | e | e | e | e | e | e | e | e | e | e <;> rw [e] <;> rfl
theorem load_back {r0 r1 r2 r3 r4 r5 r6 r7 r8 r9 r10 r11 r12 r13 r14 r15 i x w : Int} (h0 : 0 ≤ i) (h1 : i ≤ 15) : (rg [st 0 i (cutM (cutM x w) w) r0, st 1 i (cutM (cutM x w) w) r1, st 2 i (cutM (cutM x w) w) r2, st 3 i (cutM (cutM x w) w) r3, st 4 i (cutM (cutM x w) w) r4, st 5 i (cutM (cutM x w) w) r5, st 6 i (cutM (cutM x w) w) r6, st 7 i (cutM (cutM x w) w) r7, st 8 i (cutM (cutM x w) w) r8, st 9 i (cutM (cutM x w) w) r9, st 10 i (cutM (cutM x w) w) r10, st 11 i (cutM (cutM x w) w) r11, st 12 i (cutM (cutM x w) w) r12, st 13 i (cutM (cutM x w) w) r13, st 14 i (cutM (cutM x w) w) r14, st 15 i (cutM (cutM x w) w) r15] i == cutM x w) = true := by
  rw [rg_st h0 h1, cut_cut, beq_self_eq_true]
end Go.Ev
