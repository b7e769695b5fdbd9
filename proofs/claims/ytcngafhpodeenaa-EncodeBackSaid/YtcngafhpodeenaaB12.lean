/- Contracts and plain laws that a statement's proof leans on (texts merged: MdP4, XE0, XE0A, XE1, XE2). -/
import Derived.Test.YtcngafhpodeenaaB07
import Derived.Test.YtcngafhpodeenaaB10
import Derived.Test.YtcngafhpodeenaaB11
set_option linter.unusedVariables false
set_option linter.unusedSimpArgs false
namespace Go.Ev
open Go
def byK : List LK := [.int .u8]
def hdD (ds : List D) : D := ds.headD .undef
theorem by_cells (ds : List D) (h : okL byK ds) : (hdD ds).cells = some ds := by
 simp only [byK, okL] at h
 obtain ⟨n, r, rfl, _, rfl⟩ := h
 rfl
theorem bys_of : ∀ (xs : List (List D)), (∀ ds ∈ xs, okL byK ds) → ∃ l : List Int, xs.map hdD = bD l ∧ isB l ∧ l.length = xs.length
 | [], _ => ⟨[], rfl, nilB, rfl⟩
 | ds :: r, h => by
  obtain ⟨l, e, ho, hl⟩ := bys_of r (fun d hd => h d (List.mem_cons_of_mem _ hd))
  have h1 := h ds (List.mem_cons_self ..)
  simp only [byK, okL] at h1
  obtain ⟨n, r', rfl, hn, rfl⟩ := h1
  refine ⟨n :: l, by rw [List.map_cons, e]; rfl, isB_cons.2 ⟨?_, ho⟩, by simp [hl]⟩
  simp [IntKind.has, IntKind.min, IntKind.max, IntKind.signed, IntKind.bits] at hn
  omega
theorem bD_append (a b : List Int) : bD (a ++ b) = bD a ++ bD b := by simp [bD]
theorem bD_take (a : List Int) (n : Nat) : bD (a.take n) = (bD a).take n := by simp [bD, List.map_take]
theorem read_back {x : XS} (h : mayXS x = true) (t : List Int) : readM (bytesXS x ++ t) = some x := by
 have hd : decM (bytesXS x ++ t) = x := dec_back h t
 unfold readM
 rw [hd, if_pos]
 unfold fitsX
 rw [h, Bool.true_and, List.isPrefixOf_iff_prefix]
 exact List.prefix_append _ _
theorem read_part {x : XS} (h : mayXS x = true) {k : Nat} (hk : k < (bytesXS x).length) : readM ((bytesXS x).take k) = none := by
 unfold readM
 split
 ·rename_i hf
  exfalso
  unfold fitsX at hf
  rw [Bool.and_eq_true, List.isPrefixOf_iff_prefix] at hf
  obtain ⟨hm, hp⟩ := hf
  generalize decM ((bytesXS x).take k) = y at hm hp
  have hpx : bytesXS y <+: bytesXS x := hp.trans (List.take_prefix _ _)
  obtain ⟨t, ht⟩ := hpx
  have h1 : decM (bytesXS y ++ t) = y := dec_back hm t
  have h2 : decM (bytesXS x ++ []) = x := dec_back h []
  rw [ht] at h1
  rw [List.append_nil] at h2
  rw [h1] at h2
  subst h2
  have := hp.length_le
  rw [List.length_take] at this
  omega
 ·rfl
theorem read_fits {b : List Int} {x : XS} (h : readM b = some x) : mayXS x = true ∧ bytesXS x <+: b := by
 unfold readM at h
 split at h
 ·rename_i hf
  cases h
  unfold fitsX at hf
  rw [Bool.and_eq_true, List.isPrefixOf_iff_prefix] at hf
  exact hf
 ·cases h
theorem rex_len (w : Bool) (r m : Int) (al : Bool) : (rexM w r m al).length ≤ 1 := by unfold rexM; split <;> simp
theorem mem_len (r b d : Int) : (memM r b d).length = 5 ∨ (memM r b d).length = 6 := by unfold memM fourM; split <;> simp
theorem bytes_len (x : XS) : 1 ≤ (bytesXS x).length ∧ (bytesXS x).length ≤ 11 := by
 unfold bytesXS bytesM
 have r1 := rex_len (decide (x.w = 64)) x.src x.dst false
 have r2 := rex_len (decide (x.w = 64)) x.dst x.src false
 have r3 := rex_len false 0 x.dst false
 have r4 := rex_len (decide (x.w = 64)) 0 x.dst false
 have r5 := rex_len (decide (x.w = 64)) x.dst x.base false
 have r6 := rex_len (decide (x.w = 64)) x.src x.base (decide (x.w = 8))
 have m1 := mem_len x.dst x.base x.disp
 have m2 := mem_len x.src x.base x.disp
 have ite : ∀ {c : Prop} [Decidable c] {a b : List Int} {m n : Nat}, (m ≤ a.length ∧ a.length ≤ n) → (m ≤ b.length ∧ b.length ≤ n) → (m ≤ (if c then a else b).length ∧ (if c then a else b).length ≤ n) := by
  intro c _ a b m n h1 h2
  by_cases hc : c
  ·rw [if_pos hc]; exact h1
  ·rw [if_neg hc]; exact h2
 have sm : ∀ {l : List Int} {m n : Nat}, m ≤ l.length → l.length ≤ n → (m ≤ l.length ∧ l.length ≤ n) := fun a b => ⟨a, b⟩
 have l7 := @ite (x.w = 8) _ [15, 182] (if x.w = 16 then [15, 183] else [139]) 1 2 (by simp) (ite (by simp) (by simp))
 have l8 := @ite (x.w = 16) _ [102] [] 0 1 (by simp) (by simp)
 have l9 := @ite (x.w = 8) _ [136] [137] 1 1 (by simp) (by simp)
 refine ite (by simp only [List.length_append, List.length_cons, List.length_nil]; omega) (ite (by simp only [List.length_append, List.length_cons, List.length_nil]; omega) (ite (by simp only [List.length_append, List.length_cons, List.length_nil]; omega) (ite (ite (by simp only [List.length_append, List.length_cons, List.length_nil, fourM]; omega) (by simp only [List.length_append, List.length_cons, List.length_nil, fourM]; omega)) (ite (by simp only [List.length_append, List.length_cons, List.length_nil]; omega) (ite (by simp only [List.length_append, List.length_cons, List.length_nil]; omega) (ite ?_ (ite ?_ (ite (ite (by simp) (by simp [fourM])) (ite (ite (by simp) (by simp [fourM])) (ite (by simp) (by simp)))))))))))
 ·rw [List.length_append, List.length_append]; omega
 ·rw [List.length_append, List.length_append, List.length_append]; omega
end Go.Ev

namespace Go.Proofs.Ytcngafhpodeenaa
open Go Go.Ev
set_option maxRecDepth 100000
set_option maxHeartbeats 8000000
theorem eb_in (b c : List Int) (k : Int) (k0 : 0 ≤ k) (hl : k < ((bD c).length : Int)) (hr : Ret Try.prog 19 [.lst .no 1 (List.take (Int.toNat k) (bD c))] (.tup [xD 0 0 0 0 0 0 0 0, .int .i64 0, .int .i64 30])) : RoundRun Try.prog (loopB Try.f5 0) ⟨[1, 5, 10], [], []⟩ 6 [D.undef, .lst .no 1 (bD b), D.undef, D.undef, D.undef, .lst .no 1 (bD c), D.undef, D.undef, D.undef, D.undef, .int .i64 k, D.undef, D.undef, D.undef, D.undef, D.undef, D.undef, D.undef, D.undef, D.undef, D.undef, D.undef, D.undef, D.undef, D.undef, D.undef, D.undef, D.undef, D.undef, D.undef, D.undef, D.undef, D.undef, D.undef, D.undef, D.undef, D.undef, D.undef, D.undef, D.undef, D.undef, D.undef, D.undef, D.undef, D.undef, D.undef, D.undef, D.undef, D.undef, D.undef, D.undef, D.undef, D.undef, D.undef, D.undef, D.undef, D.undef, D.undef, D.undef, D.undef, D.undef, D.undef, D.undef, D.undef, D.undef, D.undef, D.undef, D.undef, D.undef, D.undef, D.undef, D.undef, D.undef, D.undef, D.undef, D.undef, D.undef, D.undef, D.undef, D.undef, D.undef, D.undef, D.undef, D.undef, D.undef, D.undef, D.undef, D.undef, D.undef, D.undef, D.undef, D.undef, D.undef, D.undef, D.undef, D.undef, D.undef, D.undef, D.undef, D.undef, D.undef, D.undef, D.undef, D.undef, D.undef, D.undef, D.undef, D.undef, D.undef, D.undef, D.undef, D.undef, D.undef, D.undef, D.undef, D.undef, D.undef, D.undef] [Ob.dead, Ob.dead, Ob.dead, Ob.dead, Ob.dead, Ob.dead] (Ex.norm) [D.undef, .lst .no 1 (bD b), D.undef, D.undef, D.undef, .lst .no 1 (bD c), D.undef, D.undef, D.undef, D.undef, .int .i64 (IntKind.wrap IntKind.i64 (k + (1 : Int))), D.undef, D.undef, D.undef, D.undef, D.undef, D.undef, D.undef, D.undef, D.undef, D.undef, D.undef, D.undef, D.undef, D.undef, D.undef, D.undef, D.undef, D.undef, D.undef, D.undef, D.undef, D.undef, D.undef, D.undef, D.undef, D.undef, D.undef, D.undef, D.undef, D.undef, D.undef, D.undef, D.undef, D.undef, D.undef, D.undef, D.undef, D.undef, D.undef, D.undef, D.undef, D.undef, D.undef, D.undef, D.undef, D.undef, D.undef, D.undef, D.undef, D.undef, D.undef, D.undef, D.undef, D.undef, D.undef, D.undef, D.undef, D.undef, D.undef, D.undef, D.undef, D.undef, D.undef, D.undef, D.undef, D.undef, D.undef, D.undef, D.undef, D.undef, D.undef, D.undef, D.undef, D.undef, D.undef, D.undef, D.undef, D.undef, D.undef, D.undef, D.undef, D.undef, D.undef, D.undef, D.undef, D.undef, D.undef, D.undef, D.undef, D.undef, D.undef, D.undef, D.undef, D.undef, D.undef, D.undef, D.undef, D.undef, D.undef, D.undef, D.undef, D.undef, D.undef, D.undef, D.undef, D.undef, D.undef] ([.dead, .dead, .dead, .dead, .dead, .dead]) := by
 exact (RoundRun.of_eval (sp := ⟨[1, 5, 10], [], []⟩) (n0 := 6) (ex := Ex.norm) (t' := [D.undef, .lst .no 1 (bD b), D.undef, D.undef, D.undef, .lst .no 1 (bD c), D.undef, D.undef, D.undef, D.undef, .int .i64 (IntKind.wrap IntKind.i64 (k + (1 : Int))), D.undef, D.undef, D.undef, D.undef, D.undef, D.undef, D.undef, D.undef, D.undef, D.undef, D.undef, D.undef, D.undef, D.undef, D.undef, D.undef, D.undef, D.undef, D.undef, D.undef, D.undef, D.undef, D.undef, D.undef, D.undef, D.undef, D.undef, D.undef, D.undef, D.undef, D.undef, D.undef, D.undef, D.undef, D.undef, D.undef, D.undef, D.undef, D.undef, D.undef, D.undef, D.undef, D.undef, D.undef, D.undef, D.undef, D.undef, D.undef, D.undef, D.undef, D.undef, D.undef, D.undef, D.undef, D.undef, D.undef, D.undef, D.undef, D.undef, D.undef, D.undef, D.undef, D.undef, D.undef, D.undef, D.undef, D.undef, D.undef, D.undef, D.undef, D.undef, D.undef, D.undef, D.undef, D.undef, D.undef, D.undef, D.undef, D.undef, D.undef, D.undef, D.undef, D.undef, D.undef, D.undef, D.undef, D.undef, D.undef, D.undef, D.undef, D.undef, D.undef, D.undef, D.undef, D.undef, D.undef, D.undef, D.undef, D.undef, D.undef, D.undef, D.undef, D.undef, D.undef, D.undef, D.undef, D.undef]) (s' := [Ob.dead, Ob.dead, Ob.dead, Ob.dead, Ob.dead, Ob.dead]) mixed [tC (by ((try simp only [List.length_cons, List.length_nil, len_bD, w_i8, w_u8, w_i64, w_u64, decide_eq_true_eq, decide_eq_false_iff_not, beq_iff_eq, bne_iff_ne, beq_eq_false_iff_ne, bne_eq_false_iff_eq, Bool.not_eq_true', Bool.not_eq_false', Bool.and_eq_true, Bool.or_eq_true] at *); omega) : (decide (k < (↑(List.length (bD c)) : Int))) = true), .tst (decide ((0 : Int) ≤ k ∧ k ≤ (↑(List.length (bD c)) : Int))) true (by ((try simp only [List.length_cons, List.length_nil, len_bD, w_i8, w_u8, w_i64, w_u64, decide_eq_true_eq, decide_eq_false_iff_not, beq_iff_eq, bne_iff_ne, beq_eq_false_iff_ne, bne_eq_false_iff_eq, Bool.not_eq_true', Bool.not_eq_false', Bool.and_eq_true, Bool.or_eq_true] at *); omega)), .ret _ _ _ hr, tF] (by kernel_rfl)).cast (by rfl) (by rfl)
theorem eb_out (b c : List Int) (k : Int) (k0 : 0 ≤ k) (hl : ((bD c).length : Int) ≤ k) : RoundRun Try.prog (loopB Try.f5 0) ⟨[1], [], []⟩ 6 [D.undef, .lst .no 1 (bD b), D.undef, D.undef, D.undef, .lst .no 1 (bD c), D.undef, D.undef, D.undef, D.undef, .int .i64 k, D.undef, D.undef, D.undef, D.undef, D.undef, D.undef, D.undef, D.undef, D.undef, D.undef, D.undef, D.undef, D.undef, D.undef, D.undef, D.undef, D.undef, D.undef, D.undef, D.undef, D.undef, D.undef, D.undef, D.undef, D.undef, D.undef, D.undef, D.undef, D.undef, D.undef, D.undef, D.undef, D.undef, D.undef, D.undef, D.undef, D.undef, D.undef, D.undef, D.undef, D.undef, D.undef, D.undef, D.undef, D.undef, D.undef, D.undef, D.undef, D.undef, D.undef, D.undef, D.undef, D.undef, D.undef, D.undef, D.undef, D.undef, D.undef, D.undef, D.undef, D.undef, D.undef, D.undef, D.undef, D.undef, D.undef, D.undef, D.undef, D.undef, D.undef, D.undef, D.undef, D.undef, D.undef, D.undef, D.undef, D.undef, D.undef, D.undef, D.undef, D.undef, D.undef, D.undef, D.undef, D.undef, D.undef, D.undef, D.undef, D.undef, D.undef, D.undef, D.undef, D.undef, D.undef, D.undef, D.undef, D.undef, D.undef, D.undef, D.undef, D.undef, D.undef, D.undef, D.undef, D.undef, D.undef, D.undef] [Ob.dead, Ob.dead, Ob.dead, Ob.dead, Ob.dead, Ob.dead] (Ex.exit (0 : Nat)) [D.undef, .lst .no 1 (bD b), D.undef, D.undef, D.undef, D.undef, D.undef, D.undef, D.undef, D.undef, D.undef, D.undef, D.undef, D.undef, D.undef, D.undef, D.undef, D.undef, D.undef, D.undef, D.undef, D.undef, D.undef, D.undef, D.undef, D.undef, D.undef, D.undef, D.undef, D.undef, D.undef, D.undef, D.undef, D.undef, D.undef, D.undef, D.undef, D.undef, D.undef, D.undef, D.undef, D.undef, D.undef, D.undef, D.undef, D.undef, D.undef, D.undef, D.undef, D.undef, D.undef, D.undef, D.undef, D.undef, D.undef, D.undef, D.undef, D.undef, D.undef, D.undef, D.undef, D.undef, D.undef, D.undef, D.undef, D.undef, D.undef, D.undef, D.undef, D.undef, D.undef, D.undef, D.undef, D.undef, D.undef, D.undef, D.undef, D.undef, D.undef, D.undef, D.undef, D.undef, D.undef, D.undef, D.undef, D.undef, D.undef, D.undef, D.undef, D.undef, D.undef, D.undef, D.undef, D.undef, D.undef, D.undef, D.undef, D.undef, D.undef, D.undef, D.undef, D.undef, D.undef, D.undef, D.undef, D.undef, D.undef, D.undef, D.undef, D.undef, D.undef, D.undef, D.undef, D.undef, D.undef, D.undef, D.undef, D.undef] ([Ob.dead, Ob.dead, Ob.dead, Ob.dead, Ob.dead, Ob.dead]) := by
 exact (RoundRun.of_eval (sp := ⟨[1], [], []⟩) (n0 := 6) (ex := Ex.exit (0 : Nat)) (t' := [D.undef, .lst .no 1 (bD b), D.undef, D.undef, D.undef, D.undef, D.undef, D.undef, D.undef, D.undef, D.undef, D.undef, D.undef, D.undef, D.undef, D.undef, D.undef, D.undef, D.undef, D.undef, D.undef, D.undef, D.undef, D.undef, D.undef, D.undef, D.undef, D.undef, D.undef, D.undef, D.undef, D.undef, D.undef, D.undef, D.undef, D.undef, D.undef, D.undef, D.undef, D.undef, D.undef, D.undef, D.undef, D.undef, D.undef, D.undef, D.undef, D.undef, D.undef, D.undef, D.undef, D.undef, D.undef, D.undef, D.undef, D.undef, D.undef, D.undef, D.undef, D.undef, D.undef, D.undef, D.undef, D.undef, D.undef, D.undef, D.undef, D.undef, D.undef, D.undef, D.undef, D.undef, D.undef, D.undef, D.undef, D.undef, D.undef, D.undef, D.undef, D.undef, D.undef, D.undef, D.undef, D.undef, D.undef, D.undef, D.undef, D.undef, D.undef, D.undef, D.undef, D.undef, D.undef, D.undef, D.undef, D.undef, D.undef, D.undef, D.undef, D.undef, D.undef, D.undef, D.undef, D.undef, D.undef, D.undef, D.undef, D.undef, D.undef, D.undef, D.undef, D.undef, D.undef, D.undef, D.undef, D.undef, D.undef, D.undef]) (s' := [Ob.dead, Ob.dead, Ob.dead, Ob.dead, Ob.dead, Ob.dead]) mixed [tC (by ((try simp only [List.length_cons, List.length_nil, len_bD, w_i8, w_u8, w_i64, w_u64, decide_eq_true_eq, decide_eq_false_iff_not, beq_iff_eq, bne_iff_ne, beq_eq_false_iff_ne, bne_eq_false_iff_eq, Bool.not_eq_true', Bool.not_eq_false', Bool.and_eq_true, Bool.or_eq_true] at *); omega) : (decide (k < (↑(List.length (bD c)) : Int))) = false)] (by kernel_rfl)).cast (by rfl) (by rfl)
end Go.Proofs.Ytcngafhpodeenaa

namespace Go.Proofs.Ytcngafhpodeenaa
open Go Go.Ev
set_option maxRecDepth 100000
theorem eb_rounds (b : List Int) (x : XS) (hm : mayXS x = true) : ∀ (m k : Nat), k + m = (bytesXS x).length →
  Rounds Try.prog (loopB Try.f5 0) 6 [.undef, .lst .no 1 (bD b), .undef, .undef, .undef, .lst .no 1 (bD (bytesXS x)), .undef, .undef, .undef, .undef, .int .i64 (k : Int), .undef, .undef, .undef, .undef, .undef, .undef, .undef, .undef, .undef, .undef, .undef, .undef, .undef, .undef, .undef, .undef, .undef, .undef, .undef, .undef, .undef, .undef, .undef, .undef, .undef, .undef, .undef, .undef, .undef, .undef, .undef, .undef, .undef, .undef, .undef, .undef, .undef, .undef, .undef, .undef, .undef, .undef, .undef, .undef, .undef, .undef, .undef, .undef, .undef, .undef, .undef, .undef, .undef, .undef, .undef, .undef, .undef, .undef, .undef, .undef, .undef, .undef, .undef, .undef, .undef, .undef, .undef, .undef, .undef, .undef, .undef, .undef, .undef, .undef, .undef, .undef, .undef, .undef, .undef, .undef, .undef, .undef, .undef, .undef, .undef, .undef, .undef, .undef, .undef, .undef, .undef, .undef, .undef, .undef, .undef, .undef, .undef, .undef, .undef, .undef, .undef, .undef, .undef, .undef, .undef, .undef, .undef] [.dead, .dead, .dead, .dead, .dead, .dead] (.exit 0) [.undef, .lst .no 1 (bD b), .undef, .undef, .undef, .undef, .undef, .undef, .undef, .undef, .undef, .undef, .undef, .undef, .undef, .undef, .undef, .undef, .undef, .undef, .undef, .undef, .undef, .undef, .undef, .undef, .undef, .undef, .undef, .undef, .undef, .undef, .undef, .undef, .undef, .undef, .undef, .undef, .undef, .undef, .undef, .undef, .undef, .undef, .undef, .undef, .undef, .undef, .undef, .undef, .undef, .undef, .undef, .undef, .undef, .undef, .undef, .undef, .undef, .undef, .undef, .undef, .undef, .undef, .undef, .undef, .undef, .undef, .undef, .undef, .undef, .undef, .undef, .undef, .undef, .undef, .undef, .undef, .undef, .undef, .undef, .undef, .undef, .undef, .undef, .undef, .undef, .undef, .undef, .undef, .undef, .undef, .undef, .undef, .undef, .undef, .undef, .undef, .undef, .undef, .undef, .undef, .undef, .undef, .undef, .undef, .undef, .undef, .undef, .undef, .undef, .undef, .undef, .undef, .undef, .undef, .undef, .undef] [.dead, .dead, .dead, .dead, .dead, .dead]
 | 0, k, hk => Rounds.last (eb_out b (bytesXS x) k (by omega) (by rw [len_bD]; omega)) (fun h => by cases h)
 | m + 1, k, hk => by
  have hl := (bytes_len x).2
  have hw : IntKind.i64.wrap ((k : Int) + 1) = ((k + 1 : Nat) : Int) := by rw [w_i64]; omega
  have hr := read_any ((bytesXS x).take k) (fun y hy => bytesXS_isB hm y (List.mem_of_mem_take hy))
  rw [read_part (k := k) hm (by omega), bD_take] at hr
  have h := eb_in b (bytesXS x) k (by omega) (by rw [len_bD]; omega) (by rw [Int.toNat_natCast]; exact hr)
  rw [hw] at h
  exact Rounds.more h (eb_rounds b x hm m (k + 1) (by omega))
theorem eb_loop (b c : List Int) (x : XS) (hm : mayXS x = true) (hc : c = bytesXS x) : LoopRun Try.prog 6 (.loop (loopB Try.f5 0)) [.undef, .lst .no 1 (bD b), .undef, .undef, .undef, .lst .no 1 (bD c), .undef, .undef, .undef, .undef, .int .i64 0, .undef, .undef, .undef, .undef, .undef, .undef, .undef, .undef, .undef, .undef, .undef, .undef, .undef, .undef, .undef, .undef, .undef, .undef, .undef, .undef, .undef, .undef, .undef, .undef, .undef, .undef, .undef, .undef, .undef, .undef, .undef, .undef, .undef, .undef, .undef, .undef, .undef, .undef, .undef, .undef, .undef, .undef, .undef, .undef, .undef, .undef, .undef, .undef, .undef, .undef, .undef, .undef, .undef, .undef, .undef, .undef, .undef, .undef, .undef, .undef, .undef, .undef, .undef, .undef, .undef, .undef, .undef, .undef, .undef, .undef, .undef, .undef, .undef, .undef, .undef, .undef, .undef, .undef, .undef, .undef, .undef, .undef, .undef, .undef, .undef, .undef, .undef, .undef, .undef, .undef, .undef, .undef, .undef, .undef, .undef, .undef, .undef, .undef, .undef, .undef, .undef, .undef, .undef, .undef, .undef, .undef, .undef] [.dead, .dead, .dead, .dead, .dead, .dead] (.exit 0) [.undef, .lst .no 1 (bD b), .undef, .undef, .undef, .undef, .undef, .undef, .undef, .undef, .undef, .undef, .undef, .undef, .undef, .undef, .undef, .undef, .undef, .undef, .undef, .undef, .undef, .undef, .undef, .undef, .undef, .undef, .undef, .undef, .undef, .undef, .undef, .undef, .undef, .undef, .undef, .undef, .undef, .undef, .undef, .undef, .undef, .undef, .undef, .undef, .undef, .undef, .undef, .undef, .undef, .undef, .undef, .undef, .undef, .undef, .undef, .undef, .undef, .undef, .undef, .undef, .undef, .undef, .undef, .undef, .undef, .undef, .undef, .undef, .undef, .undef, .undef, .undef, .undef, .undef, .undef, .undef, .undef, .undef, .undef, .undef, .undef, .undef, .undef, .undef, .undef, .undef, .undef, .undef, .undef, .undef, .undef, .undef, .undef, .undef, .undef, .undef, .undef, .undef, .undef, .undef, .undef, .undef, .undef, .undef, .undef, .undef, .undef, .undef, .undef, .undef, .undef, .undef, .undef, .undef, .undef, .undef] [.dead, .dead, .dead, .dead, .dead, .dead] := by
 subst hc
 exact LoopRun.of_rounds (Nat.le_refl _) (eb_rounds b x hm (bytesXS x).length 0 (by omega))
end Go.Proofs.Ytcngafhpodeenaa

namespace Go.Proofs.Ytcngafhpodeenaa
open Go Go.Ev
set_option maxRecDepth 100000
set_option maxHeartbeats 8000000
theorem eb_long_ok (op w dst src base disp imm cc : Int) (b : List Int) (hn : 100 < ((bD b).length : Int))  : Ret Try.prog 5 ([xD op w dst src base disp imm cc, .lst .no 1 (bD b)]) (.bool true) := by
 have c0 := @wakes13_ok
 exact (Ret.of_eval (d := .bool true) mixed Try.func5 (by kernel_rfl) [tC (ltL 100 (decide_eq_false (by omega : ¬ (↑(List.length (bD b)) : Int) < 101))), .ret _ _ _ c0] (by kernel_rfl)).to (by simp [wk])
theorem eb_00_ok (op w dst src base disp imm cc : Int) (b c : List Int) (hn : ((bD b).length : Int) ≤ 100) (hb : Ret Try.prog 21 [xD op w dst src base disp imm cc] (.tup [.lst .no 1 [], .int .i64 2])) (hq : Ret Try.prog 19 [.lst .no 1 (bD b)] (.tup [xD 0 0 0 0 0 0 0 0, .int .i64 0, .int .i64 30]))  : Ret Try.prog 5 ([xD op w dst src base disp imm cc, .lst .no 1 (bD b)]) (.bool true) := by
 have c0 := @wakes13_ok
 exact (Ret.of_eval (d := .bool true) mixed Try.func5 (by kernel_rfl) [tC (ltL 100 (decide_eq_true (Int.lt_add_one_of_le hn))), .ret _ _ _ hb, tF, .ret _ _ _ hq, tF, .ret _ _ _ c0] (by kernel_rfl)).to (by simp [wk])
theorem eb_01_ok (op w dst src base disp imm cc : Int) (b c : List Int) (hn : ((bD b).length : Int) ≤ 100) (hb : Ret Try.prog 21 [xD op w dst src base disp imm cc] (.tup [.lst .no 1 [], .int .i64 2])) (yop yw ydst ysrc ybase ydisp yimm ycc : Int) (d : List Int) (hq : Ret Try.prog 19 [.lst .no 1 (bD b)] (.tup [xD yop yw ydst ysrc ybase ydisp yimm ycc, .int .i64 ((bD d).length : Int), .int .i64 0])) (hd : Ret Try.prog 21 [xD yop yw ydst ysrc ybase ydisp yimm ycc] (.tup [.lst .no 1 (bD d), .int .i64 0])) (hdl : ((bD d).length : Int) ≤ ((bD b).length : Int)) (hs : ((strD (bD d)).toList == (strD (List.take (Int.toNat ((List.length (bD d) : Nat) : Int)) (bD b))).toList) = true)  : Ret Try.prog 5 ([xD op w dst src base disp imm cc, .lst .no 1 (bD b)]) (.bool true) := by
 have c0 := @wakes13_ok
 exact (Ret.of_eval (d := .bool true) mixed Try.func5 (by kernel_rfl) ([tC (ltL 100 (decide_eq_true (Int.lt_add_one_of_le hn))), .ret _ _ _ hb, tF, .ret _ _ _ hq, tT, .ret _ _ _ hd, tT, tT, tF, tT, tT, tT, tT, tF, tC (eF (by ((try simp only [List.length_append, List.length_cons, List.length_nil, len_bD, w_i8, w_u8, w_i64, w_u64, decide_eq_true_eq, decide_eq_false_iff_not, beq_iff_eq, bne_iff_ne, beq_eq_false_iff_ne, bne_eq_false_iff_eq, Bool.not_eq_true', Bool.not_eq_false', Bool.and_eq_true, Bool.or_eq_true] at *); (try unfold big at *); omega) : (decide ((↑(List.length (bD d)) : Int) > (↑(List.length (bD b)) : Int))) = false)), tC (eF (by ((try simp only [List.length_append, List.length_cons, List.length_nil, len_bD, w_i8, w_u8, w_i64, w_u64, decide_eq_true_eq, decide_eq_false_iff_not, beq_iff_eq, bne_iff_ne, beq_eq_false_iff_ne, bne_eq_false_iff_eq, Bool.not_eq_true', Bool.not_eq_false', Bool.and_eq_true, Bool.or_eq_true] at *); (try unfold big at *); omega) : (decide ((↑(List.length (bD d)) : Int) > (↑(List.length (bD b)) : Int))) = false))] ++ [tC (v := true) (@allB (d)), tC (eF (by ((try simp only [List.length_append, List.length_cons, List.length_nil, len_bD, w_i8, w_u8, w_i64, w_u64, decide_eq_true_eq, decide_eq_false_iff_not, beq_iff_eq, bne_iff_ne, beq_eq_false_iff_ne, bne_eq_false_iff_eq, Bool.not_eq_true', Bool.not_eq_false', Bool.and_eq_true, Bool.or_eq_true] at *); (try unfold big at *); omega) : (decide ((↑(List.length (bD d)) : Int) > (↑(List.length (bD b)) : Int))) = false)), tC (eF (by ((try simp only [List.length_append, List.length_cons, List.length_nil, len_bD, w_i8, w_u8, w_i64, w_u64, decide_eq_true_eq, decide_eq_false_iff_not, beq_iff_eq, bne_iff_ne, beq_eq_false_iff_ne, bne_eq_false_iff_eq, Bool.not_eq_true', Bool.not_eq_false', Bool.and_eq_true, Bool.or_eq_true] at *); (try unfold big at *); omega) : (decide ((↑(List.length (bD d)) : Int) > (↑(List.length (bD b)) : Int))) = false)), tC (eF (by ((try simp only [List.length_append, List.length_cons, List.length_nil, len_bD, w_i8, w_u8, w_i64, w_u64, decide_eq_true_eq, decide_eq_false_iff_not, beq_iff_eq, bne_iff_ne, beq_eq_false_iff_ne, bne_eq_false_iff_eq, Bool.not_eq_true', Bool.not_eq_false', Bool.and_eq_true, Bool.or_eq_true] at *); (try unfold big at *); omega) : (decide ((↑(List.length (bD d)) : Int) > (↑(List.length (bD b)) : Int))) = false)), .tst (decide ((0 : Int) ≤ (↑(List.length (bD d)) : Int) ∧ (↑(List.length (bD d)) : Int) ≤ (↑(List.length (bD b)) : Int))) true (by ((try simp only [List.length_append, List.length_cons, List.length_nil, len_bD, w_i8, w_u8, w_i64, w_u64, decide_eq_true_eq, decide_eq_false_iff_not, beq_iff_eq, bne_iff_ne, beq_eq_false_iff_ne, bne_eq_false_iff_eq, Bool.not_eq_true', Bool.not_eq_false', Bool.and_eq_true, Bool.or_eq_true] at *); (try unfold big at *); omega)), tC (eF (by ((try simp only [List.length_append, List.length_cons, List.length_nil, len_bD, w_i8, w_u8, w_i64, w_u64, decide_eq_true_eq, decide_eq_false_iff_not, beq_iff_eq, bne_iff_ne, beq_eq_false_iff_ne, bne_eq_false_iff_eq, Bool.not_eq_true', Bool.not_eq_false', Bool.and_eq_true, Bool.or_eq_true] at *); (try unfold big at *); omega) : (decide ((↑(List.length (bD d)) : Int) > (↑(List.length (bD b)) : Int))) = false)), tC (v := true) (@allB_take (b) (Int.toNat (↑(List.length (bD d)) : Int))), tC (eF (by ((try simp only [List.length_append, List.length_cons, List.length_nil, len_bD, w_i8, w_u8, w_i64, w_u64, decide_eq_true_eq, decide_eq_false_iff_not, beq_iff_eq, bne_iff_ne, beq_eq_false_iff_ne, bne_eq_false_iff_eq, Bool.not_eq_true', Bool.not_eq_false', Bool.and_eq_true, Bool.or_eq_true] at *); (try unfold big at *); omega) : (decide ((↑(List.length (bD d)) : Int) > (↑(List.length (bD b)) : Int))) = false)), tC (by ((try simp only [List.length_append, List.length_cons, List.length_nil, len_bD, w_i8, w_u8, w_i64, w_u64, decide_eq_true_eq, decide_eq_false_iff_not, beq_iff_eq, bne_iff_ne, beq_eq_false_iff_ne, bne_eq_false_iff_eq, Bool.not_eq_true', Bool.not_eq_false', Bool.and_eq_true, Bool.or_eq_true] at *); (try unfold big at *); omega) : (decide ((↑(List.length (bD d)) : Int) > (↑(List.length (bD b)) : Int))) = false), tC (nt hs), .ret _ _ _ c0]) (by kernel_rfl)).to (by simp [wk])
theorem eb_10_ok (op w dst src base disp imm cc : Int) (b c : List Int) (hn : ((bD b).length : Int) ≤ 100) (x : XS) (hm : mayXS x = true) (hc : c = bytesXS x) (cl : 1 ≤ ((bD c).length : Int)) (cu : ((bD c).length : Int) ≤ 11) (hb : Ret Try.prog 21 [xD op w dst src base disp imm cc] (.tup [.lst .no 1 (bD c), .int .i64 0])) (hr : Ret Try.prog 19 [.lst .no 1 (bD c ++ bD b)] (.tup [xD op w dst src base disp imm cc, .int .i64 ((bD c).length : Int), .int .i64 0])) (hl : Ret Try.prog 22 [xD op w dst src base disp imm cc] (.int .i64 ((bD c).length : Int))) (hq : Ret Try.prog 19 [.lst .no 1 (bD b)] (.tup [xD 0 0 0 0 0 0 0 0, .int .i64 0, .int .i64 30]))  : Ret Try.prog 5 ([xD op w dst src base disp imm cc, .lst .no 1 (bD b)]) (.bool true) := by
 have c0 := @eb_loop (b) (c) _ hm hc
 have c1 := @wakes13_ok
 exact (Ret.of_eval (d := .bool true) mixed Try.func5 (by kernel_rfl) ([tC (ltL 100 (decide_eq_true (Int.lt_add_one_of_le hn))), .ret _ _ _ hb, tT, .len ((0 : Nat) + List.length (bD c)) ((2147483648 : Nat)) (by first | decide | omega | (simp; omega)), .len (List.length (bD c) + List.length (bD b)) ((2147483648 : Nat)) (by first | decide | omega | (simp; omega)), .ret _ _ _ hr, tT, tT, tT, .flat _ _ flat_X, tF, tC (eF (nt (andT (beq_self_eq_true (op)) (andT (beq_self_eq_true (w)) (andT (beq_self_eq_true (dst)) (andT (beq_self_eq_true (src)) (andT (beq_self_eq_true (base)) (andT (beq_self_eq_true (disp)) (andT (beq_self_eq_true (imm)) (andT (beq_self_eq_true (cc)) (rfl : true = true))))))))))), tC (eF (nt (andT (beq_self_eq_true (op)) (andT (beq_self_eq_true (w)) (andT (beq_self_eq_true (dst)) (andT (beq_self_eq_true (src)) (andT (beq_self_eq_true (base)) (andT (beq_self_eq_true (disp)) (andT (beq_self_eq_true (imm)) (andT (beq_self_eq_true (cc)) (rfl : true = true))))))))))), tC (eF (nt (andT (beq_self_eq_true (op)) (andT (beq_self_eq_true (w)) (andT (beq_self_eq_true (dst)) (andT (beq_self_eq_true (src)) (andT (beq_self_eq_true (base)) (andT (beq_self_eq_true (disp)) (andT (beq_self_eq_true (imm)) (andT (beq_self_eq_true (cc)) (rfl : true = true))))))))))), tC (eF (nt (andT (beq_self_eq_true (op)) (andT (beq_self_eq_true (w)) (andT (beq_self_eq_true (dst)) (andT (beq_self_eq_true (src)) (andT (beq_self_eq_true (base)) (andT (beq_self_eq_true (disp)) (andT (beq_self_eq_true (imm)) (andT (beq_self_eq_true (cc)) (rfl : true = true))))))))))), tC (nt (andT (beq_self_eq_true (op)) (andT (beq_self_eq_true (w)) (andT (beq_self_eq_true (dst)) (andT (beq_self_eq_true (src)) (andT (beq_self_eq_true (base)) (andT (beq_self_eq_true (disp)) (andT (beq_self_eq_true (imm)) (andT (beq_self_eq_true (cc)) (rfl : true = true))))))))))] ++ [tC (eF (nt (beq_self_eq_true ((↑(List.length (bD c)) : Int))))), tC (eF (nt (beq_self_eq_true ((↑(List.length (bD c)) : Int))))), tC (eF (nt (beq_self_eq_true ((↑(List.length (bD c)) : Int))))), .ret _ _ _ hl, tC (eF (nt (beq_self_eq_true ((↑(List.length (bD c)) : Int))))), tC (nt (beq_self_eq_true ((↑(List.length (bD c)) : Int)))), tC (eF (nt (beq_self_eq_true ((↑(List.length (bD c)) : Int))))), tC (eF (nt (beq_self_eq_true ((↑(List.length (bD c)) : Int))))), tC (nt (beq_self_eq_true ((↑(List.length (bD c)) : Int)))), tC (eF (decide_eq_false (Int.not_lt.2 cl))), tC (eF (decide_eq_false (Int.not_lt.2 cl))), tC (decide_eq_false (Int.not_lt.2 cl)), tC (ltL 11 (decide_eq_true (Int.lt_add_one_of_le cu))), .head ⟨[1, 5, 10], [], []⟩ _ _ _ _ _ _ _ c0, .ret _ _ _ hq, tF] ++ [.ret _ _ _ c1]) (by kernel_rfl)).to (by simp [wk])
theorem eb_11_ok (op w dst src base disp imm cc : Int) (b c : List Int) (hn : ((bD b).length : Int) ≤ 100) (x : XS) (hm : mayXS x = true) (hc : c = bytesXS x) (cl : 1 ≤ ((bD c).length : Int)) (cu : ((bD c).length : Int) ≤ 11) (hb : Ret Try.prog 21 [xD op w dst src base disp imm cc] (.tup [.lst .no 1 (bD c), .int .i64 0])) (hr : Ret Try.prog 19 [.lst .no 1 (bD c ++ bD b)] (.tup [xD op w dst src base disp imm cc, .int .i64 ((bD c).length : Int), .int .i64 0])) (hl : Ret Try.prog 22 [xD op w dst src base disp imm cc] (.int .i64 ((bD c).length : Int))) (yop yw ydst ysrc ybase ydisp yimm ycc : Int) (d : List Int) (hq : Ret Try.prog 19 [.lst .no 1 (bD b)] (.tup [xD yop yw ydst ysrc ybase ydisp yimm ycc, .int .i64 ((bD d).length : Int), .int .i64 0])) (hd : Ret Try.prog 21 [xD yop yw ydst ysrc ybase ydisp yimm ycc] (.tup [.lst .no 1 (bD d), .int .i64 0])) (hdl : ((bD d).length : Int) ≤ ((bD b).length : Int)) (hs : ((strD (bD d)).toList == (strD (List.take (Int.toNat ((List.length (bD d) : Nat) : Int)) (bD b))).toList) = true)  : Ret Try.prog 5 ([xD op w dst src base disp imm cc, .lst .no 1 (bD b)]) (.bool true) := by
 have c0 := @eb_loop (b) (c) _ hm hc
 have c1 := @wakes13_ok
 exact (Ret.of_eval (d := .bool true) mixed Try.func5 (by kernel_rfl) ([tC (ltL 100 (decide_eq_true (Int.lt_add_one_of_le hn))), .ret _ _ _ hb, tT, .len ((0 : Nat) + List.length (bD c)) ((2147483648 : Nat)) (by first | decide | omega | (simp; omega)), .len (List.length (bD c) + List.length (bD b)) ((2147483648 : Nat)) (by first | decide | omega | (simp; omega)), .ret _ _ _ hr, tT, tT, tT, .flat _ _ flat_X, tF, tC (eF (nt (andT (beq_self_eq_true (op)) (andT (beq_self_eq_true (w)) (andT (beq_self_eq_true (dst)) (andT (beq_self_eq_true (src)) (andT (beq_self_eq_true (base)) (andT (beq_self_eq_true (disp)) (andT (beq_self_eq_true (imm)) (andT (beq_self_eq_true (cc)) (rfl : true = true))))))))))), tC (eF (nt (andT (beq_self_eq_true (op)) (andT (beq_self_eq_true (w)) (andT (beq_self_eq_true (dst)) (andT (beq_self_eq_true (src)) (andT (beq_self_eq_true (base)) (andT (beq_self_eq_true (disp)) (andT (beq_self_eq_true (imm)) (andT (beq_self_eq_true (cc)) (rfl : true = true))))))))))), tC (eF (nt (andT (beq_self_eq_true (op)) (andT (beq_self_eq_true (w)) (andT (beq_self_eq_true (dst)) (andT (beq_self_eq_true (src)) (andT (beq_self_eq_true (base)) (andT (beq_self_eq_true (disp)) (andT (beq_self_eq_true (imm)) (andT (beq_self_eq_true (cc)) (rfl : true = true))))))))))), tC (eF (nt (andT (beq_self_eq_true (op)) (andT (beq_self_eq_true (w)) (andT (beq_self_eq_true (dst)) (andT (beq_self_eq_true (src)) (andT (beq_self_eq_true (base)) (andT (beq_self_eq_true (disp)) (andT (beq_self_eq_true (imm)) (andT (beq_self_eq_true (cc)) (rfl : true = true))))))))))), tC (nt (andT (beq_self_eq_true (op)) (andT (beq_self_eq_true (w)) (andT (beq_self_eq_true (dst)) (andT (beq_self_eq_true (src)) (andT (beq_self_eq_true (base)) (andT (beq_self_eq_true (disp)) (andT (beq_self_eq_true (imm)) (andT (beq_self_eq_true (cc)) (rfl : true = true))))))))))] ++ [tC (eF (nt (beq_self_eq_true ((↑(List.length (bD c)) : Int))))), tC (eF (nt (beq_self_eq_true ((↑(List.length (bD c)) : Int))))), tC (eF (nt (beq_self_eq_true ((↑(List.length (bD c)) : Int))))), .ret _ _ _ hl, tC (eF (nt (beq_self_eq_true ((↑(List.length (bD c)) : Int))))), tC (nt (beq_self_eq_true ((↑(List.length (bD c)) : Int)))), tC (eF (nt (beq_self_eq_true ((↑(List.length (bD c)) : Int))))), tC (eF (nt (beq_self_eq_true ((↑(List.length (bD c)) : Int))))), tC (nt (beq_self_eq_true ((↑(List.length (bD c)) : Int)))), tC (eF (decide_eq_false (Int.not_lt.2 cl))), tC (eF (decide_eq_false (Int.not_lt.2 cl))), tC (decide_eq_false (Int.not_lt.2 cl)), tC (ltL 11 (decide_eq_true (Int.lt_add_one_of_le cu))), .head ⟨[1, 5, 10], [], []⟩ _ _ _ _ _ _ _ c0, .ret _ _ _ hq, tT] ++ [.ret _ _ _ hd, tT, tT, tF, tT, tT, tT, tT, tF, tC (eF (by ((try simp only [List.length_append, List.length_cons, List.length_nil, len_bD, w_i8, w_u8, w_i64, w_u64, decide_eq_true_eq, decide_eq_false_iff_not, beq_iff_eq, bne_iff_ne, beq_eq_false_iff_ne, bne_eq_false_iff_eq, Bool.not_eq_true', Bool.not_eq_false', Bool.and_eq_true, Bool.or_eq_true] at *); (try unfold big at *); omega) : (decide ((↑(List.length (bD d)) : Int) > (↑(List.length (bD b)) : Int))) = false)), tC (eF (by ((try simp only [List.length_append, List.length_cons, List.length_nil, len_bD, w_i8, w_u8, w_i64, w_u64, decide_eq_true_eq, decide_eq_false_iff_not, beq_iff_eq, bne_iff_ne, beq_eq_false_iff_ne, bne_eq_false_iff_eq, Bool.not_eq_true', Bool.not_eq_false', Bool.and_eq_true, Bool.or_eq_true] at *); (try unfold big at *); omega) : (decide ((↑(List.length (bD d)) : Int) > (↑(List.length (bD b)) : Int))) = false)), tC (v := true) (@allB (d)), tC (eF (by ((try simp only [List.length_append, List.length_cons, List.length_nil, len_bD, w_i8, w_u8, w_i64, w_u64, decide_eq_true_eq, decide_eq_false_iff_not, beq_iff_eq, bne_iff_ne, beq_eq_false_iff_ne, bne_eq_false_iff_eq, Bool.not_eq_true', Bool.not_eq_false', Bool.and_eq_true, Bool.or_eq_true] at *); (try unfold big at *); omega) : (decide ((↑(List.length (bD d)) : Int) > (↑(List.length (bD b)) : Int))) = false)), tC (eF (by ((try simp only [List.length_append, List.length_cons, List.length_nil, len_bD, w_i8, w_u8, w_i64, w_u64, decide_eq_true_eq, decide_eq_false_iff_not, beq_iff_eq, bne_iff_ne, beq_eq_false_iff_ne, bne_eq_false_iff_eq, Bool.not_eq_true', Bool.not_eq_false', Bool.and_eq_true, Bool.or_eq_true] at *); (try unfold big at *); omega) : (decide ((↑(List.length (bD d)) : Int) > (↑(List.length (bD b)) : Int))) = false)), tC (eF (by ((try simp only [List.length_append, List.length_cons, List.length_nil, len_bD, w_i8, w_u8, w_i64, w_u64, decide_eq_true_eq, decide_eq_false_iff_not, beq_iff_eq, bne_iff_ne, beq_eq_false_iff_ne, bne_eq_false_iff_eq, Bool.not_eq_true', Bool.not_eq_false', Bool.and_eq_true, Bool.or_eq_true] at *); (try unfold big at *); omega) : (decide ((↑(List.length (bD d)) : Int) > (↑(List.length (bD b)) : Int))) = false)), .tst (decide ((0 : Int) ≤ (↑(List.length (bD d)) : Int) ∧ (↑(List.length (bD d)) : Int) ≤ (↑(List.length (bD b)) : Int))) true (by ((try simp only [List.length_append, List.length_cons, List.length_nil, len_bD, w_i8, w_u8, w_i64, w_u64, decide_eq_true_eq, decide_eq_false_iff_not, beq_iff_eq, bne_iff_ne, beq_eq_false_iff_ne, bne_eq_false_iff_eq, Bool.not_eq_true', Bool.not_eq_false', Bool.and_eq_true, Bool.or_eq_true] at *); (try unfold big at *); omega))] ++ [tC (eF (by ((try simp only [List.length_append, List.length_cons, List.length_nil, len_bD, w_i8, w_u8, w_i64, w_u64, decide_eq_true_eq, decide_eq_false_iff_not, beq_iff_eq, bne_iff_ne, beq_eq_false_iff_ne, bne_eq_false_iff_eq, Bool.not_eq_true', Bool.not_eq_false', Bool.and_eq_true, Bool.or_eq_true] at *); (try unfold big at *); omega) : (decide ((↑(List.length (bD d)) : Int) > (↑(List.length (bD b)) : Int))) = false)), tC (v := true) (@allB_take (b) (Int.toNat (↑(List.length (bD d)) : Int))), tC (eF (by ((try simp only [List.length_append, List.length_cons, List.length_nil, len_bD, w_i8, w_u8, w_i64, w_u64, decide_eq_true_eq, decide_eq_false_iff_not, beq_iff_eq, bne_iff_ne, beq_eq_false_iff_ne, bne_eq_false_iff_eq, Bool.not_eq_true', Bool.not_eq_false', Bool.and_eq_true, Bool.or_eq_true] at *); (try unfold big at *); omega) : (decide ((↑(List.length (bD d)) : Int) > (↑(List.length (bD b)) : Int))) = false)), tC (by ((try simp only [List.length_append, List.length_cons, List.length_nil, len_bD, w_i8, w_u8, w_i64, w_u64, decide_eq_true_eq, decide_eq_false_iff_not, beq_iff_eq, bne_iff_ne, beq_eq_false_iff_ne, bne_eq_false_iff_eq, Bool.not_eq_true', Bool.not_eq_false', Bool.and_eq_true, Bool.or_eq_true] at *); (try unfold big at *); omega) : (decide ((↑(List.length (bD d)) : Int) > (↑(List.length (bD b)) : Int))) = false), tC (nt hs), .ret _ _ _ c1]) (by kernel_rfl)).to (by simp [wk])
end Go.Proofs.Ytcngafhpodeenaa

namespace Go.Proofs.Ytcngafhpodeenaa
open Go Go.Ev
set_option maxRecDepth 100000
theorem back_any (op w dst src base disp imm cc : Int) (ho : op ≤ 127) (b : List Int) (hb : isB b) : Ret Try.prog 5 [xD op w dst src base disp imm cc, .lst .no 1 (bD b)] (.bool true) := by
 by_cases hn : ((bD b).length : Int) ≤ 100
 ·
  have hq := read_any b hb
  have hbt := bytes_any_ok op w dst src base disp imm cc ho
  cases hm : mayX op w dst src base disp imm cc with
  | false =>
   simp only [bytesL, bytesE, hm, Bool.false_eq_true, if_false] at hbt
   cases hr : readM b with
   | none =>
    rw [hr] at hq
    exact eb_00_ok op w dst src base disp imm cc b [] hn hbt hq
   | some y =>
    rw [hr] at hq
    obtain ⟨hy, t, ht⟩ := read_fits hr
    have hop : y.op ≤ 127 := by
     have := may_op hy
     simp only [ops32, List.mem_cons, List.not_mem_nil, or_false] at this
     omega
    have hd := bytes_any_ok y.op y.w y.dst y.src y.base y.disp y.imm y.cc hop
    have hy' : mayX y.op y.w y.dst y.src y.base y.disp y.imm y.cc = true := hy
    simp only [bytesL, bytesE, hy', if_true] at hd
    obtain ⟨h1, h2⟩ := (fit_str (bytesXS_isB hy) hb).1 (List.isPrefixOf_iff_prefix.2 ⟨t, ht⟩)
    have hq' : Ret Try.prog 19 [.lst .no 1 (bD b)] (.tup [xD y.op y.w y.dst y.src y.base y.disp y.imm y.cc, .int .i64 ((bD (bytesXS y)).length : Int), .int .i64 0]) := by rw [len_bD]; exact hq
    exact eb_01_ok op w dst src base disp imm cc b [] hn hbt y.op y.w y.dst y.src y.base y.disp y.imm y.cc (bytesXS y) hq' hd h1 h2
  | true =>
   have hm' : mayXS ⟨op, w, dst, src, base, disp, imm, cc⟩ = true := hm
   simp only [bytesL, bytesE, hm, if_true] at hbt
   obtain ⟨l1, l2⟩ := bytes_len ⟨op, w, dst, src, base, disp, imm, cc⟩
   have hbx := bytesXS_isB hm'
   have hrd : Ret Try.prog 19 [.lst .no 1 (bD (bytesXS ⟨op, w, dst, src, base, disp, imm, cc⟩) ++ bD b)] (.tup [xD op w dst src base disp imm cc, .int .i64 ((bD (bytesXS ⟨op, w, dst, src, base, disp, imm, cc⟩)).length : Int), .int .i64 0]) := by
    have := read_any (bytesXS ⟨op, w, dst, src, base, disp, imm, cc⟩ ++ b) (fun x hx => (List.mem_append.1 hx).elim (hbx x) (hb x))
    rw [read_back hm' b, bD_append] at this
    rw [len_bD]
    exact this
   have hln : Ret Try.prog 22 [xD op w dst src base disp imm cc] (.int .i64 ((bD (bytesXS ⟨op, w, dst, src, base, disp, imm, cc⟩)).length : Int)) := by
    have := xlen_ok op w dst src base disp imm cc ho
    simp only [lenX, bytesL, hm, if_true] at this
    exact this
   cases hr : readM b with
   | none =>
    rw [hr] at hq
    exact eb_10_ok op w dst src base disp imm cc b _ hn ⟨op, w, dst, src, base, disp, imm, cc⟩ hm' rfl (by rw [len_bD]; omega) (by rw [len_bD]; omega) hbt hrd hln hq
   | some y =>
    rw [hr] at hq
    obtain ⟨hy, t, ht⟩ := read_fits hr
    have hop : y.op ≤ 127 := by
     have := may_op hy
     simp only [ops32, List.mem_cons, List.not_mem_nil, or_false] at this
     omega
    have hd := bytes_any_ok y.op y.w y.dst y.src y.base y.disp y.imm y.cc hop
    have hy' : mayX y.op y.w y.dst y.src y.base y.disp y.imm y.cc = true := hy
    simp only [bytesL, bytesE, hy', if_true] at hd
    obtain ⟨h1, h2⟩ := (fit_str (bytesXS_isB hy) hb).1 (List.isPrefixOf_iff_prefix.2 ⟨t, ht⟩)
    have hq' : Ret Try.prog 19 [.lst .no 1 (bD b)] (.tup [xD y.op y.w y.dst y.src y.base y.disp y.imm y.cc, .int .i64 ((bD (bytesXS y)).length : Int), .int .i64 0]) := by rw [len_bD]; exact hq
    exact eb_11_ok op w dst src base disp imm cc b _ hn ⟨op, w, dst, src, base, disp, imm, cc⟩ hm' rfl (by rw [len_bD]; omega) (by rw [len_bD]; omega) hbt hrd hln y.op y.w y.dst y.src y.base y.disp y.imm y.cc (bytesXS y) hq' hd h1 h2
 ·exact eb_long_ok op w dst src base disp imm cc b (by omega)
end Go.Proofs.Ytcngafhpodeenaa
