/- Contracts and plain laws that a statement's proof leans on (texts merged: MV2A, MV3, MV3A, MV4, MdHo, MH1, MH1A, MH2, MdFt, MdHp, FT1, FT0, FT2). -/
import Derived.Test.YtkpneibifdoecaaGreatH07
import Derived.Test.YtkpneibifdoecaaGreatH08
set_option linter.unusedVariables false
set_option linter.unusedSimpArgs false
set_option maxRecDepth 100000
set_option maxHeartbeats 8000000
namespace Go.Proofs.YtkpneibifdoecaaGreat
open Go Go.Ev
theorem named_ok (l : List Mv) (h64 : l.length ≤ 64) : Ret Tryz.prog 96 [.lst .no 2 (mvD l)] (.bool (nmM [] l)) := by
 cases h : nmM [] l with
 | true => exact named_y_ok l h64 h
 | false => exact named_n_ok l h64 h
theorem mayMv_ok (l : List Mv) (h64 : l.length ≤ 64) (sc : Int) : Ret Tryz.prog 65 [.lst .no 2 (mvD l), .int .i8 sc] (.bool (mayMv l sc)) := by
 unfold mayMv
 cases h : ofM sc l with
 | false => exact may_n_ok l h64 sc h
 | true =>
  cases h2 : rgB sc with
  | false => exact may_r_ok l h64 sc h h2
  | true => exact may_y_ok l h64 sc h h2 _ (named_ok l h64)
abbrev raT (l : List Mv) (sc : Int) (k : Nat) : List D := ((.undef) :: (.int .i8 sc) :: (.undef) :: (.undef) :: (.lst .tight 0 []) :: (.undef) :: (.lst .tight 0 []) :: (.mapp 1) :: (un 16 ++ (.lst .no 2 (mvD l)) :: (.int .i64 (l.length : Int)) :: (.int .i64 (k : Int)) :: (un 74)))
abbrev raE (sc : Int) : List D := ((.undef) :: (.int .i8 sc) :: (.undef) :: (.undef) :: (.lst .tight 0 []) :: (.undef) :: (.lst .tight 0 []) :: (un 94))
abbrev rbT (l : List Mv) (sc : Int) (q k : Nat) : List D := ((.undef) :: (.int .i8 sc) :: (.undef) :: (.undef) :: (.lst .tight 0 []) :: (.undef) :: (.slc 2 2 q) :: (.mapp 1) :: (un 16 ++ (.lst .no 2 (mvD l)) :: (.int .i64 (l.length : Int)) :: (.int .i64 (k : Int)) :: (un 74)))
abbrev rbE (sc : Int) (q : Nat) : List D := ((.undef) :: (.int .i8 sc) :: (.undef) :: (.undef) :: (.lst .tight 0 []) :: (.undef) :: (.slc 2 2 q) :: (un 94))
abbrev kP : List LK := [.int .i8, .int .i8]
theorem leftM_cons (p : Mv) (r : List Mv) : leftM (p :: r) = if (p.1 == p.2) = true then leftM r else p :: leftM r := by
 unfold leftM
 rw [List.filter_cons]
 cases h : (p.1 == p.2) <;> simp
theorem rbR (l : List Mv) (h64 : l.length ≤ 64) (sc : Int) : ∀ (n k : Nat) (es : List (List D × D)) (f : List Mv), k + n = l.length → f.length ≤ k →
  Rounds Tryz.prog (loopB Tryz.f47 0) 2 (rbT l sc f.length k) [.dead, .mf kP es, .box (mvC f)] (.exit 1) (rbE sc (f ++ leftM (l.drop k)).length) [.dead, .dead, .box (mvC (f ++ leftM (l.drop k)))]
 | 0, k, es, f, hk, hf => by
  obtain rfl : k = l.length := by omega
  have := rb_end (mvD l) l.length l.length sc es (mvC f) (mvC_clean f) f.length (mvC_len f) (by omega) (Nat.le_refl _)
  rw [mvC_demote] at this
  rw [List.drop_length, show leftM [] = [] from rfl, List.append_nil]
  exact Rounds.last this (fun h => by cases h)
 | n + 1, k, es, f, hk, hf => by
  have hlt : k < l.length := by omega
  rw [List.drop_eq_getElem_cons hlt, leftM_cons]
  cases he : (l[k].1 == l[k].2) with
  | true =>
   have := rb_self (mvD l) l.length k sc es (mvC f) (mvC_clean f) f.length (mvC_len f) (by omega) hlt l[k].1 l[k].2 (mvD_get hlt) h64 he
   rw [wk1 (by omega), mvC_demote] at this
   rw [if_pos rfl]
   exact Rounds.more this (rbR l h64 sc n (k + 1) _ f (by omega) (by omega))
  | false =>
   have := rb_new (mvD l) l.length k sc es (mvC f) (mvC_clean f) f.length (mvC_len f) (by omega) hlt l[k].1 l[k].2 (mvD_get hlt) h64 he
   have e : mvC f ++ [.int .i8 l[k].1, .int .i8 l[k].2] = mvC (f ++ [l[k]]) := by rw [mvC_app]; rfl
   rw [wk1 (by omega), e, mvC_demote] at this
   rw [if_neg (by simp)]
   have ih := rbR l h64 sc n (k + 1) (updF es [.int .i8 l[k].1, .int .i8 l[k].2] (.bool (l[k].1 == l[k].2))) (f ++ [l[k]]) (by omega) (by rw [List.length_append, List.length_singleton]; omega)
   rw [List.append_assoc, show (f ++ [l[k]]).length = f.length + 1 by simp] at ih
   exact Rounds.more this ih
theorem raN (l : List Mv) (h64 : l.length ≤ 64) (sc : Int) : ∀ (n k : Nat) (es : List (List D × D)), k + n = l.length → leftM (l.drop k) = [] →
  Rounds Tryz.prog (loopB Tryz.f47 0) 2 (raT l sc k) [.dead, .mf kP es] (.exit 1) (raE sc) [.dead, .dead]
 | 0, k, es, hk, hf => Rounds.last (ra_end (mvD l) l.length k sc es (by omega)) (fun h => by cases h)
 | n + 1, k, es, hk, hf => by
  have hlt : k < l.length := by omega
  rw [List.drop_eq_getElem_cons hlt, leftM_cons] at hf
  cases he : (l[k].1 == l[k].2) with
  | true =>
   rw [he, if_pos rfl] at hf
   have := ra_self (mvD l) l.length k sc es hlt l[k].1 l[k].2 (mvD_get hlt) h64 he
   rw [wk1 (by omega)] at this
   exact Rounds.more this (raN l h64 sc n (k + 1) _ (by omega) hf)
  | false => rw [he, if_neg (by simp)] at hf; cases hf
theorem raS (l : List Mv) (h64 : l.length ≤ 64) (sc : Int) : ∀ (n k : Nat) (es : List (List D × D)), k + n = l.length → leftM (l.drop k) ≠ [] →
  Rounds Tryz.prog (loopB Tryz.f47 0) 2 (raT l sc k) [.dead, .mf kP es] (.exit 1) (rbE sc (leftM (l.drop k)).length) [.dead, .dead, .box (mvC (leftM (l.drop k)))]
 | 0, k, es, hk, hf => by
  obtain rfl : k = l.length := by omega
  rw [List.drop_length] at hf
  exact absurd rfl hf
 | n + 1, k, es, hk, hf => by
  have hlt : k < l.length := by omega
  rw [List.drop_eq_getElem_cons hlt, leftM_cons] at hf ⊢
  cases he : (l[k].1 == l[k].2) with
  | true =>
   rw [he, if_pos rfl] at hf
   rw [if_pos rfl]
   have := ra_self (mvD l) l.length k sc es hlt l[k].1 l[k].2 (mvD_get hlt) h64 he
   rw [wk1 (by omega)] at this
   exact Rounds.more this (raS l h64 sc n (k + 1) _ (by omega) hf)
  | false =>
   rw [if_neg (by simp)]
   by_cases hk0 : k + 1 ≤ 64
   ·have := ra_first (mvD l) l.length k sc es hlt l[k].1 l[k].2 (mvD_get hlt) h64 he
    rw [wk1 (by omega)] at this
    by_cases hz : 1 ≤ k + 1
    ·exact Rounds.more this (rbR l h64 sc n (k + 1) _ [l[k]] (by omega) hz)
    ·omega
   ·omega
abbrev raT0 (l : List Mv) (sc : Int) : List D := ((.undef) :: (.int .i8 sc) :: (.undef) :: (.undef) :: (.lst .tight 0 []) :: (.undef) :: (.lst .tight 0 []) :: (.mapp 1) :: (un 16 ++ (.lst .no 2 (mvD l)) :: (.int .i64 ((mvD l).length : Int)) :: (.int .i64 0) :: (un 74)))
theorem raT0_eq (l : List Mv) (sc : Int) : raT0 l sc = raT l sc 0 := by simp only [raT0, raT, mvD_len]; rfl
theorem raNL (l : List Mv) (h64 : l.length ≤ 64) (sc : Int) (h : leftM l = []) : LoopRun Tryz.prog 2 (.loop (loopB Tryz.f47 0)) (raT0 l sc) [.dead, .mf kP []] (.exit 1) (raE sc) [.dead, .dead] := by
 rw [raT0_eq]
 exact LoopRun.of_rounds (Nat.le_refl _) (raN l h64 sc l.length 0 [] (by omega) h)
theorem raSL (l : List Mv) (h64 : l.length ≤ 64) (sc : Int) (h : leftM l ≠ []) : LoopRun Tryz.prog 2 (.loop (loopB Tryz.f47 0)) (raT0 l sc) [.dead, .mf kP []] (.exit 1) (rbE sc (leftM l).length) [.dead, .dead, .box (mvC (leftM l))] := by
 rw [raT0_eq]
 exact LoopRun.of_rounds (Nat.le_refl _) (raS l h64 sc l.length 0 [] (by omega) h)
abbrev swM (sc f : Int) (q : Mv) : Mv := if q.2 = f then (q.1, sc) else q
abbrev stT (sc f : Int) (outs : List D) (n k : Nat) : List D := ((.undef) :: (.int .i8 sc) :: (.undef) :: (.undef) :: (.lst (.tok 3 1) 2 outs) :: (.undef) :: (.slc 4 2 n) :: (un 5 ++ (.int .i8 f) :: (un 54 ++ (.int .i64 (n : Int)) :: (.int .i64 (k : Int)) :: (un 32))))
abbrev stE (sc : Int) (outs : List D) (n : Nat) : List D := ((.undef) :: (.int .i8 sc) :: (.undef) :: (.undef) :: (.lst (.tok 3 1) 2 outs) :: (.undef) :: (.slc 4 2 n) :: (un 94))
abbrev stS (l : List Mv) : List Ob := [.dead, .dead, .dead, .fam 1 2, .box (mvC l), .dead]
theorem stR (sc f : Int) (outs : List D) : ∀ (R Q : List Mv) (n : Nat), Q.length + R.length = n → n ≤ 64 →
  Rounds Tryz.prog (loopB Tryz.f47 2) 6 (stT sc f outs n Q.length) (stS (Q ++ R)) (.exit 5) (stE sc outs n) (stS (Q ++ R.map (swM sc f)))
 | [], Q, n, hn, h64 => by
  have hl : Q.length = n := by simpa using hn
  have := st_end (mvC (Q ++ [])) outs (mvC_clean _) sc f n Q.length h64 (by rw [mvC_len, List.append_nil]; omega) (by omega)
  rw [mvC_demote] at this
  exact Rounds.last this (fun h => by cases h)
 | p :: R, Q, n, hn, h64 => by
  have hn' : Q.length + (R.length + 1) = n := by simpa using hn
  have hlt : Q.length < (Q ++ p :: R).length := by simp
  have hp : (Q ++ p :: R)[Q.length] = p := by simp
  have hg := mvC_get2 (Q ++ p :: R) Q.length hlt
  rw [hp] at hg
  have hcl : (mvC (Q ++ p :: R)).length = n * 2 := by rw [mvC_len, List.length_append, List.length_cons]; omega
  have ih := stR sc f outs R (Q ++ [swM sc f p]) n (by rw [List.length_append, List.length_singleton]; omega) h64
  rw [List.append_assoc, List.append_assoc, show (Q ++ [swM sc f p]).length = Q.length + 1 by simp] at ih
  rw [List.map_cons]
  by_cases he : p.2 = f
  ·have := st_eq (mvC (Q ++ p :: R)) outs (mvC_clean _) sc f n Q.length h64 hcl (by omega) p.2 hg (by simpa using he)
   have e : (mvC (Q ++ p :: R)).set (Int.toNat (Q.length : Int) * 2 + 1) (.int .i8 sc) = mvC (Q ++ swM sc f p :: R) := by
    rw [Int.toNat_natCast, mvC_set _ _ hlt, hp]
    simp [swM, he]
   rw [wk1 (by omega), e, mvC_demote] at this
   exact Rounds.more this ih
  ·have := st_ne (mvC (Q ++ p :: R)) outs (mvC_clean _) sc f n Q.length h64 hcl (by omega) p.2 hg (by simpa using he)
   rw [wk1 (by omega), mvC_demote] at this
   have e : swM sc f p = p := by simp [swM, he]
   rw [e] at ih ⊢
   exact Rounds.more this ih
theorem stL (l : List Mv) (h64 : l.length ≤ 64) (sc f : Int) (outs : List D) : LoopRun Tryz.prog 6 (.loop (loopB Tryz.f47 2)) (stT sc f outs l.length 0) [.dead, .dead, .dead, .fam 1 2, .box (List.map D.demote (mvC l)), .dead] (.exit 5) (stE sc outs l.length) (stS (l.map (swM sc f))) := by
 have := stR sc f outs l [] l.length (by simp) h64
 rw [mvC_demote]
 exact LoopRun.of_rounds (Nat.le_refl _) this
theorem mr_more (l : List Mv) (h64 : l.length ≤ 64) (hne : ∀ p ∈ l, p.1 ≠ p.2) (sc : Int) (outs : List D) (ho : outs.length ≤ 200) (hp : 0 < l.length) (j : Nat) (hj : rdyAt l l 0 = some j) (jl : j < l.length) (a b : Int) (hA : GetsA (mvC l) (j * 2) 2 [.int .i8 a, .int .i8 b]) (c1 c2 : List D) (hc1 : ∀ c ∈ c1, c.clean = true) (hc2 : ∀ c ∈ c2, c.clean = true) (hF : GetsA (mvC l) 0 (Int.toNat (j : Int) * 2) c1) (hR : GetsA (mvC l) (0 + Int.toNat (IntKind.i64.wrap ((j : Int) + 1)) * 2) ((l.length - Int.toNat (IntKind.i64.wrap ((j : Int) + 1))) * 2) c2) (hb : (Nat.blt 0 (Int.toNat (j : Int) + (l.length - Int.toNat (IntKind.i64.wrap ((j : Int) + 1))))) = true)  : RoundRun Tryz.prog (loopB Tryz.f47 1) ⟨[1], [], [(4, 2), (6, 2)]⟩ 3 ((D.undef) :: (.int .i8 sc) :: (D.undef) :: (D.undef) :: (.lst (.tok 3 0) 2 outs) :: (D.undef) :: (.slc 4 2 (List.length l)) :: (un 94)) [.dead, .dead, .dead, .fam 0 2, .box (mvC l)] .norm ((D.undef) :: (.int .i8 sc) :: (D.undef) :: (D.undef) :: (.lst (.tok 3 0) 2 (outs ++ [.agg [.int .i8 a, .int .i8 b]])) :: (D.undef) :: (.slc 4 2 (Int.toNat (↑j : Int) + (List.length l - Int.toNat (IntKind.i64.wrap ((↑j : Int) + (1 : Int)))))) :: (un 94)) ([.dead, .dead, .dead, .fam 0 2, .box (List.map D.demote (c1 ++ c2))]) := by
 exact (RoundRun.of_eval (sp := ⟨[1], [], [(4, 2), (6, 2)]⟩) (n0 := 3) (ex := Ex.norm) (t' := ((D.undef) :: (.int .i8 sc) :: (D.undef) :: (D.undef) :: (.lst (.tok 3 0) 2 (outs ++ [.agg [.int .i8 a, .int .i8 b]])) :: (D.undef) :: (.slc 4 2 (Int.toNat (↑j : Int) + (List.length l - Int.toNat (IntKind.i64.wrap ((↑j : Int) + (1 : Int)))))) :: (un 94))) (s' := [.dead, .dead, .dead, .fam 0 2, .box (List.map D.demote (c1 ++ c2))]) mixed [tC (ltL 0 (by ((try simp only [List.length_append, List.length_cons, List.length_nil, List.length_set, w_i8, w_u8, w_i64, w_u64, decide_eq_true_eq, decide_eq_false_iff_not, beq_iff_eq, bne_iff_ne, beq_eq_false_iff_ne, bne_eq_false_iff_eq, Bool.not_eq_true', Bool.not_eq_false', Bool.and_eq_true, Bool.or_eq_true] at *); (try unfold big at *); omega) : (decide ((↑(List.length l) : Int) < (1 : Int))) = false)), .callR _ _ _ _ _ (@rdy_y_ok (l) h64 hne _ hj), tF, .tst (decide ((0 : Int) ≤ (↑j : Int) ∧ (↑j : Int) < (↑(List.length l) : Int))) true (by ((try simp only [List.length_append, List.length_cons, List.length_nil, List.length_set, w_i8, w_u8, w_i64, w_u64, decide_eq_true_eq, decide_eq_false_iff_not, beq_iff_eq, bne_iff_ne, beq_eq_false_iff_ne, bne_eq_false_iff_eq, Bool.not_eq_true', Bool.not_eq_false', Bool.and_eq_true, Bool.or_eq_true] at *); (try unfold big at *); omega)), .getA _ _ _ _ (@gets_mv (mvC l) (Int.toNat (↑j : Int) * (2 : Nat)) ((2 : Nat)) _ hA), .len (List.length outs + (1 : Nat)) ((2147483648 : Nat)) (by first | decide | omega | (simp; omega)), .tst (decide ((0 : Int) ≤ (↑j : Int) ∧ (↑j : Int) ≤ (↑j : Int) ∧ (↑j : Int) ≤ (↑(List.length l) : Int))) true (by ((try simp only [List.length_append, List.length_cons, List.length_nil, List.length_set, w_i8, w_u8, w_i64, w_u64, decide_eq_true_eq, decide_eq_false_iff_not, beq_iff_eq, bne_iff_ne, beq_eq_false_iff_ne, bne_eq_false_iff_eq, Bool.not_eq_true', Bool.not_eq_false', Bool.and_eq_true, Bool.or_eq_true] at *); (try unfold big at *); omega)), .tst (decide ((0 : Int) ≤ IntKind.i64.wrap ((↑j : Int) + (1 : Int)) ∧ IntKind.i64.wrap ((↑j : Int) + (1 : Int)) ≤ (↑(List.length l) : Int))) true (by ((try simp only [List.length_append, List.length_cons, List.length_nil, List.length_set, w_i8, w_u8, w_i64, w_u64, decide_eq_true_eq, decide_eq_false_iff_not, beq_iff_eq, bne_iff_ne, beq_eq_false_iff_ne, bne_eq_false_iff_eq, Bool.not_eq_true', Bool.not_eq_false', Bool.and_eq_true, Bool.or_eq_true] at *); (try unfold big at *); omega)), .len (Int.toNat (↑j : Int) + (List.length l - Int.toNat (IntKind.i64.wrap ((↑j : Int) + (1 : Int))))) ((2147483648 : Nat)) (by first | decide | omega | (simp; omega)), tC (v := true) (@nbeq_self (Int.toNat (↑j : Int))), tC hb, .getA _ _ _ _ (@gets_mv (mvC l) ((0 : Nat)) (Int.toNat (↑j : Int) * (2 : Nat)) _ hF), .getA _ _ _ _ (@gets_mv (mvC l) ((0 : Nat) + Int.toNat (IntKind.i64.wrap ((↑j : Int) + (1 : Int))) * (2 : Nat)) ((List.length l - Int.toNat (IntKind.i64.wrap ((↑j : Int) + (1 : Int)))) * (2 : Nat)) _ hR), .cl (c1 ++ c2) (by first | exact clAll rfl | exact mvC_clean _ | exact cl_app2 hc1 hc2)] (by kernel_rfl)).cast (by rfl) (by rfl)
theorem mr_last (l : List Mv) (h64 : l.length ≤ 64) (hne : ∀ p ∈ l, p.1 ≠ p.2) (sc : Int) (outs : List D) (ho : outs.length ≤ 200) (hp : 0 < l.length) (j : Nat) (hj : rdyAt l l 0 = some j) (jl : j < l.length) (a b : Int) (hA : GetsA (mvC l) (j * 2) 2 [.int .i8 a, .int .i8 b]) (hb : (Nat.blt 0 (Int.toNat (j : Int) + (l.length - Int.toNat (IntKind.i64.wrap ((j : Int) + 1))))) = false)  : RoundRun Tryz.prog (loopB Tryz.f47 1) ⟨[1, 6], [], [(4, 2)]⟩ 3 ((D.undef) :: (.int .i8 sc) :: (D.undef) :: (D.undef) :: (.lst (.tok 3 0) 2 outs) :: (D.undef) :: (.slc 4 2 (List.length l)) :: (un 94)) [.dead, .dead, .dead, .fam 0 2, .box (mvC l)] .norm ((D.undef) :: (.int .i8 sc) :: (D.undef) :: (D.undef) :: (.lst (.tok 3 0) 2 (outs ++ [.agg [.int .i8 a, .int .i8 b]])) :: (D.undef) :: (.lst .tight 2 []) :: (un 94)) ([.dead, .dead, .dead, .fam 0 2]) := by
 exact (RoundRun.of_eval (sp := ⟨[1, 6], [], [(4, 2)]⟩) (n0 := 3) (ex := Ex.norm) (t' := ((D.undef) :: (.int .i8 sc) :: (D.undef) :: (D.undef) :: (.lst (.tok 3 0) 2 (outs ++ [.agg [.int .i8 a, .int .i8 b]])) :: (D.undef) :: (.lst .tight 2 []) :: (un 94))) (s' := [.dead, .dead, .dead, .fam 0 2]) mixed [tC (ltL 0 (by ((try simp only [List.length_append, List.length_cons, List.length_nil, List.length_set, w_i8, w_u8, w_i64, w_u64, decide_eq_true_eq, decide_eq_false_iff_not, beq_iff_eq, bne_iff_ne, beq_eq_false_iff_ne, bne_eq_false_iff_eq, Bool.not_eq_true', Bool.not_eq_false', Bool.and_eq_true, Bool.or_eq_true] at *); (try unfold big at *); omega) : (decide ((↑(List.length l) : Int) < (1 : Int))) = false)), .callR _ _ _ _ _ (@rdy_y_ok (l) h64 hne _ hj), tF, .tst (decide ((0 : Int) ≤ (↑j : Int) ∧ (↑j : Int) < (↑(List.length l) : Int))) true (by ((try simp only [List.length_append, List.length_cons, List.length_nil, List.length_set, w_i8, w_u8, w_i64, w_u64, decide_eq_true_eq, decide_eq_false_iff_not, beq_iff_eq, bne_iff_ne, beq_eq_false_iff_ne, bne_eq_false_iff_eq, Bool.not_eq_true', Bool.not_eq_false', Bool.and_eq_true, Bool.or_eq_true] at *); (try unfold big at *); omega)), .getA _ _ _ _ (@gets_mv (mvC l) (Int.toNat (↑j : Int) * (2 : Nat)) ((2 : Nat)) _ hA), .len (List.length outs + (1 : Nat)) ((2147483648 : Nat)) (by first | decide | omega | (simp; omega)), .tst (decide ((0 : Int) ≤ (↑j : Int) ∧ (↑j : Int) ≤ (↑j : Int) ∧ (↑j : Int) ≤ (↑(List.length l) : Int))) true (by ((try simp only [List.length_append, List.length_cons, List.length_nil, List.length_set, w_i8, w_u8, w_i64, w_u64, decide_eq_true_eq, decide_eq_false_iff_not, beq_iff_eq, bne_iff_ne, beq_eq_false_iff_ne, bne_eq_false_iff_eq, Bool.not_eq_true', Bool.not_eq_false', Bool.and_eq_true, Bool.or_eq_true] at *); (try unfold big at *); omega)), .tst (decide ((0 : Int) ≤ IntKind.i64.wrap ((↑j : Int) + (1 : Int)) ∧ IntKind.i64.wrap ((↑j : Int) + (1 : Int)) ≤ (↑(List.length l) : Int))) true (by ((try simp only [List.length_append, List.length_cons, List.length_nil, List.length_set, w_i8, w_u8, w_i64, w_u64, decide_eq_true_eq, decide_eq_false_iff_not, beq_iff_eq, bne_iff_ne, beq_eq_false_iff_ne, bne_eq_false_iff_eq, Bool.not_eq_true', Bool.not_eq_false', Bool.and_eq_true, Bool.or_eq_true] at *); (try unfold big at *); omega)), .len (Int.toNat (↑j : Int) + (List.length l - Int.toNat (IntKind.i64.wrap ((↑j : Int) + (1 : Int))))) ((2147483648 : Nat)) (by first | decide | omega | (simp; omega)), tC (v := true) (@nbeq_self (Int.toNat (↑j : Int))), tC hb] (by kernel_rfl)).cast (by rfl) (by rfl)
theorem mr_stuck (l : List Mv) (h64 : l.length ≤ 64) (hne : ∀ p ∈ l, p.1 ≠ p.2) (sc : Int) (outs : List D) (ho : outs.length ≤ 200) (hp : 0 < l.length) (hj : rdyAt l l 0 = none) (f : Int) (hf : (mvC l)[0 * 2 + 1]? = some (.int .i8 f))  : RoundRun Tryz.prog (loopB Tryz.f47 1) ⟨[1], [], [(4, 2), (6, 2)]⟩ 3 ((D.undef) :: (.int .i8 sc) :: (D.undef) :: (D.undef) :: (.lst (.tok 3 0) 2 outs) :: (D.undef) :: (.slc 4 2 (List.length l)) :: (un 94)) [.dead, .dead, .dead, .fam 0 2, .box (mvC l)] .norm ((D.undef) :: (.int .i8 sc) :: (D.undef) :: (D.undef) :: (.lst (.tok 3 0) 2 (outs ++ [.agg [.int .i8 sc, .int .i8 f]])) :: (D.undef) :: (.slc 4 2 (List.length l)) :: (un 94)) ([.dead, .dead, .dead, .fam 0 2, .box (List.map D.demote (mvC (List.map (swM sc f) l)))]) := by
 have c0 := @stL (l) h64 (sc) (f) (outs ++ [.agg [.int .i8 sc, .int .i8 f]])
 exact (RoundRun.of_eval (sp := ⟨[1], [], [(4, 2), (6, 2)]⟩) (n0 := 3) (ex := Ex.norm) (t' := ((D.undef) :: (.int .i8 sc) :: (D.undef) :: (D.undef) :: (.lst (.tok 3 0) 2 (outs ++ [.agg [.int .i8 sc, .int .i8 f]])) :: (D.undef) :: (.slc 4 2 (List.length l)) :: (un 94))) (s' := [.dead, .dead, .dead, .fam 0 2, .box (List.map D.demote (mvC (List.map (swM sc f) l)))]) mixed [tC (ltL 0 (by ((try simp only [List.length_append, List.length_cons, List.length_nil, List.length_set, w_i8, w_u8, w_i64, w_u64, decide_eq_true_eq, decide_eq_false_iff_not, beq_iff_eq, bne_iff_ne, beq_eq_false_iff_ne, bne_eq_false_iff_eq, Bool.not_eq_true', Bool.not_eq_false', Bool.and_eq_true, Bool.or_eq_true] at *); (try unfold big at *); omega) : (decide ((↑(List.length l) : Int) < (1 : Int))) = false)), .callR _ _ _ _ _ (@rdy_n_ok (l) h64 hne hj), tT, .tst (decide ((0 : Int) ≤ (0 : Int) ∧ (0 : Int) < (↑(List.length l) : Int))) true (by ((try simp only [List.length_append, List.length_cons, List.length_nil, List.length_set, w_i8, w_u8, w_i64, w_u64, decide_eq_true_eq, decide_eq_false_iff_not, beq_iff_eq, bne_iff_ne, beq_eq_false_iff_ne, bne_eq_false_iff_eq, Bool.not_eq_true', Bool.not_eq_false', Bool.and_eq_true, Bool.or_eq_true] at *); (try unfold big at *); omega)), .get _ _ _ hf, .len (List.length outs + (1 : Nat)) ((2147483648 : Nat)) (by first | decide | omega | (simp; omega)), .head ⟨[1, 4, 6, 12, 67, 68], [3, 1000004], []⟩ _ _ _ _ _ _ _ c0, .cl (mvC l) (by first | exact clAll rfl | exact mvC_clean _ | exact cl_app2 hc1 hc2), .cl (mvC (List.map (swM sc f) l)) (by first | exact clAll rfl | exact mvC_clean _ | exact cl_app2 hc1 hc2)] (by kernel_rfl)).cast (by rfl) (by rfl)
theorem mr_end (sc : Int) (outs : List D)  : RoundRun Tryz.prog (loopB Tryz.f47 1) ⟨[], [], [(4, 2)]⟩ 3 ((D.undef) :: (.int .i8 sc) :: (D.undef) :: (D.undef) :: (.lst (.tok 3 0) 2 outs) :: (D.undef) :: (.lst .tight 2 []) :: (un 94)) [.dead, .dead, .dead, .fam 0 2] (.exit 3) (un 4 ++ (.lst (.tok 3 0) 2 outs) :: (un 96)) ([.dead, .dead, .dead, .fam 0 2]) := by
 exact (RoundRun.of_eval (sp := ⟨[], [], [(4, 2)]⟩) (n0 := 3) (ex := Ex.exit (3 : Nat)) (t' := (un 4 ++ (.lst (.tok 3 0) 2 outs) :: (un 96))) (s' := [.dead, .dead, .dead, .fam 0 2]) mixed [tF] (by kernel_rfl)).cast (by rfl) (by rfl)
theorem movM_nil (sc : Int) : ∀ f, movM sc f [] = []
 | 0 => rfl
 | _ + 1 => rfl
theorem mvD_cons (p : Mv) (l : List Mv) : mvD (p :: l) = .agg [.int .i8 p.1, .int .i8 p.2] :: mvD l := rfl
abbrev mrT (sc : Int) (outs : List D) (n : Nat) : List D := ((.undef) :: (.int .i8 sc) :: (.undef) :: (.undef) :: (.lst (.tok 3 0) 2 outs) :: (.undef) :: (.slc 4 2 n) :: (un 94))
abbrev mrE (outs : List D) : List D := (un 4 ++ (.lst (.tok 3 0) 2 outs) :: (un 96))
abbrev mrS (l : List Mv) : List Ob := [.dead, .dead, .dead, .fam 0 2, .box (mvC l)]
theorem mainR (sc : Int) : ∀ (f : Nat) (l : List Mv) (outs : List D), MvOk sc l → l ≠ [] → l.length + offS sc l ≤ f → l.length ≤ 64 → outs.length + f ≤ 200 →
  Rounds Tryz.prog (loopB Tryz.f47 1) 3 (mrT sc outs l.length) (mrS l) (.exit 3) (mrE (outs ++ mvD (movM sc f l))) [.dead, .dead, .dead, .fam 0 2]
 | 0, l, outs, h, hn, hf, h64, ho => by
  have := List.length_pos_iff.2 hn
  omega
 | f + 1, [], outs, h, hn, hf, h64, ho => absurd rfl hn
 | f + 1, p :: r, outs, h, hn, hf, h64, ho => by
  have hpos : 0 < (p :: r).length := by simp
  have hoff := fun k => offS_erase sc (p :: r) k
  rw [movM]
  cases hj : rdyAt (p :: r) (p :: r) 0 with
  | some j =>
   obtain ⟨j', q, rfl, hk, hq⟩ := rdyAt_some _ _ _ _ hj
   rw [Nat.zero_add] at *
   obtain ⟨hlt, hget⟩ := List.getElem?_eq_some_iff.1 hk
   have hA := mvC_gets hlt
   rw [hget] at hA
   have hw : IntKind.i64.wrap ((j' : Int) + 1) = ((j' + 1 : Nat) : Int) := wk1 (by omega)
   have hlen : ((p :: r).eraseIdx j').length + 1 = (p :: r).length := by rw [List.length_eraseIdx, if_pos hlt]; omega
   simp only []
   rw [List.getD_eq_getElem?_getD, hk, Option.getD_some, mvD_cons]
   by_cases h1 : (p :: r).length = 1
   ·have hb : Nat.blt 0 (Int.toNat (j' : Int) + ((p :: r).length - Int.toNat (IntKind.i64.wrap ((j' : Int) + 1)))) = false := by
     rw [hw, Int.toNat_natCast, Int.toNat_natCast, h1, show j' = 0 by omega]; rfl
    have := mr_last (p :: r) h64 h.ne sc outs (by omega) hpos j' hj hlt q.1 q.2 hA hb
    have e : (p :: r).eraseIdx j' = [] := List.eq_nil_of_length_eq_zero (by omega)
    rw [e, movM_nil]
    exact Rounds.more this (Rounds.last (mr_end sc (outs ++ [.agg [.int .i8 q.1, .int .i8 q.2]])) (fun h => by cases h))
   ·have hb : Nat.blt 0 (Int.toNat (j' : Int) + ((p :: r).length - Int.toNat (IntKind.i64.wrap ((j' : Int) + 1)))) = true := by
     rw [hw, Int.toNat_natCast, Int.toNat_natCast, Nat.blt_eq]; omega
    have hF := mvC_first (l := p :: r) (k := j') (by omega)
    have hR : GetsA (mvC (p :: r)) (0 + Int.toNat (IntKind.i64.wrap ((j' : Int) + 1)) * 2) (((p :: r).length - Int.toNat (IntKind.i64.wrap ((j' : Int) + 1))) * 2) (mvC ((p :: r).drop (j' + 1))) := by
     rw [hw, Int.toNat_natCast, Nat.zero_add]
     exact mvC_rest (by omega) rfl
    have := mr_more (p :: r) h64 h.ne sc outs (by omega) hpos j' hj hlt q.1 q.2 hA _ _ (mvC_clean _) (mvC_clean _) hF hR hb
    have e : (p :: r).eraseIdx j' = (p :: r).take j' ++ (p :: r).drop (j' + 1) := List.eraseIdx_eq_take_drop_succ _ _
    have el : Int.toNat (j' : Int) + ((p :: r).length - Int.toNat (IntKind.i64.wrap ((j' : Int) + 1))) = ((p :: r).eraseIdx j').length := by rw [hw, Int.toNat_natCast, Int.toNat_natCast]; omega
    rw [el, ← mvC_app, mvC_demote, ← e] at this
    have ho2 := hoff j'
    have ih := mainR sc f ((p :: r).eraseIdx j') (outs ++ [.agg [.int .i8 q.1, .int .i8 q.2]]) (h.erase j') (fun e => h1 (by rw [← hlen, e]; rfl)) (by omega) (by omega) (by rw [List.length_append, List.length_singleton]; omega)
    rw [List.append_assoc] at ih
    exact Rounds.more this ih
  | none =>
   have hso := stuck_off sc (p :: r) h.nd h.sc hj
   have hp : p.2 ≠ sc := hso p (by simp)
   obtain ⟨o1, o2⟩ := offS_map sc p.2 hp (p :: r)
   have o3 : offS sc ((p :: r).map (swM sc p.2)) < offS sc (p :: r) := o2 ⟨p, by simp, rfl⟩
   simp only []
   rw [mvD_cons]
   have := mr_stuck (p :: r) h64 h.ne sc outs (by omega) hpos hj p.2 rfl
   rw [mvC_demote] at this
   have ih := mainR sc f ((p :: r).map (swM sc p.2)) (outs ++ [.agg [.int .i8 sc, .int .i8 p.2]]) (h.swap p.2) (by simp) (by rw [List.length_map]; omega) (by rw [List.length_map]; omega) (by rw [List.length_append, List.length_singleton]; omega)
   rw [List.append_assoc, List.length_map] at ih
   exact Rounds.more this ih
abbrev fuM (l : List Mv) : Nat := 2 * l.length
theorem mainL (l : List Mv) (h64 : l.length ≤ 64) (sc : Int) (h : MvOk sc (leftM l)) (hn : leftM l ≠ []) : LoopRun Tryz.prog 3 (.loop (loopB Tryz.f47 1)) (mrT sc [] (leftM l).length) [.dead, .dead, .dead, .fam 0 2, .box (List.map D.demote (mvC (leftM l)))] (.exit 3) (mrE (mvD (movM sc (fuM l) (leftM l)))) [.dead, .dead, .dead, .fam 0 2] := by
 have hle : (leftM l).length ≤ l.length := List.length_filter_le _ _
 have ho := offS_le sc (leftM l)
 have := mainR sc (fuM l) (leftM l) [] h hn (by unfold fuM; omega) (by omega) (by unfold fuM; simp; omega)
 rw [List.nil_append] at this
 rw [mvC_demote]
 exact LoopRun.of_rounds (by simp) this
theorem mrun_nil_ok (l : List Mv) (h64 : (mvD l).length ≤ 64) (h65 : l.length ≤ 64) (sc : Int) (hl : (mvD l).length ≤ 16) (h : mayMv l sc = true) (hn : leftM l = [])  : Ret Tryz.prog 47 ([.lst .no 2 (mvD l), .int .i8 sc]) (.tup [.lst .tight 0 [], .int .i64 0]) := by
 have c0 := @mayMv_ok (l) h65 (sc)
 have c1 := @raNL (l) h65 (sc) hn
 exact (Ret.of_eval (d := .tup [.lst .tight 0 [], .int .i64 0]) mixed Tryz.func47 (by kernel_rfl) [tC (ltL 16 (by ((try simp only [List.length_append, List.length_cons, List.length_nil, List.length_set, w_i8, w_u8, w_i64, w_u64, decide_eq_true_eq, decide_eq_false_iff_not, beq_iff_eq, bne_iff_ne, beq_eq_false_iff_ne, bne_eq_false_iff_eq, Bool.not_eq_true', Bool.not_eq_false', Bool.and_eq_true, Bool.or_eq_true] at *); (try unfold big at *); omega) : (decide ((↑(List.length (mvD l)) : Int) < (17 : Int))) = true)), .ret _ _ _ c0, tC (nt h), .mkey _ _ key_Pair, .head ⟨[1, 4, 6, 7, 24, 25, 26], [1], []⟩ _ _ _ _ _ _ _ c1, .go 64, tF] (by kernel_rfl)).to (by simp [wk, wkL, wkO])
theorem mrun_ok_ok (l : List Mv) (h64 : (mvD l).length ≤ 64) (h65 : l.length ≤ 64) (sc : Int) (hl : (mvD l).length ≤ 16) (h : mayMv l sc = true) (hk : MvOk sc (leftM l)) (hn : leftM l ≠ []) (hp : 0 < (leftM l).length)  : Ret Tryz.prog 47 ([.lst .no 2 (mvD l), .int .i8 sc]) (.tup [.lst (.fresh 2) 2 (mvD (movM sc (fuM l) (leftM l))), .int .i64 0]) := by
 have c0 := @mayMv_ok (l) h65 (sc)
 have c1 := @raSL (l) h65 (sc) hn
 have c2 := @mainL (l) h65 (sc) hk hn
 exact (Ret.of_eval (d := .tup [.lst (.fresh 2) 2 (mvD (movM sc (fuM l) (leftM l))), .int .i64 0]) mixed Tryz.func47 (by kernel_rfl) [tC (ltL 16 (by ((try simp only [List.length_append, List.length_cons, List.length_nil, List.length_set, w_i8, w_u8, w_i64, w_u64, decide_eq_true_eq, decide_eq_false_iff_not, beq_iff_eq, bne_iff_ne, beq_eq_false_iff_ne, bne_eq_false_iff_eq, Bool.not_eq_true', Bool.not_eq_false', Bool.and_eq_true, Bool.or_eq_true] at *); (try unfold big at *); omega) : (decide ((↑(List.length (mvD l)) : Int) < (17 : Int))) = true)), .ret _ _ _ c0, tC (nt h), .mkey _ _ key_Pair, .head ⟨[1, 4, 6, 7, 24, 25, 26], [1], []⟩ _ _ _ _ _ _ _ c1, .head ⟨[1], [], [(4, 2), (6, 2)]⟩ _ _ _ _ _ _ _ c2, .cl (mvC (leftM l)) (by first | exact clAll rfl | exact mvC_clean _)] (by kernel_rfl)).to (by simp [wk, wkL, wkO])
end Go.Proofs.YtkpneibifdoecaaGreat
namespace Go.Ev
open Go
def hxD (x : XS) : D := xD x.op x.w x.dst x.src x.base x.disp x.imm x.cc
def toI : Nat → Int
  | 0 => 7
  | 1 => 6
  | 2 => 2
  | 3 => 10
  | _ => 8
abbrev toL : List D := [.int .i8 7, .int .i8 6, .int .i8 2, .int .i8 10, .int .i8 8]
theorem toL_get {k : Nat} (h : k < 5) : toL[0 + Int.toNat (k : Int) * 1]? = some (.int .i8 (toI k)) := by
 have : k = 0 ∨ k = 1 ∨ k = 2 ∨ k = 3 ∨ k = 4 := by omega
 rcases this with rfl | rfl | rfl | rfl | rfl <;> rfl
def hlM (p : PlS) : Nat → Nat → List Mv
  | 0, _ => []
  | m + 1, k => if (p.k ((k + 1 : Nat) : Int) == 1) = true then (toI k, p.n ((k + 1 : Nat) : Int)) :: hlM p m (k + 1) else hlM p m (k + 1)
def intoS (to k n : Int) : XS := if (k == 2) = true then ⟨26, 64, to, 0, 4, 8 * n, 0, 0⟩ else ⟨1, 32, to, 0, 0, 0, 0, 0⟩
def laM (p : PlS) : Nat → Nat → List XS
  | 0, _ => []
  | m + 1, k => if (p.k ((k + 1 : Nat) : Int) == 1) = true then laM p m (k + 1) else intoS (toI k) (p.k ((k + 1 : Nat) : Int)) (p.n ((k + 1 : Nat) : Int)) :: laM p m (k + 1)
def movX (q : Mv) : XS := ⟨0, 64, q.1, q.2, 0, 0, 0, 0⟩
def argN (num : Int) : Nat := num.toNat % 6
def hoMv (p : PlS) (n : Nat) : List Mv := movM 11 (2 * (hlM p n 0).length) (leftM (hlM p n 0))
def hoM (p : PlS) (num : Int) : List XS := (hoMv p (argN num)).map movX ++ (laM p (argN num) 0 ++ [⟨1, 32, 0, 0, 0, 0, num, 0⟩, ⟨31, 0, 0, 0, 0, 0, 0, 0⟩])
theorem hlM_len (p : PlS) : ∀ m k, (hlM p m k).length ≤ m
 | 0, _ => Nat.le_refl _
 | m + 1, k => by
  have := hlM_len p m (k + 1)
  rw [hlM]
  split
  ·rw [List.length_cons]; omega
  ·omega
theorem laM_len (p : PlS) : ∀ m k, (laM p m k).length ≤ m
 | 0, _ => Nat.le_refl _
 | m + 1, k => by
  have := laM_len p m (k + 1)
  rw [laM]
  split
  ·omega
  ·rw [List.length_cons]; omega
theorem toI_ne {j k : Nat} (h : j < 5) (h2 : k < j) : toI j ≠ toI k := by
 have : j = 1 ∨ j = 2 ∨ j = 3 ∨ j = 4 := by omega
 have : k = 0 ∨ k = 1 ∨ k = 2 ∨ k = 3 := by omega
 rcases ‹j = 1 ∨ _› with rfl | rfl | rfl | rfl <;> rcases ‹k = 0 ∨ _› with rfl | rfl | rfl | rfl <;> first | omega | decide
theorem toI_in (k : Nat) : 2 ≤ toI k ∧ toI k ≤ 10 := by
 match k with
 | 0 => decide
 | 1 => decide
 | 2 => decide
 | 3 => decide
 | _ + 4 => exact ⟨by show (2 : Int) ≤ 8; decide, by show (8 : Int) ≤ 10; decide⟩
theorem rgB_in {n : Int} (h0 : 0 ≤ n) (h1 : n < 16) : rgB n = true := by simp [rgB, h0, h1]
theorem hl_nm {p : PlS} (hp : p.may = true) : ∀ (m k : Nat) (seen : List Int), k + m ≤ 5 → (∀ j, k ≤ j → j < 5 → toI j ∉ seen) → nmM seen (hlM p m k) = true
 | 0, _, _, _, _ => rfl
 | m + 1, k, seen, hk, hs => by
  rw [hlM]
  split
  ·rename_i h1
   have ho := plOK_form (PlS.may_at hp (i := ((k + 1 : Nat) : Int)) (by omega) (by omega))
   have h1' : p.k ((k + 1 : Nat) : Int) = 1 := by simpa using h1
   have ht := toI_in k
   rw [nmM, rgB_in (by omega) (by omega), rgB_in (by omega) (by omega), hl_nm hp m (k + 1) (toI k :: seen) (by omega) (fun j h2 h3 => by
    rw [List.mem_cons]
    rintro (e | e)
    ·exact toI_ne h3 (by omega) e
    ·exact hs j (by omega) h3 e)]
   have := hs k (Nat.le_refl _) (by omega)
   simpa using this
  ·exact hl_nm hp m (k + 1) seen (by omega) (fun j h2 h3 => hs j (by omega) h3)
theorem hl_of {p : PlS} (hp : p.may = true) : ∀ (m k : Nat), k + m ≤ 5 → ofM 11 (hlM p m k) = true
 | 0, _, _ => rfl
 | m + 1, k, hk => by
  rw [hlM]
  split
  ·rename_i h1
   have ho := plOK_form (PlS.may_at hp (i := ((k + 1 : Nat) : Int)) (by omega) (by omega))
   have h1' : p.k ((k + 1 : Nat) : Int) = 1 := by simpa using h1
   have ht := toI_in k
   have ih := hl_of hp m (k + 1) (by omega)
   unfold ofM at ih ⊢
   rw [List.all_cons, ih]
   simp only [Bool.and_true, Bool.and_eq_true, Bool.not_eq_true', beq_eq_false_iff_ne]
   omega
  ·exact hl_of hp m (k + 1) (by omega)
theorem hl_may {p : PlS} (hp : p.may = true) {n : Nat} (h : n ≤ 5) : mayMv (hlM p n 0) 11 = true := by
 unfold mayMv
 rw [hl_of hp n 0 (by omega), hl_nm hp n 0 [] (by omega) (fun _ _ _ => by simp)]
 rfl
end Go.Ev
namespace Go.Proofs.YtkpneibifdoecaaGreat
open Go Go.Ev
theorem iargs_ok (num : Int) (h0 : 0 ≤ num) (h1 : num ≤ 15)  : Ret Tryz.prog 46 ([.int .i64 num]) (.int .i64 (Int.tmod num (6 : Int))) := by
 exact (Ret.of_eval (d := .int .i64 (Int.tmod num (6 : Int))) mixed Tryz.func46 (by kernel_rfl) [.inl, tC (eT (leL 0 (decide_eq_false (Int.not_lt.2 h0)))), tC (eT (leL 0 (decide_eq_false (Int.not_lt.2 h0)))), tC (eT (leL 0 (decide_eq_false (Int.not_lt.2 h0)))), tC (leL 0 (decide_eq_false (Int.not_lt.2 h0))), tC (nt (leC 15 (decide_eq_true (Int.lt_add_one_of_le h1))))] (by kernel_rfl)).to (by simp [wk, wkL, wkO])
theorem into_2_ok (to k n : Int) (h1 : (k == 1) = false) (h2 : (k == 2) = true)  : Ret Tryz.prog 39 ([.int .i8 to, .agg [.int .i8 k, .int .i8 n]]) (xD 26 64 to 0 4 (IntKind.i64.wrap (8 * IntKind.i64.wrap n)) 0 0) := by
 exact (Ret.of_eval (d := (xD 26 64 to 0 4 (IntKind.i64.wrap ((8 : Int) * IntKind.wrap IntKind.i64 n)) 0 0)) mixed Tryz.func39 (by kernel_rfl) [tC h1, tC (eqI 2 true (eq_of_beq h2))] (by kernel_rfl)).to (by simp [wk, wkL, wkO])
theorem into_0_ok (to k n : Int) (h1 : (k == 1) = false) (h2 : (k == 2) = false)  : Ret Tryz.prog 39 ([.int .i8 to, .agg [.int .i8 k, .int .i8 n]]) (xD 1 32 to 0 0 0 0 0) := by
 exact (Ret.of_eval (d := (xD 1 32 to 0 0 0 0 0)) mixed Tryz.func39 (by kernel_rfl) [tC h1, tC h2, .inl] (by kernel_rfl)).to (by simp [wk, wkL, wkO])
theorem hput_ok (to n : Int)  : Ret Tryz.prog 48 ([.int .i8 to, .int .i64 n]) (xD 1 32 to 0 0 0 n 0) := by
 exact (Ret.of_eval (d := (xD 1 32 to 0 0 0 n 0)) mixed Tryz.func48 (by kernel_rfl) [] (by kernel_rfl)).to (by simp [wk, wkL, wkO])
theorem ha_end (p : PlS) (ls late : List D) (num n k : Int) (hl : ls.length ≤ 100) (h2 : late.length ≤ 100) (h : n ≤ k)  : RoundRun Tryz.prog (loopB Tryz.f17 0) ⟨[0, 6, 7, 9], [2, 4], [(10, 2), (1004000, 8)]⟩ 6 ((.int .i64 num) :: (D.undef) :: (D.undef) :: (.ptr false 0 0) :: (D.undef) :: (D.undef) :: (.ptr false 2 0) :: (D.fn (Fn.func (42 : FuncId)) [.ptr false 2 0] []) :: (.ptr false 3 0) :: (.ptr false 4 0) :: (.lst (.tok 6 0) 2 ls) :: (un 20 ++ (.int .i64 n) :: (.int .i64 k) :: (un 58))) [.box (plC p), .dead, .box [.lst .tight 0 []], .box toL, .box [.lst (.tok 7 0) 8 late], .dead, .fam 0 2, .fam 0 8] (.exit 0) ((.int .i64 num) :: (un 5 ++ (.ptr false 2 0) :: (D.fn (Fn.func (42 : FuncId)) [.ptr false 2 0] []) :: (D.undef) :: (.ptr false 4 0) :: (.lst (.tok 6 0) 2 ls) :: (un 80))) ([.dead, .dead, .box [.lst .tight 0 []], .dead, .box [.lst (.tok 7 0) 8 late], .dead, .fam 0 2, .fam 0 8]) := by
 exact (RoundRun.of_eval (sp := ⟨[0, 6, 7, 9], [2, 4], [(10, 2), (1004000, 8)]⟩) (n0 := 6) (ex := Ex.exit (0 : Nat)) (t' := ((.int .i64 num) :: (un 5 ++ (.ptr false 2 0) :: (D.fn (Fn.func (42 : FuncId)) [.ptr false 2 0] []) :: (D.undef) :: (.ptr false 4 0) :: (.lst (.tok 6 0) 2 ls) :: (un 80)))) (s' := [.dead, .dead, .box [.lst .tight 0 []], .dead, .box [.lst (.tok 7 0) 8 late], .dead, .fam 0 2, .fam 0 8]) mixed [tC (by ((try simp only [List.length_append, List.length_cons, List.length_nil, List.length_set, w_i8, w_u8, w_i64, w_u64, decide_eq_true_eq, decide_eq_false_iff_not, beq_iff_eq, bne_iff_ne, beq_eq_false_iff_ne, bne_eq_false_iff_eq, Bool.not_eq_true', Bool.not_eq_false', Bool.and_eq_true, Bool.or_eq_true] at *); (try unfold big at *); omega) : (decide (k < n)) = false)] (by kernel_rfl)).cast (by rfl) (by rfl)
theorem ha_1 (p : PlS) (ls late : List D) (num n k : Int) (hl : ls.length ≤ 100) (h2 : late.length ≤ 100) (k0 : 0 ≤ k) (kn : k < n) (n5 : n ≤ 5) (to : Int) (ht : toL[0 + Int.toNat k * 1]? = some (.int .i8 to)) (q1 : (p.k (IntKind.i64.wrap (k + 1)) == 1) = true)  : RoundRun Tryz.prog (loopB Tryz.f17 0) ⟨[0, 3, 6, 7, 8, 9, 31, 32], [0, 2, 3, 4], [(10, 2), (1004000, 8)]⟩ 6 ((.int .i64 num) :: (D.undef) :: (D.undef) :: (.ptr false 0 0) :: (D.undef) :: (D.undef) :: (.ptr false 2 0) :: (D.fn (Fn.func (42 : FuncId)) [.ptr false 2 0] []) :: (.ptr false 3 0) :: (.ptr false 4 0) :: (.lst (.tok 6 0) 2 ls) :: (un 20 ++ (.int .i64 n) :: (.int .i64 k) :: (un 58))) [.box (plC p), .dead, .box [.lst .tight 0 []], .box toL, .box [.lst (.tok 7 0) 8 late], .dead, .fam 0 2, .fam 0 8] .norm ((.int .i64 num) :: (D.undef) :: (D.undef) :: (.ptr false 0 0) :: (D.undef) :: (D.undef) :: (.ptr false 2 0) :: (D.fn (Fn.func (42 : FuncId)) [.ptr false 2 0] []) :: (.ptr false 3 0) :: (.ptr false 4 0) :: (.lst (.tok 6 0) 2 (ls ++ [.agg [.int .i8 to, .int .i8 (PlS.n p (IntKind.i64.wrap (k + (1 : Int))))]])) :: (un 20 ++ (.int .i64 n) :: (.int .i64 (IntKind.i64.wrap (k + (1 : Int)))) :: (un 58))) ([.box [.int .i8 (PlS.k p (0 : Int)), .int .i8 (PlS.n p (0 : Int)), .int .i8 (PlS.k p (1 : Int)), .int .i8 (PlS.n p (1 : Int)), .int .i8 (PlS.k p (2 : Int)), .int .i8 (PlS.n p (2 : Int)), .int .i8 (PlS.k p (3 : Int)), .int .i8 (PlS.n p (3 : Int)), .int .i8 (PlS.k p (4 : Int)), .int .i8 (PlS.n p (4 : Int)), .int .i8 (PlS.k p (5 : Int)), .int .i8 (PlS.n p (5 : Int)), .int .i8 (PlS.k p (6 : Int)), .int .i8 (PlS.n p (6 : Int)), .int .i8 (PlS.k p (7 : Int)), .int .i8 (PlS.n p (7 : Int)), .int .i8 (PlS.k p (8 : Int)), .int .i8 (PlS.n p (8 : Int)), .int .i8 (PlS.k p (9 : Int)), .int .i8 (PlS.n p (9 : Int)), .int .i8 (PlS.k p (10 : Int)), .int .i8 (PlS.n p (10 : Int))], .dead, .box [.lst .tight 0 []], .box [.int .i8 7, .int .i8 6, .int .i8 2, .int .i8 10, .int .i8 8], .box [.lst (.tok 7 0) 8 late], .dead, .fam 0 2, .fam 0 8]) := by
 exact (RoundRun.of_eval (sp := ⟨[0, 3, 6, 7, 8, 9, 31, 32], [0, 2, 3, 4], [(10, 2), (1004000, 8)]⟩) (n0 := 6) (ex := Ex.norm) (t' := ((.int .i64 num) :: (D.undef) :: (D.undef) :: (.ptr false 0 0) :: (D.undef) :: (D.undef) :: (.ptr false 2 0) :: (D.fn (Fn.func (42 : FuncId)) [.ptr false 2 0] []) :: (.ptr false 3 0) :: (.ptr false 4 0) :: (.lst (.tok 6 0) 2 (ls ++ [.agg [.int .i8 to, .int .i8 (PlS.n p (IntKind.i64.wrap (k + (1 : Int))))]])) :: (un 20 ++ (.int .i64 n) :: (.int .i64 (IntKind.i64.wrap (k + (1 : Int)))) :: (un 58)))) (s' := [.box [.int .i8 (PlS.k p (0 : Int)), .int .i8 (PlS.n p (0 : Int)), .int .i8 (PlS.k p (1 : Int)), .int .i8 (PlS.n p (1 : Int)), .int .i8 (PlS.k p (2 : Int)), .int .i8 (PlS.n p (2 : Int)), .int .i8 (PlS.k p (3 : Int)), .int .i8 (PlS.n p (3 : Int)), .int .i8 (PlS.k p (4 : Int)), .int .i8 (PlS.n p (4 : Int)), .int .i8 (PlS.k p (5 : Int)), .int .i8 (PlS.n p (5 : Int)), .int .i8 (PlS.k p (6 : Int)), .int .i8 (PlS.n p (6 : Int)), .int .i8 (PlS.k p (7 : Int)), .int .i8 (PlS.n p (7 : Int)), .int .i8 (PlS.k p (8 : Int)), .int .i8 (PlS.n p (8 : Int)), .int .i8 (PlS.k p (9 : Int)), .int .i8 (PlS.n p (9 : Int)), .int .i8 (PlS.k p (10 : Int)), .int .i8 (PlS.n p (10 : Int))], .dead, .box [.lst .tight 0 []], .box [.int .i8 7, .int .i8 6, .int .i8 2, .int .i8 10, .int .i8 8], .box [.lst (.tok 7 0) 8 late], .dead, .fam 0 2, .fam 0 8]) mixed [tC (by ((try simp only [List.length_append, List.length_cons, List.length_nil, List.length_set, w_i8, w_u8, w_i64, w_u64, decide_eq_true_eq, decide_eq_false_iff_not, beq_iff_eq, bne_iff_ne, beq_eq_false_iff_ne, bne_eq_false_iff_eq, Bool.not_eq_true', Bool.not_eq_false', Bool.and_eq_true, Bool.or_eq_true] at *); (try unfold big at *); omega) : (decide (k < n)) = true), .tst (decide ((0 : Int) ≤ IntKind.i64.wrap (k + (1 : Int)) ∧ IntKind.i64.wrap (k + (1 : Int)) < (↑(11 : Nat) : Int))) true (by ((try simp only [List.length_append, List.length_cons, List.length_nil, List.length_set, w_i8, w_u8, w_i64, w_u64, decide_eq_true_eq, decide_eq_false_iff_not, beq_iff_eq, bne_iff_ne, beq_eq_false_iff_ne, bne_eq_false_iff_eq, Bool.not_eq_true', Bool.not_eq_false', Bool.and_eq_true, Bool.or_eq_true] at *); (try unfold big at *); omega)), .getA _ _ _ _ (@getp (p) (IntKind.i64.wrap (k + (1 : Int))) ([]) (by ((try simp only [List.length_append, List.length_cons, List.length_nil, List.length_set, w_i8, w_u8, w_i64, w_u64, decide_eq_true_eq, decide_eq_false_iff_not, beq_iff_eq, bne_iff_ne, beq_eq_false_iff_ne, bne_eq_false_iff_eq, Bool.not_eq_true', Bool.not_eq_false', Bool.and_eq_true, Bool.or_eq_true] at *); (try unfold big at *); omega)) (by ((try simp only [List.length_append, List.length_cons, List.length_nil, List.length_set, w_i8, w_u8, w_i64, w_u64, decide_eq_true_eq, decide_eq_false_iff_not, beq_iff_eq, bne_iff_ne, beq_eq_false_iff_ne, bne_eq_false_iff_eq, Bool.not_eq_true', Bool.not_eq_false', Bool.and_eq_true, Bool.or_eq_true] at *); (try unfold big at *); omega))), tC (eqI 1 true (eq_of_beq q1)), .tst (decide ((0 : Int) ≤ k ∧ k < (↑(5 : Nat) : Int))) true (by ((try simp only [List.length_append, List.length_cons, List.length_nil, List.length_set, w_i8, w_u8, w_i64, w_u64, decide_eq_true_eq, decide_eq_false_iff_not, beq_iff_eq, bne_iff_ne, beq_eq_false_iff_ne, bne_eq_false_iff_eq, Bool.not_eq_true', Bool.not_eq_false', Bool.and_eq_true, Bool.or_eq_true] at *); (try unfold big at *); omega)), .get _ _ _ ht, .len (List.length ls + (1 : Nat)) ((2147483648 : Nat)) (by first | decide | omega | (simp; omega))] (by kernel_rfl)).cast (by rfl) (by rfl)
theorem ha_2 (p : PlS) (ls late : List D) (num n k : Int) (hl : ls.length ≤ 100) (h2 : late.length ≤ 100) (k0 : 0 ≤ k) (kn : k < n) (n5 : n ≤ 5) (to : Int) (ht : toL[0 + Int.toNat k * 1]? = some (.int .i8 to)) (q1 : (p.k (IntKind.i64.wrap (k + 1)) == 1) = false) (q2 : (p.k (IntKind.i64.wrap (k + 1)) == 2) = true)  : RoundRun Tryz.prog (loopB Tryz.f17 0) ⟨[0, 3, 6, 7, 8, 9, 31, 32], [0, 2, 3, 4], [(10, 2), (1004000, 8)]⟩ 6 ((.int .i64 num) :: (D.undef) :: (D.undef) :: (.ptr false 0 0) :: (D.undef) :: (D.undef) :: (.ptr false 2 0) :: (D.fn (Fn.func (42 : FuncId)) [.ptr false 2 0] []) :: (.ptr false 3 0) :: (.ptr false 4 0) :: (.lst (.tok 6 0) 2 ls) :: (un 20 ++ (.int .i64 n) :: (.int .i64 k) :: (un 58))) [.box (plC p), .dead, .box [.lst .tight 0 []], .box toL, .box [.lst (.tok 7 0) 8 late], .dead, .fam 0 2, .fam 0 8] .norm ((.int .i64 num) :: (D.undef) :: (D.undef) :: (.ptr false 0 0) :: (D.undef) :: (D.undef) :: (.ptr false 2 0) :: (D.fn (Fn.func (42 : FuncId)) [.ptr false 2 0] []) :: (.ptr false 3 0) :: (.ptr false 4 0) :: (.lst (.tok 6 0) 2 ls) :: (un 20 ++ (.int .i64 n) :: (.int .i64 (IntKind.i64.wrap (k + (1 : Int)))) :: (un 58))) ([.box [.int .i8 (PlS.k p (0 : Int)), .int .i8 (PlS.n p (0 : Int)), .int .i8 (PlS.k p (1 : Int)), .int .i8 (PlS.n p (1 : Int)), .int .i8 (PlS.k p (2 : Int)), .int .i8 (PlS.n p (2 : Int)), .int .i8 (PlS.k p (3 : Int)), .int .i8 (PlS.n p (3 : Int)), .int .i8 (PlS.k p (4 : Int)), .int .i8 (PlS.n p (4 : Int)), .int .i8 (PlS.k p (5 : Int)), .int .i8 (PlS.n p (5 : Int)), .int .i8 (PlS.k p (6 : Int)), .int .i8 (PlS.n p (6 : Int)), .int .i8 (PlS.k p (7 : Int)), .int .i8 (PlS.n p (7 : Int)), .int .i8 (PlS.k p (8 : Int)), .int .i8 (PlS.n p (8 : Int)), .int .i8 (PlS.k p (9 : Int)), .int .i8 (PlS.n p (9 : Int)), .int .i8 (PlS.k p (10 : Int)), .int .i8 (PlS.n p (10 : Int))], .dead, .box [.lst .tight 0 []], .box [.int .i8 7, .int .i8 6, .int .i8 2, .int .i8 10, .int .i8 8], .box [.lst (.tok 7 0) 8 (late ++ [(xD 26 64 to 0 4 (IntKind.i64.wrap ((8 : Int) * IntKind.i64.wrap (PlS.n p (IntKind.i64.wrap (k + (1 : Int)))))) 0 0)])], .dead, .fam 0 2, .fam 0 8]) := by
 have c0 := @into_2_ok (to) (PlS.k p (IntKind.i64.wrap (k + (1 : Int)))) (PlS.n p (IntKind.i64.wrap (k + (1 : Int)))) q1 (eqI 2 true (eq_of_beq q2))
 exact (RoundRun.of_eval (sp := ⟨[0, 3, 6, 7, 8, 9, 31, 32], [0, 2, 3, 4], [(10, 2), (1004000, 8)]⟩) (n0 := 6) (ex := Ex.norm) (t' := ((.int .i64 num) :: (D.undef) :: (D.undef) :: (.ptr false 0 0) :: (D.undef) :: (D.undef) :: (.ptr false 2 0) :: (D.fn (Fn.func (42 : FuncId)) [.ptr false 2 0] []) :: (.ptr false 3 0) :: (.ptr false 4 0) :: (.lst (.tok 6 0) 2 ls) :: (un 20 ++ (.int .i64 n) :: (.int .i64 (IntKind.i64.wrap (k + (1 : Int)))) :: (un 58)))) (s' := [.box [.int .i8 (PlS.k p (0 : Int)), .int .i8 (PlS.n p (0 : Int)), .int .i8 (PlS.k p (1 : Int)), .int .i8 (PlS.n p (1 : Int)), .int .i8 (PlS.k p (2 : Int)), .int .i8 (PlS.n p (2 : Int)), .int .i8 (PlS.k p (3 : Int)), .int .i8 (PlS.n p (3 : Int)), .int .i8 (PlS.k p (4 : Int)), .int .i8 (PlS.n p (4 : Int)), .int .i8 (PlS.k p (5 : Int)), .int .i8 (PlS.n p (5 : Int)), .int .i8 (PlS.k p (6 : Int)), .int .i8 (PlS.n p (6 : Int)), .int .i8 (PlS.k p (7 : Int)), .int .i8 (PlS.n p (7 : Int)), .int .i8 (PlS.k p (8 : Int)), .int .i8 (PlS.n p (8 : Int)), .int .i8 (PlS.k p (9 : Int)), .int .i8 (PlS.n p (9 : Int)), .int .i8 (PlS.k p (10 : Int)), .int .i8 (PlS.n p (10 : Int))], .dead, .box [.lst .tight 0 []], .box [.int .i8 7, .int .i8 6, .int .i8 2, .int .i8 10, .int .i8 8], .box [.lst (.tok 7 0) 8 (late ++ [(xD 26 64 to 0 4 (IntKind.i64.wrap ((8 : Int) * IntKind.i64.wrap (PlS.n p (IntKind.i64.wrap (k + (1 : Int)))))) 0 0)])], .dead, .fam 0 2, .fam 0 8]) mixed [tC (by ((try simp only [List.length_append, List.length_cons, List.length_nil, List.length_set, w_i8, w_u8, w_i64, w_u64, decide_eq_true_eq, decide_eq_false_iff_not, beq_iff_eq, bne_iff_ne, beq_eq_false_iff_ne, bne_eq_false_iff_eq, Bool.not_eq_true', Bool.not_eq_false', Bool.and_eq_true, Bool.or_eq_true] at *); (try unfold big at *); omega) : (decide (k < n)) = true), .tst (decide ((0 : Int) ≤ IntKind.i64.wrap (k + (1 : Int)) ∧ IntKind.i64.wrap (k + (1 : Int)) < (↑(11 : Nat) : Int))) true (by ((try simp only [List.length_append, List.length_cons, List.length_nil, List.length_set, w_i8, w_u8, w_i64, w_u64, decide_eq_true_eq, decide_eq_false_iff_not, beq_iff_eq, bne_iff_ne, beq_eq_false_iff_ne, bne_eq_false_iff_eq, Bool.not_eq_true', Bool.not_eq_false', Bool.and_eq_true, Bool.or_eq_true] at *); (try unfold big at *); omega)), .getA _ _ _ _ (@getp (p) (IntKind.i64.wrap (k + (1 : Int))) ([]) (by ((try simp only [List.length_append, List.length_cons, List.length_nil, List.length_set, w_i8, w_u8, w_i64, w_u64, decide_eq_true_eq, decide_eq_false_iff_not, beq_iff_eq, bne_iff_ne, beq_eq_false_iff_ne, bne_eq_false_iff_eq, Bool.not_eq_true', Bool.not_eq_false', Bool.and_eq_true, Bool.or_eq_true] at *); (try unfold big at *); omega)) (by ((try simp only [List.length_append, List.length_cons, List.length_nil, List.length_set, w_i8, w_u8, w_i64, w_u64, decide_eq_true_eq, decide_eq_false_iff_not, beq_iff_eq, bne_iff_ne, beq_eq_false_iff_ne, bne_eq_false_iff_eq, Bool.not_eq_true', Bool.not_eq_false', Bool.and_eq_true, Bool.or_eq_true] at *); (try unfold big at *); omega))), tC q1, .tst (decide ((0 : Int) ≤ k ∧ k < (↑(5 : Nat) : Int))) true (by ((try simp only [List.length_append, List.length_cons, List.length_nil, List.length_set, w_i8, w_u8, w_i64, w_u64, decide_eq_true_eq, decide_eq_false_iff_not, beq_iff_eq, bne_iff_ne, beq_eq_false_iff_ne, bne_eq_false_iff_eq, Bool.not_eq_true', Bool.not_eq_false', Bool.and_eq_true, Bool.or_eq_true] at *); (try unfold big at *); omega)), .get _ _ _ ht, .ret _ _ _ c0, .inl, .len (List.length late + (1 : Nat)) ((2147483648 : Nat)) (by first | decide | omega | (simp; omega))] (by kernel_rfl)).cast (by rfl) (by rfl)
theorem ha_0 (p : PlS) (ls late : List D) (num n k : Int) (hl : ls.length ≤ 100) (h2 : late.length ≤ 100) (k0 : 0 ≤ k) (kn : k < n) (n5 : n ≤ 5) (to : Int) (ht : toL[0 + Int.toNat k * 1]? = some (.int .i8 to)) (q1 : (p.k (IntKind.i64.wrap (k + 1)) == 1) = false) (q2 : (p.k (IntKind.i64.wrap (k + 1)) == 2) = false)  : RoundRun Tryz.prog (loopB Tryz.f17 0) ⟨[0, 3, 6, 7, 8, 9, 31, 32], [0, 2, 3, 4], [(10, 2), (1004000, 8)]⟩ 6 ((.int .i64 num) :: (D.undef) :: (D.undef) :: (.ptr false 0 0) :: (D.undef) :: (D.undef) :: (.ptr false 2 0) :: (D.fn (Fn.func (42 : FuncId)) [.ptr false 2 0] []) :: (.ptr false 3 0) :: (.ptr false 4 0) :: (.lst (.tok 6 0) 2 ls) :: (un 20 ++ (.int .i64 n) :: (.int .i64 k) :: (un 58))) [.box (plC p), .dead, .box [.lst .tight 0 []], .box toL, .box [.lst (.tok 7 0) 8 late], .dead, .fam 0 2, .fam 0 8] .norm ((.int .i64 num) :: (D.undef) :: (D.undef) :: (.ptr false 0 0) :: (D.undef) :: (D.undef) :: (.ptr false 2 0) :: (D.fn (Fn.func (42 : FuncId)) [.ptr false 2 0] []) :: (.ptr false 3 0) :: (.ptr false 4 0) :: (.lst (.tok 6 0) 2 ls) :: (un 20 ++ (.int .i64 n) :: (.int .i64 (IntKind.i64.wrap (k + (1 : Int)))) :: (un 58))) ([.box [.int .i8 (PlS.k p (0 : Int)), .int .i8 (PlS.n p (0 : Int)), .int .i8 (PlS.k p (1 : Int)), .int .i8 (PlS.n p (1 : Int)), .int .i8 (PlS.k p (2 : Int)), .int .i8 (PlS.n p (2 : Int)), .int .i8 (PlS.k p (3 : Int)), .int .i8 (PlS.n p (3 : Int)), .int .i8 (PlS.k p (4 : Int)), .int .i8 (PlS.n p (4 : Int)), .int .i8 (PlS.k p (5 : Int)), .int .i8 (PlS.n p (5 : Int)), .int .i8 (PlS.k p (6 : Int)), .int .i8 (PlS.n p (6 : Int)), .int .i8 (PlS.k p (7 : Int)), .int .i8 (PlS.n p (7 : Int)), .int .i8 (PlS.k p (8 : Int)), .int .i8 (PlS.n p (8 : Int)), .int .i8 (PlS.k p (9 : Int)), .int .i8 (PlS.n p (9 : Int)), .int .i8 (PlS.k p (10 : Int)), .int .i8 (PlS.n p (10 : Int))], .dead, .box [.lst .tight 0 []], .box [.int .i8 7, .int .i8 6, .int .i8 2, .int .i8 10, .int .i8 8], .box [.lst (.tok 7 0) 8 (late ++ [(xD 1 32 to 0 0 0 0 0)])], .dead, .fam 0 2, .fam 0 8]) := by
 have c0 := @into_0_ok (to) (PlS.k p (IntKind.i64.wrap (k + (1 : Int)))) (PlS.n p (IntKind.i64.wrap (k + (1 : Int)))) q1 q2
 exact (RoundRun.of_eval (sp := ⟨[0, 3, 6, 7, 8, 9, 31, 32], [0, 2, 3, 4], [(10, 2), (1004000, 8)]⟩) (n0 := 6) (ex := Ex.norm) (t' := ((.int .i64 num) :: (D.undef) :: (D.undef) :: (.ptr false 0 0) :: (D.undef) :: (D.undef) :: (.ptr false 2 0) :: (D.fn (Fn.func (42 : FuncId)) [.ptr false 2 0] []) :: (.ptr false 3 0) :: (.ptr false 4 0) :: (.lst (.tok 6 0) 2 ls) :: (un 20 ++ (.int .i64 n) :: (.int .i64 (IntKind.i64.wrap (k + (1 : Int)))) :: (un 58)))) (s' := [.box [.int .i8 (PlS.k p (0 : Int)), .int .i8 (PlS.n p (0 : Int)), .int .i8 (PlS.k p (1 : Int)), .int .i8 (PlS.n p (1 : Int)), .int .i8 (PlS.k p (2 : Int)), .int .i8 (PlS.n p (2 : Int)), .int .i8 (PlS.k p (3 : Int)), .int .i8 (PlS.n p (3 : Int)), .int .i8 (PlS.k p (4 : Int)), .int .i8 (PlS.n p (4 : Int)), .int .i8 (PlS.k p (5 : Int)), .int .i8 (PlS.n p (5 : Int)), .int .i8 (PlS.k p (6 : Int)), .int .i8 (PlS.n p (6 : Int)), .int .i8 (PlS.k p (7 : Int)), .int .i8 (PlS.n p (7 : Int)), .int .i8 (PlS.k p (8 : Int)), .int .i8 (PlS.n p (8 : Int)), .int .i8 (PlS.k p (9 : Int)), .int .i8 (PlS.n p (9 : Int)), .int .i8 (PlS.k p (10 : Int)), .int .i8 (PlS.n p (10 : Int))], .dead, .box [.lst .tight 0 []], .box [.int .i8 7, .int .i8 6, .int .i8 2, .int .i8 10, .int .i8 8], .box [.lst (.tok 7 0) 8 (late ++ [(xD 1 32 to 0 0 0 0 0)])], .dead, .fam 0 2, .fam 0 8]) mixed [tC (by ((try simp only [List.length_append, List.length_cons, List.length_nil, List.length_set, w_i8, w_u8, w_i64, w_u64, decide_eq_true_eq, decide_eq_false_iff_not, beq_iff_eq, bne_iff_ne, beq_eq_false_iff_ne, bne_eq_false_iff_eq, Bool.not_eq_true', Bool.not_eq_false', Bool.and_eq_true, Bool.or_eq_true] at *); (try unfold big at *); omega) : (decide (k < n)) = true), .tst (decide ((0 : Int) ≤ IntKind.i64.wrap (k + (1 : Int)) ∧ IntKind.i64.wrap (k + (1 : Int)) < (↑(11 : Nat) : Int))) true (by ((try simp only [List.length_append, List.length_cons, List.length_nil, List.length_set, w_i8, w_u8, w_i64, w_u64, decide_eq_true_eq, decide_eq_false_iff_not, beq_iff_eq, bne_iff_ne, beq_eq_false_iff_ne, bne_eq_false_iff_eq, Bool.not_eq_true', Bool.not_eq_false', Bool.and_eq_true, Bool.or_eq_true] at *); (try unfold big at *); omega)), .getA _ _ _ _ (@getp (p) (IntKind.i64.wrap (k + (1 : Int))) ([]) (by ((try simp only [List.length_append, List.length_cons, List.length_nil, List.length_set, w_i8, w_u8, w_i64, w_u64, decide_eq_true_eq, decide_eq_false_iff_not, beq_iff_eq, bne_iff_ne, beq_eq_false_iff_ne, bne_eq_false_iff_eq, Bool.not_eq_true', Bool.not_eq_false', Bool.and_eq_true, Bool.or_eq_true] at *); (try unfold big at *); omega)) (by ((try simp only [List.length_append, List.length_cons, List.length_nil, List.length_set, w_i8, w_u8, w_i64, w_u64, decide_eq_true_eq, decide_eq_false_iff_not, beq_iff_eq, bne_iff_ne, beq_eq_false_iff_ne, bne_eq_false_iff_eq, Bool.not_eq_true', Bool.not_eq_false', Bool.and_eq_true, Bool.or_eq_true] at *); (try unfold big at *); omega))), tC q1, .tst (decide ((0 : Int) ≤ k ∧ k < (↑(5 : Nat) : Int))) true (by ((try simp only [List.length_append, List.length_cons, List.length_nil, List.length_set, w_i8, w_u8, w_i64, w_u64, decide_eq_true_eq, decide_eq_false_iff_not, beq_iff_eq, bne_iff_ne, beq_eq_false_iff_ne, bne_eq_false_iff_eq, Bool.not_eq_true', Bool.not_eq_false', Bool.and_eq_true, Bool.or_eq_true] at *); (try unfold big at *); omega)), .get _ _ _ ht, .ret _ _ _ c0, .inl, .len (List.length late + (1 : Nat)) ((2147483648 : Nat)) (by first | decide | omega | (simp; omega))] (by kernel_rfl)).cast (by rfl) (by rfl)
theorem hb_end (row late mv : List D) (num : Int) (m k : Nat) (hr : row.length ≤ 200) (h : m ≤ k)  : RoundRun Tryz.prog (loopB Tryz.f17 1) ⟨[0, 6, 7, 9], [2, 4, 7], [(1002000, 8)]⟩ 9 ((.int .i64 num) :: (un 5 ++ (.ptr false 2 0) :: (D.fn (Fn.func (42 : FuncId)) [.ptr false 2 0] []) :: (D.undef) :: (.ptr false 4 0) :: (un 56 ++ (.lst .no 2 mv) :: (.int .i64 (↑m : Int)) :: (.int .i64 (↑k : Int)) :: (un 22)))) [.dead, .dead, .box [.lst (.tok 9 0) 8 row], .dead, .box [.lst (.tok 7 0) 8 late], .dead, .dead, .fam 0 8, .dead, .fam 0 8] (.exit 2) ((.int .i64 num) :: (un 5 ++ (.ptr false 2 0) :: (D.fn (Fn.func (42 : FuncId)) [.ptr false 2 0] []) :: (D.undef) :: (.ptr false 4 0) :: (un 81))) ([.dead, .dead, .box [.lst (.tok 9 0) 8 row], .dead, .box [.lst (.tok 7 0) 8 late], .dead, .dead, .fam 0 8, .dead, .fam 0 8]) := by
 exact (RoundRun.of_eval (sp := ⟨[0, 6, 7, 9], [2, 4, 7], [(1002000, 8)]⟩) (n0 := 9) (ex := Ex.exit (2 : Nat)) (t' := ((.int .i64 num) :: (un 5 ++ (.ptr false 2 0) :: (D.fn (Fn.func (42 : FuncId)) [.ptr false 2 0] []) :: (D.undef) :: (.ptr false 4 0) :: (un 81)))) (s' := [.dead, .dead, .box [.lst (.tok 9 0) 8 row], .dead, .box [.lst (.tok 7 0) 8 late], .dead, .dead, .fam 0 8, .dead, .fam 0 8]) mixed [tC (by ((try simp only [List.length_append, List.length_cons, List.length_nil, List.length_set, w_i8, w_u8, w_i64, w_u64, decide_eq_true_eq, decide_eq_false_iff_not, beq_iff_eq, bne_iff_ne, beq_eq_false_iff_ne, bne_eq_false_iff_eq, Bool.not_eq_true', Bool.not_eq_false', Bool.and_eq_true, Bool.or_eq_true] at *); (try unfold big at *); omega) : (decide ((↑k : Int) < (↑m : Int))) = false)] (by kernel_rfl)).cast (by rfl) (by rfl)
theorem hb_in (row late mv : List D) (num : Int) (m k : Nat) (hr : row.length ≤ 200) (hk : k < m) (hm : m ≤ 64) (a b : Int) (hx : mv[k]? = some (.agg [.int .i8 a, .int .i8 b]))  : RoundRun Tryz.prog (loopB Tryz.f17 1) ⟨[0, 6, 7, 9, 66, 67, 68], [2, 4, 7], [(1002000, 8)]⟩ 9 ((.int .i64 num) :: (un 5 ++ (.ptr false 2 0) :: (D.fn (Fn.func (42 : FuncId)) [.ptr false 2 0] []) :: (D.undef) :: (.ptr false 4 0) :: (un 56 ++ (.lst .no 2 mv) :: (.int .i64 (↑m : Int)) :: (.int .i64 (↑k : Int)) :: (un 22)))) [.dead, .dead, .box [.lst (.tok 9 0) 8 row], .dead, .box [.lst (.tok 7 0) 8 late], .dead, .dead, .fam 0 8, .dead, .fam 0 8] .norm ((.int .i64 num) :: (un 5 ++ (.ptr false 2 0) :: (D.fn (Fn.func (42 : FuncId)) [.ptr false 2 0] []) :: (D.undef) :: (.ptr false 4 0) :: (un 56 ++ (.lst .no 2 mv) :: (.int .i64 (↑m : Int)) :: (.int .i64 (IntKind.i64.wrap ((↑k : Int) + (1 : Int)))) :: (un 22)))) ([.dead, .dead, .box [.lst (.tok 9 0) 8 (row ++ [(xD 0 64 a b 0 0 0 0)])], .dead, .box [.lst (.tok 7 0) 8 late], .dead, .dead, .fam 0 8, .dead, .fam 0 8]) := by
 exact (RoundRun.of_eval (sp := ⟨[0, 6, 7, 9, 66, 67, 68], [2, 4, 7], [(1002000, 8)]⟩) (n0 := 9) (ex := Ex.norm) (t' := ((.int .i64 num) :: (un 5 ++ (.ptr false 2 0) :: (D.fn (Fn.func (42 : FuncId)) [.ptr false 2 0] []) :: (D.undef) :: (.ptr false 4 0) :: (un 56 ++ (.lst .no 2 mv) :: (.int .i64 (↑m : Int)) :: (.int .i64 (IntKind.i64.wrap ((↑k : Int) + (1 : Int)))) :: (un 22))))) (s' := [.dead, .dead, .box [.lst (.tok 9 0) 8 (row ++ [(xD 0 64 a b 0 0 0 0)])], .dead, .box [.lst (.tok 7 0) 8 late], .dead, .dead, .fam 0 8, .dead, .fam 0 8]) mixed [tC (by ((try simp only [List.length_append, List.length_cons, List.length_nil, List.length_set, w_i8, w_u8, w_i64, w_u64, decide_eq_true_eq, decide_eq_false_iff_not, beq_iff_eq, bne_iff_ne, beq_eq_false_iff_ne, bne_eq_false_iff_eq, Bool.not_eq_true', Bool.not_eq_false', Bool.and_eq_true, Bool.or_eq_true] at *); (try unfold big at *); omega) : (decide ((↑k : Int) < (↑m : Int))) = true), tT, .get _ _ _ hx, .inl, .len (List.length row + (1 : Nat)) ((2147483648 : Nat)) (by first | decide | omega | (simp; omega))] (by kernel_rfl)).cast (by rfl) (by rfl)
theorem iargs_n_ok (num : Int) (h0 : 0 ≤ num) (h1 : num ≤ 15) : Ret Tryz.prog 46 [.int .i64 num] (.int .i64 (argN num : Int)) := by
 have e : Int.tmod num 6 = (argN num : Int) := by
  rw [Int.tmod_eq_emod_of_nonneg h0]
  unfold argN
  omega
 rw [← e]
 exact iargs_ok num h0 h1
theorem mrun_w_ok (l : List Mv) (hl : l.length ≤ 16) (hm : mayMv l 11 = true) : Ret Tryz.prog 47 [.lst .no 2 (mvD l), .int .i8 11] (.tup [.lst .no 2 (mvD (movM 11 (2 * l.length) (leftM l))), .int .i64 0]) := by
 have h1 : (mvD l).length = l.length := mvD_len l
 by_cases hn : leftM l = []
 ·rw [hn, movM_nil]
  exact (mrun_nil_ok l (by omega) (by omega) 11 (by omega) hm hn).to (by exact ⟨⟨rfl, .inr rfl, trivial, .inl rfl⟩, rfl, trivial⟩)
 ·exact (mrun_ok_ok l (by omega) (by omega) 11 (by omega) hm (leftM_ok hm) hn (List.length_pos_iff.2 hn)).to (by exact ⟨⟨rfl, .inl rfl, trivial, .inr rfl⟩, rfl, trivial⟩)
abbrev haT (p : PlS) (num : Int) (n : Nat) (ls : List D) (k : Nat) : List D := [.int .i64 num, .undef, .undef, .ptr false 0 0, .undef, .undef, .ptr false 2 0, .fn (.func 42) [.ptr false 2 0] [], .ptr false 3 0, .ptr false 4 0, .lst (.tok 6 0) 2 ls, .undef, .undef, .undef, .undef, .undef, .undef, .undef, .undef, .undef, .undef, .undef, .undef, .undef, .undef, .undef, .undef, .undef, .undef, .undef, .undef, .int .i64 (n : Int), .int .i64 (k : Int), .undef, .undef, .undef, .undef, .undef, .undef, .undef, .undef, .undef, .undef, .undef, .undef, .undef, .undef, .undef, .undef, .undef, .undef, .undef, .undef, .undef, .undef, .undef, .undef, .undef, .undef, .undef, .undef, .undef, .undef, .undef, .undef, .undef, .undef, .undef, .undef, .undef, .undef, .undef, .undef, .undef, .undef, .undef, .undef, .undef, .undef, .undef, .undef, .undef, .undef, .undef, .undef, .undef, .undef, .undef, .undef, .undef, .undef]
abbrev haE (num : Int) (ls : List D) : List D := [.int .i64 num, .undef, .undef, .undef, .undef, .undef, .ptr false 2 0, .fn (.func 42) [.ptr false 2 0] [], .undef, .ptr false 4 0, .lst (.tok 6 0) 2 ls, .undef, .undef, .undef, .undef, .undef, .undef, .undef, .undef, .undef, .undef, .undef, .undef, .undef, .undef, .undef, .undef, .undef, .undef, .undef, .undef, .undef, .undef, .undef, .undef, .undef, .undef, .undef, .undef, .undef, .undef, .undef, .undef, .undef, .undef, .undef, .undef, .undef, .undef, .undef, .undef, .undef, .undef, .undef, .undef, .undef, .undef, .undef, .undef, .undef, .undef, .undef, .undef, .undef, .undef, .undef, .undef, .undef, .undef, .undef, .undef, .undef, .undef, .undef, .undef, .undef, .undef, .undef, .undef, .undef, .undef, .undef, .undef, .undef, .undef, .undef, .undef, .undef, .undef, .undef, .undef]
abbrev haS (p : PlS) (late : List D) : List Ob := [.box (plC p), .dead, .box [.lst .tight 0 []], .box toL, .box [.lst (.tok 7 0) 8 late], .dead, .fam 0 2, .fam 0 8]
abbrev haX (late : List D) : List Ob := [.dead, .dead, .box [.lst .tight 0 []], .dead, .box [.lst (.tok 7 0) 8 late], .dead, .fam 0 2, .fam 0 8]
abbrev hxL (l : List XS) : List D := l.map hxD
theorem haR (p : PlS) (hp : p.may = true) (num : Int) (n : Nat) (n5 : n ≤ 5) : ∀ (m k : Nat) (ls late : List D), k + m = n → ls.length ≤ k → late.length ≤ k →
  Rounds Tryz.prog (loopB Tryz.f17 0) 6 (haT p num n ls k) (haS p late) (.exit 0) (haE num (ls ++ mvD (hlM p m k))) (haX (late ++ hxL (laM p m k)))
 | 0, k, ls, late, hk, h1, h2 => by
  have := ha_end p ls late num n k (by omega) (by omega) (by omega)
  rw [show hlM p 0 k = [] from rfl, show laM p 0 k = [] from rfl, show mvD [] = [] from rfl, show hxL [] = [] from rfl, List.append_nil, List.append_nil]
  exact Rounds.last this (fun h => by cases h)
 | m + 1, k, ls, late, hk, h1, h2 => by
  have hw : IntKind.i64.wrap ((k : Int) + 1) = ((k + 1 : Nat) : Int) := wk1 (by omega)
  have ho := plOK_form (PlS.may_at hp (i := ((k + 1 : Nat) : Int)) (by omega) (by omega))
  have h8 : IntKind.i64.wrap (8 * IntKind.i64.wrap (p.n ((k + 1 : Nat) : Int))) = 8 * p.n ((k + 1 : Nat) : Int) := by rw [w_i64, w_i64]; omega
  rw [hlM, laM]
  cases q1 : (p.k ((k + 1 : Nat) : Int) == 1) with
  | true =>
   have := ha_1 p ls late num n k (by omega) (by omega) (by omega) (by omega) (by omega) (toI k) (toL_get (by omega)) (by rw [hw]; exact q1)
   rw [hw] at this
   rw [if_pos rfl, if_pos rfl]
   have ih := haR p hp num n n5 m (k + 1) (ls ++ [.agg [.int .i8 (toI k), .int .i8 (p.n ((k + 1 : Nat) : Int))]]) late (by omega) (by rw [List.length_append, List.length_singleton]; omega) (by omega)
   rw [List.append_assoc] at ih
   exact Rounds.more this ih
  | false =>
   rw [if_neg (by simp), if_neg (by simp)]
   cases q2 : (p.k ((k + 1 : Nat) : Int) == 2) with
   | true =>
    have := ha_2 p ls late num n k (by omega) (by omega) (by omega) (by omega) (by omega) (toI k) (toL_get (by omega)) (by rw [hw]; exact q1) (by rw [hw]; exact q2)
    rw [hw, h8] at this
    have ih := haR p hp num n n5 m (k + 1) ls (late ++ [xD 26 64 (toI k) 0 4 (8 * p.n ((k + 1 : Nat) : Int)) 0 0]) (by omega) (by omega) (by rw [List.length_append, List.length_singleton]; omega)
    rw [List.append_assoc] at ih
    rw [intoS, if_pos q2]
    exact Rounds.more this ih
   | false =>
    have := ha_0 p ls late num n k (by omega) (by omega) (by omega) (by omega) (by omega) (toI k) (toL_get (by omega)) (by rw [hw]; exact q1) (by rw [hw]; exact q2)
    rw [hw] at this
    have ih := haR p hp num n n5 m (k + 1) ls (late ++ [xD 1 32 (toI k) 0 0 0 0 0]) (by omega) (by omega) (by rw [List.length_append, List.length_singleton]; omega)
    rw [List.append_assoc] at ih
    rw [intoS, if_neg (by rw [q2]; simp)]
    exact Rounds.more this ih
theorem haL (p : PlS) (hp : p.may = true) (num : Int) : LoopRun Tryz.prog 6 (.loop (loopB Tryz.f17 0)) (haT p num (argN num) [] 0) (haS p []) (.exit 0) (haE num (mvD (hlM p (argN num) 0))) (haX (hxL (laM p (argN num) 0))) := by
 have := haR p hp num (argN num) (by unfold argN; omega) (argN num) 0 [] [] (by omega) (Nat.le_refl _) (Nat.le_refl _)
 rw [List.nil_append, List.nil_append] at this
 exact LoopRun.of_rounds (by simp) this
abbrev hbT (num : Int) (mv : List D) (m k : Nat) : List D := [.int .i64 num, .undef, .undef, .undef, .undef, .undef, .ptr false 2 0, .fn (.func 42) [.ptr false 2 0] [], .undef, .ptr false 4 0, .undef, .undef, .undef, .undef, .undef, .undef, .undef, .undef, .undef, .undef, .undef, .undef, .undef, .undef, .undef, .undef, .undef, .undef, .undef, .undef, .undef, .undef, .undef, .undef, .undef, .undef, .undef, .undef, .undef, .undef, .undef, .undef, .undef, .undef, .undef, .undef, .undef, .undef, .undef, .undef, .undef, .undef, .undef, .undef, .undef, .undef, .undef, .undef, .undef, .undef, .undef, .undef, .undef, .undef, .undef, .undef, .lst .no 2 mv, .int .i64 (m : Int), .int .i64 (k : Int), .undef, .undef, .undef, .undef, .undef, .undef, .undef, .undef, .undef, .undef, .undef, .undef, .undef, .undef, .undef, .undef, .undef, .undef, .undef, .undef, .undef, .undef]
abbrev hbE (num : Int) : List D := [.int .i64 num, .undef, .undef, .undef, .undef, .undef, .ptr false 2 0, .fn (.func 42) [.ptr false 2 0] [], .undef, .ptr false 4 0, .undef, .undef, .undef, .undef, .undef, .undef, .undef, .undef, .undef, .undef, .undef, .undef, .undef, .undef, .undef, .undef, .undef, .undef, .undef, .undef, .undef, .undef, .undef, .undef, .undef, .undef, .undef, .undef, .undef, .undef, .undef, .undef, .undef, .undef, .undef, .undef, .undef, .undef, .undef, .undef, .undef, .undef, .undef, .undef, .undef, .undef, .undef, .undef, .undef, .undef, .undef, .undef, .undef, .undef, .undef, .undef, .undef, .undef, .undef, .undef, .undef, .undef, .undef, .undef, .undef, .undef, .undef, .undef, .undef, .undef, .undef, .undef, .undef, .undef, .undef, .undef, .undef, .undef, .undef, .undef, .undef]
abbrev hbS (row late : List D) : List Ob := [.dead, .dead, .box [.lst (.tok 9 0) 8 row], .dead, .box [.lst (.tok 7 0) 8 late], .dead, .dead, .fam 0 8, .dead, .fam 0 8]
theorem hbR (num : Int) (q : List Mv) (hq : q.length ≤ 64) (late : List D) : ∀ (n k : Nat) (row : List D), k + n = q.length → row.length ≤ k →
  Rounds Tryz.prog (loopB Tryz.f17 1) 9 (hbT num (mvD q) q.length k) (hbS row late) (.exit 2) (hbE num) (hbS (row ++ hxL ((q.drop k).map movX)) late)
 | 0, k, row, hk, hr => by
  obtain rfl : k = q.length := by omega
  have := hb_end row late (mvD q) num q.length q.length (by omega) (Nat.le_refl _)
  rw [List.drop_length, List.map_nil, show hxL [] = [] from rfl, List.append_nil]
  exact Rounds.last this (fun h => by cases h)
 | n + 1, k, row, hk, hr => by
  have hlt : k < q.length := by omega
  have := hb_in row late (mvD q) num q.length k (by omega) hlt hq q[k].1 q[k].2 (mvD_get hlt)
  rw [wk1 (by omega)] at this
  have ih := hbR num q hq late n (k + 1) (row ++ [xD 0 64 q[k].1 q[k].2 0 0 0 0]) (by omega) (by rw [List.length_append, List.length_singleton]; omega)
  rw [List.append_assoc] at ih
  rw [List.drop_eq_getElem_cons hlt, List.map_cons]
  exact Rounds.more this ih
abbrev hbT0 (num : Int) (q : List Mv) : List D := [.int .i64 num, .undef, .undef, .undef, .undef, .undef, .ptr false 2 0, .fn (.func 42) [.ptr false 2 0] [], .undef, .ptr false 4 0, .undef, .undef, .undef, .undef, .undef, .undef, .undef, .undef, .undef, .undef, .undef, .undef, .undef, .undef, .undef, .undef, .undef, .undef, .undef, .undef, .undef, .undef, .undef, .undef, .undef, .undef, .undef, .undef, .undef, .undef, .undef, .undef, .undef, .undef, .undef, .undef, .undef, .undef, .undef, .undef, .undef, .undef, .undef, .undef, .undef, .undef, .undef, .undef, .undef, .undef, .undef, .undef, .undef, .undef, .undef, .undef, .lst .no 2 (mvD q), .int .i64 ((mvD q).length : Int), .int .i64 0, .undef, .undef, .undef, .undef, .undef, .undef, .undef, .undef, .undef, .undef, .undef, .undef, .undef, .undef, .undef, .undef, .undef, .undef, .undef, .undef, .undef, .undef]
theorem hbL (num : Int) (q : List Mv) (hq : q.length ≤ 64) (late : List D) : LoopRun Tryz.prog 9 (.loop (loopB Tryz.f17 1)) (hbT0 num q) (hbS [] late) (.exit 2) (hbE num) (hbS (hxL (q.map movX)) late) := by
 have e : hbT0 num q = hbT num (mvD q) q.length 0 := by simp only [hbT0, hbT, mvD_len]; rfl
 rw [e]
 have := hbR num q hq late q.length 0 [] (by omega) (Nat.le_refl _)
 rw [List.nil_append, List.drop_zero] at this
 exact LoopRun.of_rounds (by simp) this
theorem host_n1_ok (p : PlS) (num : Int) (h : num < 0)  : Ret Tryz.prog 17 ([.int .i64 num, .agg (plC p)]) (.tup [.lst .tight 0 [], .int .i64 2]) := by
 exact (Ret.of_eval (d := .tup [.lst .tight 0 [], .int .i64 2]) mixed Tryz.func17 (by kernel_rfl) [tC (eF (decide_eq_true h)), tC (eF (decide_eq_true h)), tC (decide_eq_true h), tF, tF, tF, tT, tT] (by kernel_rfl)).to (by first | rfl | (simp [wk, wkL, wkO]; done))
theorem host_n2_ok (p : PlS) (num : Int) (h : 15 < num)  : Ret Tryz.prog 17 ([.int .i64 num, .agg (plC p)]) (.tup [.lst .tight 0 [], .int .i64 2]) := by
 exact (Ret.of_eval (d := .tup [.lst .tight 0 [], .int .i64 2]) mixed Tryz.func17 (by kernel_rfl) [tC (eF (ltD 0 (decide_eq_false (by omega : ¬ num < 16)))), tC (eF (ltD 0 (decide_eq_false (by omega : ¬ num < 16)))), tC (ltD 0 (decide_eq_false (by omega : ¬ num < 16))), tC (eF (leL 16 (decide_eq_false (by omega : ¬ num < 16)))), tC (eF (leL 16 (decide_eq_false (by omega : ¬ num < 16)))), tC (eF (leL 16 (decide_eq_false (by omega : ¬ num < 16)))), tC (leL 16 (decide_eq_false (by omega : ¬ num < 16))), tT] (by kernel_rfl)).to (by first | rfl | (simp [wk, wkL, wkO]; done))
theorem host_n3_ok (p : PlS) (num : Int) (h0 : 0 ≤ num) (h1 : num ≤ 15) (hM : Ret Tryz.prog 28 [.agg (plC p)] (.bool false))  : Ret Tryz.prog 17 ([.int .i64 num, .agg (plC p)]) (.tup [.lst .tight 0 [], .int .i64 2]) := by
 exact (Ret.of_eval (d := .tup [.lst .tight 0 [], .int .i64 2]) mixed Tryz.func17 (by kernel_rfl) [tC (eF (decide_eq_false (Int.not_lt.2 h0))), tC (eF (decide_eq_false (Int.not_lt.2 h0))), tC (decide_eq_false (Int.not_lt.2 h0)), tC (eF (leL 16 (decide_eq_true (Int.lt_add_one_of_le h1)))), tC (eF (leL 16 (decide_eq_true (Int.lt_add_one_of_le h1)))), .ret _ _ _ hM, tC (eF (leL 16 (decide_eq_true (Int.lt_add_one_of_le h1)))), tC (leL 16 (decide_eq_true (Int.lt_add_one_of_le h1))), tT] (by kernel_rfl)).to (by first | rfl | (simp [wk, wkL, wkO]; done))
theorem host_y_ok (p : PlS) (num : Int) (h0 : 0 ≤ num) (h1 : num ≤ 15) (hp : p.may = true) (hM : Ret Tryz.prog 28 [.agg (plC p)] (.bool true)) (hl : (hlM p (argN num) 0).length ≤ 16) (hm : mayMv (hlM p (argN num) 0) 11 = true) (hq : (movM 11 (2 * (hlM p (argN num) 0).length) (leftM (hlM p (argN num) 0))).length ≤ 64) (hla : (laM p (argN num) 0).length ≤ 5) (hxl : (hxL ((movM 11 (2 * (hlM p (argN num) 0).length) (leftM (hlM p (argN num) 0))).map movX)).length ≤ 64) (hyl : (hxL (laM p (argN num) 0)).length ≤ 5)  : Ret Tryz.prog 17 ([.int .i64 num, .agg (plC p)]) (.tup [.lst (.fresh 8) 8 ((hxL ((movM 11 (2 * (hlM p (argN num) 0).length) (leftM (hlM p (argN num) 0))).map movX) ++ hxL (laM p (argN num) 0)) ++ [xD 1 32 0 0 0 0 num 0, xD 31 0 0 0 0 0 0 0]), .int .i64 0]) := by
 have c0 := @iargs_n_ok (num) h0 h1
 have c1 := @haL (p) hp (num)
 have c2 := @mrun_w_ok (hlM p (argN num) (0 : Nat)) hl hm
 have c3 := @hbL (num) (movM (11 : Int) ((2 : Nat) * List.length (hlM p (argN num) (0 : Nat))) (leftM (hlM p (argN num) (0 : Nat)))) hq (hxL (laM p (argN num) (0 : Nat)))
 have c4 := @hput_ok ((0 : Int)) (num)
 exact (Ret.of_eval (d := .tup [.lst (.fresh 8) 8 (hxL (List.map movX (movM (11 : Int) ((2 : Nat) * List.length (hlM p (argN num) (0 : Nat))) (leftM (hlM p (argN num) (0 : Nat))))) ++ hxL (laM p (argN num) (0 : Nat)) ++ [(xD 1 32 0 0 0 0 num 0), (xD 31 0 0 0 0 0 0 0)]), .int .i64 0]) mixed Tryz.func17 (by kernel_rfl) ([tC (eF (decide_eq_false (Int.not_lt.2 h0))), tC (eF (decide_eq_false (Int.not_lt.2 h0))), tC (decide_eq_false (Int.not_lt.2 h0)), tC (eF (leL 16 (decide_eq_true (Int.lt_add_one_of_le h1)))), tC (eF (leL 16 (decide_eq_true (Int.lt_add_one_of_le h1)))), .ret _ _ _ hM, tC (eF (leL 16 (decide_eq_true (Int.lt_add_one_of_le h1)))), tC (leL 16 (decide_eq_true (Int.lt_add_one_of_le h1))), tF, .ret _ _ _ c0, .head ⟨[0, 3, 6, 7, 8, 9, 31, 32], [0, 2, 3, 4], [(10, 2), (1004000, 8)]⟩ _ _ _ _ _ _ _ c1, .ret _ _ _ c2, tF, .head ⟨[0, 6, 7, 9, 66, 67, 68], [2, 4, 7], [(1002000, 8)]⟩ _ _ _ _ _ _ _ c3, .inl, .len (List.length (hxL (List.map movX (movM (11 : Int) ((2 : Nat) * List.length (hlM p (argN num) (0 : Nat))) (leftM (hlM p (argN num) (0 : Nat)))))) + List.length (hxL (laM p (argN num) (0 : Nat)))) ((2147483648 : Nat)) (by first | decide | omega | (simp; omega))] ++ [.ret _ _ _ c4, .inl, .len (List.length (hxL (List.map movX (movM (11 : Int) ((2 : Nat) * List.length (hlM p (argN num) (0 : Nat))) (leftM (hlM p (argN num) (0 : Nat))))) ++ hxL (laM p (argN num) (0 : Nat))) + (2 : Nat)) ((2147483648 : Nat)) (by first | decide | omega | (simp; omega))]) (by kernel_rfl)).to (by first | rfl | (simp [wk, wkL, wkO]; done))
end Go.Proofs.YtkpneibifdoecaaGreat
namespace Go.Ev
open Go
section
variable {m : MachS} {s : List Int}
theorem ex_put {dst n v : Int} (hd : 0 ≤ dst ∧ dst ≤ 15) (hn : 0 ≤ n ∧ n ≤ 2147483647) : ∃ p, execS m (putX dst n) v = ((m.at p).put dst n, 0) := by
 have hm : mayX 1 32 dst 0 0 0 n 0 = true := may_all hd (by decide) (by decide) (by decide) ⟨by omega, hn.2⟩ (by rfl)
 refine ⟨u64 (m.pc + u64 (XS.len (putX dst n))), ?_⟩
 rw [execS_may (x := putX dst n) hm]
 have : cutM (u64 n) 32 = n := by
  show u64 n % 4294967296 = n
  unfold u64; rw [w_u64]; omega
 show ((m.at _).put dst (cutM (u64 n) 32), (0 : Int)) = _
 rw [this]
theorem ex_mov {dst src v : Int} (hd : 0 ≤ dst ∧ dst ≤ 15) (hs : 0 ≤ src ∧ src ≤ 15) : ∃ p, execS m ⟨0, 64, dst, src, 0, 0, 0, 0⟩ v = ((m.at p).put dst (rg m.rl src), 0) := by
 have hm : mayX 0 64 dst src 0 0 0 0 = true := may_all hd hs (by decide) (by decide) (by decide) (by rfl)
 refine ⟨u64 (m.pc + u64 (XS.len ⟨0, 64, dst, src, 0, 0, 0, 0⟩)), ?_⟩
 rw [execS_may (x := ⟨0, 64, dst, src, 0, 0, 0, 0⟩) hm]
 rfl
theorem ex_load {dst n v : Int} (hd : 0 ≤ dst ∧ dst ≤ 15) (hn : 0 ≤ n ∧ n < 11) : ∃ p, execS m ⟨26, 64, dst, 0, 4, 8 * n, 0, 0⟩ v = ((m.at p).put dst v, 0) := by
 have hm : mayX 26 64 dst 0 4 (8 * n) 0 0 = true := may_all hd (by decide) (by decide) ⟨by omega, by omega⟩ (by decide) (by rfl)
 refine ⟨u64 (m.pc + u64 (XS.len ⟨26, 64, dst, 0, 4, 8 * n, 0, 0⟩)), ?_⟩
 rw [execS_may (by exact hm)]
 rfl
end
theorem movM_in (sc : Int) : ∀ (f : Nat) (l : List Mv) (q : Mv), q ∈ movM sc f l → (q.1 = sc ∨ q.1 ∈ l.map Prod.fst) ∧ (q.2 = sc ∨ q.2 ∈ l.map Prod.snd)
 | 0, l, q, h => by simp [movM] at h
 | _ + 1, [], q, h => by simp [movM] at h
 | f + 1, p :: r, q, h => by
  rw [movM] at h
  cases hr : rdyAt (p :: r) (p :: r) 0 with
  | some k =>
   rw [hr] at h
   simp only [] at h
   obtain ⟨j, x, rfl, hk, _⟩ := rdyAt_some _ _ _ _ hr
   rw [Nat.zero_add, List.getD_eq_getElem?_getD, hk, Option.getD_some] at h
   rcases List.mem_cons.1 h with rfl | h
   ·exact ⟨.inr (List.mem_map_of_mem (List.mem_of_getElem? hk)), .inr (List.mem_map_of_mem (List.mem_of_getElem? hk))⟩
   ·obtain ⟨h1, h2⟩ := movM_in sc f _ q h
    have sub := fun y (hy : y ∈ (p :: r).eraseIdx j) => erase_sub (p :: r) j y hy
    refine ⟨h1.imp id fun h => ?_, h2.imp id fun h => ?_⟩
    ·obtain ⟨y, hy, e⟩ := List.mem_map.1 h; exact e ▸ List.mem_map_of_mem (sub y hy)
    ·obtain ⟨y, hy, e⟩ := List.mem_map.1 h; exact e ▸ List.mem_map_of_mem (sub y hy)
  | none =>
   rw [hr] at h
   simp only [] at h
   rcases List.mem_cons.1 h with rfl | h
   ·exact ⟨.inl rfl, .inr (by simp)⟩
   ·obtain ⟨h1, h2⟩ := movM_in sc f _ q h
    refine ⟨h1.imp id fun h => by rwa [swap_fst] at h, ?_⟩
    rcases h2 with h2 | h2
    ·exact .inl h2
    ·obtain ⟨y, hy, e⟩ := List.mem_map.1 h2
     obtain ⟨z, hz, rfl⟩ := List.mem_map.1 hy
     by_cases hc : z.2 = p.2
     ·simp only [hc, if_true] at e; exact .inl e.symm
     ·simp only [hc, if_false] at e; exact .inr (e ▸ List.mem_map_of_mem hz)
theorem movM_len (sc : Int) : ∀ (f : Nat) (l : List Mv), (movM sc f l).length ≤ f
 | 0, l => by simp [movM]
 | _ + 1, [] => by simp [movM]
 | f + 1, p :: r => by
  rw [movM]
  cases rdyAt (p :: r) (p :: r) 0 with
  | some k => simp only [List.length_cons]; have := movM_len sc f ((p :: r).eraseIdx k); omega
  | none => simp only [List.length_cons]; have := movM_len sc f ((p :: r).map fun q => if q.2 = p.2 then (q.1, sc) else q); omega
def ldV (s : List Int) (x : XS) : Int := if x.op = 26 then s.getD (x.disp / 8).toNat 0 else 0
def runH (s : List Int) : MachS → List XS → MachS
  | m, [] => m
  | m, x :: r => if x.op = 31 then m else runH s (execS m x (ldV s x)).1 r
def OkH (x : XS) : Prop := ((x.op = 0 ∨ x.op = 1) ∧ ∀ m, (execS m x 0).2 = 0) ∨ ∃ to n : Int, 0 ≤ to ∧ to ≤ 15 ∧ 0 ≤ n ∧ n < 11 ∧ x = ⟨26, 64, to, 0, 4, 8 * n, 0, 0⟩
theorem okH_mov {q : Mv} (h1 : 0 ≤ q.1 ∧ q.1 ≤ 15) (h2 : 0 ≤ q.2 ∧ q.2 ≤ 15) : OkH (movX q) :=
 .inl ⟨.inl rfl, fun m => by obtain ⟨p, e⟩ := ex_mov (m := m) (v := 0) h1 h2; show (execS m ⟨0, 64, q.1, q.2, 0, 0, 0, 0⟩ 0).2 = 0; rw [e]⟩
theorem okH_put {dst n : Int} (h1 : 0 ≤ dst ∧ dst ≤ 15) (h2 : 0 ≤ n ∧ n ≤ 2147483647) : OkH ⟨1, 32, dst, 0, 0, 0, n, 0⟩ :=
 .inl ⟨.inr rfl, fun m => by obtain ⟨p, e⟩ := ex_put (m := m) (v := 0) h1 h2; show (execS m (putX dst n) 0).2 = 0; rw [e]⟩
theorem ldV_load {s : List Int} {to n : Int} (h : 0 ≤ n) : ldV s ⟨26, 64, to, 0, 4, 8 * n, 0, 0⟩ = s.getD n.toNat 0 := by
 unfold ldV
 rw [if_pos rfl]
 congr 2
 show 8 * n / 8 = n
 omega
section
variable {s : List Int}
abbrev rgM (m : MachS) (j : Int) : Int := rg m.rl j
theorem rg_putM {m : MachS} {pc i v : Int} {j : Int} (h0 : 0 ≤ j) (h1 : j ≤ 15) : rgM ((m.at pc).put i v) j = if i = j then v else rgM m j := rg_put j h0 h1
theorem run_mov : ∀ (q : List Mv) (m : MachS) (t : List XS), (∀ y ∈ q, (0 ≤ y.1 ∧ y.1 ≤ 15) ∧ 0 ≤ y.2 ∧ y.2 ≤ 15) → ∃ m', runH s m (q.map movX ++ t) = runH s m' t ∧ ∀ j, 0 ≤ j → j ≤ 15 → rgM m' j = doF q (rgM m) j
 | [], m, t, _ => ⟨m, rfl, fun j _ _ => rfl⟩
 | y :: q, m, t, h => by
  obtain ⟨hy1, hy2⟩ := h y (by simp)
  obtain ⟨pc, e⟩ := ex_mov (m := m) (v := 0) hy1 hy2
  obtain ⟨m', e2, h2⟩ := run_mov q ((m.at pc).put y.1 (rg m.rl y.2)) t (fun z hz => h z (by simp [hz]))
  refine ⟨m', ?_, fun j h0 h1 => ?_⟩
  ·rw [List.map_cons, List.cons_append, runH, if_neg (by show ¬ (0 : Int) = 31; decide)]
   have : ldV s (movX y) = 0 := rfl
   rw [this, show movX y = ⟨0, 64, y.1, y.2, 0, 0, 0, 0⟩ from rfl, e]
   exact e2
  ·rw [h2 j h0 h1, doF]
   have hin : ∀ (q : List Mv) (R S : Int → Int), (∀ z ∈ q, 0 ≤ z.2 ∧ z.2 ≤ 15) → (∀ x, 0 ≤ x → x ≤ 15 → R x = S x) → ∀ x, 0 ≤ x → x ≤ 15 → doF q R x = doF q S x := by
    intro q
    induction q with
    | nil => intro R S _ hRS x a b; exact hRS x a b
    | cons z q ih =>
     intro R S hz hRS x a b
     have := hz z (by simp)
     exact ih _ _ (fun w hw => hz w (by simp [hw])) (fun x a b => by simp only [hRS x a b, hRS z.2 this.1 this.2]) x a b
   refine hin q _ _ (fun z hz => (h z (by simp [hz])).2) (fun x a b => ?_) j h0 h1
   rw [rg_putM a b]
   by_cases hc : x = y.1
   ·simp [hc]
   ·have hc' : ¬ y.1 = x := fun e => hc e.symm
    simp [hc, hc']
theorem run_put {m : MachS} {dst n : Int} {t : List XS} (h1 : 0 ≤ dst ∧ dst ≤ 15) (h2 : 0 ≤ n ∧ n ≤ 2147483647) : ∃ m', runH s m (⟨1, 32, dst, 0, 0, 0, n, 0⟩ :: t) = runH s m' t ∧ ∀ j, 0 ≤ j → j ≤ 15 → rgM m' j = if dst = j then n else rgM m j := by
 obtain ⟨pc, e⟩ := ex_put (m := m) (v := 0) h1 h2
 refine ⟨(m.at pc).put dst n, ?_, fun j a b => rg_putM a b⟩
 ·rw [runH, if_neg (by show ¬ (1 : Int) = 31; decide)]
  have : ldV s ⟨1, 32, dst, 0, 0, 0, n, 0⟩ = 0 := rfl
  rw [this, show (⟨1, 32, dst, 0, 0, 0, n, 0⟩ : XS) = putX dst n from rfl, e]
theorem run_load {m : MachS} {dst n : Int} {t : List XS} (h1 : 0 ≤ dst ∧ dst ≤ 15) (h2 : 0 ≤ n ∧ n < 11) : ∃ m', runH s m (⟨26, 64, dst, 0, 4, 8 * n, 0, 0⟩ :: t) = runH s m' t ∧ ∀ j, 0 ≤ j → j ≤ 15 → rgM m' j = if dst = j then s.getD n.toNat 0 else rgM m j := by
 obtain ⟨pc, e⟩ := ex_load (m := m) (v := s.getD n.toNat 0) h1 h2
 refine ⟨(m.at pc).put dst (s.getD n.toNat 0), ?_, fun j a b => rg_putM a b⟩
 ·rw [runH, if_neg (by show ¬ (26 : Int) = 31; decide), ldV_load h2.1, e]
variable {p : PlS}
theorem run_late (hp : p.may = true) (z : MachS) : ∀ (m k : Nat) (w : MachS) (t : List XS), k + m ≤ 5 → ∃ w', runH s w (laM p m k ++ t) = runH s w' t ∧
  (∀ j, k ≤ j → j < k + m → (p.k ((j + 1 : Nat) : Int) == 1) = false → rgM w' (toI j) = atM z s (p.k ((j + 1 : Nat) : Int)) (p.n ((j + 1 : Nat) : Int))) ∧
  ∀ x, 0 ≤ x → x ≤ 15 → (∀ j, k ≤ j → j < k + m → (p.k ((j + 1 : Nat) : Int) == 1) = false → x ≠ toI j) → rgM w' x = rgM w x
 | 0, k, w, t, hk => ⟨w, rfl, fun j h1 h2 => by omega, fun x _ _ _ => rfl⟩
 | m + 1, k, w, t, hk => by
  have ho := plOK_form (PlS.may_at hp (i := ((k + 1 : Nat) : Int)) (by omega) (by omega))
  have ht := toI_in k
  cases q1 : (p.k ((k + 1 : Nat) : Int) == 1) with
  | true =>
   rw [laM, if_pos q1]
   obtain ⟨w', e, h1, h2⟩ := run_late hp z m (k + 1) w t (by omega)
   refine ⟨w', e, fun j a b c => ?_, fun x a b c => h2 x a b fun j d e f => c j (by omega) (by omega) f⟩
   rcases Nat.eq_or_lt_of_le a with rfl | a
   ·rw [q1] at c; cases c
   ·exact h1 j a (by omega) c
  | false =>
   rw [laM, if_neg (by rw [q1]; simp), List.cons_append, intoS]
   have key : ∀ v, ∀ w1 : MachS, (∀ j, 0 ≤ j → j ≤ 15 → rgM w1 j = if toI k = j then v else rgM w j) → v = atM z s (p.k ((k + 1 : Nat) : Int)) (p.n ((k + 1 : Nat) : Int)) → ∃ w', runH s w1 (laM p m (k + 1) ++ t) = runH s w' t ∧
     (∀ j, k ≤ j → j < k + (m + 1) → (p.k ((j + 1 : Nat) : Int) == 1) = false → rgM w' (toI j) = atM z s (p.k ((j + 1 : Nat) : Int)) (p.n ((j + 1 : Nat) : Int))) ∧
     ∀ x, 0 ≤ x → x ≤ 15 → (∀ j, k ≤ j → j < k + (m + 1) → (p.k ((j + 1 : Nat) : Int) == 1) = false → x ≠ toI j) → rgM w' x = rgM w x := by
    intro v w1 hw1 hv
    obtain ⟨w', e, h1, h2⟩ := run_late hp z m (k + 1) w1 t (by omega)
    refine ⟨w', e, fun j a b c => ?_, fun x a b c => ?_⟩
    ·rcases Nat.eq_or_lt_of_le a with rfl | a
     ·rw [h2 (toI k) (by omega) (by omega) (fun j d e f => (toI_ne (by omega) d).symm), hw1 _ (by omega) (by omega), if_pos rfl, hv]
     ·exact h1 j a (by omega) c
    ·rw [h2 x a b (fun j d e f => c j (by omega) (by omega) f), hw1 x a b, if_neg (fun e => c k (Nat.le_refl _) (by omega) q1 e.symm)]
   cases q2 : (p.k ((k + 1 : Nat) : Int) == 2) with
   | true =>
    rw [if_pos rfl]
    have hk2 : p.k ((k + 1 : Nat) : Int) = 2 := by simpa using q2
    obtain ⟨w1, e1, hw1⟩ := run_load (s := s) (m := w) (dst := toI k) (n := p.n ((k + 1 : Nat) : Int)) (t := laM p m (k + 1) ++ t) (by omega) (by omega)
    rw [e1]
    refine key _ w1 hw1 ?_
    unfold atM
    rw [hk2, if_neg (by decide), if_pos rfl]
   | false =>
    rw [if_neg (by simp)]
    have hk1 : ¬ p.k ((k + 1 : Nat) : Int) = 1 := by simpa using q1
    have hk2 : ¬ p.k ((k + 1 : Nat) : Int) = 2 := by simpa using q2
    obtain ⟨w1, e1, hw1⟩ := run_put (s := s) (m := w) (dst := toI k) (n := 0) (t := laM p m (k + 1) ++ t) (by omega) (by decide)
    rw [e1]
    refine key _ w1 hw1 ?_
    unfold atM
    rw [if_neg hk1, if_neg hk2]
theorem hl_mem : ∀ (m k : Nat) (q : Mv), q ∈ hlM p m k → ∃ j, k ≤ j ∧ j < k + m ∧ p.k ((j + 1 : Nat) : Int) = 1 ∧ q = (toI j, p.n ((j + 1 : Nat) : Int))
 | 0, k, q, h => by simp [hlM] at h
 | m + 1, k, q, h => by
  rw [hlM] at h
  split at h
  ·rename_i h1
   rcases List.mem_cons.1 h with rfl | h
   ·exact ⟨k, Nat.le_refl _, by omega, by simpa using h1, rfl⟩
   ·obtain ⟨j, a, b, c⟩ := hl_mem m (k + 1) q h
    exact ⟨j, by omega, by omega, c⟩
  ·obtain ⟨j, a, b, c⟩ := hl_mem m (k + 1) q h
   exact ⟨j, by omega, by omega, c⟩
theorem mem_hl : ∀ (m k j : Nat), k ≤ j → j < k + m → p.k ((j + 1 : Nat) : Int) = 1 → (toI j, p.n ((j + 1 : Nat) : Int)) ∈ hlM p m k
 | 0, k, j, a, b, c => by omega
 | m + 1, k, j, a, b, c => by
  rw [hlM]
  rcases Nat.eq_or_lt_of_le a with rfl | a
  ·rw [if_pos (by simpa using c)]; simp
  ·have := mem_hl m (k + 1) j a (by omega) c
   split
   ·exact List.mem_cons_of_mem _ this
   ·exact this
theorem hl_regs (hp : p.may = true) {n : Nat} (h : n ≤ 5) : ∀ q ∈ hlM p n 0, (0 ≤ q.1 ∧ q.1 ≤ 15) ∧ 0 ≤ q.2 ∧ q.2 ≤ 15 := by
 intro q hq
 obtain ⟨j, a, b, c, rfl⟩ := hl_mem n 0 q hq
 have ho := plOK_form (PlS.may_at hp (i := ((j + 1 : Nat) : Int)) (by omega) (by omega))
 have ht := toI_in j
 show (0 ≤ toI j ∧ toI j ≤ 15) ∧ 0 ≤ p.n _ ∧ p.n _ ≤ 15
 omega
theorem hoMv_regs (hp : p.may = true) {n : Nat} (h : n ≤ 5) : ∀ q ∈ hoMv p n, (0 ≤ q.1 ∧ q.1 ≤ 15) ∧ 0 ≤ q.2 ∧ q.2 ≤ 15 := by
 intro q hq
 obtain ⟨h1, h2⟩ := movM_in 11 _ _ q hq
 have hr := hl_regs hp h
 have sub : ∀ y ∈ leftM (hlM p n 0), y ∈ hlM p n 0 := fun y hy => (List.mem_filter.1 hy).1
 constructor
 ·rcases h1 with e | e
  ·rw [e]; decide
  ·obtain ⟨y, hy, e⟩ := List.mem_map.1 e; rw [← e]; exact (hr y (sub y hy)).1
 ·rcases h2 with e | e
  ·rw [e]; decide
  ·obtain ⟨y, hy, e⟩ := List.mem_map.1 e; rw [← e]; exact (hr y (sub y hy)).2
theorem nd_fst {l : List Mv} (h : (l.map Prod.fst).Nodup) {a b c : Int} (h1 : (a, b) ∈ l) (h2 : (a, c) ∈ l) : b = c := by
 induction l with
 | nil => simp at h1
 | cons x r ih =>
  rw [List.map_cons, List.nodup_cons] at h
  rcases List.mem_cons.1 h1 with e1 | g1 <;> rcases List.mem_cons.1 h2 with e2 | g2
  ·exact (Prod.mk.inj (e1.trans e2.symm)).2
  ·rw [← e1] at h
   exact absurd (List.mem_map_of_mem (f := Prod.fst) g2) h.1
  ·rw [← e2] at h
   exact absurd (List.mem_map_of_mem (f := Prod.fst) g1) h.1
  ·exact ih h.2 g1 g2
theorem host_right (hp : p.may = true) {num : Int} (h0 : 0 ≤ num) (h1 : num ≤ 15) (z : MachS) : rgM (runH s z (hoM p num)) 0 = num ∧ ∀ j, j < argN num → rgM (runH s z (hoM p num)) (toI j) = atM z s (p.k ((j + 1 : Nat) : Int)) (p.n ((j + 1 : Nat) : Int)) := by
 have hn : argN num ≤ 5 := by unfold argN; omega
 have hm := hl_may hp hn
 obtain ⟨w1, e1, a1⟩ := run_mov (s := s) (hoMv p (argN num)) z (laM p (argN num) 0 ++ [⟨1, 32, 0, 0, 0, 0, num, 0⟩, ⟨31, 0, 0, 0, 0, 0, 0, 0⟩]) (hoMv_regs hp hn)
 obtain ⟨w2, e2, b1, b2⟩ := run_late (s := s) hp z (argN num) 0 w1 [⟨1, 32, 0, 0, 0, 0, num, 0⟩, ⟨31, 0, 0, 0, 0, 0, 0, 0⟩] (by omega)
 obtain ⟨w3, e3, c1⟩ := run_put (s := s) (m := w2) (dst := 0) (n := num) (t := [⟨31, 0, 0, 0, 0, 0, 0, 0⟩]) (by decide) (by omega)
 have e : runH s z (hoM p num) = w3 := by
  rw [hoM, e1, e2, e3, runH, if_pos rfl]
 rw [e]
 have hok := leftM_ok hm
 have hle : (leftM (hlM p (argN num) 0)).length ≤ (hlM p (argN num) 0).length := List.length_filter_le _ _
 have hof := offS_le 11 (leftM (hlM p (argN num) 0))
 obtain ⟨d1, d2⟩ := mov_right 11 (2 * (hlM p (argN num) 0).length) (leftM (hlM p (argN num) 0)) (rgM z) hok (by omega)
 refine ⟨by rw [c1 0 (by decide) (by decide), if_pos rfl], fun j hj => ?_⟩
 have ht := toI_in j
 rw [c1 _ (by omega) (by omega), if_neg (by omega)]
 cases q1 : (p.k ((j + 1 : Nat) : Int) == 1) with
 | false => exact b1 j (by omega) (by omega) q1
 | true =>
  have hk1 : p.k ((j + 1 : Nat) : Int) = 1 := by simpa using q1
  rw [b2 _ (by omega) (by omega) (fun i a b c e => by
   have : i = j := by
    rcases Nat.lt_trichotomy i j with h | h | h
    ·exact absurd e (toI_ne (by omega) h)
    ·exact h
    ·exact absurd e.symm (toI_ne (by omega) h)
   subst this
   rw [q1] at c; cases c), a1 _ (by omega) (by omega)]
  have hmem := mem_hl (p := p) (argN num) 0 j (by omega) (by omega) hk1
  have hat : atM z s (p.k ((j + 1 : Nat) : Int)) (p.n ((j + 1 : Nat) : Int)) = rgM z (p.n ((j + 1 : Nat) : Int)) := by unfold atM; rw [if_pos hk1]
  rw [hat]
  by_cases he : toI j = p.n ((j + 1 : Nat) : Int)
  ·have hnd : ((hlM p (argN num) 0).map Prod.fst).Nodup := by
    simp only [mayMv, Bool.and_eq_true] at hm
    exact (nmM_nd _ _ hm.2.2).1
   have hnot : toI j ∉ (leftM (hlM p (argN num) 0)).map Prod.fst := by
    intro h
    obtain ⟨y, hy, ey⟩ := List.mem_map.1 h
    obtain ⟨y1, y2⟩ := List.mem_filter.1 hy
    have : y.2 = p.n ((j + 1 : Nat) : Int) := nd_fst hnd (a := toI j) (by rw [← ey]; exact y1) hmem
    rw [ey, this, ← he] at y2
    simp at y2
   have := d2 (toI j) (by omega) hnot
   rw [← he]
   exact this
  ·have hl : (toI j, p.n ((j + 1 : Nat) : Int)) ∈ leftM (hlM p (argN num) 0) := List.mem_filter.2 ⟨hmem, by simpa using he⟩
   exact d1 _ hl
theorem ho_ok (hp : p.may = true) {num : Int} (h0 : 0 ≤ num) (h1 : num ≤ 15) : ∃ l : List XS, hoM p num = l ++ [⟨31, 0, 0, 0, 0, 0, 0, 0⟩] ∧ (∀ x ∈ l, OkH x) ∧ l.length ≤ 16 := by
 have hn : argN num ≤ 5 := by unfold argN; omega
 refine ⟨(hoMv p (argN num)).map movX ++ (laM p (argN num) 0 ++ [⟨1, 32, 0, 0, 0, 0, num, 0⟩]), by simp [hoM], ?_, ?_⟩
 ·intro x hx
  rcases List.mem_append.1 hx with h | h
  ·obtain ⟨q, hq, rfl⟩ := List.mem_map.1 h
   obtain ⟨r1, r2⟩ := hoMv_regs hp hn q hq
   exact okH_mov r1 r2
  rcases List.mem_append.1 h with h | h
  ·have key : ∀ (m k : Nat), k + m ≤ 5 → ∀ x ∈ laM p m k, OkH x := by
    intro m
    induction m with
    | zero => intro k _ x hx; simp [laM] at hx
    | succ m ih =>
     intro k hk x hx
     have ho := plOK_form (PlS.may_at hp (i := ((k + 1 : Nat) : Int)) (by omega) (by omega))
     have ht := toI_in k
     rw [laM] at hx
     split at hx
     ·exact ih (k + 1) (by omega) x hx
     ·rename_i q1
      rcases List.mem_cons.1 hx with rfl | hx
      ·unfold intoS
       split
       ·rename_i q2
        have hk2 : p.k ((k + 1 : Nat) : Int) = 2 := by simpa using q2
        exact .inr ⟨_, _, by omega, by omega, by omega, by omega, rfl⟩
       ·exact okH_put (by omega) (by decide)
      ·exact ih (k + 1) (by omega) x hx
   exact key _ 0 (by omega) x h
  ·rw [List.mem_singleton] at h
   subst h
   exact okH_put (by decide) (by omega)
 ·have a := movM_len 11 (2 * (hlM p (argN num) 0).length) (leftM (hlM p (argN num) 0))
  have b := hlM_len p (argN num) 0
  have c := laM_len p (argN num) 0
  simp only [List.length_append, List.length_map, List.length_singleton]
  show (hoMv p (argN num)).length + ((laM p (argN num) 0).length + 1) ≤ 16
  unfold hoMv
  omega
end
end Go.Ev
namespace Go.Proofs.YtkpneibifdoecaaGreat
open Go Go.Ev
abbrev slC (s : Int → Int) : List D := [.int .u64 (s 0), .int .u64 (s 1), .int .u64 (s 2), .int .u64 (s 3), .int .u64 (s 4), .int .u64 (s 5), .int .u64 (s 6), .int .u64 (s 7), .int .u64 (s 8), .int .u64 (s 9), .int .u64 (s 10)]
end Go.Proofs.YtkpneibifdoecaaGreat
