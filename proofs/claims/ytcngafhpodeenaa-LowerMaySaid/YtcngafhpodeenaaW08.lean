/- Contracts and plain laws that a statement's proof leans on (texts merged: KR2A, KR3, KR3A, MdK8, KR4, KR4A, MdW, MdF2, MdE, MdP, MdS, KS0, KS0A, Steps0, KSR0, MdG, MdK9, KS1). -/
import Derived.Test.YtcngafhpodeenaaW04
import Derived.Test.YtcngafhpodeenaaW07
set_option linter.unusedVariables false
set_option linter.unusedSimpArgs false
namespace Go.Proofs.Ytcngafhpodeenaa
open Go Go.Ev
set_option maxRecDepth 100000
theorem hitFrom_iff (l : List InstS) (i : Int) : ∀ m k, hitFrom l i m k = true ↔ ∃ j, k ≤ j ∧ j < k + m ∧ hitAt l i j = true
 | 0, k => by simp [hitFrom]; omega
 | m + 1, k => by
  rw [hitFrom, Bool.or_eq_true, hitFrom_iff l i m (k + 1)]
  constructor
  ·rintro (h | ⟨j, h1, h2, h3⟩)
   ·exact ⟨k, by omega, by omega, h⟩
   ·exact ⟨j, by omega, by omega, h3⟩
  ·rintro ⟨j, h1, h2, h3⟩
   rcases Nat.eq_or_lt_of_le h1 with e | e
   ·subst e; exact .inl h3
   ·exact .inr ⟨j, by omega, by omega, h3⟩
theorem begM_stop (l : List InstS) (k : Nat) (hk : k + 1 < l.length + 1) : (begM l ((k + 1 : Nat) : Int) = true) ↔ (stopK (kindAt l k) = true ∨ hitFrom l ((k + 1 : Nat) : Int) l.length 0 = true) := by
 unfold begM
 rw [begU_iff, hitFrom_iff]
 have hlt : k < l.length := by omega
 constructor
 ·rintro (h | ⟨j, h1, h2⟩)
  ·omega
  ·unfold begS at h2
   rw [List.getElem?_eq_getElem h1] at h2
   simp only [Bool.or_eq_true, Bool.and_eq_true, beq_iff_eq] at h2
   rcases h2 with ⟨h2, h3⟩ | ⟨h2, h3⟩
   ·obtain rfl : j = k := by omega
    refine .inl ?_
    unfold kindAt
    rw [List.getElem?_eq_getElem h1]
    exact h2
   ·refine .inr ⟨j, by omega, by omega, ?_⟩
    unfold hitAt
    rw [List.getElem?_eq_getElem h1]
    simp [h2, h3]
 ·rintro (h | ⟨j, h1, h2, h3⟩)
  ·refine .inr ⟨k, hlt, ?_⟩
   unfold kindAt at h
   rw [List.getElem?_eq_getElem hlt] at h
   unfold begS
   rw [List.getElem?_eq_getElem hlt]
   simp at h ⊢
   exact .inl h
  ·refine .inr ⟨j, by omega, ?_⟩
   unfold hitAt at h3
   unfold begS
   rw [List.getElem?_eq_getElem (by omega)] at h3 ⊢
   simp only [Bool.and_eq_true, beq_iff_eq] at h3
   simp [h3.1, h3.2]
theorem rbegins_ok (ctx : Int) (l : List InstS) (h64 : l.length ≤ 64) (k : Nat) (hk : k < l.length) : Ret Try.prog 69 [.agg [.int .i64 ctx, .lst .no 9 (isd l)], .int .i64 (k : Int)] (.bool (begM l k)) := by
 cases k with
 | zero =>
  rw [show begM l ((0 : Nat) : Int) = true from begM_zero l]
  exact bgn_zero_ok ctx _ l h64 rfl
 | succ k =>
  have hlt : k < l.length := by omega
  have hw : IntKind.i64.wrap (((k + 1 : Nat) : Int) - 1) = (k : Int) := by rw [w_i64]; omega
  have hx : (isd l)[Int.toNat (IntKind.i64.wrap (((k + 1 : Nat) : Int) - 1))]? = some (instD l[k].kind l[k].op l[k].width l[k].size l[k].byReg l[k].dst l[k].src l[k].off l[k].imm) := by rw [hw, Int.toNat_natCast]; exact isd_get l k hlt
  have hs := begM_stop l k (by omega)
  have hK : kindAt l k = l[k].kind := by unfold kindAt; rw [List.getElem?_eq_getElem hlt]
  rw [hK] at hs
  by_cases q3 : l[k].kind = 3
  ·rw [hs.2 (.inl (by rw [q3]; rfl))]
   exact bgn_3_ok ctx _ l h64 (by omega) (by omega) _ _ _ _ _ _ _ _ _ hx q3
  by_cases q4 : l[k].kind = 4
  ·rw [hs.2 (.inl (by rw [q4]; rfl))]
   exact bgn_4_ok ctx _ l h64 (by omega) (by omega) _ _ _ _ _ _ _ _ _ hx q4
  by_cases q6 : l[k].kind = 6
  ·rw [hs.2 (.inl (by rw [q6]; rfl))]
   exact bgn_6_ok ctx _ l h64 (by omega) (by omega) _ _ _ _ _ _ _ _ _ hx q6
  have e3 : (l[k].kind == 3) = false := by simpa using q3
  have e4 : (l[k].kind == 4) = false := by simpa using q4
  have e6 : (l[k].kind == 6) = false := by simpa using q6
  rcases Bool.eq_false_or_eq_true (hitFrom l ((k + 1 : Nat) : Int) l.length 0) with h | h
  ·rw [hs.2 (.inr h)]
   exact bgn_yes_ok ctx _ l h64 (by omega) (by omega) _ _ _ _ _ _ _ _ _ hx e3 e4 e6 h
  ·have : begM l ((k + 1 : Nat) : Int) = false := by
    rw [Bool.eq_false_iff]
    intro q
    rcases hs.1 q with a | a
    ·unfold stopK at a; rw [e3, e4, e6] at a; simp at a
    ·rw [h] at a; cases a
   rw [this]
   exact bgn_no_ok ctx _ l h64 (by omega) (by omega) _ _ _ _ _ _ _ _ _ hx e3 e4 e6 h
end Go.Proofs.Ytcngafhpodeenaa

namespace Go.Proofs.Ytcngafhpodeenaa
open Go Go.Ev
set_option maxRecDepth 100000
set_option maxHeartbeats 8000000
theorem rct_first (l : List D) (ctx : Int) (k : Nat) (k1 : (k : Int) < (l.length : Int)) (n1 : (l.length : Int) ≤ 64) (hb : Ret Try.prog 69 [.agg [.int .i64 ctx, .lst .no 9 l], .int .i64 (k : Int)] (.bool true))  : RoundRun Try.prog (loopB Try.f30 0) ⟨[1, 7], [0], [(6, 3)]⟩ 2 [uu, D.ptr false 0 0, uu, uu, uu, uu, .lst .tight 0 [], .int .i64 (↑k : Int), uu, uu, uu, uu, uu, uu, uu, uu, uu, uu, uu, uu, uu, uu, uu, uu, uu, uu, uu, uu, uu, uu, uu, uu, uu, uu, uu, uu, uu, uu, uu, uu, uu, uu, uu, uu, uu, uu, uu, uu, uu, uu, uu, uu, uu, uu, uu, uu, uu, uu, uu, uu, uu, uu, uu, uu, uu, uu, uu, uu, uu, uu, uu, uu, uu, uu, uu, uu, uu, uu, uu, uu, uu, uu, uu, uu, uu, uu, uu, uu, uu, uu, uu, uu, uu, uu, uu, uu, uu, uu, uu, uu, uu, uu, uu, uu, uu, uu, uu, uu, uu, uu, uu, uu, uu, uu, uu, uu] [Ob.box [.int .i64 ctx, .lst .no 9 l], Ob.dead] (Ex.norm) [uu, D.ptr false 0 0, uu, uu, uu, uu, D.slc (2 : Nat) (3 : Nat) (1 : Nat), .int .i64 (IntKind.wrap IntKind.i64 ((↑k : Int) + 1)), uu, uu, uu, uu, uu, uu, uu, uu, uu, uu, uu, uu, uu, uu, uu, uu, uu, uu, uu, uu, uu, uu, uu, uu, uu, uu, uu, uu, uu, uu, uu, uu, uu, uu, uu, uu, uu, uu, uu, uu, uu, uu, uu, uu, uu, uu, uu, uu, uu, uu, uu, uu, uu, uu, uu, uu, uu, uu, uu, uu, uu, uu, uu, uu, uu, uu, uu, uu, uu, uu, uu, uu, uu, uu, uu, uu, uu, uu, uu, uu, uu, uu, uu, uu, uu, uu, uu, uu, uu, uu, uu, uu, uu, uu, uu, uu, uu, uu, uu, uu, uu, uu, uu, uu, uu, uu, uu, uu] ([Ob.box [.int .i64 ctx, .lst .no 9 l], Ob.dead, Ob.box [.int .i64 (↑k : Int), .int .i64 (IntKind.wrap IntKind.i64 ((↑k : Int) + 1)), .lst .tight 0 []]]) := by
 exact (RoundRun.of_eval (sp := ⟨[1, 7], [0], [(6, 3)]⟩) (n0 := 2) (ex := Ex.norm) (t' := [uu, D.ptr false 0 0, uu, uu, uu, uu, D.slc (2 : Nat) (3 : Nat) (1 : Nat), .int .i64 (IntKind.wrap IntKind.i64 ((↑k : Int) + 1)), uu, uu, uu, uu, uu, uu, uu, uu, uu, uu, uu, uu, uu, uu, uu, uu, uu, uu, uu, uu, uu, uu, uu, uu, uu, uu, uu, uu, uu, uu, uu, uu, uu, uu, uu, uu, uu, uu, uu, uu, uu, uu, uu, uu, uu, uu, uu, uu, uu, uu, uu, uu, uu, uu, uu, uu, uu, uu, uu, uu, uu, uu, uu, uu, uu, uu, uu, uu, uu, uu, uu, uu, uu, uu, uu, uu, uu, uu, uu, uu, uu, uu, uu, uu, uu, uu, uu, uu, uu, uu, uu, uu, uu, uu, uu, uu, uu, uu, uu, uu, uu, uu, uu, uu, uu, uu, uu, uu]) (s' := [Ob.box [.int .i64 ctx, .lst .no 9 l], Ob.dead, Ob.box [.int .i64 (↑k : Int), .int .i64 (IntKind.wrap IntKind.i64 ((↑k : Int) + 1)), .lst .tight 0 []]]) mixed [tC (by ((try simp only [List.length_append, List.length_cons, List.length_nil, List.length_set, List.length_replicate, sl2] at *); (try unfold big at *); omega) : (decide ((↑k : Int) < (↑(List.length l) : Int))) = true), .ret _ _ _ hb, tT, .go 0, .len 1 2147483648 (by decide), tT, .putA ([.int .i64 (↑k : Int), .int .i64 0, .lst .tight 0 []]) 1 ([.int .i64 (IntKind.wrap IntKind.i64 ((↑k : Int) + 1))]) ([.int .i64 (↑k : Int), .int .i64 (IntKind.wrap IntKind.i64 ((↑k : Int) + 1)), .lst .tight 0 []]) ⟨rfl, by first | decide | simp⟩, .cl ([.int .i64 (↑k : Int), .int .i64 (IntKind.wrap IntKind.i64 ((↑k : Int) + 1)), .lst .tight 0 []]) (by first | exact clAll rfl | exact hls | exact cl_set hls rfl | exact cl_set (cl_app hls rfl) rfl)] (by kernel_rfl)).cast (by rfl) (by rfl)
theorem rct_new (l : List D) (ctx : Int) (k : Nat) (k1 : (k : Int) < (l.length : Int)) (n1 : (l.length : Int) ≤ 64) (hb : Ret Try.prog 69 [.agg [.int .i64 ctx, .lst .no 9 l], .int .i64 (k : Int)] (.bool true)) (ls : List D) (r : Nat) (r0 : 1 ≤ r) (r1 : r ≤ k) (hll : ls.length = r * 3) (hls : ∀ c ∈ ls, c.clean = true)  : RoundRun Try.prog (loopB Try.f30 0) ⟨[1, 7], [0], [(6, 3)]⟩ 2 [uu, D.ptr false 0 0, uu, uu, uu, uu, D.slc (2 : Nat) (3 : Nat) r, .int .i64 (↑k : Int), uu, uu, uu, uu, uu, uu, uu, uu, uu, uu, uu, uu, uu, uu, uu, uu, uu, uu, uu, uu, uu, uu, uu, uu, uu, uu, uu, uu, uu, uu, uu, uu, uu, uu, uu, uu, uu, uu, uu, uu, uu, uu, uu, uu, uu, uu, uu, uu, uu, uu, uu, uu, uu, uu, uu, uu, uu, uu, uu, uu, uu, uu, uu, uu, uu, uu, uu, uu, uu, uu, uu, uu, uu, uu, uu, uu, uu, uu, uu, uu, uu, uu, uu, uu, uu, uu, uu, uu, uu, uu, uu, uu, uu, uu, uu, uu, uu, uu, uu, uu, uu, uu, uu, uu, uu, uu, uu, uu] [Ob.box [.int .i64 ctx, .lst .no 9 l], Ob.dead, Ob.box ls] (Ex.norm) [uu, D.ptr false 0 0, uu, uu, uu, uu, D.slc (2 : Nat) (3 : Nat) (r + (1 : Nat)), .int .i64 (IntKind.wrap IntKind.i64 ((↑k : Int) + 1)), uu, uu, uu, uu, uu, uu, uu, uu, uu, uu, uu, uu, uu, uu, uu, uu, uu, uu, uu, uu, uu, uu, uu, uu, uu, uu, uu, uu, uu, uu, uu, uu, uu, uu, uu, uu, uu, uu, uu, uu, uu, uu, uu, uu, uu, uu, uu, uu, uu, uu, uu, uu, uu, uu, uu, uu, uu, uu, uu, uu, uu, uu, uu, uu, uu, uu, uu, uu, uu, uu, uu, uu, uu, uu, uu, uu, uu, uu, uu, uu, uu, uu, uu, uu, uu, uu, uu, uu, uu, uu, uu, uu, uu, uu, uu, uu, uu, uu, uu, uu, uu, uu, uu, uu, uu, uu, uu, uu] ([Ob.box [.int .i64 ctx, .lst .no 9 l], Ob.dead, Ob.box (List.map D.demote (List.set (ls ++ [.int .i64 (↑k : Int), .int .i64 0, .lst .tight 0 []]) (Int.toNat (IntKind.wrap IntKind.i64 ((↑(r + (1 : Nat)) : Int) - 1)) * (3 : Nat) + (1 : Nat)) (.int .i64 (IntKind.wrap IntKind.i64 ((↑k : Int) + 1)))))]) := by
 exact (RoundRun.of_eval (sp := ⟨[1, 7], [0], [(6, 3)]⟩) (n0 := 2) (ex := Ex.norm) (t' := [uu, D.ptr false 0 0, uu, uu, uu, uu, D.slc (2 : Nat) (3 : Nat) (r + (1 : Nat)), .int .i64 (IntKind.wrap IntKind.i64 ((↑k : Int) + 1)), uu, uu, uu, uu, uu, uu, uu, uu, uu, uu, uu, uu, uu, uu, uu, uu, uu, uu, uu, uu, uu, uu, uu, uu, uu, uu, uu, uu, uu, uu, uu, uu, uu, uu, uu, uu, uu, uu, uu, uu, uu, uu, uu, uu, uu, uu, uu, uu, uu, uu, uu, uu, uu, uu, uu, uu, uu, uu, uu, uu, uu, uu, uu, uu, uu, uu, uu, uu, uu, uu, uu, uu, uu, uu, uu, uu, uu, uu, uu, uu, uu, uu, uu, uu, uu, uu, uu, uu, uu, uu, uu, uu, uu, uu, uu, uu, uu, uu, uu, uu, uu, uu, uu, uu, uu, uu, uu, uu]) (s' := [Ob.box [.int .i64 ctx, .lst .no 9 l], Ob.dead, Ob.box (List.map D.demote (List.set (ls ++ [.int .i64 (↑k : Int), .int .i64 0, .lst .tight 0 []]) (Int.toNat (IntKind.wrap IntKind.i64 ((↑(r + (1 : Nat)) : Int) - 1)) * (3 : Nat) + (1 : Nat)) (.int .i64 (IntKind.wrap IntKind.i64 ((↑k : Int) + 1)))))]) mixed [tC (by ((try simp only [List.length_append, List.length_cons, List.length_nil, List.length_set, List.length_replicate, sl2] at *); (try unfold big at *); omega) : (decide ((↑k : Int) < (↑(List.length l) : Int))) = true), .ret _ _ _ hb, tT, .len (r + (1 : Nat)) ((2147483648 : Nat)) (by first | decide | omega | (simp; omega)), tC (v := true) (@beq_len ls r hll), .tst (decide (0 ≤ IntKind.wrap IntKind.i64 ((↑(r + List.length (List.set (List.replicate (1 : Nat) (valD (Value.agg #[Value.int IntKind.i64 0, Value.int IntKind.i64 0, Value.slice none (0 : Nat) (0 : Nat)]))) (Prod.fst ((0 : Nat), Operand.tmp (34 : Nat))) (opnd [uu, D.ptr false 0 0, uu, uu, uu, uu, D.slc (2 : Nat) (3 : Nat) r, .int .i64 (↑k : Int), uu, uu, uu, uu, uu, uu, uu, uu, uu, uu, uu, uu, uu, uu, .int .i64 (↑k : Int), D.ptr false (0 : Nat) ((0 : Nat) + Field.offset #[{ name := "Context", type := (3 : Nat), offset := (0 : Nat), embedded := false, tag := "", pkgPath := "", byteOffset := (0 : Nat) }, { name := "L", type := (22 : Nat), offset := (1 : Nat), embedded := false, tag := "", pkgPath := "", byteOffset := (8 : Nat) }][(1 : Nat)]), .lst .no 9 l, .int .i64 (↑(List.length l) : Int), .bool (decide ((↑k : Int) < (↑(List.length l) : Int))), uu, uu, .agg [.int .i64 ctx, .lst .no 9 l], .int .i64 (↑k : Int), .bool true, D.slc (2 : Nat) (3 : Nat) r, .int .i64 (↑k : Int), .agg [.int .i64 (↑k : Int), .int .i64 0, .lst .tight 0 []], uu, uu, uu, uu, uu, uu, uu, uu, uu, uu, uu, uu, uu, uu, uu, uu, uu, uu, uu, uu, uu, uu, uu, uu, uu, uu, uu, uu, uu, uu, uu, uu, uu, uu, uu, uu, uu, uu, uu, uu, uu, uu, uu, uu, uu, uu, uu, uu, uu, uu, uu, uu, uu, uu, uu, uu, uu, uu, uu, uu, uu, uu, uu, uu, uu, uu, uu, uu, uu, uu, uu, uu, uu, uu, uu, uu, uu, uu, uu, uu, uu] (Prod.snd ((0 : Nat), Operand.tmp (34 : Nat)))))) : Int) - 1) ∧ IntKind.wrap IntKind.i64 ((↑(r + List.length (List.set (List.replicate (1 : Nat) (valD (Value.agg #[Value.int IntKind.i64 0, Value.int IntKind.i64 0, Value.slice none (0 : Nat) (0 : Nat)]))) (Prod.fst ((0 : Nat), Operand.tmp (34 : Nat))) (opnd [uu, D.ptr false 0 0, uu, uu, uu, uu, D.slc (2 : Nat) (3 : Nat) r, .int .i64 (↑k : Int), uu, uu, uu, uu, uu, uu, uu, uu, uu, uu, uu, uu, uu, uu, .int .i64 (↑k : Int), D.ptr false (0 : Nat) ((0 : Nat) + Field.offset #[{ name := "Context", type := (3 : Nat), offset := (0 : Nat), embedded := false, tag := "", pkgPath := "", byteOffset := (0 : Nat) }, { name := "L", type := (22 : Nat), offset := (1 : Nat), embedded := false, tag := "", pkgPath := "", byteOffset := (8 : Nat) }][(1 : Nat)]), .lst .no 9 l, .int .i64 (↑(List.length l) : Int), .bool (decide ((↑k : Int) < (↑(List.length l) : Int))), uu, uu, .agg [.int .i64 ctx, .lst .no 9 l], .int .i64 (↑k : Int), .bool true, D.slc (2 : Nat) (3 : Nat) r, .int .i64 (↑k : Int), .agg [.int .i64 (↑k : Int), .int .i64 0, .lst .tight 0 []], uu, uu, uu, uu, uu, uu, uu, uu, uu, uu, uu, uu, uu, uu, uu, uu, uu, uu, uu, uu, uu, uu, uu, uu, uu, uu, uu, uu, uu, uu, uu, uu, uu, uu, uu, uu, uu, uu, uu, uu, uu, uu, uu, uu, uu, uu, uu, uu, uu, uu, uu, uu, uu, uu, uu, uu, uu, uu, uu, uu, uu, uu, uu, uu, uu, uu, uu, uu, uu, uu, uu, uu, uu, uu, uu, uu, uu, uu, uu, uu, uu] (Prod.snd ((0 : Nat), Operand.tmp (34 : Nat)))))) : Int) - 1) < (↑(r + List.length (List.set (List.replicate (1 : Nat) (valD (Value.agg #[Value.int IntKind.i64 0, Value.int IntKind.i64 0, Value.slice none (0 : Nat) (0 : Nat)]))) (Prod.fst ((0 : Nat), Operand.tmp (34 : Nat))) (opnd [uu, D.ptr false 0 0, uu, uu, uu, uu, D.slc (2 : Nat) (3 : Nat) r, .int .i64 (↑k : Int), uu, uu, uu, uu, uu, uu, uu, uu, uu, uu, uu, uu, uu, uu, .int .i64 (↑k : Int), D.ptr false (0 : Nat) ((0 : Nat) + Field.offset #[{ name := "Context", type := (3 : Nat), offset := (0 : Nat), embedded := false, tag := "", pkgPath := "", byteOffset := (0 : Nat) }, { name := "L", type := (22 : Nat), offset := (1 : Nat), embedded := false, tag := "", pkgPath := "", byteOffset := (8 : Nat) }][(1 : Nat)]), .lst .no 9 l, .int .i64 (↑(List.length l) : Int), .bool (decide ((↑k : Int) < (↑(List.length l) : Int))), uu, uu, .agg [.int .i64 ctx, .lst .no 9 l], .int .i64 (↑k : Int), .bool true, D.slc (2 : Nat) (3 : Nat) r, .int .i64 (↑k : Int), .agg [.int .i64 (↑k : Int), .int .i64 0, .lst .tight 0 []], uu, uu, uu, uu, uu, uu, uu, uu, uu, uu, uu, uu, uu, uu, uu, uu, uu, uu, uu, uu, uu, uu, uu, uu, uu, uu, uu, uu, uu, uu, uu, uu, uu, uu, uu, uu, uu, uu, uu, uu, uu, uu, uu, uu, uu, uu, uu, uu, uu, uu, uu, uu, uu, uu, uu, uu, uu, uu, uu, uu, uu, uu, uu, uu, uu, uu, uu, uu, uu, uu, uu, uu, uu, uu, uu, uu, uu, uu, uu, uu, uu] (Prod.snd ((0 : Nat), Operand.tmp (34 : Nat)))))) : Int))) true (by ((try simp only [List.length_append, List.length_cons, List.length_nil, List.length_set, List.length_replicate, sl2] at *); (try unfold big at *); omega)), .putA _ _ _ _ (@put_set (ls ++ [.int .i64 (↑k : Int), .int .i64 0, .lst .tight 0 []]) (Int.toNat (IntKind.wrap IntKind.i64 ((↑(r + (1 : Nat)) : Int) - 1)) * (3 : Nat) + (1 : Nat)) (.int .i64 (IntKind.wrap IntKind.i64 ((↑k : Int) + 1))) (by ((try simp only [List.length_append, List.length_cons, List.length_nil, List.length_set, List.length_replicate, sl2] at *); (try unfold big at *); omega))), .raw, .cl (List.set (ls ++ [.int .i64 (↑k : Int), .int .i64 0, .lst .tight 0 []]) (Int.toNat (IntKind.wrap IntKind.i64 ((↑(r + (1 : Nat)) : Int) - 1)) * (3 : Nat) + (1 : Nat)) (.int .i64 (IntKind.wrap IntKind.i64 ((↑k : Int) + 1)))) (by first | exact clAll rfl | exact hls | exact cl_set hls rfl | exact cl_set (cl_app hls rfl) rfl)] (by kernel_rfl)).cast (by rfl) (by rfl)
theorem rct_same (l : List D) (ctx : Int) (k : Nat) (k1 : (k : Int) < (l.length : Int)) (n1 : (l.length : Int) ≤ 64) (hb : Ret Try.prog 69 [.agg [.int .i64 ctx, .lst .no 9 l], .int .i64 (k : Int)] (.bool false)) (ls : List D) (r : Nat) (r0 : 1 ≤ r) (r1 : r ≤ k) (hll : ls.length = r * 3) (hls : ∀ c ∈ ls, c.clean = true)  : RoundRun Try.prog (loopB Try.f30 0) ⟨[1, 7], [0], [(6, 3)]⟩ 2 [uu, D.ptr false 0 0, uu, uu, uu, uu, D.slc (2 : Nat) (3 : Nat) r, .int .i64 (↑k : Int), uu, uu, uu, uu, uu, uu, uu, uu, uu, uu, uu, uu, uu, uu, uu, uu, uu, uu, uu, uu, uu, uu, uu, uu, uu, uu, uu, uu, uu, uu, uu, uu, uu, uu, uu, uu, uu, uu, uu, uu, uu, uu, uu, uu, uu, uu, uu, uu, uu, uu, uu, uu, uu, uu, uu, uu, uu, uu, uu, uu, uu, uu, uu, uu, uu, uu, uu, uu, uu, uu, uu, uu, uu, uu, uu, uu, uu, uu, uu, uu, uu, uu, uu, uu, uu, uu, uu, uu, uu, uu, uu, uu, uu, uu, uu, uu, uu, uu, uu, uu, uu, uu, uu, uu, uu, uu, uu, uu] [Ob.box [.int .i64 ctx, .lst .no 9 l], Ob.dead, Ob.box ls] (Ex.norm) [uu, D.ptr false 0 0, uu, uu, uu, uu, D.slc (2 : Nat) (3 : Nat) r, .int .i64 (IntKind.wrap IntKind.i64 ((↑k : Int) + 1)), uu, uu, uu, uu, uu, uu, uu, uu, uu, uu, uu, uu, uu, uu, uu, uu, uu, uu, uu, uu, uu, uu, uu, uu, uu, uu, uu, uu, uu, uu, uu, uu, uu, uu, uu, uu, uu, uu, uu, uu, uu, uu, uu, uu, uu, uu, uu, uu, uu, uu, uu, uu, uu, uu, uu, uu, uu, uu, uu, uu, uu, uu, uu, uu, uu, uu, uu, uu, uu, uu, uu, uu, uu, uu, uu, uu, uu, uu, uu, uu, uu, uu, uu, uu, uu, uu, uu, uu, uu, uu, uu, uu, uu, uu, uu, uu, uu, uu, uu, uu, uu, uu, uu, uu, uu, uu, uu, uu] ([Ob.box [.int .i64 ctx, .lst .no 9 l], Ob.dead, Ob.box (List.map D.demote (List.set ls (Int.toNat (IntKind.wrap IntKind.i64 ((↑r : Int) - 1)) * (3 : Nat) + (1 : Nat)) (.int .i64 (IntKind.wrap IntKind.i64 ((↑k : Int) + 1)))))]) := by
 exact (RoundRun.of_eval (sp := ⟨[1, 7], [0], [(6, 3)]⟩) (n0 := 2) (ex := Ex.norm) (t' := [uu, D.ptr false 0 0, uu, uu, uu, uu, D.slc (2 : Nat) (3 : Nat) r, .int .i64 (IntKind.wrap IntKind.i64 ((↑k : Int) + 1)), uu, uu, uu, uu, uu, uu, uu, uu, uu, uu, uu, uu, uu, uu, uu, uu, uu, uu, uu, uu, uu, uu, uu, uu, uu, uu, uu, uu, uu, uu, uu, uu, uu, uu, uu, uu, uu, uu, uu, uu, uu, uu, uu, uu, uu, uu, uu, uu, uu, uu, uu, uu, uu, uu, uu, uu, uu, uu, uu, uu, uu, uu, uu, uu, uu, uu, uu, uu, uu, uu, uu, uu, uu, uu, uu, uu, uu, uu, uu, uu, uu, uu, uu, uu, uu, uu, uu, uu, uu, uu, uu, uu, uu, uu, uu, uu, uu, uu, uu, uu, uu, uu, uu, uu, uu, uu, uu, uu]) (s' := [Ob.box [.int .i64 ctx, .lst .no 9 l], Ob.dead, Ob.box (List.map D.demote (List.set ls (Int.toNat (IntKind.wrap IntKind.i64 ((↑r : Int) - 1)) * (3 : Nat) + (1 : Nat)) (.int .i64 (IntKind.wrap IntKind.i64 ((↑k : Int) + 1)))))]) mixed [tC (by ((try simp only [List.length_append, List.length_cons, List.length_nil, List.length_set, List.length_replicate, sl2] at *); (try unfold big at *); omega) : (decide ((↑k : Int) < (↑(List.length l) : Int))) = true), .ret _ _ _ hb, tF, .tst (decide (0 ≤ IntKind.wrap IntKind.i64 ((↑r : Int) - 1) ∧ IntKind.wrap IntKind.i64 ((↑r : Int) - 1) < (↑r : Int))) true (by ((try simp only [List.length_append, List.length_cons, List.length_nil, List.length_set, List.length_replicate, sl2] at *); (try unfold big at *); omega)), .putA _ _ _ _ (@put_set ls (Int.toNat (IntKind.wrap IntKind.i64 ((↑r : Int) - 1)) * (3 : Nat) + (1 : Nat)) (.int .i64 (IntKind.wrap IntKind.i64 ((↑k : Int) + 1))) (by ((try simp only [List.length_append, List.length_cons, List.length_nil, List.length_set, List.length_replicate, sl2] at *); (try unfold big at *); omega))), .raw, .cl (List.set ls (Int.toNat (IntKind.wrap IntKind.i64 ((↑r : Int) - 1)) * (3 : Nat) + (1 : Nat)) (.int .i64 (IntKind.wrap IntKind.i64 ((↑k : Int) + 1)))) (by first | exact clAll rfl | exact hls | exact cl_set hls rfl | exact cl_set (cl_app hls rfl) rfl)] (by kernel_rfl)).cast (by rfl) (by rfl)
theorem rct_end (l : List D) (ctx : Int) (k : Nat) (ls : List D) (r : Nat) (hls : ∀ c ∈ ls, c.clean = true) (h : (l.length : Int) ≤ k)  : RoundRun Try.prog (loopB Try.f30 0) ⟨[1], [0], [(6, 3)]⟩ 2 [uu, D.ptr false 0 0, uu, uu, uu, uu, D.slc (2 : Nat) (3 : Nat) r, .int .i64 (↑k : Int), uu, uu, uu, uu, uu, uu, uu, uu, uu, uu, uu, uu, uu, uu, uu, uu, uu, uu, uu, uu, uu, uu, uu, uu, uu, uu, uu, uu, uu, uu, uu, uu, uu, uu, uu, uu, uu, uu, uu, uu, uu, uu, uu, uu, uu, uu, uu, uu, uu, uu, uu, uu, uu, uu, uu, uu, uu, uu, uu, uu, uu, uu, uu, uu, uu, uu, uu, uu, uu, uu, uu, uu, uu, uu, uu, uu, uu, uu, uu, uu, uu, uu, uu, uu, uu, uu, uu, uu, uu, uu, uu, uu, uu, uu, uu, uu, uu, uu, uu, uu, uu, uu, uu, uu, uu, uu, uu, uu] [Ob.box [.int .i64 ctx, .lst .no 9 l], Ob.dead, Ob.box ls] (Ex.exit (0 : Nat)) [uu, D.ptr false 0 0, uu, uu, uu, uu, D.slc (2 : Nat) (3 : Nat) r, uu, uu, uu, uu, uu, uu, uu, uu, uu, uu, uu, uu, uu, uu, uu, uu, uu, uu, uu, uu, uu, uu, uu, uu, uu, uu, uu, uu, uu, uu, uu, uu, uu, uu, uu, uu, uu, uu, uu, uu, uu, uu, uu, uu, uu, uu, uu, uu, uu, uu, uu, uu, uu, uu, uu, uu, uu, uu, uu, uu, uu, uu, uu, uu, uu, uu, uu, uu, uu, uu, uu, uu, uu, uu, uu, uu, uu, uu, uu, uu, uu, uu, uu, uu, uu, uu, uu, uu, uu, uu, uu, uu, uu, uu, uu, uu, uu, uu, uu, uu, uu, uu, uu, uu, uu, uu, uu, uu, uu] ([Ob.box [.int .i64 ctx, .lst .no 9 l], Ob.dead, Ob.box (List.map D.demote ls)]) := by
 exact (RoundRun.of_eval (sp := ⟨[1], [0], [(6, 3)]⟩) (n0 := 2) (ex := Ex.exit (0 : Nat)) (t' := [uu, D.ptr false 0 0, uu, uu, uu, uu, D.slc (2 : Nat) (3 : Nat) r, uu, uu, uu, uu, uu, uu, uu, uu, uu, uu, uu, uu, uu, uu, uu, uu, uu, uu, uu, uu, uu, uu, uu, uu, uu, uu, uu, uu, uu, uu, uu, uu, uu, uu, uu, uu, uu, uu, uu, uu, uu, uu, uu, uu, uu, uu, uu, uu, uu, uu, uu, uu, uu, uu, uu, uu, uu, uu, uu, uu, uu, uu, uu, uu, uu, uu, uu, uu, uu, uu, uu, uu, uu, uu, uu, uu, uu, uu, uu, uu, uu, uu, uu, uu, uu, uu, uu, uu, uu, uu, uu, uu, uu, uu, uu, uu, uu, uu, uu, uu, uu, uu, uu, uu, uu, uu, uu, uu, uu]) (s' := [Ob.box [.int .i64 ctx, .lst .no 9 l], Ob.dead, Ob.box (List.map D.demote ls)]) mixed [tC (by ((try simp only [List.length_append, List.length_cons, List.length_nil, List.length_set, List.length_replicate, sl2] at *); (try unfold big at *); omega) : (decide ((↑k : Int) < (↑(List.length l) : Int))) = false), .cl ls (by first | exact clAll rfl | exact hls | exact cl_set hls rfl | exact cl_set (cl_app hls rfl) rfl)] (by kernel_rfl)).cast (by rfl) (by rfl)
end Go.Proofs.Ytcngafhpodeenaa

namespace Go.Proofs.Ytcngafhpodeenaa
open Go Go.Ev
set_option maxRecDepth 100000
abbrev rcT (bx : D) (k : Int) : List D := [.undef, .ptr false 0 0, .undef, .undef, .undef, .undef, bx, .int .i64 k, .undef, .undef, .undef, .undef, .undef, .undef, .undef, .undef, .undef, .undef, .undef, .undef, .undef, .undef, .undef, .undef, .undef, .undef, .undef, .undef, .undef, .undef, .undef, .undef, .undef, .undef, .undef, .undef, .undef, .undef, .undef, .undef, .undef, .undef, .undef, .undef, .undef, .undef, .undef, .undef, .undef, .undef, .undef, .undef, .undef, .undef, .undef, .undef, .undef, .undef, .undef, .undef, .undef, .undef, .undef, .undef, .undef, .undef, .undef, .undef, .undef, .undef, .undef, .undef, .undef, .undef, .undef, .undef, .undef, .undef, .undef, .undef, .undef, .undef, .undef, .undef, .undef, .undef, .undef, .undef, .undef, .undef, .undef, .undef, .undef, .undef, .undef, .undef, .undef, .undef, .undef, .undef, .undef, .undef, .undef, .undef, .undef, .undef, .undef, .undef, .undef, .undef, .undef, .undef, .undef, .undef, .undef, .undef]
abbrev rcU (bx : D) : List D := [.undef, .ptr false 0 0, .undef, .undef, .undef, .undef, bx, .undef, .undef, .undef, .undef, .undef, .undef, .undef, .undef, .undef, .undef, .undef, .undef, .undef, .undef, .undef, .undef, .undef, .undef, .undef, .undef, .undef, .undef, .undef, .undef, .undef, .undef, .undef, .undef, .undef, .undef, .undef, .undef, .undef, .undef, .undef, .undef, .undef, .undef, .undef, .undef, .undef, .undef, .undef, .undef, .undef, .undef, .undef, .undef, .undef, .undef, .undef, .undef, .undef, .undef, .undef, .undef, .undef, .undef, .undef, .undef, .undef, .undef, .undef, .undef, .undef, .undef, .undef, .undef, .undef, .undef, .undef, .undef, .undef, .undef, .undef, .undef, .undef, .undef, .undef, .undef, .undef, .undef, .undef, .undef, .undef, .undef, .undef, .undef, .undef, .undef, .undef, .undef, .undef, .undef, .undef, .undef, .undef, .undef, .undef, .undef, .undef, .undef, .undef, .undef, .undef, .undef, .undef, .undef, .undef]
abbrev rcS (ctx : Int) (l : List InstS) (rs : List RowS) : List Ob := [.box [.int .i64 ctx, .lst .no 9 (isd l)], .dead, .box (rowsC rs)]
theorem rct_rounds (l : List InstS) (hp : OkP l) (ctx : Int) : ∀ (m k : Nat), 1 ≤ k → k + m = l.length →
  Rounds Try.prog (loopB Try.f30 0) 2 (rcT (.slc 2 3 (cutP l k).length) k) (rcS ctx l (cutP l k)) (.exit 0) (rcU (.slc 2 3 (cutP l l.length).length)) (rcS ctx l (cutP l l.length))
 | 0, k, hk1, hk => by
  obtain rfl : k = l.length := by omega
  have := rct_end (isd l) ctx l.length (rowsC (cutP l l.length)) (cutP l l.length).length (rowsC_clean _) (by rw [isd_len]; omega)
  rw [rowsC_demote] at this
  exact Rounds.last this (fun h => by cases h)
 | m + 1, k, hk1, hk => by
  have h64 := hp.le
  have ih := rct_rounds l hp ctx m (k + 1) (by omega) (by omega)
  obtain ⟨c1, c2⟩ := cutP_len l k
  have c2 := c2 hk1
  have hw : IntKind.i64.wrap ((k : Int) + 1) = ((k + 1 : Nat) : Int) := by rw [w_i64]; omega
  have k1 : (k : Int) < ((isd l).length : Int) := by rw [isd_len]; omega
  have n1 : ((isd l).length : Int) ≤ 64 := by rw [isd_len]; omega
  have hR := rbegins_ok ctx l h64 k (by omega)
  cases hb : begM l k with
  | true =>
   rw [hb] at hR
   have := rct_new (isd l) ctx k k1 n1 hR (rowsC (cutP l k)) (cutP l k).length c2 c1 (rowsC_len _) (rowsC_clean _)
   have e : cutP l (k + 1) = cutP l k ++ [⟨k, (k : Int) + 1, []⟩] := by rw [cutP, if_pos hb]
   have hv : IntKind.i64.wrap ((((cutP l k).length + 1 : Nat) : Int) - 1) = ((cutP l k).length : Int) := by rw [w_i64]; omega
   have hr : rowsC (cutP l k) ++ [.int .i64 (k : Int), .int .i64 0, .lst .tight 0 []] = rowsC (cutP l k ++ [⟨k, 0, []⟩]) := by rw [rowsC_app]; rfl
   rw [hw, hv, hr, Int.toNat_natCast, rowsC_to, modify_snoc, rowsC_demote] at this
   rw [e] at ih
   simp only [List.length_append, List.length_cons, List.length_nil] at ih
   exact Rounds.more this ih
  | false =>
   rw [hb] at hR
   have := rct_same (isd l) ctx k k1 n1 hR (rowsC (cutP l k)) (cutP l k).length c2 c1 (rowsC_len _) (rowsC_clean _)
   have e : cutP l (k + 1) = (cutP l k).modify ((cutP l k).length - 1) fun r => { r with to := (k : Int) + 1 } := by rw [cutP, if_neg (by rw [hb]; simp)]
   have hv : IntKind.i64.wrap (((cutP l k).length : Int) - 1) = (((cutP l k).length - 1 : Nat) : Int) := by rw [w_i64]; omega
   rw [hw, hv, Int.toNat_natCast, rowsC_to, rowsC_demote] at this
   rw [e, List.length_modify] at ih
   exact Rounds.more this ih
theorem rct_loop (l : List InstS) (hp : OkP l) (ctx : Int) : LoopRun Try.prog 2 (.loop (loopB Try.f30 0)) (rcT (.lst .tight 0 []) 0) [.box [.int .i64 ctx, .lst .no 9 (isd l)], .dead] (.exit 0) (rcU (.slc 2 3 (cutP l l.length).length)) (rcS ctx l (cutP l l.length)) := by
 have h1 := hp.pos
 have h64 := hp.le
 have hb : begM l 0 = true := begM_zero l
 have hR := rbegins_ok ctx l h64 0 h1
 rw [show begM l ((0 : Nat) : Int) = true from hb] at hR
 have := rct_first (isd l) ctx 0 (by rw [isd_len]; omega) (by rw [isd_len]; omega) hR
 have e : cutP l 1 = [⟨0, 1, []⟩] := by
  rw [cutP, if_pos (by exact hb)]
  rfl
 have ih := rct_rounds l hp ctx (l.length - 1) 1 (Nat.le_refl _) (by omega)
 have hw : IntKind.i64.wrap (((0 : Nat) : Int) + 1) = 1 := by decide
 rw [hw] at this
 rw [e] at ih
 exact LoopRun.of_rounds (Nat.le_refl _) (Rounds.more this ih)
end Go.Proofs.Ytcngafhpodeenaa

namespace Go.Ev
open Go
theorem blkOf_nat (l : List InstS) (t : Nat) : blkOf l t = ((cutP l (t + 1)).length : Int) - 1 := by
 unfold blkOf
 rw [Int.toNat_natCast]
theorem cutP_mono (l : List InstS) : ∀ (d k : Nat), (cutP l k).length ≤ (cutP l (k + d)).length
 | 0, k => Nat.le_refl _
 | d + 1, k => by
  refine Nat.le_trans (cutP_mono l d k) ?_
  rw [← Nat.add_assoc, cutP]
  split
  ·simp
  ·simp
theorem cutP_in (l : List InstS) : ∀ k, ∀ (j : Nat) (r : RowS), (cutP l k)[j]? = some r → (∀ t : Nat, t < k → ((r.fr ≤ t ∧ (t : Int) < r.to) ↔ (j : Int) = blkOf l t)) ∧ r.fr < r.to ∧ r.to ≤ k ∧ 0 ≤ r.fr ∧ (j + 1 = (cutP l k).length → r.to = k)
 | 0, j, r, h => by simp [cutP] at h
 | k + 1, j, r, h => by
  have ih := cutP_in l k
  have c := cutP_len l k
  rcases Bool.eq_false_or_eq_true (begM l k) with hb | hb
  ·have e : cutP l (k + 1) = cutP l k ++ [⟨k, (k : Int) + 1, []⟩] := by rw [cutP, if_pos hb]
   have ek : blkOf l k = ((cutP l k).length : Int) := by rw [blkOf_nat, e]; simp
   rw [e] at h ⊢
   rcases Nat.lt_or_ge j (cutP l k).length with q | q
   ·rw [List.getElem?_append_left q] at h
    obtain ⟨i1, i2, i3, i4, i5⟩ := ih j r h
    refine ⟨fun t ht => ?_, i2, by omega, i4, fun hj => by simp at hj; omega⟩
    rcases Nat.lt_or_ge t k with q2 | q2
    ·exact i1 t q2
    ·obtain rfl : t = k := by omega
     rw [ek]
     constructor
     ·intro hh; omega
     ·intro hh; omega
   ·rw [List.getElem?_append_right q] at h
    have hj : j = (cutP l k).length := by
     rcases Nat.eq_zero_or_pos (j - (cutP l k).length) with z | z
     ·omega
     ·rw [List.getElem?_eq_none (by simp; omega)] at h; cases h
    subst hj
    simp at h
    subst h
    refine ⟨fun t ht => ?_, by simp; omega, by simp, by simp, fun _ => by simp⟩
    simp only []
    rcases Nat.lt_or_ge t k with q2 | q2
    ·have m := cutP_mono l (k - (t + 1)) (t + 1)
     rw [show t + 1 + (k - (t + 1)) = k by omega] at m
     rw [blkOf_nat]
     constructor
     ·intro hh; omega
     ·intro hh; omega
    ·obtain rfl : t = k := by omega
     rw [ek]
     constructor
     ·intro _; rfl
     ·intro _; omega
  ·have e : cutP l (k + 1) = (cutP l k).modify ((cutP l k).length - 1) fun r => { r with to := (k : Int) + 1 } := by rw [cutP, if_neg (by rw [hb]; simp)]
   have k1 : 1 ≤ k := by
    rcases Nat.eq_zero_or_pos k with z | z
    ·subst z; rw [show begM l ((0 : Nat) : Int) = true from begM_zero l] at hb; cases hb
    ·exact z
   have c2 := c.2 k1
   have ek : blkOf l k = ((cutP l k).length : Int) - 1 := by rw [blkOf_nat, e]; simp
   rw [e] at h ⊢
   rw [List.getElem?_modify] at h
   cases hr : (cutP l k)[j]? with
   | none => rw [hr] at h; simp at h
   | some r0 =>
    rw [hr] at h
    obtain ⟨i1, i2, i3, i4, i5⟩ := ih j r0 hr
    have hjl : j < (cutP l k).length := by
     rcases Nat.lt_or_ge j (cutP l k).length with q | q
     ·exact q
     ·rw [List.getElem?_eq_none q] at hr; cases hr
    by_cases q : (cutP l k).length - 1 = j
    ·simp [q] at h
     subst h
     have i5 := i5 (by omega)
     refine ⟨fun t ht => ?_, by simp; omega, by simp, i4, fun _ => by simp⟩
     simp only []
     rcases Nat.lt_or_ge t k with q2 | q2
     ·rw [← i1 t q2]
      constructor
      ·intro hh; omega
      ·intro hh; omega
     ·obtain rfl : t = k := by omega
      rw [ek]
      constructor
      ·intro _; omega
      ·intro _; omega
    ·simp [q] at h
     subst h
     refine ⟨fun t ht => ?_, i2, by omega, i4, fun hj => by simp at hj; omega⟩
     rcases Nat.lt_or_ge t k with q2 | q2
     ·exact i1 t q2
     ·obtain rfl : t = k := by omega
      rw [ek]
      constructor
      ·intro hh; omega
      ·intro hh; omega
theorem rowsC_get0 : ∀ {rs : List RowS} {j : Nat} {r : RowS}, rs[j]? = some r → (rowsC rs)[j * 3]? = some (.int .i64 r.fr)
 | x :: t, 0, r, h => by simp at h; subst h; simp [rowsC]
 | x :: t, j + 1, r, h => by
  rw [show (j + 1) * 3 = (j * 3) + 1 + 1 + 1 by omega]
  simp only [rowsC, List.getElem?_cons_succ]
  exact rowsC_get0 (by simpa using h)
theorem nextP_fr (l : List InstS) (rs : List RowS) : ∀ (b j : Nat) (r : RowS), (nextP l rs b)[j]? = some r → ∃ r0, rs[j]? = some r0 ∧ r.fr = r0.fr ∧ r.to = r0.to ∧ (j < b → r.nx = nxR l j r0) ∧ (b ≤ j → r.nx = r0.nx)
 | 0, j, r, h => ⟨r, h, rfl, rfl, fun q => absurd q (by omega), fun _ => rfl⟩
 | b + 1, j, r, h => by
  rw [nextP, List.getElem?_modify] at h
  cases e : (nextP l rs b)[j]? with
  | none => rw [e] at h; simp at h
  | some r1 =>
   rw [e] at h
   obtain ⟨r0, h0, h1, h2, h3, h4⟩ := nextP_fr l rs b j r1 e
   by_cases q : b = j
   ·subst q
    simp at h
    subst h
    refine ⟨r0, h0, h1, h2, fun _ => ?_, fun q => absurd q (by omega)⟩
    show nxR l b r1 = nxR l b r0
    unfold nxR
    rw [h2]
   ·simp [q] at h
    subst h
    exact ⟨r0, h0, h1, h2, fun z => h3 (by omega), fun z => h4 (by omega)⟩
end Go.Ev

namespace Go.Proofs.Ytcngafhpodeenaa
open Go Go.Ev
set_option maxRecDepth 100000
set_option maxHeartbeats 8000000
theorem of_hit (l : List D) (ctx : Int) (r b : Nat) (ls : List D) (i : Int) (b1 : b < r) (r1 : r ≤ 64) (hll : ls.length = r * 3) (hls : ∀ c ∈ ls, c.clean = true) (fr to : Int) (hfr : ls[b * 3]? = some (.int .i64 fr)) (hto : ls[b * 3 + 1]? = some (.int .i64 to)) (h1 : fr ≤ i) (h2 : i < to)  : RoundRun Try.prog (loopB Try.f71 0) ⟨[4, 5], [0, 1000002], []⟩ 4 [D.slc (2 : Nat) (3 : Nat) r, .int .i64 i, uu, uu, uu, uu, .int .i64 (↑b : Int), uu, uu, uu, uu, uu, uu, uu, uu, uu, uu, uu, uu, uu, uu, uu, uu, uu, uu, uu, uu, uu, uu, uu] [Ob.box [.int .i64 ctx, .lst .no 9 l], Ob.dead, Ob.box ls, Ob.dead] (Ex.ret) [uu, uu, uu, uu, .int .i64 (↑b : Int), .bool true, uu, uu, uu, uu, uu, uu, uu, uu, uu, uu, uu, uu, uu, uu, uu, uu, uu, uu, uu, uu, uu, uu, uu, uu] ([Ob.box [.int .i64 ctx, .lst .no 9 l], Ob.dead, Ob.box (List.map D.demote ls), Ob.dead]) := by
 exact (RoundRun.of_eval (sp := ⟨[4, 5], [0, 1000002], []⟩) (n0 := 4) (ex := Ex.ret) (t' := [uu, uu, uu, uu, .int .i64 (↑b : Int), .bool true, uu, uu, uu, uu, uu, uu, uu, uu, uu, uu, uu, uu, uu, uu, uu, uu, uu, uu, uu, uu, uu, uu, uu, uu]) (s' := [Ob.box [.int .i64 ctx, .lst .no 9 l], Ob.dead, Ob.box (List.map D.demote ls), Ob.dead]) mixed ([tC (by ((try simp only [List.length_append, List.length_cons, List.length_nil, List.length_set, List.length_replicate, sl2] at *); (try unfold big at *); omega) : (decide ((↑b : Int) < (↑r : Int))) = true), .tst (decide (0 ≤ (↑b : Int) ∧ (↑b : Int) < (↑r : Int))) true (by ((try simp only [List.length_append, List.length_cons, List.length_nil, List.length_set, List.length_replicate, sl2] at *); (try unfold big at *); omega)), .get _ _ _ hfr] ++ List.replicate 4 (tC (eT (by ((try simp only [List.length_append, List.length_cons, List.length_nil, List.length_set, List.length_replicate, sl2] at *); (try unfold big at *); omega) : (decide (i ≥ fr)) = true))) ++ [.tst (decide (0 ≤ (↑b : Int) ∧ (↑b : Int) < (↑r : Int))) true (by ((try simp only [List.length_append, List.length_cons, List.length_nil, List.length_set, List.length_replicate, sl2] at *); (try unfold big at *); omega)), tC (eT (by ((try simp only [List.length_append, List.length_cons, List.length_nil, List.length_set, List.length_replicate, sl2] at *); (try unfold big at *); omega) : (decide (i ≥ fr)) = true)), tC (eT (by ((try simp only [List.length_append, List.length_cons, List.length_nil, List.length_set, List.length_replicate, sl2] at *); (try unfold big at *); omega) : (decide (i ≥ fr)) = true)), .get _ _ _ hto, tC (eT (by ((try simp only [List.length_append, List.length_cons, List.length_nil, List.length_set, List.length_replicate, sl2] at *); (try unfold big at *); omega) : (decide (i ≥ fr)) = true)), tC (by ((try simp only [List.length_append, List.length_cons, List.length_nil, List.length_set, List.length_replicate, sl2] at *); (try unfold big at *); omega) : (decide (i ≥ fr)) = true), tC (by ((try simp only [List.length_append, List.length_cons, List.length_nil, List.length_set, List.length_replicate, sl2] at *); (try unfold big at *); omega) : (decide (i < to)) = true), .cl ls (by first | exact clAll rfl | exact hls)]) (by kernel_rfl)).cast (by rfl) (by rfl)
theorem of_low (l : List D) (ctx : Int) (r b : Nat) (ls : List D) (i : Int) (b1 : b < r) (r1 : r ≤ 64) (hll : ls.length = r * 3) (hls : ∀ c ∈ ls, c.clean = true) (fr to : Int) (hfr : ls[b * 3]? = some (.int .i64 fr)) (hto : ls[b * 3 + 1]? = some (.int .i64 to)) (h1 : i < fr)  : RoundRun Try.prog (loopB Try.f71 0) ⟨[0, 1, 6], [0, 1000002], []⟩ 4 [D.slc (2 : Nat) (3 : Nat) r, .int .i64 i, uu, uu, uu, uu, .int .i64 (↑b : Int), uu, uu, uu, uu, uu, uu, uu, uu, uu, uu, uu, uu, uu, uu, uu, uu, uu, uu, uu, uu, uu, uu, uu] [Ob.box [.int .i64 ctx, .lst .no 9 l], Ob.dead, Ob.box ls, Ob.dead] (Ex.norm) [D.slc (2 : Nat) (3 : Nat) r, .int .i64 i, uu, uu, uu, uu, .int .i64 (IntKind.wrap IntKind.i64 ((↑b : Int) + 1)), uu, uu, uu, uu, uu, uu, uu, uu, uu, uu, uu, uu, uu, uu, uu, uu, uu, uu, uu, uu, uu, uu, uu] ([Ob.box [.int .i64 ctx, .lst .no 9 l], Ob.dead, Ob.box (List.map D.demote ls), Ob.dead]) := by
 exact (RoundRun.of_eval (sp := ⟨[0, 1, 6], [0, 1000002], []⟩) (n0 := 4) (ex := Ex.norm) (t' := [D.slc (2 : Nat) (3 : Nat) r, .int .i64 i, uu, uu, uu, uu, .int .i64 (IntKind.wrap IntKind.i64 ((↑b : Int) + 1)), uu, uu, uu, uu, uu, uu, uu, uu, uu, uu, uu, uu, uu, uu, uu, uu, uu, uu, uu, uu, uu, uu, uu]) (s' := [Ob.box [.int .i64 ctx, .lst .no 9 l], Ob.dead, Ob.box (List.map D.demote ls), Ob.dead]) mixed ([tC (by ((try simp only [List.length_append, List.length_cons, List.length_nil, List.length_set, List.length_replicate, sl2] at *); (try unfold big at *); omega) : (decide ((↑b : Int) < (↑r : Int))) = true), .tst (decide (0 ≤ (↑b : Int) ∧ (↑b : Int) < (↑r : Int))) true (by ((try simp only [List.length_append, List.length_cons, List.length_nil, List.length_set, List.length_replicate, sl2] at *); (try unfold big at *); omega)), .get _ _ _ hfr] ++ List.replicate 7 (tC (eT (by ((try simp only [List.length_append, List.length_cons, List.length_nil, List.length_set, List.length_replicate, sl2] at *); (try unfold big at *); omega) : (decide (i ≥ fr)) = false))) ++ [tC (by ((try simp only [List.length_append, List.length_cons, List.length_nil, List.length_set, List.length_replicate, sl2] at *); (try unfold big at *); omega) : (decide (i ≥ fr)) = false), tF, .cl ls (by first | exact clAll rfl | exact hls)]) (by kernel_rfl)).cast (by rfl) (by rfl)
theorem of_high (l : List D) (ctx : Int) (r b : Nat) (ls : List D) (i : Int) (b1 : b < r) (r1 : r ≤ 64) (hll : ls.length = r * 3) (hls : ∀ c ∈ ls, c.clean = true) (fr to : Int) (hfr : ls[b * 3]? = some (.int .i64 fr)) (hto : ls[b * 3 + 1]? = some (.int .i64 to)) (h1 : fr ≤ i) (h2 : to ≤ i)  : RoundRun Try.prog (loopB Try.f71 0) ⟨[0, 1, 6], [0, 1000002], []⟩ 4 [D.slc (2 : Nat) (3 : Nat) r, .int .i64 i, uu, uu, uu, uu, .int .i64 (↑b : Int), uu, uu, uu, uu, uu, uu, uu, uu, uu, uu, uu, uu, uu, uu, uu, uu, uu, uu, uu, uu, uu, uu, uu] [Ob.box [.int .i64 ctx, .lst .no 9 l], Ob.dead, Ob.box ls, Ob.dead] (Ex.norm) [D.slc (2 : Nat) (3 : Nat) r, .int .i64 i, uu, uu, uu, uu, .int .i64 (IntKind.wrap IntKind.i64 ((↑b : Int) + 1)), uu, uu, uu, uu, uu, uu, uu, uu, uu, uu, uu, uu, uu, uu, uu, uu, uu, uu, uu, uu, uu, uu, uu] ([Ob.box [.int .i64 ctx, .lst .no 9 l], Ob.dead, Ob.box (List.map D.demote ls), Ob.dead]) := by
 exact (RoundRun.of_eval (sp := ⟨[0, 1, 6], [0, 1000002], []⟩) (n0 := 4) (ex := Ex.norm) (t' := [D.slc (2 : Nat) (3 : Nat) r, .int .i64 i, uu, uu, uu, uu, .int .i64 (IntKind.wrap IntKind.i64 ((↑b : Int) + 1)), uu, uu, uu, uu, uu, uu, uu, uu, uu, uu, uu, uu, uu, uu, uu, uu, uu, uu, uu, uu, uu, uu, uu]) (s' := [Ob.box [.int .i64 ctx, .lst .no 9 l], Ob.dead, Ob.box (List.map D.demote ls), Ob.dead]) mixed ([tC (by ((try simp only [List.length_append, List.length_cons, List.length_nil, List.length_set, List.length_replicate, sl2] at *); (try unfold big at *); omega) : (decide ((↑b : Int) < (↑r : Int))) = true), .tst (decide (0 ≤ (↑b : Int) ∧ (↑b : Int) < (↑r : Int))) true (by ((try simp only [List.length_append, List.length_cons, List.length_nil, List.length_set, List.length_replicate, sl2] at *); (try unfold big at *); omega)), .get _ _ _ hfr] ++ List.replicate 4 (tC (eT (by ((try simp only [List.length_append, List.length_cons, List.length_nil, List.length_set, List.length_replicate, sl2] at *); (try unfold big at *); omega) : (decide (i ≥ fr)) = true))) ++ [.tst (decide (0 ≤ (↑b : Int) ∧ (↑b : Int) < (↑r : Int))) true (by ((try simp only [List.length_append, List.length_cons, List.length_nil, List.length_set, List.length_replicate, sl2] at *); (try unfold big at *); omega)), tC (eT (by ((try simp only [List.length_append, List.length_cons, List.length_nil, List.length_set, List.length_replicate, sl2] at *); (try unfold big at *); omega) : (decide (i ≥ fr)) = true)), tC (eT (by ((try simp only [List.length_append, List.length_cons, List.length_nil, List.length_set, List.length_replicate, sl2] at *); (try unfold big at *); omega) : (decide (i ≥ fr)) = true)), .get _ _ _ hto, tC (eT (by ((try simp only [List.length_append, List.length_cons, List.length_nil, List.length_set, List.length_replicate, sl2] at *); (try unfold big at *); omega) : (decide (i ≥ fr)) = true)), tC (by ((try simp only [List.length_append, List.length_cons, List.length_nil, List.length_set, List.length_replicate, sl2] at *); (try unfold big at *); omega) : (decide (i ≥ fr)) = true), tC (by ((try simp only [List.length_append, List.length_cons, List.length_nil, List.length_set, List.length_replicate, sl2] at *); (try unfold big at *); omega) : (decide (i < to)) = false), .cl ls (by first | exact clAll rfl | exact hls)]) (by kernel_rfl)).cast (by rfl) (by rfl)
end Go.Proofs.Ytcngafhpodeenaa

namespace Go.Proofs.Ytcngafhpodeenaa
open Go Go.Ev
set_option maxRecDepth 100000
theorem of_id {n0 : Nat} {c : Code} {t : List D} {s : List Ob} {ex : Ex} {t' : List D} {s' : List Ob} (h : LoopRun Try.prog n0 c t s ex t' s') : LoopRun Try.prog n0 c t s ex t' s' := h
abbrev ofT (r : Nat) (i b : Int) : List D := [.slc 2 3 r, .int .i64 i, .undef, .undef, .undef, .undef, .int .i64 b, .undef, .undef, .undef, .undef, .undef, .undef, .undef, .undef, .undef, .undef, .undef, .undef, .undef, .undef, .undef, .undef, .undef, .undef, .undef, .undef, .undef, .undef, .undef]
abbrev ofR (o : Int) : List D := [.undef, .undef, .undef, .undef, .int .i64 o, .bool true, .undef, .undef, .undef, .undef, .undef, .undef, .undef, .undef, .undef, .undef, .undef, .undef, .undef, .undef, .undef, .undef, .undef, .undef, .undef, .undef, .undef, .undef, .undef, .undef]
abbrev ofS (ctx : Int) (l : List InstS) (rs : List RowS) : List Ob := [.box [.int .i64 ctx, .lst .no 9 (isd l)], .dead, .box (rowsC rs), .dead]
theorem of_rounds (l : List InstS) (ctx : Int) (rs : List RowS) (h64 : rs.length ≤ 64) (i : Int) (o : Nat) (ho : o < rs.length) (hin : ∀ j r, rs[j]? = some r → ((r.fr ≤ i ∧ i < r.to) ↔ j = o)) : ∀ (m b : Nat), b + m = o →
  Rounds Try.prog (loopB Try.f71 0) 4 (ofT rs.length i b) (ofS ctx l rs) .ret (ofR o) (ofS ctx l rs)
 | 0, b, hb => by
  obtain rfl : b = o := by omega
  have hg : rs[b]? = some rs[b] := List.getElem?_eq_getElem ho
  obtain ⟨h1, h2⟩ := (hin b _ hg).2 rfl
  have := of_hit (isd l) ctx rs.length b (rowsC rs) i ho h64 (rowsC_len _) (rowsC_clean _) _ _ (rowsC_get0 hg) (rowsC_get1 hg) h1 h2
  rw [rowsC_demote] at this
  exact Rounds.last this (fun h => by cases h)
 | m + 1, b, hb => by
  have ih := of_rounds l ctx rs h64 i o ho hin m (b + 1) (by omega)
  have hlt : b < rs.length := by omega
  have hg : rs[b]? = some rs[b] := List.getElem?_eq_getElem hlt
  have hw : IntKind.i64.wrap ((b : Int) + 1) = ((b + 1 : Nat) : Int) := by rw [w_i64]; omega
  by_cases h1 : i < rs[b].fr
  ·have := of_low (isd l) ctx rs.length b (rowsC rs) i hlt h64 (rowsC_len _) (rowsC_clean _) _ _ (rowsC_get0 hg) (rowsC_get1 hg) h1
   rw [rowsC_demote, hw] at this
   exact Rounds.more this ih
  ·by_cases h2 : i < rs[b].to
   ·have := (hin b _ hg).1 ⟨by omega, h2⟩
    omega
   ·have := of_high (isd l) ctx rs.length b (rowsC rs) i hlt h64 (rowsC_len _) (rowsC_clean _) _ _ (rowsC_get0 hg) (rowsC_get1 hg) (by omega) (by omega)
    rw [rowsC_demote, hw] at this
    exact Rounds.more this ih
theorem of_loop (l : List InstS) (hp : OkP l) (ctx : Int) (b : Nat) (i : Int) (i0 : 0 ≤ i) (i1 : i < l.length) : LoopRun Try.prog 4 (.loop (loopB Try.f71 0)) (ofT (cutP l l.length).length i 0) (ofS ctx l (nextP l (cutP l l.length) b)) .ret (ofR (blkOf l i)) (ofS ctx l (nextP l (cutP l l.length) b)) := by
 have h64 := hp.le
 obtain ⟨t, rfl⟩ : ∃ t : Nat, i = t := ⟨i.toNat, by omega⟩
 have ht : t < l.length := by omega
 have c := cutP_len l (t + 1)
 have c2 := c.2 (by omega)
 have m := cutP_mono l (l.length - (t + 1)) (t + 1)
 rw [show t + 1 + (l.length - (t + 1)) = l.length by omega] at m
 have hl : (nextP l (cutP l l.length) b).length = (cutP l l.length).length := nextP_len ..
 have hN : (cutP l l.length).length ≤ l.length := (cutP_len l l.length).1
 have := of_rounds l ctx (nextP l (cutP l l.length) b) (by omega) t ((cutP l (t + 1)).length - 1) (by omega) (fun j r hr => by
  obtain ⟨r0, h0, e1, e2, _, _⟩ := nextP_fr l _ b j r hr
  obtain ⟨i1, _⟩ := cutP_in l l.length j r0 h0
  rw [e1, e2, i1 t ht, blkOf_nat]
  omega) ((cutP l (t + 1)).length - 1) 0 (by omega)
 rw [hl] at this
 rw [blkOf_nat, show ((cutP l (t + 1)).length : Int) - 1 = (((cutP l (t + 1)).length - 1 : Nat) : Int) by omega]
 exact LoopRun.of_rounds (Nat.le_refl _) this
end Go.Proofs.Ytcngafhpodeenaa

namespace Go.Ev
open Go
def readsX (op dst src base : Int) : Int :=
  if op = 0 then sh8 src
  else if op = 1 ∨ op = 28 ∨ op = 29 then 0
  else if 20 ≤ op ∧ op ≤ 22 then or64 (sh8 dst) (sh8 1)
  else if op = 24 then or64 (or64 (sh8 dst) (sh8 0)) (sh8 2)
  else if op = 26 then sh8 base
  else if op = 27 then or64 (sh8 base) (sh8 src)
  else if op = 30 then 17
  else if op = 31 then 1477
  else if shapeM op = 1 ∨ shapeM op = 2 ∨ shapeM op = 6 then or64 (sh8 dst) (sh8 src)
  else sh8 dst
def writesX (op dst : Int) : Int :=
  if op = 7 ∨ op = 8 ∨ op = 14 ∨ op = 15 ∨ op = 27 ∨ op = 28 ∨ op = 29 then 0
  else if op = 24 then 5
  else if op = 30 then 16
  else if op = 31 then 2051
  else sh8 dst
def readsXX (op w dst src base disp imm cc : Int) : Int := if mayX op w dst src base disp imm cc then readsX op dst src base else 0
def writesXX (op w dst src base disp imm cc : Int) : Int := if mayX op w dst src base disp imm cc then writesX op dst else 0
end Go.Ev

namespace Go.Ev
open Go
def addC (w a b : Int) : Bool := decide (cutM (u64 (a + b)) w < cutM a w)
def addO (w a b : Int) : Bool := negM (and64u (xor64 a (u64 (a + b))) (xor64 b (u64 (a + b)))) w
def subC (w a b : Int) : Bool := decide (cutM a w < cutM b w)
def subO (w a b : Int) : Bool := negM (and64u (xor64 a b) (xor64 a (u64 (a - b)))) w
def holdM (cc : Int) (c z s o : Bool) : Bool :=
  if cc = 2 then c else if cc = 3 then !c else if cc = 4 then z else if cc = 5 then !z else if cc = 6 then (c || z) else if cc = 7 then !(c || z)
  else if cc = 12 then (s != o) else if cc = 13 then !(s != o) else if cc = 14 then (z || (s != o)) else !(z || (s != o))
def wrOp (op : Int) : Bool := !(decide (op = 7 ∨ op = 8 ∨ op = 14 ∨ op = 15 ∨ op = 27 ∨ op = 28 ∨ op = 29))
end Go.Ev

namespace Go.Ev
open Go
def inU (n : Int) : Prop := 0 ≤ n ∧ n ≤ 18446744073709551615
theorem cut_cut (v w : Int) : cutM (cutM v w) w = cutM v w := by
 unfold cutM
 split
 ·omega
 ·split
  ·omega
  ·split
   ·omega
   ·rfl
def bitOf (w k : Int) : Int := IntKind.i64.wrap ((BitVec.ofInt 64 (w.fdiv (2 ^ (min k.toNat 64))) &&& BitVec.ofInt 64 1).toNat : Int)
def mayP (w dst src : Int) : Bool := longM w && regM dst && regM src
end Go.Ev

namespace Go.Ev
open Go
theorem reads_may {op w dst src base disp imm cc : Int} (hm : mayX op w dst src base disp imm cc = true) : readsXX op w dst src base disp imm cc = readsX op dst src base := by unfold readsXX; rw [if_pos hm]
theorem writes_may {op w dst src base disp imm cc : Int} (hm : mayX op w dst src base disp imm cc = true) : writesXX op w dst src base disp imm cc = writesX op dst := by unfold writesXX; rw [if_pos hm]
end Go.Ev

namespace Go.Ev
open Go
structure MachS where
  (q0 q1 q2 q3 q4 q5 q6 q7 q8 q9 q10 q11 q12 q13 q14 q15 : Int)
  (fk fc fz fs fo : Bool)
  (pc : Int)
deriving DecidableEq
def MachS.d (m : MachS) : D := .agg [.int .u64 m.q0, .int .u64 m.q1, .int .u64 m.q2, .int .u64 m.q3, .int .u64 m.q4, .int .u64 m.q5, .int .u64 m.q6, .int .u64 m.q7, .int .u64 m.q8, .int .u64 m.q9, .int .u64 m.q10, .int .u64 m.q11, .int .u64 m.q12, .int .u64 m.q13, .int .u64 m.q14, .int .u64 m.q15, .bool m.fk, .bool m.fc, .bool m.fz, .bool m.fs, .bool m.fo, .int .u64 m.pc]
def MachS.rl (m : MachS) : List Int := [m.q0, m.q1, m.q2, m.q3, m.q4, m.q5, m.q6, m.q7, m.q8, m.q9, m.q10, m.q11, m.q12, m.q13, m.q14, m.q15]
def MachS.put (m : MachS) (i v : Int) : MachS := ⟨st 0 i v m.q0, st 1 i v m.q1, st 2 i v m.q2, st 3 i v m.q3, st 4 i v m.q4, st 5 i v m.q5, st 6 i v m.q6, st 7 i v m.q7, st 8 i v m.q8, st 9 i v m.q9, st 10 i v m.q10, st 11 i v m.q11, st 12 i v m.q12, st 13 i v m.q13, st 14 i v m.q14, st 15 i v m.q15, m.fk, m.fc, m.fz, m.fs, m.fo, m.pc⟩
def MachS.flags (m : MachS) (k c z s o : Bool) : MachS := ⟨m.q0, m.q1, m.q2, m.q3, m.q4, m.q5, m.q6, m.q7, m.q8, m.q9, m.q10, m.q11, m.q12, m.q13, m.q14, m.q15, k, c, z, s, o, m.pc⟩
def MachS.at (m : MachS) (v : Int) : MachS := ⟨m.q0, m.q1, m.q2, m.q3, m.q4, m.q5, m.q6, m.q7, m.q8, m.q9, m.q10, m.q11, m.q12, m.q13, m.q14, m.q15, m.fk, m.fc, m.fz, m.fs, m.fo, v⟩
def MachS.zero : MachS := ⟨0, 0, 0, 0, 0, 0, 0, 0, 0, 0, 0, 0, 0, 0, 0, 0, false, false, false, false, false, 0⟩
def XS.len (x : XS) : Int := lenX x.op x.w x.dst x.src x.base x.disp x.imm x.cc
def XS.may (x : XS) : Bool := mayX x.op x.w x.dst x.src x.base x.disp x.imm x.cc
def sopM (op : Int) : Option (Int × Int) :=
  match op with
  | 2 => some (0, 0)
  | 3 => some (4, 0)
  | 4 => some (5, 0)
  | 5 => some (1, 0)
  | 6 => some (10, 0)
  | 7 => some (1, 0)
  | 8 => some (5, 0)
  | 9 => some (0, 1)
  | 10 => some (4, 1)
  | 11 => some (5, 1)
  | 12 => some (1, 1)
  | 13 => some (10, 1)
  | 14 => some (1, 1)
  | 15 => some (5, 1)
  | 16 => some (2, 0)
  | 17 => some (6, 1)
  | 18 => some (7, 1)
  | 19 => some (12, 1)
  | 20 => some (6, 2)
  | 21 => some (7, 2)
  | 22 => some (12, 2)
  | 23 => some (8, 0)
  | _ => none
def secS (m : MachS) (x : XS) (k : Int) : Int := match k with
  | 2 => m.q1
  | 1 => u64 x.imm
  | _ => rg m.rl x.src
def flagS (m : MachS) (s w a b v : Int) : MachS := match s with
  | 0 => m.flags true (addC w a b) (cutM (u64 (a + b)) w == 0) (negM (u64 (a + b)) w) (addO w a b)
  | 1 => m.flags true (subC w a b) (cutM (u64 (a - b)) w == 0) (negM (u64 (a - b)) w) (subO w a b)
  | 8 => m.flags true (subC w 0 a) (cutM (u64 (0 - a)) w == 0) (negM (u64 (0 - a)) w) (subO w 0 a)
  | 4 => m.flags true false (cutM v w == 0) (negM v w) false
  | 5 => m.flags true false (cutM v w == 0) (negM v w) false
  | 10 => m.flags true false (cutM v w == 0) (negM v w) false
  | _ => m.flags false false false false false
def keepOp (op : Int) : Bool := match op with
  | 7 => true
  | 8 => true
  | 14 => true
  | 15 => true
  | _ => false
def doS (m : MachS) (x : XS) (ld : Int) : MachS × Int := match sopM x.op with
  | some (s, k) =>
    let a := rg m.rl x.dst
    let b := secS m x k
    let v := doM s x.w a b
    match keepOp x.op with
    | true => (flagS m s x.w a b v, 0)
    | false => ((flagS m s x.w a b v).put x.dst v, 0)
  | none => match x.op with
    | 0 => (m.put x.dst (cutM (rg m.rl x.src) x.w), 0)
    | 1 => (m.put x.dst (cutM (u64 x.imm) x.w), 0)
    | 24 => match cutM (rg m.rl x.dst) x.w == 0 with
      | true => (.zero, 20)
      | false => match cutM m.q2 x.w == 0 with
        | false => (.zero, 20)
        | true => (({ m with q0 := u64 ((cutM m.q0 x.w).tdiv (cutM (rg m.rl x.dst) x.w)), q2 := (cutM m.q0 x.w).tmod (cutM (rg m.rl x.dst) x.w) }).flags false false false false false, 0)
    | 25 => match m.fk with
      | false => (.zero, 20)
      | true => (m.put x.dst (cutM (if holdM x.cc m.fc m.fz m.fs m.fo then rg m.rl x.src else rg m.rl x.dst) x.w), 0)
    | 26 => (m.put x.dst (cutM ld x.w), 0)
    | 28 => (m.at (u64 (m.pc + u64 x.imm)), 0)
    | 29 => match m.fk with
      | false => (.zero, 20)
      | true => (m.at (if holdM x.cc m.fc m.fz m.fs m.fo then u64 (m.pc + u64 x.imm) else m.pc), 0)
    | 30 => (({ m with q4 := u64 (m.q4 + 8) }).at ld, 0)
    | 31 => ({ m with q0 := ld, q1 := 0, q11 := 0 }, 0)
    | _ => (m, 0)
def execS (m : MachS) (x : XS) (ld : Int) : MachS × Int := match x.may with
  | false => (.zero, 2)
  | true => doS (m.at (u64 (m.pc + u64 x.len))) x ld
def execM (m : MachS) (x : XS) (ld : Int) : MachS := (execS m x ld).1
def execE (m : MachS) (x : XS) (ld : Int) : Int := (execS m x ld).2
def pcX (m : MachS) (op w dst src base disp imm cc : Int) : Int := u64 (m.pc + u64 (lenX op w dst src base disp imm cc))
def xT (op w dst src base disp imm cc ld : Int) : List D := [.int .i8 op, .int .i8 w, .int .i8 dst, .int .i8 src, .int .i8 base, .int .i64 disp, .int .i64 imm, .int .i8 cc, .int .u64 ld]
def fT (m : MachS) (p : Int) (tl : List D) : List D := .bool m.fk :: .bool m.fc :: .bool m.fz :: .bool m.fs :: .bool m.fo :: .int .u64 p :: tl
def zC : List D := [.int .u64 0, .int .u64 0, .int .u64 0, .int .u64 0, .int .u64 0, .int .u64 0, .int .u64 0, .int .u64 0, .int .u64 0, .int .u64 0, .int .u64 0, .int .u64 0, .int .u64 0, .int .u64 0, .int .u64 0, .int .u64 0, .bool false, .bool false, .bool false, .bool false, .bool false, .int .u64 0]
def MachS.cw (m : MachS) (p : Int) (tl : List D) : List D := .int .u64 m.q0 :: .int .u64 m.q1 :: .int .u64 m.q2 :: .int .u64 m.q3 :: .int .u64 m.q4 :: .int .u64 m.q5 :: .int .u64 m.q6 :: .int .u64 m.q7 :: .int .u64 m.q8 :: .int .u64 m.q9 :: .int .u64 m.q10 :: .int .u64 m.q11 :: .int .u64 m.q12 :: .int .u64 m.q13 :: .int .u64 m.q14 :: .int .u64 m.q15 :: .bool m.fk :: .bool m.fc :: .bool m.fz :: .bool m.fs :: .bool m.fo :: .int .u64 p :: tl
def addrS (m : MachS) (x : XS) : Int × Int × Bool :=
  if x.may = true ∧ (x.op = 26 ∨ x.op = 27) then (u64 (rg m.rl x.base + u64 x.disp), x.w / 8, true)
  else if x.may = true ∧ x.op = 30 then (m.q4, 8, true)
  else (0, 0, false)
def storedS (m : MachS) (x : XS) : Int := if x.may = true ∧ x.op = 27 then cutM (rg m.rl x.src) x.w else 0
def numS (m : MachS) : Int × Bool := if 16 ≤ m.q0 then (0, false) else (IntKind.i64.wrap m.q0, true)
def numV (q : Int) : Int := if 16 ≤ q then 0 else IntKind.i64.wrap q
def numB (q : Int) : Bool := !decide (16 ≤ q)
def argsS (m : MachS) : List Int := if 16 ≤ m.q0 then [] else [m.q7, m.q6, m.q2, m.q10, m.q8].take (m.q0.toNat % 6)
def wD (l : List Int) : List D := l.map (fun x => .int .u64 x)
def toccM (cc : Int) : Int × Bool :=
  if cc = 0 then (4, true) else if cc = 1 then (5, true) else if cc = 2 then (7, true) else if cc = 3 then (3, true) else if cc = 4 then (2, true) else if cc = 5 then (6, true)
  else if cc = 6 then (15, true) else if cc = 7 then (13, true) else if cc = 8 then (12, true) else if cc = 9 then (14, true) else if cc = 10 then (5, true) else (0, false)
def ccM' (cc : Int) : Int × Bool :=
  if cc = 4 then (0, true) else if cc = 5 then (1, true) else if cc = 7 then (2, true) else if cc = 3 then (3, true) else if cc = 2 then (4, true) else if cc = 6 then (5, true)
  else if cc = 15 then (6, true) else if cc = 13 then (7, true) else if cc = 12 then (8, true) else if cc = 14 then (9, true) else (0, false)
end Go.Ev

namespace Go.Proofs.Ytcngafhpodeenaa
open Go Go.Ev
set_option maxRecDepth 100000
set_option maxHeartbeats 8000000
theorem tocc_0_ok  : Ret Try.prog 81 ([.int .i8 0]) (.tup [.int .i8 (toccM 0).1, .bool (toccM 0).2]) := by
 exact (Ret.of_eval (d := .tup [.int .i8 4, .bool true]) mixed Try.func81 (by kernel_rfl) [tT, tT, tF, tF, .inl, tT, .get ([.int .i8 4, .int .i8 5, .int .i8 7, .int .i8 3, .int .i8 2, .int .i8 6, .int .i8 15, .int .i8 13, .int .i8 12, .int .i8 14, .int .i8 5]) 0 (.int .i8 4) rfl] (by kernel_rfl)).to (by first | rfl | exact ⟨rfl, rfl, trivial⟩ | (simp [wk, wkL, toccM]; done))
theorem tocc_1_ok  : Ret Try.prog 81 ([.int .i8 1]) (.tup [.int .i8 (toccM 1).1, .bool (toccM 1).2]) := by
 exact (Ret.of_eval (d := .tup [.int .i8 5, .bool true]) mixed Try.func81 (by kernel_rfl) [tT, tT, tF, tF, .inl, tT, .get ([.int .i8 4, .int .i8 5, .int .i8 7, .int .i8 3, .int .i8 2, .int .i8 6, .int .i8 15, .int .i8 13, .int .i8 12, .int .i8 14, .int .i8 5]) 1 (.int .i8 5) rfl] (by kernel_rfl)).to (by first | rfl | exact ⟨rfl, rfl, trivial⟩ | (simp [wk, wkL, toccM]; done))
theorem tocc_2_ok  : Ret Try.prog 81 ([.int .i8 2]) (.tup [.int .i8 (toccM 2).1, .bool (toccM 2).2]) := by
 exact (Ret.of_eval (d := .tup [.int .i8 7, .bool true]) mixed Try.func81 (by kernel_rfl) [tT, tT, tF, tF, .inl, tT, .get ([.int .i8 4, .int .i8 5, .int .i8 7, .int .i8 3, .int .i8 2, .int .i8 6, .int .i8 15, .int .i8 13, .int .i8 12, .int .i8 14, .int .i8 5]) 2 (.int .i8 7) rfl] (by kernel_rfl)).to (by first | rfl | exact ⟨rfl, rfl, trivial⟩ | (simp [wk, wkL, toccM]; done))
theorem tocc_3_ok  : Ret Try.prog 81 ([.int .i8 3]) (.tup [.int .i8 (toccM 3).1, .bool (toccM 3).2]) := by
 exact (Ret.of_eval (d := .tup [.int .i8 3, .bool true]) mixed Try.func81 (by kernel_rfl) [tT, tT, tF, tF, .inl, tT, .get ([.int .i8 4, .int .i8 5, .int .i8 7, .int .i8 3, .int .i8 2, .int .i8 6, .int .i8 15, .int .i8 13, .int .i8 12, .int .i8 14, .int .i8 5]) 3 (.int .i8 3) rfl] (by kernel_rfl)).to (by first | rfl | exact ⟨rfl, rfl, trivial⟩ | (simp [wk, wkL, toccM]; done))
theorem tocc_4_ok  : Ret Try.prog 81 ([.int .i8 4]) (.tup [.int .i8 (toccM 4).1, .bool (toccM 4).2]) := by
 exact (Ret.of_eval (d := .tup [.int .i8 2, .bool true]) mixed Try.func81 (by kernel_rfl) [tT, tT, tF, tF, .inl, tT, .get ([.int .i8 4, .int .i8 5, .int .i8 7, .int .i8 3, .int .i8 2, .int .i8 6, .int .i8 15, .int .i8 13, .int .i8 12, .int .i8 14, .int .i8 5]) 4 (.int .i8 2) rfl] (by kernel_rfl)).to (by first | rfl | exact ⟨rfl, rfl, trivial⟩ | (simp [wk, wkL, toccM]; done))
theorem tocc_5_ok  : Ret Try.prog 81 ([.int .i8 5]) (.tup [.int .i8 (toccM 5).1, .bool (toccM 5).2]) := by
 exact (Ret.of_eval (d := .tup [.int .i8 6, .bool true]) mixed Try.func81 (by kernel_rfl) [tT, tT, tF, tF, .inl, tT, .get ([.int .i8 4, .int .i8 5, .int .i8 7, .int .i8 3, .int .i8 2, .int .i8 6, .int .i8 15, .int .i8 13, .int .i8 12, .int .i8 14, .int .i8 5]) 5 (.int .i8 6) rfl] (by kernel_rfl)).to (by first | rfl | exact ⟨rfl, rfl, trivial⟩ | (simp [wk, wkL, toccM]; done))
theorem tocc_6_ok  : Ret Try.prog 81 ([.int .i8 6]) (.tup [.int .i8 (toccM 6).1, .bool (toccM 6).2]) := by
 exact (Ret.of_eval (d := .tup [.int .i8 15, .bool true]) mixed Try.func81 (by kernel_rfl) [tT, tT, tF, tF, .inl, tT, .get ([.int .i8 4, .int .i8 5, .int .i8 7, .int .i8 3, .int .i8 2, .int .i8 6, .int .i8 15, .int .i8 13, .int .i8 12, .int .i8 14, .int .i8 5]) 6 (.int .i8 15) rfl] (by kernel_rfl)).to (by first | rfl | exact ⟨rfl, rfl, trivial⟩ | (simp [wk, wkL, toccM]; done))
theorem tocc_7_ok  : Ret Try.prog 81 ([.int .i8 7]) (.tup [.int .i8 (toccM 7).1, .bool (toccM 7).2]) := by
 exact (Ret.of_eval (d := .tup [.int .i8 13, .bool true]) mixed Try.func81 (by kernel_rfl) [tT, tT, tF, tF, .inl, tT, .get ([.int .i8 4, .int .i8 5, .int .i8 7, .int .i8 3, .int .i8 2, .int .i8 6, .int .i8 15, .int .i8 13, .int .i8 12, .int .i8 14, .int .i8 5]) 7 (.int .i8 13) rfl] (by kernel_rfl)).to (by first | rfl | exact ⟨rfl, rfl, trivial⟩ | (simp [wk, wkL, toccM]; done))
theorem tocc_8_ok  : Ret Try.prog 81 ([.int .i8 8]) (.tup [.int .i8 (toccM 8).1, .bool (toccM 8).2]) := by
 exact (Ret.of_eval (d := .tup [.int .i8 12, .bool true]) mixed Try.func81 (by kernel_rfl) [tT, tT, tF, tF, .inl, tT, .get ([.int .i8 4, .int .i8 5, .int .i8 7, .int .i8 3, .int .i8 2, .int .i8 6, .int .i8 15, .int .i8 13, .int .i8 12, .int .i8 14, .int .i8 5]) 8 (.int .i8 12) rfl] (by kernel_rfl)).to (by first | rfl | exact ⟨rfl, rfl, trivial⟩ | (simp [wk, wkL, toccM]; done))
theorem tocc_9_ok  : Ret Try.prog 81 ([.int .i8 9]) (.tup [.int .i8 (toccM 9).1, .bool (toccM 9).2]) := by
 exact (Ret.of_eval (d := .tup [.int .i8 14, .bool true]) mixed Try.func81 (by kernel_rfl) [tT, tT, tF, tF, .inl, tT, .get ([.int .i8 4, .int .i8 5, .int .i8 7, .int .i8 3, .int .i8 2, .int .i8 6, .int .i8 15, .int .i8 13, .int .i8 12, .int .i8 14, .int .i8 5]) 9 (.int .i8 14) rfl] (by kernel_rfl)).to (by first | rfl | exact ⟨rfl, rfl, trivial⟩ | (simp [wk, wkL, toccM]; done))
theorem tocc_10_ok  : Ret Try.prog 81 ([.int .i8 10]) (.tup [.int .i8 (toccM 10).1, .bool (toccM 10).2]) := by
 exact (Ret.of_eval (d := .tup [.int .i8 5, .bool true]) mixed Try.func81 (by kernel_rfl) [tT, tT, tF, tF, .inl, tT, .get ([.int .i8 4, .int .i8 5, .int .i8 7, .int .i8 3, .int .i8 2, .int .i8 6, .int .i8 15, .int .i8 13, .int .i8 12, .int .i8 14, .int .i8 5]) 10 (.int .i8 5) rfl] (by kernel_rfl)).to (by first | rfl | exact ⟨rfl, rfl, trivial⟩ | (simp [wk, wkL, toccM]; done))
end Go.Proofs.Ytcngafhpodeenaa

namespace Go.Proofs.Ytcngafhpodeenaa
open Go Go.Ev
theorem cc11 {cc : Int} (h0 : 0 ≤ cc) (h1 : cc ≤ 10) : cc = 0 ∨ cc = 1 ∨ cc = 2 ∨ cc = 3 ∨ cc = 4 ∨ cc = 5 ∨ cc = 6 ∨ cc = 7 ∨ cc = 8 ∨ cc = 9 ∨ cc = 10 := by omega
theorem tocc_in_ok (cc : Int) (h0 : 0 ≤ cc) (h1 : cc ≤ 10) : Ret Try.prog 81 [.int .i8 cc] (.tup [.int .i8 (toccM cc).1, .bool (toccM cc).2]) := by
 rcases cc11 h0 h1 with rfl | rfl | rfl | rfl | rfl | rfl | rfl | rfl | rfl | rfl | rfl
 ·exact tocc_0_ok
 ·exact tocc_1_ok
 ·exact tocc_2_ok
 ·exact tocc_3_ok
 ·exact tocc_4_ok
 ·exact tocc_5_ok
 ·exact tocc_6_ok
 ·exact tocc_7_ok
 ·exact tocc_8_ok
 ·exact tocc_9_ok
 ·exact tocc_10_ok
end Go.Proofs.Ytcngafhpodeenaa

namespace Go.Proofs.Ytcngafhpodeenaa
open Go Go.Ev
set_option maxRecDepth 100000
set_option maxHeartbeats 8000000
theorem l_take_ok (phys reg : Int) : Ret Try.prog 78 ([.int .i8 phys, .int .i8 reg]) ((irD 1 0 0 0 0 0 0 0 0 reg phys 0 0)) := by
 exact (o78 (d := (irD 1 0 0 0 0 0 0 0 0 reg phys 0 0)) [] (by kernel_rfl)).to (by simp [wk, wkL, wkO])
theorem l_give_ok (reg phys : Int) : Ret Try.prog 143 ([.int .i8 reg, .int .i8 phys]) ((irD 2 0 0 0 0 0 0 0 0 reg phys 0 0)) := by
 exact (o143 (d := (irD 2 0 0 0 0 0 0 0 0 reg phys 0 0)) [] (by kernel_rfl)).to (by simp [wk, wkL, wkO])
theorem l_two_ok (op w dst src : Int) : Ret Try.prog 80 ([.int .i8 op, .int .i8 w, .int .i8 dst, .int .i8 src]) ((irD 0 op w dst src 0 0 0 0 0 0 0 0)) := by
 exact (o80 (d := (irD 0 op w dst src 0 0 0 0 0 0 0 0)) [] (by kernel_rfl)).to (by simp [wk, wkL, wkO])
theorem l_one_ok (op w dst : Int) : Ret Try.prog 175 ([.int .i8 op, .int .i8 w, .int .i8 dst]) ((irD 0 op w dst 0 0 0 0 0 0 0 0 0)) := by
 have c0 := @l_two_ok op w dst 0
 exact (o175 (d := (irD 0 op w dst 0 0 0 0 0 0 0 0 0)) [.ret _ _ _ c0] (by kernel_rfl)).to (by simp [wk, wkL, wkO])
theorem l_num_ok (op w dst n : Int) : Ret Try.prog 79 ([.int .i8 op, .int .i8 w, .int .i8 dst, .int .i64 n]) ((irD 0 op w dst 0 0 0 n 0 0 0 0 0)) := by
 exact (o79 (d := (irD 0 op w dst 0 0 0 n 0 0 0 0 0)) [] (by kernel_rfl)).to (by simp [wk, wkL, wkO])
theorem l_goes_ok (n : Int) : Ret Try.prog 36 ([.int .i64 n]) ((irD 5 0 0 0 0 0 0 0 0 0 0 0 n)) := by
 exact (o36 (d := (irD 5 0 0 0 0 0 0 0 0 0 0 0 n)) [] (by kernel_rfl)).to (by simp [wk, wkL, wkO])
theorem l_steps_ok (l : List D) : Ret Try.prog 77 ([.lst .tight 13 l]) (.lst .tight 13 l) := by
 exact (o77 (d := .lst .tight 13 l) [] (by kernel_rfl)).to (by simp [wk, wkL, wkO])
theorem l_choose_ok (w dst : Int) : Ret Try.prog 191 ([.int .i8 w, .int .i8 dst]) (.lst .tight 13 [(irD 0 8 w 1 1 0 0 0 0 0 0 0 0), (irD 0 25 w dst 11 0 0 0 4 0 0 0 0)]) := by
 have c0 := @l_two_ok 25 w dst 11
 have c1 := @l_two_ok 8 w 1 1
 have c2 := @l_steps_ok ([(irD 0 8 w 1 1 0 0 0 0 0 0 0 0), (irD 0 25 w dst 11 0 0 0 4 0 0 0 0)])
 exact (o191 (d := .lst .tight 13 [(irD 0 8 w 1 1 0 0 0 0 0 0 0 0), (irD 0 25 w dst 11 0 0 0 4 0 0 0 0)]) [.ret _ _ _ c0, .ret _ _ _ c1, .ret _ _ _ c2] (by kernel_rfl)).to (by simp [wk, wkL, wkO])
theorem l_short32_ok (kind op size : Int) (byReg : Bool) (dst src off imm : Int) : Ret Try.prog 176 ([instD kind op 32 size byReg dst src off imm]) (.lst .tight 13 [(irD 0 0 32 0 0 0 0 0 0 0 0 0 0)]) := by
 have c0 := @l_two_ok 0 32 0 0
 have c1 := @l_steps_ok ([(irD 0 0 32 0 0 0 0 0 0 0 0 0 0)])
 exact (o176 (d := .lst .tight 13 [(irD 0 0 32 0 0 0 0 0 0 0 0 0 0)]) [tT, .ret _ _ _ c0, .ret _ _ _ c1] (by kernel_rfl)).to (by simp [wk, wkL, wkO])
theorem l_short64_ok (kind op size : Int) (byReg : Bool) (dst src off imm : Int) : Ret Try.prog 176 ([instD kind op 64 size byReg dst src off imm]) (.lst .tight 0 []) := by
 exact (o176 (d := .lst .tight 0 []) [tF] (by kernel_rfl)).to (by simp [wk, wkL, wkO])
end Go.Proofs.Ytcngafhpodeenaa

namespace Go.Proofs.Ytcngafhpodeenaa
open Go Go.Ev
set_option maxRecDepth 100000
set_option maxHeartbeats 8000000
end Go.Proofs.Ytcngafhpodeenaa

namespace Go.Ev
open Go
theorem may_forms {kind op width size : Int} {byReg : Bool} {dst src off imm : Int} (h : mayM kind op width size byReg dst src off imm = true) :
    (0 ≤ dst ∧ dst ≤ 10 ∧ 0 ≤ src ∧ src ≤ 10 ∧ -32768 ≤ off ∧ off ≤ 32767 ∧ -2147483648 ≤ imm ∧ imm ≤ 2147483647) ∧
    ((kind = 0 ∧ size = 0 ∧ off = 0 ∧ dst < 10 ∧ (op = 8 → byReg = false) ∧ (op = 0 ∨ op = 1 ∨ op = 2 ∨ op = 3 ∨ op = 4 ∨ op = 5 ∨ op = 6 ∨ op = 7 ∨ op = 8 ∨ op = 9 ∨ op = 10 ∨ op = 11 ∨ op = 12) ∧ (width = 32 ∨ width = 64) ∧ (byReg = true → imm = 0) ∧ (byReg = false → src = 0)) ∨
     (kind = 1 ∧ op = 0 ∧ width = 0 ∧ byReg = false ∧ imm = 0 ∧ dst < 10 ∧ (size = 1 ∨ size = 2 ∨ size = 4 ∨ size = 8)) ∨
     (kind = 2 ∧ op = 0 ∧ width = 0 ∧ byReg = false ∧ imm = 0 ∧ (size = 1 ∨ size = 2 ∨ size = 4 ∨ size = 8)) ∨
     (kind = 3 ∧ width = 0 ∧ size = 0 ∧ (op = 0 ∨ op = 1 ∨ op = 2 ∨ op = 3 ∨ op = 4 ∨ op = 5 ∨ op = 6 ∨ op = 7 ∨ op = 8 ∨ op = 9 ∨ op = 10) ∧ (byReg = true → imm = 0) ∧ (byReg = false → src = 0)) ∨
     (kind = 4 ∧ op = 0 ∧ width = 0 ∧ size = 0 ∧ byReg = false ∧ dst = 0 ∧ src = 0 ∧ imm = 0) ∨
     (kind = 5 ∧ op = 0 ∧ width = 0 ∧ size = 0 ∧ byReg = false ∧ dst = 0 ∧ src = 0 ∧ off = 0 ∧ 0 ≤ imm ∧ imm ≤ 15) ∨
     (kind = 6 ∧ op = 0 ∧ width = 0 ∧ size = 0 ∧ byReg = false ∧ dst = 0 ∧ src = 0 ∧ off = 0 ∧ imm = 0)) := by
  unfold mayM mayRange at h
  rw [Bool.and_eq_true, decide_eq_true_eq] at h
  refine ⟨h.1, ?_⟩
  have h2 := h.2
  clear h
  unfold mayKind sizedM at h2
  split at h2
  · refine .inl ?_
    cases byReg <;> simp at h2 ⊢ <;> omega
  · split at h2
    · simp at h2; refine .inr (.inl ?_); simp [h2]; omega
    · split at h2
      · simp at h2; refine .inr (.inr (.inl ?_)); simp [h2]; omega
      · split at h2
        · refine .inr (.inr (.inr (.inl ?_)))
          cases byReg <;> simp at h2 ⊢ <;> omega
        · split at h2
          · simp at h2; refine .inr (.inr (.inr (.inr (.inl ?_)))); simp [h2]; omega
          · split at h2
            · simp at h2; refine .inr (.inr (.inr (.inr (.inr (.inl ?_))))); simp [h2]; omega
            · split at h2
              · simp at h2; refine .inr (.inr (.inr (.inr (.inr (.inr ?_))))); simp [h2]; omega
              · cases h2
def oneOK (kind op width size : Int) (byReg : Bool) (dst src off imm : Int) : Bool := mayM kind op width size byReg dst src off imm && (!(kind == 3) && !(kind == 4))
def oneL (kind op width size : Int) (byReg : Bool) (dst src off imm : Int) : List D := if oneOK kind op width size byReg dst src off imm then stepsM kind op width size byReg dst src off imm else []
def oneE (kind op width size : Int) (byReg : Bool) (dst src off imm : Int) : Int := if oneOK kind op width size byReg dst src off imm then 0 else 2
end Go.Ev
namespace Go.Ev
open Go
def irOf : D → IrS
  | .agg [.int _ a, .int _ b, .int _ c, .int _ d, .int _ e, .int _ f, .int _ g, .int _ h, .int _ i, .int _ j, .int _ k, .int _ l, .int _ m] => ⟨a, b, c, d, e, f, g, h, i, j, k, l, m⟩
  | _ => ⟨0, 0, 0, 0, 0, 0, 0, 0, 0, 0, 0, 0, 0⟩
def AllIr (l : List D) : Prop := (l.map irOf).map IrS.d = l
theorem allIr_nil : AllIr [] := rfl
theorem allIr_cons {kind op w dst src base disp imm cc reg phys num to : Int} {l : List D} (h : AllIr l) : AllIr (irD kind op w dst src base disp imm cc reg phys num to :: l) := by
 unfold AllIr at h ⊢
 rw [List.map_cons, List.map_cons, h]
 rfl
theorem allIr_app {l m : List D} (h : AllIr l) (k : AllIr m) : AllIr (l ++ m) := by
 unfold AllIr at h k ⊢
 rw [List.map_append, List.map_append, h, k]
theorem steps_ir (kind op width size : Int) (byReg : Bool) (dst src off imm : Int) : AllIr (stepsM kind op width size byReg dst src off imm) := by
 unfold stepsM aluM
 repeat' split
 all_goals first
  | rfl
  | (repeat' first | exact allIr_nil | apply allIr_app | apply allIr_cons)
theorem steps_len (kind op width size : Int) (byReg : Bool) (dst src off imm : Int) : (stepsM kind op width size byReg dst src off imm).length ≤ 12 := by
 unfold stepsM aluM
 repeat' split
 all_goals (simp)
end Go.Ev

namespace Go.Ev
open Go
abbrev gotoD (n : Int) : D := irD 5 0 0 0 0 0 0 0 0 0 0 0 n
def cmpM (op : Int) (byReg : Bool) (dst src imm : Int) : List D := takeD 0 dst :: (if byReg = true then [takeD 1 src, two (if op = 10 then 8 else 7) 64 0 1] else [num (if op = 10 then 15 else 14) 64 0 imm])
def jmpM (op : Int) (byReg : Bool) (dst src imm a b : Int) : List D := cmpM op byReg dst src imm ++ [irD 4 29 0 0 0 0 0 0 (toccM op).1 0 0 0 a, gotoD b]
def InstS.steps (x : InstS) : List D := stepsM x.kind x.op x.width x.size x.byReg x.dst x.src x.off x.imm
def insM (x : InstS) (ns : List Int) : List D := if x.kind = 3 then jmpM x.op x.byReg x.dst x.src x.imm (ns.getD 0 0) (ns.getD 1 0) else if x.kind = 4 then [gotoD (ns.getD 0 0)] else x.steps
def accM (l : List InstS) (f : Nat) (ns : List Int) : Nat → List D
  | 0 => []
  | k + 1 => match l[f + k]? with
    | some x => accM l f ns k ++ insM x ns
    | none => accM l f ns k
def tailM (l : List InstS) (r : RowS) : List D := if stopK (kindAt l (r.to.toNat - 1)) = true then [] else [gotoD (r.nx.getD 0 0)]
def rowM (l : List InstS) (r : RowS) : List D := accM l r.fr.toNat r.nx (r.to.toNat - r.fr.toNat) ++ tailM l r
abbrev blkR (l : List InstS) : List RowS := nextP l (cutP l l.length) (cutP l l.length).length
def lowM (l : List InstS) : List D := (blkR l).map fun r => .lst .no 13 (rowM l r)
theorem insM_len (x : InstS) (ns : List Int) : (insM x ns).length ≤ 12 := by
 unfold insM jmpM cmpM
 split
 ·split <;> simp
 ·split
  ·simp
  ·exact steps_len _ _ _ _ _ _ _ _ _
theorem accM_len (l : List InstS) (f : Nat) (ns : List Int) : ∀ k, (accM l f ns k).length ≤ 12 * k
 | 0 => by simp [accM]
 | k + 1 => by
  have ih := accM_len l f ns k
  rw [accM]
  split
  ·rename_i x _
   have := insM_len x ns
   simp only [List.length_append]; omega
  ·omega
theorem insM_ir (x : InstS) (ns : List Int) : AllIr (insM x ns) := by
 unfold insM jmpM cmpM
 split
 ·split <;> (repeat' first | exact allIr_nil | apply allIr_app | apply allIr_cons)
 ·split
  ·exact allIr_cons allIr_nil
  ·exact steps_ir _ _ _ _ _ _ _ _ _
theorem accM_ir (l : List InstS) (f : Nat) (ns : List Int) : ∀ k, AllIr (accM l f ns k)
 | 0 => allIr_nil
 | k + 1 => by
  rw [accM]
  split
  ·exact allIr_app (accM_ir l f ns k) (insM_ir _ _)
  ·exact accM_ir l f ns k
theorem rowM_ir (l : List InstS) (r : RowS) : AllIr (rowM l r) := by
 unfold rowM tailM
 refine allIr_app (accM_ir ..) ?_
 split
 ·exact allIr_nil
 ·exact allIr_cons allIr_nil
theorem rowM_len (l : List InstS) (r : RowS) : (rowM l r).length ≤ 12 * (r.to.toNat - r.fr.toNat) + 1 := by
 have := accM_len l r.fr.toNat r.nx (r.to.toNat - r.fr.toNat)
 unfold rowM tailM
 split <;> simp only [List.length_append, List.length_cons, List.length_nil] <;> omega
structure RowOk (l : List InstS) (b : Nat) (r : RowS) : Prop where
  f0 : 0 ≤ r.fr
  ft : r.fr < r.to
  tl : r.to ≤ l.length
  nx : r.nx = nxR l b r
  mid : ∀ t : Nat, r.fr ≤ t → (t : Int) + 1 < r.to → stopK (kindAt l t) = false
theorem rows_ok {l : List InstS} {b : Nat} {r : RowS} (h : (blkR l)[b]? = some r) : RowOk l b r := by
 obtain ⟨r0, h0, h1, h2, h3, h4⟩ := nextP_fr l _ _ b r h
 have hb : b < (cutP l l.length).length := by
  rcases Nat.lt_or_ge b (cutP l l.length).length with q | q
  ·exact q
  ·rw [List.getElem?_eq_none q] at h0; cases h0
 obtain ⟨i1, i2, i3, i4, i5⟩ := cutP_in l l.length b r0 h0
 refine ⟨by omega, by omega, by omega, ?_, fun t t1 t2 => ?_⟩
 ·rw [h3 hb]
  unfold nxR
  rw [h2]
 ·rw [Bool.eq_false_iff]
  intro hs
  have a1 := (i1 t (by omega)).1 ⟨by omega, by omega⟩
  have a2 := (i1 (t + 1) (by omega)).1 ⟨by push_cast; omega, by push_cast; omega⟩
  have hbg : begM l ((t + 1 : Nat) : Int) = true := by
   unfold begM
   rw [begU_iff]
   refine .inr ⟨t, by omega, ?_⟩
   unfold kindAt at hs
   unfold begS
   have hlt : t < l.length := by omega
   rw [List.getElem?_eq_getElem hlt] at hs ⊢
   simp only at hs ⊢
   rw [hs]
   simp
  have e : cutP l (t + 1 + 1) = cutP l (t + 1) ++ [⟨(t + 1 : Nat), ((t + 1 : Nat) : Int) + 1, []⟩] := by rw [cutP, if_pos hbg]
  rw [blkOf_nat] at a1 a2
  rw [e] at a2
  simp only [List.length_append, List.length_cons, List.length_nil] at a2
  omega
theorem row_last {l : List InstS} {b : Nat} {r : RowS} (h : RowOk l b r) {t : Nat} (h1 : r.fr ≤ t) (h2 : (t : Int) < r.to) (hs : stopK (kindAt l t) = true) : (t : Int) + 1 = r.to := by
 rcases Int.lt_trichotomy ((t : Int) + 1) r.to with q | q | q
 ·rw [h.mid t h1 q] at hs; cases hs
 ·exact q
 ·omega
theorem row_nx {l : List InstS} {b : Nat} {r : RowS} (h : RowOk l b r) {t : Nat} (ht : (t : Int) + 1 = r.to) (hlt : t < l.length) : r.nx = nxK l b t l[t] := by
 rw [h.nx]
 unfold nxR
 rw [show (r.to - 1).toNat = t by omega, List.getElem?_eq_getElem hlt]
theorem row_jump {l : List InstS} (hp : OkP l) {b : Nat} {r : RowS} (h : RowOk l b r) {t : Nat} (h1 : r.fr ≤ t) (h2 : (t : Int) < r.to) (hlt : t < l.length) (hk : l[t].kind = 3) : r.nx = [blkOf l (tgt1 t l[t].kind l[t].off), (b : Int) + 1] := by
 have h64 := hp.le
 have hK : kindAt l t = 3 := by unfold kindAt; rw [List.getElem?_eq_getElem hlt]; exact hk
 rw [row_nx h (row_last h h1 h2 (by rw [hK]; rfl)) hlt]
 unfold nxK
 have t2 := tgt2_may (hp.may t hlt) (k := t) (by omega)
 rw [hk] at t2 ⊢
 rw [if_pos (by rw [t2]; rfl), if_neg (by omega)]
 rfl
theorem row_goto {l : List InstS} (hp : OkP l) {b : Nat} {r : RowS} (h : RowOk l b r) {t : Nat} (h1 : r.fr ≤ t) (h2 : (t : Int) < r.to) (hlt : t < l.length) (hk : l[t].kind = 4) : r.nx = [blkOf l (tgt1 t l[t].kind l[t].off)] := by
 have h64 := hp.le
 have hK : kindAt l t = 4 := by unfold kindAt; rw [List.getElem?_eq_getElem hlt]; exact hk
 rw [row_nx h (row_last h h1 h2 (by rw [hK]; rfl)) hlt]
 unfold nxK
 have t2 := tgt2_may (hp.may t hlt) (k := t) (by omega)
 rw [hk] at t2 ⊢
 rw [if_pos (by rw [t2]; rfl), if_pos (by omega)]
 rfl
theorem row_else {l : List InstS} (hp : OkP l) {b : Nat} {r : RowS} (h : RowOk l b r) {t : Nat} (ht : (t : Int) + 1 = r.to) (hlt : t < l.length) (h3 : ¬ l[t].kind = 3) (h4 : ¬ l[t].kind = 4) (h6 : ¬ l[t].kind = 6) : r.nx = [(b : Int) + 1] := by
 have h64 := hp.le
 rw [row_nx h ht hlt]
 unfold nxK
 have t2 := tgt2_may (hp.may t hlt) (k := t) (by omega)
 rw [if_neg (by rw [t2]; simp [h3, h4]), if_neg (by omega)]
 rfl
theorem row_exit {l : List InstS} (hp : OkP l) {b : Nat} {r : RowS} (h : RowOk l b r) {t : Nat} (ht : (t : Int) + 1 = r.to) (hlt : t < l.length) (h6 : l[t].kind = 6) : r.nx = [] := by
 have h64 := hp.le
 rw [row_nx h ht hlt]
 unfold nxK
 have t2 := tgt2_may (hp.may t hlt) (k := t) (by omega)
 rw [h6] at t2 ⊢
 rw [if_neg (by rw [t2]; simp), if_pos (by omega)]
 rfl
theorem accM_succ (l : List InstS) (f : Nat) (ns : List Int) (k : Nat) (h : f + k < l.length) : accM l f ns (k + 1) = accM l f ns k ++ insM l[f + k] ns := by
 rw [accM, List.getElem?_eq_getElem h]
def onesM (x : InstS) : Int := if x.kind = 3 then (if x.byReg = true then 5 else 4) else if x.kind = 4 then 1 else (x.steps.length : Int)
def mostU (l : List InstS) : Nat → Int
  | 0 => 0
  | k + 1 => match l[k]? with
    | some x => if mostU l k < onesM x then onesM x else mostU l k
    | none => mostU l k
end Go.Ev

namespace Go.Proofs.Ytcngafhpodeenaa
open Go Go.Ev
set_option maxRecDepth 100000
set_option maxHeartbeats 8000000
theorem jump_rc_ok (kind op width size : Int) (dst src off imm : Int) (o0 : 0 ≤ op) (o1 : op ≤ 10) (hs : (op == 10) = false) (a b : Int)  : Ret Try.prog 35 ([instD kind op width size true dst src off imm, .lst .no 1 [.int .i64 a, .int .i64 b]]) (.lst .no 13 (jmpM op true dst src imm a b)) := by
 have c0 := @l_take_ok ((0 : Int)) (dst)
 have c1 := @l_num_ok ((14 : Int)) ((64 : Int)) ((0 : Int)) (imm)
 have c2 := @l_steps_ok ([(irD 1 0 0 0 0 0 0 0 0 dst 0 0 0), (irD 0 14 64 0 0 0 0 imm 0 0 0 0 0)])
 have c3 := @l_take_ok ((1 : Int)) (src)
 have c4 := @l_two_ok ((7 : Int)) ((64 : Int)) ((0 : Int)) ((1 : Int))
 have c5 := @l_steps_ok ([(irD 1 0 0 0 0 0 0 0 0 dst 0 0 0), (irD 1 0 0 0 0 0 0 0 0 src 1 0 0), (irD 0 7 64 0 1 0 0 0 0 0 0 0 0)])
 have c6 := @tocc_in_ok (op) o0 o1
 have c7 := @l_goes_ok (b)
 exact (Ret.of_eval (d := .lst (.fresh 13) 13 [(irD 1 0 0 0 0 0 0 0 0 dst 0 0 0), (irD 1 0 0 0 0 0 0 0 0 src 1 0 0), (irD 0 7 64 0 1 0 0 0 0 0 0 0 0), (irD 4 29 0 0 0 0 0 0 (Prod.fst (toccM op)) 0 0 0 a), (irD 5 0 0 0 0 0 0 0 0 0 0 0 b)]) mixed Try.func35 (by kernel_rfl) [tC hs, .ret _ _ _ c0, .ret _ _ _ c1, .ret _ _ _ c2, tT, .get ([(irD 1 0 0 0 0 0 0 0 0 dst 0 0 0), (irD 0 14 64 0 0 0 0 imm 0 0 0 0 0)]) 0 ((irD 1 0 0 0 0 0 0 0 0 dst 0 0 0)) rfl, .ret _ _ _ c3, .ret _ _ _ c4, .ret _ _ _ c5, .ret _ _ _ c6, .get ([.int .i64 a, .int .i64 b]) 0 (.int .i64 a) rfl, .get ([.int .i64 a, .int .i64 b]) 1 (.int .i64 b) rfl, .ret _ _ _ c7, .len ((5 : Nat)) ((2147483648 : Nat)) (by first | decide | omega | (simp; omega))] (by kernel_rfl)).to (by simp only [beq_iff_eq, beq_eq_false_iff_ne] at hs; simp [wk, wkL, wkO, jmpM, cmpM, hs])
theorem jump_rs_ok (kind op width size : Int) (dst src off imm : Int) (o0 : 0 ≤ op) (o1 : op ≤ 10) (hs : (op == 10) = true) (a b : Int)  : Ret Try.prog 35 ([instD kind op width size true dst src off imm, .lst .no 1 [.int .i64 a, .int .i64 b]]) (.lst .no 13 (jmpM op true dst src imm a b)) := by
 have c0 := @l_take_ok ((0 : Int)) (dst)
 have c1 := @l_num_ok ((15 : Int)) ((64 : Int)) ((0 : Int)) (imm)
 have c2 := @l_steps_ok ([(irD 1 0 0 0 0 0 0 0 0 dst 0 0 0), (irD 0 15 64 0 0 0 0 imm 0 0 0 0 0)])
 have c3 := @l_take_ok ((1 : Int)) (src)
 have c4 := @l_two_ok ((8 : Int)) ((64 : Int)) ((0 : Int)) ((1 : Int))
 have c5 := @l_steps_ok ([(irD 1 0 0 0 0 0 0 0 0 dst 0 0 0), (irD 1 0 0 0 0 0 0 0 0 src 1 0 0), (irD 0 8 64 0 1 0 0 0 0 0 0 0 0)])
 have c6 := @tocc_in_ok (op) o0 o1
 have c7 := @l_goes_ok (b)
 exact (Ret.of_eval (d := .lst (.fresh 13) 13 [(irD 1 0 0 0 0 0 0 0 0 dst 0 0 0), (irD 1 0 0 0 0 0 0 0 0 src 1 0 0), (irD 0 8 64 0 1 0 0 0 0 0 0 0 0), (irD 4 29 0 0 0 0 0 0 (Prod.fst (toccM op)) 0 0 0 a), (irD 5 0 0 0 0 0 0 0 0 0 0 0 b)]) mixed Try.func35 (by kernel_rfl) [tC (eqI 10 true (eq_of_beq hs)), .ret _ _ _ c0, .ret _ _ _ c1, .ret _ _ _ c2, tT, .get ([(irD 1 0 0 0 0 0 0 0 0 dst 0 0 0), (irD 0 15 64 0 0 0 0 imm 0 0 0 0 0)]) 0 ((irD 1 0 0 0 0 0 0 0 0 dst 0 0 0)) rfl, .ret _ _ _ c3, .ret _ _ _ c4, .ret _ _ _ c5, .ret _ _ _ c6, .get ([.int .i64 a, .int .i64 b]) 0 (.int .i64 a) rfl, .get ([.int .i64 a, .int .i64 b]) 1 (.int .i64 b) rfl, .ret _ _ _ c7, .len ((5 : Nat)) ((2147483648 : Nat)) (by first | decide | omega | (simp; omega))] (by kernel_rfl)).to (by simp only [beq_iff_eq, beq_eq_false_iff_ne] at hs; simp [wk, wkL, wkO, jmpM, cmpM, hs])
theorem jump_ic_ok (kind op width size : Int) (dst src off imm : Int) (o0 : 0 ≤ op) (o1 : op ≤ 10) (hs : (op == 10) = false) (a b : Int)  : Ret Try.prog 35 ([instD kind op width size false dst src off imm, .lst .no 1 [.int .i64 a, .int .i64 b]]) (.lst .no 13 (jmpM op false dst src imm a b)) := by
 have c0 := @l_take_ok ((0 : Int)) (dst)
 have c1 := @l_num_ok ((14 : Int)) ((64 : Int)) ((0 : Int)) (imm)
 have c2 := @l_steps_ok ([(irD 1 0 0 0 0 0 0 0 0 dst 0 0 0), (irD 0 14 64 0 0 0 0 imm 0 0 0 0 0)])
 have c3 := @tocc_in_ok (op) o0 o1
 have c4 := @l_goes_ok (b)
 exact (Ret.of_eval (d := .lst (.fresh 13) 13 [(irD 1 0 0 0 0 0 0 0 0 dst 0 0 0), (irD 0 14 64 0 0 0 0 imm 0 0 0 0 0), (irD 4 29 0 0 0 0 0 0 (Prod.fst (toccM op)) 0 0 0 a), (irD 5 0 0 0 0 0 0 0 0 0 0 0 b)]) mixed Try.func35 (by kernel_rfl) [tC hs, .ret _ _ _ c0, .ret _ _ _ c1, .ret _ _ _ c2, tF, .ret _ _ _ c3, .get ([.int .i64 a, .int .i64 b]) 0 (.int .i64 a) rfl, .get ([.int .i64 a, .int .i64 b]) 1 (.int .i64 b) rfl, .ret _ _ _ c4, .len ((4 : Nat)) ((2147483648 : Nat)) (by first | decide | omega | (simp; omega))] (by kernel_rfl)).to (by simp only [beq_iff_eq, beq_eq_false_iff_ne] at hs; simp [wk, wkL, wkO, jmpM, cmpM, hs])
theorem jump_is_ok (kind op width size : Int) (dst src off imm : Int) (o0 : 0 ≤ op) (o1 : op ≤ 10) (hs : (op == 10) = true) (a b : Int)  : Ret Try.prog 35 ([instD kind op width size false dst src off imm, .lst .no 1 [.int .i64 a, .int .i64 b]]) (.lst .no 13 (jmpM op false dst src imm a b)) := by
 have c0 := @l_take_ok ((0 : Int)) (dst)
 have c1 := @l_num_ok ((15 : Int)) ((64 : Int)) ((0 : Int)) (imm)
 have c2 := @l_steps_ok ([(irD 1 0 0 0 0 0 0 0 0 dst 0 0 0), (irD 0 15 64 0 0 0 0 imm 0 0 0 0 0)])
 have c3 := @tocc_in_ok (op) o0 o1
 have c4 := @l_goes_ok (b)
 exact (Ret.of_eval (d := .lst (.fresh 13) 13 [(irD 1 0 0 0 0 0 0 0 0 dst 0 0 0), (irD 0 15 64 0 0 0 0 imm 0 0 0 0 0), (irD 4 29 0 0 0 0 0 0 (Prod.fst (toccM op)) 0 0 0 a), (irD 5 0 0 0 0 0 0 0 0 0 0 0 b)]) mixed Try.func35 (by kernel_rfl) [tC (eqI 10 true (eq_of_beq hs)), .ret _ _ _ c0, .ret _ _ _ c1, .ret _ _ _ c2, tF, .ret _ _ _ c3, .get ([.int .i64 a, .int .i64 b]) 0 (.int .i64 a) rfl, .get ([.int .i64 a, .int .i64 b]) 1 (.int .i64 b) rfl, .ret _ _ _ c4, .len ((4 : Nat)) ((2147483648 : Nat)) (by first | decide | omega | (simp; omega))] (by kernel_rfl)).to (by simp only [beq_iff_eq, beq_eq_false_iff_ne] at hs; simp [wk, wkL, wkO, jmpM, cmpM, hs])
end Go.Proofs.Ytcngafhpodeenaa
