/- Contracts and plain laws that a statement's proof leans on (texts merged: XP1A, XP2, XP2A, XQU, MdP3, MdW, MdF2, MdE, MdT, MdRd, XQN, XD1, XD1A). -/
import Derived.Test.YtcngafhpodeenaaS05
set_option linter.unusedVariables false
set_option linter.unusedSimpArgs false
namespace Go.Proofs.Ytcngafhpodeenaa
open Go Go.Ev
set_option maxRecDepth 100000
theorem four_or_less (t : List Int) : t.length < 4 ∨ ∃ a b c d r, t = a :: b :: c :: d :: r := by
 match t with
 | [] => exact .inl (by simp)
 | [_] => exact .inl (by simp)
 | [_, _] => exact .inl (by simp)
 | [_, _, _] => exact .inl (by simp)
 | a :: b :: c :: d :: r => exact .inr ⟨a, b, c, d, r, rfl⟩
theorem mr_ok (v : List Int) (hv : isB v) : Ret Try.prog 151 [.lst .no 1 (bD v)] (.tup [.int .i8 (mrR v), .int .i8 (mrB v), .int .i64 (mrD v), .bool (decide (2 ≤ mrN v)), .int .i64 (mrN v : Int), .int .i64 (mrE v)]) := by
 match v, hv with
 | [], _ => exact mr_nil_ok.cast rfl rfl
 | v :: t, hv =>
  obtain ⟨⟨v0, v1⟩, ht⟩ := isB_cons.1 hv
  have e : bD (v :: t) = .int .u8 v :: bD t := rfl
  by_cases h3 : v / 64 = 3
  ·have hn : mrN (v :: t) = 1 := by simp [mrN, h3]
   refine (mr_reg_ok v v0 v1 t h3).cast rfl ?_
   simp [mrR, mrB, mrD, mrE, hn, hd]
  ·by_cases h2 : v / 64 = 2
   ·by_cases hr : v % 8 = 4
    ·match t, ht with
     | [], ht =>
      have hn : mrN [v] = 0 := by simp [mrN, h2, hr]
      refine (mr_sh6_ok v v0 v1 [] h2 hr (by simp)).cast rfl ?_
      simp [mrR, mrB, mrD, mrE, hn]
     | s :: t, ht =>
      by_cases hs : s = 36
      ·subst hs
       rcases four_or_less t with hl | ⟨a, b, c, d, r, rfl⟩
       ·have hn : mrN (v :: 36 :: t) = 0 := by simp [mrN, h2, hr, hd]; omega
        refine (mr_sh6_ok v v0 v1 (36 :: t) h2 hr (by simp; omega)).cast rfl ?_
        simp [mrR, mrB, mrD, mrE, hn]
       ·have hn : mrN (v :: 36 :: a :: b :: c :: d :: r) = 6 := by simp [mrN, h2, hr, hd]
        simp only [isB_cons] at ht
        obtain ⟨-, ⟨a0, a1⟩, ⟨b0, b1⟩, ⟨c0, c1⟩, ⟨d0, d1⟩, -⟩ := ht
        refine (mr_mem6_ok v v0 v1 a b c d r a0 a1 b0 b1 c0 c1 d0 d1 h2 hr).cast rfl ?_
        simp [mrR, mrB, mrD, mrE, hn, hd, rd4]
      ·have hn : mrN (v :: s :: t) = 0 := by simp [mrN, h2, hr, hd, hs]
       refine (mr_sib_ok v v0 v1 s t h2 hr hs).cast rfl ?_
       simp [mrR, mrB, mrD, mrE, hn]
    ·rcases four_or_less t with hl | ⟨a, b, c, d, r, rfl⟩
     ·have hn : mrN (v :: t) = 0 := by simp [mrN, h2, hr]; omega
      refine (mr_sh5_ok v v0 v1 t h2 hr hl).cast rfl ?_
      simp [mrR, mrB, mrD, mrE, hn]
     ·have hn : mrN (v :: a :: b :: c :: d :: r) = 5 := by simp [mrN, h2, hr]
      simp only [isB_cons] at ht
      obtain ⟨⟨a0, a1⟩, ⟨b0, b1⟩, ⟨c0, c1⟩, ⟨d0, d1⟩, -⟩ := ht
      refine (mr_mem5_ok v v0 v1 a b c d r a0 a1 b0 b1 c0 c1 d0 d1 h2 hr).cast rfl ?_
      simp [mrR, mrB, mrD, mrE, hn, hd, rd4]
   ·have hn : mrN (v :: t) = 0 := by simp [mrN, h2, h3]
    refine (mr_low_ok v v0 v1 t (by omega)).cast rfl ?_
    simp [mrR, mrB, mrD, mrE, hn]
theorem tail_ok (b : List Int) (hb : isB b) (i : Nat) (hi : i = 0 ∨ i = 1 ∨ i = 5 ∨ i = 6) : Ret Try.prog 152 [.lst .no 1 (bD b), .int .i64 (i : Int)] (.int .i64 (tlM b i)) := by
 by_cases hs : b.length < i + 4
 ·refine (tailS_ok b i (by omega) (by omega) (by rw [len_bD]; omega)).cast rfl ?_
  simp [tlM, hs]
 ·have hq : ∀ {x : D}, tlM b i = rd4 (b.drop i) := fun {_} => by simp [tlM, hs]
  rw [hq (x := .undef)]
  rcases hi with rfl | rfl | rfl | rfl
  ·match b, hb, hs with
   | a :: b :: c :: d :: t, hb, _ =>
    simp only [isB_cons] at hb
    obtain ⟨⟨a0, a1⟩, ⟨b0, b1⟩, ⟨c0, c1⟩, ⟨d0, d1⟩, -⟩ := hb
    exact (tail0_ok a b c d t a0 a1 b0 b1 c0 c1 d0 d1).cast rfl rfl
   | [], _, hs | [_], _, hs | [_, _], _, hs | [_, _, _], _, hs => simp at hs
  ·match b, hb, hs with
   | y :: a :: b :: c :: d :: t, hb, _ =>
    simp only [isB_cons] at hb
    obtain ⟨-, ⟨a0, a1⟩, ⟨b0, b1⟩, ⟨c0, c1⟩, ⟨d0, d1⟩, -⟩ := hb
    exact (tail1_ok y a b c d t a0 a1 b0 b1 c0 c1 d0 d1).cast rfl rfl
   | [], _, hs | [_], _, hs | [_, _], _, hs | [_, _, _], _, hs | [_, _, _, _], _, hs => simp at hs
  ·match b, hb, hs with
   | y0 :: y1 :: y2 :: y3 :: y4 :: a :: b :: c :: d :: t, hb, _ =>
    simp only [isB_cons] at hb
    obtain ⟨-, -, -, -, -, ⟨a0, a1⟩, ⟨b0, b1⟩, ⟨c0, c1⟩, ⟨d0, d1⟩, -⟩ := hb
    exact (tail5_ok y0 y1 y2 y3 y4 a b c d t a0 a1 b0 b1 c0 c1 d0 d1).cast rfl rfl
   | [], _, hs | [_], _, hs | [_, _], _, hs | [_, _, _], _, hs | [_, _, _, _], _, hs | [_, _, _, _, _], _, hs | [_, _, _, _, _, _], _, hs | [_, _, _, _, _, _, _], _, hs | [_, _, _, _, _, _, _, _], _, hs => simp at hs
  ·match b, hb, hs with
   | y0 :: y1 :: y2 :: y3 :: y4 :: y5 :: a :: b :: c :: d :: t, hb, _ =>
    simp only [isB_cons] at hb
    obtain ⟨-, -, -, -, -, -, ⟨a0, a1⟩, ⟨b0, b1⟩, ⟨c0, c1⟩, ⟨d0, d1⟩, -⟩ := hb
    exact (tail6_ok y0 y1 y2 y3 y4 y5 a b c d t a0 a1 b0 b1 c0 c1 d0 d1).cast rfl rfl
   | [], _, hs | [_], _, hs | [_, _], _, hs | [_, _, _], _, hs | [_, _, _, _], _, hs | [_, _, _, _, _], _, hs | [_, _, _, _, _, _], _, hs | [_, _, _, _, _, _, _], _, hs | [_, _, _, _, _, _, _, _], _, hs | [_, _, _, _, _, _, _, _, _], _, hs => simp at hs
theorem mrN_cases (v : List Int) : mrN v = 0 ∨ mrN v = 1 ∨ mrN v = 5 ∨ mrN v = 6 := by
 unfold mrN
 split
 ·exact .inl rfl
 ·split
  ·exact .inr (.inl rfl)
  ·split
   ·split <;> split <;> simp
   ·exact .inl rfl
theorem tail_mr_ok (v : List Int) (hv : isB v) : Ret Try.prog 152 [.lst .no 1 (bD v), .int .i64 (mrN v : Int)] (.int .i64 (tlM v (mrN v))) := tail_ok v hv _ (mrN_cases v)
theorem tail_0_ok (v : List Int) (hv : isB v) : Ret Try.prog 152 [.lst .no 1 (bD v), .int .i64 0] (.int .i64 (tlM v 0)) := tail_ok v hv 0 (.inl rfl)
theorem pick_mr_ok (v : List Int) : Ret Try.prog 149 [.lst .no 1 (bD v), .int .i64 (mrN v : Int)] (.int .u8 (pkM v (mrN v))) := (pick_ok v _ (by omega)).cast rfl (by simp)
theorem pick_0_ok (v : List Int) : Ret Try.prog 149 [.lst .no 1 (bD v), .int .i64 0] (.int .u8 (pkM v 0)) := pick_ok v 0 (by omega)
end Go.Proofs.Ytcngafhpodeenaa

namespace Go.Proofs.Ytcngafhpodeenaa
open Go Go.Ev
set_option maxRecDepth 100000
set_option maxHeartbeats 8000000
theorem pick_c_ok (x : Int) (l : List D) : Ret Try.prog 149 ([.lst .no 1 (.int .u8 x :: l), .int .i64 0]) (.int .u8 x) := by
 exact (o149 (d := .int .u8 x) [tF, tT, .get (.int .u8 x :: l) 0 (.int .u8 x) rfl] (by kernel_rfl)).to (by simp [wk])
theorem pick_n_ok  : Ret Try.prog 149 ([.lst .no 1 [], .int .i64 0]) (.int .u8 0) := by
 exact (o149 (d := .int .u8 0) [tT] (by kernel_rfl)).to (by simp [wk])
theorem pa_nxe_ok  : Ret Try.prog 96 ([.lst .no 1 ([])]) (.tup [rawD (parF 32 0), .bool false]) := by
 have c0 := @pick_n_ok
 have c1 := @pick_n_ok
 have c2 := @rrF_ok 0 (by decide) (by decide) (rfl : false = false)
 exact (o96 (d := .tup [.agg [.int .i8 32, .bool false, .int .u8 0, .int .i8 0, .int .i8 0, .int .i64 0, .int .i64 0, .int .i64 0, .int .i64 0, .int .i64 0, .int .i8 0], .bool false]) [.ret _ _ _ c0, tF, .ret _ _ _ c1, .ret _ _ _ c2, tF, tT] (by kernel_rfl)).to (by simp [wk, wkL, rawD, parF, *]; done)
theorem pa_nx1_ok (d : Int) (v : List Int) (hv : isB v)  : Ret Try.prog 96 ([.lst .no 1 (.int .u8 15 :: .int .u8 d :: bD v)]) (.tup [rawD (parRest 32 0 0 true d v), .bool true]) := by
 have c0 := @pick_c_ok 15 (.int .u8 d :: bD v)
 have c1 := @pick_c_ok 15 (.int .u8 d :: bD v)
 have c2 := @rrF_ok 15 (by first | rfl | decide) (by first | rfl | decide) (rfl : false = false)
 have c3 := @mr_ok v hv
 let E1 : EL := [.ret _ _ _ c0, tF, .ret _ _ _ c1, .ret _ _ _ c2, tF, tF, .get (.int .u8 15 :: .int .u8 d :: bD v) 0 (.int .u8 15) rfl, .tst (decide ((0 : Int) ≤ (1 : Int) ∧ (1 : Int) ≤ (↑(List.length (.int .u8 15 :: .int .u8 d :: bD v)) : Int))) true (by (simp [len_bD]; omega)), tT, tT, tT, tT, tC (ltL 0 (by (simp [len_bD]; omega) : (decide ((↑(List.length (.int .u8 d :: bD v)) : Int) < (1 : Int))) = false)), .get (.int .u8 d :: bD v) 0 (.int .u8 d) rfl, .tst (decide ((0 : Int) ≤ (1 : Int) ∧ (1 : Int) ≤ (↑(List.length (List.drop (Int.toNat (1 : Int)) (.int .u8 15 :: .int .u8 d :: bD v))) : Int))) true (by (simp [len_bD]; omega)), .ret _ _ _ c3]
 by_cases h4 : mrE v = 0
 ·have c5 := @tail_mr_ok v hv
  have c6 := @pick_mr_ok v
  have c7 := @tail_0_ok v hv
  have c8 := @pick_0_ok v
  exact (o96 (d := .tup [.agg [.int .i8 32, .bool true, .int .u8 d, .int .i8 (IntKind.wrap IntKind.i8 (↑(BitVec.toNat (BitVec.ofInt (8 : Nat) (mrR v) ||| BitVec.ofInt (8 : Nat) (0 : Int))) : Int)), .int .i8 (IntKind.wrap IntKind.i8 (↑(BitVec.toNat (BitVec.ofInt (8 : Nat) (mrB v) ||| BitVec.ofInt (8 : Nat) (0 : Int))) : Int)), .int .i64 (mrD v), .int .i64 (tlM v (mrN v)), .int .i64 (IntKind.wrap IntKind.i64 (pkM v (mrN v))), .int .i64 (tlM v (0 : Nat)), .int .i64 (IntKind.wrap IntKind.i64 (IntKind.wrap IntKind.i8 (pkM v (0 : Nat)))), .int .i8 0], .bool true]) (E1 ++ [tC (nt (eqI 0 true h4)), .ret _ _ _ c5, .ret _ _ _ c6, .ret _ _ _ c7, .ret _ _ _ c8]) (by kernel_rfl)).to (by clear E1; (try simp only [decide_eq_true_eq, decide_eq_false_iff_not, wk, wkL, rawD, parRest, D.int.injEq, D.bool.injEq, true_and, and_true] at *); (try rw [mrE_n' ‹¬ mrE v = 0›]); (try simp only [w_small hv, w_jump, or8r hv (Or.inl rfl), or8b hv (Or.inl rfl), or8r4 hv, or8b2 hv]); simp [*]; done)
 have c9 := @tail_0_ok v hv
 have c10 := @pick_0_ok v
 have c11 := @tail_0_ok v hv
 have c12 := @pick_0_ok v
 exact (o96 (d := .tup [.agg [.int .i8 32, .bool true, .int .u8 d, .int .i8 (IntKind.wrap IntKind.i8 (↑(BitVec.toNat (BitVec.ofInt (8 : Nat) (mrR v) ||| BitVec.ofInt (8 : Nat) (0 : Int))) : Int)), .int .i8 (IntKind.wrap IntKind.i8 (↑(BitVec.toNat (BitVec.ofInt (8 : Nat) (mrB v) ||| BitVec.ofInt (8 : Nat) (0 : Int))) : Int)), .int .i64 (mrD v), .int .i64 (tlM v (0 : Nat)), .int .i64 (IntKind.wrap IntKind.i64 (pkM v (0 : Nat))), .int .i64 (tlM v (0 : Nat)), .int .i64 (IntKind.wrap IntKind.i64 (IntKind.wrap IntKind.i8 (pkM v (0 : Nat)))), .int .i8 0], .bool true]) (E1 ++ [tC (nt (neOf h4)), .ret _ _ _ c9, .ret _ _ _ c10, .ret _ _ _ c11, .ret _ _ _ c12]) (by kernel_rfl)).to (by clear E1; (try simp only [decide_eq_true_eq, decide_eq_false_iff_not, wk, wkL, rawD, parRest, D.int.injEq, D.bool.injEq, true_and, and_true] at *); (try rw [mrE_n' ‹¬ mrE v = 0›]); (try simp only [w_small hv, w_jump, or8r hv (Or.inl rfl), or8b hv (Or.inl rfl), or8r4 hv, or8b2 hv]); simp [*]; done)
theorem pa_nx0_ok  : Ret Try.prog 96 ([.lst .no 1 (.int .u8 15 :: [])]) (.tup [rawD (parRest 32 0 0 false 15 []), .bool true]) := by
 have c0 := @pick_c_ok 15 ([])
 have c1 := @pick_c_ok 15 ([])
 have c2 := @rrF_ok 15 (by decide) (by decide) (rfl : false = false)
 have c3 := @mr_nil_ok
 have c4 := @pick_n_ok
 have c5 := @pick_n_ok
 exact (o96 (d := .tup [.agg [.int .i8 32, .bool false, .int .u8 15, .int .i8 0, .int .i8 0, .int .i64 0, .int .i64 0, .int .i64 0, .int .i64 0, .int .i64 0, .int .i8 0], .bool true]) [.ret _ _ _ c0, tF, .ret _ _ _ c1, .ret _ _ _ c2, tF, tF, .get ([.int .u8 15]) 0 (.int .u8 15) rfl, tT, tT, tT, tT, tT, tF, .ret _ _ _ c3, tT, .inl, tT, .ret _ _ _ c4, .inl, tT, .ret _ _ _ c5] (by kernel_rfl)).to (by (try simp only [decide_eq_true_eq, decide_eq_false_iff_not, wk, wkL, rawD, parRest, D.int.injEq, D.bool.injEq, true_and, and_true] at *); (try rw [mrE_n' ‹¬ mrE [] = 0›]); (try simp only [w_small nilB, w_jump, or8r nilB (Or.inl rfl), or8b nilB (Or.inl rfl), or8r4 nilB, or8b2 nilB]); simp [*, mrR, mrB, mrD, mrN, tlM, pkM, signed1]; done)
theorem pa_nxc_ok (c : Int) (k0 : 0 ≤ c) (k1 : c ≤ 255) (hq : rexQ c = false) (h2 : ¬ c = 102) (hc : ¬ c = 15) (v : List Int) (hv : isB v)  : Ret Try.prog 96 ([.lst .no 1 (.int .u8 c :: bD v)]) (.tup [rawD (parRest 32 0 0 false c v), .bool true]) := by
 have c0 := @pick_c_ok c (bD v)
 have c1 := @pick_c_ok c (bD v)
 have c2 := @rrF_ok c k0 k1 hq
 have c3 := @mr_ok v hv
 let E1 : EL := ([.ret _ _ _ c0, tC (by ((try simp only [List.length_cons, List.length_nil, len_bD, sl2] at *); omega) : (c == (102 : Int)) = false), .ret _ _ _ c1, .ret _ _ _ c2, tF, tF, .get (.int .u8 c :: bD v) 0 (.int .u8 c) rfl, .tst (decide ((0 : Int) ≤ (1 : Int) ∧ (1 : Int) ≤ (↑(List.length (.int .u8 c :: bD v)) : Int))) true (by ((try simp only [List.length_cons, List.length_nil, len_bD, sl2] at *); omega))] ++ List.replicate 3 (tC (eT (by ((try simp only [List.length_cons, List.length_nil, len_bD, sl2] at *); omega) : (c == (15 : Int)) = false))) ++ [tC (by ((try simp only [List.length_cons, List.length_nil, len_bD, sl2] at *); omega) : (c == (15 : Int)) = false), tF, .ret _ _ _ c3])
 by_cases h4 : mrE v = 0
 ·have c5 := @tail_mr_ok v hv
  have c6 := @pick_mr_ok v
  have c7 := @tail_0_ok v hv
  have c8 := @pick_0_ok v
  exact (o96 (d := .tup [.agg [.int .i8 32, .bool false, .int .u8 c, .int .i8 (IntKind.wrap IntKind.i8 (↑(BitVec.toNat (BitVec.ofInt (8 : Nat) (mrR v) ||| BitVec.ofInt (8 : Nat) (0 : Int))) : Int)), .int .i8 (IntKind.wrap IntKind.i8 (↑(BitVec.toNat (BitVec.ofInt (8 : Nat) (mrB v) ||| BitVec.ofInt (8 : Nat) (0 : Int))) : Int)), .int .i64 (mrD v), .int .i64 (tlM v (mrN v)), .int .i64 (IntKind.wrap IntKind.i64 (pkM v (mrN v))), .int .i64 (tlM v (0 : Nat)), .int .i64 (IntKind.wrap IntKind.i64 (IntKind.wrap IntKind.i8 (pkM v (0 : Nat)))), .int .i8 0], .bool true]) (E1 ++ [tC (nt (eqI 0 true h4)), .ret _ _ _ c5, .ret _ _ _ c6, .ret _ _ _ c7, .ret _ _ _ c8]) (by kernel_rfl)).to (by clear E1; (try simp only [decide_eq_true_eq, decide_eq_false_iff_not, wk, wkL, rawD, parRest, D.int.injEq, D.bool.injEq, true_and, and_true] at *); (try rw [mrE_n' ‹¬ mrE v = 0›]); (try simp only [w_small hv, w_jump, or8r hv (Or.inl rfl), or8b hv (Or.inl rfl), or8r4 hv, or8b2 hv]); simp [*]; done)
 have c9 := @tail_0_ok v hv
 have c10 := @pick_0_ok v
 have c11 := @tail_0_ok v hv
 have c12 := @pick_0_ok v
 exact (o96 (d := .tup [.agg [.int .i8 32, .bool false, .int .u8 c, .int .i8 (IntKind.wrap IntKind.i8 (↑(BitVec.toNat (BitVec.ofInt (8 : Nat) (mrR v) ||| BitVec.ofInt (8 : Nat) (0 : Int))) : Int)), .int .i8 (IntKind.wrap IntKind.i8 (↑(BitVec.toNat (BitVec.ofInt (8 : Nat) (mrB v) ||| BitVec.ofInt (8 : Nat) (0 : Int))) : Int)), .int .i64 (mrD v), .int .i64 (tlM v (0 : Nat)), .int .i64 (IntKind.wrap IntKind.i64 (pkM v (0 : Nat))), .int .i64 (tlM v (0 : Nat)), .int .i64 (IntKind.wrap IntKind.i64 (IntKind.wrap IntKind.i8 (pkM v (0 : Nat)))), .int .i8 0], .bool true]) (E1 ++ [tC (nt (neOf h4)), .ret _ _ _ c9, .ret _ _ _ c10, .ret _ _ _ c11, .ret _ _ _ c12]) (by kernel_rfl)).to (by clear E1; (try simp only [decide_eq_true_eq, decide_eq_false_iff_not, wk, wkL, rawD, parRest, D.int.injEq, D.bool.injEq, true_and, and_true] at *); (try rw [mrE_n' ‹¬ mrE v = 0›]); (try simp only [w_small hv, w_jump, or8r hv (Or.inl rfl), or8b hv (Or.inl rfl), or8r4 hv, or8b2 hv]); simp [*]; done)
theorem pa_nre_ok (h : Int) (g0 : 0 ≤ h) (g1 : h ≤ 255) (hq : rexQ h = true) (hh : ¬ h = 102)  : Ret Try.prog 96 ([.lst .no 1 (.int .u8 h :: [])]) (.tup [rawD (parF (if h / 8 % 2 = 1 then 64 else 32) (h % 2 * 8)), .bool false]) := by
 have c0 := @pick_c_ok h ([])
 have c1 := @pick_c_ok h ([])
 have c2 := @rrT_ok h g0 g1 hq
 let E1 : EL := [.ret _ _ _ c0, tC (by ((try simp only [List.length_cons, List.length_nil, len_bD, sl2] at *); omega) : (h == 102) = false), .ret _ _ _ c1, .ret _ _ _ c2, tT, tT]
 rcases bft (decide (h / 8 % 2 = 1)) with h3 | h3
 ·exact (o96 (d := .tup [.agg [.int .i8 64, .bool false, .int .u8 0, .int .i8 0, .int .i8 0, .int .i64 0, .int .i64 0, .int .i64 0, .int .i64 0, .int .i64 0, .int .i8 (h % 2 * 8)], .bool false]) (E1 ++ [tC h3, tT]) (by kernel_rfl)).to (by clear E1; simp only [decide_eq_true_eq, decide_eq_false_iff_not] at *; simp [wk, wkL, rawD, parF, *])
 exact (o96 (d := .tup [.agg [.int .i8 32, .bool false, .int .u8 0, .int .i8 0, .int .i8 0, .int .i64 0, .int .i64 0, .int .i64 0, .int .i64 0, .int .i64 0, .int .i8 (h % 2 * 8)], .bool false]) (E1 ++ [tC h3, tT]) (by kernel_rfl)).to (by clear E1; simp only [decide_eq_true_eq, decide_eq_false_iff_not] at *; simp [wk, wkL, rawD, parF, *])
theorem pa_nr1_ok (h : Int) (g0 : 0 ≤ h) (g1 : h ≤ 255) (hq : rexQ h = true) (hh : ¬ h = 102) (d : Int) (v : List Int) (hv : isB v)  : Ret Try.prog 96 ([.lst .no 1 (.int .u8 h :: .int .u8 15 :: .int .u8 d :: bD v)]) (.tup [rawD (parRest (if h / 8 % 2 = 1 then 64 else 32) (h / 4 % 2 * 8) (h % 2 * 8) true d v), .bool true]) := by
 have c0 := @pick_c_ok h (.int .u8 15 :: .int .u8 d :: bD v)
 have c1 := @pick_c_ok h (.int .u8 15 :: .int .u8 d :: bD v)
 have c2 := @rrT_ok h g0 g1 hq
 let E1 : EL := [.ret _ _ _ c0, tC (by ((try simp only [List.length_cons, List.length_nil, len_bD, sl2] at *); omega) : (h == (102 : Int)) = false), .ret _ _ _ c1, .ret _ _ _ c2, tT, .tst (decide ((0 : Int) ≤ (1 : Int) ∧ (1 : Int) ≤ (↑(List.length (.int .u8 h :: .int .u8 15 :: .int .u8 d :: bD v)) : Int))) true (by ((try simp only [List.length_cons, List.length_nil, len_bD, sl2] at *); omega))]
 rcases bft (decide (h / (8 : Int) % (2 : Int) = (1 : Int))) with h3 | h3
 ·have c4 := @mr_ok v hv
  let E2 : EL := E1 ++ [tC h3, tF, .get (.int .u8 15 :: .int .u8 d :: bD v) 0 (.int .u8 15) rfl, .tst (decide ((0 : Int) ≤ (1 : Int) ∧ (1 : Int) ≤ (↑(List.length (List.drop (Int.toNat (1 : Int)) (.int .u8 h :: .int .u8 15 :: .int .u8 d :: bD v))) : Int))) true (by (simp [len_bD]; omega)), tT, tT, tT, tT, tC (ltL 0 (by (simp [len_bD]; omega) : (decide ((↑(List.length (.int .u8 d :: bD v)) : Int) < (1 : Int))) = false)), .get (.int .u8 d :: bD v) 0 (.int .u8 d) rfl, .tst (decide ((0 : Int) ≤ (1 : Int) ∧ (1 : Int) ≤ (↑(List.length (List.drop (Int.toNat (1 : Int)) (List.drop (Int.toNat (1 : Int)) (.int .u8 h :: .int .u8 15 :: .int .u8 d :: bD v)))) : Int))) true (by (simp [len_bD]; omega)), .ret _ _ _ c4]
  by_cases h5 : mrE v = 0
  ·have c6 := @tail_mr_ok v hv
   have c7 := @pick_mr_ok v
   have c8 := @tail_0_ok v hv
   have c9 := @pick_0_ok v
   exact (o96 (d := .tup [.agg [.int .i8 64, .bool true, .int .u8 d, .int .i8 (IntKind.wrap IntKind.i8 (↑(BitVec.toNat (BitVec.ofInt (8 : Nat) (mrR v) ||| BitVec.ofInt (8 : Nat) (h / (4 : Int) % (2 : Int) * (8 : Int)))) : Int)), .int .i8 (IntKind.wrap IntKind.i8 (↑(BitVec.toNat (BitVec.ofInt (8 : Nat) (mrB v) ||| BitVec.ofInt (8 : Nat) (h % (2 : Int) * (8 : Int)))) : Int)), .int .i64 (mrD v), .int .i64 (tlM v (mrN v)), .int .i64 (IntKind.wrap IntKind.i64 (pkM v (mrN v))), .int .i64 (tlM v (0 : Nat)), .int .i64 (IntKind.wrap IntKind.i64 (IntKind.wrap IntKind.i8 (pkM v (0 : Nat)))), .int .i8 (h % (2 : Int) * (8 : Int))], .bool true]) (E2 ++ [tC (nt (eqI 0 true h5)), .ret _ _ _ c6, .ret _ _ _ c7, .ret _ _ _ c8, .ret _ _ _ c9]) (by kernel_rfl)).to (by clear E1 E2; (try simp only [decide_eq_true_eq, decide_eq_false_iff_not, wk, wkL, rawD, parRest, D.int.injEq, D.bool.injEq, true_and, and_true] at *); (try rw [mrE_n' ‹¬ mrE v = 0›]); (try simp only [w_small hv, w_jump, or8r hv (Or.inl rfl), or8b hv (Or.inl rfl), or8r4 hv, or8b2 hv]); simp [*]; done)
  have c10 := @tail_0_ok v hv
  have c11 := @pick_0_ok v
  have c12 := @tail_0_ok v hv
  have c13 := @pick_0_ok v
  exact (o96 (d := .tup [.agg [.int .i8 64, .bool true, .int .u8 d, .int .i8 (IntKind.wrap IntKind.i8 (↑(BitVec.toNat (BitVec.ofInt (8 : Nat) (mrR v) ||| BitVec.ofInt (8 : Nat) (h / (4 : Int) % (2 : Int) * (8 : Int)))) : Int)), .int .i8 (IntKind.wrap IntKind.i8 (↑(BitVec.toNat (BitVec.ofInt (8 : Nat) (mrB v) ||| BitVec.ofInt (8 : Nat) (h % (2 : Int) * (8 : Int)))) : Int)), .int .i64 (mrD v), .int .i64 (tlM v (0 : Nat)), .int .i64 (IntKind.wrap IntKind.i64 (pkM v (0 : Nat))), .int .i64 (tlM v (0 : Nat)), .int .i64 (IntKind.wrap IntKind.i64 (IntKind.wrap IntKind.i8 (pkM v (0 : Nat)))), .int .i8 (h % (2 : Int) * (8 : Int))], .bool true]) (E2 ++ [tC (nt (neOf h5)), .ret _ _ _ c10, .ret _ _ _ c11, .ret _ _ _ c12, .ret _ _ _ c13]) (by kernel_rfl)).to (by clear E1 E2; (try simp only [decide_eq_true_eq, decide_eq_false_iff_not, wk, wkL, rawD, parRest, D.int.injEq, D.bool.injEq, true_and, and_true] at *); (try rw [mrE_n' ‹¬ mrE v = 0›]); (try simp only [w_small hv, w_jump, or8r hv (Or.inl rfl), or8b hv (Or.inl rfl), or8r4 hv, or8b2 hv]); simp [*]; done)
 have c14 := @mr_ok v hv
 let E3 : EL := E1 ++ [tC h3, tF, .get (.int .u8 15 :: .int .u8 d :: bD v) 0 (.int .u8 15) rfl, .tst (decide ((0 : Int) ≤ (1 : Int) ∧ (1 : Int) ≤ (↑(List.length (List.drop (Int.toNat (1 : Int)) (.int .u8 h :: .int .u8 15 :: .int .u8 d :: bD v))) : Int))) true (by (simp [len_bD]; omega)), tT, tT, tT, tT, tC (ltL 0 (by (simp [len_bD]; omega) : (decide ((↑(List.length (.int .u8 d :: bD v)) : Int) < (1 : Int))) = false)), .get (.int .u8 d :: bD v) 0 (.int .u8 d) rfl, .tst (decide ((0 : Int) ≤ (1 : Int) ∧ (1 : Int) ≤ (↑(List.length (List.drop (Int.toNat (1 : Int)) (List.drop (Int.toNat (1 : Int)) (.int .u8 h :: .int .u8 15 :: .int .u8 d :: bD v)))) : Int))) true (by (simp [len_bD]; omega)), .ret _ _ _ c14]
 by_cases h15 : mrE v = 0
 ·have c16 := @tail_mr_ok v hv
  have c17 := @pick_mr_ok v
  have c18 := @tail_0_ok v hv
  have c19 := @pick_0_ok v
  exact (o96 (d := .tup [.agg [.int .i8 32, .bool true, .int .u8 d, .int .i8 (IntKind.wrap IntKind.i8 (↑(BitVec.toNat (BitVec.ofInt (8 : Nat) (mrR v) ||| BitVec.ofInt (8 : Nat) (h / (4 : Int) % (2 : Int) * (8 : Int)))) : Int)), .int .i8 (IntKind.wrap IntKind.i8 (↑(BitVec.toNat (BitVec.ofInt (8 : Nat) (mrB v) ||| BitVec.ofInt (8 : Nat) (h % (2 : Int) * (8 : Int)))) : Int)), .int .i64 (mrD v), .int .i64 (tlM v (mrN v)), .int .i64 (IntKind.wrap IntKind.i64 (pkM v (mrN v))), .int .i64 (tlM v (0 : Nat)), .int .i64 (IntKind.wrap IntKind.i64 (IntKind.wrap IntKind.i8 (pkM v (0 : Nat)))), .int .i8 (h % (2 : Int) * (8 : Int))], .bool true]) (E3 ++ [tC (nt (eqI 0 true h15)), .ret _ _ _ c16, .ret _ _ _ c17, .ret _ _ _ c18, .ret _ _ _ c19]) (by kernel_rfl)).to (by clear E1 E3; (try simp only [decide_eq_true_eq, decide_eq_false_iff_not, wk, wkL, rawD, parRest, D.int.injEq, D.bool.injEq, true_and, and_true] at *); (try rw [mrE_n' ‹¬ mrE v = 0›]); (try simp only [w_small hv, w_jump, or8r hv (Or.inl rfl), or8b hv (Or.inl rfl), or8r4 hv, or8b2 hv]); simp [*]; done)
 have c20 := @tail_0_ok v hv
 have c21 := @pick_0_ok v
 have c22 := @tail_0_ok v hv
 have c23 := @pick_0_ok v
 exact (o96 (d := .tup [.agg [.int .i8 32, .bool true, .int .u8 d, .int .i8 (IntKind.wrap IntKind.i8 (↑(BitVec.toNat (BitVec.ofInt (8 : Nat) (mrR v) ||| BitVec.ofInt (8 : Nat) (h / (4 : Int) % (2 : Int) * (8 : Int)))) : Int)), .int .i8 (IntKind.wrap IntKind.i8 (↑(BitVec.toNat (BitVec.ofInt (8 : Nat) (mrB v) ||| BitVec.ofInt (8 : Nat) (h % (2 : Int) * (8 : Int)))) : Int)), .int .i64 (mrD v), .int .i64 (tlM v (0 : Nat)), .int .i64 (IntKind.wrap IntKind.i64 (pkM v (0 : Nat))), .int .i64 (tlM v (0 : Nat)), .int .i64 (IntKind.wrap IntKind.i64 (IntKind.wrap IntKind.i8 (pkM v (0 : Nat)))), .int .i8 (h % (2 : Int) * (8 : Int))], .bool true]) (E3 ++ [tC (nt (neOf h15)), .ret _ _ _ c20, .ret _ _ _ c21, .ret _ _ _ c22, .ret _ _ _ c23]) (by kernel_rfl)).to (by clear E1 E3; (try simp only [decide_eq_true_eq, decide_eq_false_iff_not, wk, wkL, rawD, parRest, D.int.injEq, D.bool.injEq, true_and, and_true] at *); (try rw [mrE_n' ‹¬ mrE v = 0›]); (try simp only [w_small hv, w_jump, or8r hv (Or.inl rfl), or8b hv (Or.inl rfl), or8r4 hv, or8b2 hv]); simp [*]; done)
theorem pa_nr0_ok (h : Int) (g0 : 0 ≤ h) (g1 : h ≤ 255) (hq : rexQ h = true) (hh : ¬ h = 102)  : Ret Try.prog 96 ([.lst .no 1 (.int .u8 h :: .int .u8 15 :: [])]) (.tup [rawD (parRest (if h / 8 % 2 = 1 then 64 else 32) (h / 4 % 2 * 8) (h % 2 * 8) false 15 []), .bool true]) := by
 have c0 := @pick_c_ok h ([.int .u8 15])
 have c1 := @pick_c_ok h ([.int .u8 15])
 have c2 := @rrT_ok h g0 g1 hq
 let E1 : EL := [.ret _ _ _ c0, tC (by ((try simp only [List.length_cons, List.length_nil, len_bD, sl2] at *); omega) : (h == 102) = false), .ret _ _ _ c1, .ret _ _ _ c2, tT, tT]
 rcases bft (decide (h / 8 % 2 = 1)) with h3 | h3
 ·have c4 := @mr_nil_ok
  have c5 := @pick_n_ok
  have c6 := @pick_n_ok
  exact (o96 (d := .tup [.agg [.int .i8 64, .bool false, .int .u8 15, .int .i8 (IntKind.wrap IntKind.i8 (↑(BitVec.toNat (BitVec.ofInt (8 : Nat) 0 ||| BitVec.ofInt (8 : Nat) (h / 4 % 2 * 8))) : Int)), .int .i8 (IntKind.wrap IntKind.i8 (↑(BitVec.toNat (BitVec.ofInt (8 : Nat) 0 ||| BitVec.ofInt (8 : Nat) (h % 2 * 8))) : Int)), .int .i64 0, .int .i64 0, .int .i64 0, .int .i64 0, .int .i64 0, .int .i8 (h % 2 * 8)], .bool true]) (E1 ++ [tC h3, tF, .get ([.int .u8 15]) 0 (.int .u8 15) rfl, tT, tT, tT, tT, tT, tF, .ret _ _ _ c4, tT, .inl, tT, .ret _ _ _ c5, .inl, tT, .ret _ _ _ c6]) (by kernel_rfl)).to (by clear E1; (try simp only [decide_eq_true_eq, decide_eq_false_iff_not, wk, wkL, rawD, parRest, D.int.injEq, D.bool.injEq, true_and, and_true] at *); (try rw [mrE_n' ‹¬ mrE [] = 0›]); (try simp only [w_small nilB, w_jump, or8r nilB (Or.inl rfl), or8b nilB (Or.inl rfl), or8r4 nilB, or8b2 nilB]); simp [*, mrR, mrB, mrD, mrN, tlM, pkM, signed1, w_i8]; omega)
 have c7 := @mr_nil_ok
 have c8 := @pick_n_ok
 have c9 := @pick_n_ok
 exact (o96 (d := .tup [.agg [.int .i8 32, .bool false, .int .u8 15, .int .i8 (IntKind.wrap IntKind.i8 (↑(BitVec.toNat (BitVec.ofInt (8 : Nat) 0 ||| BitVec.ofInt (8 : Nat) (h / 4 % 2 * 8))) : Int)), .int .i8 (IntKind.wrap IntKind.i8 (↑(BitVec.toNat (BitVec.ofInt (8 : Nat) 0 ||| BitVec.ofInt (8 : Nat) (h % 2 * 8))) : Int)), .int .i64 0, .int .i64 0, .int .i64 0, .int .i64 0, .int .i64 0, .int .i8 (h % 2 * 8)], .bool true]) (E1 ++ [tC h3, tF, .get ([.int .u8 15]) 0 (.int .u8 15) rfl, tT, tT, tT, tT, tT, tF, .ret _ _ _ c7, tT, .inl, tT, .ret _ _ _ c8, .inl, tT, .ret _ _ _ c9]) (by kernel_rfl)).to (by clear E1; (try simp only [decide_eq_true_eq, decide_eq_false_iff_not, wk, wkL, rawD, parRest, D.int.injEq, D.bool.injEq, true_and, and_true] at *); (try rw [mrE_n' ‹¬ mrE [] = 0›]); (try simp only [w_small nilB, w_jump, or8r nilB (Or.inl rfl), or8b nilB (Or.inl rfl), or8r4 nilB, or8b2 nilB]); simp [*, mrR, mrB, mrD, mrN, tlM, pkM, signed1, w_i8]; omega)
theorem pa_nrc_ok (h : Int) (g0 : 0 ≤ h) (g1 : h ≤ 255) (hq : rexQ h = true) (hh : ¬ h = 102) (c : Int) (hc : ¬ c = 15) (v : List Int) (hv : isB v)  : Ret Try.prog 96 ([.lst .no 1 (.int .u8 h :: .int .u8 c :: bD v)]) (.tup [rawD (parRest (if h / 8 % 2 = 1 then 64 else 32) (h / 4 % 2 * 8) (h % 2 * 8) false c v), .bool true]) := by
 have c0 := @pick_c_ok h (.int .u8 c :: bD v)
 have c1 := @pick_c_ok h (.int .u8 c :: bD v)
 have c2 := @rrT_ok h g0 g1 hq
 let E1 : EL := [.ret _ _ _ c0, tC (by ((try simp only [List.length_cons, List.length_nil, len_bD, sl2] at *); omega) : (h == (102 : Int)) = false), .ret _ _ _ c1, .ret _ _ _ c2, tT, .tst (decide ((0 : Int) ≤ (1 : Int) ∧ (1 : Int) ≤ (↑(List.length (.int .u8 h :: .int .u8 c :: bD v)) : Int))) true (by ((try simp only [List.length_cons, List.length_nil, len_bD, sl2] at *); omega))]
 rcases bft (decide (h / (8 : Int) % (2 : Int) = (1 : Int))) with h3 | h3
 ·have c4 := @mr_ok v hv
  let E2 : EL := E1 ++ [tC h3, tF, .get (.int .u8 c :: bD v) 0 (.int .u8 c) rfl, .tst (decide ((0 : Int) ≤ (1 : Int) ∧ (1 : Int) ≤ (↑(List.length (List.drop (Int.toNat (1 : Int)) (.int .u8 h :: .int .u8 c :: bD v))) : Int))) true (by (simp [len_bD]; omega))] ++ List.replicate 3 (tC (eT (by (simp [len_bD]; omega) : (c == (15 : Int)) = false))) ++ [tC (by (simp [len_bD]; omega) : (c == (15 : Int)) = false), tF, .ret _ _ _ c4]
  by_cases h5 : mrE v = 0
  ·have c6 := @tail_mr_ok v hv
   have c7 := @pick_mr_ok v
   have c8 := @tail_0_ok v hv
   have c9 := @pick_0_ok v
   exact (o96 (d := .tup [.agg [.int .i8 64, .bool false, .int .u8 c, .int .i8 (IntKind.wrap IntKind.i8 (↑(BitVec.toNat (BitVec.ofInt (8 : Nat) (mrR v) ||| BitVec.ofInt (8 : Nat) (h / (4 : Int) % (2 : Int) * (8 : Int)))) : Int)), .int .i8 (IntKind.wrap IntKind.i8 (↑(BitVec.toNat (BitVec.ofInt (8 : Nat) (mrB v) ||| BitVec.ofInt (8 : Nat) (h % (2 : Int) * (8 : Int)))) : Int)), .int .i64 (mrD v), .int .i64 (tlM v (mrN v)), .int .i64 (IntKind.wrap IntKind.i64 (pkM v (mrN v))), .int .i64 (tlM v (0 : Nat)), .int .i64 (IntKind.wrap IntKind.i64 (IntKind.wrap IntKind.i8 (pkM v (0 : Nat)))), .int .i8 (h % (2 : Int) * (8 : Int))], .bool true]) (E2 ++ [tC (nt (eqI 0 true h5)), .ret _ _ _ c6, .ret _ _ _ c7, .ret _ _ _ c8, .ret _ _ _ c9]) (by kernel_rfl)).to (by clear E1 E2; (try simp only [decide_eq_true_eq, decide_eq_false_iff_not, wk, wkL, rawD, parRest, D.int.injEq, D.bool.injEq, true_and, and_true] at *); (try rw [mrE_n' ‹¬ mrE v = 0›]); (try simp only [w_small hv, w_jump, or8r hv (Or.inl rfl), or8b hv (Or.inl rfl), or8r4 hv, or8b2 hv]); simp [*]; done)
  have c10 := @tail_0_ok v hv
  have c11 := @pick_0_ok v
  have c12 := @tail_0_ok v hv
  have c13 := @pick_0_ok v
  exact (o96 (d := .tup [.agg [.int .i8 64, .bool false, .int .u8 c, .int .i8 (IntKind.wrap IntKind.i8 (↑(BitVec.toNat (BitVec.ofInt (8 : Nat) (mrR v) ||| BitVec.ofInt (8 : Nat) (h / (4 : Int) % (2 : Int) * (8 : Int)))) : Int)), .int .i8 (IntKind.wrap IntKind.i8 (↑(BitVec.toNat (BitVec.ofInt (8 : Nat) (mrB v) ||| BitVec.ofInt (8 : Nat) (h % (2 : Int) * (8 : Int)))) : Int)), .int .i64 (mrD v), .int .i64 (tlM v (0 : Nat)), .int .i64 (IntKind.wrap IntKind.i64 (pkM v (0 : Nat))), .int .i64 (tlM v (0 : Nat)), .int .i64 (IntKind.wrap IntKind.i64 (IntKind.wrap IntKind.i8 (pkM v (0 : Nat)))), .int .i8 (h % (2 : Int) * (8 : Int))], .bool true]) (E2 ++ [tC (nt (neOf h5)), .ret _ _ _ c10, .ret _ _ _ c11, .ret _ _ _ c12, .ret _ _ _ c13]) (by kernel_rfl)).to (by clear E1 E2; (try simp only [decide_eq_true_eq, decide_eq_false_iff_not, wk, wkL, rawD, parRest, D.int.injEq, D.bool.injEq, true_and, and_true] at *); (try rw [mrE_n' ‹¬ mrE v = 0›]); (try simp only [w_small hv, w_jump, or8r hv (Or.inl rfl), or8b hv (Or.inl rfl), or8r4 hv, or8b2 hv]); simp [*]; done)
 have c14 := @mr_ok v hv
 let E3 : EL := E1 ++ [tC h3, tF, .get (.int .u8 c :: bD v) 0 (.int .u8 c) rfl, .tst (decide ((0 : Int) ≤ (1 : Int) ∧ (1 : Int) ≤ (↑(List.length (List.drop (Int.toNat (1 : Int)) (.int .u8 h :: .int .u8 c :: bD v))) : Int))) true (by (simp [len_bD]; omega))] ++ List.replicate 3 (tC (eT (by (simp [len_bD]; omega) : (c == (15 : Int)) = false))) ++ [tC (by (simp [len_bD]; omega) : (c == (15 : Int)) = false), tF, .ret _ _ _ c14]
 by_cases h15 : mrE v = 0
 ·have c16 := @tail_mr_ok v hv
  have c17 := @pick_mr_ok v
  have c18 := @tail_0_ok v hv
  have c19 := @pick_0_ok v
  exact (o96 (d := .tup [.agg [.int .i8 32, .bool false, .int .u8 c, .int .i8 (IntKind.wrap IntKind.i8 (↑(BitVec.toNat (BitVec.ofInt (8 : Nat) (mrR v) ||| BitVec.ofInt (8 : Nat) (h / (4 : Int) % (2 : Int) * (8 : Int)))) : Int)), .int .i8 (IntKind.wrap IntKind.i8 (↑(BitVec.toNat (BitVec.ofInt (8 : Nat) (mrB v) ||| BitVec.ofInt (8 : Nat) (h % (2 : Int) * (8 : Int)))) : Int)), .int .i64 (mrD v), .int .i64 (tlM v (mrN v)), .int .i64 (IntKind.wrap IntKind.i64 (pkM v (mrN v))), .int .i64 (tlM v (0 : Nat)), .int .i64 (IntKind.wrap IntKind.i64 (IntKind.wrap IntKind.i8 (pkM v (0 : Nat)))), .int .i8 (h % (2 : Int) * (8 : Int))], .bool true]) (E3 ++ [tC (nt (eqI 0 true h15)), .ret _ _ _ c16, .ret _ _ _ c17, .ret _ _ _ c18, .ret _ _ _ c19]) (by kernel_rfl)).to (by clear E1 E3; (try simp only [decide_eq_true_eq, decide_eq_false_iff_not, wk, wkL, rawD, parRest, D.int.injEq, D.bool.injEq, true_and, and_true] at *); (try rw [mrE_n' ‹¬ mrE v = 0›]); (try simp only [w_small hv, w_jump, or8r hv (Or.inl rfl), or8b hv (Or.inl rfl), or8r4 hv, or8b2 hv]); simp [*]; done)
 have c20 := @tail_0_ok v hv
 have c21 := @pick_0_ok v
 have c22 := @tail_0_ok v hv
 have c23 := @pick_0_ok v
 exact (o96 (d := .tup [.agg [.int .i8 32, .bool false, .int .u8 c, .int .i8 (IntKind.wrap IntKind.i8 (↑(BitVec.toNat (BitVec.ofInt (8 : Nat) (mrR v) ||| BitVec.ofInt (8 : Nat) (h / (4 : Int) % (2 : Int) * (8 : Int)))) : Int)), .int .i8 (IntKind.wrap IntKind.i8 (↑(BitVec.toNat (BitVec.ofInt (8 : Nat) (mrB v) ||| BitVec.ofInt (8 : Nat) (h % (2 : Int) * (8 : Int)))) : Int)), .int .i64 (mrD v), .int .i64 (tlM v (0 : Nat)), .int .i64 (IntKind.wrap IntKind.i64 (pkM v (0 : Nat))), .int .i64 (tlM v (0 : Nat)), .int .i64 (IntKind.wrap IntKind.i64 (IntKind.wrap IntKind.i8 (pkM v (0 : Nat)))), .int .i8 (h % (2 : Int) * (8 : Int))], .bool true]) (E3 ++ [tC (nt (neOf h15)), .ret _ _ _ c20, .ret _ _ _ c21, .ret _ _ _ c22, .ret _ _ _ c23]) (by kernel_rfl)).to (by clear E1 E3; (try simp only [decide_eq_true_eq, decide_eq_false_iff_not, wk, wkL, rawD, parRest, D.int.injEq, D.bool.injEq, true_and, and_true] at *); (try rw [mrE_n' ‹¬ mrE v = 0›]); (try simp only [w_small hv, w_jump, or8r hv (Or.inl rfl), or8b hv (Or.inl rfl), or8r4 hv, or8b2 hv]); simp [*]; done)
theorem pa_hxe_ok  : Ret Try.prog 96 ([.lst .no 1 (.int .u8 102 :: [])]) (.tup [rawD (parF 16 0), .bool false]) := by
 have c0 := @pick_c_ok 102 ([])
 have c1 := @pick_n_ok
 have c2 := @rrF_ok 0 (by decide) (by decide) (rfl : false = false)
 exact (o96 (d := .tup [.agg [.int .i8 16, .bool false, .int .u8 0, .int .i8 0, .int .i8 0, .int .i64 0, .int .i64 0, .int .i64 0, .int .i64 0, .int .i64 0, .int .i8 0], .bool false]) [.ret _ _ _ c0, tT, tT, .ret _ _ _ c1, .ret _ _ _ c2, tF, tT] (by kernel_rfl)).to (by simp [wk, wkL, rawD, parF, *]; done)
theorem pa_hx1_ok (d : Int) (v : List Int) (hv : isB v)  : Ret Try.prog 96 ([.lst .no 1 (.int .u8 102 :: .int .u8 15 :: .int .u8 d :: bD v)]) (.tup [rawD (parRest 16 0 0 true d v), .bool true]) := by
 have c0 := @pick_c_ok 102 (.int .u8 15 :: .int .u8 d :: bD v)
 have c1 := @pick_c_ok 15 (.int .u8 d :: bD v)
 have c2 := @rrF_ok 15 (by first | rfl | decide) (by first | rfl | decide) (rfl : false = false)
 have c3 := @mr_ok v hv
 let E1 : EL := [.ret _ _ _ c0, tT, .tst (decide ((0 : Int) ≤ (1 : Int) ∧ (1 : Int) ≤ (↑(List.length (.int .u8 102 :: .int .u8 15 :: .int .u8 d :: bD v)) : Int))) true (by (simp [len_bD]; omega)), .ret _ _ _ c1, .ret _ _ _ c2, tF, tF, .get (.int .u8 15 :: .int .u8 d :: bD v) 0 (.int .u8 15) rfl, .tst (decide ((0 : Int) ≤ (1 : Int) ∧ (1 : Int) ≤ (↑(List.length (List.drop (Int.toNat (1 : Int)) (.int .u8 102 :: .int .u8 15 :: .int .u8 d :: bD v))) : Int))) true (by (simp [len_bD]; omega)), tT, tT, tT, tT, tC (ltL 0 (by (simp [len_bD]; omega) : (decide ((↑(List.length (.int .u8 d :: bD v)) : Int) < (1 : Int))) = false)), .get (.int .u8 d :: bD v) 0 (.int .u8 d) rfl, .tst (decide ((0 : Int) ≤ (1 : Int) ∧ (1 : Int) ≤ (↑(List.length (List.drop (Int.toNat (1 : Int)) (List.drop (Int.toNat (1 : Int)) (.int .u8 102 :: .int .u8 15 :: .int .u8 d :: bD v)))) : Int))) true (by (simp [len_bD]; omega)), .ret _ _ _ c3]
 by_cases h4 : mrE v = 0
 ·have c5 := @tail_mr_ok v hv
  have c6 := @pick_mr_ok v
  have c7 := @tail_0_ok v hv
  have c8 := @pick_0_ok v
  exact (o96 (d := .tup [.agg [.int .i8 16, .bool true, .int .u8 d, .int .i8 (IntKind.wrap IntKind.i8 (↑(BitVec.toNat (BitVec.ofInt (8 : Nat) (mrR v) ||| BitVec.ofInt (8 : Nat) (0 : Int))) : Int)), .int .i8 (IntKind.wrap IntKind.i8 (↑(BitVec.toNat (BitVec.ofInt (8 : Nat) (mrB v) ||| BitVec.ofInt (8 : Nat) (0 : Int))) : Int)), .int .i64 (mrD v), .int .i64 (tlM v (mrN v)), .int .i64 (IntKind.wrap IntKind.i64 (pkM v (mrN v))), .int .i64 (tlM v (0 : Nat)), .int .i64 (IntKind.wrap IntKind.i64 (IntKind.wrap IntKind.i8 (pkM v (0 : Nat)))), .int .i8 0], .bool true]) (E1 ++ [tC (nt (eqI 0 true h4)), .ret _ _ _ c5, .ret _ _ _ c6, .ret _ _ _ c7, .ret _ _ _ c8]) (by kernel_rfl)).to (by clear E1; (try simp only [decide_eq_true_eq, decide_eq_false_iff_not, wk, wkL, rawD, parRest, D.int.injEq, D.bool.injEq, true_and, and_true] at *); (try rw [mrE_n' ‹¬ mrE v = 0›]); (try simp only [w_small hv, w_jump, or8r hv (Or.inl rfl), or8b hv (Or.inl rfl), or8r4 hv, or8b2 hv]); simp [*]; done)
 have c9 := @tail_0_ok v hv
 have c10 := @pick_0_ok v
 have c11 := @tail_0_ok v hv
 have c12 := @pick_0_ok v
 exact (o96 (d := .tup [.agg [.int .i8 16, .bool true, .int .u8 d, .int .i8 (IntKind.wrap IntKind.i8 (↑(BitVec.toNat (BitVec.ofInt (8 : Nat) (mrR v) ||| BitVec.ofInt (8 : Nat) (0 : Int))) : Int)), .int .i8 (IntKind.wrap IntKind.i8 (↑(BitVec.toNat (BitVec.ofInt (8 : Nat) (mrB v) ||| BitVec.ofInt (8 : Nat) (0 : Int))) : Int)), .int .i64 (mrD v), .int .i64 (tlM v (0 : Nat)), .int .i64 (IntKind.wrap IntKind.i64 (pkM v (0 : Nat))), .int .i64 (tlM v (0 : Nat)), .int .i64 (IntKind.wrap IntKind.i64 (IntKind.wrap IntKind.i8 (pkM v (0 : Nat)))), .int .i8 0], .bool true]) (E1 ++ [tC (nt (neOf h4)), .ret _ _ _ c9, .ret _ _ _ c10, .ret _ _ _ c11, .ret _ _ _ c12]) (by kernel_rfl)).to (by clear E1; (try simp only [decide_eq_true_eq, decide_eq_false_iff_not, wk, wkL, rawD, parRest, D.int.injEq, D.bool.injEq, true_and, and_true] at *); (try rw [mrE_n' ‹¬ mrE v = 0›]); (try simp only [w_small hv, w_jump, or8r hv (Or.inl rfl), or8b hv (Or.inl rfl), or8r4 hv, or8b2 hv]); simp [*]; done)
theorem pa_hx0_ok  : Ret Try.prog 96 ([.lst .no 1 (.int .u8 102 :: .int .u8 15 :: [])]) (.tup [rawD (parRest 16 0 0 false 15 []), .bool true]) := by
 have c0 := @pick_c_ok 102 ([.int .u8 15])
 have c1 := @pick_c_ok 15 ([])
 have c2 := @rrF_ok 15 (by decide) (by decide) (rfl : false = false)
 have c3 := @mr_nil_ok
 have c4 := @pick_n_ok
 have c5 := @pick_n_ok
 exact (o96 (d := .tup [.agg [.int .i8 16, .bool false, .int .u8 15, .int .i8 0, .int .i8 0, .int .i64 0, .int .i64 0, .int .i64 0, .int .i64 0, .int .i64 0, .int .i8 0], .bool true]) [.ret _ _ _ c0, tT, tT, .ret _ _ _ c1, .ret _ _ _ c2, tF, tF, .get ([.int .u8 15]) 0 (.int .u8 15) rfl, tT, tT, tT, tT, tT, tF, .ret _ _ _ c3, tT, .inl, tT, .ret _ _ _ c4, .inl, tT, .ret _ _ _ c5] (by kernel_rfl)).to (by (try simp only [decide_eq_true_eq, decide_eq_false_iff_not, wk, wkL, rawD, parRest, D.int.injEq, D.bool.injEq, true_and, and_true] at *); (try rw [mrE_n' ‹¬ mrE [] = 0›]); (try simp only [w_small nilB, w_jump, or8r nilB (Or.inl rfl), or8b nilB (Or.inl rfl), or8r4 nilB, or8b2 nilB]); simp [*, mrR, mrB, mrD, mrN, tlM, pkM, signed1]; done)
theorem pa_hxc_ok (c : Int) (k0 : 0 ≤ c) (k1 : c ≤ 255) (hq : rexQ c = false) (hc : ¬ c = 15) (v : List Int) (hv : isB v)  : Ret Try.prog 96 ([.lst .no 1 (.int .u8 102 :: .int .u8 c :: bD v)]) (.tup [rawD (parRest 16 0 0 false c v), .bool true]) := by
 have c0 := @pick_c_ok 102 (.int .u8 c :: bD v)
 have c1 := @pick_c_ok c (bD v)
 have c2 := @rrF_ok c k0 k1 hq
 have c3 := @mr_ok v hv
 let E1 : EL := ([.ret _ _ _ c0, tT, .tst (decide ((0 : Int) ≤ (1 : Int) ∧ (1 : Int) ≤ (↑(List.length (.int .u8 102 :: .int .u8 c :: bD v)) : Int))) true (by (simp [len_bD]; omega)), .ret _ _ _ c1, .ret _ _ _ c2, tF, tF, .get (.int .u8 c :: bD v) 0 (.int .u8 c) rfl, .tst (decide ((0 : Int) ≤ (1 : Int) ∧ (1 : Int) ≤ (↑(List.length (List.drop (Int.toNat (1 : Int)) (.int .u8 102 :: .int .u8 c :: bD v))) : Int))) true (by (simp [len_bD]; omega))] ++ List.replicate 3 (tC (eT (by (simp [len_bD]; omega) : (c == (15 : Int)) = false))) ++ [tC (by (simp [len_bD]; omega) : (c == (15 : Int)) = false), tF, .ret _ _ _ c3])
 by_cases h4 : mrE v = 0
 ·have c5 := @tail_mr_ok v hv
  have c6 := @pick_mr_ok v
  have c7 := @tail_0_ok v hv
  have c8 := @pick_0_ok v
  exact (o96 (d := .tup [.agg [.int .i8 16, .bool false, .int .u8 c, .int .i8 (IntKind.wrap IntKind.i8 (↑(BitVec.toNat (BitVec.ofInt (8 : Nat) (mrR v) ||| BitVec.ofInt (8 : Nat) (0 : Int))) : Int)), .int .i8 (IntKind.wrap IntKind.i8 (↑(BitVec.toNat (BitVec.ofInt (8 : Nat) (mrB v) ||| BitVec.ofInt (8 : Nat) (0 : Int))) : Int)), .int .i64 (mrD v), .int .i64 (tlM v (mrN v)), .int .i64 (IntKind.wrap IntKind.i64 (pkM v (mrN v))), .int .i64 (tlM v (0 : Nat)), .int .i64 (IntKind.wrap IntKind.i64 (IntKind.wrap IntKind.i8 (pkM v (0 : Nat)))), .int .i8 0], .bool true]) (E1 ++ [tC (nt (eqI 0 true h4)), .ret _ _ _ c5, .ret _ _ _ c6, .ret _ _ _ c7, .ret _ _ _ c8]) (by kernel_rfl)).to (by clear E1; (try simp only [decide_eq_true_eq, decide_eq_false_iff_not, wk, wkL, rawD, parRest, D.int.injEq, D.bool.injEq, true_and, and_true] at *); (try rw [mrE_n' ‹¬ mrE v = 0›]); (try simp only [w_small hv, w_jump, or8r hv (Or.inl rfl), or8b hv (Or.inl rfl), or8r4 hv, or8b2 hv]); simp [*]; done)
 have c9 := @tail_0_ok v hv
 have c10 := @pick_0_ok v
 have c11 := @tail_0_ok v hv
 have c12 := @pick_0_ok v
 exact (o96 (d := .tup [.agg [.int .i8 16, .bool false, .int .u8 c, .int .i8 (IntKind.wrap IntKind.i8 (↑(BitVec.toNat (BitVec.ofInt (8 : Nat) (mrR v) ||| BitVec.ofInt (8 : Nat) (0 : Int))) : Int)), .int .i8 (IntKind.wrap IntKind.i8 (↑(BitVec.toNat (BitVec.ofInt (8 : Nat) (mrB v) ||| BitVec.ofInt (8 : Nat) (0 : Int))) : Int)), .int .i64 (mrD v), .int .i64 (tlM v (0 : Nat)), .int .i64 (IntKind.wrap IntKind.i64 (pkM v (0 : Nat))), .int .i64 (tlM v (0 : Nat)), .int .i64 (IntKind.wrap IntKind.i64 (IntKind.wrap IntKind.i8 (pkM v (0 : Nat)))), .int .i8 0], .bool true]) (E1 ++ [tC (nt (neOf h4)), .ret _ _ _ c9, .ret _ _ _ c10, .ret _ _ _ c11, .ret _ _ _ c12]) (by kernel_rfl)).to (by clear E1; (try simp only [decide_eq_true_eq, decide_eq_false_iff_not, wk, wkL, rawD, parRest, D.int.injEq, D.bool.injEq, true_and, and_true] at *); (try rw [mrE_n' ‹¬ mrE v = 0›]); (try simp only [w_small hv, w_jump, or8r hv (Or.inl rfl), or8b hv (Or.inl rfl), or8r4 hv, or8b2 hv]); simp [*]; done)
theorem pa_hre_ok (h : Int) (g0 : 0 ≤ h) (g1 : h ≤ 255) (hq : rexQ h = true)  : Ret Try.prog 96 ([.lst .no 1 (.int .u8 102 :: .int .u8 h :: [])]) (.tup [rawD (parF (if h / 8 % 2 = 1 then 64 else 16) (h % 2 * 8)), .bool false]) := by
 have c0 := @pick_c_ok 102 ([.int .u8 h])
 have c1 := @pick_c_ok h ([])
 have c2 := @rrT_ok h g0 g1 hq
 rcases bft (decide (h / 8 % 2 = 1)) with h3 | h3
 ·exact (o96 (d := .tup [.agg [.int .i8 64, .bool false, .int .u8 0, .int .i8 0, .int .i8 0, .int .i64 0, .int .i64 0, .int .i64 0, .int .i64 0, .int .i64 0, .int .i8 (h % 2 * 8)], .bool false]) [.ret _ _ _ c0, tT, tT, .ret _ _ _ c1, .ret _ _ _ c2, tT, tT, tC h3, tT] (by kernel_rfl)).to (by simp only [decide_eq_true_eq, decide_eq_false_iff_not] at *; simp [wk, wkL, rawD, parF, *])
 exact (o96 (d := .tup [.agg [.int .i8 16, .bool false, .int .u8 0, .int .i8 0, .int .i8 0, .int .i64 0, .int .i64 0, .int .i64 0, .int .i64 0, .int .i64 0, .int .i8 (h % 2 * 8)], .bool false]) [.ret _ _ _ c0, tT, tT, .ret _ _ _ c1, .ret _ _ _ c2, tT, tT, tC h3, tT] (by kernel_rfl)).to (by simp only [decide_eq_true_eq, decide_eq_false_iff_not] at *; simp [wk, wkL, rawD, parF, *])
theorem pa_hr1_ok (h : Int) (g0 : 0 ≤ h) (g1 : h ≤ 255) (hq : rexQ h = true) (d : Int) (v : List Int) (hv : isB v)  : Ret Try.prog 96 ([.lst .no 1 (.int .u8 102 :: .int .u8 h :: .int .u8 15 :: .int .u8 d :: bD v)]) (.tup [rawD (parRest (if h / 8 % 2 = 1 then 64 else 16) (h / 4 % 2 * 8) (h % 2 * 8) true d v), .bool true]) := by
 have c0 := @pick_c_ok 102 (.int .u8 h :: .int .u8 15 :: .int .u8 d :: bD v)
 have c1 := @pick_c_ok h (.int .u8 15 :: .int .u8 d :: bD v)
 have c2 := @rrT_ok h g0 g1 hq
 let E1 : EL := [.ret _ _ _ c0, tT, .tst (decide ((0 : Int) ≤ (1 : Int) ∧ (1 : Int) ≤ (↑(List.length (.int .u8 102 :: .int .u8 h :: .int .u8 15 :: .int .u8 d :: bD v)) : Int))) true (by (simp [len_bD]; omega)), .ret _ _ _ c1, .ret _ _ _ c2, tT, .tst (decide ((0 : Int) ≤ (1 : Int) ∧ (1 : Int) ≤ (↑(List.length (List.drop (Int.toNat (1 : Int)) (.int .u8 102 :: .int .u8 h :: .int .u8 15 :: .int .u8 d :: bD v))) : Int))) true (by (simp [len_bD]; omega))]
 rcases bft (decide (h / (8 : Int) % (2 : Int) = (1 : Int))) with h3 | h3
 ·have c4 := @mr_ok v hv
  let E2 : EL := E1 ++ [tC h3, tF, .get (.int .u8 15 :: .int .u8 d :: bD v) 0 (.int .u8 15) rfl, .tst (decide ((0 : Int) ≤ (1 : Int) ∧ (1 : Int) ≤ (↑(List.length (List.drop (Int.toNat (1 : Int)) (List.drop (Int.toNat (1 : Int)) (.int .u8 102 :: .int .u8 h :: .int .u8 15 :: .int .u8 d :: bD v)))) : Int))) true (by (simp [len_bD]; omega)), tT, tT, tT, tT, tC (ltL 0 (by (simp [len_bD]; omega) : (decide ((↑(List.length (.int .u8 d :: bD v)) : Int) < (1 : Int))) = false)), .get (.int .u8 d :: bD v) 0 (.int .u8 d) rfl, .tst (decide ((0 : Int) ≤ (1 : Int) ∧ (1 : Int) ≤ (↑(List.length (List.drop (Int.toNat (1 : Int)) (List.drop (Int.toNat (1 : Int)) (List.drop (Int.toNat (1 : Int)) (.int .u8 102 :: .int .u8 h :: .int .u8 15 :: .int .u8 d :: bD v))))) : Int))) true (by (simp [len_bD]; omega)), .ret _ _ _ c4]
  by_cases h5 : mrE v = 0
  ·have c6 := @tail_mr_ok v hv
   have c7 := @pick_mr_ok v
   have c8 := @tail_0_ok v hv
   have c9 := @pick_0_ok v
   exact (o96 (d := .tup [.agg [.int .i8 64, .bool true, .int .u8 d, .int .i8 (IntKind.wrap IntKind.i8 (↑(BitVec.toNat (BitVec.ofInt (8 : Nat) (mrR v) ||| BitVec.ofInt (8 : Nat) (h / (4 : Int) % (2 : Int) * (8 : Int)))) : Int)), .int .i8 (IntKind.wrap IntKind.i8 (↑(BitVec.toNat (BitVec.ofInt (8 : Nat) (mrB v) ||| BitVec.ofInt (8 : Nat) (h % (2 : Int) * (8 : Int)))) : Int)), .int .i64 (mrD v), .int .i64 (tlM v (mrN v)), .int .i64 (IntKind.wrap IntKind.i64 (pkM v (mrN v))), .int .i64 (tlM v (0 : Nat)), .int .i64 (IntKind.wrap IntKind.i64 (IntKind.wrap IntKind.i8 (pkM v (0 : Nat)))), .int .i8 (h % (2 : Int) * (8 : Int))], .bool true]) (E2 ++ [tC (nt (eqI 0 true h5)), .ret _ _ _ c6, .ret _ _ _ c7, .ret _ _ _ c8, .ret _ _ _ c9]) (by kernel_rfl)).to (by clear E1 E2; (try simp only [decide_eq_true_eq, decide_eq_false_iff_not, wk, wkL, rawD, parRest, D.int.injEq, D.bool.injEq, true_and, and_true] at *); (try rw [mrE_n' ‹¬ mrE v = 0›]); (try simp only [w_small hv, w_jump, or8r hv (Or.inl rfl), or8b hv (Or.inl rfl), or8r4 hv, or8b2 hv]); simp [*]; done)
  have c10 := @tail_0_ok v hv
  have c11 := @pick_0_ok v
  have c12 := @tail_0_ok v hv
  have c13 := @pick_0_ok v
  exact (o96 (d := .tup [.agg [.int .i8 64, .bool true, .int .u8 d, .int .i8 (IntKind.wrap IntKind.i8 (↑(BitVec.toNat (BitVec.ofInt (8 : Nat) (mrR v) ||| BitVec.ofInt (8 : Nat) (h / (4 : Int) % (2 : Int) * (8 : Int)))) : Int)), .int .i8 (IntKind.wrap IntKind.i8 (↑(BitVec.toNat (BitVec.ofInt (8 : Nat) (mrB v) ||| BitVec.ofInt (8 : Nat) (h % (2 : Int) * (8 : Int)))) : Int)), .int .i64 (mrD v), .int .i64 (tlM v (0 : Nat)), .int .i64 (IntKind.wrap IntKind.i64 (pkM v (0 : Nat))), .int .i64 (tlM v (0 : Nat)), .int .i64 (IntKind.wrap IntKind.i64 (IntKind.wrap IntKind.i8 (pkM v (0 : Nat)))), .int .i8 (h % (2 : Int) * (8 : Int))], .bool true]) (E2 ++ [tC (nt (neOf h5)), .ret _ _ _ c10, .ret _ _ _ c11, .ret _ _ _ c12, .ret _ _ _ c13]) (by kernel_rfl)).to (by clear E1 E2; (try simp only [decide_eq_true_eq, decide_eq_false_iff_not, wk, wkL, rawD, parRest, D.int.injEq, D.bool.injEq, true_and, and_true] at *); (try rw [mrE_n' ‹¬ mrE v = 0›]); (try simp only [w_small hv, w_jump, or8r hv (Or.inl rfl), or8b hv (Or.inl rfl), or8r4 hv, or8b2 hv]); simp [*]; done)
 have c14 := @mr_ok v hv
 let E3 : EL := E1 ++ [tC h3, tF, .get (.int .u8 15 :: .int .u8 d :: bD v) 0 (.int .u8 15) rfl, .tst (decide ((0 : Int) ≤ (1 : Int) ∧ (1 : Int) ≤ (↑(List.length (List.drop (Int.toNat (1 : Int)) (List.drop (Int.toNat (1 : Int)) (.int .u8 102 :: .int .u8 h :: .int .u8 15 :: .int .u8 d :: bD v)))) : Int))) true (by (simp [len_bD]; omega)), tT, tT, tT, tT, tC (ltL 0 (by (simp [len_bD]; omega) : (decide ((↑(List.length (.int .u8 d :: bD v)) : Int) < (1 : Int))) = false)), .get (.int .u8 d :: bD v) 0 (.int .u8 d) rfl, .tst (decide ((0 : Int) ≤ (1 : Int) ∧ (1 : Int) ≤ (↑(List.length (List.drop (Int.toNat (1 : Int)) (List.drop (Int.toNat (1 : Int)) (List.drop (Int.toNat (1 : Int)) (.int .u8 102 :: .int .u8 h :: .int .u8 15 :: .int .u8 d :: bD v))))) : Int))) true (by (simp [len_bD]; omega)), .ret _ _ _ c14]
 by_cases h15 : mrE v = 0
 ·have c16 := @tail_mr_ok v hv
  have c17 := @pick_mr_ok v
  have c18 := @tail_0_ok v hv
  have c19 := @pick_0_ok v
  exact (o96 (d := .tup [.agg [.int .i8 16, .bool true, .int .u8 d, .int .i8 (IntKind.wrap IntKind.i8 (↑(BitVec.toNat (BitVec.ofInt (8 : Nat) (mrR v) ||| BitVec.ofInt (8 : Nat) (h / (4 : Int) % (2 : Int) * (8 : Int)))) : Int)), .int .i8 (IntKind.wrap IntKind.i8 (↑(BitVec.toNat (BitVec.ofInt (8 : Nat) (mrB v) ||| BitVec.ofInt (8 : Nat) (h % (2 : Int) * (8 : Int)))) : Int)), .int .i64 (mrD v), .int .i64 (tlM v (mrN v)), .int .i64 (IntKind.wrap IntKind.i64 (pkM v (mrN v))), .int .i64 (tlM v (0 : Nat)), .int .i64 (IntKind.wrap IntKind.i64 (IntKind.wrap IntKind.i8 (pkM v (0 : Nat)))), .int .i8 (h % (2 : Int) * (8 : Int))], .bool true]) (E3 ++ [tC (nt (eqI 0 true h15)), .ret _ _ _ c16, .ret _ _ _ c17, .ret _ _ _ c18, .ret _ _ _ c19]) (by kernel_rfl)).to (by clear E1 E3; (try simp only [decide_eq_true_eq, decide_eq_false_iff_not, wk, wkL, rawD, parRest, D.int.injEq, D.bool.injEq, true_and, and_true] at *); (try rw [mrE_n' ‹¬ mrE v = 0›]); (try simp only [w_small hv, w_jump, or8r hv (Or.inl rfl), or8b hv (Or.inl rfl), or8r4 hv, or8b2 hv]); simp [*]; done)
 have c20 := @tail_0_ok v hv
 have c21 := @pick_0_ok v
 have c22 := @tail_0_ok v hv
 have c23 := @pick_0_ok v
 exact (o96 (d := .tup [.agg [.int .i8 16, .bool true, .int .u8 d, .int .i8 (IntKind.wrap IntKind.i8 (↑(BitVec.toNat (BitVec.ofInt (8 : Nat) (mrR v) ||| BitVec.ofInt (8 : Nat) (h / (4 : Int) % (2 : Int) * (8 : Int)))) : Int)), .int .i8 (IntKind.wrap IntKind.i8 (↑(BitVec.toNat (BitVec.ofInt (8 : Nat) (mrB v) ||| BitVec.ofInt (8 : Nat) (h % (2 : Int) * (8 : Int)))) : Int)), .int .i64 (mrD v), .int .i64 (tlM v (0 : Nat)), .int .i64 (IntKind.wrap IntKind.i64 (pkM v (0 : Nat))), .int .i64 (tlM v (0 : Nat)), .int .i64 (IntKind.wrap IntKind.i64 (IntKind.wrap IntKind.i8 (pkM v (0 : Nat)))), .int .i8 (h % (2 : Int) * (8 : Int))], .bool true]) (E3 ++ [tC (nt (neOf h15)), .ret _ _ _ c20, .ret _ _ _ c21, .ret _ _ _ c22, .ret _ _ _ c23]) (by kernel_rfl)).to (by clear E1 E3; (try simp only [decide_eq_true_eq, decide_eq_false_iff_not, wk, wkL, rawD, parRest, D.int.injEq, D.bool.injEq, true_and, and_true] at *); (try rw [mrE_n' ‹¬ mrE v = 0›]); (try simp only [w_small hv, w_jump, or8r hv (Or.inl rfl), or8b hv (Or.inl rfl), or8r4 hv, or8b2 hv]); simp [*]; done)
theorem pa_hr0_ok (h : Int) (g0 : 0 ≤ h) (g1 : h ≤ 255) (hq : rexQ h = true)  : Ret Try.prog 96 ([.lst .no 1 (.int .u8 102 :: .int .u8 h :: .int .u8 15 :: [])]) (.tup [rawD (parRest (if h / 8 % 2 = 1 then 64 else 16) (h / 4 % 2 * 8) (h % 2 * 8) false 15 []), .bool true]) := by
 have c0 := @pick_c_ok 102 ([.int .u8 h, .int .u8 15])
 have c1 := @pick_c_ok h ([.int .u8 15])
 have c2 := @rrT_ok h g0 g1 hq
 rcases bft (decide (h / 8 % 2 = 1)) with h3 | h3
 ·have c4 := @mr_nil_ok
  have c5 := @pick_n_ok
  have c6 := @pick_n_ok
  exact (o96 (d := .tup [.agg [.int .i8 64, .bool false, .int .u8 15, .int .i8 (IntKind.wrap IntKind.i8 (↑(BitVec.toNat (BitVec.ofInt (8 : Nat) 0 ||| BitVec.ofInt (8 : Nat) (h / 4 % 2 * 8))) : Int)), .int .i8 (IntKind.wrap IntKind.i8 (↑(BitVec.toNat (BitVec.ofInt (8 : Nat) 0 ||| BitVec.ofInt (8 : Nat) (h % 2 * 8))) : Int)), .int .i64 0, .int .i64 0, .int .i64 0, .int .i64 0, .int .i64 0, .int .i8 (h % 2 * 8)], .bool true]) [.ret _ _ _ c0, tT, tT, .ret _ _ _ c1, .ret _ _ _ c2, tT, tT, tC h3, tF, .get ([.int .u8 15]) 0 (.int .u8 15) rfl, tT, tT, tT, tT, tT, tF, .ret _ _ _ c4, tT, .inl, tT, .ret _ _ _ c5, .inl, tT, .ret _ _ _ c6] (by kernel_rfl)).to (by (try simp only [decide_eq_true_eq, decide_eq_false_iff_not, wk, wkL, rawD, parRest, D.int.injEq, D.bool.injEq, true_and, and_true] at *); (try rw [mrE_n' ‹¬ mrE [] = 0›]); (try simp only [w_small nilB, w_jump, or8r nilB (Or.inl rfl), or8b nilB (Or.inl rfl), or8r4 nilB, or8b2 nilB]); simp [*, mrR, mrB, mrD, mrN, tlM, pkM, signed1, w_i8]; omega)
 have c7 := @mr_nil_ok
 have c8 := @pick_n_ok
 have c9 := @pick_n_ok
 exact (o96 (d := .tup [.agg [.int .i8 16, .bool false, .int .u8 15, .int .i8 (IntKind.wrap IntKind.i8 (↑(BitVec.toNat (BitVec.ofInt (8 : Nat) 0 ||| BitVec.ofInt (8 : Nat) (h / 4 % 2 * 8))) : Int)), .int .i8 (IntKind.wrap IntKind.i8 (↑(BitVec.toNat (BitVec.ofInt (8 : Nat) 0 ||| BitVec.ofInt (8 : Nat) (h % 2 * 8))) : Int)), .int .i64 0, .int .i64 0, .int .i64 0, .int .i64 0, .int .i64 0, .int .i8 (h % 2 * 8)], .bool true]) [.ret _ _ _ c0, tT, tT, .ret _ _ _ c1, .ret _ _ _ c2, tT, tT, tC h3, tF, .get ([.int .u8 15]) 0 (.int .u8 15) rfl, tT, tT, tT, tT, tT, tF, .ret _ _ _ c7, tT, .inl, tT, .ret _ _ _ c8, .inl, tT, .ret _ _ _ c9] (by kernel_rfl)).to (by (try simp only [decide_eq_true_eq, decide_eq_false_iff_not, wk, wkL, rawD, parRest, D.int.injEq, D.bool.injEq, true_and, and_true] at *); (try rw [mrE_n' ‹¬ mrE [] = 0›]); (try simp only [w_small nilB, w_jump, or8r nilB (Or.inl rfl), or8b nilB (Or.inl rfl), or8r4 nilB, or8b2 nilB]); simp [*, mrR, mrB, mrD, mrN, tlM, pkM, signed1, w_i8]; omega)
theorem pa_hrc_ok (h : Int) (g0 : 0 ≤ h) (g1 : h ≤ 255) (hq : rexQ h = true) (c : Int) (hc : ¬ c = 15) (v : List Int) (hv : isB v)  : Ret Try.prog 96 ([.lst .no 1 (.int .u8 102 :: .int .u8 h :: .int .u8 c :: bD v)]) (.tup [rawD (parRest (if h / 8 % 2 = 1 then 64 else 16) (h / 4 % 2 * 8) (h % 2 * 8) false c v), .bool true]) := by
 have c0 := @pick_c_ok 102 (.int .u8 h :: .int .u8 c :: bD v)
 have c1 := @pick_c_ok h (.int .u8 c :: bD v)
 have c2 := @rrT_ok h g0 g1 hq
 let E1 : EL := [.ret _ _ _ c0, tT, .tst (decide ((0 : Int) ≤ (1 : Int) ∧ (1 : Int) ≤ (↑(List.length (.int .u8 102 :: .int .u8 h :: .int .u8 c :: bD v)) : Int))) true (by (simp [len_bD]; omega)), .ret _ _ _ c1, .ret _ _ _ c2, tT, .tst (decide ((0 : Int) ≤ (1 : Int) ∧ (1 : Int) ≤ (↑(List.length (List.drop (Int.toNat (1 : Int)) (.int .u8 102 :: .int .u8 h :: .int .u8 c :: bD v))) : Int))) true (by (simp [len_bD]; omega))]
 rcases bft (decide (h / (8 : Int) % (2 : Int) = (1 : Int))) with h3 | h3
 ·have c4 := @mr_ok v hv
  let E2 : EL := E1 ++ [tC h3, tF, .get (.int .u8 c :: bD v) 0 (.int .u8 c) rfl, .tst (decide ((0 : Int) ≤ (1 : Int) ∧ (1 : Int) ≤ (↑(List.length (List.drop (Int.toNat (1 : Int)) (List.drop (Int.toNat (1 : Int)) (.int .u8 102 :: .int .u8 h :: .int .u8 c :: bD v)))) : Int))) true (by (simp [len_bD]; omega))] ++ List.replicate 3 (tC (eT (by (simp [len_bD]; omega) : (c == (15 : Int)) = false))) ++ [tC (by (simp [len_bD]; omega) : (c == (15 : Int)) = false), tF, .ret _ _ _ c4]
  by_cases h5 : mrE v = 0
  ·have c6 := @tail_mr_ok v hv
   have c7 := @pick_mr_ok v
   have c8 := @tail_0_ok v hv
   have c9 := @pick_0_ok v
   exact (o96 (d := .tup [.agg [.int .i8 64, .bool false, .int .u8 c, .int .i8 (IntKind.wrap IntKind.i8 (↑(BitVec.toNat (BitVec.ofInt (8 : Nat) (mrR v) ||| BitVec.ofInt (8 : Nat) (h / (4 : Int) % (2 : Int) * (8 : Int)))) : Int)), .int .i8 (IntKind.wrap IntKind.i8 (↑(BitVec.toNat (BitVec.ofInt (8 : Nat) (mrB v) ||| BitVec.ofInt (8 : Nat) (h % (2 : Int) * (8 : Int)))) : Int)), .int .i64 (mrD v), .int .i64 (tlM v (mrN v)), .int .i64 (IntKind.wrap IntKind.i64 (pkM v (mrN v))), .int .i64 (tlM v (0 : Nat)), .int .i64 (IntKind.wrap IntKind.i64 (IntKind.wrap IntKind.i8 (pkM v (0 : Nat)))), .int .i8 (h % (2 : Int) * (8 : Int))], .bool true]) (E2 ++ [tC (nt (eqI 0 true h5)), .ret _ _ _ c6, .ret _ _ _ c7, .ret _ _ _ c8, .ret _ _ _ c9]) (by kernel_rfl)).to (by clear E1 E2; (try simp only [decide_eq_true_eq, decide_eq_false_iff_not, wk, wkL, rawD, parRest, D.int.injEq, D.bool.injEq, true_and, and_true] at *); (try rw [mrE_n' ‹¬ mrE v = 0›]); (try simp only [w_small hv, w_jump, or8r hv (Or.inl rfl), or8b hv (Or.inl rfl), or8r4 hv, or8b2 hv]); simp [*]; done)
  have c10 := @tail_0_ok v hv
  have c11 := @pick_0_ok v
  have c12 := @tail_0_ok v hv
  have c13 := @pick_0_ok v
  exact (o96 (d := .tup [.agg [.int .i8 64, .bool false, .int .u8 c, .int .i8 (IntKind.wrap IntKind.i8 (↑(BitVec.toNat (BitVec.ofInt (8 : Nat) (mrR v) ||| BitVec.ofInt (8 : Nat) (h / (4 : Int) % (2 : Int) * (8 : Int)))) : Int)), .int .i8 (IntKind.wrap IntKind.i8 (↑(BitVec.toNat (BitVec.ofInt (8 : Nat) (mrB v) ||| BitVec.ofInt (8 : Nat) (h % (2 : Int) * (8 : Int)))) : Int)), .int .i64 (mrD v), .int .i64 (tlM v (0 : Nat)), .int .i64 (IntKind.wrap IntKind.i64 (pkM v (0 : Nat))), .int .i64 (tlM v (0 : Nat)), .int .i64 (IntKind.wrap IntKind.i64 (IntKind.wrap IntKind.i8 (pkM v (0 : Nat)))), .int .i8 (h % (2 : Int) * (8 : Int))], .bool true]) (E2 ++ [tC (nt (neOf h5)), .ret _ _ _ c10, .ret _ _ _ c11, .ret _ _ _ c12, .ret _ _ _ c13]) (by kernel_rfl)).to (by clear E1 E2; (try simp only [decide_eq_true_eq, decide_eq_false_iff_not, wk, wkL, rawD, parRest, D.int.injEq, D.bool.injEq, true_and, and_true] at *); (try rw [mrE_n' ‹¬ mrE v = 0›]); (try simp only [w_small hv, w_jump, or8r hv (Or.inl rfl), or8b hv (Or.inl rfl), or8r4 hv, or8b2 hv]); simp [*]; done)
 have c14 := @mr_ok v hv
 let E3 : EL := E1 ++ [tC h3, tF, .get (.int .u8 c :: bD v) 0 (.int .u8 c) rfl, .tst (decide ((0 : Int) ≤ (1 : Int) ∧ (1 : Int) ≤ (↑(List.length (List.drop (Int.toNat (1 : Int)) (List.drop (Int.toNat (1 : Int)) (.int .u8 102 :: .int .u8 h :: .int .u8 c :: bD v)))) : Int))) true (by (simp [len_bD]; omega))] ++ List.replicate 3 (tC (eT (by (simp [len_bD]; omega) : (c == (15 : Int)) = false))) ++ [tC (by (simp [len_bD]; omega) : (c == (15 : Int)) = false), tF, .ret _ _ _ c14]
 by_cases h15 : mrE v = 0
 ·have c16 := @tail_mr_ok v hv
  have c17 := @pick_mr_ok v
  have c18 := @tail_0_ok v hv
  have c19 := @pick_0_ok v
  exact (o96 (d := .tup [.agg [.int .i8 16, .bool false, .int .u8 c, .int .i8 (IntKind.wrap IntKind.i8 (↑(BitVec.toNat (BitVec.ofInt (8 : Nat) (mrR v) ||| BitVec.ofInt (8 : Nat) (h / (4 : Int) % (2 : Int) * (8 : Int)))) : Int)), .int .i8 (IntKind.wrap IntKind.i8 (↑(BitVec.toNat (BitVec.ofInt (8 : Nat) (mrB v) ||| BitVec.ofInt (8 : Nat) (h % (2 : Int) * (8 : Int)))) : Int)), .int .i64 (mrD v), .int .i64 (tlM v (mrN v)), .int .i64 (IntKind.wrap IntKind.i64 (pkM v (mrN v))), .int .i64 (tlM v (0 : Nat)), .int .i64 (IntKind.wrap IntKind.i64 (IntKind.wrap IntKind.i8 (pkM v (0 : Nat)))), .int .i8 (h % (2 : Int) * (8 : Int))], .bool true]) (E3 ++ [tC (nt (eqI 0 true h15)), .ret _ _ _ c16, .ret _ _ _ c17, .ret _ _ _ c18, .ret _ _ _ c19]) (by kernel_rfl)).to (by clear E1 E3; (try simp only [decide_eq_true_eq, decide_eq_false_iff_not, wk, wkL, rawD, parRest, D.int.injEq, D.bool.injEq, true_and, and_true] at *); (try rw [mrE_n' ‹¬ mrE v = 0›]); (try simp only [w_small hv, w_jump, or8r hv (Or.inl rfl), or8b hv (Or.inl rfl), or8r4 hv, or8b2 hv]); simp [*]; done)
 have c20 := @tail_0_ok v hv
 have c21 := @pick_0_ok v
 have c22 := @tail_0_ok v hv
 have c23 := @pick_0_ok v
 exact (o96 (d := .tup [.agg [.int .i8 16, .bool false, .int .u8 c, .int .i8 (IntKind.wrap IntKind.i8 (↑(BitVec.toNat (BitVec.ofInt (8 : Nat) (mrR v) ||| BitVec.ofInt (8 : Nat) (h / (4 : Int) % (2 : Int) * (8 : Int)))) : Int)), .int .i8 (IntKind.wrap IntKind.i8 (↑(BitVec.toNat (BitVec.ofInt (8 : Nat) (mrB v) ||| BitVec.ofInt (8 : Nat) (h % (2 : Int) * (8 : Int)))) : Int)), .int .i64 (mrD v), .int .i64 (tlM v (0 : Nat)), .int .i64 (IntKind.wrap IntKind.i64 (pkM v (0 : Nat))), .int .i64 (tlM v (0 : Nat)), .int .i64 (IntKind.wrap IntKind.i64 (IntKind.wrap IntKind.i8 (pkM v (0 : Nat)))), .int .i8 (h % (2 : Int) * (8 : Int))], .bool true]) (E3 ++ [tC (nt (neOf h15)), .ret _ _ _ c20, .ret _ _ _ c21, .ret _ _ _ c22, .ret _ _ _ c23]) (by kernel_rfl)).to (by clear E1 E3; (try simp only [decide_eq_true_eq, decide_eq_false_iff_not, wk, wkL, rawD, parRest, D.int.injEq, D.bool.injEq, true_and, and_true] at *); (try rw [mrE_n' ‹¬ mrE v = 0›]); (try simp only [w_small hv, w_jump, or8r hv (Or.inl rfl), or8b hv (Or.inl rfl), or8r4 hv, or8b2 hv]); simp [*]; done)
end Go.Proofs.Ytcngafhpodeenaa

namespace Go.Proofs.Ytcngafhpodeenaa
open Go Go.Ev
set_option maxRecDepth 100000
theorem parse_ok (b : List Int) (hb : isB b) : ∃ x, Ret Try.prog 96 [.lst .no 1 (bD b)] (.tup [rawD x, .bool (parM b).isSome]) ∧ ∀ s, parM b = some s → x = s := by
 have rex : ∀ (half : Bool) (w : Int) (p t : List Int), isB t → (half = true ∧ p = [102] ∧ w = 16 ∨ half = false ∧ p = [] ∧ w = 32 ∧ hd t ≠ 102) → parM (p ++ t) = parRex w t →
   ∃ x, Ret Try.prog 96 [.lst .no 1 (bD (p ++ t))] (.tup [rawD x, .bool (parM (p ++ t)).isSome]) ∧ ∀ s, parM (p ++ t) = some s → x = s := by
  intro half w p t ht hc hp
  rw [hp]
  have out : ∀ (x : RawS) (k : Bool), Ret Try.prog 96 [.lst .no 1 (bD (p ++ t))] (.tup [rawD x, .bool k]) → (k = false ∧ parRex w t = none) ∨ (k = true ∧ parRex w t = some x) →
    ∃ x, Ret Try.prog 96 [.lst .no 1 (bD (p ++ t))] (.tup [rawD x, .bool (parRex w t).isSome]) ∧ ∀ s, parRex w t = some s → x = s := by
   rintro x k h (⟨rfl, e⟩ | ⟨rfl, e⟩)
   ·exact ⟨x, by rw [e]; exact h, fun s hs => by rw [e] at hs; cases hs⟩
   ·exact ⟨x, by rw [e]; exact h, fun s hs => by rw [e] at hs; exact Option.some.inj hs⟩
  match t, ht with
  | [], _ =>
   rcases hc with ⟨-, rfl, rfl⟩ | ⟨-, rfl, rfl, -⟩
   ·exact out _ _ pa_hxe_ok (.inl ⟨rfl, rfl⟩)
   ·exact out _ _ pa_nxe_ok (.inl ⟨rfl, rfl⟩)
  | h :: u, ht =>
   obtain ⟨⟨g0, g1⟩, hu⟩ := isB_cons.1 ht
   by_cases hq : rexQ h = true
   ·
    have e : parRex w (h :: u) = parCode (if h / 8 % 2 = 1 then 64 else w) (h / 4 % 2 * 8) (h % 2 * 8) u := by simp only [parRex, if_pos hq]
    match u, hu with
    | [], _ =>
     rcases hc with ⟨-, rfl, rfl⟩ | ⟨-, rfl, rfl, hh⟩
     ·exact out _ _ (pa_hre_ok h g0 g1 hq) (.inl ⟨rfl, by rw [e]; rfl⟩)
     ·exact out _ _ (pa_nre_ok h g0 g1 hq (by simpa [hd] using hh)) (.inl ⟨rfl, by rw [e]; rfl⟩)
    | c :: v, hu =>
     obtain ⟨⟨k0, k1⟩, hv⟩ := isB_cons.1 hu
     by_cases hc15 : c = 15
     ·subst hc15
      match v, hv with
      | [], _ =>
       rcases hc with ⟨-, rfl, rfl⟩ | ⟨-, rfl, rfl, hh⟩
       ·exact out _ _ (pa_hr0_ok h g0 g1 hq) (.inr ⟨rfl, by rw [e]; rfl⟩)
       ·exact out _ _ (pa_nr0_ok h g0 g1 hq (by simpa [hd] using hh)) (.inr ⟨rfl, by rw [e]; rfl⟩)
      | d :: v, hv =>
       obtain ⟨-, hv⟩ := isB_cons.1 hv
       rcases hc with ⟨-, rfl, rfl⟩ | ⟨-, rfl, rfl, hh⟩
       ·exact out _ _ (pa_hr1_ok h g0 g1 hq d v hv) (.inr ⟨rfl, by rw [e]; rfl⟩)
       ·exact out _ _ (pa_nr1_ok h g0 g1 hq (by simpa [hd] using hh) d v hv) (.inr ⟨rfl, by rw [e]; rfl⟩)
     ·rcases hc with ⟨-, rfl, rfl⟩ | ⟨-, rfl, rfl, hh⟩
      ·exact out _ _ (pa_hrc_ok h g0 g1 hq c hc15 v hv) (.inr ⟨rfl, by rw [e]; exact parCode_c hc15⟩)
      ·exact out _ _ (pa_nrc_ok h g0 g1 hq (by simpa [hd] using hh) c hc15 v hv) (.inr ⟨rfl, by rw [e]; exact parCode_c hc15⟩)
   ·
    have hq' : rexQ h = false := by simpa using hq
    have e : parRex w (h :: u) = parCode w 0 0 (h :: u) := by simp only [parRex, if_neg hq]
    by_cases hc15 : h = 15
    ·subst hc15
     match u, hu with
     | [], _ =>
      rcases hc with ⟨-, rfl, rfl⟩ | ⟨-, rfl, rfl, hh⟩
      ·exact out _ _ pa_hx0_ok (.inr ⟨rfl, by rw [e]; rfl⟩)
      ·exact out _ _ pa_nx0_ok (.inr ⟨rfl, by rw [e]; rfl⟩)
     | d :: v, hu =>
      obtain ⟨-, hv⟩ := isB_cons.1 hu
      rcases hc with ⟨-, rfl, rfl⟩ | ⟨-, rfl, rfl, hh⟩
      ·exact out _ _ (pa_hx1_ok d v hv) (.inr ⟨rfl, by rw [e]; rfl⟩)
      ·exact out _ _ (pa_nx1_ok d v hv) (.inr ⟨rfl, by rw [e]; rfl⟩)
    ·rcases hc with ⟨-, rfl, rfl⟩ | ⟨-, rfl, rfl, hh⟩
     ·exact out _ _ (pa_hxc_ok h g0 g1 hq' hc15 u hu) (.inr ⟨rfl, by rw [e]; exact parCode_c hc15⟩)
     ·exact out _ _ (pa_nxc_ok h g0 g1 hq' (by simpa [hd] using hh) hc15 u hu) (.inr ⟨rfl, by rw [e]; exact parCode_c hc15⟩)
 by_cases h102 : hd b = 102
 ·match b, hb, h102 with
  | a :: t, hb, h102 =>
   have ha : a = 102 := by simpa [hd] using h102
   subst ha
   exact rex true 16 [102] t (isB_cons.1 hb).2 (.inl ⟨rfl, rfl, rfl⟩) (by simp only [parM, List.cons_append, List.nil_append]; rw [if_pos (by rfl)]; rfl)
  | [], _, h => simp [hd] at h
 ·exact rex false 32 [] b hb (.inr ⟨rfl, rfl, rfl, h102⟩) (by simp only [parM, List.nil_append]; rw [if_neg h102])
end Go.Proofs.Ytcngafhpodeenaa

namespace Go.Proofs.Ytcngafhpodeenaa
open Go Go.Ev
abbrev un (n : Nat) : List D := List.replicate n .undef
end Go.Proofs.Ytcngafhpodeenaa

namespace Go.Ev
open Go
def xsD (x : XS) : D := xD x.op x.w x.dst x.src x.base x.disp x.imm x.cc
def mayXS (x : XS) : Bool := mayX x.op x.w x.dst x.src x.base x.disp x.imm x.cc
def bytesXS (x : XS) : List Int := bytesM x.op x.w x.dst x.src x.base x.disp x.imm x.cc
theorem shape_range : ∀ n : Fin 32, 1 ≤ shapeM (n.val : Int) ∧ shapeM (n.val : Int) ≤ 11 := by decide +kernel
theorem shape_some {k : Int} (k0 : 0 ≤ k) (k1 : k ≤ 31) : shapeM k = 1 ∨ shapeM k = 2 ∨ shapeM k = 3 ∨ shapeM k = 4 ∨ shapeM k = 5 ∨ shapeM k = 6 ∨ shapeM k = 7 ∨ shapeM k = 8 ∨ shapeM k = 9 ∨ shapeM k = 10 ∨ shapeM k = 11 := by
 have := shape_range ⟨k.toNat, by omega⟩
 have e : ((⟨k.toNat, by omega⟩ : Fin 32).val : Int) = k := by simp; omega
 rw [e] at this
 omega
theorem wr_op {k : Int} (k0 : 0 ≤ k) (k1 : k ≤ 31) : IntKind.i8.wrap k = k := by rw [w_i8]; omega
theorem par_small {b : List Int} (hb : isB b) {s : RawS} (h : parM b = some s) : 0 ≤ s.code ∧ s.code ≤ 255 ∧ (s.high = 0 ∨ s.high = 8) := by
 have code : ∀ {w R M : Int} {u : List Int}, isB u → (M = 0 ∨ M = 8) → parCode w R M u = some s → 0 ≤ s.code ∧ s.code ≤ 255 ∧ (s.high = 0 ∨ s.high = 8) := by
  intro w R M u hu hM h
  match u, hu with
  | [], _ => cases h
  | c :: v, hu =>
   obtain ⟨⟨c0, c1⟩, hv⟩ := isB_cons.1 hu
   by_cases hc : c = 15
   ·subst hc
    match v, hv, h with
    | [], _, h => rw [show parCode w R M [15] = some (parRest w R M false 15 []) from rfl] at h; cases h; exact ⟨by simp [parRest], by simp [parRest], hM⟩
    | d :: z, hv, h => rw [parCode_15] at h; cases h; exact ⟨(hv d (by simp)).1, (hv d (by simp)).2, hM⟩
   ·rw [parCode_c hc] at h; cases h; exact ⟨c0, c1, hM⟩
 have rex : ∀ {w : Int} {u : List Int}, isB u → parRex w u = some s → 0 ≤ s.code ∧ s.code ≤ 255 ∧ (s.high = 0 ∨ s.high = 8) := by
  intro w u hu h
  match u, hu with
  | [], _ => cases h
  | c :: v, hu =>
   by_cases hq : rexQ c = true
   ·simp only [parRex, if_pos hq] at h
    exact code (isB_cons.1 hu).2 (by omega) h
   ·simp only [parRex, if_neg hq] at h
    exact code hu (.inl rfl) h
 unfold parM at h
 split at h
 ·exact rex (fun x hx => hb x (List.mem_of_mem_drop hx)) h
 ·exact rex hb h
def fitsX (b : List Int) (x : XS) : Bool := mayXS x && (bytesXS x).isPrefixOf b
def firstX (b : List Int) (s : RawS) : List Int → Option XS
  | [] => none
  | k :: r => if fitsX b (asM s k) then some (asM s k) else firstX b s r
def readM (b : List Int) : Option XS := if fitsX b (decM b) then some (decM b) else none
theorem fits_back {b : List Int} {x : XS} (h : fitsX b x = true) : decM b = x ∧ ∃ s, parM b = some s ∧ asM s x.op = x := by
 unfold fitsX at h
 rw [Bool.and_eq_true, List.isPrefixOf_iff_prefix] at h
 obtain ⟨hm, t, rfl⟩ := h
 exact ⟨dec_back hm t, par_back hm t⟩
theorem first_some {b : List Int} {s : RawS} {x : XS} : ∀ {l : List Int}, firstX b s l = some x → fitsX b x = true
 | [], h => by cases h
 | k :: r, h => by
  unfold firstX at h
  split at h
  ·rename_i hf; cases h; exact hf
  ·exact first_some h
theorem first_none {b : List Int} {s : RawS} : ∀ {l : List Int}, firstX b s l = none → ∀ k ∈ l, fitsX b (asM s k) = false
 | [], _, k, hk => by cases hk
 | a :: r, h, k, hk => by
  unfold firstX at h
  split at h
  ·cases h
  ·rename_i hf
   rcases List.mem_cons.1 hk with rfl | hk
   ·simpa using hf
   ·exact first_none h k hk
theorem may_op {x : XS} (h : mayXS x = true) : x.op ∈ ops32 := by
 have hs := (mayX_parts h).2
 have hsh : shapeM x.op ≠ 0 := by intro e; rw [e] at hs; simp [mayS] at hs
 have := shape_ops hsh
 unfold ops32
 simp only [List.mem_cons, List.not_mem_nil, or_false]
 exact this
theorem first_read {b : List Int} {s : RawS} (hs : parM b = some s) : firstX b s ops32 = readM b := by
 unfold readM
 cases h : firstX b s ops32 with
 | some x =>
  have hf := first_some h
  rw [(fits_back hf).1, if_pos hf]
 | none =>
  split
  ·rename_i hf
   obtain ⟨_, s', hs', ha⟩ := fits_back hf
   rw [hs] at hs'
   obtain rfl := Option.some.inj hs'
   have hop := may_op (by unfold fitsX at hf; rw [Bool.and_eq_true] at hf; exact hf.1)
   have := first_none h _ hop
   rw [ha, hf] at this
   cases this
  ·rfl
theorem read_none {b : List Int} (hs : parM b = none) : readM b = none := by
 unfold readM
 split
 ·rename_i hf
  obtain ⟨_, s', hs', _⟩ := fits_back hf
  rw [hs] at hs'
  cases hs'
 ·rfl
theorem allB (l : List Int) : (bD l).all isByte = true := by simp [bD, isByte]
theorem allB_take (l : List Int) (n : Nat) : ((bD l).take n).all isByte = true := by
 rw [show (bD l).take n = bD (l.take n) by simp [bD, List.map_take]]
 exact allB _
def formsL : List D := [.int .i8 1, .int .u8 137, .int .i8 0, .int .i8 3, .int .u8 199, .int .i8 0, .int .i8 1, .int .u8 1, .int .i8 0, .int .i8 1, .int .u8 9, .int .i8 0, .int .i8 1, .int .u8 33, .int .i8 0, .int .i8 1, .int .u8 41, .int .i8 0, .int .i8 1, .int .u8 49, .int .i8 0, .int .i8 1, .int .u8 57, .int .i8 0, .int .i8 1, .int .u8 133, .int .i8 0, .int .i8 3, .int .u8 129, .int .i8 0, .int .i8 3, .int .u8 129, .int .i8 1, .int .i8 3, .int .u8 129, .int .i8 4, .int .i8 3, .int .u8 129, .int .i8 5, .int .i8 3, .int .u8 129, .int .i8 6, .int .i8 3, .int .u8 129, .int .i8 7, .int .i8 3, .int .u8 247, .int .i8 0, .int .i8 2, .int .u8 175, .int .i8 0, .int .i8 4, .int .u8 193, .int .i8 4, .int .i8 4, .int .u8 193, .int .i8 5, .int .i8 4, .int .u8 193, .int .i8 7, .int .i8 5, .int .u8 211, .int .i8 4, .int .i8 5, .int .u8 211, .int .i8 5, .int .i8 5, .int .u8 211, .int .i8 7, .int .i8 5, .int .u8 247, .int .i8 3, .int .i8 5, .int .u8 247, .int .i8 6, .int .i8 6, .int .u8 64, .int .i8 0, .int .i8 7, .int .u8 139, .int .i8 0, .int .i8 8, .int .u8 137, .int .i8 0, .int .i8 9, .int .u8 233, .int .i8 0, .int .i8 10, .int .u8 128, .int .i8 0, .int .i8 11, .int .u8 195, .int .i8 0, .int .i8 11, .int .u8 5, .int .i8 0]
theorem formsL_at (n : Nat) (hn : n < 32) : (formsL.drop (n * 3)).take 3 = [D.int .i8 (shapeM (n : Int)), D.int .u8 (codeM (n : Int)), D.int .i8 (numM (n : Int))] := by
 have : n = 0 ∨ n = 1 ∨ n = 2 ∨ n = 3 ∨ n = 4 ∨ n = 5 ∨ n = 6 ∨ n = 7 ∨ n = 8 ∨ n = 9 ∨ n = 10 ∨ n = 11 ∨ n = 12 ∨ n = 13 ∨ n = 14 ∨ n = 15 ∨ n = 16 ∨ n = 17 ∨ n = 18 ∨ n = 19 ∨ n = 20 ∨ n = 21 ∨ n = 22 ∨ n = 23 ∨ n = 24 ∨ n = 25 ∨ n = 26 ∨ n = 27 ∨ n = 28 ∨ n = 29 ∨ n = 30 ∨ n = 31 := by omega
 rcases this with rfl | rfl | rfl | rfl | rfl | rfl | rfl | rfl | rfl | rfl | rfl | rfl | rfl | rfl | rfl | rfl | rfl | rfl | rfl | rfl | rfl | rfl | rfl | rfl | rfl | rfl | rfl | rfl | rfl | rfl | rfl | rfl <;> rfl
theorem get_form {k : Int} (k0 : 0 ≤ k) (k1 : k ≤ 31) : GetsA formsL (k.toNat * 3) 3 [D.int .i8 (shapeM k), D.int .u8 (codeM k), D.int .i8 (numM k)] := by
 have h := formsL_at k.toNat (by omega)
 have e : (k.toNat : Int) = k := by omega
 rw [e] at h
 refine ⟨h, ?_⟩
 have hl : formsL.length = 96 := rfl
 rw [hl]
 omega
theorem A255_isB {l : List Int} (h : A255 l) : isB l := by
 intro x hx
 exact h x hx
theorem bytesXS_isB {x : XS} (h : mayXS x = true) : isB (bytesXS x) := A255_isB (bytesM_range h)
theorem fit_str {own b : List Int} (ho : isB own) (hb : isB b) : (own.isPrefixOf b = true ↔ ((bD own).length : Int) ≤ ((bD b).length : Int) ∧ ((strD (bD own)).toList == (strD (List.take (Int.toNat ((List.length (bD own) : Nat) : Int)) (bD b))).toList) = true) := by
 rw [List.isPrefixOf_iff_prefix, List.prefix_iff_eq_take, len_bD, len_bD, Int.toNat_natCast, show (bD b).take own.length = bD (b.take own.length) by simp [bD, List.map_take], beq_iff_eq]
 constructor
 ·intro h
  refine ⟨?_, by rw [← h]⟩
  have := congrArg List.length h
  rw [List.length_take] at this
  omega
 ·rintro ⟨_, h2⟩
  exact bD_inj ho (fun x hx => hb x (List.mem_of_mem_take hx)) h2
theorem ops_drop {n : Nat} (hn : n < 32) : ops32.drop n = (n : Int) :: ops32.drop (n + 1) := by
 have : n = 0 ∨ n = 1 ∨ n = 2 ∨ n = 3 ∨ n = 4 ∨ n = 5 ∨ n = 6 ∨ n = 7 ∨ n = 8 ∨ n = 9 ∨ n = 10 ∨ n = 11 ∨ n = 12 ∨ n = 13 ∨ n = 14 ∨ n = 15 ∨ n = 16 ∨ n = 17 ∨ n = 18 ∨ n = 19 ∨ n = 20 ∨ n = 21 ∨ n = 22 ∨ n = 23 ∨ n = 24 ∨ n = 25 ∨ n = 26 ∨ n = 27 ∨ n = 28 ∨ n = 29 ∨ n = 30 ∨ n = 31 := by omega
 rcases this with rfl | rfl | rfl | rfl | rfl | rfl | rfl | rfl | rfl | rfl | rfl | rfl | rfl | rfl | rfl | rfl | rfl | rfl | rfl | rfl | rfl | rfl | rfl | rfl | rfl | rfl | rfl | rfl | rfl | rfl | rfl | rfl <;> rfl
theorem asM_op (s : RawS) (k : Int) : (asM s k).op = k := by
 simp only [asM, asS, apply_ite XS.op, ite_self]
def readD : Option XS → D
  | none => .tup [xD 0 0 0 0 0 0 0 0, .int .i64 0, .int .i64 30]
  | some x => .tup [xsD x, .int .i64 (bytesXS x).length, .int .i64 0]
end Go.Ev

namespace Go.Ev
open Go
def readsX (op dst src base : Int) : Int :=
  if op = 0 then sh8 src
  else if op = 1 ∨ op = 28 ∨ op = 29 then 0
  else if 20 ≤ op ∧ op ≤ 22 then or64 (sh8 dst) (sh8 1)
  else if op = 24 then or64 (or64 (sh8 dst) (sh8 0)) (sh8 2)
  else if op = 26 then sh8 base
  else if op = 27 then or64 (sh8 base) (sh8 src)
  else if op = 30 then 17
  else if op = 31 then 1477
  else if shapeM op = 1 ∨ shapeM op = 2 ∨ shapeM op = 6 then or64 (sh8 dst) (sh8 src)
  else sh8 dst
def writesX (op dst : Int) : Int :=
  if op = 7 ∨ op = 8 ∨ op = 14 ∨ op = 15 ∨ op = 27 ∨ op = 28 ∨ op = 29 then 0
  else if op = 24 then 5
  else if op = 30 then 16
  else if op = 31 then 2051
  else sh8 dst
def readsXX (op w dst src base disp imm cc : Int) : Int := if mayX op w dst src base disp imm cc then readsX op dst src base else 0
def writesXX (op w dst src base disp imm cc : Int) : Int := if mayX op w dst src base disp imm cc then writesX op dst else 0
end Go.Ev

namespace Go.Ev
open Go
def addC (w a b : Int) : Bool := decide (cutM (u64 (a + b)) w < cutM a w)
def addO (w a b : Int) : Bool := negM (and64u (xor64 a (u64 (a + b))) (xor64 b (u64 (a + b)))) w
def subC (w a b : Int) : Bool := decide (cutM a w < cutM b w)
def subO (w a b : Int) : Bool := negM (and64u (xor64 a b) (xor64 a (u64 (a - b)))) w
def holdM (cc : Int) (c z s o : Bool) : Bool :=
  if cc = 2 then c else if cc = 3 then !c else if cc = 4 then z else if cc = 5 then !z else if cc = 6 then (c || z) else if cc = 7 then !(c || z)
  else if cc = 12 then (s != o) else if cc = 13 then !(s != o) else if cc = 14 then (z || (s != o)) else !(z || (s != o))
def wrOp (op : Int) : Bool := !(decide (op = 7 ∨ op = 8 ∨ op = 14 ∨ op = 15 ∨ op = 27 ∨ op = 28 ∨ op = 29))
end Go.Ev

namespace Go.Ev
open Go
def inU (n : Int) : Prop := 0 ≤ n ∧ n ≤ 18446744073709551615
theorem cut_cut (v w : Int) : cutM (cutM v w) w = cutM v w := by
 unfold cutM
 split
 ·omega
 ·split
  ·omega
  ·split
   ·omega
   ·rfl
def bitOf (w k : Int) : Int := IntKind.i64.wrap ((BitVec.ofInt 64 (w.fdiv (2 ^ (min k.toNat 64))) &&& BitVec.ofInt 64 1).toNat : Int)
def mayP (w dst src : Int) : Bool := longM w && regM dst && regM src
end Go.Ev

namespace Go.Ev
open Go
def topM (v w : Int) : Bool := IntKind.u64.wrap ((BitVec.ofInt 64 (v.fdiv (2 ^ (min (IntKind.i8.wrap (w - 1)).toNat 64))) &&& BitVec.ofInt 64 1).toNat : Int) == 1
end Go.Ev

namespace Go.Ev
open Go
def rdV (b : List Int) (at_ : Nat) : Int := b.getD at_ 0
def rdA (b : List Int) (at_ : Nat) : Nat := if at_ < b.length then at_ + 1 else at_
def rdX (b : List Int) (at_ : Nat) (bad : Bool) : Bool := bad || decide (b.length ≤ at_)
def rdN4 (b : List Int) (k : Nat) : Int := IntKind.i32.wrap (rdV b k + 256 * rdV b (rdA b k) + 65536 * rdV b (rdA b (rdA b k)) + 16777216 * rdV b (rdA b (rdA b (rdA b k))))
def rdN1 (b : List Int) (k : Nat) : Int := IntKind.i8.wrap (rdV b k)
def rdA4 (b : List Int) (k : Nat) : Nat := rdA b (rdA b (rdA b (rdA b k)))
def rdX4 (b : List Int) (k : Nat) (bad : Bool) : Bool := rdX b (rdA b (rdA b (rdA b k))) (rdX b (rdA b (rdA b k)) (rdX b (rdA b k) (rdX b k bad)))
def rdHi (n rr : Int) : Int := IntKind.i8.wrap (IntKind.i8.wrap (IntKind.i64.wrap ((BitVec.ofInt 64 (n.fdiv 8) &&& BitVec.ofInt 64 7).toNat : Int)) + IntKind.i8.wrap (8 * rr))
def rdLo (n mm : Int) : Int := IntKind.i8.wrap (IntKind.i8.wrap (IntKind.i64.wrap ((BitVec.ofInt 64 n &&& BitVec.ofInt 64 7).toNat : Int)) + IntKind.i8.wrap (8 * mm))
def rd2X (b : List Int) (k : Nat) (bad : Bool) : Bool := rdX b k bad || decide (rdV b k < 192)
def rdMk (b : List Int) (k : Nat) : Nat := if rdV b k % 8 = 4 then rdA b (rdA b k) else rdA b k
def rdMx (b : List Int) (k : Nat) (bad : Bool) : Bool :=
  let b1 := rdX b k bad || decide (rdV b k < 128) || decide (192 ≤ rdV b k)
  if rdV b k % 8 = 4 then rdX b (rdA b k) b1 || decide (rdV b (rdA b k) ≠ 36) else b1
def prRex (n : Int) : Bool := decide (n / 16 % 16 = 4)
def pr1 (b : List Int) (k : Nat) : Nat := if rdV b k = 102 then rdA b k else k
def prx1 (b : List Int) (k : Nat) (bad : Bool) : Bool := if rdV b k = 102 then rdX b k bad else bad
def prQ (b : List Int) (k : Nat) : Bool := prRex (rdV b (pr1 b k))
def prN (b : List Int) (k : Nat) : Int := if prQ b k then rdV b (rdA b (pr1 b k)) else rdV b (pr1 b k)
def prK (b : List Int) (k : Nat) : Nat := if prQ b k then rdA b (rdA b (pr1 b k)) else rdA b (pr1 b k)
def prX (b : List Int) (k : Nat) (bad : Bool) : Bool :=
  if prQ b k then rdX b (rdA b (pr1 b k)) (rdX b (pr1 b k) (prx1 b k bad) || decide (rdV b (pr1 b k) / 2 % 2 = 1)) else rdX b (pr1 b k) (prx1 b k bad)
def prW (b : List Int) (k : Nat) : Bool := prQ b k && decide (rdV b (pr1 b k) / 8 % 2 = 1)
def prR (b : List Int) (k : Nat) : Int := if prQ b k then rdV b (pr1 b k) / 4 % 2 else 0
def prM (b : List Int) (k : Nat) : Int := if prQ b k then rdV b (pr1 b k) % 2 else 0
def rcM (op : Int) : Int := if op = 0 ∨ (2 ≤ op ∧ op ≤ 8) then codeM op else numM op
def grpIn (base op : Int) : Bool := if base = 129 then decide (classM op = 2 ∧ op ≠ 15 ∧ op ≠ 1) else if base = 193 then decide (classM op = 3) else if base = 211 then decide (classM op = 4 ∧ op ≠ 23 ∧ op ≠ 24) else decide (op = 23 ∨ op = 24 ∨ op = 15)
def grpHit (base n op : Int) : Bool := grpIn base op && decide (rcM op = n)
def groupM (base n : Int) : Int := (ops32.find? (grpHit base n)).getD (-1)
end Go.Ev

namespace Go.Proofs.Ytcngafhpodeenaa
open Go Go.Ev
abbrev zX : List D := [.int .i8 0, .int .i8 0, .int .i8 0, .int .i8 0, .int .i8 0, .int .i64 0, .int .i64 0, .int .i8 0]
abbrev xC (op w dst src base disp imm cc : Int) : List D := [.int .i8 op, .int .i8 w, .int .i8 dst, .int .i8 src, .int .i8 base, .int .i64 disp, .int .i64 imm, .int .i8 cc]
abbrev bR (b : List Int) (a : Int) (x w : Bool) (rr mm : Int) : Ob := .box [.lst .no 1 (bD b), .int .i64 a, .bool x, .bool w, .int .i8 rr, .int .i8 mm]
abbrev fQ : HS := ⟨[0, 2, 5, 6], [0, 1, 2], []⟩
abbrev tQ (b : List Int) (n : Int) (half : Bool) : List D := ((.lst .no 1 (bD b)) :: (.undef) :: (.ptr false 0 0) :: (.undef) :: (.undef) :: (.ptr false 1 0) :: (.ptr false 2 0) :: (.int .i64 n) :: (.bool half) :: (un 19 ++ (.int .i64 n) :: (un 200)))
abbrev tU (b : List Int) : List D := ((.lst .no 1 (bD b)) :: (.undef) :: (.ptr false 0 0) :: (.undef) :: (.undef) :: (.ptr false 1 0) :: (.ptr false 2 0) :: (un 222))
end Go.Proofs.Ytcngafhpodeenaa

namespace Go.Proofs.Ytcngafhpodeenaa
open Go Go.Ev
set_option maxRecDepth 100000
set_option maxHeartbeats 8000000
abbrev rB (s : RawS) : Ob := .box [.int .i8 s.w, .bool s.long, .int .u8 s.code, .int .i8 s.r, .int .i8 s.m, .int .i64 s.disp, .int .i64 s.imm, .int .i64 s.small, .int .i64 s.near, .int .i64 s.jump, .int .i8 s.high]
theorem as1_ok (s : RawS) (k : Int) (k0 : 0 ≤ k) (k1 : k ≤ 31) (v0 : 0 ≤ s.code) (v1 : s.code ≤ 255) (cd nm : Int) (z0 z1 z2 z3 z4 z5 z6 z8 z9 : Ob)  : CallRun Try.prog 98 ([.ptr false 7 0, .int .i8 (IntKind.i8.wrap k), .agg [.int .i8 1, .int .u8 cd, .int .i8 nm]]) ([z0, z1, z2, z3, z4, z5, z6, rB s, z8, z9]) (xD (IntKind.i8.wrap k) (RawS.w s) (RawS.m s) (RawS.r s) 0 0 0 0) ([z0, z1, z2, z3, z4, z5, z6, rB s, z8, z9, .dead, .dead, .dead]) := by
 exact (CallRun.of_eval (keep := [0, 1, 2, 3, 4, 5, 6, 7, 8, 9]) (d := (xD (IntKind.wrap IntKind.i8 k) (RawS.w s) (RawS.m s) (RawS.r s) 0 0 0 0)) (s' := [z0, z1, z2, z3, z4, z5, z6, rB s, z8, z9, Ob.dead, Ob.dead, Ob.dead]) mixed [tT] (by kernel_rfl)).cast (by (rfl; done)) (by rfl)
theorem as2_ok (s : RawS) (k : Int) (k0 : 0 ≤ k) (k1 : k ≤ 31) (v0 : 0 ≤ s.code) (v1 : s.code ≤ 255) (cd nm : Int) (z0 z1 z2 z3 z4 z5 z6 z8 z9 : Ob)  : CallRun Try.prog 98 ([.ptr false 7 0, .int .i8 (IntKind.i8.wrap k), .agg [.int .i8 2, .int .u8 cd, .int .i8 nm]]) ([z0, z1, z2, z3, z4, z5, z6, rB s, z8, z9]) (xD (IntKind.i8.wrap k) (RawS.w s) (RawS.r s) (RawS.m s) 0 0 0 0) ([z0, z1, z2, z3, z4, z5, z6, rB s, z8, z9, .dead, .dead, .dead]) := by
 exact (CallRun.of_eval (keep := [0, 1, 2, 3, 4, 5, 6, 7, 8, 9]) (d := (xD (IntKind.wrap IntKind.i8 k) (RawS.w s) (RawS.r s) (RawS.m s) 0 0 0 0)) (s' := [z0, z1, z2, z3, z4, z5, z6, rB s, z8, z9, Ob.dead, Ob.dead, Ob.dead]) mixed [tF, tT] (by kernel_rfl)).cast (by (rfl; done)) (by rfl)
theorem as3n_ok (s : RawS) (k : Int) (k0 : 0 ≤ k) (k1 : k ≤ 31) (v0 : 0 ≤ s.code) (v1 : s.code ≤ 255) (cd nm : Int) (z0 z1 z2 z3 z4 z5 z6 z8 z9 : Ob) (hk : ¬ k = 1)  : CallRun Try.prog 98 ([.ptr false 7 0, .int .i8 (IntKind.i8.wrap k), .agg [.int .i8 3, .int .u8 cd, .int .i8 nm]]) ([z0, z1, z2, z3, z4, z5, z6, rB s, z8, z9]) (xD (IntKind.i8.wrap k) (RawS.w s) (RawS.m s) 0 0 0 (RawS.imm s) 0) ([z0, z1, z2, z3, z4, z5, z6, rB s, z8, z9, .dead, .dead, .dead]) := by
 exact (CallRun.of_eval (keep := [0, 1, 2, 3, 4, 5, 6, 7, 8, 9]) (d := (xD (IntKind.wrap IntKind.i8 k) (RawS.w s) (RawS.m s) 0 0 0 (RawS.imm s) 0)) (s' := [z0, z1, z2, z3, z4, z5, z6, rB s, z8, z9, Ob.dead, Ob.dead, Ob.dead]) mixed ([tF, tF, tF, tT, tC (eT (by (simp only [sl2] at *; omega) : (IntKind.wrap IntKind.i8 k == 1) = false)), tC (eT (by (simp only [sl2] at *; omega) : (IntKind.wrap IntKind.i8 k == 1) = false)), tC (eT (by (simp only [sl2] at *; omega) : (IntKind.wrap IntKind.i8 k == 1) = false)), tC (eT (by (simp only [sl2] at *; omega) : (IntKind.wrap IntKind.i8 k == 1) = false)), tC (eT (by (simp only [sl2] at *; omega) : (IntKind.wrap IntKind.i8 k == 1) = false)), tC (by (simp only [sl2] at *; omega) : (IntKind.wrap IntKind.i8 k == 1) = false), tF, tF, tF, tF, tF, tF] ++ [tF]) (by kernel_rfl)).cast (by (rfl; done)) (by rfl)
theorem as3l_ok (s : RawS) (k : Int) (k0 : 0 ≤ k) (k1 : k ≤ 31) (v0 : 0 ≤ s.code) (v1 : s.code ≤ 255) (cd nm : Int) (z0 z1 z2 z3 z4 z5 z6 z8 z9 : Ob) (hk : k = 1) (hc : s.code < 184)  : CallRun Try.prog 98 ([.ptr false 7 0, .int .i8 (IntKind.i8.wrap k), .agg [.int .i8 3, .int .u8 cd, .int .i8 nm]]) ([z0, z1, z2, z3, z4, z5, z6, rB s, z8, z9]) (xD (IntKind.i8.wrap k) (RawS.w s) (RawS.m s) 0 0 0 (RawS.imm s) 0) ([z0, z1, z2, z3, z4, z5, z6, rB s, z8, z9, .dead, .dead, .dead]) := by
 exact (CallRun.of_eval (keep := [0, 1, 2, 3, 4, 5, 6, 7, 8, 9]) (d := (xD (IntKind.wrap IntKind.i8 k) (RawS.w s) (RawS.m s) 0 0 0 (RawS.imm s) 0)) (s' := [z0, z1, z2, z3, z4, z5, z6, rB s, z8, z9, Ob.dead, Ob.dead, Ob.dead]) mixed ([tF, tF, tF, tT, tC (eT (eqI 1 true (by (simp only [sl2] at *; omega) : IntKind.wrap IntKind.i8 k = 1))), tC (eT (eqI 1 true (by (simp only [sl2] at *; omega) : IntKind.wrap IntKind.i8 k = 1))), tC (eT (eqI 1 true (by (simp only [sl2] at *; omega) : IntKind.wrap IntKind.i8 k = 1))), tC (eT (eqI 1 true (by (simp only [sl2] at *; omega) : IntKind.wrap IntKind.i8 k = 1))), tC (eT (eqI 1 true (by (simp only [sl2] at *; omega) : IntKind.wrap IntKind.i8 k = 1))), tC (eqI 1 true (by (simp only [sl2] at *; omega) : IntKind.wrap IntKind.i8 k = 1)), tC (eT (leL 184 (decide_eq_true hc))), tC (eT (leL 184 (decide_eq_true hc))), tC (eT (leL 184 (decide_eq_true hc))), tC (eT (leL 184 (decide_eq_true hc))), tC (eT (leL 184 (decide_eq_true hc))), tC (leL 184 (decide_eq_true hc))] ++ [tF]) (by kernel_rfl)).cast (by (rfl; done)) (by rfl)
theorem as3h_ok (s : RawS) (k : Int) (k0 : 0 ≤ k) (k1 : k ≤ 31) (v0 : 0 ≤ s.code) (v1 : s.code ≤ 255) (cd nm : Int) (z0 z1 z2 z3 z4 z5 z6 z8 z9 : Ob) (hk : k = 1) (hc : 192 ≤ s.code)  : CallRun Try.prog 98 ([.ptr false 7 0, .int .i8 (IntKind.i8.wrap k), .agg [.int .i8 3, .int .u8 cd, .int .i8 nm]]) ([z0, z1, z2, z3, z4, z5, z6, rB s, z8, z9]) (xD (IntKind.i8.wrap k) (RawS.w s) (RawS.m s) 0 0 0 (RawS.imm s) 0) ([z0, z1, z2, z3, z4, z5, z6, rB s, z8, z9, .dead, .dead, .dead]) := by
 exact (CallRun.of_eval (keep := [0, 1, 2, 3, 4, 5, 6, 7, 8, 9]) (d := (xD (IntKind.wrap IntKind.i8 k) (RawS.w s) (RawS.m s) 0 0 0 (RawS.imm s) 0)) (s' := [z0, z1, z2, z3, z4, z5, z6, rB s, z8, z9, Ob.dead, Ob.dead, Ob.dead]) mixed ([tF, tF, tF, tT, tC (eT (eqI 1 true (by (simp only [sl2] at *; omega) : IntKind.wrap IntKind.i8 k = 1))), tC (eT (eqI 1 true (by (simp only [sl2] at *; omega) : IntKind.wrap IntKind.i8 k = 1))), tC (eT (eqI 1 true (by (simp only [sl2] at *; omega) : IntKind.wrap IntKind.i8 k = 1))), tC (eT (eqI 1 true (by (simp only [sl2] at *; omega) : IntKind.wrap IntKind.i8 k = 1))), tC (eT (eqI 1 true (by (simp only [sl2] at *; omega) : IntKind.wrap IntKind.i8 k = 1))), tC (eqI 1 true (by (simp only [sl2] at *; omega) : IntKind.wrap IntKind.i8 k = 1)), tC (eT (leL 184 (ltD 184 (decide_eq_false (Int.not_lt.2 hc))))), tC (eT (leL 184 (ltD 184 (decide_eq_false (Int.not_lt.2 hc))))), tC (eT (leL 184 (ltD 184 (decide_eq_false (Int.not_lt.2 hc))))), tC (eT (leL 184 (ltD 184 (decide_eq_false (Int.not_lt.2 hc))))), tC (eT (leL 184 (ltD 184 (decide_eq_false (Int.not_lt.2 hc))))), tC (leL 184 (ltD 184 (decide_eq_false (Int.not_lt.2 hc))))] ++ [tC (decide_eq_false (Int.not_lt.2 hc))]) (by kernel_rfl)).cast (by (rfl; done)) (by rfl)
theorem as3m_ok (s : RawS) (k : Int) (k0 : 0 ≤ k) (k1 : k ≤ 31) (v0 : 0 ≤ s.code) (v1 : s.code ≤ 255) (cd nm : Int) (z0 z1 z2 z3 z4 z5 z6 z8 z9 : Ob) (hk : k = 1) (hc : 184 ≤ s.code) (hd : s.code < 192) (hh : s.high = 0 ∨ s.high = 8)  : CallRun Try.prog 98 ([.ptr false 7 0, .int .i8 (IntKind.i8.wrap k), .agg [.int .i8 3, .int .u8 cd, .int .i8 nm]]) ([z0, z1, z2, z3, z4, z5, z6, rB s, z8, z9]) (xD (IntKind.i8.wrap k) (RawS.w s) (s.code % 8 + s.high) 0 0 0 (RawS.near s) 0) ([z0, z1, z2, z3, z4, z5, z6, rB s, z8, z9, .dead, .dead, .dead]) := by
 exact (CallRun.of_eval (keep := [0, 1, 2, 3, 4, 5, 6, 7, 8, 9]) (d := (xD (IntKind.wrap IntKind.i8 k) (RawS.w s) (IntKind.wrap IntKind.i8 (↑(BitVec.toNat (BitVec.ofInt (8 : Nat) (IntKind.wrap IntKind.i8 (IntKind.wrap IntKind.u8 (↑(BitVec.toNat (BitVec.ofInt (8 : Nat) (RawS.code s) &&& BitVec.ofInt (8 : Nat) 7)) : Int))) ||| BitVec.ofInt (8 : Nat) (RawS.high s))) : Int)) 0 0 0 (RawS.near s) 0)) (s' := [z0, z1, z2, z3, z4, z5, z6, rB s, z8, z9, Ob.dead, Ob.dead, Ob.dead]) mixed ([tF, tF, tF, tT, tC (eT (eqI 1 true (by (simp only [sl2] at *; omega) : IntKind.wrap IntKind.i8 k = 1))), tC (eT (eqI 1 true (by (simp only [sl2] at *; omega) : IntKind.wrap IntKind.i8 k = 1))), tC (eT (eqI 1 true (by (simp only [sl2] at *; omega) : IntKind.wrap IntKind.i8 k = 1))), tC (eT (eqI 1 true (by (simp only [sl2] at *; omega) : IntKind.wrap IntKind.i8 k = 1))), tC (eT (eqI 1 true (by (simp only [sl2] at *; omega) : IntKind.wrap IntKind.i8 k = 1))), tC (eqI 1 true (by (simp only [sl2] at *; omega) : IntKind.wrap IntKind.i8 k = 1)), tC (eT (leL 184 (decide_eq_false (Int.not_lt.2 hc)))), tC (eT (leL 184 (decide_eq_false (Int.not_lt.2 hc)))), tC (eT (leL 184 (decide_eq_false (Int.not_lt.2 hc)))), tC (eT (leL 184 (decide_eq_false (Int.not_lt.2 hc)))), tC (eT (leL 184 (decide_eq_false (Int.not_lt.2 hc)))), tC (leL 184 (decide_eq_false (Int.not_lt.2 hc)))] ++ [tC (decide_eq_true hd)]) (by kernel_rfl)).cast (by (simp only [xD, D.agg.injEq, List.cons.injEq, D.int.injEq, true_and, and_true]; exact low_or v0 v1 hh; done)) (by rfl)
theorem as4_ok (s : RawS) (k : Int) (k0 : 0 ≤ k) (k1 : k ≤ 31) (v0 : 0 ≤ s.code) (v1 : s.code ≤ 255) (cd nm : Int) (z0 z1 z2 z3 z4 z5 z6 z8 z9 : Ob)  : CallRun Try.prog 98 ([.ptr false 7 0, .int .i8 (IntKind.i8.wrap k), .agg [.int .i8 4, .int .u8 cd, .int .i8 nm]]) ([z0, z1, z2, z3, z4, z5, z6, rB s, z8, z9]) (xD (IntKind.i8.wrap k) (RawS.w s) (RawS.m s) 0 0 0 (RawS.small s) 0) ([z0, z1, z2, z3, z4, z5, z6, rB s, z8, z9, .dead, .dead, .dead]) := by
 exact (CallRun.of_eval (keep := [0, 1, 2, 3, 4, 5, 6, 7, 8, 9]) (d := (xD (IntKind.wrap IntKind.i8 k) (RawS.w s) (RawS.m s) 0 0 0 (RawS.small s) 0)) (s' := [z0, z1, z2, z3, z4, z5, z6, rB s, z8, z9, Ob.dead, Ob.dead, Ob.dead]) mixed [tF, tF, tF, tF, tT] (by kernel_rfl)).cast (by (rfl; done)) (by rfl)
theorem as5_ok (s : RawS) (k : Int) (k0 : 0 ≤ k) (k1 : k ≤ 31) (v0 : 0 ≤ s.code) (v1 : s.code ≤ 255) (cd nm : Int) (z0 z1 z2 z3 z4 z5 z6 z8 z9 : Ob)  : CallRun Try.prog 98 ([.ptr false 7 0, .int .i8 (IntKind.i8.wrap k), .agg [.int .i8 5, .int .u8 cd, .int .i8 nm]]) ([z0, z1, z2, z3, z4, z5, z6, rB s, z8, z9]) (xD (IntKind.i8.wrap k) (RawS.w s) (RawS.m s) 0 0 0 0 0) ([z0, z1, z2, z3, z4, z5, z6, rB s, z8, z9, .dead, .dead, .dead]) := by
 exact (CallRun.of_eval (keep := [0, 1, 2, 3, 4, 5, 6, 7, 8, 9]) (d := (xD (IntKind.wrap IntKind.i8 k) (RawS.w s) (RawS.m s) 0 0 0 0 0)) (s' := [z0, z1, z2, z3, z4, z5, z6, rB s, z8, z9, Ob.dead, Ob.dead, Ob.dead]) mixed [tF, tF, tF, tF, tF, tT] (by kernel_rfl)).cast (by (rfl; done)) (by rfl)
theorem as6_ok (s : RawS) (k : Int) (k0 : 0 ≤ k) (k1 : k ≤ 31) (v0 : 0 ≤ s.code) (v1 : s.code ≤ 255) (cd nm : Int) (z0 z1 z2 z3 z4 z5 z6 z8 z9 : Ob)  : CallRun Try.prog 98 ([.ptr false 7 0, .int .i8 (IntKind.i8.wrap k), .agg [.int .i8 6, .int .u8 cd, .int .i8 nm]]) ([z0, z1, z2, z3, z4, z5, z6, rB s, z8, z9]) (xD (IntKind.i8.wrap k) (RawS.w s) (RawS.r s) (RawS.m s) 0 0 0 (signed1 (s.code - cd))) ([z0, z1, z2, z3, z4, z5, z6, rB s, z8, z9, .dead, .dead, .dead]) := by
 exact (CallRun.of_eval (keep := [0, 1, 2, 3, 4, 5, 6, 7, 8, 9]) (d := (xD (IntKind.wrap IntKind.i8 k) (RawS.w s) (RawS.r s) (RawS.m s) 0 0 0 (IntKind.wrap IntKind.i8 (IntKind.wrap IntKind.u8 (RawS.code s - cd))))) (s' := [z0, z1, z2, z3, z4, z5, z6, rB s, z8, z9, Ob.dead, Ob.dead, Ob.dead]) mixed [tF, tF, tT] (by kernel_rfl)).cast (by (simp only [xD, D.agg.injEq, List.cons.injEq, D.int.injEq, true_and, and_true]; rw [w_i8, w_u8, signed1]; omega; done)) (by rfl)
theorem as7t_ok (s : RawS) (k : Int) (k0 : 0 ≤ k) (k1 : k ≤ 31) (v0 : 0 ≤ s.code) (v1 : s.code ≤ 255) (cd nm : Int) (z0 z1 z2 z3 z4 z5 z6 z8 z9 : Ob) (hl : s.long = true)  : CallRun Try.prog 98 ([.ptr false 7 0, .int .i8 (IntKind.i8.wrap k), .agg [.int .i8 7, .int .u8 cd, .int .i8 nm]]) ([z0, z1, z2, z3, z4, z5, z6, .box [.int .i8 (RawS.w s), .bool (RawS.long s), .int .u8 (RawS.code s), .int .i8 (RawS.r s), .int .i8 (RawS.m s), .int .i64 (RawS.disp s), .int .i64 (RawS.imm s), .int .i64 (RawS.small s), .int .i64 (RawS.near s), .int .i64 (RawS.jump s), .int .i8 (RawS.high s)], z8, z9]) (xD (IntKind.i8.wrap k) (if s.code % 2 = 1 then 16 else 8) (RawS.r s) 0 (RawS.m s) (RawS.disp s) 0 0) ([z0, z1, z2, z3, z4, z5, z6, .box [.int .i8 (RawS.w s), .bool (RawS.long s), .int .u8 (RawS.code s), .int .i8 (RawS.r s), .int .i8 (RawS.m s), .int .i64 (RawS.disp s), .int .i64 (RawS.imm s), .int .i64 (RawS.small s), .int .i64 (RawS.near s), .int .i64 (RawS.jump s), .int .i8 (RawS.high s)], z8, z9, .dead, .dead, .dead]) := by
 exact (CallRun.of_eval (keep := [0, 1, 2, 3, 4, 5, 6, 7, 8, 9]) (d := (xD (IntKind.wrap IntKind.i8 k) (IntKind.wrap IntKind.i8 (8 * 2 ^ min (Int.toNat (IntKind.wrap IntKind.u8 (↑(BitVec.toNat (BitVec.ofInt (8 : Nat) (RawS.code s) &&& BitVec.ofInt (8 : Nat) 1)) : Int))) (8 : Nat))) (RawS.r s) 0 (RawS.m s) (RawS.disp s) 0 0)) (s' := [z0, z1, z2, z3, z4, z5, z6, rB s, z8, z9, Ob.dead, Ob.dead, Ob.dead]) mixed [tF, tF, tF, tF, tF, tF, tT, tC hl, tT] (by kernel_rfl)).cast (by (simp only [xD, D.agg.injEq, List.cons.injEq, D.int.injEq, true_and, and_true]; exact shl_one v0 v1; done)) (by rfl)
theorem as7f_ok (s : RawS) (k : Int) (k0 : 0 ≤ k) (k1 : k ≤ 31) (v0 : 0 ≤ s.code) (v1 : s.code ≤ 255) (cd nm : Int) (z0 z1 z2 z3 z4 z5 z6 z8 z9 : Ob) (hl : s.long = false)  : CallRun Try.prog 98 ([.ptr false 7 0, .int .i8 (IntKind.i8.wrap k), .agg [.int .i8 7, .int .u8 cd, .int .i8 nm]]) ([z0, z1, z2, z3, z4, z5, z6, .box [.int .i8 (RawS.w s), .bool (RawS.long s), .int .u8 (RawS.code s), .int .i8 (RawS.r s), .int .i8 (RawS.m s), .int .i64 (RawS.disp s), .int .i64 (RawS.imm s), .int .i64 (RawS.small s), .int .i64 (RawS.near s), .int .i64 (RawS.jump s), .int .i8 (RawS.high s)], z8, z9]) (xD (IntKind.i8.wrap k) (RawS.w s) (RawS.r s) 0 (RawS.m s) (RawS.disp s) 0 0) ([z0, z1, z2, z3, z4, z5, z6, .box [.int .i8 (RawS.w s), .bool (RawS.long s), .int .u8 (RawS.code s), .int .i8 (RawS.r s), .int .i8 (RawS.m s), .int .i64 (RawS.disp s), .int .i64 (RawS.imm s), .int .i64 (RawS.small s), .int .i64 (RawS.near s), .int .i64 (RawS.jump s), .int .i8 (RawS.high s)], z8, z9, .dead, .dead, .dead]) := by
 exact (CallRun.of_eval (keep := [0, 1, 2, 3, 4, 5, 6, 7, 8, 9]) (d := (xD (IntKind.wrap IntKind.i8 k) (RawS.w s) (RawS.r s) 0 (RawS.m s) (RawS.disp s) 0 0)) (s' := [z0, z1, z2, z3, z4, z5, z6, rB s, z8, z9, Ob.dead, Ob.dead, Ob.dead]) mixed [tF, tF, tF, tF, tF, tF, tT, tC hl] (by kernel_rfl)).cast (by (rfl; done)) (by rfl)
theorem as8t_ok (s : RawS) (k : Int) (k0 : 0 ≤ k) (k1 : k ≤ 31) (v0 : 0 ≤ s.code) (v1 : s.code ≤ 255) (cd nm : Int) (z0 z1 z2 z3 z4 z5 z6 z8 z9 : Ob) (hc : s.code = 136)  : CallRun Try.prog 98 ([.ptr false 7 0, .int .i8 (IntKind.i8.wrap k), .agg [.int .i8 8, .int .u8 cd, .int .i8 nm]]) ([z0, z1, z2, z3, z4, z5, z6, rB s, z8, z9]) (xD (IntKind.i8.wrap k) 8 0 (RawS.r s) (RawS.m s) (RawS.disp s) 0 0) ([z0, z1, z2, z3, z4, z5, z6, rB s, z8, z9, .dead, .dead, .dead]) := by
 by_cases h0 : RawS.code s = 136
 ·exact (CallRun.of_eval (keep := [0, 1, 2, 3, 4, 5, 6, 7, 8, 9]) (d := (xD (IntKind.wrap IntKind.i8 k) 8 0 (RawS.r s) (RawS.m s) (RawS.disp s) 0 0)) (s' := [z0, z1, z2, z3, z4, z5, z6, rB s, z8, z9, Ob.dead, Ob.dead, Ob.dead]) mixed [tF, tF, tF, tF, tF, tF, tF, tT, tC (eqI 136 true h0)] (by kernel_rfl)).cast (by (rfl; done)) (by rfl)
 exfalso; (try simp only [decide_eq_true_eq, decide_eq_false_iff_not, beq_iff_eq, beq_eq_false_iff_ne, bne_iff_ne, ne_eq] at *); first | omega | contradiction
theorem as8f_ok (s : RawS) (k : Int) (k0 : 0 ≤ k) (k1 : k ≤ 31) (v0 : 0 ≤ s.code) (v1 : s.code ≤ 255) (cd nm : Int) (z0 z1 z2 z3 z4 z5 z6 z8 z9 : Ob) (hc : ¬ s.code = 136)  : CallRun Try.prog 98 ([.ptr false 7 0, .int .i8 (IntKind.i8.wrap k), .agg [.int .i8 8, .int .u8 cd, .int .i8 nm]]) ([z0, z1, z2, z3, z4, z5, z6, rB s, z8, z9]) (xD (IntKind.i8.wrap k) (RawS.w s) 0 (RawS.r s) (RawS.m s) (RawS.disp s) 0 0) ([z0, z1, z2, z3, z4, z5, z6, rB s, z8, z9, .dead, .dead, .dead]) := by
 exact (CallRun.of_eval (keep := [0, 1, 2, 3, 4, 5, 6, 7, 8, 9]) (d := (xD (IntKind.wrap IntKind.i8 k) (RawS.w s) 0 (RawS.r s) (RawS.m s) (RawS.disp s) 0 0)) (s' := [z0, z1, z2, z3, z4, z5, z6, rB s, z8, z9, Ob.dead, Ob.dead, Ob.dead]) mixed [tF, tF, tF, tF, tF, tF, tF, tT, tC (by (simp only [sl2] at *; omega) : (RawS.code s == 136) = false)] (by kernel_rfl)).cast (by (rfl; done)) (by rfl)
theorem as9l_ok (s : RawS) (k : Int) (k0 : 0 ≤ k) (k1 : k ≤ 31) (v0 : 0 ≤ s.code) (v1 : s.code ≤ 255) (cd nm : Int) (z0 z1 z2 z3 z4 z5 z6 z8 z9 : Ob) (hl : s.long = true)  : CallRun Try.prog 98 ([.ptr false 7 0, .int .i8 (IntKind.i8.wrap k), .agg [.int .i8 9, .int .u8 cd, .int .i8 nm]]) ([z0, z1, z2, z3, z4, z5, z6, .box [.int .i8 (RawS.w s), .bool (RawS.long s), .int .u8 (RawS.code s), .int .i8 (RawS.r s), .int .i8 (RawS.m s), .int .i64 (RawS.disp s), .int .i64 (RawS.imm s), .int .i64 (RawS.small s), .int .i64 (RawS.near s), .int .i64 (RawS.jump s), .int .i8 (RawS.high s)], z8, z9]) (xD (IntKind.i8.wrap k) 32 0 0 0 0 (RawS.near s) 0) ([z0, z1, z2, z3, z4, z5, z6, .box [.int .i8 (RawS.w s), .bool (RawS.long s), .int .u8 (RawS.code s), .int .i8 (RawS.r s), .int .i8 (RawS.m s), .int .i64 (RawS.disp s), .int .i64 (RawS.imm s), .int .i64 (RawS.small s), .int .i64 (RawS.near s), .int .i64 (RawS.jump s), .int .i8 (RawS.high s)], z8, z9, .dead, .dead, .dead]) := by
 exact (CallRun.of_eval (keep := [0, 1, 2, 3, 4, 5, 6, 7, 8, 9]) (d := (xD (IntKind.wrap IntKind.i8 k) 32 0 0 0 0 (RawS.near s) 0)) (s' := [z0, z1, z2, z3, z4, z5, z6, rB s, z8, z9, Ob.dead, Ob.dead, Ob.dead]) mixed ([tF, tF, tF, tF, tF, tF, tF, tF, tT, tT, tF, tC (eT (nt hl)), tC (eT (nt hl)), tC (eT (nt hl)), tC (eT (nt hl)), tC (eT (nt hl))] ++ [tC (nt hl), tF]) (by kernel_rfl)).cast (by (rfl; done)) (by rfl)
theorem as9n_ok (s : RawS) (k : Int) (k0 : 0 ≤ k) (k1 : k ≤ 31) (v0 : 0 ≤ s.code) (v1 : s.code ≤ 255) (cd nm : Int) (z0 z1 z2 z3 z4 z5 z6 z8 z9 : Ob) (hl : s.long = false) (hc : s.code = 233)  : CallRun Try.prog 98 ([.ptr false 7 0, .int .i8 (IntKind.i8.wrap k), .agg [.int .i8 9, .int .u8 cd, .int .i8 nm]]) ([z0, z1, z2, z3, z4, z5, z6, .box [.int .i8 (RawS.w s), .bool (RawS.long s), .int .u8 (RawS.code s), .int .i8 (RawS.r s), .int .i8 (RawS.m s), .int .i64 (RawS.disp s), .int .i64 (RawS.imm s), .int .i64 (RawS.small s), .int .i64 (RawS.near s), .int .i64 (RawS.jump s), .int .i8 (RawS.high s)], z8, z9]) (xD (IntKind.i8.wrap k) 32 0 0 0 0 (RawS.near s) 0) ([z0, z1, z2, z3, z4, z5, z6, .box [.int .i8 (RawS.w s), .bool (RawS.long s), .int .u8 (RawS.code s), .int .i8 (RawS.r s), .int .i8 (RawS.m s), .int .i64 (RawS.disp s), .int .i64 (RawS.imm s), .int .i64 (RawS.small s), .int .i64 (RawS.near s), .int .i64 (RawS.jump s), .int .i8 (RawS.high s)], z8, z9, .dead, .dead, .dead]) := by
 by_cases h0 : RawS.code s = 233
 ·exact (CallRun.of_eval (keep := [0, 1, 2, 3, 4, 5, 6, 7, 8, 9]) (d := (xD (IntKind.wrap IntKind.i8 k) 32 0 0 0 0 (RawS.near s) 0)) (s' := [z0, z1, z2, z3, z4, z5, z6, rB s, z8, z9, Ob.dead, Ob.dead, Ob.dead]) mixed ([tF, tF, tF, tF, tF, tF, tF, tF, tT, tT, tF, tC (eT (nt hl)), tC (eT (nt hl)), tC (eT (nt hl)), tC (eT (nt hl)), tC (eT (nt hl))] ++ [tC (nt hl), tC (nt (eqI 233 true h0))]) (by kernel_rfl)).cast (by (rfl; done)) (by rfl)
 exfalso; (try simp only [decide_eq_true_eq, decide_eq_false_iff_not, beq_iff_eq, beq_eq_false_iff_ne, bne_iff_ne, ne_eq] at *); first | omega | contradiction
theorem as9s_ok (s : RawS) (k : Int) (k0 : 0 ≤ k) (k1 : k ≤ 31) (v0 : 0 ≤ s.code) (v1 : s.code ≤ 255) (cd nm : Int) (z0 z1 z2 z3 z4 z5 z6 z8 z9 : Ob) (hl : s.long = false) (hc : ¬ s.code = 233)  : CallRun Try.prog 98 ([.ptr false 7 0, .int .i8 (IntKind.i8.wrap k), .agg [.int .i8 9, .int .u8 cd, .int .i8 nm]]) ([z0, z1, z2, z3, z4, z5, z6, .box [.int .i8 (RawS.w s), .bool (RawS.long s), .int .u8 (RawS.code s), .int .i8 (RawS.r s), .int .i8 (RawS.m s), .int .i64 (RawS.disp s), .int .i64 (RawS.imm s), .int .i64 (RawS.small s), .int .i64 (RawS.near s), .int .i64 (RawS.jump s), .int .i8 (RawS.high s)], z8, z9]) (xD (IntKind.i8.wrap k) 8 0 0 0 0 (RawS.jump s) 0) ([z0, z1, z2, z3, z4, z5, z6, .box [.int .i8 (RawS.w s), .bool (RawS.long s), .int .u8 (RawS.code s), .int .i8 (RawS.r s), .int .i8 (RawS.m s), .int .i64 (RawS.disp s), .int .i64 (RawS.imm s), .int .i64 (RawS.small s), .int .i64 (RawS.near s), .int .i64 (RawS.jump s), .int .i8 (RawS.high s)], z8, z9, .dead, .dead, .dead]) := by
 exact (CallRun.of_eval (keep := [0, 1, 2, 3, 4, 5, 6, 7, 8, 9]) (d := (xD (IntKind.wrap IntKind.i8 k) 8 0 0 0 0 (RawS.jump s) 0)) (s' := [z0, z1, z2, z3, z4, z5, z6, rB s, z8, z9, Ob.dead, Ob.dead, Ob.dead]) mixed ([tF, tF, tF, tF, tF, tF, tF, tF, tT, tT, tF, tC (eT (nt hl)), tC (eT (nt hl)), tC (eT (nt hl)), tC (eT (nt hl)), tC (eT (nt hl))] ++ [tC (nt hl), tC (nt (by (simp only [sl2] at *; omega) : (RawS.code s == 233) = false))]) (by kernel_rfl)).cast (by (rfl; done)) (by rfl)
theorem as10l_ok (s : RawS) (k : Int) (k0 : 0 ≤ k) (k1 : k ≤ 31) (v0 : 0 ≤ s.code) (v1 : s.code ≤ 255) (cd nm : Int) (z0 z1 z2 z3 z4 z5 z6 z8 z9 : Ob) (hl : s.long = true)  : CallRun Try.prog 98 ([.ptr false 7 0, .int .i8 (IntKind.i8.wrap k), .agg [.int .i8 10, .int .u8 cd, .int .i8 nm]]) ([z0, z1, z2, z3, z4, z5, z6, .box [.int .i8 (RawS.w s), .bool (RawS.long s), .int .u8 (RawS.code s), .int .i8 (RawS.r s), .int .i8 (RawS.m s), .int .i64 (RawS.disp s), .int .i64 (RawS.imm s), .int .i64 (RawS.small s), .int .i64 (RawS.near s), .int .i64 (RawS.jump s), .int .i8 (RawS.high s)], z8, z9]) (xD (IntKind.i8.wrap k) 32 0 0 0 0 (RawS.near s) (s.code % 16)) ([z0, z1, z2, z3, z4, z5, z6, .box [.int .i8 (RawS.w s), .bool (RawS.long s), .int .u8 (RawS.code s), .int .i8 (RawS.r s), .int .i8 (RawS.m s), .int .i64 (RawS.disp s), .int .i64 (RawS.imm s), .int .i64 (RawS.small s), .int .i64 (RawS.near s), .int .i64 (RawS.jump s), .int .i8 (RawS.high s)], z8, z9, .dead, .dead, .dead]) := by
 exact (CallRun.of_eval (keep := [0, 1, 2, 3, 4, 5, 6, 7, 8, 9]) (d := (xD (IntKind.wrap IntKind.i8 k) 32 0 0 0 0 (RawS.near s) (IntKind.wrap IntKind.i8 (IntKind.wrap IntKind.u8 (↑(BitVec.toNat (BitVec.ofInt (8 : Nat) (RawS.code s) &&& BitVec.ofInt (8 : Nat) 15)) : Int))))) (s' := [z0, z1, z2, z3, z4, z5, z6, rB s, z8, z9, Ob.dead, Ob.dead, Ob.dead]) mixed ([tF, tF, tF, tF, tF, tF, tF, tF, tF, tT, tT, tC (eT (nt hl)), tC (eT (nt hl)), tC (eT (nt hl)), tC (eT (nt hl)), tC (eT (nt hl))] ++ [tC (nt hl), tF]) (by kernel_rfl)).cast (by (simp only [xD, D.agg.injEq, List.cons.injEq, D.int.injEq, true_and, and_true]; exact low15 v0 v1; done)) (by rfl)
theorem as10n_ok (s : RawS) (k : Int) (k0 : 0 ≤ k) (k1 : k ≤ 31) (v0 : 0 ≤ s.code) (v1 : s.code ≤ 255) (cd nm : Int) (z0 z1 z2 z3 z4 z5 z6 z8 z9 : Ob) (hl : s.long = false) (hc : s.code = 233)  : CallRun Try.prog 98 ([.ptr false 7 0, .int .i8 (IntKind.i8.wrap k), .agg [.int .i8 10, .int .u8 cd, .int .i8 nm]]) ([z0, z1, z2, z3, z4, z5, z6, .box [.int .i8 (RawS.w s), .bool (RawS.long s), .int .u8 (RawS.code s), .int .i8 (RawS.r s), .int .i8 (RawS.m s), .int .i64 (RawS.disp s), .int .i64 (RawS.imm s), .int .i64 (RawS.small s), .int .i64 (RawS.near s), .int .i64 (RawS.jump s), .int .i8 (RawS.high s)], z8, z9]) (xD (IntKind.i8.wrap k) 32 0 0 0 0 (RawS.near s) (s.code % 16)) ([z0, z1, z2, z3, z4, z5, z6, .box [.int .i8 (RawS.w s), .bool (RawS.long s), .int .u8 (RawS.code s), .int .i8 (RawS.r s), .int .i8 (RawS.m s), .int .i64 (RawS.disp s), .int .i64 (RawS.imm s), .int .i64 (RawS.small s), .int .i64 (RawS.near s), .int .i64 (RawS.jump s), .int .i8 (RawS.high s)], z8, z9, .dead, .dead, .dead]) := by
 by_cases h0 : RawS.code s = 233
 ·exact (CallRun.of_eval (keep := [0, 1, 2, 3, 4, 5, 6, 7, 8, 9]) (d := (xD (IntKind.wrap IntKind.i8 k) 32 0 0 0 0 (RawS.near s) (IntKind.wrap IntKind.i8 (IntKind.wrap IntKind.u8 (↑(BitVec.toNat (BitVec.ofInt (8 : Nat) (RawS.code s) &&& BitVec.ofInt (8 : Nat) 15)) : Int))))) (s' := [z0, z1, z2, z3, z4, z5, z6, rB s, z8, z9, Ob.dead, Ob.dead, Ob.dead]) mixed ([tF, tF, tF, tF, tF, tF, tF, tF, tF, tT, tT, tC (eT (nt hl)), tC (eT (nt hl)), tC (eT (nt hl)), tC (eT (nt hl)), tC (eT (nt hl))] ++ [tC (nt hl), tC (nt (eqI 233 true h0))]) (by kernel_rfl)).cast (by (simp only [xD, D.agg.injEq, List.cons.injEq, D.int.injEq, true_and, and_true]; exact low15 v0 v1; done)) (by rfl)
 exfalso; (try simp only [decide_eq_true_eq, decide_eq_false_iff_not, beq_iff_eq, beq_eq_false_iff_ne, bne_iff_ne, ne_eq] at *); first | omega | contradiction
theorem as10s_ok (s : RawS) (k : Int) (k0 : 0 ≤ k) (k1 : k ≤ 31) (v0 : 0 ≤ s.code) (v1 : s.code ≤ 255) (cd nm : Int) (z0 z1 z2 z3 z4 z5 z6 z8 z9 : Ob) (hl : s.long = false) (hc : ¬ s.code = 233)  : CallRun Try.prog 98 ([.ptr false 7 0, .int .i8 (IntKind.i8.wrap k), .agg [.int .i8 10, .int .u8 cd, .int .i8 nm]]) ([z0, z1, z2, z3, z4, z5, z6, .box [.int .i8 (RawS.w s), .bool (RawS.long s), .int .u8 (RawS.code s), .int .i8 (RawS.r s), .int .i8 (RawS.m s), .int .i64 (RawS.disp s), .int .i64 (RawS.imm s), .int .i64 (RawS.small s), .int .i64 (RawS.near s), .int .i64 (RawS.jump s), .int .i8 (RawS.high s)], z8, z9]) (xD (IntKind.i8.wrap k) 8 0 0 0 0 (RawS.jump s) (s.code % 16)) ([z0, z1, z2, z3, z4, z5, z6, .box [.int .i8 (RawS.w s), .bool (RawS.long s), .int .u8 (RawS.code s), .int .i8 (RawS.r s), .int .i8 (RawS.m s), .int .i64 (RawS.disp s), .int .i64 (RawS.imm s), .int .i64 (RawS.small s), .int .i64 (RawS.near s), .int .i64 (RawS.jump s), .int .i8 (RawS.high s)], z8, z9, .dead, .dead, .dead]) := by
 exact (CallRun.of_eval (keep := [0, 1, 2, 3, 4, 5, 6, 7, 8, 9]) (d := (xD (IntKind.wrap IntKind.i8 k) 8 0 0 0 0 (RawS.jump s) (IntKind.wrap IntKind.i8 (IntKind.wrap IntKind.u8 (↑(BitVec.toNat (BitVec.ofInt (8 : Nat) (RawS.code s) &&& BitVec.ofInt (8 : Nat) 15)) : Int))))) (s' := [z0, z1, z2, z3, z4, z5, z6, rB s, z8, z9, Ob.dead, Ob.dead, Ob.dead]) mixed ([tF, tF, tF, tF, tF, tF, tF, tF, tF, tT, tT, tC (eT (nt hl)), tC (eT (nt hl)), tC (eT (nt hl)), tC (eT (nt hl)), tC (eT (nt hl))] ++ [tC (nt hl), tC (nt (by (simp only [sl2] at *; omega) : (RawS.code s == 233) = false))]) (by kernel_rfl)).cast (by (simp only [xD, D.agg.injEq, List.cons.injEq, D.int.injEq, true_and, and_true]; exact low15 v0 v1; done)) (by rfl)
theorem as11_ok (s : RawS) (k : Int) (k0 : 0 ≤ k) (k1 : k ≤ 31) (v0 : 0 ≤ s.code) (v1 : s.code ≤ 255) (cd nm : Int) (z0 z1 z2 z3 z4 z5 z6 z8 z9 : Ob)  : CallRun Try.prog 98 ([.ptr false 7 0, .int .i8 (IntKind.i8.wrap k), .agg [.int .i8 11, .int .u8 cd, .int .i8 nm]]) ([z0, z1, z2, z3, z4, z5, z6, rB s, z8, z9]) (xD (IntKind.i8.wrap k) 0 0 0 0 0 0 0) ([z0, z1, z2, z3, z4, z5, z6, rB s, z8, z9, .dead, .dead, .dead]) := by
 exact (CallRun.of_eval (keep := [0, 1, 2, 3, 4, 5, 6, 7, 8, 9]) (d := (xD (IntKind.wrap IntKind.i8 k) 0 0 0 0 0 0 0)) (s' := [z0, z1, z2, z3, z4, z5, z6, rB s, z8, z9, Ob.dead, Ob.dead, Ob.dead]) mixed [tF, tF, tF, tF, tF, tF, tF, tF, tF, tF, tT] (by kernel_rfl)).cast (by (rfl; done)) (by rfl)
end Go.Proofs.Ytcngafhpodeenaa

namespace Go.Proofs.Ytcngafhpodeenaa
open Go Go.Ev
set_option maxRecDepth 100000
theorem as_ok (s : RawS) (k : Int) (k0 : 0 ≤ k) (k1 : k ≤ 31) (v0 : 0 ≤ s.code) (v1 : s.code ≤ 255) (hh : s.high = 0 ∨ s.high = 8) (z0 z1 z2 z3 z4 z5 z6 z8 z9 : Ob) :
  CallRun Try.prog 98 [.ptr false 7 0, .int .i8 (IntKind.i8.wrap k), .agg [.int .i8 (shapeM k), .int .u8 (codeM k), .int .i8 (numM k)]]
   [z0, z1, z2, z3, z4, z5, z6, .box [.int .i8 s.w, .bool s.long, .int .u8 s.code, .int .i8 s.r, .int .i8 s.m, .int .i64 s.disp, .int .i64 s.imm, .int .i64 s.small, .int .i64 s.near, .int .i64 s.jump, .int .i8 s.high], z8, z9] (xsD (asM s k))
   [z0, z1, z2, z3, z4, z5, z6, .box [.int .i8 s.w, .bool s.long, .int .u8 s.code, .int .i8 s.r, .int .i8 s.m, .int .i64 s.disp, .int .i64 s.imm, .int .i64 s.small, .int .i64 s.near, .int .i64 s.jump, .int .i8 s.high], z8, z9, .dead, .dead, .dead] := by
 have hw := wr_op k0 k1
 have fin : ∀ {sh : Int} {d : D} {S1 S2 : List Ob}, shapeM k = sh → CallRun Try.prog 98 [.ptr false 7 0, .int .i8 (IntKind.i8.wrap k), .agg [.int .i8 sh, .int .u8 (codeM k), .int .i8 (numM k)]] S1 d S2 → d = xsD (asM s k) →
   CallRun Try.prog 98 [.ptr false 7 0, .int .i8 (IntKind.i8.wrap k), .agg [.int .i8 (shapeM k), .int .u8 (codeM k), .int .i8 (numM k)]] S1 (xsD (asM s k)) S2 := by
  intro sh d S1 S2 e h hd
  rw [e, ← hd]
  exact h
 rcases shape_some k0 k1 with h | h | h | h | h | h | h | h | h | h | h
 ·exact fin h (as1_ok s k k0 k1 v0 v1 _ _ z0 z1 z2 z3 z4 z5 z6 z8 z9) (by simp [asM, asS, xsD, h, hw])
 ·exact fin h (as2_ok s k k0 k1 v0 v1 _ _ z0 z1 z2 z3 z4 z5 z6 z8 z9) (by simp [asM, asS, xsD, h, hw])
 ·by_cases hk : k = 1
  ·by_cases hc : s.code < 184
   ·exact fin h (as3l_ok s k k0 k1 v0 v1 _ _ z0 z1 z2 z3 z4 z5 z6 z8 z9 hk hc) (by simp [asM, asS, xsD, h, hw]; rw [if_neg (by omega)]; simp)
   ·by_cases hd : s.code < 192
    ·exact fin h (as3m_ok s k k0 k1 v0 v1 _ _ z0 z1 z2 z3 z4 z5 z6 z8 z9 hk (by omega) hd hh) (by simp [asM, asS, xsD, h, hw]; rw [if_pos (by omega)]; simp)
    ·exact fin h (as3h_ok s k k0 k1 v0 v1 _ _ z0 z1 z2 z3 z4 z5 z6 z8 z9 hk (by omega)) (by simp [asM, asS, xsD, h, hw]; rw [if_neg (by omega)]; simp)
  ·exact fin h (as3n_ok s k k0 k1 v0 v1 _ _ z0 z1 z2 z3 z4 z5 z6 z8 z9 hk) (by simp [asM, asS, xsD, h, hw, hk])
 ·exact fin h (as4_ok s k k0 k1 v0 v1 _ _ z0 z1 z2 z3 z4 z5 z6 z8 z9) (by simp [asM, asS, xsD, h, hw])
 ·exact fin h (as5_ok s k k0 k1 v0 v1 _ _ z0 z1 z2 z3 z4 z5 z6 z8 z9) (by simp [asM, asS, xsD, h, hw])
 ·exact fin h (as6_ok s k k0 k1 v0 v1 _ _ z0 z1 z2 z3 z4 z5 z6 z8 z9) (by simp [asM, asS, xsD, h, hw])
 ·cases hl : s.long
  ·refine fin h (hl ▸ as7f_ok s k k0 k1 v0 v1 _ _ z0 z1 z2 z3 z4 z5 z6 z8 z9 hl) (by simp [asM, asS, xsD, h, hw, hl])
  ·refine fin h (hl ▸ as7t_ok s k k0 k1 v0 v1 _ _ z0 z1 z2 z3 z4 z5 z6 z8 z9 hl) (by simp [asM, asS, xsD, h, hw, hl])
 ·by_cases hc : s.code = 136
  ·exact fin h (as8t_ok s k k0 k1 v0 v1 _ _ z0 z1 z2 z3 z4 z5 z6 z8 z9 hc) (by simp [asM, asS, xsD, h, hw, hc])
  ·exact fin h (as8f_ok s k k0 k1 v0 v1 _ _ z0 z1 z2 z3 z4 z5 z6 z8 z9 hc) (by simp [asM, asS, xsD, h, hw, hc])
 ·cases hl : s.long
  ·by_cases hc : s.code = 233
   ·exact fin h (hl ▸ as9n_ok s k k0 k1 v0 v1 _ _ z0 z1 z2 z3 z4 z5 z6 z8 z9 hl hc) (by simp [asM, asS, xsD, h, hw, hc])
   ·exact fin h (hl ▸ as9s_ok s k k0 k1 v0 v1 _ _ z0 z1 z2 z3 z4 z5 z6 z8 z9 hl hc) (by simp [asM, asS, xsD, h, hw, hl, hc])
  ·exact fin h (hl ▸ as9l_ok s k k0 k1 v0 v1 _ _ z0 z1 z2 z3 z4 z5 z6 z8 z9 hl) (by simp [asM, asS, xsD, h, hw, hl])
 ·cases hl : s.long
  ·by_cases hc : s.code = 233
   ·exact fin h (hl ▸ as10n_ok s k k0 k1 v0 v1 _ _ z0 z1 z2 z3 z4 z5 z6 z8 z9 hl hc) (by simp [asM, asS, xsD, h, hw, hc])
   ·exact fin h (hl ▸ as10s_ok s k k0 k1 v0 v1 _ _ z0 z1 z2 z3 z4 z5 z6 z8 z9 hl hc) (by simp [asM, asS, xsD, h, hw, hl, hc])
  ·exact fin h (hl ▸ as10l_ok s k k0 k1 v0 v1 _ _ z0 z1 z2 z3 z4 z5 z6 z8 z9 hl) (by simp [asM, asS, xsD, h, hw, hl])
 ·exact fin h (as11_ok s k k0 k1 v0 v1 _ _ z0 z1 z2 z3 z4 z5 z6 z8 z9) (by simp [asM, asS, xsD, h, hw])
end Go.Proofs.Ytcngafhpodeenaa
