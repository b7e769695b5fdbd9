/- Contracts and plain laws that a statement's proof leans on (texts merged: XB2e, XBytes, XB3, XBytes2, XLen, XD2, XD3, XD4, XD4A, MdP, MdS, MdI, MdG, MdV, MdP5, MdLa, XL2, XL2A, XL3, XL3A, XLW, XL1, XL4, XL5). -/
import Derived.Test.YtcngafhpodeenaaGreatG05
import Derived.Test.YtcngafhpodeenaaGreatG06
import Derived.Test.YtcngafhpodeenaaGreatG09
import Derived.Test.YtcngafhpodeenaaGreatG10
import Derived.Test.YtcngafhpodeenaaGreatG12
import Derived.Test.YtcngafhpodeenaaGreatG13
import Derived.Test.YtcngafhpodeenaaGreatG14
set_option linter.unusedVariables false
set_option linter.unusedSimpArgs false
namespace Go.Proofs.YtcngafhpodeenaaGreat
open Go Go.Ev
set_option maxRecDepth 100000
set_option maxHeartbeats 8000000
def SpXB2e0 (k0_ : Int) : Prop := ∀ (w dst src base disp imm cc : Int) (d0 : 0 ≤ dst) (d1 : dst ≤ 15) (s0 : 0 ≤ src) (s1 : src ≤ 15) (b0 : 0 ≤ base) (b1 : base ≤ 15) (p0 : -2147483648 ≤ disp) (p1 : disp ≤ 2147483647) (i0 : -2147483648 ≤ imm) (i1 : imm ≤ 2147483647) (c0 : 0 ≤ cc) (c1 : cc ≤ 15) (hm : mayX k0_ w dst src base disp imm cc = true), Ret Tryz.prog 13 ([xD k0_ w dst src base disp imm cc]) (.tup [.lst .no 1 (bD (bytesM k0_ w dst src base disp imm cc)), .int .i64 0])
theorem bytesO_28_ok : SpXB2e0 28 := by
 intro w dst src base disp imm cc d0 d1 s0 s1 b0 b1 p0 p1 i0 i1 c0 c1 hm
 have c0 := @mayX_ok 28 w dst src base disp imm cc (by decide)
 rw [show (mayX 28 w dst src base disp imm cc) = true from hm] at c0
 have c1 := @of_any_ok 28 (by decide)
 by_cases h2 : w = 8
 ·subst h2
  exact (o13 (d := .tup [.lst .tight 1 [.int .u8 235, .int .u8 (IntKind.wrap IntKind.u8 imm)], .int .i64 0]) ([.ret _ _ _ c0, tF, .ret _ _ _ c1] ++ List.replicate 8 tF ++ [tT, tT]) (by kernel_rfl)).to (by (subst_vars; (try simp only [beq_dec] at *); (try simp only [beq_iff_eq] at h); (try simp only [decide_eq_true_eq, decide_eq_false_iff_not] at *); simp_all [wk, wkL, wkO, bytesM, show shapeM 28 = 9 from rfl, bD, rexM, memM, fourM, w_u8]; done))
 have c3 := @four_ok imm
 exact (o13 (d := .tup [.lst (.fresh 1) 1 [.int .u8 233, .int .u8 (imm % 256), .int .u8 (imm / 256 % 256), .int .u8 (imm / 65536 % 256), .int .u8 (imm / 16777216 % 256)], .int .i64 0]) ([.ret _ _ _ c0, tF, .ret _ _ _ c1] ++ List.replicate 8 tF ++ [tT, tC (neOf h2), .ret _ _ _ c3, .inl, .go 64, tT, tT, .get ([.lst .tight 1 [.int .u8 233], .lst .no 1 [.int .u8 (imm % 256), .int .u8 (imm / 256 % 256), .int .u8 (imm / 65536 % 256), .int .u8 (imm / 16777216 % 256)]]) 0 (.lst .tight 1 [.int .u8 233]) rfl, .len 1 2147483648 (by decide), tT, tT, .get ([.lst .tight 1 [.int .u8 233], .lst .no 1 [.int .u8 (imm % 256), .int .u8 (imm / 256 % 256), .int .u8 (imm / 65536 % 256), .int .u8 (imm / 16777216 % 256)]]) 1 (.lst .no 1 [.int .u8 (imm % 256), .int .u8 (imm / 256 % 256), .int .u8 (imm / 65536 % 256), .int .u8 (imm / 16777216 % 256)]) rfl, .len 5 2147483648 (by decide), tF]) (by kernel_rfl)).to (by (subst_vars; (try simp only [beq_dec] at *); (try simp only [beq_iff_eq] at h); (try simp only [decide_eq_true_eq, decide_eq_false_iff_not] at *); simp_all [wk, wkL, wkO, bytesM, show shapeM 28 = 9 from rfl, bD, rexM, memM, fourM, w_u8]; done))
theorem bytesO_29_ok : SpXB2e0 29 := by
 intro w dst src base disp imm cc d0 d1 s0 s1 b0 b1 p0 p1 i0 i1 c0 c1 hm
 have c0 := @mayX_ok 29 w dst src base disp imm cc (by decide)
 rw [show (mayX 29 w dst src base disp imm cc) = true from hm] at c0
 have c1 := @of_any_ok 29 (by decide)
 by_cases h2 : w = 8
 ·subst h2
  exact (o13 (d := .tup [.lst .tight 1 [.int .u8 (IntKind.wrap IntKind.u8 (112 + IntKind.wrap IntKind.u8 cc)), .int .u8 (IntKind.wrap IntKind.u8 imm)], .int .i64 0]) ([.ret _ _ _ c0, tF, .ret _ _ _ c1] ++ List.replicate 9 tF ++ [tT, tT]) (by kernel_rfl)).to (by (subst_vars; (try simp only [beq_dec] at *); (try simp only [beq_iff_eq] at h); (try simp only [decide_eq_true_eq, decide_eq_false_iff_not] at *); simp_all [wk, wkL, wkO, bytesM, show shapeM 29 = 10 from rfl, bD, rexM, memM, fourM, w_u8]; omega))
 have c3 := @four_ok imm
 exact (o13 (d := .tup [.lst (.fresh 1) 1 [.int .u8 15, .int .u8 (IntKind.wrap IntKind.u8 (128 + IntKind.wrap IntKind.u8 cc)), .int .u8 (imm % 256), .int .u8 (imm / 256 % 256), .int .u8 (imm / 65536 % 256), .int .u8 (imm / 16777216 % 256)], .int .i64 0]) ([.ret _ _ _ c0, tF, .ret _ _ _ c1] ++ List.replicate 9 tF ++ [tT, tC (neOf h2), .ret _ _ _ c3, .inl, .go 64, tT, tT, .get ([.lst .tight 1 [.int .u8 15, .int .u8 (IntKind.wrap IntKind.u8 (128 + IntKind.wrap IntKind.u8 cc))], .lst .no 1 [.int .u8 (imm % 256), .int .u8 (imm / 256 % 256), .int .u8 (imm / 65536 % 256), .int .u8 (imm / 16777216 % 256)]]) 0 (.lst .tight 1 [.int .u8 15, .int .u8 (IntKind.wrap IntKind.u8 (128 + IntKind.wrap IntKind.u8 cc))]) rfl, .len 2 2147483648 (by decide), tT, tT, .get ([.lst .tight 1 [.int .u8 15, .int .u8 (IntKind.wrap IntKind.u8 (128 + IntKind.wrap IntKind.u8 cc))], .lst .no 1 [.int .u8 (imm % 256), .int .u8 (imm / 256 % 256), .int .u8 (imm / 65536 % 256), .int .u8 (imm / 16777216 % 256)]]) 1 (.lst .no 1 [.int .u8 (imm % 256), .int .u8 (imm / 256 % 256), .int .u8 (imm / 65536 % 256), .int .u8 (imm / 16777216 % 256)]) rfl, .len 6 2147483648 (by decide), tF]) (by kernel_rfl)).to (by (subst_vars; (try simp only [beq_dec] at *); (try simp only [beq_iff_eq] at h); (try simp only [decide_eq_true_eq, decide_eq_false_iff_not] at *); simp_all [wk, wkL, wkO, bytesM, show shapeM 29 = 10 from rfl, bD, rexM, memM, fourM, w_u8]; omega))
theorem bytesO_30_ok : SpXB2e0 30 := by
 intro w dst src base disp imm cc d0 d1 s0 s1 b0 b1 p0 p1 i0 i1 c0 c1 hm
 have c0 := @mayX_ok 30 w dst src base disp imm cc (by decide)
 rw [show (mayX 30 w dst src base disp imm cc) = true from hm] at c0
 have c1 := @of_any_ok 30 (by decide)
 exact (o13 (d := .tup [.lst .tight 1 [.int .u8 195], .int .i64 0]) ([.ret _ _ _ c0, tF, .ret _ _ _ c1] ++ List.replicate 11 tF) (by kernel_rfl)).to (by (subst_vars; (try simp only [beq_dec] at *); (try simp only [beq_iff_eq] at h); (try simp only [decide_eq_true_eq, decide_eq_false_iff_not] at *); simp_all [wk, wkL, wkO, bytesM, show shapeM 30 = 11 from rfl, bD, rexM, memM, fourM, w_u8]; done))
theorem bytesO_31_ok : SpXB2e0 31 := by
 intro w dst src base disp imm cc d0 d1 s0 s1 b0 b1 p0 p1 i0 i1 c0 c1 hm
 have c0 := @mayX_ok 31 w dst src base disp imm cc (by decide)
 rw [show (mayX 31 w dst src base disp imm cc) = true from hm] at c0
 have c1 := @of_any_ok 31 (by decide)
 exact (o13 (d := .tup [.lst .tight 1 [.int .u8 15, .int .u8 5], .int .i64 0]) ([.ret _ _ _ c0, tF, .ret _ _ _ c1] ++ List.replicate 10 tF ++ [tT]) (by kernel_rfl)).to (by (subst_vars; (try simp only [beq_dec] at *); (try simp only [beq_iff_eq] at h); (try simp only [decide_eq_true_eq, decide_eq_false_iff_not] at *); simp_all [wk, wkL, wkO, bytesM, show shapeM 31 = 11 from rfl, bD, rexM, memM, fourM, w_u8]; done))
end Go.Proofs.YtcngafhpodeenaaGreat

namespace Go.Proofs.YtcngafhpodeenaaGreat
open Go Go.Ev
theorem num_range (op : Int) : 0 ≤ numM op ∧ numM op ≤ 7 := by
 unfold numM
 repeat' split
 all_goals omega
theorem mayX_cc {op w dst src base disp imm cc : Int} (h : mayX op w dst src base disp imm cc = true) : 0 ≤ cc ∧ cc ≤ 15 := by
 have hs := (mayX_parts h).2
 unfold mayS at hs
 repeat' split at hs
 all_goals first | (cases hs; done) | (simp only [ccM, Bool.and_eq_true, decide_eq_true_eq] at hs; omega)
theorem bytes_may_ok (op w dst src base disp imm cc : Int) (ho : op ≤ 127) (hm : mayX op w dst src base disp imm cc = true) :
  Ret Tryz.prog 13 [xD op w dst src base disp imm cc] (.tup [.lst .no 1 (bD (bytesM op w dst src base disp imm cc)), .int .i64 0]) := by
 obtain ⟨⟨d0, d1, s0, s1, b0, b1, p0, p1, i0, i1⟩, hs⟩ := mayX_parts hm
 obtain ⟨c0, c1⟩ := mayX_cc hm
 obtain ⟨n0, n1⟩ := num_range op
 have hsh : shapeM op ≠ 0 := by
  intro e
  rw [e] at hs
  simp [mayS] at hs
 obtain ⟨k, e⟩ := op_fin hsh
 have hin : decide (0 ≤ op ∧ op ≤ 31) = true := by rw [e]; simp; omega
 have hr := shape_range k
 rw [← e] at hr
 rcases hr with h | h | h | h | h | h | h | h | h | h | h
 ·exact bytes_1_ok _ _ _ _ _ _ _ _ ho d0 d1 s0 s1 b0 b1 p0 p1 i0 i1 c0 c1 n0 n1 (by rw [h]; rfl) hin hm
 ·have e2 : op = 16 := by
   rw [e] at h ⊢
   revert h
   exact (by decide +kernel : ∀ n : Fin 32, shapeM (n.val : Int) = 2 → (n.val : Int) = 16) k
  subst e2
  exact bytesO_16_ok _ _ _ _ _ _ _ d0 d1 s0 s1 b0 b1 p0 p1 i0 i1 c0 c1 hm
 ·exact bytes_3_ok _ _ _ _ _ _ _ _ ho d0 d1 s0 s1 b0 b1 p0 p1 i0 i1 c0 c1 n0 n1 (by rw [h]; rfl) hin (long_cases (by rw [h] at hs; simp [mayS] at hs; exact hs.1)) hm
 ·exact bytes_4_ok _ _ _ _ _ _ _ _ ho d0 d1 s0 s1 b0 b1 p0 p1 i0 i1 c0 c1 n0 n1 (by rw [h]; rfl) hin hm
 ·exact bytes_5_ok _ _ _ _ _ _ _ _ ho d0 d1 s0 s1 b0 b1 p0 p1 i0 i1 c0 c1 n0 n1 (by rw [h]; rfl) hin hm
 ·have e2 : op = 25 := by rw [e] at h ⊢; exact shape_6 k h
  subst e2
  exact bytesO_25_ok _ _ _ _ _ _ _ d0 d1 s0 s1 b0 b1 p0 p1 i0 i1 c0 c1 hm
 ·have e2 : op = 26 := by rw [e] at h ⊢; exact shape_7 k h
  subst e2
  exact bytesO_26_ok _ _ _ _ _ _ _ d0 d1 s0 s1 b0 b1 p0 p1 i0 i1 c0 c1 hm
 ·have e2 : op = 27 := by rw [e] at h ⊢; exact shape_8 k h
  subst e2
  exact bytesO_27_ok _ _ _ _ _ _ _ d0 d1 s0 s1 b0 b1 p0 p1 i0 i1 c0 c1 hm
 ·have e2 : op = 28 := by rw [e] at h ⊢; exact shape_9 k h
  subst e2
  exact bytesO_28_ok _ _ _ _ _ _ _ d0 d1 s0 s1 b0 b1 p0 p1 i0 i1 c0 c1 hm
 ·have e2 : op = 29 := by rw [e] at h ⊢; exact shape_10 k h
  subst e2
  exact bytesO_29_ok _ _ _ _ _ _ _ d0 d1 s0 s1 b0 b1 p0 p1 i0 i1 c0 c1 hm
 ·rcases shape_11 k (by rw [e] at h; exact h) with e2 | e2
  ·rw [← e] at e2; subst e2
   exact bytesO_30_ok _ _ _ _ _ _ _ d0 d1 s0 s1 b0 b1 p0 p1 i0 i1 c0 c1 hm
  ·rw [← e] at e2; subst e2
   exact bytesO_31_ok _ _ _ _ _ _ _ d0 d1 s0 s1 b0 b1 p0 p1 i0 i1 c0 c1 hm
end Go.Proofs.YtcngafhpodeenaaGreat

namespace Go.Proofs.YtcngafhpodeenaaGreat
open Go Go.Ev
set_option maxRecDepth 100000
set_option maxHeartbeats 8000000
theorem bytes_no_ok (op w dst src base disp imm cc : Int) (ho : op ≤ 127) (hm : mayX op w dst src base disp imm cc = false) : Ret Tryz.prog 13 ([xD op w dst src base disp imm cc]) (.tup [.lst .no 1 [], .int .i64 2]) := by
 have c0 := @mayX_ok op w dst src base disp imm cc ho
 rw [show (mayX op w dst src base disp imm cc) = false from hm] at c0
 exact (o13 (d := .tup [.lst .tight 0 [], .int .i64 2]) [.ret _ _ _ c0, tT] (by kernel_rfl)).to (by simp [wk, wkL, wkO])
end Go.Proofs.YtcngafhpodeenaaGreat

namespace Go.Proofs.YtcngafhpodeenaaGreat
open Go Go.Ev
theorem bytes_any_ok (op w dst src base disp imm cc : Int) (ho : op ≤ 127) : Ret Tryz.prog 13 [xD op w dst src base disp imm cc] (.tup [.lst .no 1 (bytesL op w dst src base disp imm cc), .int .i64 (bytesE op w dst src base disp imm cc)]) := by
 unfold bytesL bytesE
 cases h : mayX op w dst src base disp imm cc
 ·exact bytes_no_ok op w dst src base disp imm cc ho h
 ·exact bytes_may_ok op w dst src base disp imm cc ho h
end Go.Proofs.YtcngafhpodeenaaGreat

namespace Go.Proofs.YtcngafhpodeenaaGreat
open Go Go.Ev
set_option maxRecDepth 100000
set_option maxHeartbeats 8000000
theorem xlen_ok (op w dst src base disp imm cc : Int) (ho : op ≤ 127) : Ret Tryz.prog 33 ([xD op w dst src base disp imm cc]) (.int .i64 (lenX op w dst src base disp imm cc)) := by
 have c0 := @bytes_any_ok op w dst src base disp imm cc ho
 exact (o33 (d := .int .i64 (↑(List.length (bytesL op w dst src base disp imm cc)) : Int)) [.ret _ _ _ c0] (by kernel_rfl)).to (by simp [wk, lenX])
end Go.Proofs.YtcngafhpodeenaaGreat

namespace Go.Proofs.YtcngafhpodeenaaGreat
open Go Go.Ev
set_option maxRecDepth 100000
set_option maxHeartbeats 8000000
theorem rd_end (b : List Int) (s : RawS) : RoundRun Tryz.prog (loopB Tryz.f40 0) ⟨[], [1, 2, 3, 5], []⟩ 9 ((D.yld (5 : Nat)) :: (D.ptr false 4 0) :: (uu) :: (D.ptr false 7 0) :: (un 11 ++ (.agg formsL) :: (.int .i64 32) :: (un 16))) [Ob.box [.lst .no 1 (bD b)], Ob.box zX, Ob.box [.int .i64 0], Ob.box [.int .i64 0], Ob.box [.lst .no 1 (bD b)],
 Ob.lp Lk.ready
  (let y :=
   let y :=
    let y := [uu, uu, uu, uu, uu];
    uu :: uu :: uu :: uu :: uu :: y;
   let y := uu :: uu :: uu :: uu :: uu :: y;
   uu :: uu :: uu :: uu :: uu :: y;
  let y :=
   let y := uu :: uu :: uu :: uu :: uu :: y;
   uu :: uu :: uu :: uu :: uu :: y;
  let y := D.ptr false 3 0 :: uu :: uu :: uu :: uu :: y;
  uu :: D.ptr false 0 0 :: D.ptr false 1 0 :: D.ptr false 2 0 :: y)
  #[(10 : Nat)] (rngA Tryz.f9 (0 : Nat)) (rngB Tryz.f9 (0 : Nat)),
 Ob.dead, Ob.box [.int .i8 (RawS.w s), .bool (RawS.long s), .int .u8 (RawS.code s), .int .i8 (RawS.r s), .int .i8 (RawS.m s), .int .i64 (RawS.disp s), .int .i64 (RawS.imm s), .int .i64 (RawS.small s), .int .i64 (RawS.near s), .int .i64 (RawS.jump s), .int .i8 (RawS.high s)], Ob.dead] (Ex.exit (0 : Nat)) (un 33) ([Ob.dead, Ob.box zX, Ob.box [.int .i64 0], Ob.box [.int .i64 0], Ob.dead, Ob.lp Lk.ready ((uu) :: (D.ptr false 0 0) :: (D.ptr false 1 0) :: (D.ptr false 2 0) :: (D.ptr false 3 0) :: (un 34)) #[(10 : Nat)] (rngA Tryz.f9 (0 : Nat)) (rngB Tryz.f9 (0 : Nat)), Ob.dead, Ob.dead, Ob.dead]) := by
 exact RoundRun.of_eval mixed [tF] (by kernel_rfl)
theorem rd_may (b own : List Int) (s : RawS) (k : Int) (k0 : 0 ≤ k) (k1 : k ≤ 31) (v0 : 0 ≤ s.code) (v1 : s.code ≤ 255) (hh : s.high = 0 ∨ s.high = 8) (hy : Ret Tryz.prog 28 [xsD (asM s k)] (.bool false))  : RoundRun Tryz.prog (loopB Tryz.f40 0) ⟨[0, 1, 3, 15, 16], [0, 1, 2, 3, 4, 5, 7], []⟩ 9 ((D.yld (5 : Nat)) :: (D.ptr false 4 0) :: (uu) :: (D.ptr false 7 0) :: (un 11 ++ (.agg formsL) :: (.int .i64 k) :: (un 16))) [Ob.box [.lst .no 1 (bD b)], Ob.box zX, Ob.box [.int .i64 0], Ob.box [.int .i64 0], Ob.box [.lst .no 1 (bD b)],
 Ob.lp Lk.ready
  (let y :=
   let y :=
    let y := [uu, uu, uu, uu, uu];
    uu :: uu :: uu :: uu :: uu :: y;
   let y := uu :: uu :: uu :: uu :: uu :: y;
   uu :: uu :: uu :: uu :: uu :: y;
  let y :=
   let y := uu :: uu :: uu :: uu :: uu :: y;
   uu :: uu :: uu :: uu :: uu :: y;
  let y := D.ptr false 3 0 :: uu :: uu :: uu :: uu :: y;
  uu :: D.ptr false 0 0 :: D.ptr false 1 0 :: D.ptr false 2 0 :: y)
  #[(10 : Nat)] (rngA Tryz.f9 (0 : Nat)) (rngB Tryz.f9 (0 : Nat)),
 Ob.dead, Ob.box [.int .i8 (RawS.w s), .bool (RawS.long s), .int .u8 (RawS.code s), .int .i8 (RawS.r s), .int .i8 (RawS.m s), .int .i64 (RawS.disp s), .int .i64 (RawS.imm s), .int .i64 (RawS.small s), .int .i64 (RawS.near s), .int .i64 (RawS.jump s), .int .i8 (RawS.high s)], Ob.dead] .norm ((D.yld (5 : Nat)) :: (D.ptr false 4 0) :: (uu) :: (D.ptr false 7 0) :: (un 11 ++ (.agg formsL) :: (.int .i64 (IntKind.wrap IntKind.i64 (k + 1))) :: (un 16))) ([.box [.lst .no 1 (bD b)], .box zX, .box [.int .i64 0], .box [.int .i64 0], .box [.lst .no 1 (bD b)], .lp .ready ((uu) :: (.ptr false 0 0) :: (.ptr false 1 0) :: (.ptr false 2 0) :: (.ptr false 3 0) :: (un 34)) #[10] (rngA Tryz.f9 0) (rngB Tryz.f9 0), .dead, .box [.int .i8 (RawS.w s), .bool  (RawS.long s), .int .u8 (RawS.code s), .int .i8 (RawS.r s), .int .i8 (RawS.m s), .int .i64 (RawS.disp s), .int .i64 (RawS.imm s), .int .i64 (RawS.small s), .int .i64 (RawS.near s), .int .i64 (RawS.jump s), .int .i8 (RawS.high s)], .dead]) := by
 exact RoundRun.of_eval mixed [tC (decide_eq_true (Int.lt_add_one_of_le k1)), .tst (decide (0 ≤ k ∧ k < (↑(32 : Nat) : Int))) true (by (simp only [sl2] at *; omega)), .getA _ _ _ _ (@get_form k k0 k1), .callR _ _ _ _ _ (@as_ok s k k0 k1 v0 v1 hh (Ob.box [.lst .no 1 (bD b)]) (Ob.box zX) (Ob.box [.int .i64 0]) (Ob.box [.int .i64 0]) (Ob.box [.lst .no 1 (bD b)]) (Ob.lp Lk.ready ((uu) :: (D.ptr false 0 0) :: (D.ptr false 1 0) :: (D.ptr false 2 0) :: (D.ptr false 3 0) :: (un 34)) #[(10 : Nat)] (rngA Tryz.f9 (0 : Nat)) (rngB Tryz.f9 (0 : Nat))) (Ob.dead) (Ob.dead) (Ob.box [.int .i8 (shapeM k), .int .u8 (codeM k), .int .i8 (numM k)])), .ret _ _ _ hy, tF, tF, tF, tF, tF, tF] (by kernel_rfl)
theorem rd_long (b own : List Int) (s : RawS) (k : Int) (k0 : 0 ≤ k) (k1 : k ≤ 31) (v0 : 0 ≤ s.code) (v1 : s.code ≤ 255) (hh : s.high = 0 ∨ s.high = 8) (hy : Ret Tryz.prog 28 [xsD (asM s k)] (.bool true)) (hb : Ret Tryz.prog 13 [xsD (asM s k)] (.tup [.lst .no 1 (bD own), .int .i64 0])) (hl : ((bD b).length : Int) < ((bD own).length : Int)) : RoundRun Tryz.prog (loopB Tryz.f40 0) ⟨[0, 1, 3, 15, 16], [0, 1, 2, 3, 4, 5, 7], []⟩ 9 ((D.yld (5 : Nat)) :: (D.ptr false 4 0) :: (uu) :: (D.ptr false 7 0) :: (un 11 ++ (.agg formsL) :: (.int .i64 k) :: (un 16))) [Ob.box [.lst .no 1 (bD b)], Ob.box zX, Ob.box [.int .i64 0], Ob.box [.int .i64 0], Ob.box [.lst .no 1 (bD b)],
 Ob.lp Lk.ready
  (let y :=
   let y :=
    let y := [uu, uu, uu, uu, uu];
    uu :: uu :: uu :: uu :: uu :: y;
   let y := uu :: uu :: uu :: uu :: uu :: y;
   uu :: uu :: uu :: uu :: uu :: y;
  let y :=
   let y := uu :: uu :: uu :: uu :: uu :: y;
   uu :: uu :: uu :: uu :: uu :: y;
  let y := D.ptr false 3 0 :: uu :: uu :: uu :: uu :: y;
  uu :: D.ptr false 0 0 :: D.ptr false 1 0 :: D.ptr false 2 0 :: y)
  #[(10 : Nat)] (rngA Tryz.f9 (0 : Nat)) (rngB Tryz.f9 (0 : Nat)),
 Ob.dead, Ob.box [.int .i8 (RawS.w s), .bool (RawS.long s), .int .u8 (RawS.code s), .int .i8 (RawS.r s), .int .i8 (RawS.m s), .int .i64 (RawS.disp s), .int .i64 (RawS.imm s), .int .i64 (RawS.small s), .int .i64 (RawS.near s), .int .i64 (RawS.jump s), .int .i8 (RawS.high s)], Ob.dead] .norm ((D.yld (5 : Nat)) :: (D.ptr false 4 0) :: (uu) :: (D.ptr false 7 0) :: (un 11 ++ (.agg formsL) :: (.int .i64 (IntKind.wrap IntKind.i64 (k + 1))) :: (un 16))) ([.box [.lst .no 1 (bD b)], .box zX, .box [.int .i64 0], .box [.int .i64 0], .box [.lst .no 1 (bD b)], .lp .ready ((uu) :: (.ptr false 0 0) :: (.ptr false 1 0) :: (.ptr false 2 0) :: (.ptr false 3 0) :: (un 34)) #[10] (rngA Tryz.f9 0) (rngB Tryz.f9 0), .dead, .box [.int .i8 (RawS.w s), .bool  (RawS.long s), .int .u8 (RawS.code s), .int .i8 (RawS.r s), .int .i8 (RawS.m s), .int .i64 (RawS.disp s), .int .i64 (RawS.imm s), .int .i64 (RawS.small s), .int .i64 (RawS.near s), .int .i64 (RawS.jump s), .int .i8 (RawS.high s)], .dead]) := by
 exact RoundRun.of_eval mixed ([tC (decide_eq_true (Int.lt_add_one_of_le k1)), .tst (decide (0 ≤ k ∧ k < (↑(32 : Nat) : Int))) true (by (simp only [sl2] at *; omega)), .getA _ _ _ _ (@get_form k k0 k1), .callR _ _ _ _ _ (@as_ok s k k0 k1 v0 v1 hh (Ob.box [.lst .no 1 (bD b)]) (Ob.box zX) (Ob.box [.int .i64 0]) (Ob.box [.int .i64 0]) (Ob.box [.lst .no 1 (bD b)]) (Ob.lp Lk.ready ((uu) :: (D.ptr false 0 0) :: (D.ptr false 1 0) :: (D.ptr false 2 0) :: (D.ptr false 3 0) :: (un 34)) #[(10 : Nat)] (rngA Tryz.f9 (0 : Nat)) (rngB Tryz.f9 (0 : Nat))) (Ob.dead) (Ob.dead) (Ob.box [.int .i8 (shapeM k), .int .u8 (codeM k), .int .i8 (numM k)])), .ret _ _ _ hy, tT, tT, tT, .inl, .ret _ _ _ hb, tT, tT, tT, tT, tT, tT] ++ [tC (eT (by (simp only [sl2] at *; omega) : (decide ((↑(List.length (bD own)) : Int) ≤ (↑(List.length (bD b)) : Int))) = false)), tC (eT (by (simp only [sl2] at *; omega) : (decide ((↑(List.length (bD own)) : Int) ≤ (↑(List.length (bD b)) : Int))) = false)), tC (eT (by (simp only [sl2] at *; omega) : (decide ((↑(List.length (bD own)) : Int) ≤ (↑(List.length (bD b)) : Int))) = false)), tC (eT (by (simp only [sl2] at *; omega) : (decide ((↑(List.length (bD own)) : Int) ≤ (↑(List.length (bD b)) : Int))) = false)), tC (eT (by (simp only [sl2] at *; omega) : (decide ((↑(List.length (bD own)) : Int) ≤ (↑(List.length (bD b)) : Int))) = false)), tC (eT (by (simp only [sl2] at *; omega) : (decide ((↑(List.length (bD own)) : Int) ≤ (↑(List.length (bD b)) : Int))) = false)), tC (eT (by (simp only [sl2] at *; omega) : (decide ((↑(List.length (bD own)) : Int) ≤ (↑(List.length (bD b)) : Int))) = false)), tC (eT (by (simp only [sl2] at *; omega) : (decide ((↑(List.length (bD own)) : Int) ≤ (↑(List.length (bD b)) : Int))) = false)), tC (by (simp only [sl2] at *; omega) : (decide ((↑(List.length (bD own)) : Int) ≤ (↑(List.length (bD b)) : Int))) = false), tF, tT, tT, tF]) (by kernel_rfl)
theorem rd_not (b own : List Int) (s : RawS) (k : Int) (k0 : 0 ≤ k) (k1 : k ≤ 31) (v0 : 0 ≤ s.code) (v1 : s.code ≤ 255) (hh : s.high = 0 ∨ s.high = 8) (hy : Ret Tryz.prog 28 [xsD (asM s k)] (.bool true)) (hb : Ret Tryz.prog 13 [xsD (asM s k)] (.tup [.lst .no 1 (bD own), .int .i64 0])) (hl : ((bD own).length : Int) ≤ ((bD b).length : Int)) (hs : ((strD (bD own)).toList == (strD (List.take (Int.toNat ((List.length (bD own) : Nat) : Int)) (bD b))).toList) = false) : RoundRun Tryz.prog (loopB Tryz.f40 0) ⟨[0, 1, 3, 15, 16], [0, 1, 2, 3, 4, 5, 7], []⟩ 9 ((D.yld (5 : Nat)) :: (D.ptr false 4 0) :: (uu) :: (D.ptr false 7 0) :: (un 11 ++ (.agg formsL) :: (.int .i64 k) :: (un 16))) [Ob.box [.lst .no 1 (bD b)], Ob.box zX, Ob.box [.int .i64 0], Ob.box [.int .i64 0], Ob.box [.lst .no 1 (bD b)],
 Ob.lp Lk.ready
  (let y :=
   let y :=
    let y := [uu, uu, uu, uu, uu];
    uu :: uu :: uu :: uu :: uu :: y;
   let y := uu :: uu :: uu :: uu :: uu :: y;
   uu :: uu :: uu :: uu :: uu :: y;
  let y :=
   let y := uu :: uu :: uu :: uu :: uu :: y;
   uu :: uu :: uu :: uu :: uu :: y;
  let y := D.ptr false 3 0 :: uu :: uu :: uu :: uu :: y;
  uu :: D.ptr false 0 0 :: D.ptr false 1 0 :: D.ptr false 2 0 :: y)
  #[(10 : Nat)] (rngA Tryz.f9 (0 : Nat)) (rngB Tryz.f9 (0 : Nat)),
 Ob.dead, Ob.box [.int .i8 (RawS.w s), .bool (RawS.long s), .int .u8 (RawS.code s), .int .i8 (RawS.r s), .int .i8 (RawS.m s), .int .i64 (RawS.disp s), .int .i64 (RawS.imm s), .int .i64 (RawS.small s), .int .i64 (RawS.near s), .int .i64 (RawS.jump s), .int .i8 (RawS.high s)], Ob.dead] .norm ((D.yld (5 : Nat)) :: (D.ptr false 4 0) :: (uu) :: (D.ptr false 7 0) :: (un 11 ++ (.agg formsL) :: (.int .i64 (IntKind.wrap IntKind.i64 (k + 1))) :: (un 16))) ([.box [.lst .no 1 (bD b)], .box zX, .box [.int .i64 0], .box [.int .i64 0], .box [.lst .no 1 (bD b)], .lp .ready ((uu) :: (.ptr false 0 0) :: (.ptr false 1 0) :: (.ptr false 2 0) :: (.ptr false 3 0) :: (un 34)) #[10] (rngA Tryz.f9 0) (rngB Tryz.f9 0), .dead, .box [.int .i8 (RawS.w s), .bool  (RawS.long s), .int .u8 (RawS.code s), .int .i8 (RawS.r s), .int .i8 (RawS.m s), .int .i64 (RawS.disp s), .int .i64 (RawS.imm s), .int .i64 (RawS.small s), .int .i64 (RawS.near s), .int .i64 (RawS.jump s), .int .i8 (RawS.high s)], .dead]) := by
 exact RoundRun.of_eval mixed ([tC (decide_eq_true (Int.lt_add_one_of_le k1)), .tst (decide (0 ≤ k ∧ k < (↑(32 : Nat) : Int))) true (by (simp only [sl2] at *; omega)), .getA _ _ _ _ (@get_form k k0 k1), .callR _ _ _ _ _ (@as_ok s k k0 k1 v0 v1 hh (Ob.box [.lst .no 1 (bD b)]) (Ob.box zX) (Ob.box [.int .i64 0]) (Ob.box [.int .i64 0]) (Ob.box [.lst .no 1 (bD b)]) (Ob.lp Lk.ready ((uu) :: (D.ptr false 0 0) :: (D.ptr false 1 0) :: (D.ptr false 2 0) :: (D.ptr false 3 0) :: (un 34)) #[(10 : Nat)] (rngA Tryz.f9 (0 : Nat)) (rngB Tryz.f9 (0 : Nat))) (Ob.dead) (Ob.dead) (Ob.box [.int .i8 (shapeM k), .int .u8 (codeM k), .int .i8 (numM k)])), .ret _ _ _ hy, tT, tT, tT, .inl, .ret _ _ _ hb, tT, tT, tT, tT, tT, tT] ++ [tC (eT (by (simp only [sl2] at *; omega) : (decide ((↑(List.length (bD own)) : Int) ≤ (↑(List.length (bD b)) : Int))) = true)), tC (eT (by (simp only [sl2] at *; omega) : (decide ((↑(List.length (bD own)) : Int) ≤ (↑(List.length (bD b)) : Int))) = true)), tC (v := true) (@allB own), tC (eT (by (simp only [sl2] at *; omega) : (decide ((↑(List.length (bD own)) : Int) ≤ (↑(List.length (bD b)) : Int))) = true)), tC (eT (by (simp only [sl2] at *; omega) : (decide ((↑(List.length (bD own)) : Int) ≤ (↑(List.length (bD b)) : Int))) = true)), tC (eT (by (simp only [sl2] at *; omega) : (decide ((↑(List.length (bD own)) : Int) ≤ (↑(List.length (bD b)) : Int))) = true)), tC (eT (by (simp only [sl2] at *; omega) : (decide ((↑(List.length (bD own)) : Int) ≤ (↑(List.length (bD b)) : Int))) = true)), .tst (decide (0 ≤ (↑(List.length (bD own)) : Int) ∧ (↑(List.length (bD own)) : Int) ≤ (↑(List.length (bD b)) : Int))) true (by (simp only [sl2] at *; omega)), tC (eT (by (simp only [sl2] at *; omega) : (decide ((↑(List.length (bD own)) : Int) ≤ (↑(List.length (bD b)) : Int))) = true)), tC (v := true) (@allB_take b (Int.toNat (↑(List.length (bD own)) : Int))), tC (eT (by (simp only [sl2] at *; omega) : (decide ((↑(List.length (bD own)) : Int) ≤ (↑(List.length (bD b)) : Int))) = true)), tC (by (simp only [sl2] at *; omega) : (decide ((↑(List.length (bD own)) : Int) ≤ (↑(List.length (bD b)) : Int))) = true), tC hs, tT, tT, tF]) (by kernel_rfl)
theorem rd_fit (b own : List Int) (s : RawS) (k : Int) (k0 : 0 ≤ k) (k1 : k ≤ 31) (v0 : 0 ≤ s.code) (v1 : s.code ≤ 255) (hh : s.high = 0 ∨ s.high = 8) (hy : Ret Tryz.prog 28 [xsD (asM s k)] (.bool true)) (hb : Ret Tryz.prog 13 [xsD (asM s k)] (.tup [.lst .no 1 (bD own), .int .i64 0])) (hl : ((bD own).length : Int) ≤ ((bD b).length : Int)) (hs : ((strD (bD own)).toList == (strD (List.take (Int.toNat ((List.length (bD own) : Nat) : Int)) (bD b))).toList) = true) : RoundRun Tryz.prog (loopB Tryz.f40 0) ⟨[], [1, 2, 3, 5], []⟩ 9 ((D.yld (5 : Nat)) :: (D.ptr false 4 0) :: (uu) :: (D.ptr false 7 0) :: (un 11 ++ (.agg formsL) :: (.int .i64 k) :: (un 16))) [Ob.box [.lst .no 1 (bD b)], Ob.box zX, Ob.box [.int .i64 0], Ob.box [.int .i64 0], Ob.box [.lst .no 1 (bD b)],
 Ob.lp Lk.ready
  (let y :=
   let y :=
    let y := [uu, uu, uu, uu, uu];
    uu :: uu :: uu :: uu :: uu :: y;
   let y := uu :: uu :: uu :: uu :: uu :: y;
   uu :: uu :: uu :: uu :: uu :: y;
  let y :=
   let y := uu :: uu :: uu :: uu :: uu :: y;
   uu :: uu :: uu :: uu :: uu :: y;
  let y := D.ptr false 3 0 :: uu :: uu :: uu :: uu :: y;
  uu :: D.ptr false 0 0 :: D.ptr false 1 0 :: D.ptr false 2 0 :: y)
  #[(10 : Nat)] (rngA Tryz.f9 (0 : Nat)) (rngB Tryz.f9 (0 : Nat)),
 Ob.dead, Ob.box [.int .i8 (RawS.w s), .bool (RawS.long s), .int .u8 (RawS.code s), .int .i8 (RawS.r s), .int .i8 (RawS.m s), .int .i64 (RawS.disp s), .int .i64 (RawS.imm s), .int .i64 (RawS.small s), .int .i64 (RawS.near s), .int .i64 (RawS.jump s), .int .i8 (RawS.high s)], Ob.dead] (Ex.ret) (un 33) ([Ob.dead, Ob.box (xC (XS.op (asM s k)) (XS.w (asM s k)) (XS.dst (asM s k)) (XS.src (asM s k)) (XS.base (asM s k)) (XS.disp (asM s k)) (XS.imm (asM s k)) (XS.cc (asM s k))), Ob.box [.int .i64 (↑(List.length (bD own)) : Int)], Ob.box [.int .i64 0], Ob.dead, Ob.lp Lk.ret ((uu) :: (D.ptr false 0 0) :: (D.ptr false 1 0) :: (D.ptr false 2 0) :: (D.ptr false 3 0) :: (un 34)) #[(10 : Nat)] (rngA Tryz.f9 (0 : Nat)) (rngB Tryz.f9 (0 : Nat)), Ob.dead, Ob.dead, Ob.dead]) := by
 exact RoundRun.of_eval mixed ([tC (decide_eq_true (Int.lt_add_one_of_le k1)), .tst (decide (0 ≤ k ∧ k < (↑(32 : Nat) : Int))) true (by (simp only [sl2] at *; omega)), .getA _ _ _ _ (@get_form k k0 k1), .callR _ _ _ _ _ (@as_ok s k k0 k1 v0 v1 hh (Ob.box [.lst .no 1 (bD b)]) (Ob.box zX) (Ob.box [.int .i64 0]) (Ob.box [.int .i64 0]) (Ob.box [.lst .no 1 (bD b)]) (Ob.lp Lk.ready ((uu) :: (D.ptr false 0 0) :: (D.ptr false 1 0) :: (D.ptr false 2 0) :: (D.ptr false 3 0) :: (un 34)) #[(10 : Nat)] (rngA Tryz.f9 (0 : Nat)) (rngB Tryz.f9 (0 : Nat))) (Ob.dead) (Ob.dead) (Ob.box [.int .i8 (shapeM k), .int .u8 (codeM k), .int .i8 (numM k)])), .ret _ _ _ hy, tT, tT, tT, .inl, .ret _ _ _ hb, tT, tT, tT, tT, tT, tT] ++ [tC (eT (by (simp only [sl2] at *; omega) : (decide ((↑(List.length (bD own)) : Int) ≤ (↑(List.length (bD b)) : Int))) = true)), tC (eT (by (simp only [sl2] at *; omega) : (decide ((↑(List.length (bD own)) : Int) ≤ (↑(List.length (bD b)) : Int))) = true)), tC (v := true) (@allB own), tC (eT (by (simp only [sl2] at *; omega) : (decide ((↑(List.length (bD own)) : Int) ≤ (↑(List.length (bD b)) : Int))) = true)), tC (eT (by (simp only [sl2] at *; omega) : (decide ((↑(List.length (bD own)) : Int) ≤ (↑(List.length (bD b)) : Int))) = true)), tC (eT (by (simp only [sl2] at *; omega) : (decide ((↑(List.length (bD own)) : Int) ≤ (↑(List.length (bD b)) : Int))) = true)), tC (eT (by (simp only [sl2] at *; omega) : (decide ((↑(List.length (bD own)) : Int) ≤ (↑(List.length (bD b)) : Int))) = true)), .tst (decide (0 ≤ (↑(List.length (bD own)) : Int) ∧ (↑(List.length (bD own)) : Int) ≤ (↑(List.length (bD b)) : Int))) true (by (simp only [sl2] at *; omega)), tC (eT (by (simp only [sl2] at *; omega) : (decide ((↑(List.length (bD own)) : Int) ≤ (↑(List.length (bD b)) : Int))) = true)), tC (v := true) (@allB_take b (Int.toNat (↑(List.length (bD own)) : Int))), tC (eT (by (simp only [sl2] at *; omega) : (decide ((↑(List.length (bD own)) : Int) ≤ (↑(List.length (bD b)) : Int))) = true)), tC (by (simp only [sl2] at *; omega) : (decide ((↑(List.length (bD own)) : Int) ≤ (↑(List.length (bD b)) : Int))) = true), tC hs, tT, tT, tT]) (by kernel_rfl)
end Go.Proofs.YtcngafhpodeenaaGreat

namespace Go.Proofs.YtcngafhpodeenaaGreat
open Go Go.Ev
set_option maxRecDepth 100000
abbrev gT (n : Int) : List D := [.yld 5, .ptr false 4 0, .undef, .ptr false 7 0, .undef, .undef, .undef, .undef, .undef, .undef, .undef, .undef, .undef, .undef, .undef, .agg formsL, .int .i64 n, .undef, .undef, .undef, .undef, .undef, .undef, .undef, .undef, .undef, .undef, .undef, .undef, .undef, .undef, .undef, .undef]
abbrev gU : List D := [.undef, .undef, .undef, .undef, .undef, .undef, .undef, .undef, .undef, .undef, .undef, .undef, .undef, .undef, .undef, .undef, .undef, .undef, .undef, .undef, .undef, .undef, .undef, .undef, .undef, .undef, .undef, .undef, .undef, .undef, .undef, .undef, .undef]
abbrev gLP (ag bd : Code) (k : Lk) : Ob := .lp k [.undef, .ptr false 0 0, .ptr false 1 0, .ptr false 2 0, .ptr false 3 0, .undef, .undef, .undef, .undef, .undef, .undef, .undef, .undef, .undef, .undef, .undef, .undef, .undef, .undef, .undef, .undef, .undef, .undef, .undef, .undef, .undef, .undef, .undef, .undef, .undef, .undef, .undef, .undef, .undef, .undef, .undef, .undef, .undef, .undef] #[10] ag bd
abbrev gX0 : Ob := .box [.int .i8 0, .int .i8 0, .int .i8 0, .int .i8 0, .int .i8 0, .int .i64 0, .int .i64 0, .int .i8 0]
abbrev gS (ag bd : Code) (b : List Int) (s : RawS) : List Ob := [.box [.lst .no 1 (bD b)], gX0, .box [.int .i64 0], .box [.int .i64 0], .box [.lst .no 1 (bD b)], gLP ag bd .ready, .dead,
  .box [.int .i8 s.w, .bool s.long, .int .u8 s.code, .int .i8 s.r, .int .i8 s.m, .int .i64 s.disp, .int .i64 s.imm, .int .i64 s.small, .int .i64 s.near, .int .i64 s.jump, .int .i8 s.high], .dead]
abbrev gEx : Option XS → Ex
  | none => .exit 0
  | some _ => .ret
abbrev gOut (ag bd : Code) : Option XS → List Ob
  | none => [.dead, gX0, .box [.int .i64 0], .box [.int .i64 0], .dead, gLP ag bd .ready, .dead, .dead, .dead]
  | some x => [.dead, .box [.int .i8 x.op, .int .i8 x.w, .int .i8 x.dst, .int .i8 x.src, .int .i8 x.base, .int .i64 x.disp, .int .i64 x.imm, .int .i8 x.cc], .box [.int .i64 (bytesXS x).length], .box [.int .i64 0], .dead, gLP ag bd .ret, .dead, .dead, .dead]
theorem guess_rounds (b : List Int) (hb : isB b) (s : RawS) (v0 : 0 ≤ s.code) (v1 : s.code ≤ 255) (hh : s.high = 0 ∨ s.high = 8) : ∀ (m n : Nat), n + m = 32 →
  Rounds Tryz.prog (loopB Tryz.f40 0) 9 (gT n) (gS (rngA Tryz.f9 0) (rngB Tryz.f9 0) b s) (gEx (firstX b s (ops32.drop n))) gU (gOut (rngA Tryz.f9 0) (rngB Tryz.f9 0) (firstX b s (ops32.drop n)))
 | 0, n, hn => by
  obtain rfl : n = 32 := by omega
  exact Rounds.last (rd_end b s) (fun h => by cases h)
 | m + 1, n, hn => by
  have hlt : n < 32 := by omega
  rw [ops_drop hlt]
  have hop := asM_op s (n : Int)
  have hle : (asM s (n : Int)).op ≤ 127 := by rw [hop]; omega
  have hw : IntKind.i64.wrap ((n : Int) + 1) = ((n + 1 : Nat) : Int) := by rw [w_i64]; omega
  have ih := guess_rounds b hb s v0 v1 hh m (n + 1) (by omega)
  have hy : Ret Tryz.prog 28 [xsD (asM s (n : Int))] (.bool (mayXS (asM s (n : Int)))) := mayX_ok _ _ _ _ _ _ _ _ hle
  have go : ∀ {t2 : List D} {s2 : List Ob}, RoundRun Tryz.prog (loopB Tryz.f40 0) ⟨[0, 1, 3, 15, 16], [0, 1, 2, 3, 4, 5, 7], []⟩ 9 (gT n) (gS (rngA Tryz.f9 0) (rngB Tryz.f9 0) b s) .norm (gT (IntKind.i64.wrap ((n : Int) + 1))) (gS (rngA Tryz.f9 0) (rngB Tryz.f9 0) b s) → fitsX b (asM s (n : Int)) = false →
    Rounds Tryz.prog (loopB Tryz.f40 0) 9 (gT n) (gS (rngA Tryz.f9 0) (rngB Tryz.f9 0) b s) (gEx (firstX b s ((n : Int) :: ops32.drop (n + 1)))) gU (gOut (rngA Tryz.f9 0) (rngB Tryz.f9 0) (firstX b s ((n : Int) :: ops32.drop (n + 1)))) := by
   intro _ _ h hf
   have e : firstX b s ((n : Int) :: ops32.drop (n + 1)) = firstX b s (ops32.drop (n + 1)) := by simp only [firstX, hf, Bool.false_eq_true, if_false]
   rw [e]
   rw [hw] at h
   exact Rounds.more h ih
  cases hm : mayXS (asM s (n : Int)) with
  | false =>
   rw [hm] at hy
   exact go (t2 := []) (s2 := []) (rd_may b [] s n (by omega) (by omega) v0 v1 hh hy) (by simp [fitsX, hm])
  | true =>
   rw [hm] at hy
   have ho := bytesXS_isB hm
   have hbt : Ret Tryz.prog 13 [xsD (asM s (n : Int))] (.tup [.lst .no 1 (bD (bytesXS (asM s (n : Int)))), .int .i64 0]) := by
    have := bytes_any_ok (asM s (n : Int)).op (asM s (n : Int)).w (asM s (n : Int)).dst (asM s (n : Int)).src (asM s (n : Int)).base (asM s (n : Int)).disp (asM s (n : Int)).imm (asM s (n : Int)).cc hle
    have hm' : mayX (asM s (n : Int)).op (asM s (n : Int)).w (asM s (n : Int)).dst (asM s (n : Int)).src (asM s (n : Int)).base (asM s (n : Int)).disp (asM s (n : Int)).imm (asM s (n : Int)).cc = true := hm
    simp only [bytesL, bytesE, hm', if_true] at this
    exact this
   have hfit := fit_str ho hb
   by_cases hp : (bytesXS (asM s (n : Int))).isPrefixOf b = true
   ·obtain ⟨h1, h2⟩ := hfit.1 hp
    have e : firstX b s ((n : Int) :: ops32.drop (n + 1)) = some (asM s (n : Int)) := by simp only [firstX, fitsX, hm, hp, Bool.and_self, if_true]
    rw [e]
    have := rd_fit b (bytesXS (asM s (n : Int))) s n (by omega) (by omega) v0 v1 hh hy hbt h1 h2
    rw [len_bD] at this
    exact Rounds.last this (fun h => by cases h)
   ·have hf : fitsX b (asM s (n : Int)) = false := by simp [fitsX, hm, hp]
    by_cases hl : ((bD (bytesXS (asM s (n : Int)))).length : Int) ≤ ((bD b).length : Int)
    ·have hs : ((strD (bD (bytesXS (asM s (n : Int))))).toList == (strD (List.take (Int.toNat ((List.length (bD (bytesXS (asM s (n : Int)))) : Nat) : Int)) (bD b))).toList) = false := by
      cases e : ((strD (bD (bytesXS (asM s (n : Int))))).toList == (strD (List.take (Int.toNat ((List.length (bD (bytesXS (asM s (n : Int)))) : Nat) : Int)) (bD b))).toList) with
      | false => rfl
      | true => exact absurd (hfit.2 ⟨hl, e⟩) hp
     exact go (t2 := []) (s2 := []) (rd_not b _ s n (by omega) (by omega) v0 v1 hh hy hbt hl hs) hf
    ·exact go (t2 := []) (s2 := []) (rd_long b _ s n (by omega) (by omega) v0 v1 hh hy hbt (by omega)) hf
theorem guess_none (b : List Int) (hb : isB b) (s : RawS) (v0 : 0 ≤ s.code) (v1 : s.code ≤ 255) (hh : s.high = 0 ∨ s.high = 8) (hf : firstX b s ops32 = none) :
  LoopRun Tryz.prog 9 (.loop (loopB Tryz.f40 0)) (gT 0) (gS (rngA Tryz.f9 0) (rngB Tryz.f9 0) b s) (.exit 0) gU (gOut (rngA Tryz.f9 0) (rngB Tryz.f9 0) none) := by
 have h := guess_rounds b hb s v0 v1 hh 32 0 rfl
 rw [List.drop_zero, hf] at h
 exact LoopRun.of_rounds (Nat.le_refl _) h
theorem guess_some (b : List Int) (hb : isB b) (s : RawS) (v0 : 0 ≤ s.code) (v1 : s.code ≤ 255) (hh : s.high = 0 ∨ s.high = 8) (x : XS) (hf : firstX b s ops32 = some x) :
  LoopRun Tryz.prog 9 (.loop (loopB Tryz.f40 0)) (gT 0) (gS (rngA Tryz.f9 0) (rngB Tryz.f9 0) b s) .ret gU (gOut (rngA Tryz.f9 0) (rngB Tryz.f9 0) (some x)) := by
 have h := guess_rounds b hb s v0 v1 hh 32 0 rfl
 rw [List.drop_zero, hf] at h
 exact LoopRun.of_rounds (Nat.le_refl _) h
end Go.Proofs.YtcngafhpodeenaaGreat

namespace Go.Proofs.YtcngafhpodeenaaGreat
open Go Go.Ev
set_option maxRecDepth 100000
set_option maxHeartbeats 8000000
theorem readF_ok (b : List Int) (s : RawS) (hp : Ret Tryz.prog 41 [.lst .no 1 (bD b)] (.tup [rawD s, .bool false])) : Ret Tryz.prog 9 ([.lst .no 1 (bD b)]) (.tup [xD 0 0 0 0 0 0 0 0, .int .i64 0, .int .i64 30]) := by
 exact (Ret.of_eval (d := .tup [(xD 0 0 0 0 0 0 0 0), .int .i64 0, .int .i64 30]) mixed Tryz.func9 (by kernel_rfl) [.inl, .rng [1, 2, 3, 4], .ret _ _ _ hp, tT] (by kernel_rfl)).to (by simp [wk, wkL, xsD])
theorem readN_ok (b : List Int) (hb : isB b) (s : RawS) (v0 : 0 ≤ s.code) (v1 : s.code ≤ 255) (hh : s.high = 0 ∨ s.high = 8) (hp : Ret Tryz.prog 41 [.lst .no 1 (bD b)] (.tup [rawD s, .bool true])) (hf : firstX b s ops32 = none) : Ret Tryz.prog 9 ([.lst .no 1 (bD b)]) (.tup [xD 0 0 0 0 0 0 0 0, .int .i64 0, .int .i64 30]) := by
 have c0 := @guess_none (b) hb (s) v0 v1 hh hf
 exact (Ret.of_eval (d := .tup [(xD 0 0 0 0 0 0 0 0), .int .i64 0, .int .i64 30]) mixed Tryz.func9 (by kernel_rfl) [.inl, .rng [1, 2, 3, 4], .ret _ _ _ hp, tF, .inl, .head ⟨[0, 1, 3, 15, 16], [0, 1, 2, 3, 4, 5, 7], []⟩ _ _ _ _ _ _ _ c0] (by kernel_rfl)).to (by simp [wk, wkL, xsD])
theorem readS_ok (b : List Int) (hb : isB b) (s : RawS) (v0 : 0 ≤ s.code) (v1 : s.code ≤ 255) (hh : s.high = 0 ∨ s.high = 8) (hp : Ret Tryz.prog 41 [.lst .no 1 (bD b)] (.tup [rawD s, .bool true])) (x : XS) (hf : firstX b s ops32 = some x) : Ret Tryz.prog 9 ([.lst .no 1 (bD b)]) (.tup [xsD x, .int .i64 (bytesXS x).length, .int .i64 0]) := by
 have c0 := @guess_some (b) hb (s) v0 v1 hh _ hf
 exact (Ret.of_eval (d := .tup [(xD (XS.op x) (XS.w x) (XS.dst x) (XS.src x) (XS.base x) (XS.disp x) (XS.imm x) (XS.cc x)), .int .i64 (↑(List.length (bytesXS x)) : Int), .int .i64 0]) mixed Tryz.func9 (by kernel_rfl) [.inl, .rng [1, 2, 3, 4], .ret _ _ _ hp, tF, .inl, .head ⟨[0, 1, 3, 15, 16], [0, 1, 2, 3, 4, 5, 7], []⟩ _ _ _ _ _ _ _ c0] (by kernel_rfl)).to (by simp [wk, wkL, xsD])
end Go.Proofs.YtcngafhpodeenaaGreat

namespace Go.Proofs.YtcngafhpodeenaaGreat
open Go Go.Ev
set_option maxRecDepth 100000
theorem read_any (b : List Int) (hb : isB b) : Ret Tryz.prog 9 [.lst .no 1 (bD b)] (readD (readM b)) := by
 obtain ⟨s, hp, hs⟩ := parse_ok b hb
 cases e : parM b with
 | none =>
  rw [e] at hp
  rw [read_none e]
  obtain ⟨x, hx⟩ : ∃ x : RawS, x = ⟨s.w, s.long, 0, s.r, s.m, s.disp, s.imm, s.small, s.near, s.jump, s.high⟩ := ⟨_, rfl⟩
  exact readF_ok b s hp
 | some s' =>
  obtain rfl := hs s' e
  rw [e] at hp
  obtain ⟨v0, v1, hh⟩ := par_small hb e
  rw [← first_read e]
  cases hf : firstX b s ops32 with
  | none => exact readN_ok b hb s v0 v1 hh hp hf
  | some x => exact readS_ok b hb s v0 v1 hh hp x hf
end Go.Proofs.YtcngafhpodeenaaGreat

namespace Go.Ev
open Go
end Go.Ev

namespace Go.Ev
open Go
structure MachS where
  (q0 q1 q2 q3 q4 q5 q6 q7 q8 q9 q10 q11 q12 q13 q14 q15 : Int)
  (fk fc fz fs fo : Bool)
  (pc : Int)
deriving DecidableEq
def MachS.d (m : MachS) : D := .agg [.int .u64 m.q0, .int .u64 m.q1, .int .u64 m.q2, .int .u64 m.q3, .int .u64 m.q4, .int .u64 m.q5, .int .u64 m.q6, .int .u64 m.q7, .int .u64 m.q8, .int .u64 m.q9, .int .u64 m.q10, .int .u64 m.q11, .int .u64 m.q12, .int .u64 m.q13, .int .u64 m.q14, .int .u64 m.q15, .bool m.fk, .bool m.fc, .bool m.fz, .bool m.fs, .bool m.fo, .int .u64 m.pc]
def MachS.rl (m : MachS) : List Int := [m.q0, m.q1, m.q2, m.q3, m.q4, m.q5, m.q6, m.q7, m.q8, m.q9, m.q10, m.q11, m.q12, m.q13, m.q14, m.q15]
def MachS.put (m : MachS) (i v : Int) : MachS := ⟨st 0 i v m.q0, st 1 i v m.q1, st 2 i v m.q2, st 3 i v m.q3, st 4 i v m.q4, st 5 i v m.q5, st 6 i v m.q6, st 7 i v m.q7, st 8 i v m.q8, st 9 i v m.q9, st 10 i v m.q10, st 11 i v m.q11, st 12 i v m.q12, st 13 i v m.q13, st 14 i v m.q14, st 15 i v m.q15, m.fk, m.fc, m.fz, m.fs, m.fo, m.pc⟩
def MachS.flags (m : MachS) (k c z s o : Bool) : MachS := ⟨m.q0, m.q1, m.q2, m.q3, m.q4, m.q5, m.q6, m.q7, m.q8, m.q9, m.q10, m.q11, m.q12, m.q13, m.q14, m.q15, k, c, z, s, o, m.pc⟩
def MachS.at (m : MachS) (v : Int) : MachS := ⟨m.q0, m.q1, m.q2, m.q3, m.q4, m.q5, m.q6, m.q7, m.q8, m.q9, m.q10, m.q11, m.q12, m.q13, m.q14, m.q15, m.fk, m.fc, m.fz, m.fs, m.fo, v⟩
def MachS.zero : MachS := ⟨0, 0, 0, 0, 0, 0, 0, 0, 0, 0, 0, 0, 0, 0, 0, 0, false, false, false, false, false, 0⟩
def XS.len (x : XS) : Int := lenX x.op x.w x.dst x.src x.base x.disp x.imm x.cc
def XS.may (x : XS) : Bool := mayX x.op x.w x.dst x.src x.base x.disp x.imm x.cc
def sopM (op : Int) : Option (Int × Int) :=
  match op with
  | 2 => some (0, 0)
  | 3 => some (4, 0)
  | 4 => some (5, 0)
  | 5 => some (1, 0)
  | 6 => some (10, 0)
  | 7 => some (1, 0)
  | 8 => some (5, 0)
  | 9 => some (0, 1)
  | 10 => some (4, 1)
  | 11 => some (5, 1)
  | 12 => some (1, 1)
  | 13 => some (10, 1)
  | 14 => some (1, 1)
  | 15 => some (5, 1)
  | 16 => some (2, 0)
  | 17 => some (6, 1)
  | 18 => some (7, 1)
  | 19 => some (12, 1)
  | 20 => some (6, 2)
  | 21 => some (7, 2)
  | 22 => some (12, 2)
  | 23 => some (8, 0)
  | _ => none
def secS (m : MachS) (x : XS) (k : Int) : Int := match k with
  | 2 => m.q1
  | 1 => u64 x.imm
  | _ => rg m.rl x.src
def flagS (m : MachS) (s w a b v : Int) : MachS := match s with
  | 0 => m.flags true (addC w a b) (cutM (u64 (a + b)) w == 0) (negM (u64 (a + b)) w) (addO w a b)
  | 1 => m.flags true (subC w a b) (cutM (u64 (a - b)) w == 0) (negM (u64 (a - b)) w) (subO w a b)
  | 8 => m.flags true (subC w 0 a) (cutM (u64 (0 - a)) w == 0) (negM (u64 (0 - a)) w) (subO w 0 a)
  | 4 => m.flags true false (cutM v w == 0) (negM v w) false
  | 5 => m.flags true false (cutM v w == 0) (negM v w) false
  | 10 => m.flags true false (cutM v w == 0) (negM v w) false
  | _ => m.flags false false false false false
def keepOp (op : Int) : Bool := match op with
  | 7 => true
  | 8 => true
  | 14 => true
  | 15 => true
  | _ => false
def doS (m : MachS) (x : XS) (ld : Int) : MachS × Int := match sopM x.op with
  | some (s, k) =>
    let a := rg m.rl x.dst
    let b := secS m x k
    let v := doM s x.w a b
    match keepOp x.op with
    | true => (flagS m s x.w a b v, 0)
    | false => ((flagS m s x.w a b v).put x.dst v, 0)
  | none => match x.op with
    | 0 => (m.put x.dst (cutM (rg m.rl x.src) x.w), 0)
    | 1 => (m.put x.dst (cutM (u64 x.imm) x.w), 0)
    | 24 => match cutM (rg m.rl x.dst) x.w == 0 with
      | true => (.zero, 20)
      | false => match cutM m.q2 x.w == 0 with
        | false => (.zero, 20)
        | true => (({ m with q0 := u64 ((cutM m.q0 x.w).tdiv (cutM (rg m.rl x.dst) x.w)), q2 := (cutM m.q0 x.w).tmod (cutM (rg m.rl x.dst) x.w) }).flags false false false false false, 0)
    | 25 => match m.fk with
      | false => (.zero, 20)
      | true => (m.put x.dst (cutM (if holdM x.cc m.fc m.fz m.fs m.fo then rg m.rl x.src else rg m.rl x.dst) x.w), 0)
    | 26 => (m.put x.dst (cutM ld x.w), 0)
    | 28 => (m.at (u64 (m.pc + u64 x.imm)), 0)
    | 29 => match m.fk with
      | false => (.zero, 20)
      | true => (m.at (if holdM x.cc m.fc m.fz m.fs m.fo then u64 (m.pc + u64 x.imm) else m.pc), 0)
    | 30 => (({ m with q4 := u64 (m.q4 + 8) }).at ld, 0)
    | 31 => ({ m with q0 := ld, q1 := 0, q11 := 0 }, 0)
    | _ => (m, 0)
def execS (m : MachS) (x : XS) (ld : Int) : MachS × Int := match x.may with
  | false => (.zero, 2)
  | true => doS (m.at (u64 (m.pc + u64 x.len))) x ld
def execM (m : MachS) (x : XS) (ld : Int) : MachS := (execS m x ld).1
def execE (m : MachS) (x : XS) (ld : Int) : Int := (execS m x ld).2
def pcX (m : MachS) (op w dst src base disp imm cc : Int) : Int := u64 (m.pc + u64 (lenX op w dst src base disp imm cc))
def xT (op w dst src base disp imm cc ld : Int) : List D := [.int .i8 op, .int .i8 w, .int .i8 dst, .int .i8 src, .int .i8 base, .int .i64 disp, .int .i64 imm, .int .i8 cc, .int .u64 ld]
def fT (m : MachS) (p : Int) (tl : List D) : List D := .bool m.fk :: .bool m.fc :: .bool m.fz :: .bool m.fs :: .bool m.fo :: .int .u64 p :: tl
def zC : List D := [.int .u64 0, .int .u64 0, .int .u64 0, .int .u64 0, .int .u64 0, .int .u64 0, .int .u64 0, .int .u64 0, .int .u64 0, .int .u64 0, .int .u64 0, .int .u64 0, .int .u64 0, .int .u64 0, .int .u64 0, .int .u64 0, .bool false, .bool false, .bool false, .bool false, .bool false, .int .u64 0]
def MachS.cw (m : MachS) (p : Int) (tl : List D) : List D := .int .u64 m.q0 :: .int .u64 m.q1 :: .int .u64 m.q2 :: .int .u64 m.q3 :: .int .u64 m.q4 :: .int .u64 m.q5 :: .int .u64 m.q6 :: .int .u64 m.q7 :: .int .u64 m.q8 :: .int .u64 m.q9 :: .int .u64 m.q10 :: .int .u64 m.q11 :: .int .u64 m.q12 :: .int .u64 m.q13 :: .int .u64 m.q14 :: .int .u64 m.q15 :: .bool m.fk :: .bool m.fc :: .bool m.fz :: .bool m.fs :: .bool m.fo :: .int .u64 p :: tl
def addrS (m : MachS) (x : XS) : Int × Int × Bool :=
  if x.may = true ∧ (x.op = 26 ∨ x.op = 27) then (u64 (rg m.rl x.base + u64 x.disp), x.w / 8, true)
  else if x.may = true ∧ x.op = 30 then (m.q4, 8, true)
  else (0, 0, false)
def storedS (m : MachS) (x : XS) : Int := if x.may = true ∧ x.op = 27 then cutM (rg m.rl x.src) x.w else 0
def numS (m : MachS) : Int × Bool := if 16 ≤ m.q0 then (0, false) else (IntKind.i64.wrap m.q0, true)
def numV (q : Int) : Int := if 16 ≤ q then 0 else IntKind.i64.wrap q
def numB (q : Int) : Bool := !decide (16 ≤ q)
def argsS (m : MachS) : List Int := if 16 ≤ m.q0 then [] else [m.q7, m.q6, m.q2, m.q10, m.q8].take (m.q0.toNat % 6)
def wD (l : List Int) : List D := l.map (fun x => .int .u64 x)
def toccM (cc : Int) : Int × Bool :=
  if cc = 0 then (4, true) else if cc = 1 then (5, true) else if cc = 2 then (7, true) else if cc = 3 then (3, true) else if cc = 4 then (2, true) else if cc = 5 then (6, true)
  else if cc = 6 then (15, true) else if cc = 7 then (13, true) else if cc = 8 then (12, true) else if cc = 9 then (14, true) else if cc = 10 then (5, true) else (0, false)
def ccM' (cc : Int) : Int × Bool :=
  if cc = 4 then (0, true) else if cc = 5 then (1, true) else if cc = 7 then (2, true) else if cc = 3 then (3, true) else if cc = 2 then (4, true) else if cc = 6 then (5, true)
  else if cc = 15 then (6, true) else if cc = 13 then (7, true) else if cc = 12 then (8, true) else if cc = 14 then (9, true) else (0, false)
end Go.Ev

namespace Go.Ev
open Go
structure RgS where
  (r0 r1 r2 r3 r4 r5 r6 r7 r8 r9 r10 : Int)
deriving DecidableEq
def RgS.c (r : RgS) : List D := [.int .u64 r.r0, .int .u64 r.r1, .int .u64 r.r2, .int .u64 r.r3, .int .u64 r.r4, .int .u64 r.r5, .int .u64 r.r6, .int .u64 r.r7, .int .u64 r.r8, .int .u64 r.r9, .int .u64 r.r10]
def RgS.d (r : RgS) : D := .agg r.c
def RgS.l (r : RgS) : List Int := [r.r0, r.r1, r.r2, r.r3, r.r4, r.r5, r.r6, r.r7, r.r8, r.r9, r.r10]
def RgS.get (r : RgS) (i : Int) : Int := rg r.l i
def RgS.put (r : RgS) (i v : Int) : RgS := ⟨st 0 i v r.r0, st 1 i v r.r1, st 2 i v r.r2, st 3 i v r.r3, st 4 i v r.r4, st 5 i v r.r5, st 6 i v r.r6, st 7 i v r.r7, st 8 i v r.r8, st 9 i v r.r9, st 10 i v r.r10⟩
def RgS.zero : RgS := ⟨0, 0, 0, 0, 0, 0, 0, 0, 0, 0, 0⟩
section
variable {r0 r1 r2 r3 r4 r5 r6 r7 r8 r9 r10 i v : Int} {tl : List D}
end
def MachS.c (m : MachS) : List D := [.int .u64 m.q0, .int .u64 m.q1, .int .u64 m.q2, .int .u64 m.q3, .int .u64 m.q4, .int .u64 m.q5, .int .u64 m.q6, .int .u64 m.q7, .int .u64 m.q8, .int .u64 m.q9, .int .u64 m.q10, .int .u64 m.q11, .int .u64 m.q12, .int .u64 m.q13, .int .u64 m.q14, .int .u64 m.q15, .bool m.fk, .bool m.fc, .bool m.fz, .bool m.fs, .bool m.fo, .int .u64 m.pc]
def IrS.x (s : IrS) : XS := ⟨s.op, s.w, s.dst, s.src, s.base, s.disp, s.imm, s.cc⟩
def scrM (n : Int) : Bool := decide (n = 0 ∨ n = 1 ∨ n = 2 ∨ n = 11)
def namesM (op w dst src base disp imm cc : Int) : Int := or64 (readsXX op w dst src base disp imm cc) (writesXX op w dst src base disp imm cc)
def ownM (op w dst src base disp imm cc : Int) : Bool := andNot64 (namesM op w dst src base disp imm cc) 2055 == 0
def zeroX (op w dst src base disp imm cc : Int) : Bool := decide (op = 0 ∧ w = 0 ∧ dst = 0 ∧ src = 0 ∧ base = 0 ∧ disp = 0 ∧ imm = 0 ∧ cc = 0)
def mayI (kind op w dst src base disp imm cc reg phys num to : Int) : Bool :=
  if kind = 0 then mayX op w dst src base disp imm cc && decide (op < 28) && ownM op w dst src base disp imm cc && decide (reg = 0 ∧ phys = 0 ∧ num = 0 ∧ to = 0)
  else if kind = 1 ∨ kind = 2 then decide (0 ≤ reg ∧ reg ≤ 10) && scrM phys && zeroX op w dst src base disp imm cc && decide (num = 0 ∧ to = 0)
  else if kind = 3 then decide (0 ≤ num ∧ num ≤ 15) && zeroX op w dst src base disp imm cc && decide (reg = 0 ∧ phys = 0 ∧ to = 0)
  else if kind = 4 then ccM cc && zeroX (op - 29) w dst src base disp imm 0 && decide (0 ≤ to ∧ to ≤ 64) && decide (reg = 0 ∧ phys = 0 ∧ num = 0)
  else if kind = 5 then decide (0 ≤ to ∧ to ≤ 64) && zeroX op w dst src base disp imm cc && decide (reg = 0 ∧ phys = 0 ∧ num = 0)
  else if kind = 6 then zeroX op w dst src base disp imm cc && decide (reg = 0 ∧ phys = 0 ∧ num = 0 ∧ to = 0)
  else false
def stopsI (kind op : Int) : Bool := decide ((3 ≤ kind ∧ kind ≤ 6) ∨ (kind = 0 ∧ (op = 26 ∨ op = 27)))
def IrS.ok (s : IrS) : Prop := -128 ≤ s.kind ∧ s.kind ≤ 127 ∧ s.op ≤ 127 ∧ s.cc ≤ 127 ∧ s.phys ≤ 127 ∧ -128 ≤ s.reg ∧ s.reg ≤ 127
def AllOk (l : List IrS) : Prop := ∀ s ∈ l, s.ok
def IrS.may (s : IrS) : Bool := mayI s.kind s.op s.w s.dst s.src s.base s.disp s.imm s.cc s.reg s.phys s.num s.to
def IrS.stops (s : IrS) : Bool := stopsI s.kind s.op
def badI (l : List IrS) : Option Nat := l.findIdx? (fun s => !s.may)
def chkI (l : List IrS) : Int × Int := match badI l with
  | some k => ((k : Int), 2)
  | none => (0, 0)
def runI : List IrS → RgS → MachS → RgS × MachS × Nat × Int
  | [], r, m => (r, m, 0, 0)
  | s :: t, r, m => match s.stops with
    | true => (r, m, t.length + 1, 0)
    | false => if s.kind = 1 then runI t r (m.put s.phys (r.get s.reg))
      else if s.kind = 2 then runI t (r.put s.reg (rg m.rl s.phys)) m
      else if (execS m s.x 0).2 = 0 then runI t r ((execS m s.x 0).1.at 0)
      else (.zero, .zero, t.length + 1, (execS m s.x 0).2)
def restI (l : List IrS) (r : RgS) (m : MachS) : List IrS := l.drop (l.length - (runI l r m).2.2.1)
def doI (l : List IrS) (r : RgS) : RgS × MachS × Int × Int :=
  if (chkI l).2 = 0 then
    let q := runI l r .zero
    if q.2.2.2 = 0 then (q.1, q.2.1, ((l.length - q.2.2.1 : Nat) : Int), 0) else (.zero, .zero, 0, q.2.2.2)
  else (.zero, .zero, 0, 2)
def namedI (k : Int) (n : Int) : List IrS → Int
  | [] => n
  | s :: t => namedI k (if s.kind = k ∧ 0 ≤ s.reg ∧ s.reg ≤ 10 then or64 n (sh8 s.reg) else n) t
end Go.Ev

namespace Go.Ev
open Go
def oneOK (kind op width size : Int) (byReg : Bool) (dst src off imm : Int) : Bool := mayM kind op width size byReg dst src off imm && (!(kind == 3) && !(kind == 4))
def oneL (kind op width size : Int) (byReg : Bool) (dst src off imm : Int) : List D := if oneOK kind op width size byReg dst src off imm then stepsM kind op width size byReg dst src off imm else []
def oneE (kind op width size : Int) (byReg : Bool) (dst src off imm : Int) : Int := if oneOK kind op width size byReg dst src off imm then 0 else 2
end Go.Ev
namespace Go.Ev
open Go
def irOf : D → IrS
  | .agg [.int _ a, .int _ b, .int _ c, .int _ d, .int _ e, .int _ f, .int _ g, .int _ h, .int _ i, .int _ j, .int _ k, .int _ l, .int _ m] => ⟨a, b, c, d, e, f, g, h, i, j, k, l, m⟩
  | _ => ⟨0, 0, 0, 0, 0, 0, 0, 0, 0, 0, 0, 0, 0⟩
def AllIr (l : List D) : Prop := (l.map irOf).map IrS.d = l
end Go.Ev

namespace Go.Ev
open Go
def irK : List LK := [.int .i8, .int .i8, .int .i8, .int .i8, .int .i8, .int .i8, .int .i64, .int .i64, .int .i8, .int .i8, .int .i8, .int .i64, .int .i64]
end Go.Ev

namespace Go.Ev
open Go
def xK : List LK := [.int .i8, .int .i8, .int .i8, .int .i8, .int .i8, .int .i64, .int .i64, .int .i8]
def AllX (l : List XS) : Prop := ∀ x ∈ l, x.op ≤ 127
def catM : List XS → List Int
  | [] => []
  | x :: r => bytesXS x ++ catM r
def posM : Int → List XS → List Int
  | _, [] => []
  | s, x :: r => s :: posM (s + (bytesXS x).length) r
def intsD (l : List Int) : List D := l.map (.int .i64)
def xsL (l : List XS) : List D := l.map xsD
theorem xsL_get (p : List XS) (j : Nat) (h : j < p.length) : (xsL p)[j]? = some (xsD p[j]) := by simp [xsL, h]
theorem xsL_len (l : List XS) : (xsL l).length = l.length := by simp [xsL]
end Go.Ev

namespace Go.Ev
open Go
theorem read_take20 (b : List Int) : readM (b.take 20) = readM b := by
 cases h : readM b with
 | some x =>
  obtain ⟨hm, t, ht⟩ := read_fits h
  have hl := bytes_len x
  have e : b.take 20 = bytesXS x ++ t.take (20 - (bytesXS x).length) := by
   rw [← ht, List.take_append, List.take_of_length_le (by omega)]
  rw [e]
  exact read_back hm _
 | none =>
  cases h2 : readM (b.take 20) with
  | none => rfl
  | some x =>
   obtain ⟨hm, t, ht⟩ := read_fits h2
   have e : b = bytesXS x ++ (t ++ b.drop 20) := by
    rw [← List.append_assoc, ht, List.take_append_drop]
   rw [e, read_back hm] at h
   cases h
def listM : Nat → List Int → Option (List XS)
  | 0, _ => none
  | n + 1, b => if b = [] then some [] else
    match readM b with
    | none => none
    | some x => (listM n (b.drop (bytesXS x).length)).map (x :: ·)
theorem listM_bad {n : Nat} {b : List Int} (hb : b ≠ []) (h : readM b = none) : listM (n + 1) b = none := by
 simp only [listM, if_neg hb, h]
theorem listM_more {n : Nat} {b : List Int} {x : XS} (hb : b ≠ []) (h : readM b = some x) : listM (n + 1) b = (listM n (b.drop (bytesXS x).length)).map (x :: ·) := by
 simp only [listM, if_neg hb, h]
theorem isB_drop {b : List Int} (hb : isB b) (n : Nat) : isB (b.drop n) := fun x hx => hb x (List.mem_of_mem_drop hx)
theorem isB_take {b : List Int} (hb : isB b) (n : Nat) : isB (b.take n) := fun x hx => hb x (List.mem_of_mem_take hx)
theorem bD_drop (a : List Int) (n : Nat) : bD (a.drop n) = (bD a).drop n := by simp [bD, List.map_drop]
end Go.Ev

namespace Go.Proofs.YtcngafhpodeenaaGreat
open Go Go.Ev
set_option maxRecDepth 100000
set_option maxHeartbeats 8000000
theorem ll_end (b : List Int) (p : List XS) (h : ((bD b).length : Int) ≤ 0)  : RoundRun Tryz.prog (loopB Tryz.f5 0) ⟨[], [], [(2, 8)]⟩ 0 [.lst .no 1 (bD b), D.undef, .lst (Own.tok (0 : Nat) (0 : Nat)) (8 : Nat) (xsL p), D.undef, D.undef, D.undef, D.undef, D.undef, D.undef, D.undef, D.undef, D.undef, D.undef, D.undef, D.undef, D.undef, D.undef, D.undef, D.undef, D.undef, D.undef, D.undef, D.undef, D.undef, D.undef, D.undef] [Ob.fam (0 : Nat) (8 : Nat)] (Ex.exit (0 : Nat)) [D.undef, D.undef, .lst (Own.tok (0 : Nat) (0 : Nat)) (8 : Nat) (xsL p), D.undef, D.undef, D.undef, D.undef, D.undef, D.undef, D.undef, D.undef, D.undef, D.undef, D.undef, D.undef, D.undef, D.undef, D.undef, D.undef, D.undef, D.undef, D.undef, D.undef, D.undef, D.undef, D.undef] ([Ob.fam (0 : Nat) (8 : Nat)]) := by
 exact RoundRun.of_eval mixed [tC (ltL 0 (decide_eq_true (Int.lt_add_one_of_le h)))] (by kernel_rfl)
theorem ll_bad (b : List Int) (p : List XS) (h : 0 < ((bD b).length : Int)) (hr : Ret Tryz.prog 9 [.lst .no 1 (bD b)] (.tup [xD 0 0 0 0 0 0 0 0, .int .i64 0, .int .i64 30]))  : RoundRun Tryz.prog (loopB Tryz.f5 0) ⟨[2, 3], [], []⟩ 0 [.lst .no 1 (bD b), D.undef, .lst (Own.tok (0 : Nat) (0 : Nat)) (8 : Nat) (xsL p), D.undef, D.undef, D.undef, D.undef, D.undef, D.undef, D.undef, D.undef, D.undef, D.undef, D.undef, D.undef, D.undef, D.undef, D.undef, D.undef, D.undef, D.undef, D.undef, D.undef, D.undef, D.undef, D.undef] [Ob.fam (0 : Nat) (8 : Nat)] (Ex.ret) [D.undef, D.undef, .lst .tight 0 [], .bool false, D.undef, D.undef, D.undef, D.undef, D.undef, D.undef, D.undef, D.undef, D.undef, D.undef, D.undef, D.undef, D.undef, D.undef, D.undef, D.undef, D.undef, D.undef, D.undef, D.undef, D.undef, D.undef] ([]) := by
 exact RoundRun.of_eval mixed [tC (ltL 0 (decide_eq_false (by omega : ¬ (↑(List.length (bD b)) : Int) < 1))), .ret _ _ _ hr, tT] (by kernel_rfl)
theorem ll_in (b : List Int) (p : List XS) (x : XS) (n : Int) (n0 : 0 ≤ n) (n1 : n ≤ ((bD b).length : Int)) (hp : ((xsL p).length : Int) ≤ 5000) (h : 0 < ((bD b).length : Int)) (hr : Ret Tryz.prog 9 [.lst .no 1 (bD b)] (.tup [xsD x, .int .i64 n, .int .i64 0]))  : RoundRun Tryz.prog (loopB Tryz.f5 0) ⟨[0], [], [(2, 8)]⟩ 0 [.lst .no 1 (bD b), D.undef, .lst (Own.tok (0 : Nat) (0 : Nat)) (8 : Nat) (xsL p), D.undef, D.undef, D.undef, D.undef, D.undef, D.undef, D.undef, D.undef, D.undef, D.undef, D.undef, D.undef, D.undef, D.undef, D.undef, D.undef, D.undef, D.undef, D.undef, D.undef, D.undef, D.undef, D.undef] [Ob.fam (0 : Nat) (8 : Nat)] .norm [.lst .no 1 (List.drop (Int.toNat n) (bD b)), D.undef, .lst (Own.tok (0 : Nat) (0 : Nat)) (8 : Nat) (xsL p ++ [xsD x]), D.undef, D.undef, D.undef, D.undef, D.undef, D.undef, D.undef, D.undef, D.undef, D.undef, D.undef, D.undef, D.undef, D.undef, D.undef, D.undef, D.undef, D.undef, D.undef, D.undef, D.undef, D.undef, D.undef] ([.fam 0 8]) := by
 exact RoundRun.of_eval mixed [tC (ltL 0 (decide_eq_false (by omega : ¬ (↑(List.length (bD b)) : Int) < 1))), .ret _ _ _ hr, tF, .len (List.length (xsL p) + (1 : Nat)) ((2147483648 : Nat)) (by first | decide | omega | (simp; omega)), .tst (decide ((0 : Int) ≤ n ∧ n ≤ (↑(List.length (bD b)) : Int))) true (by ((try simp only [List.length_append, List.length_cons, List.length_nil, len_bD, xsL_len, w_i8, w_u8, w_i64, w_u64, decide_eq_true_eq, decide_eq_false_iff_not, beq_iff_eq, bne_iff_ne, beq_eq_false_iff_ne, bne_eq_false_iff_eq, Bool.not_eq_true', Bool.not_eq_false', Bool.and_eq_true, Bool.or_eq_true] at *); (try unfold big at *); omega))] (by kernel_rfl)
theorem rl_end (b : List Int) (p : List XS) (k : Int) (k0 : 0 ≤ k) (hl : ((bD b).length : Int) ≤ 5000) (h : ((bD b).length : Int) ≤ k)  : RoundRun Tryz.prog (loopB Tryz.f6 0) ⟨[], [], [(4, 8)]⟩ 0 [.lst .no 1 (bD b), D.undef, D.undef, D.undef, .lst (Own.tok (0 : Nat) (0 : Nat)) (8 : Nat) (xsL p), .int .i64 k, D.undef, D.undef, D.undef, D.undef, D.undef, D.undef, D.undef, D.undef, D.undef, D.undef, D.undef, D.undef, D.undef, D.undef, D.undef, D.undef, D.undef, D.undef, D.undef, D.undef, D.undef, D.undef, D.undef, D.undef, D.undef, D.undef, D.undef, D.undef, D.undef, D.undef, D.undef, D.undef, D.undef, D.undef] [Ob.fam (0 : Nat) (8 : Nat)] (Ex.exit (0 : Nat)) [D.undef, D.undef, D.undef, D.undef, .lst (Own.tok (0 : Nat) (0 : Nat)) (8 : Nat) (xsL p), D.undef, D.undef, D.undef, D.undef, D.undef, D.undef, D.undef, D.undef, D.undef, D.undef, D.undef, D.undef, D.undef, D.undef, D.undef, D.undef, D.undef, D.undef, D.undef, D.undef, D.undef, D.undef, D.undef, D.undef, D.undef, D.undef, D.undef, D.undef, D.undef, D.undef, D.undef, D.undef, D.undef, D.undef, D.undef] ([Ob.fam (0 : Nat) (8 : Nat)]) := by
 exact RoundRun.of_eval mixed [tC (by ((try simp only [List.length_append, List.length_cons, List.length_nil, len_bD, xsL_len, w_i8, w_u8, w_i64, w_u64, decide_eq_true_eq, decide_eq_false_iff_not, beq_iff_eq, bne_iff_ne, beq_eq_false_iff_ne, bne_eq_false_iff_eq, Bool.not_eq_true', Bool.not_eq_false', Bool.and_eq_true, Bool.or_eq_true] at *); (try unfold big at *); omega) : (decide (k < (↑(List.length (bD b)) : Int))) = false)] (by kernel_rfl)
theorem rl_bad (b : List Int) (p : List XS) (k : Int) (k0 : 0 ≤ k) (hl : ((bD b).length : Int) ≤ 5000) (h : k < ((bD b).length : Int)) (hr : Ret Tryz.prog 10 [.lst .no 1 (List.drop (Int.toNat k) (List.take (Int.toNat (if ((bD b).length : Int) < IntKind.i64.wrap (k + 20) then ((bD b).length : Int) else IntKind.i64.wrap (k + 20))) (bD b)))] (.tup [xD 0 0 0 0 0 0 0 0, .int .i64 0, .int .i64 30]))  : RoundRun Tryz.prog (loopB Tryz.f6 0) ⟨[2, 3], [], []⟩ 0 [.lst .no 1 (bD b), D.undef, D.undef, D.undef, .lst (Own.tok (0 : Nat) (0 : Nat)) (8 : Nat) (xsL p), .int .i64 k, D.undef, D.undef, D.undef, D.undef, D.undef, D.undef, D.undef, D.undef, D.undef, D.undef, D.undef, D.undef, D.undef, D.undef, D.undef, D.undef, D.undef, D.undef, D.undef, D.undef, D.undef, D.undef, D.undef, D.undef, D.undef, D.undef, D.undef, D.undef, D.undef, D.undef, D.undef, D.undef, D.undef, D.undef] [Ob.fam (0 : Nat) (8 : Nat)] (Ex.ret) [D.undef, D.undef, .lst .tight 0 [], .bool false, D.undef, D.undef, D.undef, D.undef, D.undef, D.undef, D.undef, D.undef, D.undef, D.undef, D.undef, D.undef, D.undef, D.undef, D.undef, D.undef, D.undef, D.undef, D.undef, D.undef, D.undef, D.undef, D.undef, D.undef, D.undef, D.undef, D.undef, D.undef, D.undef, D.undef, D.undef, D.undef, D.undef, D.undef, D.undef, D.undef] ([]) := by
 exact RoundRun.of_eval mixed [tC (by ((try simp only [List.length_append, List.length_cons, List.length_nil, len_bD, xsL_len, w_i8, w_u8, w_i64, w_u64, decide_eq_true_eq, decide_eq_false_iff_not, beq_iff_eq, bne_iff_ne, beq_eq_false_iff_ne, bne_eq_false_iff_eq, Bool.not_eq_true', Bool.not_eq_false', Bool.and_eq_true, Bool.or_eq_true] at *); (try unfold big at *); omega) : (decide (k < (↑(List.length (bD b)) : Int))) = true), .tst (decide ((0 : Int) ≤ k ∧ (k ≤ if (↑(List.length (bD b)) : Int) < IntKind.wrap IntKind.i64 (k + (20 : Int)) then (↑(List.length (bD b)) : Int) else IntKind.wrap IntKind.i64 (k + (20 : Int))) ∧ (if (↑(List.length (bD b)) : Int) < IntKind.wrap IntKind.i64 (k + (20 : Int)) then (↑(List.length (bD b)) : Int) else IntKind.wrap IntKind.i64 (k + (20 : Int))) ≤ (↑(List.length (bD b)) : Int))) true (by ((try simp only [List.length_append, List.length_cons, List.length_nil, len_bD, xsL_len, w_i8, w_u8, w_i64, w_u64, decide_eq_true_eq, decide_eq_false_iff_not, beq_iff_eq, bne_iff_ne, beq_eq_false_iff_ne, bne_eq_false_iff_eq, Bool.not_eq_true', Bool.not_eq_false', Bool.and_eq_true, Bool.or_eq_true] at *); (try unfold big at *); omega)), .ret _ _ _ hr, tF, tF, tT, tT] (by kernel_rfl)
theorem rl_in (b : List Int) (p : List XS) (k : Int) (k0 : 0 ≤ k) (hl : ((bD b).length : Int) ≤ 5000) (x : XS) (n : Int) (n0 : 1 ≤ n) (n1 : n ≤ 11) (hp : ((xsL p).length : Int) ≤ 5000) (h : k < ((bD b).length : Int)) (hr : Ret Tryz.prog 10 [.lst .no 1 (List.drop (Int.toNat k) (List.take (Int.toNat (if ((bD b).length : Int) < IntKind.i64.wrap (k + 20) then ((bD b).length : Int) else IntKind.i64.wrap (k + 20))) (bD b)))] (.tup [xsD x, .int .i64 n, .int .i64 0]))  : RoundRun Tryz.prog (loopB Tryz.f6 0) ⟨[0, 5], [], [(4, 8)]⟩ 0 [.lst .no 1 (bD b), D.undef, D.undef, D.undef, .lst (Own.tok (0 : Nat) (0 : Nat)) (8 : Nat) (xsL p), .int .i64 k, D.undef, D.undef, D.undef, D.undef, D.undef, D.undef, D.undef, D.undef, D.undef, D.undef, D.undef, D.undef, D.undef, D.undef, D.undef, D.undef, D.undef, D.undef, D.undef, D.undef, D.undef, D.undef, D.undef, D.undef, D.undef, D.undef, D.undef, D.undef, D.undef, D.undef, D.undef, D.undef, D.undef, D.undef] [Ob.fam (0 : Nat) (8 : Nat)] .norm [.lst .no 1 (bD b), D.undef, D.undef, D.undef, .lst (Own.tok (0 : Nat) (0 : Nat)) (8 : Nat) (xsL p ++ [xsD x]), .int .i64 (IntKind.wrap IntKind.i64 (k + n)), D.undef, D.undef, D.undef, D.undef, D.undef, D.undef, D.undef, D.undef, D.undef, D.undef, D.undef, D.undef, D.undef, D.undef, D.undef, D.undef, D.undef, D.undef, D.undef, D.undef, D.undef, D.undef, D.undef, D.undef, D.undef, D.undef, D.undef, D.undef, D.undef, D.undef, D.undef, D.undef, D.undef, D.undef] ([.fam 0 8]) := by
 exact RoundRun.of_eval mixed [tC (by ((try simp only [List.length_append, List.length_cons, List.length_nil, len_bD, xsL_len, w_i8, w_u8, w_i64, w_u64, decide_eq_true_eq, decide_eq_false_iff_not, beq_iff_eq, bne_iff_ne, beq_eq_false_iff_ne, bne_eq_false_iff_eq, Bool.not_eq_true', Bool.not_eq_false', Bool.and_eq_true, Bool.or_eq_true] at *); (try unfold big at *); omega) : (decide (k < (↑(List.length (bD b)) : Int))) = true), .tst (decide ((0 : Int) ≤ k ∧ (k ≤ if (↑(List.length (bD b)) : Int) < IntKind.wrap IntKind.i64 (k + (20 : Int)) then (↑(List.length (bD b)) : Int) else IntKind.wrap IntKind.i64 (k + (20 : Int))) ∧ (if (↑(List.length (bD b)) : Int) < IntKind.wrap IntKind.i64 (k + (20 : Int)) then (↑(List.length (bD b)) : Int) else IntKind.wrap IntKind.i64 (k + (20 : Int))) ≤ (↑(List.length (bD b)) : Int))) true (by ((try simp only [List.length_append, List.length_cons, List.length_nil, len_bD, xsL_len, w_i8, w_u8, w_i64, w_u64, decide_eq_true_eq, decide_eq_false_iff_not, beq_iff_eq, bne_iff_ne, beq_eq_false_iff_ne, bne_eq_false_iff_eq, Bool.not_eq_true', Bool.not_eq_false', Bool.and_eq_true, Bool.or_eq_true] at *); (try unfold big at *); omega)), .ret _ _ _ hr, tT, tT, tF, tC (decide_eq_false (Int.not_lt.2 n0)), .len (List.length (xsL p) + (1 : Nat)) ((2147483648 : Nat)) (by first | decide | omega | (simp; omega))] (by kernel_rfl)
theorem xx_end (l : List XS) (k : Int) (k0 : 0 ≤ k) (hl : ((xsL l).length : Int) ≤ 5000) (h : ((xsL l).length : Int) ≤ k)  : RoundRun Tryz.prog (loopB Tryz.f7 0) ⟨[], [], []⟩ 0 [.lst .no 8 (xsL l), .lst .no 8 (xsL l), D.undef, D.undef, D.undef, .int .i64 k, D.undef, D.undef, D.undef, D.undef, D.undef, D.undef, D.undef, D.undef, D.undef, D.undef, D.undef, D.undef, D.undef, D.undef, D.undef, D.undef, D.undef, D.undef, D.undef, D.undef] [] (Ex.exit (0 : Nat)) [D.undef, D.undef, D.undef, D.undef, D.undef, D.undef, D.undef, D.undef, D.undef, D.undef, D.undef, D.undef, D.undef, D.undef, D.undef, D.undef, D.undef, D.undef, D.undef, D.undef, D.undef, D.undef, D.undef, D.undef, D.undef, D.undef] ([]) := by
 exact RoundRun.of_eval mixed [tC (by ((try simp only [List.length_append, List.length_cons, List.length_nil, len_bD, xsL_len, w_i8, w_u8, w_i64, w_u64, decide_eq_true_eq, decide_eq_false_iff_not, beq_iff_eq, bne_iff_ne, beq_eq_false_iff_ne, bne_eq_false_iff_eq, Bool.not_eq_true', Bool.not_eq_false', Bool.and_eq_true, Bool.or_eq_true] at *); (try unfold big at *); omega) : (decide (k < (↑(List.length (xsL l)) : Int))) = false)] (by kernel_rfl)
theorem xx_in (l : List XS) (k : Int) (k0 : 0 ≤ k) (hl : ((xsL l).length : Int) ≤ 5000) (h : k < ((xsL l).length : Int)) (x : XS) (hx : (xsL l)[Int.toNat k]? = some (xsD x))  : RoundRun Tryz.prog (loopB Tryz.f7 0) ⟨[0, 1, 5], [], []⟩ 0 [.lst .no 8 (xsL l), .lst .no 8 (xsL l), D.undef, D.undef, D.undef, .int .i64 k, D.undef, D.undef, D.undef, D.undef, D.undef, D.undef, D.undef, D.undef, D.undef, D.undef, D.undef, D.undef, D.undef, D.undef, D.undef, D.undef, D.undef, D.undef, D.undef, D.undef] [] .norm [.lst .no 8 (xsL l), .lst .no 8 (xsL l), D.undef, D.undef, D.undef, .int .i64 (IntKind.wrap IntKind.i64 (k + (1 : Int))), D.undef, D.undef, D.undef, D.undef, D.undef, D.undef, D.undef, D.undef, D.undef, D.undef, D.undef, D.undef, D.undef, D.undef, D.undef, D.undef, D.undef, D.undef, D.undef, D.undef] ([]) := by
 exact RoundRun.of_eval mixed [tC (by ((try simp only [List.length_append, List.length_cons, List.length_nil, len_bD, xsL_len, w_i8, w_u8, w_i64, w_u64, decide_eq_true_eq, decide_eq_false_iff_not, beq_iff_eq, bne_iff_ne, beq_eq_false_iff_ne, bne_eq_false_iff_eq, Bool.not_eq_true', Bool.not_eq_false', Bool.and_eq_true, Bool.or_eq_true] at *); (try unfold big at *); omega) : (decide (k < (↑(List.length (xsL l)) : Int))) = true), tC (v := true) (leL 0 (decide_eq_false (Int.not_lt.2 k0))), .get _ _ _ hx, tC (v := true) (leL 0 (decide_eq_false (Int.not_lt.2 k0))), .get _ _ _ hx, .flat _ _ flat_X, tC (nt (andT (beq_self_eq_true (XS.op x)) (andT (beq_self_eq_true (XS.w x)) (andT (beq_self_eq_true (XS.dst x)) (andT (beq_self_eq_true (XS.src x)) (andT (beq_self_eq_true (XS.base x)) (andT (beq_self_eq_true (XS.disp x)) (andT (beq_self_eq_true (XS.imm x)) (andT (beq_self_eq_true (XS.cc x)) (rfl : true = true))))))))))] (by kernel_rfl)
end Go.Proofs.YtcngafhpodeenaaGreat

namespace Go.Proofs.YtcngafhpodeenaaGreat
open Go Go.Ev
set_option maxRecDepth 100000
theorem run_id {n0 : Nat} {c : Code} {t : List D} {s : List Ob} {ex : Ex} {t' : List D} {s' : List Ob} (h : LoopRun Tryz.prog n0 c t s ex t' s') : LoopRun Tryz.prog n0 c t s ex t' s' := h
abbrev llT (b : List Int) (p : List XS) : List D := [.lst .no 1 (bD b), .undef, .lst (.tok 0 0) 8 (xsL p), .undef, .undef, .undef, .undef, .undef, .undef, .undef, .undef, .undef, .undef, .undef, .undef, .undef, .undef, .undef, .undef, .undef, .undef, .undef, .undef, .undef, .undef, .undef]
abbrev llU (p : List XS) : List D := [.undef, .undef, .lst (.tok 0 0) 8 (xsL p), .undef, .undef, .undef, .undef, .undef, .undef, .undef, .undef, .undef, .undef, .undef, .undef, .undef, .undef, .undef, .undef, .undef, .undef, .undef, .undef, .undef, .undef, .undef]
abbrev llV : List D := [.undef, .undef, .lst .tight 0 [], .bool false, .undef, .undef, .undef, .undef, .undef, .undef, .undef, .undef, .undef, .undef, .undef, .undef, .undef, .undef, .undef, .undef, .undef, .undef, .undef, .undef, .undef, .undef]
abbrev rlT (b : List Int) (k : Int) (p : List XS) : List D := [.lst .no 1 (bD b), .undef, .undef, .undef, .lst (.tok 0 0) 8 (xsL p), .int .i64 k, .undef, .undef, .undef, .undef, .undef, .undef, .undef, .undef, .undef, .undef, .undef, .undef, .undef, .undef, .undef, .undef, .undef, .undef, .undef, .undef, .undef, .undef, .undef, .undef, .undef, .undef, .undef, .undef, .undef, .undef, .undef, .undef, .undef, .undef]
abbrev rlU (p : List XS) : List D := [.undef, .undef, .undef, .undef, .lst (.tok 0 0) 8 (xsL p), .undef, .undef, .undef, .undef, .undef, .undef, .undef, .undef, .undef, .undef, .undef, .undef, .undef, .undef, .undef, .undef, .undef, .undef, .undef, .undef, .undef, .undef, .undef, .undef, .undef, .undef, .undef, .undef, .undef, .undef, .undef, .undef, .undef, .undef, .undef]
abbrev rlV : List D := [.undef, .undef, .lst .tight 0 [], .bool false, .undef, .undef, .undef, .undef, .undef, .undef, .undef, .undef, .undef, .undef, .undef, .undef, .undef, .undef, .undef, .undef, .undef, .undef, .undef, .undef, .undef, .undef, .undef, .undef, .undef, .undef, .undef, .undef, .undef, .undef, .undef, .undef, .undef, .undef, .undef, .undef]
abbrev xxT (l : List XS) (k : Int) : List D := [.lst .no 8 (xsL l), .lst .no 8 (xsL l), .undef, .undef, .undef, .int .i64 k, .undef, .undef, .undef, .undef, .undef, .undef, .undef, .undef, .undef, .undef, .undef, .undef, .undef, .undef, .undef, .undef, .undef, .undef, .undef, .undef]
abbrev xxU : List D := [.undef, .undef, .undef, .undef, .undef, .undef, .undef, .undef, .undef, .undef, .undef, .undef, .undef, .undef, .undef, .undef, .undef, .undef, .undef, .undef, .undef, .undef, .undef, .undef, .undef, .undef]
theorem xsL_snoc' (p : List XS) (x : XS) : xsL p ++ [xsD x] = xsL (p ++ [x]) := by simp [xsL]
theorem listM_len : ∀ (m : Nat) {b : List Int} {l : List XS}, listM m b = some l → l.length ≤ b.length
 | 0, b, l, h => by cases h
 | m + 1, b, l, h => by
  by_cases hb : b = []
  ·subst hb; cases h; simp
  ·cases hr : readM b with
   | none => rw [listM_bad hb hr] at h; cases h
   | some x =>
    rw [listM_more hb hr] at h
    cases h2 : listM m (b.drop (bytesXS x).length) with
    | none => rw [h2] at h; cases h
    | some r =>
     rw [h2] at h
     cases h
     have := listM_len m h2
     have h3 := bytes_len x
     have h4 := (read_fits hr).2.length_le
     rw [List.length_drop] at this
     simp only [List.length_cons]
     omega
theorem ll_some : ∀ (m : Nat) (b : List Int) (p l : List XS), isB b → p.length + b.length ≤ 4000 → listM m b = some l →
  Rounds Tryz.prog (loopB Tryz.f5 0) 0 (llT b p) [.fam 0 8] (.exit 0) (llU (p ++ l)) [.fam 0 8]
 | 0, b, p, l, hb, hn, h => by cases h
 | m + 1, b, p, l, hb, hn, h => by
  by_cases h0 : b = []
  ·subst h0
   cases h
   rw [List.append_nil]
   exact Rounds.last (ll_end [] p (by simp [bD])) (fun h => by cases h)
  ·have hpos : 0 < b.length := List.length_pos_iff.2 h0
   cases hr : readM b with
   | none => rw [listM_bad h0 hr] at h; cases h
   | some x =>
    rw [listM_more h0 hr] at h
    cases h2 : listM m (b.drop (bytesXS x).length) with
    | none => rw [h2] at h; cases h
    | some r =>
     rw [h2] at h
     cases h
     have h3 := bytes_len x
     have h4 := (read_fits hr).2.length_le
     have hrd := read_any b hb
     rw [hr] at hrd
     have ih := ll_some m (b.drop (bytesXS x).length) (p ++ [x]) r (isB_drop hb _) (by simp only [List.length_append, List.length_cons, List.length_nil, List.length_drop]; omega) h2
     have := ll_in b p x ((bytesXS x).length : Int) (by omega) (by rw [len_bD]; omega) (by rw [xsL_len]; omega) (by rw [len_bD]; omega) hrd
     rw [Int.toNat_natCast, ← bD_drop, xsL_snoc'] at this
     rw [List.append_assoc, List.singleton_append] at ih
     exact Rounds.more this ih
theorem ll_none : ∀ (m : Nat) (b : List Int) (p : List XS), isB b → p.length + b.length ≤ 4000 → b.length < m → listM m b = none →
  Rounds Tryz.prog (loopB Tryz.f5 0) 0 (llT b p) [.fam 0 8] .ret llV []
 | 0, b, p, hb, hn, hm, h => by omega
 | m + 1, b, p, hb, hn, hm, h => by
  by_cases h0 : b = []
  ·subst h0; cases h
  ·have hpos : 0 < b.length := List.length_pos_iff.2 h0
   have hrd := read_any b hb
   cases hr : readM b with
   | none =>
    rw [hr] at hrd
    exact Rounds.last (ll_bad b p (by rw [len_bD]; omega) hrd) (fun h => by cases h)
   | some x =>
    rw [hr] at hrd
    rw [listM_more h0 hr] at h
    have h2 : listM m (b.drop (bytesXS x).length) = none := by
     cases h2 : listM m (b.drop (bytesXS x).length) with
     | none => rfl
     | some r => rw [h2] at h; cases h
    have h3 := bytes_len x
    have h4 := (read_fits hr).2.length_le
    have ih := ll_none m (b.drop (bytesXS x).length) (p ++ [x]) (isB_drop hb _) (by simp only [List.length_append, List.length_cons, List.length_nil, List.length_drop]; omega) (by rw [List.length_drop]; omega) h2
    have := ll_in b p x ((bytesXS x).length : Int) (by omega) (by rw [len_bD]; omega) (by rw [xsL_len]; omega) (by rw [len_bD]; omega) hrd
    rw [Int.toNat_natCast, ← bD_drop, xsL_snoc'] at this
    exact Rounds.more this ih
theorem hi_eq (b : List Int) (k : Nat) (hk : k ≤ b.length) (hl : b.length ≤ 4000) : List.drop (Int.toNat (k : Int)) (List.take (Int.toNat (if ((bD b).length : Int) < IntKind.i64.wrap ((k : Int) + 20) then ((bD b).length : Int) else IntKind.i64.wrap ((k : Int) + 20))) (bD b)) = bD ((b.drop k).take 20) := by
 rw [Int.toNat_natCast, len_bD, show IntKind.i64.wrap ((k : Int) + 20) = ((k + 20 : Nat) : Int) by rw [w_i64]; omega, bD_take, bD_drop, List.take_drop]
 congr 1
 by_cases h : (b.length : Int) < ((k + 20 : Nat) : Int)
 ·rw [if_pos h, Int.toNat_natCast, List.take_of_length_le (by rw [len_bD]; omega), List.take_of_length_le (by rw [len_bD]; omega)]
 ·rw [if_neg h, Int.toNat_natCast]
theorem dread20 (b : List Int) (hb : isB b) (k : Nat) : Ret Tryz.prog 10 [.lst .no 1 (bD ((b.drop k).take 20))] (readD (readM (b.drop k))) := by
 have := dread_any ((b.drop k).take 20) (isB_take (isB_drop hb k) 20) (by rw [List.length_take]; omega)
 rw [read_take20] at this
 exact this
theorem rl_some (b : List Int) (hb : isB b) (hl : b.length ≤ 4000) : ∀ (m : Nat) (k : Nat) (p l : List XS), k ≤ b.length → p.length ≤ k → listM m (b.drop k) = some l →
  Rounds Tryz.prog (loopB Tryz.f6 0) 0 (rlT b k p) [.fam 0 8] (.exit 0) (rlU (p ++ l)) [.fam 0 8]
 | 0, k, p, l, hk, hp, h => by cases h
 | m + 1, k, p, l, hk, hp, h => by
  have hlD : ((bD b).length : Int) ≤ 5000 := by rw [len_bD]; omega
  by_cases h0 : b.drop k = []
  ·rw [h0] at h
   cases h
   rw [List.append_nil]
   have hkb : b.length ≤ k := List.drop_eq_nil_iff.1 h0
   exact Rounds.last (rl_end b p k (by omega) hlD (by rw [len_bD]; omega)) (fun h => by cases h)
  ·have hpos : 0 < (b.drop k).length := List.length_pos_iff.2 h0
   rw [List.length_drop] at hpos
   have hrd := dread20 b hb k
   cases hr : readM (b.drop k) with
   | none => rw [listM_bad h0 hr] at h; cases h
   | some x =>
    rw [hr] at hrd
    rw [listM_more h0 hr, List.drop_drop] at h
    cases h2 : listM m (b.drop (k + (bytesXS x).length)) with
    | none => rw [h2] at h; cases h
    | some r =>
     rw [h2] at h
     cases h
     have h3 := bytes_len x
     have h4 := (read_fits hr).2.length_le
     rw [List.length_drop] at h4
     have ih := rl_some b hb hl m (k + (bytesXS x).length) (p ++ [x]) r (by omega) (by simp only [List.length_append, List.length_cons, List.length_nil]; omega) h2
     rw [← hi_eq b k hk hl] at hrd
     have := rl_in b p k (by omega) hlD x ((bytesXS x).length : Int) (by omega) (by omega) (by rw [xsL_len]; omega) (by rw [len_bD]; omega) hrd
     rw [xsL_snoc', show IntKind.i64.wrap ((k : Int) + ((bytesXS x).length : Int)) = ((k + (bytesXS x).length : Nat) : Int) by rw [w_i64]; omega] at this
     rw [List.append_assoc, List.singleton_append] at ih
     exact Rounds.more this ih
theorem rl_none (b : List Int) (hb : isB b) (hl : b.length ≤ 4000) : ∀ (m : Nat) (k : Nat) (p : List XS), k ≤ b.length → p.length ≤ k → b.length - k < m → listM m (b.drop k) = none →
  Rounds Tryz.prog (loopB Tryz.f6 0) 0 (rlT b k p) [.fam 0 8] .ret rlV []
 | 0, k, p, hk, hp, hm, h => by omega
 | m + 1, k, p, hk, hp, hm, h => by
  have hlD : ((bD b).length : Int) ≤ 5000 := by rw [len_bD]; omega
  by_cases h0 : b.drop k = []
  ·rw [h0] at h; cases h
  ·have hpos : 0 < (b.drop k).length := List.length_pos_iff.2 h0
   rw [List.length_drop] at hpos
   have hrd := dread20 b hb k
   cases hr : readM (b.drop k) with
   | none =>
    rw [hr, ← hi_eq b k hk hl] at hrd
    exact Rounds.last (rl_bad b p k (by omega) hlD (by rw [len_bD]; omega) hrd) (fun h => by cases h)
   | some x =>
    rw [hr] at hrd
    rw [listM_more h0 hr, List.drop_drop] at h
    have h2 : listM m (b.drop (k + (bytesXS x).length)) = none := by
     cases h2 : listM m (b.drop (k + (bytesXS x).length)) with
     | none => rfl
     | some r => rw [h2] at h; cases h
    have h3 := bytes_len x
    have h4 := (read_fits hr).2.length_le
    rw [List.length_drop] at h4
    have ih := rl_none b hb hl m (k + (bytesXS x).length) (p ++ [x]) (by omega) (by simp only [List.length_append, List.length_cons, List.length_nil]; omega) (by omega) h2
    rw [← hi_eq b k hk hl] at hrd
    have := rl_in b p k (by omega) hlD x ((bytesXS x).length : Int) (by omega) (by omega) (by rw [xsL_len]; omega) (by rw [len_bD]; omega) hrd
    rw [xsL_snoc', show IntKind.i64.wrap ((k : Int) + ((bytesXS x).length : Int)) = ((k + (bytesXS x).length : Nat) : Int) by rw [w_i64]; omega] at this
    exact Rounds.more this ih
theorem xx_rounds (l : List XS) (hl : l.length ≤ 4000) : ∀ (m k : Nat), k + m = l.length →
  Rounds Tryz.prog (loopB Tryz.f7 0) 0 (xxT l k) [] (.exit 0) xxU []
 | 0, k, hk => Rounds.last (xx_end l k (by omega) (by rw [xsL_len]; omega) (by rw [xsL_len]; omega)) (fun h => by cases h)
 | m + 1, k, hk => by
  have hlt : k < l.length := by omega
  have ih := xx_rounds l hl m (k + 1) (by omega)
  have := xx_in l k (by omega) (by rw [xsL_len]; omega) (by rw [xsL_len]; omega) l[k] (by rw [Int.toNat_natCast]; exact xsL_get l k hlt)
  rw [show IntKind.i64.wrap ((k : Int) + 1) = ((k + 1 : Nat) : Int) by rw [w_i64]; omega] at this
  exact Rounds.more this ih
theorem ll_loop_some {b : List Int} (hb : isB b) (hn : b.length ≤ 4000) {l : List XS} (h : listM (b.length + 1) b = some l) : LoopRun Tryz.prog 0 (.loop (loopB Tryz.f5 0)) (llT b []) [.fam 0 8] (.exit 0) (llU l) [.fam 0 8] :=
 LoopRun.of_rounds (by decide) (by have := ll_some _ b [] l hb (by simpa using hn) h; rwa [List.nil_append] at this)
theorem ll_loop_none {b : List Int} (hb : isB b) (hn : b.length ≤ 4000) (h : listM (b.length + 1) b = none) : LoopRun Tryz.prog 0 (.loop (loopB Tryz.f5 0)) (llT b []) [.fam 0 8] .ret llV [] :=
 LoopRun.of_rounds (by decide) (ll_none _ b [] hb (by simpa using hn) (by omega) h)
theorem rl_loop_some {b : List Int} (hb : isB b) (hn : b.length ≤ 4000) {l : List XS} (h : listM (b.length + 1) b = some l) : LoopRun Tryz.prog 0 (.loop (loopB Tryz.f6 0)) (rlT b 0 []) [.fam 0 8] (.exit 0) (rlU l) [.fam 0 8] :=
 LoopRun.of_rounds (by decide) (by have := rl_some b hb hn _ 0 [] l (by omega) (by simp) h; rwa [List.nil_append] at this)
theorem rl_loop_none {b : List Int} (hb : isB b) (hn : b.length ≤ 4000) (h : listM (b.length + 1) b = none) : LoopRun Tryz.prog 0 (.loop (loopB Tryz.f6 0)) (rlT b 0 []) [.fam 0 8] .ret rlV [] :=
 LoopRun.of_rounds (by decide) (rl_none b hb hn _ 0 [] (by omega) (by simp) (by omega) h)
theorem xx_loop (l : List XS) (hl : l.length ≤ 4000) : LoopRun Tryz.prog 0 (.loop (loopB Tryz.f7 0)) (xxT l 0) [] (.exit 0) xxU [] :=
 LoopRun.of_rounds (by decide) (xx_rounds l hl l.length 0 (by omega))
end Go.Proofs.YtcngafhpodeenaaGreat

namespace Go.Proofs.YtcngafhpodeenaaGreat
open Go Go.Ev
set_option maxRecDepth 100000
set_option maxHeartbeats 8000000
theorem ll_yes_ok (b : List Int) (l : List XS) (hx : LoopRun Tryz.prog 0 (.loop (loopB Tryz.f5 0)) (llT b []) [.fam 0 8] (.exit 0) (llU l) [.fam 0 8])  : Ret Tryz.prog 5 ([.lst .no 1 (bD b)]) (.tup [.lst .no 8 (xsL l), .bool true]) := by
 have c0 := @run_id (nat_lit 0) _ ([.lst .no 1 (bD b), D.undef, .lst (Own.tok (0 : Nat) (0 : Nat)) (8 : Nat) [], D.undef, D.undef, D.undef, D.undef, D.undef, D.undef, D.undef, D.undef, D.undef, D.undef, D.undef, D.undef, D.undef, D.undef, D.undef, D.undef, D.undef, D.undef, D.undef, D.undef, D.undef, D.undef, D.undef]) ([Ob.fam (0 : Nat) (8 : Nat)]) _ _ _ hx
 exact (Ret.of_eval (d := .tup [.lst (.fresh 8) 8 (xsL l), .bool true]) mixed Tryz.func5 (by kernel_rfl) [.head ⟨[0], [], [(2, 8)]⟩ _ _ _ _ _ _ _ c0] (by kernel_rfl)).to (by first | (simp [wk, wkO]; done) | (simp [wk, wkL, wkO]; done) | exact ⟨⟨rfl, .inl rfl, trivial, .inr rfl⟩, rfl, trivial⟩)
theorem ll_no_ok (b : List Int) (hx : LoopRun Tryz.prog 0 (.loop (loopB Tryz.f5 0)) (llT b []) [.fam 0 8] .ret llV [])  : Ret Tryz.prog 5 ([.lst .no 1 (bD b)]) (.tup [.lst .tight 0 [], .bool false]) := by
 have c0 := @run_id (nat_lit 0) _ ([.lst .no 1 (bD b), D.undef, .lst (Own.tok (0 : Nat) (0 : Nat)) (8 : Nat) [], D.undef, D.undef, D.undef, D.undef, D.undef, D.undef, D.undef, D.undef, D.undef, D.undef, D.undef, D.undef, D.undef, D.undef, D.undef, D.undef, D.undef, D.undef, D.undef, D.undef, D.undef, D.undef, D.undef]) ([Ob.fam (0 : Nat) (8 : Nat)]) _ _ _ hx
 exact (Ret.of_eval (d := .tup [.lst .tight 0 [], .bool false]) mixed Tryz.func5 (by kernel_rfl) [.head ⟨[0], [], [(2, 8)]⟩ _ _ _ _ _ _ _ c0] (by kernel_rfl)).to (by first | (simp [wk, wkO]; done) | (simp [wk, wkL, wkO]; done) | exact ⟨⟨rfl, .inl rfl, trivial, .inr rfl⟩, rfl, trivial⟩)
theorem rl_yes_ok (b : List Int) (l : List XS) (hx : LoopRun Tryz.prog 0 (.loop (loopB Tryz.f6 0)) (rlT b 0 []) [.fam 0 8] (.exit 0) (rlU l) [.fam 0 8])  : Ret Tryz.prog 6 ([.lst .no 1 (bD b)]) (.tup [.lst .no 8 (xsL l), .bool true]) := by
 have c0 := @run_id (nat_lit 0) _ ([.lst .no 1 (bD b), D.undef, D.undef, D.undef, .lst (Own.tok (0 : Nat) (0 : Nat)) (8 : Nat) [], .int .i64 0, D.undef, D.undef, D.undef, D.undef, D.undef, D.undef, D.undef, D.undef, D.undef, D.undef, D.undef, D.undef, D.undef, D.undef, D.undef, D.undef, D.undef, D.undef, D.undef, D.undef, D.undef, D.undef, D.undef, D.undef, D.undef, D.undef, D.undef, D.undef, D.undef, D.undef, D.undef, D.undef, D.undef, D.undef]) ([Ob.fam (0 : Nat) (8 : Nat)]) _ _ _ hx
 exact (Ret.of_eval (d := .tup [.lst (.fresh 8) 8 (xsL l), .bool true]) mixed Tryz.func6 (by kernel_rfl) [.head ⟨[0, 5], [], [(4, 8)]⟩ _ _ _ _ _ _ _ c0] (by kernel_rfl)).to (by first | (simp [wk, wkO]; done) | (simp [wk, wkL, wkO]; done) | exact ⟨⟨rfl, .inl rfl, trivial, .inr rfl⟩, rfl, trivial⟩)
theorem rl_no_ok (b : List Int) (hx : LoopRun Tryz.prog 0 (.loop (loopB Tryz.f6 0)) (rlT b 0 []) [.fam 0 8] .ret rlV [])  : Ret Tryz.prog 6 ([.lst .no 1 (bD b)]) (.tup [.lst .tight 0 [], .bool false]) := by
 have c0 := @run_id (nat_lit 0) _ ([.lst .no 1 (bD b), D.undef, D.undef, D.undef, .lst (Own.tok (0 : Nat) (0 : Nat)) (8 : Nat) [], .int .i64 0, D.undef, D.undef, D.undef, D.undef, D.undef, D.undef, D.undef, D.undef, D.undef, D.undef, D.undef, D.undef, D.undef, D.undef, D.undef, D.undef, D.undef, D.undef, D.undef, D.undef, D.undef, D.undef, D.undef, D.undef, D.undef, D.undef, D.undef, D.undef, D.undef, D.undef, D.undef, D.undef, D.undef, D.undef]) ([Ob.fam (0 : Nat) (8 : Nat)]) _ _ _ hx
 exact (Ret.of_eval (d := .tup [.lst .tight 0 [], .bool false]) mixed Tryz.func6 (by kernel_rfl) [.head ⟨[0, 5], [], [(4, 8)]⟩ _ _ _ _ _ _ _ c0] (by kernel_rfl)).to (by first | (simp [wk, wkO]; done) | (simp [wk, wkL, wkO]; done) | exact ⟨⟨rfl, .inl rfl, trivial, .inr rfl⟩, rfl, trivial⟩)
theorem xs_yes_ok (l : List XS) (hx : LoopRun Tryz.prog 0 (.loop (loopB Tryz.f7 0)) (xxT l 0) [] (.exit 0) xxU [])  : Ret Tryz.prog 7 ([.lst .no 8 (xsL l), .lst .no 8 (xsL l)]) (.bool true) := by
 have c0 := @run_id (nat_lit 0) _ ([.lst .no 8 (xsL l), .lst .no 8 (xsL l), D.undef, D.undef, D.undef, .int .i64 0, D.undef, D.undef, D.undef, D.undef, D.undef, D.undef, D.undef, D.undef, D.undef, D.undef, D.undef, D.undef, D.undef, D.undef, D.undef, D.undef, D.undef, D.undef, D.undef, D.undef]) ([]) _ _ _ hx
 exact (Ret.of_eval (d := .bool true) mixed Tryz.func7 (by kernel_rfl) [tC (nt (beq_self_eq_true ((↑(List.length (xsL l)) : Int)))), .head ⟨[0, 1, 5], [], []⟩ _ _ _ _ _ _ _ c0] (by kernel_rfl)).to (by first | (simp [wk, wkO]; done) | (simp [wk, wkL, wkO]; done) | exact ⟨⟨rfl, .inl rfl, trivial, .inr rfl⟩, rfl, trivial⟩)
theorem xs_nil_ok  : Ret Tryz.prog 7 ([.lst .tight 0 [], .lst .tight 0 []]) (.bool true) := by
 exact (Ret.of_eval (d := .bool true) mixed Tryz.func7 (by kernel_rfl) [tF, .go 64, tF] (by kernel_rfl)).to (by first | (simp [wk, wkO]; done) | (simp [wk, wkL, wkO]; done) | exact ⟨⟨rfl, .inl rfl, trivial, .inr rfl⟩, rfl, trivial⟩)
end Go.Proofs.YtcngafhpodeenaaGreat

namespace Go.Proofs.YtcngafhpodeenaaGreat
open Go Go.Ev
def listD : Option (List XS) → D
  | none => .tup [.lst .tight 0 [], .bool false]
  | some l => .tup [.lst .no 8 (xsL l), .bool true]
theorem ll_any (b : List Int) (hb : isB b) (hn : b.length ≤ 4000) : Ret Tryz.prog 5 [.lst .no 1 (bD b)] (listD (listM (b.length + 1) b)) := by
 cases h : listM (b.length + 1) b with
 | none => exact ll_no_ok b (ll_loop_none hb hn h)
 | some l => exact ll_yes_ok b l (ll_loop_some hb hn h)
theorem rl_any (b : List Int) (hb : isB b) (hn : b.length ≤ 4000) : Ret Tryz.prog 6 [.lst .no 1 (bD b)] (listD (listM (b.length + 1) b)) := by
 cases h : listM (b.length + 1) b with
 | none => exact rl_no_ok b (rl_loop_none hb hn h)
 | some l => exact rl_yes_ok b l (rl_loop_some hb hn h)
theorem xs_any (l : List XS) (hn : l.length ≤ 4000) : Ret Tryz.prog 7 [.lst .no 8 (xsL l), .lst .no 8 (xsL l)] (.bool true) := xs_yes_ok l (xx_loop l hn)
end Go.Proofs.YtcngafhpodeenaaGreat

namespace Go.Proofs.YtcngafhpodeenaaGreat
open Go Go.Ev
theorem lw_may_ok : Ret Tryz.prog 28 [xD 1 32 0 0 0 0 5 0] (.bool true) := (mayX_ok 1 32 0 0 0 0 5 0 (by decide)).cast rfl (by kernel_rfl)
theorem lw_len5_ok : Ret Tryz.prog 33 [xD 1 32 0 0 0 0 5 0] (.int .i64 5) := (xlen_ok 1 32 0 0 0 0 5 0 (by decide)).cast rfl (by kernel_rfl)
theorem lw_len2_ok : Ret Tryz.prog 33 [xD 28 8 0 0 0 0 0 0] (.int .i64 2) := (xlen_ok 28 8 0 0 0 0 0 0 (by decide)).cast rfl (by kernel_rfl)
theorem lw_b5_ok : Ret Tryz.prog 13 [xD 1 32 0 0 0 0 5 0] (.tup [.lst .no 1 [.int .u8 184, .int .u8 5, .int .u8 0, .int .u8 0, .int .u8 0], .int .i64 0]) := (bytes_any_ok 1 32 0 0 0 0 5 0 (by decide)).cast rfl (by kernel_rfl)
theorem lw_b2_ok : Ret Tryz.prog 13 [xD 28 8 0 0 0 0 (-7) 0] (.tup [.lst .no 1 [.int .u8 235, .int .u8 249], .int .i64 0]) := (bytes_any_ok 28 8 0 0 0 0 (-7) 0 (by decide)).cast rfl (by kernel_rfl)
end Go.Proofs.YtcngafhpodeenaaGreat

namespace Go.Proofs.YtcngafhpodeenaaGreat
open Go Go.Ev
set_option maxRecDepth 100000
set_option maxHeartbeats 8000000
theorem lw_ir_ok  : Ret Tryz.prog 63 ([irD 5 0 0 0 0 0 0 0 0 0 0 0 0]) (.bool true) := by
 exact (Ret.of_eval (d := .bool true) mixed Tryz.func63 (by kernel_rfl) ([.inl, .inl, tT, tT, tT, tT, tT, tT, tT, tT, tT, .get ([D.fn (Fn.func 86) [] [], D.fn (Fn.func 83) [] [], D.fn (Fn.func 83) [] [], D.fn (Fn.func 90) [] [], D.fn (Fn.func 91) [] [D.ptr false 2 0], D.fn (Fn.func 85) [] [], D.fn (Fn.func 93) [] []]) 5 (D.fn (Fn.func 85) [] []) rfl, tT, .inl, .inl, tT] ++ [tT, tT, tT, tT, tT, tT, tT, tT, tT, .flat _ _ flat_Ir, tT]) (by kernel_rfl)).to (by simp [wk])
theorem blkw_ok  : Ret Tryz.prog 31 ([.lst .no 13 [irD 0 1 32 0 0 0 0 5 0 0 0 0 0, irD 5 0 0 0 0 0 0 0 0 0 0 0 0], .int .i64 0]) (.lst .no 10 [.agg [.int .i8 1, .int .i8 32, .int .i8 0, .int .i8 0, .int .i8 0, .int .i64 0, .int .i64 5, .int .i8 0, .bool false, .int .i64 0], .agg [.int .i8 28, .int .i8 8, .int .i8 0, .int .i8 0, .int .i8 0, .int .i64 0, .int .i64 0, .int .i8 0, .bool true, .int .i64 0]]) := by
 exact (Ret.of_eval (d := .lst (.fresh 10) 10 [.agg [.int .i8 1, .int .i8 32, .int .i8 0, .int .i8 0, .int .i8 0, .int .i64 0, .int .i64 5, .int .i8 0, .bool false, .int .i64 0], .agg [.int .i8 28, .int .i8 8, .int .i8 0, .int .i8 0, .int .i8 0, .int .i64 0, .int .i64 0, .int .i8 0, .bool true, .int .i64 0]]) mixed Tryz.func31 (by kernel_rfl) ([.go 64, tT, tT, .get ([(irD 0 1 32 0 0 0 0 5 0 0 0 0 0), (irD 5 0 0 0 0 0 0 0 0 0 0 0 0)]) 0 ((irD 0 1 32 0 0 0 0 5 0 0 0 0 0)) rfl, tT, .len ((1 : Nat)) ((2147483648 : Nat)) (by first | decide | omega | (simp; omega)), tT, tT, .get ([(irD 0 1 32 0 0 0 0 5 0 0 0 0 0), (irD 5 0 0 0 0 0 0 0 0 0 0 0 0)]) 1 ((irD 5 0 0 0 0 0 0 0 0 0 0 0 0)) rfl, tF, tF, tT, tT, tT, tT, tT] ++ [tF, tT, tT, tT, tT, tT, tF, tT, .len ((2 : Nat)) ((2147483648 : Nat)) (by first | decide | omega | (simp; omega)), tF]) (by kernel_rfl)).to (by first | (simp [wk, wkO]; done) | exact ⟨rfl, .inl rfl, trivial, .inr rfl⟩)
theorem wakes24_ok  : Ret Tryz.prog 4 ([]) (.bool true) := by
 have c0 := @lw_may_ok
 have c1 := @lw_ir_ok
 have c2 := Ret.args (as' := [.lst .tight 13 [(irD 0 1 32 0 0 0 0 5 0 0 0 0 0), (irD 5 0 0 0 0 0 0 0 0 0 0 0 0)], .int .i64 0]) (@blkw_ok) (by simp [wkL, wk, wkO])
 have c3 := @lw_len5_ok
 have c4 := @lw_len2_ok
 have c5 := @lw_b5_ok
 have c6 := @lw_b2_ok
 exact (Ret.of_eval (d := .bool true) mixed Tryz.func4 (by kernel_rfl) ([.inl, .inl, tT, tT, tT, tF, tF, .go 64, tF, .go 64, tT, tT, .get ([.lst .tight 13 [(irD 0 1 32 0 0 0 0 5 0 0 0 0 0), (irD 5 0 0 0 0 0 0 0 0 0 0 0 0)]]) 0 (.lst .tight 13 [(irD 0 1 32 0 0 0 0 5 0 0 0 0 0), (irD 5 0 0 0 0 0 0 0 0 0 0 0 0)]) rfl, tT, .get ([.lst .tight 13 [(irD 0 1 32 0 0 0 0 5 0 0 0 0 0), (irD 5 0 0 0 0 0 0 0 0 0 0 0 0)]]) 0 (.lst .tight 13 [(irD 0 1 32 0 0 0 0 5 0 0 0 0 0), (irD 5 0 0 0 0 0 0 0 0 0 0 0 0)]) rfl, .go 64] ++ [tT, tT, .get ([(irD 0 1 32 0 0 0 0 5 0 0 0 0 0), (irD 5 0 0 0 0 0 0 0 0 0 0 0 0)]) 0 ((irD 0 1 32 0 0 0 0 5 0 0 0 0 0)) rfl, .inl, tT, .flat _ _ flat_Ir, tT, tT, tT, .ret _ _ _ c0, tT, tT, tT, tT, .inl, tT] ++ [tT, tT, tF, tT, tT, tF, tT, tT, .get ([(irD 0 1 32 0 0 0 0 5 0 0 0 0 0), (irD 5 0 0 0 0 0 0 0 0 0 0 0 0)]) 1 ((irD 5 0 0 0 0 0 0 0 0 0 0 0 0)) rfl, .inl, tF, tF, tT, .ret _ _ _ c1, tT, tT] ++ [tT, tT, tT, tF, tF, .len ((1 : Nat)) ((2147483648 : Nat)) (by first | decide | omega | (simp; omega)), tT, .get ([.lst .tight 13 [(irD 0 1 32 0 0 0 0 5 0 0 0 0 0), (irD 5 0 0 0 0 0 0 0 0 0 0 0 0)]]) 0 (.lst .tight 13 [(irD 0 1 32 0 0 0 0 5 0 0 0 0 0), (irD 5 0 0 0 0 0 0 0 0 0 0 0 0)]) rfl, .ret _ _ _ c2, .inl, .go 64, tT, tT, .get ([.lst .tight 0 [], .lst .no 10 [.agg [.int .i8 1, .int .i8 32, .int .i8 0, .int .i8 0, .int .i8 0, .int .i64 0, .int .i64 5, .int .i8 0, .bool false, .int .i64 0], .agg [.int .i8 28, .int .i8 8, .int .i8 0, .int .i8 0, .int .i8 0, .int .i64 0, .int .i64 0, .int .i8 0, .bool true, .int .i64 0]]]) 0 (.lst .tight 0 []) rfl, .go 1, .len ((0 : Nat)) ((2147483648 : Nat)) (by first | decide | omega | (simp; omega))] ++ [tT, tT, .get ([.lst .tight 0 [], .lst .no 10 [.agg [.int .i8 1, .int .i8 32, .int .i8 0, .int .i8 0, .int .i8 0, .int .i64 0, .int .i64 5, .int .i8 0, .bool false, .int .i64 0], .agg [.int .i8 28, .int .i8 8, .int .i8 0, .int .i8 0, .int .i8 0, .int .i64 0, .int .i64 0, .int .i8 0, .bool true, .int .i64 0]]]) 1 (.lst .no 10 [.agg [.int .i8 1, .int .i8 32, .int .i8 0, .int .i8 0, .int .i8 0, .int .i64 0, .int .i64 5, .int .i8 0, .bool false, .int .i64 0], .agg [.int .i8 28, .int .i8 8, .int .i8 0, .int .i8 0, .int .i8 0, .int .i64 0, .int .i64 0, .int .i8 0, .bool true, .int .i64 0]]) rfl, .go 0, .len ((2 : Nat)) ((2147483648 : Nat)) (by first | decide | omega | (simp; omega)), tF, tF, tF, tF, .inl, tT, .go 64, .inl, .go 64, tT, tT] ++ [.get ([.int .i64 0, .int .i64 0, .int .i64 0]) 0 (.int .i64 0) rfl, tT, .getA ([.int .i8 1, .int .i8 32, .int .i8 0, .int .i8 0, .int .i8 0, .int .i64 0, .int .i64 5, .int .i8 0, .bool false, .int .i64 0, .int .i8 28, .int .i8 8, .int .i8 0, .int .i8 0, .int .i8 0, .int .i64 0, .int .i64 0, .int .i8 0, .bool true, .int .i64 0]) 0 8 ([.int .i8 1, .int .i8 32, .int .i8 0, .int .i8 0, .int .i8 0, .int .i64 0, .int .i64 5, .int .i8 0]) ⟨rfl, by first | decide | simp⟩, .ret _ _ _ c3, tT, .putA ([.int .i64 0, .int .i64 0, .int .i64 0]) 1 ([.int .i64 5]) ([.int .i64 0, .int .i64 5, .int .i64 0]) ⟨rfl, by first | decide | simp⟩, tT, tT, .get ([.int .i64 0, .int .i64 5, .int .i64 0]) 1 (.int .i64 5) rfl, tT, .getA ([.int .i8 1, .int .i8 32, .int .i8 0, .int .i8 0, .int .i8 0, .int .i64 0, .int .i64 5, .int .i8 0, .bool false, .int .i64 0, .int .i8 28, .int .i8 8, .int .i8 0, .int .i8 0, .int .i8 0, .int .i64 0, .int .i64 0, .int .i8 0, .bool true, .int .i64 0]) 10 8 ([.int .i8 28, .int .i8 8, .int .i8 0, .int .i8 0, .int .i8 0, .int .i64 0, .int .i64 0, .int .i8 0]) ⟨rfl, by first | decide | simp⟩, .ret _ _ _ c4, tT, .putA ([.int .i64 0, .int .i64 5, .int .i64 0]) 2 ([.int .i64 7]) ([.int .i64 0, .int .i64 5, .int .i64 7]) ⟨rfl, by first | decide | simp⟩, tF, .go 64] ++ [tT, tT, .get ([.int .i8 1, .int .i8 32, .int .i8 0, .int .i8 0, .int .i8 0, .int .i64 0, .int .i64 5, .int .i8 0, .bool false, .int .i64 0, .int .i8 28, .int .i8 8, .int .i8 0, .int .i8 0, .int .i8 0, .int .i64 0, .int .i64 0, .int .i8 0, .bool true, .int .i64 0]) 8 (.bool false) rfl, tT, tT, tT, .get ([.int .i8 1, .int .i8 32, .int .i8 0, .int .i8 0, .int .i8 0, .int .i64 0, .int .i64 5, .int .i8 0, .bool false, .int .i64 0, .int .i8 28, .int .i8 8, .int .i8 0, .int .i8 0, .int .i8 0, .int .i64 0, .int .i64 0, .int .i8 0, .bool true, .int .i64 0]) 18 (.bool true) rfl, tF, .putA ([.int .i8 1, .int .i8 32, .int .i8 0, .int .i8 0, .int .i8 0, .int .i64 0, .int .i64 5, .int .i8 0, .bool false, .int .i64 0, .int .i8 28, .int .i8 8, .int .i8 0, .int .i8 0, .int .i8 0, .int .i64 0, .int .i64 0, .int .i8 0, .bool true, .int .i64 0]) 16 ([.int .i64 0]) ([.int .i8 1, .int .i8 32, .int .i8 0, .int .i8 0, .int .i8 0, .int .i64 0, .int .i64 5, .int .i8 0, .bool false, .int .i64 0, .int .i8 28, .int .i8 8, .int .i8 0, .int .i8 0, .int .i8 0, .int .i64 0, .int .i64 0, .int .i8 0, .bool true, .int .i64 0]) ⟨rfl, by first | decide | simp⟩, .get ([.int .i8 1, .int .i8 32, .int .i8 0, .int .i8 0, .int .i8 0, .int .i64 0, .int .i64 5, .int .i8 0, .bool false, .int .i64 0, .int .i8 28, .int .i8 8, .int .i8 0, .int .i8 0, .int .i8 0, .int .i64 0, .int .i64 0, .int .i8 0, .bool true, .int .i64 0]) 19 (.int .i64 0) rfl, tT, .get ([.int .i64 0]) 0 (.int .i64 0) rfl, tT, .get ([.int .i64 0, .int .i64 5, .int .i64 7]) 0 (.int .i64 0) rfl, tT, .get ([.int .i64 0, .int .i64 5, .int .i64 7]) 2 (.int .i64 7) rfl] ++ [.get ([.int .i8 1, .int .i8 32, .int .i8 0, .int .i8 0, .int .i8 0, .int .i64 0, .int .i64 5, .int .i8 0, .bool false, .int .i64 0, .int .i8 28, .int .i8 8, .int .i8 0, .int .i8 0, .int .i8 0, .int .i64 0, .int .i64 0, .int .i8 0, .bool true, .int .i64 0]) 11 (.int .i8 8) rfl, tT, tT, tT, tT, tT, tT, tF, tT, tF, tF, tT, .go 64, tT, tT, .get ([.int .i8 1, .int .i8 32, .int .i8 0, .int .i8 0, .int .i8 0, .int .i64 0, .int .i64 5, .int .i8 0, .bool false, .int .i64 0, .int .i8 28, .int .i8 8, .int .i8 0, .int .i8 0, .int .i8 0, .int .i64 0, .int .i64 0, .int .i8 0, .bool true, .int .i64 0]) 8 (.bool false) rfl] ++ [tF, tT, tT, .get ([.int .i8 1, .int .i8 32, .int .i8 0, .int .i8 0, .int .i8 0, .int .i64 0, .int .i64 5, .int .i8 0, .bool false, .int .i64 0, .int .i8 28, .int .i8 8, .int .i8 0, .int .i8 0, .int .i8 0, .int .i64 0, .int .i64 0, .int .i8 0, .bool true, .int .i64 0]) 18 (.bool true) rfl, tT, .get ([.int .i8 1, .int .i8 32, .int .i8 0, .int .i8 0, .int .i8 0, .int .i64 0, .int .i64 5, .int .i8 0, .bool false, .int .i64 0, .int .i8 28, .int .i8 8, .int .i8 0, .int .i8 0, .int .i8 0, .int .i64 0, .int .i64 0, .int .i8 0, .bool true, .int .i64 0]) 19 (.int .i64 0) rfl, tT, .get ([.int .i64 0]) 0 (.int .i64 0) rfl, tT, .get ([.int .i64 0, .int .i64 5, .int .i64 7]) 0 (.int .i64 0) rfl, tT, .get ([.int .i64 0, .int .i64 5, .int .i64 7]) 2 (.int .i64 7) rfl, .putA ([.int .i8 1, .int .i8 32, .int .i8 0, .int .i8 0, .int .i8 0, .int .i64 0, .int .i64 5, .int .i8 0, .bool false, .int .i64 0, .int .i8 28, .int .i8 8, .int .i8 0, .int .i8 0, .int .i8 0, .int .i64 0, .int .i64 0, .int .i8 0, .bool true, .int .i64 0]) 16 ([.int .i64 (-7 : Int)]) ([.int .i8 1, .int .i8 32, .int .i8 0, .int .i8 0, .int .i8 0, .int .i64 0, .int .i64 5, .int .i8 0, .bool false, .int .i64 0, .int .i8 28, .int .i8 8, .int .i8 0, .int .i8 0, .int .i8 0, .int .i64 0, .int .i64 (-7 : Int), .int .i8 0, .bool true, .int .i64 0]) ⟨rfl, by first | decide | simp⟩, tF, tT, .get ([.int .i64 0, .int .i64 5, .int .i64 7]) 2 (.int .i64 7) rfl] ++ [tF, .go 64, tT, tT, .getA ([.int .i8 1, .int .i8 32, .int .i8 0, .int .i8 0, .int .i8 0, .int .i64 0, .int .i64 5, .int .i8 0, .bool false, .int .i64 0, .int .i8 28, .int .i8 8, .int .i8 0, .int .i8 0, .int .i8 0, .int .i64 0, .int .i64 (-7 : Int), .int .i8 0, .bool true, .int .i64 0]) 0 10 ([.int .i8 1, .int .i8 32, .int .i8 0, .int .i8 0, .int .i8 0, .int .i64 0, .int .i64 5, .int .i8 0, .bool false, .int .i64 0]) ⟨rfl, by first | decide | simp⟩, .ret _ _ _ c5, .inl, .go 64, tT, tT, .get ([.lst .tight 0 [], .lst .no 1 [.int .u8 184, .int .u8 5, .int .u8 0, .int .u8 0, .int .u8 0]]) 0 (.lst .tight 0 []) rfl, .len ((0 : Nat)) ((2147483648 : Nat)) (by first | decide | omega | (simp; omega)), tT, tT, .get ([.lst .tight 0 [], .lst .no 1 [.int .u8 184, .int .u8 5, .int .u8 0, .int .u8 0, .int .u8 0]]) 1 (.lst .no 1 [.int .u8 184, .int .u8 5, .int .u8 0, .int .u8 0, .int .u8 0]) rfl, .len ((5 : Nat)) ((2147483648 : Nat)) (by first | decide | omega | (simp; omega))] ++ [tF, tT, tT, .getA ([.int .i8 1, .int .i8 32, .int .i8 0, .int .i8 0, .int .i8 0, .int .i64 0, .int .i64 5, .int .i8 0, .bool false, .int .i64 0, .int .i8 28, .int .i8 8, .int .i8 0, .int .i8 0, .int .i8 0, .int .i64 0, .int .i64 (-7 : Int), .int .i8 0, .bool true, .int .i64 0]) 10 10 ([.int .i8 28, .int .i8 8, .int .i8 0, .int .i8 0, .int .i8 0, .int .i64 0, .int .i64 (-7 : Int), .int .i8 0, .bool true, .int .i64 0]) ⟨rfl, by first | decide | simp⟩, .ret _ _ _ c6, .inl, .go 64, tT, tT, .get ([.lst .no 1 [.int .u8 184, .int .u8 5, .int .u8 0, .int .u8 0, .int .u8 0], .lst .no 1 [.int .u8 235, .int .u8 249]]) 0 (.lst .no 1 [.int .u8 184, .int .u8 5, .int .u8 0, .int .u8 0, .int .u8 0]) rfl, .len ((5 : Nat)) ((2147483648 : Nat)) (by first | decide | omega | (simp; omega)), tT, tT, .get ([.lst .no 1 [.int .u8 184, .int .u8 5, .int .u8 0, .int .u8 0, .int .u8 0], .lst .no 1 [.int .u8 235, .int .u8 249]]) 1 (.lst .no 1 [.int .u8 235, .int .u8 249]) rfl, .len ((7 : Nat)) ((2147483648 : Nat)) (by first | decide | omega | (simp; omega)), tF] ++ [tF, .go 64, tT, tT, .get ([.int .i64 0]) 0 (.int .i64 0) rfl, tT, .get ([.int .i64 0, .int .i64 5, .int .i64 7]) 0 (.int .i64 0) rfl, .len ((1 : Nat)) ((2147483648 : Nat)) (by first | decide | omega | (simp; omega)), tF, tT, tT, tT, tT, tT, tT, tT] ++ [tT, tT, tT, tT, .get ([.int .i64 0]) 0 (.int .i64 0) rfl, tT, tT, tT]) (by kernel_rfl)).to (by simp [wk])
end Go.Proofs.YtcngafhpodeenaaGreat

namespace Go.Proofs.YtcngafhpodeenaaGreat
open Go Go.Ev
set_option maxRecDepth 100000
set_option maxHeartbeats 8000000
theorem lay_long_ok (b : List Int) (hn : 4000 < ((bD b).length : Int))  : Ret Tryz.prog 3 ([.lst .no 1 (bD b)]) (.bool true) := by
 have c0 := @wakes24_ok
 exact (Ret.of_eval (d := .bool true) mixed Tryz.func3 (by kernel_rfl) [tC (ltL 4000 (decide_eq_false (by omega : ¬ (↑(List.length (bD b)) : Int) < 4001))), .ret _ _ _ c0] (by kernel_rfl)).to (by simp [wk])
theorem lay_no_ok (b : List Int) (hn : ((bD b).length : Int) ≤ 4000) (h1 : Ret Tryz.prog 5 [.lst .no 1 (bD b)] (.tup [.lst .tight 0 [], .bool false])) (h2 : Ret Tryz.prog 6 [.lst .no 1 (bD b)] (.tup [.lst .tight 0 [], .bool false])) (h3 : Ret Tryz.prog 7 [.lst .tight 0 [], .lst .tight 0 []] (.bool true))  : Ret Tryz.prog 3 ([.lst .no 1 (bD b)]) (.bool true) := by
 have c0 := @wakes24_ok
 exact (Ret.of_eval (d := .bool true) mixed Tryz.func3 (by kernel_rfl) [tC (ltL 4000 (decide_eq_true (Int.lt_add_one_of_le hn))), .ret _ _ _ h1, .ret _ _ _ h2, .ret _ _ _ h3, tT, tT, tT, tT, tT, .ret _ _ _ c0, tT] (by kernel_rfl)).to (by simp [wk])
theorem lay_yes_ok (b : List Int) (l : List XS) (hn : ((bD b).length : Int) ≤ 4000) (h1 : Ret Tryz.prog 5 [.lst .no 1 (bD b)] (.tup [.lst .no 8 (xsL l), .bool true])) (h2 : Ret Tryz.prog 6 [.lst .no 1 (bD b)] (.tup [.lst .no 8 (xsL l), .bool true])) (h3 : Ret Tryz.prog 7 [.lst .no 8 (xsL l), .lst .no 8 (xsL l)] (.bool true))  : Ret Tryz.prog 3 ([.lst .no 1 (bD b)]) (.bool true) := by
 have c0 := @wakes24_ok
 exact (Ret.of_eval (d := .bool true) mixed Tryz.func3 (by kernel_rfl) [tC (ltL 4000 (decide_eq_true (Int.lt_add_one_of_le hn))), .ret _ _ _ h1, .ret _ _ _ h2, .ret _ _ _ h3, tT, tT, tT, tT, tT, .ret _ _ _ c0, tT] (by kernel_rfl)).to (by simp [wk])
end Go.Proofs.YtcngafhpodeenaaGreat

namespace Go.Proofs.YtcngafhpodeenaaGreat
open Go Go.Ev
theorem lay_list (b : List Int) (hb : isB b) : Ret Tryz.prog 3 [.lst .no 1 (bD b)] (.bool true) := by
 by_cases hn : ((bD b).length : Int) ≤ 4000
 ·have hn' : b.length ≤ 4000 := by rw [len_bD] at hn; omega
  have h1 := ll_any b hb hn'
  have h2 := rl_any b hb hn'
  cases h : listM (b.length + 1) b with
  | none =>
   rw [h] at h1 h2
   exact lay_no_ok b hn h1 h2 xs_nil_ok
  | some l =>
   rw [h] at h1 h2
   exact lay_yes_ok b l hn h1 h2 (xs_any l (Nat.le_trans (listM_len _ h) hn'))
 ·exact lay_long_ok b (by omega)
end Go.Proofs.YtcngafhpodeenaaGreat
